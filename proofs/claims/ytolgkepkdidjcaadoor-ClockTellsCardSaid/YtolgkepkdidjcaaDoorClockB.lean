/- The clock cache's methods New, Get, Keys, Put. -/
import Derived.Test.YtolgkepkdidjcaaDoorClock
import Derived.BigRegion
import Derived.RegionTactic
namespace Go.Proofs.YtolgkepkdidjcaaDoor
open Go.RowKit

theorem info_place : (Tryd.prog.info? 51).map (fun i => (i.zero, i.size, i.bytes)) = some (some (.agg #[.string ByteArray.empty, .string ByteArray.empty, .bool false, .bool false]), 4, 40) := by kernel_rfl
theorem info_string : (Tryd.prog.info? 9).map (fun i => (i.zero, i.size, i.bytes)) = some (some (.string ByteArray.empty), 1, 16) := by kernel_rfl

theorem made_cells (n : Nat) : madeCells #[.string ByteArray.empty, .string ByteArray.empty, .bool false, .bool false] (n * 4) = (cellsOf (List.replicate n Plc.zero)).toArray := by
  apply Array.ext'
  apply List.ext_getElem?
  intro i
  rcases Nat.lt_or_ge i (n * 4) with h | h
  · have e : i = i / 4 * 4 + i % 4 := by omega
    have e1 := cells_at (List.replicate n Plc.zero) (i / 4) (i % 4) (by simp; omega) (by omega)
    rw [← e] at e1
    rw [List.toList_toArray, e1, List.getElem_replicate, Array.getElem?_toList]
    have : i % 4 = 0 ∨ i % 4 = 1 ∨ i % 4 = 2 ∨ i % 4 = 3 := by omega
    rcases this with h0 | h0 | h0 | h0 <;> simp [madeCells, h, h0, Plc.cells, Plc.zero]
  · rw [List.getElem?_eq_none (by rw [Array.length_toList, size_madeCells]; exact h), List.getElem?_eq_none (by rw [List.toList_toArray, cellsOf_length, List.length_replicate]; exact h)]

theorem run_make_rowN {P : Program} (t e : TypeId) (i : TypeInfo) (z : Value) (ht : P.underlying t = some (.slice e)) (hi : P.info? e = some i) (hz : i.zero = some z)
    (kl kc : IntKind) (n c : Nat) (hnc : n ≤ c) (hbytes : i.bytes * c ≤ 281474976710656) (h63 : c ≤ 9223372036854775807) (w : World) :
    (Instr.makeSlice t (.int kl (n : Int)) (.int kc (c : Int))).run P w = .ok (.slice (some ⟨w.heap.size, 0, none⟩) n c) (w.alloc (.cells (madeCells z.cells (c * i.size)) e)) := by
  have hb : (i.bytes : Int) * (c : Int) ≤ 281474976710656 := by
    have h : ((i.bytes * c : Nat) : Int) ≤ 281474976710656 := by omega
    rwa [Int.natCast_mul] at h
  have hr := run_make (P := P) w t e i z ht hi hz kl kc n c (by omega) (by omega) hb (by omega)
  simp only [Int.toNat_natCast] at hr
  exact hr

set_option maxHeartbeats 400000 in
theorem new_yes (n : Nat) (w : World) (h1 : 1 ≤ n) (h2 : n ≤ 50) :
    Calls Tryd.prog 5 #[.int .i64 n] w fun e w' => ∃ bc bp, e = .returned (.tuple #[.pointer (some ⟨bc, 0, none⟩), .nilIface]) ∧ w.heap.size ≤ bc ∧ w.heap.size ≤ bp ∧ Cach w' bc bp (List.replicate n Plc.zero) 0 ∧ Below w.heap.size w w' := by
  obtain ⟨i0, hi, hz0, hz1, hz2⟩ := info_parts info_place
  have hmk0 := fun W => run_make_rowN (P := Tryd.prog) 45 51 i0 _ Tryd.underlying45 hi hz0 .i64 .i64 n n (Nat.le_refl _) (by rw [hz2]; omega) (by omega) W
  have hmk : ∀ W : World, (Instr.makeSlice 45 (.int .i64 (n : Int)) (.int .i64 (n : Int))).run Tryd.prog W = .ok (.slice (some ⟨W.heap.size, 0, none⟩) n n) (W.alloc (.cells (cellsOf (List.replicate n Plc.zero)).toArray 51)) := fun W => by
    have := hmk0 W
    rw [hz1] at this
    rw [this, ← made_cells]; rfl
  clear hmk0 hi hz0 hz1 hz2
  go_enter Tryd.func5, Tryd.ntmps5
  go_wp2
  go_ret2
  refine ⟨w.heap.size + 1, w.heap.size, by simp, by omega, by omega, ⟨?_, ?_⟩, ((Below.refl _ _).alloc (Nat.le_refl _) _).alloc (by simp) _⟩
  · have := Blk.new (w.alloc (.cells (cellsOf (List.replicate n Plc.zero)).toArray 51)) 47 #[.slice (some ⟨w.heap.size, 0, none⟩) n n, .int .i64 0]
    simpa using this
  · exact (Blk.new w _ _).alloc _
set_option maxHeartbeats 400000 in
theorem new_no (n : Int) (w : World) (h : n < 1 ∨ 50 < n) :
    Calls Tryd.prog 5 #[.int .i64 n] w fun e w' => e = .returned (.tuple #[.pointer none, .iface 29 (.int .i64 1)]) ∧ w' = w := by
  rcases h with h | h
  · go_enter Tryd.func5, Tryd.ntmps5
    go_wp2
    go_ret2
    exact ⟨rfl, rfl⟩
  · by_cases h0 : n < 1
    · omega
    · go_enter Tryd.func5, Tryd.ntmps5
      go_wp2
      go_ret2
      exact ⟨rfl, rfl⟩

set_option maxHeartbeats 400000 in
theorem get_no (bc bp : Nat) (ps : List Plc) (hand : Nat) (k : ByteArray) (w : World) (hc : Cach w bc bp ps hand) (hn : ps.length ≤ 50) (hf : ps.findIdx? (hit k) = none) :
    Calls Tryd.prog 11 #[.pointer (some ⟨bc, 0, none⟩), .string k] w fun e w' => e = .returned (.tuple #[.string ByteArray.empty, .bool false]) ∧ Below w.heap.size w w' := by
  have h := at_any bc bp ps hand k w hc hn
  rw [hf] at h
  have H := Lib.hid h
  clear h hf
  go_enter Tryd.func11, Tryd.ntmps11
  go_wp2_with (go_at_call 16; refine H.out.mono ?_; rintro e w1 ⟨rfl, hb⟩; simp only [idx])
  go_ret2
  exact ⟨rfl, hb⟩

def PlcMark (p : Plc) (b : Bool) : Plc := { p with mark := b }
set_option maxHeartbeats 400000 in
theorem get_yes (bc bp : Nat) (ps : List Plc) (hand : Nat) (k : ByteArray) (w : World) (hc : Cach w bc bp ps hand) (hn : ps.length ≤ 50) (i : Nat) (hi : i < ps.length) (hf : ps.findIdx? (hit k) = some i) :
    Calls Tryd.prog 11 #[.pointer (some ⟨bc, 0, none⟩), .string k] w fun e w' => e = .returned (.tuple #[.string ps[i].val, .bool true]) ∧ Cach w' bc bp (ps.set i (PlcMark ps[i] true)) hand ∧ Fr w w' (CS bc bp) := by
  have h := at_any bc bp ps hand k w hc hn
  rw [hf] at h
  have H := Lib.hid h
  clear h hf
  go_enter Tryd.func11, Tryd.ntmps11
  go_wp2_with (go_at_call 16; refine H.out.mono ?_; rintro e w1 ⟨rfl, hb⟩; simp only [idx]; have hc1 := hc.below hb hc.lt.1 hc.lt.2; obtain ⟨c0, _⟩ := hc1.head; obtain ⟨c1, c2, c3, c4⟩ := hc1.row i hi; have f1 := hc1.frozen.2; have hne := hc1.ne)
  go_ret2
  refine ⟨rfl, hc1.set1 i 3 (.bool true) _ hi (by omega) rfl, (Fr.of_below hb _).setCell (.inl (.inr rfl)) _⟩
end Go.Proofs.YtolgkepkdidjcaaDoor
