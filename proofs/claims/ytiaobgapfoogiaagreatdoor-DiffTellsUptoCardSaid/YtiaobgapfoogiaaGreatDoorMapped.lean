/- The walk of package tag: lower, upper. -/
import Derived.Test.YtiaobgapfoogiaaGreatDoorTagC
import Derived.Laws.IdiomStrings
import Derived.Laws.BitsAllLaws
set_option linter.unusedSimpArgs false
set_option linter.unusedVariables false
namespace Go.Proofs.YtiaobgapfoogiaaGreatDoor
open Go.RowKit

def turned (p : UInt8 → Bool) (x : UInt8) (c : UInt8) : UInt8 := if p c then c ^^^ x else c
/-- Byte q once the first j bytes are turned. -/
def turnedAt (p : UInt8 → Bool) (x : UInt8) (s : ByteArray) (j q : Nat) : UInt8 := if h : q < s.size then (if q < j then turned p x s[q] else s[q]) else 0
structure Turned (w wr : World) (p : UInt8 → Bool) (x : UInt8) (s : ByteArray) (j : Nat) : Prop where
  below : Below w.heap.size w wr
  cell : ∀ q, q < s.size → wr.cell? ⟨w.heap.size, q, none⟩ = some (.int .u8 ((turnedAt p x s j q).toNat : Int))
  cold : ∀ q, q < s.size → wr.frozen? ⟨w.heap.size, q, none⟩ = false
theorem turnedAt_new {p : UInt8 → Bool} {x : UInt8} {s : ByteArray} {j : Nat} (h : j < s.size) : turnedAt p x s j j = s[j] := by unfold turnedAt; rw [dif_pos h, if_neg (by omega)]
theorem turnedAt_old {p : UInt8 → Bool} {x : UInt8} {s : ByteArray} {j q : Nat} (h : q ≠ j) : turnedAt p x s (j + 1) q = turnedAt p x s j q := by
  unfold turnedAt
  by_cases hq : q < s.size
  · rw [dif_pos hq, dif_pos hq]
    by_cases h1 : q < j
    · rw [if_pos h1, if_pos (by omega)]
    · rw [if_neg h1, if_neg (by omega)]
  · rw [dif_neg hq, dif_neg hq]
theorem turnedAt_now {p : UInt8 → Bool} {x : UInt8} {s : ByteArray} {j : Nat} (h : j < s.size) : turnedAt p x s (j + 1) j = turned p x s[j] := by unfold turnedAt; rw [dif_pos h, if_pos (by omega)]

theorem Turned.skip {w wr : World} {p : UInt8 → Bool} {x : UInt8} {s : ByteArray} {j : Nat} (h : Turned w wr p x s j) (hj : j < s.size) (he : turned p x s[j] = s[j]) : Turned w wr p x s (j + 1) :=
  ⟨h.below, fun q hq => by
    rw [h.cell q hq]
    by_cases e : q = j
    · subst e; rw [turnedAt_new hj, turnedAt_now hj, he]
    · rw [turnedAt_old e], h.cold⟩
theorem Turned.put {w wr : World} {p : UInt8 → Bool} {x : UInt8} {s : ByteArray} {j : Nat} (h : Turned w wr p x s j) (hj : j < s.size) {u : Value} (he : u = .int .u8 ((turned p x s[j]).toNat : Int)) : Turned w (wr.setCell ⟨w.heap.size, j, none⟩ u) p x s (j + 1) :=
  ⟨h.below.setCell (Nat.le_refl _) _, fun q hq => by
    by_cases e : q = j
    · subst e
      have hc := h.cell q hq
      rw [turnedAt_now hj, ← he]
      exact World.cell?_setCell_same _ _ _ hc
    · rw [World.cell?_setCell_other _ _ _ _ (by intro hh; injection hh with _ hh; exact e hh.symm), h.cell q hq, turnedAt_old e], fun q hq => by rw [World.frozen?_setCell]; exact h.cold q hq⟩
theorem xor_u8 (c x : UInt8) : bits .xor .u8 (c.toNat : Int) (x.toNat : Int) = ((c ^^^ x).toNat : Int) := by
  rw [u8_xor_nat _ _ c.toNat_lt x.toNat_lt, UInt8.toNat_xor]
set_option maxHeartbeats 800000 in
theorem mapped_any (f : FuncId) (p : UInt8 → Bool) (he : ∀ args w, (callFunc f args).run Tryz.prog w = .ok (.enter f args) w) (hp : Says f p) (x : UInt8) (s : ByteArray) (w : World) (hs : s.size ≤ 140737488355328) :
    Calls Tryz.prog 101 #[.string s, .func (.func f) #[] #[], .int .u8 x.toNat] w fun e w' => e = .returned (.string (mapB p x s)) ∧ Below w.heap.size w w' := by
  have HP := Lib.hid hp
  have hconv := run_bytes_of_string (P := Tryz.prog) w 9 117 5 s Tryz.underlying9 Tryz.underlying117 Tryz.underlying5
  have hC : ∀ q, q < s.size → (bytesRow s (grownCap w s.size 0 5))[q]? = some (.int .u8 ((turnedAt p x s 0 q).toNat : Int)) := fun q hq => by
    rw [bytesRow_at s _ q hq]
    unfold turnedAt
    rw [dif_pos hq, if_neg (by omega)]
    rfl
  have hCs : s.size ≤ (bytesRow s (grownCap w s.size 0 5)).size := by
    unfold bytesRow
    rw [Array.size_append]; simp
  have hG := grownCap_ge w s.size 0 5
  generalize bytesRow s (grownCap w s.size 0 5) = C at hconv hC hCs
  generalize grownCap w s.size 0 5 = G at hconv hG
  have hini : Turned w (w.drew.alloc (.cells C 5 (C.size, C.size + 1))) p x s 0 := ⟨((Below.refl _ _).drew).alloc (Nat.le_refl _) _, fun q hq => (World.cell?_alloc_mark w.drew C 5 _ q).trans (hC q hq), fun q hq => by
    rw [show w.heap.size = w.drew.heap.size from rfl, World.frozen?_alloc_mark]
    simp; omega⟩
  have HI := Lib.hid hini
  clear hC hini
  have HF : Hid (∀ wr, Turned w wr p x s s.size → (convert 117 9 (.slice (some ⟨w.heap.size, 0, none⟩) s.size G)).run Tryz.prog wr = .ok (.string (mapB p x s)) wr) := fun wr hT => by
    have h := run_convert_bytes_back (P := Tryz.prog) wr 117 9 5 ⟨w.heap.size, 0, none⟩ G ((bts s).map fun c => if p c then c ^^^ x else c) Tryz.underlying117 Tryz.underlying5 Tryz.underlying9 (fun j hj => by
      have hj' : j < s.size := by rw [List.length_map, bts_len] at hj; exact hj
      have e1 : ((⟨w.heap.size, 0, none⟩ : Addr).add j) = ⟨w.heap.size, j, none⟩ := by
        unfold Addr.add
        by_cases h0 : j = 0
        · rw [if_pos h0, h0]
        · rw [if_neg h0]; simp
      rw [e1, hT.cell j hj']
      unfold turnedAt turned
      rw [dif_pos hj', if_pos hj', List.getElem_map, bts_get s j hj'])
    rw [List.length_map, bts_len] at h
    exact h
  go_enter Tryz.func101, Tryz.ntmps101
  go_wp2_with fail
  go_loopw [8, 9, 14] (fun _ _ i wr => ∃ j : Nat, j ≤ s.size ∧ i = .int .i64 j ∧ Turned w wr p x s j) (fun _ _ i _ => s.size - (intOf i).toNat)
  case atStart => exact ⟨0, Nat.zero_le _, rfl, HI.out⟩
  case round =>
    clear HI
    obtain ⟨j, hj, rfl, hT⟩ := hrel
    by_cases hlt : j < s.size
    · have hc := hT.cell j hlt
      rw [turnedAt_new hlt] at hc
      have hf := hT.cold j hlt
      have HT := Lib.hid hT
      clear hT
      obtain ⟨c, hcc⟩ : ∃ c, c = s[j] := ⟨_, rfl⟩
      rw [← hcc] at hc
      have HX : Hid (turned p x c = if p c then c ^^^ x else c) := rfl
      have HP2 := Lib.hid (fun W => HP.out c W)
      have HCC := Lib.hid hcc
      clear hcc
      cases hpc : p c with
      | true =>
        rw [hpc] at HP2 HX
        clear hpc
        go_wp2_with (go_at_fn f; refine (HP2.out _).mono ?_; rintro e w1 ⟨rfl, rfl⟩)
        refine ⟨⟨j + 1, by omega, by go_num, HT.out.put hlt ?_⟩, by simp [intOf]; omega⟩
        rw [← HCC.out, HX.out, xor_u8]; rfl
      | false =>
        rw [hpc] at HP2 HX
        clear hpc
        go_wp2_with (go_at_fn f; refine (HP2.out _).mono ?_; rintro e w1 ⟨rfl, rfl⟩)
        refine ⟨⟨j + 1, by omega, by go_num, HT.out.skip hlt ?_⟩, by simp [intOf]; omega⟩
        rw [← HCC.out, HX.out]; rfl
    · obtain rfl : j = s.size := by omega
      have hback := HF.out _ hT
      have HT := Lib.hid hT
      clear hT HF HP
      go_wp2_with fail
      go_ret
      exact ⟨rfl, HT.out.below⟩

theorem lower_any (s : ByteArray) (w : World) (hs : s.size ≤ 140737488355328) : Calls Tryz.prog 76 #[.string s] w fun e w' => e = .returned (.string (lowerB s)) ∧ Below w.heap.size w w' := by
  have H := Lib.hid (mapped_any 102 isHigh enters_high high_any 32 s w hs)
  have e32 : ((32 : UInt8).toNat : Int) = 32 := rfl
  rw [e32] at H
  have HL : Hid (lowerB s = mapB isHigh 32 s) := rfl
  generalize mapB isHigh 32 s = o at H HL
  go_enter Tryz.func76, Tryz.ntmps76
  go_wp2_with fail
  refine H.out.mono ?_
  rintro e w1 ⟨rfl, hb⟩
  have HB := Lib.hid hb
  clear hb
  go_wp2_with fail
  go_ret
  exact ⟨by rw [HL.out]; rfl, HB.out⟩
theorem upper_any (s : ByteArray) (w : World) (hs : s.size ≤ 140737488355328) : Calls Tryz.prog 79 #[.string s] w fun e w' => e = .returned (.string (upperB s)) ∧ Below w.heap.size w w' := by
  have H := Lib.hid (mapped_any 77 isLow enters_low low_any 32 s w hs)
  have e32 : ((32 : UInt8).toNat : Int) = 32 := rfl
  rw [e32] at H
  have HL : Hid (upperB s = mapB isLow 32 s) := rfl
  generalize mapB isLow 32 s = o at H HL
  go_enter Tryz.func79, Tryz.ntmps79
  go_wp2_with fail
  refine H.out.mono ?_
  rintro e w1 ⟨rfl, hb⟩
  have HB := Lib.hid hb
  clear hb
  go_wp2_with fail
  go_ret
  exact ⟨by rw [HL.out]; rfl, HB.out⟩
end Go.Proofs.YtiaobgapfoogiaaGreatDoor
