/- The clock cache's Clear. -/
import Derived.Test.YtolgkepkdidjcaaDoorClockB
namespace Go.Proofs.YtolgkepkdidjcaaDoor
open Go.RowKit

theorem make_places (n : Nat) (hn : n ≤ 50) : ∀ W : World, (Instr.makeSlice 45 (.int .i64 (n : Int)) (.int .i64 (n : Int))).run Tryd.prog W = .ok (.slice (some ⟨W.heap.size, 0, none⟩) n n) (W.alloc (.cells (cellsOf (List.replicate n Plc.zero)).toArray 51)) := by
  obtain ⟨i0, hi, hz0, hz1, hz2⟩ := info_parts info_place
  intro W
  have := run_make_rowN (P := Tryd.prog) 45 51 i0 _ Tryd.underlying45 hi hz0 .i64 .i64 n n (Nat.le_refl _) (by rw [hz2]; omega) (by omega) W
  rw [hz1] at this
  rw [this, ← made_cells]; rfl

set_option maxHeartbeats 400000 in
theorem clear_any (bc bp : Nat) (ps : List Plc) (hand : Nat) (w : World) (hc : Cach w bc bp ps hand) (hn : ps.length ≤ 50) :
    Calls Tryd.prog 7 #[.pointer (some ⟨bc, 0, none⟩)] w fun e w' => e = .returned (.tuple #[]) ∧ ∃ bp', w.heap.size ≤ bp' ∧ Cach w' bc bp' (List.replicate ps.length Plc.zero) 0 ∧ Fr w w' (fun k => k = bc) := by
  have hmk := make_places ps.length hn
  obtain ⟨c0, c1⟩ := hc.head
  have f1 := hc.frozen.1
  have hlt := hc.lt.1
  have HC := Lib.hid hc
  clear hc
  go_enter Tryd.func7, Tryd.ntmps7
  go_wp2_with fail
  go_end0
  refine ⟨rfl, w.heap.size, Nat.le_refl _, ⟨?_, ?_⟩, (((Fr.refl w (fun k => k = bc)).setCell (p := ⟨bc, 0, none⟩) (.inl rfl) _).setCell (p := ⟨bc, 1, none⟩) (.inl rfl) _).alloc _⟩
  · have h := ((HC.out.1.set_ 0 (.slice (some ⟨w.heap.size, 0, none⟩) ps.length ps.length)).set_ 1 (.int .i64 0)).alloc (.cells (cellsOf (List.replicate ps.length Plc.zero)).toArray 51)
    rw [List.length_replicate]
    exact h
  · have h := Blk.new ((w.setCell ⟨bc, 0, none⟩ (.slice (some ⟨w.heap.size, 0, none⟩) ps.length ps.length)).setCell ⟨bc, 1, none⟩ (.int .i64 0)) 51 (cellsOf (List.replicate ps.length Plc.zero)).toArray
    have e : ((w.setCell ⟨bc, 0, none⟩ (.slice (some ⟨w.heap.size, 0, none⟩) ps.length ps.length)).setCell ⟨bc, 1, none⟩ (.int .i64 0)).heap.size = w.heap.size := by simp [World.setCell]
    rw [e] at h
    exact h
end Go.Proofs.YtolgkepkdidjcaaDoor
