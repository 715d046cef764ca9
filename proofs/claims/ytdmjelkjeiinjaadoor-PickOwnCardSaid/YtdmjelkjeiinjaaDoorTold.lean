/- plain.Told, linguistersame.Error and Told, of an error that is nil or an Errno. -/
import Derived.Test.YtdmjelkjeiinjaaDoorAs
set_option linter.unusedSimpArgs false
set_option linter.unusedVariables false
namespace Go.Proofs.YtdmjelkjeiinjaaDoor
open Go.RowKit

set_option maxHeartbeats 400000 in
theorem told_nil (w : World) : Calls Tryd.prog 37 #[.nilIface] w fun e w' => e = .returned (.int .i64 0) ∧ w = w' := by
  go_enter Tryd.func37, Tryd.ntmps37
  go_wp2_with fail
  go_ret
  exact ⟨rfl, rfl⟩
set_option maxHeartbeats 400000 in
theorem told_err (n : Int) (w : World) (hg : ErrVar w) : Calls Tryd.prog 37 #[.iface 71 (.int .i64 n)] w fun e w' => e = .returned (.int .i64 n) ∧ Below w.heap.size w w' := by
  have hA : Hid (Calls Tryd.prog 60 #[.iface 71 (.int .i64 n), .iface 92 (.pointer (some ⟨w.heap.size, 0, none⟩))] (w.alloc (.cells #[.int .i64 0] 71)) fun ev w' => ev = .returned (.bool true) ∧ w'.cell? ⟨w.heap.size, 0, none⟩ = some (.int .i64 n) ∧ Below w.heap.size w w') := by
    refine (as_hit n ⟨w.heap.size, 0, none⟩ (.int .i64 0) _ (hg.alloc _) (by simp) (by simp) (by simp)).mono ?_
    rintro e w' ⟨h1, h2⟩
    refine ⟨h1, ?_, ?_⟩
    · rw [h2]
      refine World.cell?_setCell_same _ _ _ (u := .int .i64 0) ?_
      rw [World.cell?_alloc_lt _ _ _ (by simp; omega), World.cell?_alloc_lt _ _ _ (by simp; omega), World.cell?_alloc_lt _ _ _ (by simp; omega), World.cell?_alloc_lt _ _ _ (by simp)]
      simp
    · rw [h2]
      refine Below.setCell ?_ (by simp) _
      repeat' (first | exact Below.refl _ _ | (refine Below.alloc ?_ (by simp; try omega) _))
  go_enter Tryd.func37, Tryd.ntmps37
  go_wp2_with fail
  refine hA.out.mono ?_
  rintro e w1 ⟨rfl, hc, hb⟩
  go_wp2_with fail
  go_ret
  exact ⟨rfl, hb⟩
/-- An error as a value: nil is OK. -/
def errV (n : Int) : Value := if n = 0 then .nilIface else .iface 71 (.int .i64 n)
theorem errV_zero : errV 0 = .nilIface := rfl
theorem errV_ne {n : Int} (h : n ≠ 0) : errV n = .iface 71 (.int .i64 n) := if_neg h
theorem told_any (n : Int) (w : World) (hg : ErrVar w) : Calls Tryd.prog 37 #[errV n] w fun e w' => e = .returned (.int .i64 n) ∧ Below w.heap.size w w' := by
  by_cases h : n = 0
  · subst h
    exact (told_nil w).mono fun e w' ⟨h1, h2⟩ => ⟨h1, h2 ▸ Below.refl _ _⟩
  · rw [errV_ne h]
    exact told_err n w hg
set_option maxHeartbeats 400000 in
theorem stold_any (n m : Int) (w : World) (hg : ErrVar w) : Calls Tryd.prog 14 #[errV n, errV m] w fun e w' => e = .returned (.bool (decide (n = m))) ∧ Below w.heap.size w w' := by
  have H := Lib.hid (told_any n w hg)
  have H2 : Hid (∀ w', Below w.heap.size w w' → Calls Tryd.prog 37 #[errV m] w' fun e w'' => e = .returned (.int .i64 m) ∧ Below w'.heap.size w' w'') := fun w' hb => told_any m w' (hg.below hb hg.lt)
  generalize errV n = v at H
  generalize errV m = u at H2
  go_enter Tryd.func14, Tryd.ntmps14
  go_wp2_with fail
  refine H.out.mono ?_
  rintro e w1 ⟨rfl, hb⟩
  go_wp2_with fail
  refine (H2.out w1 hb).mono ?_
  rintro e w2 ⟨rfl, hb2⟩
  go_wp2_with fail
  go_ret
  exact ⟨ret_bool (by rw [Bool.eq_iff_iff]; simp), hb.trans (hb2.mono hb.size)⟩
end Go.Proofs.YtdmjelkjeiinjaaDoor
