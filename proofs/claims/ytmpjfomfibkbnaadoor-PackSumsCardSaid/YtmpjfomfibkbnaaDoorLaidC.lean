/- A world that meets the list of a card with the two tables of unicode/utf8 alone; an argument of type uint32. -/
import Derived.Test.YtmpjfomfibkbnaaDoorLaidB
set_option linter.unusedSimpArgs false
set_option linter.unusedVariables false
namespace Go.Proofs.YtmpjfomfibkbnaaDoor
open Go.RowKit Go.ChangeShapes Go.WideShapes

noncomputable def laidWorldC (args : Array Value) (os : Os) : World :=
  { World.holding Tryd.prog os ⟨#[], args, []⟩ with heap := ((World.holding Tryd.prog os ⟨#[], args, []⟩).heap.modify 2 (putCells (pairCells Rows.laid_unicode_utf8_acceptRanges).toArray)).modify 1 (putCells (partCells Rows.laid_unicode_utf8_first).toArray) }
theorem laidWorldC_data (os : Os) (args : Array Value) : laidMet Tryd.prog [("unicode/utf8.acceptRanges", Rows.laid_unicode_utf8_acceptRanges), ("unicode/utf8.first", Rows.laid_unicode_utf8_first)] ((laidWorldC args os).forCall (fun _ _ => 0) ⟨#[], args, []⟩).memory :=
  laidMet_of_run' 8 (by kernel_rfl) (by kernel_rfl)
theorem laidWorldC_met1 (os : Os) (args : Array Value) : laidMetH Tryd.prog [("unicode/utf8.acceptRanges", Rows.laid_unicode_utf8_acceptRanges), ("unicode/utf8.first", Rows.laid_unicode_utf8_first)] ((laidWorldC args os).forCall (fun _ _ => 0) ⟨#[], args, []⟩).memory :=
  laidMetH_of_parts (laidWorldC_data os args) (by kernel_rfl)
theorem arg_u32 {H : Type} {enc : TypeId × Value → H} {P : Program} {W : World} {base : Nat} {t : TypeId} {v : Value} {d : DataW H} {p : List MemPlace} (ht : P.underlying t = some (.int .u32)) (hv : Value.okWide P W .any base t v) (h : DataW.Trod enc P W 0 (fun _ => true) true t v d p) :
    ∃ n : Nat, v = .int .u32 n ∧ n < 4294967296 := by
  obtain ⟨n, rfl, rfl, rfl, w0⟩ := open_int ht hv h
  have hx : 0 ≤ n ∧ n ≤ 4294967295 := by simpa [Lit.wf, IntKind.min, IntKind.max, IntKind.signed, IntKind.bits] using w0
  obtain ⟨m, rfl⟩ := Int.eq_ofNat_of_zero_le hx.1
  exact ⟨m, rfl, by omega⟩
end Go.Proofs.YtmpjfomfibkbnaaDoor
