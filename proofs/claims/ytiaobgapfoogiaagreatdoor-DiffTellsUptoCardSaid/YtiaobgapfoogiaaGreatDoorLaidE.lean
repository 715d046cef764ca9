/- What the cards' lists give, and a world that meets them. -/
import Derived.Test.YtiaobgapfoogiaaGreatDoorParse
import Derived.Test.YtiaobgapfoogiaaGreatDoorOpenB
import Derived.Test.YtiaobgapfoogiaaGreatDoorRows
import Derived.Deep.DeepHandedRow
import Derived.LaidLaws
import Derived.LaidHandle
import Derived.Lib.LaidTab
import Derived.Stop.Joined
import Derived.Shelf.Vars
import Derived.Test.YtiaobgapfoogiaaGreatDoorTold
set_option linter.unusedSimpArgs false
set_option linter.unusedVariables false
namespace Go.Proofs.YtiaobgapfoogiaaGreatDoor
open Go.RowKit Go.ChangeShapes Go.WideShapes

theorem maxVar_of_shaped {W : World} (h : W.ShapedOpen Tryz.prog) : MaxVar W :=
  cell_of_shapedOpen_int (zero := #[.int .i64 0]) (t := 3) (k := .i64) h (of_decide_eq_true (by kernel_rfl)) (by kernel_rfl) rfl (by kernel_rfl) (by kernel_rfl) Tryz.underlying3

def litCell : DataW Unit → Value
  | .lit (.int k n) => .int k n
  | _ => .nilIface
def partCells : DataW Unit → List Value
  | .agg l => l.map litCell
  | d => [litCell d]
def pairCells : DataW Unit → List Value
  | .agg l => l.flatMap partCells
  | _ => []
def putCells (cs : Array Value) : Obj → Obj
  | .cells _ t frozen => .cells cs t frozen
  | o => o
/-- A world that meets the lists: the settled one, the variables' cells laid. -/
noncomputable def laidWorld (args : Array Value) (os : Os) : World :=
  { World.holding Tryz.prog os ⟨#[], args, []⟩ with heap := (((World.holding Tryz.prog os ⟨#[], args, []⟩).heap.modify 2 (putCells (pairCells Rows.laid_unicode_utf8_acceptRanges).toArray)).modify 1 (putCells (partCells Rows.laid_unicode_utf8_first).toArray)).modify 0 (putCells #[.iface 119 (.agg #[.pointer (some ⟨4, 28, none⟩)])]) }
theorem laidWorld_data (os : Os) (args : Array Value) : laidMet Tryz.prog [("unicode/utf8.acceptRanges", Rows.laid_unicode_utf8_acceptRanges), ("unicode/utf8.first", Rows.laid_unicode_utf8_first)] ((laidWorld args os).forCall (fun _ _ => 0) ⟨#[], args, []⟩).memory :=
  laidMet_of_run' 8 (by kernel_rfl) (by kernel_rfl)
theorem laidWorld_met1 (os : Os) (args : Array Value) : laidMetH Tryz.prog [("unicode/utf8.acceptRanges", Rows.laid_unicode_utf8_acceptRanges), ("unicode/utf8.first", Rows.laid_unicode_utf8_first)] ((laidWorld args os).forCall (fun _ _ => 0) ⟨#[], args, []⟩).memory :=
  laidMetH_of_parts (laidWorld_data os args) (by kernel_rfl)
theorem laidWorld_met2 (os : Os) (args : Array Value) : laidMetH Tryz.prog [("unicode/utf8.acceptRanges", Rows.laid_unicode_utf8_acceptRanges), ("errors.errorType", Rows.laid_errors_errorType), ("unicode/utf8.first", Rows.laid_unicode_utf8_first)] ((laidWorld args os).forCall (fun _ _ => 0) ⟨#[], args, []⟩).memory :=
  laidMetH_of_parts (laidWorld_data os args) (by kernel_rfl)
end Go.Proofs.YtiaobgapfoogiaaGreatDoor
/- What a card's list gives of the variable errors.errorType, where it lists the tables of unicode/utf8 too. -/

namespace Go.Proofs.YtiaobgapfoogiaaGreatDoor
open Go.RowKit Go.ChangeShapes Go.WideShapes

theorem et : Tryz.prog.globalNamed "errors.errorType" = some 0 := by kernel_rfl
theorem rt : (Tryz.prog.cutTypes.find? (·.1 == "internal/reflectlite.rtype")).map (·.2) = some 119 := by kernel_rfl
theorem oneRow : ((List.range 212).filter fun t => Tryz.prog.rowNamed t [101, 114, 114, 111, 114]) = [28] := by kernel_rfl
theorem types_count : Tryz.prog.types.size = 212 := by kernel_rfl
theorem errVar_of_laid2 {W : World} (h : laidMetH Tryz.prog [("unicode/utf8.acceptRanges", Rows.laid_unicode_utf8_acceptRanges), ("errors.errorType", Rows.laid_errors_errorType), ("unicode/utf8.first", Rows.laid_unicode_utf8_first)] W) : ErrVar W := by
  have h' : laidMet Tryz.prog [("unicode/utf8.acceptRanges", Rows.laid_unicode_utf8_acceptRanges), ("unicode/utf8.first", Rows.laid_unicode_utf8_first)] W ∧ handlesMet Tryz.prog [("errors.errorType", Rows.laid_errors_errorType)] W := h
  obtain ⟨name, u, ty, e1, e2, e3, e4, e5⟩ := h'.2 _ (List.mem_singleton.2 rfl)
  have en : name = [101, 114, 114, 111, 114] := (Option.some.inj e1).symm
  subst en
  obtain rfl := Option.some.inj (rt.symm.trans e2)
  have hm : ty ∈ (List.range 212).filter fun t => Tryz.prog.rowNamed t [101, 114, 114, 111, 114] := List.mem_filter.2 ⟨List.mem_range.2 (by rw [← types_count]; exact e3), e4⟩
  rw [oneRow] at hm
  obtain rfl := List.mem_singleton.1 hm
  have hh : typeHandle Tryz.prog 28 = .pointer (some ⟨4, 28, none⟩) := by kernel_rfl
  rw [hh] at e5
  have := World.var?_cell et e5 0
  unfold ErrVar
  simpa using this
end Go.Proofs.YtiaobgapfoogiaaGreatDoor
