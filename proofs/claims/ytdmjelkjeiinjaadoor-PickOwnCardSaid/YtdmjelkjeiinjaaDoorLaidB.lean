/- What the cards' lists give, and a world that meets them. -/
import Derived.Test.YtdmjelkjeiinjaaDoorParse
import Derived.Test.YtdmjelkjeiinjaaDoorOpen
import Derived.Test.YtdmjelkjeiinjaaDoorRows
import Derived.Deep.DeepHandedRow
import Derived.LaidLaws
import Derived.LaidHandle
import Derived.Lib.LaidTab
import Derived.Stop.Joined
import Derived.Shelf.Vars
set_option linter.unusedSimpArgs false
set_option linter.unusedVariables false
namespace Go.Proofs.YtdmjelkjeiinjaaDoor
open Go.RowKit Go.ChangeShapes Go.WideShapes

theorem maxVar_of_shaped {W : World} (h : W.ShapedOpen Tryd.prog) : MaxVar W :=
  cell_of_shapedOpen_int (zero := #[.int .i64 0]) (t := 3) (k := .i64) h (of_decide_eq_true (by kernel_rfl)) (by kernel_rfl) rfl (by kernel_rfl) (by kernel_rfl) Tryd.underlying3

def litCell : DataW Unit → Value
  | .lit (.int k n) => .int k n
  | _ => .nilIface
def partCells : DataW Unit → List Value
  | .agg l => l.map litCell
  | d => [litCell d]
def pairCells : DataW Unit → List Value
  | .agg l => l.flatMap partCells
  | _ => []
def putCells (cs : Array Value) : Obj → Obj
  | .cells _ t frozen => .cells cs t frozen
  | o => o
/-- A world that meets the lists: the settled one, the variables' cells laid. -/
noncomputable def laidWorld (args : Array Value) (os : Os) : World :=
  { World.holding Tryd.prog os ⟨#[], args, []⟩ with heap := (((World.holding Tryd.prog os ⟨#[], args, []⟩).heap.modify 3 (putCells (pairCells Rows.laid_unicode_utf8_acceptRanges).toArray)).modify 2 (putCells (partCells Rows.laid_unicode_utf8_first).toArray)).modify 0 (putCells #[.iface 130 (.agg #[.pointer (some ⟨4, 28, none⟩)])]) }
theorem laidWorld_data (os : Os) (args : Array Value) : laidMet Tryd.prog [("unicode/utf8.acceptRanges", Rows.laid_unicode_utf8_acceptRanges), ("unicode/utf8.first", Rows.laid_unicode_utf8_first)] ((laidWorld args os).forCall (fun _ _ => 0) ⟨#[], args, []⟩).memory :=
  laidMet_of_run' 8 (by kernel_rfl) (by kernel_rfl)
theorem laidWorld_met1 (os : Os) (args : Array Value) : laidMetH Tryd.prog [("unicode/utf8.acceptRanges", Rows.laid_unicode_utf8_acceptRanges), ("unicode/utf8.first", Rows.laid_unicode_utf8_first)] ((laidWorld args os).forCall (fun _ _ => 0) ⟨#[], args, []⟩).memory :=
  laidMetH_of_parts (laidWorld_data os args) (by kernel_rfl)
theorem laidWorld_met2 (os : Os) (args : Array Value) : laidMetH Tryd.prog [("unicode/utf8.acceptRanges", Rows.laid_unicode_utf8_acceptRanges), ("errors.errorType", Rows.laid_errors_errorType), ("unicode/utf8.first", Rows.laid_unicode_utf8_first)] ((laidWorld args os).forCall (fun _ _ => 0) ⟨#[], args, []⟩).memory :=
  laidMetH_of_parts (laidWorld_data os args) (by kernel_rfl)
end Go.Proofs.YtdmjelkjeiinjaaDoor
