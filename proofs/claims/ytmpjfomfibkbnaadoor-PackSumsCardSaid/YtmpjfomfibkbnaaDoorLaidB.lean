/- What the cards' lists give, and a world that meets them. -/
import Derived.Test.YtmpjfomfibkbnaaDoorParse
import Derived.Test.YtmpjfomfibkbnaaDoorOpenB
import Derived.Test.YtmpjfomfibkbnaaDoorRows
import Derived.Deep.DeepHandedRow
import Derived.LaidLaws
import Derived.LaidHandle
import Derived.Lib.LaidTab
import Derived.Stop.Joined
import Derived.Shelf.Vars
set_option linter.unusedSimpArgs false
set_option linter.unusedVariables false
namespace Go.Proofs.YtmpjfomfibkbnaaDoor
open Go.RowKit Go.ChangeShapes Go.WideShapes

theorem maxVar_of_shaped {W : World} (h : W.ShapedOpen Tryd.prog) : MaxVar W :=
  cell_of_shapedOpen_int (zero := #[.int .i64 0]) (t := 3) (k := .i64) h (of_decide_eq_true (by kernel_rfl)) (by kernel_rfl) rfl (by kernel_rfl) (by kernel_rfl) Tryd.underlying3

def litCell : DataW Unit → Value
  | .lit (.int k n) => .int k n
  | _ => .nilIface
def partCells : DataW Unit → List Value
  | .agg l => l.map litCell
  | d => [litCell d]
def pairCells : DataW Unit → List Value
  | .agg l => l.flatMap partCells
  | _ => []
def putCells (cs : Array Value) : Obj → Obj
  | .cells _ t frozen => .cells cs t frozen
  | o => o
end Go.Proofs.YtmpjfomfibkbnaaDoor
