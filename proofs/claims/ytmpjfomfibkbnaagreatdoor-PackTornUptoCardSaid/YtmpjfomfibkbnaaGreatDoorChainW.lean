/- The walk of package chain: less. (begun) -/
import Derived.Test.YtmpjfomfibkbnaaGreatDoorTagC
import Derived.Test.YtmpjfomfibkbnaaGreatDoorTagRow
set_option linter.unusedSimpArgs false
set_option linter.unusedVariables false
namespace Go.Proofs.YtmpjfomfibkbnaaGreatDoor
open Go.RowKit

theorem info_string : (Tryz.prog.info? 9).map (fun i => (i.zero, i.size, i.bytes)) = some (some (.string ByteArray.empty), 1, 16) := by kernel_rfl
/-- What less gives of a tag. -/
def Lessed (w w' : World) (p q : Tg × Value) (b : Bool) : Prop :=
  (less p.1 = none ∧ b = false ∧ q = p) ∨
  ∃ u, less p.1 = some u ∧ b = true ∧ q.1 = u ∧ (w'.ownsRow w.heap.size 9 1 q.2 u.vars.length (u.vars.map .string) ∨ (q.2 = p.2 ∧ p.1.vars = [] ∧ u.vars = []))
theorem empty_of {s : ByteArray} (h : s.toList = []) : s = ByteArray.empty := (eqs_iff _ _).1 (eqs_nil h).out
end Go.Proofs.YtmpjfomfibkbnaaGreatDoor
