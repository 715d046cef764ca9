/- The walk of linguisterlaw5: tags (a copy of a list of tags, each with variants of its own). -/
import Derived.Test.YtmpjfomfibkbnaaDoorSame
set_option linter.unusedSimpArgs false
set_option linter.unusedVariables false
namespace Go.Proofs.YtmpjfomfibkbnaaDoor
open Go.RowKit

structure Copied (w wr : World) (l : List Tg) (ps : List (Tg × Value)) (o : Value) (j : Nat) : Prop where
  below : Below w.heap.size w wr
  rowed : Rowed w.heap.size wr o ps
  sum : ps.map Prod.fst = l.take j
theorem Rowed.nil {base : Nat} {w : World} : Rowed base w (.slice none 0 0) [] := ⟨own_nil, fun p hp => (by cases hp), List.Pairwise.nil⟩

end Go.Proofs.YtmpjfomfibkbnaaDoor
