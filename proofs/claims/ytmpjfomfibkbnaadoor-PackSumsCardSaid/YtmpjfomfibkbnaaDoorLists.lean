/- Small functions over lists of strings: is one among them; are two lists alike. -/
import Derived.Test.YtmpjfomfibkbnaaDoorBase
import Derived.BigQuiet
import Derived.Deep.QuietTactic
set_option linter.unusedSimpArgs false
set_option linter.unusedVariables false
namespace Go.Proofs.YtmpjfomfibkbnaaDoor
open Go.RowKit


theorem eq_of_all {α : Type} {a b : List α} (hl : a.length = b.length) (h : ∀ q (h1 : q < a.length) (h2 : q < b.length), a[q] = b[q]) : a = b :=
  List.ext_getElem hl fun q h1 h2 => h q h1 h2

end Go.Proofs.YtmpjfomfibkbnaaDoor
