/- strings.Trim at a set of ASCII signs, at this seat's dump. -/
import Derived.Test.YtmpjfomfibkbnaaDoorShelfT
import Derived.Shelf.Strings.SlTrimAscii
import Derived.Test.YtmpjfomfibkbnaaDoorBase
set_option linter.unusedSimpArgs false
set_option linter.unusedVariables false
namespace Go.Proofs.YtmpjfomfibkbnaaDoor
open Go.RowKit

theorem trim_any (s cs : ByteArray) (w : World) (hs : s.size ≤ 9223372036854775807) (hcs : cs.size < 4294967281) (ha : ∀ (j : Nat) b, cs.data.toList[j]? = some b → b.toNat < 128) :
    Calls Tryd.prog 22 #[.string s, .string cs] w fun e w' => e = .returned (.string ⟨(Lib.trimS s.data.toList cs.data.toList).toArray⟩) ∧ Below w.heap.size w w' :=
  Any.strings_Trim_laid Tryd.lays160 (by kernel_rfl) s cs w hs hcs ha
end Go.Proofs.YtmpjfomfibkbnaaDoor
