/- Keys of entries: what is left of a text when the signs of a key are trimmed. No program. -/
import Derived.Test.YtiaobgapfoogiaaGreatDoorBun
import Derived.Lib.SlTrimSet
set_option linter.unusedSimpArgs false
set_option linter.unusedVariables false
namespace Go.Proofs.YtiaobgapfoogiaaGreatDoor
open Go.RowKit

def keySigns : ByteArray := ⟨#[97, 98, 99, 100, 101, 102, 103, 104, 105, 106, 107, 108, 109, 110, 111, 112, 113, 114, 115, 116, 117, 118, 119, 120, 121, 122, 48, 49, 50, 51, 52, 53, 54, 55, 56, 57, 46, 95]⟩
theorem keySigns_all : ∀ n, n < 256 → (bts keySigns).contains (UInt8.ofNat n) = isKey (UInt8.ofNat n) := by decide +kernel
theorem keySigns_is (c : UInt8) : (bts keySigns).contains c = isKey c := by
  have := keySigns_all c.toNat c.toNat_lt
  rwa [UInt8.ofNat_toNat] at this
theorem dropWhile_nil {α : Type} (p : α → Bool) : ∀ l : List α, l.dropWhile p = [] ↔ l.all p = true
  | [] => by simp
  | a :: l => by
    rw [List.dropWhile_cons, List.all_cons]
    cases h : p a with
    | true => simp [dropWhile_nil p l]
    | false => simp
theorem dropWhile_head {α : Type} (p : α → Bool) : ∀ (l : List α), (l.dropWhile p).all p = true → l.dropWhile p = []
  | [], _ => rfl
  | a :: l, h => by
    rw [List.dropWhile_cons] at h ⊢
    cases hp : p a with
    | true => rw [hp] at h; simp only [if_true] at h ⊢; exact dropWhile_head p l h
    | false => rw [hp] at h; simp [hp] at h
theorem trimS_nil (l cs : List UInt8) : Lib.trimS l cs = [] ↔ l.all (cs.contains ·) = true := by
  unfold Lib.trimS Lib.trimLeftS Lib.trimRightS
  rw [dropWhile_nil, List.all_reverse]
  constructor
  · intro h
    have h1 := dropWhile_head _ _ h
    rw [dropWhile_nil, List.all_reverse] at h1
    exact h1
  · intro h
    have h1 : l.reverse.dropWhile (cs.contains ·) = [] := by rw [dropWhile_nil, List.all_reverse]; exact h
    rw [h1]; rfl
theorem trim_key (s : ByteArray) : (Lib.trimS (bts s) (bts keySigns) = []) ↔ (bts s).all isKey = true := by
  rw [trimS_nil]
  have : ((bts keySigns).contains ·) = isKey := funext keySigns_is
  rw [this]
end Go.Proofs.YtiaobgapfoogiaaGreatDoor
