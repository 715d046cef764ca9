/- Maps of words: how they lie, look-ups; what a map of some first entries reads as. -/
import Derived.Test.YtboilcfeegigcaaGreatDoorPropC
import Derived.Test.YtboilcfeegigcaaGreatDoorDiffP
import Derived.Maps.StringElems
import Derived.Maps.Own
import Derived.Maps.OwnSet
namespace Go.Proofs.YtboilcfeegigcaaGreatDoor
open Go.RowKit Go.Maps

abbrev OwnsW (w : World) (b n : Nat) (S : List Ent) : Prop := w.ownsMap Tryz.prog 9 (plainElem (H := Unit) Tryz.prog 9) b n (toD S)
theorem zero_str (w : World) : (zeroValue 9).run Tryz.prog w = .ok (.string ByteArray.empty) w := by kernel_rfl
theorem key_str {k : ByteArray} (hk : k.size ≤ maxLen) : keyOf Tryz.prog 9 (.string k) = some (.string (bts k)) := Go.WideMaps.keyOf_string_mk Tryz.underlying9 hk
theorem text_of_at {S : List Ent} {k : ByteArray} {v : Value} {ps : List MemPlace} (h : plainElem (H := Unit) Tryz.prog 9 v = some ((toD S).atKey (.string (bts k)) (.lit (.string [])), ps)) : v = .string ((textK S k).getD ByteArray.empty) := by
  obtain ⟨s, rfl, hz, _⟩ := plainElem_string_inv Tryz.underlying9 h
  have h1 := congrArg Prod.fst hz
  rw [toD_at] at h1
  cases ht : textK S k with
  | none =>
    rw [ht] at h1
    have h3 : (DataW.lit (.string []) : DataW Unit) = .lit (.string (bts s)) := h1
    have h2 : ([] : List UInt8) = bts s := Lit.string.inj (DataW.lit.inj h3)
    have : s = ByteArray.empty := bts_inj h2.symm
    rw [this]; rfl
  | some t =>
    rw [ht] at h1
    have h3 : (DataW.lit (.string (bts t)) : DataW Unit) = .lit (.string (bts s)) := h1
    have h2 : bts t = bts s := Lit.string.inj (DataW.lit.inj h3)
    rw [bts_inj h2]; rfl
theorem look_ok_str {w : World} {b n : Nat} {S : List Ent} (h : OwnsW w b n S) (k : ByteArray) (hk : k.size ≤ maxLen) :
    (Instr.lookup 60 (.map (some b)) (.string k) true).run Tryz.prog w = .ok (.tuple #[.string ((textK S k).getD ByteArray.empty), .bool (hasK S k)]) w := by
  obtain ⟨v, ps, hrun, hv⟩ := h.look_ok lawS Tryz.underlying60 (zero_str w) (zd := .lit (.string [])) (zp := []) (plainElem_string Tryz.underlying9 (by decide)) (key_str hk)
  rw [toD_has] at hrun
  rw [text_of_at hv] at hrun
  exact hrun
theorem look_str {w : World} {b n : Nat} {S : List Ent} (h : OwnsW w b n S) (k : ByteArray) (hk : k.size ≤ maxLen) :
    (Instr.lookup 60 (.map (some b)) (.string k) false).run Tryz.prog w = .ok (.string ((textK S k).getD ByteArray.empty)) w := by
  obtain ⟨v, ps, hrun, hv⟩ := h.lookup lawS Tryz.underlying60 (zero_str w) (zd := .lit (.string [])) (zp := []) (plainElem_string Tryz.underlying9 (by decide)) (key_str hk)
  rw [text_of_at hv] at hrun
  exact hrun
theorem OwnsW.below {w w' : World} {b n B : Nat} {S : List Ent} (h : OwnsW w b n S) (hb : Below B w w') (hB : b < B) : OwnsW w' b n S := ownsMap_below h hb hB

theorem foldPut_len : ∀ (l S : List Ent), (l.foldl putE S).length ≤ S.length + l.length
  | [], S => Nat.le_refl _
  | a :: r, S => by
    have h := foldPut_len r (putE S a)
    have h1 : (putE S a).length ≤ S.length + 1 := by
      unfold putE
      rw [(insE_perm a _).length_eq, List.length_cons]
      exact Nat.succ_le_succ (List.length_filter_le _ _)
    rw [List.foldl_cons, List.length_cons]; omega
def srtN (l : List Ent) (j : Nat) : List Ent := srt (l.take j)
theorem srtN_zero (l : List Ent) : toD (srtN l 0) = .map [] := rfl
theorem srtN_succ (l : List Ent) (j : Nat) (hj : j < l.length) : toD (srtN l (j + 1)) = (toD (srtN l j)).put (.string (bts l[j].key)) (.lit (.string (bts l[j].text))) := by
  rw [toD_put]
  unfold srtN srt
  rw [List.take_succ_eq_append_getElem hj, List.foldl_append]; rfl

end Go.Proofs.YtboilcfeegigcaaGreatDoor
