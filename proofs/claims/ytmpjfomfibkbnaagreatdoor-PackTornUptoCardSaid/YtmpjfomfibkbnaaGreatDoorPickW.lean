/- The walk of package pick: names; of package chain: Within. -/
import Derived.Test.YtmpjfomfibkbnaaGreatDoorOwnTags
import Derived.Test.YtmpjfomfibkbnaaGreatDoorParse
set_option linter.unusedSimpArgs false
set_option linter.unusedVariables false
namespace Go.Proofs.YtmpjfomfibkbnaaGreatDoor
open Go.RowKit

/-- What is asked of a list of tags that is handed in. -/
structure TagsIn (w : World) (v : Value) (l : List Tg) : Prop where
  lo : ∃ lo, ListOk Enc.tag w lo w.heap.size v l
  len : l.length * 72 ≤ 140737488355328
  each : ∀ t ∈ l, t.vars.length * 16 ≤ 140737488355328 ∧ (∀ s ∈ t.vars, s.size ≤ 9223372036854775807) ∧ t.lang.size ≤ 9223372036854775807 ∧ t.script.size ≤ 9223372036854775807 ∧ t.region.size ≤ 9223372036854775807
theorem TagsIn.below {w w' : World} {v : Value} {l : List Tg} (h : TagsIn w v l) (hb : Below w.heap.size w w') : TagsIn w' v l :=
  ⟨let ⟨lo, hl⟩ := h.lo; ⟨lo, (hl.below Enc.tag_laws hb).mono Enc.tag_laws (Nat.le_refl _) hb.size⟩, h.len, h.each⟩
theorem TagsIn.tagAt {w : World} {A : Option Addr} {n c : Nat} {l : List Tg} (h : TagsIn w (.slice A n c) l) (i : Nat) (hl : i < l.length) :
    ∃ b o V, A = some ⟨b, o, none⟩ ∧ b < w.heap.size ∧ w.cell? ⟨b, o + i * 4, none⟩ = some (.string l[i].lang) ∧ w.cell? ⟨b, o + i * 4 + 1, none⟩ = some (.string l[i].script) ∧ w.cell? ⟨b, o + i * 4 + 2, none⟩ = some (.string l[i].region) ∧ w.cell? ⟨b, o + i * 4 + 3, none⟩ = some V ∧ TagIn w (l[i], V) := by
  obtain ⟨lo, hlo⟩ := h.lo
  obtain ⟨b, o, V, hA, _, h2, x0, x1, x2, x3, xl⟩ := hlo.tagAt i hl
  have he := h.each _ (List.getElem_mem hl)
  exact ⟨b, o, V, hA, h2, x0, x1, x2, x3, ⟨lo, xl⟩, by dsimp only; omega, he.2.1, he.2.2.1, he.2.2.2.1, he.2.2.2.2⟩
theorem text_ok (p : Tg × Value) (w : World) (h : TagIn w p) (hf : tagFault p.1 = 0) :
    Calls Tryz.prog 50 #[.agg #[.string p.1.lang, .string p.1.script, .string p.1.region, p.2]] w fun e w' => e = .returned (.string (tagText p.1)) ∧ Below w.heap.size w w' :=
  text_any p w h (by have := (tag_sizes hf).2.2.2.1; omega) (by have := tagText_size hf; omega)

def namesF (l : List Tg) : Int := firstN (fun q => tagFault (l.getD q noTg)) l.length
theorem getD_tag {l : List Tg} {q : Nat} (h : q < l.length) : l.getD q noTg = l[q] := by rw [List.getD_eq_getElem?_getD, List.getElem?_eq_getElem h]; rfl
theorem namesF_bad {l : List Tg} (j : Nat) (hj : j < l.length) (h0 : ∀ q (h : q < l.length), q < j → tagFault l[q] = 0) (h : tagFault l[j] ≠ 0) : namesF l = tagFault l[j] := by
  have := firstN_at (fun q => tagFault (l.getD q noTg)) j (fun q hq => by rw [getD_tag (by omega)]; exact h0 q (by omega) hq) (by rw [getD_tag hj]; exact h) l.length hj
  rw [getD_tag hj] at this; exact this
theorem namesF_zero {l : List Tg} (h0 : ∀ q (h : q < l.length), tagFault l[q] = 0) : namesF l = 0 :=
  firstN_zero _ _ fun q hq => by rw [getD_tag hq]; exact h0 q hq
theorem namesF_all {l : List Tg} (h : namesF l = 0) : ∀ t ∈ l, tagFault t = 0 := by
  intro t ht
  obtain ⟨q, hq, rfl⟩ := List.getElem_of_mem ht
  have := (firstN_zero_iff _ _).1 h q hq
  rw [getD_tag hq] at this; exact this

end Go.Proofs.YtmpjfomfibkbnaaGreatDoor
