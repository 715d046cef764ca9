/- The walk of package find: is a bundle's tag among those ahead of it. -/
import Derived.Test.YtiaobgapfoogiaaGreatDoorPropC
import Derived.Test.YtiaobgapfoogiaaGreatDoorPick
import Derived.Shelf.SlicesQ.IndexFunc
set_option linter.unusedSimpArgs false
set_option linter.unusedVariables false
namespace Go.Proofs.YtiaobgapfoogiaaGreatDoor
open Go.RowKit

/-- What is asked of a list of bundles that is handed in. -/
structure BunsIn (w : World) (v : Value) (l : List Bun) : Prop where
  lo : ∃ lo, ListOk Enc.bun w lo w.heap.size v l
  len : l.length * 40 ≤ 140737488355328
  each : ∀ b ∈ l, b.tag.size < 4294967281 ∧ b.ents.length ≤ 4398046511104 ∧ ∀ e ∈ b.ents, e.key.size ≤ 9223372036854775807 ∧ e.text.size ≤ 9223372036854775807
theorem BunsIn.below {w w' : World} {v : Value} {l : List Bun} (h : BunsIn w v l) (hb : Below w.heap.size w w') : BunsIn w' v l :=
  ⟨let ⟨lo, hl⟩ := h.lo; ⟨lo, (hl.below Enc.bun_laws hb).mono Enc.bun_laws (Nat.le_refl _) hb.size⟩, h.len, h.each⟩
theorem BunsIn.bunAt {w : World} {A : Option Addr} {n c : Nat} {l : List Bun} (h : BunsIn w (.slice A n c) l) (i : Nat) (hl : i < l.length) :
    ∃ b o V, A = some ⟨b, o, none⟩ ∧ b < w.heap.size ∧ w.cell? ⟨b, o + i * 2, none⟩ = some (.string l[i].tag) ∧ w.cell? ⟨b, o + i * 2 + 1, none⟩ = some V ∧ BunIn w l[i] V := by
  obtain ⟨lo, A', c', hv, _, hi⟩ := h.lo
  obtain ⟨b, o, cs, hA, h1, h2, h3, V, h4, h5⟩ := hi i hl
  injection hv with hv1
  have he := h.each _ (List.getElem_mem hl)
  refine ⟨b, o, V, hv1.trans hA, h2, ?_, ?_, ⟨⟨lo, h5⟩, he.1, he.2.1, he.2.2⟩⟩
  · exact h3 0 _ (by rw [h4]; rfl)
  · exact h3 1 _ (by rw [h4]; rfl)
end Go.Proofs.YtiaobgapfoogiaaGreatDoor
