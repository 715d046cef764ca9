/- Two lists of tags that are the same are told so (S.Tag, S.Tags). -/
import Derived.Test.YtiaobgapfoogiaaGreatDoorChainB
import Derived.Test.YtiaobgapfoogiaaGreatDoorLists
import Derived.Deep.RegionHeld3
set_option linter.unusedSimpArgs false
set_option linter.unusedVariables false
namespace Go.Proofs.YtiaobgapfoogiaaGreatDoor
open Go.RowKit

theorem ListOk.tagAt {w : World} {lo hi : Nat} {A : Option Addr} {n c : Nat} {l : List Tg} (h : ListOk Enc.tag w lo hi (.slice A n c) l) (i : Nat) (hl : i < l.length) :
    ∃ b o V, A = some ⟨b, o, none⟩ ∧ lo ≤ b ∧ b < hi ∧ w.cell? ⟨b, o + i * 4, none⟩ = some (.string l[i].lang) ∧ w.cell? ⟨b, o + i * 4 + 1, none⟩ = some (.string l[i].script) ∧ w.cell? ⟨b, o + i * 4 + 2, none⟩ = some (.string l[i].region) ∧ w.cell? ⟨b, o + i * 4 + 3, none⟩ = some V ∧ ListOk Enc.str w lo hi V l[i].vars := by
  obtain ⟨A', c', hv, _, hi⟩ := h
  obtain ⟨b, o, cs, hA, h1, h2, h3, V, h4, h5⟩ := hi i hl
  injection hv with hv1
  refine ⟨b, o, V, hv1.trans hA, h1, h2, ?_, ?_, ?_, ?_, h5⟩
  · exact h3 0 _ (by rw [h4]; rfl)
  · exact h3 1 _ (by rw [h4]; rfl)
  · exact h3 2 _ (by rw [h4]; rfl)
  · exact h3 3 _ (by rw [h4]; rfl)

theorem below_drawn {B : Nat} {w w' : World} (h : Below B w w') (n : Nat) : Below B w (w'.drewN n) := ⟨h.os, h.tape, h.output, h.size, h.block⟩
theorem below_undrew {B : Nat} {w w' : World} (h : Below B w.drew w') : Below B w w' := ⟨h.os, h.tape, h.output, h.size, h.block⟩
end Go.Proofs.YtiaobgapfoogiaaGreatDoor
/- The walk of linguisterlaw5: tags (a copy of a list of tags, each with variants of its own). -/

namespace Go.Proofs.YtiaobgapfoogiaaGreatDoor
open Go.RowKit

structure Copied (w wr : World) (l : List Tg) (ps : List (Tg × Value)) (o : Value) (j : Nat) : Prop where
  below : Below w.heap.size w wr
  rowed : Rowed w.heap.size wr o ps
  sum : ps.map Prod.fst = l.take j
theorem Rowed.nil {base : Nat} {w : World} : Rowed base w (.slice none 0 0) [] := ⟨own_nil, fun p hp => (by cases hp), List.Pairwise.nil⟩

end Go.Proofs.YtiaobgapfoogiaaGreatDoor
