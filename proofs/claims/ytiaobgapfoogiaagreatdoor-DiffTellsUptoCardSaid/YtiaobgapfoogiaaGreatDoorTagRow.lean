/- Rows of tags that a call owns: each tag's variants in a block of their own. -/
import Derived.Test.YtiaobgapfoogiaaGreatDoorOpenB
import Derived.Test.YtiaobgapfoogiaaGreatDoorBun
import Derived.Maps.AppendAt
set_option linter.unusedSimpArgs false
set_option linter.unusedVariables false
namespace Go.Proofs.YtiaobgapfoogiaaGreatDoor
open Go.RowKit

section
variable {w w' : World} {base base' : Nat} {e : TypeId} {size : Nat} {v : Value} {n : Nat} {xs : List Value}
theorem own_keep (h : w.ownsRow base e size v n xs) (k : ∀ g, v.ownBlock = some g → g < w.heap.size → w'.heap[g]? = w.heap[g]?) : w'.ownsRow base e size v n xs := by
  obtain ⟨h1, h2 | ⟨g, cap, cur, hv, hb, hg, r⟩⟩ := h
  · exact ⟨h1, .inl h2⟩
  · exact ⟨h1, .inr ⟨g, cap, cur, hv, hb, (k g (by rw [hv]; rfl) (Blk.lt (t := e) (cs := cur) hg)).trans hg, r⟩⟩
theorem own_lt (h : w.ownsRow base e size v n xs) {g : Nat} (hg : v.ownBlock = some g) : base ≤ g ∧ g < w.heap.size := by
  obtain ⟨h1, ⟨h2, _⟩ | ⟨g', cap, cur, hv, hb, hh, r⟩⟩ := h
  · rw [h2] at hg; cases hg
  · rw [hv] at hg; injection hg with hg; subst hg; exact ⟨hb, Blk.lt (t := e) (cs := cur) hh⟩
theorem own_slice (h : w.ownsRow base e size v n xs) : ∃ A cap, v = .slice A n cap ∧ n ≤ cap := by
  obtain ⟨h1, ⟨h2, h3⟩ | ⟨g', cap, cur, hv, hb, hh, hc, r⟩⟩ := h
  · exact ⟨none, 0, by rw [h2, h3], by omega⟩
  · exact ⟨_, cap, hv, hc⟩
theorem own_below {B : Nat} (h : w.ownsRow base e size v n xs) (k : Below B w w') (hB : w.heap.size ≤ B) : w'.ownsRow base e size v n xs :=
  own_keep h fun g _ hg => k.block g (by omega)
theorem own_grown {row : Option Nat} (h : w.ownsRow base e size v n xs) (k : w.grownBy w' row) (hr : row ≠ v.ownBlock ∨ row = none) : w'.ownsRow base e size v n xs :=
  own_keep h fun g hg hlt => k.block g hlt fun e => by
    rcases hr with hr | hr
    · exact hr (by rw [hg, ← e])
    · rw [hr] at e; cases e
theorem own_types {e' : TypeId} {size' n' : Nat} {v' : Value} {xs' : List Value} (h : w.ownsRow base e size v n xs) (h' : w.ownsRow base' e' size' v' n' xs') (hne : e ≠ e') {g : Nat} (hg : v.ownBlock = some g) : v'.ownBlock ≠ some g := by
  intro hg'
  obtain ⟨_, ⟨h2, _⟩ | ⟨g1, cap, cur, hv, hb, hh, r⟩⟩ := h
  · rw [h2] at hg; cases hg
  · obtain ⟨_, ⟨h2', _⟩ | ⟨g2, cap', cur', hv', hb', hh', r'⟩⟩ := h'
    · rw [h2'] at hg'; cases hg'
    · rw [hv] at hg; injection hg with hg; subst hg
      rw [hv'] at hg'; injection hg' with hg'; subst hg'
      rw [hh] at hh'; injection hh' with hh'; injection hh' with _ hh'
      exact hne hh'
end

/-- a tag and the slice value of its variants -/
def tagCells (p : Tg × Value) : List Value := [.string p.1.lang, .string p.1.script, .string p.1.region, p.2]
def flatT (l : List (Tg × Value)) : List Value := l.flatMap tagCells
theorem flatT_length (l : List (Tg × Value)) : (flatT l).length = l.length * 4 := by
  induction l with
  | nil => rfl
  | cons p l ih => show (tagCells p ++ flatT l).length = _; rw [List.length_append, ih]; simp [tagCells]; omega
theorem flatT_at (l : List (Tg × Value)) (i : Nat) (h : i < l.length) : ((flatT l).drop (i * 4)).take 4 = tagCells l[i] := by
  induction l generalizing i with
  | nil => cases h
  | cons p l ih =>
    show ((tagCells p ++ flatT l).drop (i * 4)).take 4 = _
    cases i with
    | zero => simp [tagCells]
    | succ i =>
      rw [show (i + 1) * 4 = (tagCells p).length + i * 4 from by simp [tagCells]; omega, List.drop_append, List.drop_eq_nil_of_le (Nat.le_add_right _ _), Nat.add_sub_cancel_left]
      exact ih i (by simpa using h)
def VarRow (base : Nat) (w : World) (p : Tg × Value) : Prop := w.ownsRow base 9 1 p.2 p.1.vars.length (p.1.vars.map .string)
def Apart (a b : Tg × Value) : Prop := 0 < b.1.vars.length → ∀ g, a.2.ownBlock = some g → b.2.ownBlock ≠ some g
structure Rowed (base : Nat) (w : World) (u : Value) (ps : List (Tg × Value)) : Prop where
  own : w.ownsRow base 72 4 u ps.length (flatT ps)
  vars : ∀ p ∈ ps, VarRow base w p
  apart : ps.Pairwise Apart
def TagRow (base : Nat) (w : World) (u : Value) (l : List Tg) : Prop := ∃ ps, ps.map Prod.fst = l ∧ Rowed base w u ps
theorem Rowed.keep {base : Nat} {w w' : World} {u : Value} {ps : List (Tg × Value)} (h : Rowed base w u ps) (k : ∀ g, base ≤ g → g < w.heap.size → w'.heap[g]? = w.heap[g]?) : Rowed base w' u ps :=
  ⟨own_keep h.own fun g hg hlt => k g (own_lt h.own hg).1 hlt, fun p hp => own_keep (h.vars p hp) fun g hg hlt => k g (own_lt (h.vars p hp) hg).1 hlt, h.apart⟩
theorem Rowed.below {base B : Nat} {w w' : World} {u : Value} {ps : List (Tg × Value)} (h : Rowed base w u ps) (k : Below B w w') (hB : w.heap.size ≤ B) : Rowed base w' u ps :=
  h.keep fun g _ hlt => k.block g (by omega)
theorem VarRow.list {base lo hi : Nat} {w : World} {p : Tg × Value} (h : VarRow base w p) (hb : lo ≤ base) (hs : w.heap.size ≤ hi) : ListOk Enc.str w lo hi p.2 p.1.vars := ListOk.strs_of_own h hb hs
theorem Rowed.list {base lo hi : Nat} {w : World} {u : Value} {ps : List (Tg × Value)} (h : Rowed base w u ps) (hb : lo ≤ base) (hs : w.heap.size ≤ hi) : ListOk Enc.tag w lo hi u (ps.map Prod.fst) := by
  have h1 := h.own
  have e1 : ps.length = (ps.map Prod.fst).length := by simp
  rw [e1] at h1
  refine ListOk.of_own (E := Enc.tag) h1 hb hs fun i hl => ?_
  have hl' : i < ps.length := by simpa using hl
  refine ⟨ps[i].2, ?_, ?_⟩
  · rw [show Enc.tag.sz = 4 from rfl, flatT_at ps i hl']; simp [tagCells]
  rw [List.getElem_map]
  exact (h.vars _ (List.getElem_mem hl')).list hb hs
theorem TagRow.list {base lo hi : Nat} {w : World} {u : Value} {l : List Tg} (h : TagRow base w u l) (hb : lo ≤ base) (hs : w.heap.size ≤ hi) : ListOk Enc.tag w lo hi u l := by
  obtain ⟨ps, rfl, h⟩ := h
  exact h.list hb hs

/-- 'x[k:]' -/
theorem ListOk.drop {α : Type} {E : Enc α} {w : World} {lo hi : Nat} {b o n c : Nat} {l : List α} (h : ListOk E w lo hi (.slice (some ⟨b, o, none⟩) n c) l) (k : Nat) (hk : k ≤ l.length) (c' : Nat) (hc' : l.length - k ≤ c') :
    ListOk E w lo hi (.slice (some ⟨b, o + k * E.sz, none⟩) (l.length - k) c') (l.drop k) := by
  obtain ⟨A', c1, hv, hc, hi⟩ := h
  injection hv with hv1 hv2 hv3
  subst hv1
  have hl : (l.drop k).length = l.length - k := by simp
  refine ⟨_, c', by rw [hl], by omega, fun i h => ?_⟩
  obtain ⟨b', o', cs, hA, g1, g2, g3, g4⟩ := hi (k + i) (by omega)
  injection hA with hA
  injection hA with e1 e2
  subst e1; subst e2
  refine ⟨b, o + k * E.sz, cs, rfl, g1, g2, ?_, by simpa using g4⟩
  rw [Nat.add_mul, ← Nat.add_assoc] at g3
  exact g3
end Go.Proofs.YtiaobgapfoogiaaGreatDoor
