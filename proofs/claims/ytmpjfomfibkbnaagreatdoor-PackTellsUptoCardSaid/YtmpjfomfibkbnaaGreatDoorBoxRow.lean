/- A box of a bundle whose entries are a row of the call's own. -/
import Derived.Test.YtmpjfomfibkbnaaGreatDoorPackB
import Derived.Test.YtmpjfomfibkbnaaGreatDoorQSort
set_option linter.unusedSimpArgs false
set_option linter.unusedVariables false
namespace Go.Proofs.YtmpjfomfibkbnaaGreatDoor
open Go.RowKit

/-- One cell of a row of the call's own is another one. -/
theorem own_set {w : World} {base : Nat} {e : TypeId} {size n c g : Nat} {xs : List Value} (h : w.ownsRow base e size (.slice (some ⟨g, 0, none⟩) n c) n xs) (k : Nat) (u : Value) (hk : k < n * size) :
    (w.setCell ⟨g, k, none⟩ u).ownsRow base e size (.slice (some ⟨g, 0, none⟩) n c) n (xs.set k u) := by
  obtain ⟨hlen, ⟨hv, _⟩ | ⟨g', cap, cur, hv, hb, hh, hc, hm, hcs, ht⟩⟩ := h
  · cases hv
  · injection hv with hv1 hv2 hv3
    injection hv1 with hv1
    injection hv1 with e1
    subst e1; subst hv3
    refine ⟨by rw [List.length_set]; exact hlen, .inr ⟨g, c, cur.setIfInBounds k u, rfl, hb, ?_, hc, hm, by simpa using hcs, ?_⟩⟩
    · rw [setCell_eq_setRow w g k cur e (0, 0) u hh]
      exact setRow_heap w g _ _ e _ hh
    · rw [← ht, Array.toList_setIfInBounds, List.take_set]
theorem flatE_set : ∀ (es : List Ent) (i : Nat) (x : ByteArray) (h : i < es.length), (flatE es).set (i * 2 + 1) (.string x) = flatE (es.set i ⟨es[i].key, x⟩)
  | [], i, x, h => by cases h
  | e :: r, 0, x, h => rfl
  | e :: r, i + 1, x, h => by
    have hi : i < r.length := by simpa using h
    have ih := flatE_set r i x hi
    have e1 : (i + 1) * 2 + 1 = (i * 2 + 1) + 1 + 1 := by omega
    show ([Value.string e.key, .string e.text] ++ flatE r).set ((i + 1) * 2 + 1) (.string x) = [Value.string e.key, .string e.text] ++ flatE (r.set i ⟨r[i].key, x⟩)
    rw [e1]
    show Value.string e.key :: Value.string e.text :: (flatE r).set (i * 2 + 1) (.string x) = _
    rw [ih]; rfl
/-- A box of a bundle whose entries are a row of the call's own. -/
structure BoxRow (w0 wr : World) (q : Nat) (tg : ByteArray) (es : List Ent) (u : Value) : Prop where
  lo : w0.heap.size ≤ q
  box : Blk wr q 24 #[.string tg, u]
  row : wr.ownsRow w0.heap.size 32 2 u es.length (flatE es)
  below : Below w0.heap.size w0 wr
theorem own_ne_blk {w : World} {base : Nat} {e t : TypeId} {size : Nat} {v : Value} {n : Nat} {xs : List Value} {g : Nat} {cs : Array Value} (h : w.ownsRow base e size v n xs) (k : Blk w g t cs) (hne : e ≠ t) : v.ownBlock ≠ some g := own_blk_ne' h k hne
theorem BoxRow.keep {w0 wr W : World} {q : Nat} {tg : ByteArray} {es : List Ent} {u : Value} (h : BoxRow w0 wr q tg es u) (hb : Below wr.heap.size wr W) : BoxRow w0 W q tg es u :=
  ⟨h.lo, h.box.below hb h.box.lt, own_below h.row hb (Nat.le_refl _), h.below.trans (hb.mono h.below.size)⟩
theorem BoxRow.push {w0 W w7 : World} {q : Nat} {tg : ByteArray} {es : List Ent} {u v : Value} {e : Ent} (h : BoxRow w0 W q tg es u) (hg : W.grownBy w7 u.ownBlock)
    (hown : w7.ownsRow w0.heap.size 32 2 v (es.length + 1) (flatE es ++ entCells e)) : BoxRow w0 (w7.setCell ⟨q, 1, none⟩ v) q tg (es ++ [e]) v := by
  have q0 := blk_grown h.box hg (fun e => own_ne_blk h.row h.box (by decide) e.symm)
  refine ⟨h.lo, q0.set_ 1 v, ?_, (h.below.grown hg h.below.size (fun k hk => (own_lt h.row hk).1)).setCell h.lo _⟩
  rw [flatE_snoc', List.length_append]
  exact own_keep hown fun g hg' _ => Below.heap_setCell _ _ _ _ (fun (e : g = q) => own_ne_blk hown q0 (by decide) (by rw [hg', e]))
theorem BoxRow.in_ {w0 wr : World} {q : Nat} {tg : ByteArray} {es : List Ent} {u : Value} (h : BoxRow w0 wr q tg es u) (hr : Right ⟨tg, es⟩) : BunIn wr ⟨tg, es⟩ u :=
  ⟨⟨_, ents_of_own h.row (Nat.le_refl _) (Nat.le_refl _)⟩, by have h2 : tg.size ≤ 200 := tag_short hr.tag; show tg.size < _; omega, by have h2 : es.length ≤ 100 := hr.len; show es.length ≤ _; omega, fun e he => by
    have h1 := key_40 (hr.each e he).1
    have h2 := (hr.each e he).2
    omega⟩
end Go.Proofs.YtmpjfomfibkbnaaGreatDoor
