/- Messages that a call made and writes into: a text, a body. -/
import Derived.Test.YtjdfpoppimcikaaGreatDoorSepN
import Derived.Test.YtjdfpoppimcikaaGreatDoorNamesB
import Derived.Test.YtjdfpoppimcikaaGreatDoorSeqT
import Derived.Test.YtjdfpoppimcikaaGreatDoorJoined
import Derived.Laws.IdiomCopy
namespace Go.Proofs.YtjdfpoppimcikaaGreatDoor
open Go.RowKit

theorem below_undrewC {B : Nat} {w w' : World} (h : Below B w.drew w') : Below B w w' := ⟨h.os, h.tape, h.output, h.size, h.block⟩
theorem own_at {W : World} {base : Nat} {e : TypeId} {size : Nat} {A : Option Addr} {n c : Nat} {xs : List Value} (h : W.ownsRow base e size (.slice A n c) n xs) (k : Nat) (hk : k < n * size) :
    ∃ g, A = some ⟨g, 0, none⟩ ∧ base ≤ g ∧ g < W.heap.size ∧ W.cell? ⟨g, k, none⟩ = xs[k]? ∧ W.frozen? ⟨g, k, none⟩ = false := by
  obtain ⟨hlen, ⟨_, h0⟩ | ⟨g, cap, cur, hv, hb, hh, hc, hm, hcs, ht⟩⟩ := h
  · subst h0; omega
  · injection hv with hv1 _ hv3
    refine ⟨g, hv1, hb, Blk.lt (t := e) (cs := cur) hh, ?_, Blk.frozen (t := e) (cs := cur) hh k⟩
    rw [Blk.cell (t := e) (cs := cur) hh k, ← ht, List.getElem?_take, if_pos hk, Array.getElem?_toList]
section
variable {β : Type}
theorem flatC_set : ∀ (l : List (CB β)) (k : Nat) (h : k < l.length) (c : CB β), c.key = l[k].key → flatC (l.set k c) = (flatC l).set (k * 2 + 1) c.u
  | [], k, h, _, _ => by cases h
  | p :: l, 0, _, c, hc => by
    have hc : c.key = p.key := hc
    show CB.row c ++ flatC l = (CB.row p ++ flatC l).set 1 c.u
    simp [CB.row, hc]
  | p :: l, k + 1, h, c, hc => by
    have ih := flatC_set l k (by simpa using h) c hc
    show CB.row p ++ flatC (l.set k c) = (CB.row p ++ flatC l).set ((k + 1) * 2 + 1) c.u
    rw [ih, show (k + 1) * 2 + 1 = (k * 2 + 1) + 1 + 1 from by omega]
    simp [CB.row]
theorem flatM_text : ∀ (l : List (CN β)) (i : Nat) (h : i < l.length) (t : ByteArray), flatM (l.set i { l[i] with text := t }) = (flatM l).set (i * 4 + 1) (.string t)
  | [], i, h, _ => by cases h
  | p :: l, 0, _, t => by
    show CN.row { p with text := t } ++ flatM l = (CN.row p ++ flatM l).set 1 (.string t)
    simp [CN.row]
  | p :: l, i + 1, h, t => by
    have ih := flatM_text l i (by simpa using h) t
    show CN.row p ++ flatM (l.set i { (l[i]'(by simpa using h)) with text := t }) = (CN.row p ++ flatM l).set ((i + 1) * 4 + 1) (.string t)
    rw [ih, show (i + 1) * 4 + 1 = (i * 4 + 1) + 1 + 1 + 1 + 1 from by omega]
    simp [CN.row]
theorem flatM_same : ∀ (l : List (CN β)) (i : Nat) (h : i < l.length) (y : CN β), y.row = l[i].row → flatM (l.set i y) = flatM l
  | [], i, h, _, _ => by cases h
  | p :: l, 0, _, y, hy => by
    have hy : y.row = p.row := hy
    show CN.row y ++ flatM l = CN.row p ++ flatM l
    rw [hy]
  | p :: l, i + 1, h, y, hy => by
    have ih := flatM_same l i (by simpa using h) y hy
    show CN.row p ++ flatM (l.set i y) = CN.row p ++ flatM l
    rw [ih]
theorem pair_set (l : List (CN β)) (i : Nat) (h : i < l.length) (y : CN β) (hy : y.v = l[i].v) (hp : l.Pairwise fun x y => ∀ r, x.v.ownBlock = some r → y.v.ownBlock ≠ some r) :
    (l.set i y).Pairwise fun x y => ∀ r, x.v.ownBlock = some r → y.v.ownBlock ≠ some r := by
  rw [List.pairwise_iff_getElem] at hp ⊢
  have hv : ∀ j (hj : j < (l.set i y).length), ((l.set i y)[j]).v = (l[j]'(by simpa using hj)).v := fun j hj => by
    rw [List.getElem_set]
    split
    · rename_i e; subst e; exact hy
    · rfl
  intro a b ha hb hab r h1
  rw [hv] at h1 ⊢
  exact hp a b (by simpa using ha) (by simpa using hb) hab r h1
theorem pair_ne (l : List (CN β)) (hp : l.Pairwise fun x y => ∀ r, x.v.ownBlock = some r → y.v.ownBlock ≠ some r) {i j : Nat} (hi : i < l.length) (hj : j < l.length) (hne : i ≠ j) {r : Nat} (h : l[i].v.ownBlock = some r) : l[j].v.ownBlock ≠ some r := by
  rw [List.pairwise_iff_getElem] at hp
  rcases Nat.lt_or_ge i j with hlt | hge
  · exact hp i j hi hj hlt r h
  · intro h2
    exact hp j i hj hi (by omega) r h2 h
theorem mem_set_at {α : Type} {l : List α} {i : Nat} {y x : α} (h : x ∈ l.set i y) : (x = y ∧ i < l.length) ∨ ∃ j, ∃ hj : j < l.length, j ≠ i ∧ x = l[j] := by
  obtain ⟨j, hj, rfl⟩ := List.getElem_of_mem h
  rw [List.getElem_set]
  have hj' : j < l.length := by simpa using hj
  split
  · rename_i e; subst e; exact .inl ⟨rfl, hj'⟩
  · rename_i e; exact .inr ⟨j, hj', fun h => e h.symm, rfl⟩
theorem Sep.setText {E : Enc β} (hE : E.Laws) {base g n c : Nat} {W : World} {xs : List (CN β)} (h : Sep E base W (.slice (some ⟨g, 0, none⟩) n c) xs) (i : Nat) (hi : i < xs.length) (t : ByteArray) :
    Sep E base (W.setCell ⟨g, i * 4 + 1, none⟩ (.string t)) (.slice (some ⟨g, 0, none⟩) n c) (xs.set i { xs[i] with text := t }) := by
  have hn : n = xs.length := by
    obtain ⟨A, cap, hv, _⟩ := own_slice h.row
    injection hv
  subst hn
  have hg : ∀ (k : Nat), k ≠ g → (W.setCell ⟨g, i * 4 + 1, none⟩ (.string t)).heap[k]? = W.heap[k]? := fun k hk => Below.heap_setCell _ _ _ _ (by exact hk)
  have hs : (W.setCell ⟨g, i * 4 + 1, none⟩ (.string t)).heap.size = W.heap.size := by simp [World.setCell]
  have hold : ∀ x ∈ xs, (W.setCell ⟨g, i * 4 + 1, none⟩ (.string t)).ownsRow base 76 2 x.v x.bods.length (flatC x.bods) := fun x hx =>
    own_keep (h.cas x hx) fun k hk _ => hg k fun e => own_type h.row (h.cas x hx) (by decide) rfl (by rw [hk, e])
  have hbod : ∀ x ∈ xs, ∀ b ∈ x.bods, BodOk E base (W.setCell ⟨g, i * 4 + 1, none⟩ (.string t)) b ∧ away (.slice (some ⟨g, 0, none⟩) xs.length c) b.s b.e ∧ ∀ y ∈ xs, away y.v b.s b.e := fun x hx b hb => by
    obtain ⟨k1, k2, k3⟩ := h.bod x hx b hb
    refine ⟨k1.keep hE (fun k h1 h2 => hg k fun e => ?_) (by rw [hs]; exact Nat.le_refl _), k2, k3⟩
    have := k2 g rfl
    omega
  have hmem : ∀ {x : CN β}, x ∈ xs.set i { xs[i] with text := t } → ∃ y ∈ xs, y.v = x.v ∧ y.bods = x.bods := fun {x} hx => by
    rcases mem_set_at hx with ⟨rfl, _⟩ | ⟨j, hj, _, rfl⟩
    · exact ⟨_, List.getElem_mem hi, rfl, rfl⟩
    · exact ⟨_, List.getElem_mem hj, rfl, rfl⟩
  refine ⟨?_, fun x hx => ?_, pair_set xs i hi _ rfl h.apart, fun x hx b hb => ?_⟩
  · rw [flatM_text xs i hi t, List.length_set]
    exact own_setN h.row (i * 4 + 1) _ (by omega)
  · obtain ⟨y, hy, e1, e2⟩ := hmem hx
    rw [← e1, ← e2]
    exact hold y hy
  · obtain ⟨y, hy, e1, e2⟩ := hmem hx
    obtain ⟨k1, k2, k3⟩ := hbod y hy b (by rw [e2]; exact hb)
    refine ⟨k1, k2, fun z hz => ?_⟩
    obtain ⟨z', hz', f1, _⟩ := hmem hz
    rw [← f1]
    exact k3 z' hz'
theorem Sep.setBody {E : Enc β} (hE : E.Laws) {base r n c : Nat} {W : World} {out : Value} {xs : List (CN β)} (h : Sep E base W out xs) (i : Nat) (hi : i < xs.length) (hv : xs[i].v = .slice (some ⟨r, 0, none⟩) n c)
    (k : Nat) (hk : k < xs[i].bods.length) (b : CB β) (hkey : b.key = xs[i].bods[k].key) (hb : BodOk E base W b) (ho : away out b.s b.e) (hy : ∀ y ∈ xs, away y.v b.s b.e) :
    Sep E base (W.setCell ⟨r, k * 2 + 1, none⟩ b.u) out (xs.set i { xs[i] with bods := xs[i].bods.set k b }) := by
  have hi' := List.getElem_mem hi
  have hg : ∀ (q : Nat), q ≠ r → (W.setCell ⟨r, k * 2 + 1, none⟩ b.u).heap[q]? = W.heap[q]? := fun q hq => Below.heap_setCell _ _ _ _ (by exact hq)
  have hs : (W.setCell ⟨r, k * 2 + 1, none⟩ b.u).heap.size = W.heap.size := by simp [World.setCell]
  have hvb : xs[i].v.ownBlock = some r := by rw [hv]; rfl
  have hn : n = xs[i].bods.length := by
    obtain ⟨A, cap, hv', _⟩ := own_slice (h.cas _ hi')
    rw [hv] at hv'
    injection hv'
  subst hn
  have hkeep : ∀ b : CB β, BodOk E base W b → away xs[i].v b.s b.e → BodOk E base (W.setCell ⟨r, k * 2 + 1, none⟩ b.u) b := fun b h1 h2 => by
    refine h1.keep hE (fun q p1 p2 => Below.heap_setCell _ _ _ _ fun e => ?_) (by simp [World.setCell])
    have e : q = r := e
    have := h2 r hvb
    omega
  have hkeep : ∀ d : CB β, BodOk E base W d → away xs[i].v d.s d.e → BodOk E base (W.setCell ⟨r, k * 2 + 1, none⟩ b.u) d := fun d h1 h2 => by
    refine h1.keep hE (fun q p1 p2 => Below.heap_setCell _ _ _ _ fun e => ?_) (by simp [World.setCell])
    have e : q = r := e
    have := h2 r hvb
    omega
  have hmv : ∀ {z : CN β}, z ∈ xs.set i { xs[i] with bods := xs[i].bods.set k b } → ∃ y ∈ xs, y.v = z.v := fun {z} hz => by
    rcases mem_set_at hz with ⟨rfl, _⟩ | ⟨j, hj, _, rfl⟩
    · exact ⟨_, hi', rfl⟩
    · exact ⟨_, List.getElem_mem hj, rfl⟩
  have hb3 : ∀ d : CB β, (∀ y ∈ xs, away y.v d.s d.e) → ∀ z ∈ xs.set i { xs[i] with bods := xs[i].bods.set k b }, away z.v d.s d.e := fun d hd z hz => by
    obtain ⟨y, hy', e⟩ := hmv hz
    rw [← e]
    exact hd y hy'
  refine ⟨?_, fun x hx => ?_, pair_set xs i hi _ rfl h.apart, fun x hx d hd => ?_⟩
  · rw [flatM_same xs i hi { xs[i] with bods := xs[i].bods.set k b } rfl, List.length_set]
    exact own_keep h.row fun q hq _ => hg q fun e => own_type (h.cas _ hi') h.row (by decide) hvb (by rw [hq, e])
  · rcases mem_set_at hx with ⟨rfl, _⟩ | ⟨j, hj, hne, rfl⟩
    · show (W.setCell ⟨r, k * 2 + 1, none⟩ b.u).ownsRow base 76 2 xs[i].v (xs[i].bods.set k b).length (flatC (xs[i].bods.set k b))
      rw [flatC_set _ k hk b hkey, List.length_set, hv]
      have h1 := h.cas _ hi'
      rw [hv] at h1
      exact own_setN h1 (k * 2 + 1) _ (by omega)
    · exact own_keep (h.cas _ (List.getElem_mem hj)) fun q hq _ => hg q fun e => pair_ne xs h.apart hi hj (fun e => hne e.symm) hvb (by rw [hq, e])
  · rcases mem_set_at hx with ⟨rfl, _⟩ | ⟨j, hj, hne, rfl⟩
    · rcases mem_set_at hd with ⟨rfl, _⟩ | ⟨q, hq, _, rfl⟩
      · exact ⟨hkeep d hb (hy _ hi'), ho, hb3 d hy⟩
      · obtain ⟨k1, k2, k3⟩ := h.bod _ hi' _ (List.getElem_mem hq)
        exact ⟨hkeep _ k1 (k3 _ hi'), k2, hb3 _ k3⟩
    · obtain ⟨k1, k2, k3⟩ := h.bod _ (List.getElem_mem hj) d hd
      exact ⟨hkeep _ k1 (k3 _ hi'), k2, hb3 _ k3⟩
end
end Go.Proofs.YtjdfpoppimcikaaGreatDoor
/- group.digits, group.check, group.Put at threes. -/

namespace Go.Proofs.YtjdfpoppimcikaaGreatDoor
open Go.RowKit Go.Sort

theorem own_setAll {base g c : Nat} {e : TypeId} : ∀ (vs : List Value) (o n : Nat) (w : World) (xs : List Value), w.ownsRow base e 1 (.slice (some ⟨g, 0, none⟩) n c) n xs → o + vs.length ≤ n →
    (w.setCells g o vs).ownsRow base e 1 (.slice (some ⟨g, 0, none⟩) n c) n (xs.take o ++ vs ++ xs.drop (o + vs.length))
  | [], o, n, w, xs, h, _ => by
    show w.ownsRow _ _ _ _ _ _
    rw [List.append_nil, List.length_nil, Nat.add_zero, List.take_append_drop]
    exact h
  | v :: vs, o, n, w, xs, h, hl => by
    rw [List.length_cons] at hl
    have h1 := own_setN h o v (by omega)
    have hx : xs.length = n := by have := h.1; omega
    have h2 := own_setAll vs (o + 1) n _ _ h1 (by omega)
    have e1 : (xs.set o v).take (o + 1) = xs.take o ++ [v] := by
      rw [List.take_set, List.take_succ_eq_append_getElem (by omega)]
      rw [List.set_append_right _ _ (by rw [List.length_take]; omega), List.length_take, Nat.min_eq_left (by omega), Nat.sub_self]
      rfl
    have e2 : (xs.set o v).drop (o + 1 + vs.length) = xs.drop (o + (v :: vs).length) := by
      rw [List.drop_set_of_lt (by omega), List.length_cons]
      congr 1; omega
    rw [e1, e2] at h2
    have e3 : xs.take o ++ [v] ++ vs = xs.take o ++ (v :: vs) := by simp
    rw [e3] at h2
    exact h2
end Go.Proofs.YtjdfpoppimcikaaGreatDoor
