/- A rule whose cells may be written into. -/
import Derived.Test.YtokjbdefkfdhhaaDoorRuleZ
namespace Go.Proofs.YtokjbdefkfdhhaaDoor
open Go.RowKit

def HasP (W : World) (g n : Nat) : Prop := ∃ cs, Blk W g 37 cs ∧ n ≤ cs.size
def PairSh (N : Nat) (W : World) (V : Value) : Prop := ∃ A m c, V = .slice A m c ∧ m ≤ 10000000 ∧ (0 < m → ∃ g, A = some ⟨g, 0, none⟩ ∧ N ≤ g ∧ HasP W g (m * 2))
def RelAt (N : Nat) (W : World) (cs : Array Value) (k : Nat) : Prop := ∃ (a b : Int) (d : Bool) (V : Value), cs[k * 4]? = some (.int .u8 a) ∧ cs[k * 4 + 1]? = some (.int .i64 b) ∧ cs[k * 4 + 2]? = some (.bool d) ∧ cs[k * 4 + 3]? = some V ∧ PairSh N W V
def RelSh (N : Nat) (W : World) (u : Value) (n : Nat) : Prop := ∃ A c, u = .slice A n c ∧ (0 < n → ∃ g cs, A = some ⟨g, 0, none⟩ ∧ N ≤ g ∧ Blk W g 36 cs ∧ ∀ k, k < n → RelAt N W cs k)
structure SpR (N : Nat) (W : World) (v : Value) (us : List (List (Rl × Value) × Value)) : Prop where
  row : W.ownsRow N 33 1 v us.length (us.map (·.2))
  part : ∀ x ∈ us, RelSh N W x.2 x.1.length
theorem HasP.blk {W W' : World} {g n : Nat} (h : HasP W g n) (k : ∀ cs, Blk W g 37 cs → ∃ cs', Blk W' g 37 cs' ∧ cs.size ≤ cs'.size) : HasP W' g n := by
  obtain ⟨cs, h1, h2⟩ := h
  obtain ⟨cs', h3, h4⟩ := k cs h1
  exact ⟨cs', h3, Nat.le_trans h2 h4⟩
theorem PairSh.blk {N : Nat} {W W' : World} {V : Value} (h : PairSh N W V) (k : ∀ g cs, N ≤ g → Blk W g 37 cs → ∃ cs', Blk W' g 37 cs' ∧ cs.size ≤ cs'.size) : PairSh N W' V := by
  obtain ⟨A, m, c, h1, h2, h3⟩ := h
  refine ⟨A, m, c, h1, h2, fun h0 => ?_⟩
  obtain ⟨g, e, h4, h5⟩ := h3 h0
  exact ⟨g, e, h4, h5.blk fun cs => k g cs h4⟩
theorem pairSh_of_own {N : Nat} {W : World} {V : Value} {l : List (Int × Int)} (h : W.ownsRow N 37 2 V l.length (flatP l)) (hl : l.length ≤ 10000000) : PairSh N W V := by
  obtain ⟨_, ⟨h2, h3⟩ | ⟨g, cap, cur, hv, hb, hh, hc, hm, hcs, ht⟩⟩ := h
  · exact ⟨none, 0, 0, h2, by omega, fun h => by omega⟩
  · refine ⟨_, _, _, hv, hl, fun _ => ⟨g, rfl, hb, cur, hh, ?_⟩⟩
    have : l.length * 2 ≤ cap * 2 := Nat.mul_le_mul_right _ hc
    omega
theorem relSh_of_part {N : Nat} {W : World} {ps : List (Rl × Value)} {u : Value} (h : PartV N W ps u) (hr : ∀ x ∈ ps, x.1.rng.length ≤ 10000000) : RelSh N W u ps.length := by
  obtain ⟨_, ⟨h2, h3⟩ | ⟨g, cap, cur, hv, hb, hh, hc, hm, hcs, ht⟩⟩ := h.row
  · exact ⟨none, 0, by rw [h2, h3], fun h => by omega⟩
  · refine ⟨_, _, hv, fun _ => ⟨g, cur, rfl, hb, hh, fun k hk => ?_⟩⟩
    have hat := flatL_at ps k hk
    have cell : ∀ j v, (rlV ps[k])[j]? = some v → cur[k * 4 + j]? = some v := by
      intro j v hj
      rw [← hat, List.getElem?_take] at hj
      split at hj
      · rw [List.getElem?_drop, ← ht, List.getElem?_take] at hj
        split at hj
        · simpa using hj
        · cases hj
      · cases hj
    exact ⟨ps[k].1.op.toNat, ps[k].1.mod, ps[k].1.neg, ps[k].2, cell 0 _ rfl, cell 1 _ rfl, cell 2 _ rfl, cell 3 _ rfl, pairSh_of_own (h.prs _ (List.getElem_mem hk)) (hr _ (List.getElem_mem hk))⟩
theorem RuleV.spR {N : Nat} {W : World} {v : Value} {us : List (List (Rl × Value) × Value)} (h : RuleV N W us v) (hr : ∀ p ∈ plainU us, ∀ r ∈ p, r.rng.length ≤ 10000000) : SpR N W v us :=
  ⟨h.row, fun x hx => relSh_of_part (h.part x hx) fun y hy => hr (x.1.map (·.1)) (List.mem_map_of_mem hx) y.1 (List.mem_map_of_mem hy)⟩
/-- a cell of a row of pairs is written -/
theorem SpR.setPair {N : Nat} {W : World} {v : Value} {us : List (List (Rl × Value) × Value)} (h : SpR N W v us) {g : Nat} {cs : Array Value} (hg : Blk W g 37 cs) (i : Nat) (y : Value) : SpR N (W.setCell ⟨g, i, none⟩ y) v us := by
  have keepP : ∀ V, PairSh N W V → PairSh N (W.setCell ⟨g, i, none⟩ y) V := fun V hV => hV.blk fun g' cs' _ hb => by
    by_cases e : g' = g
    · subst e; exact ⟨_, hb.set_ i y, by simp⟩
    · exact ⟨_, hb.far e _, Nat.le_refl _⟩
  refine ⟨own_keep h.row fun g' hg' _ => Below.heap_setCell _ _ _ _ (fun (e : g' = g) => own_blkR h.row hg (by decide) (by rw [hg', e])), fun x hx => ?_⟩
  obtain ⟨A, c, h1, h2⟩ := h.part x hx
  refine ⟨A, c, h1, fun h0 => ?_⟩
  obtain ⟨g', cs', e1, e2, e3, e4⟩ := h2 h0
  refine ⟨g', cs', e1, e2, e3.far (fun (e : g' = g) => ?_) _, fun k hk => ?_⟩
  · subst e
    unfold Blk at e3 hg
    rw [e3] at hg
    injection hg with hg
    injection hg with _ hg
    exact absurd hg (by decide)
  · obtain ⟨a, b, d, V, f1, f2, f3, f4, f5⟩ := e4 k hk
    exact ⟨a, b, d, V, f1, f2, f3, f4, keepP V f5⟩
/-- a relation is written over by none -/
def zeroR (W : World) (g k : Nat) : World := (((W.setCell ⟨g, k * 4, none⟩ (.int .u8 0)).setCell ⟨g, k * 4 + 1, none⟩ (.int .i64 0)).setCell ⟨g, k * 4 + 2, none⟩ (.bool false)).setCell ⟨g, k * 4 + 3, none⟩ (.slice none 0 0)
def zeroC (cs : Array Value) (k : Nat) : Array Value := (((cs.setIfInBounds (k * 4) (.int .u8 0)).setIfInBounds (k * 4 + 1) (.int .i64 0)).setIfInBounds (k * 4 + 2) (.bool false)).setIfInBounds (k * 4 + 3) (.slice none 0 0)
theorem zeroR_blk {W : World} {g k : Nat} {t : TypeId} {cs : Array Value} (h : Blk W g t cs) : Blk (zeroR W g k) g t (zeroC cs k) := (((h.set_ _ _).set_ _ _).set_ _ _).set_ _ _
theorem zeroR_far {W : World} {g k g' : Nat} {t : TypeId} {cs : Array Value} (h : Blk W g' t cs) (hne : g' ≠ g) : Blk (zeroR W g k) g' t cs := (((h.far hne _).far hne _).far hne _).far hne _
theorem zeroC_at {cs : Array Value} {k j : Nat} (h : j < k * 4 ∨ k * 4 + 4 ≤ j) : (zeroC cs k)[j]? = cs[j]? := by
  unfold zeroC
  rw [Array.getElem?_setIfInBounds_ne (by omega), Array.getElem?_setIfInBounds_ne (by omega), Array.getElem?_setIfInBounds_ne (by omega), Array.getElem?_setIfInBounds_ne (by omega)]
theorem SpR.setRel {N : Nat} {W : World} {v : Value} {us : List (List (Rl × Value) × Value)} (h : SpR N W v us) {g k : Nat} {cs : Array Value} (hg : Blk W g 36 cs) (hk : k * 4 + 3 < cs.size) : SpR N (zeroR W g k) v us := by
  have keepP : ∀ V, PairSh N W V → PairSh N (zeroR W g k) V := fun V hV => hV.blk fun g' cs' _ hb => by
    refine ⟨_, zeroR_far hb (fun (e : g' = g) => ?_), Nat.le_refl _⟩
    subst e
    unfold Blk at hb hg
    rw [hb] at hg
    injection hg with hg
    injection hg with _ hg
    exact absurd hg (by decide)
  refine ⟨own_keep h.row fun g' hg' _ => ?_, fun x hx => ?_⟩
  · have hne : g' ≠ g := fun e => own_blkR h.row hg (by decide) (by rw [hg', e])
    unfold zeroR
    rw [Below.heap_setCell _ _ _ _ (by exact hne), Below.heap_setCell _ _ _ _ (by exact hne), Below.heap_setCell _ _ _ _ (by exact hne), Below.heap_setCell _ _ _ _ (by exact hne)]
  obtain ⟨A, c, h1, h2⟩ := h.part x hx
  refine ⟨A, c, h1, fun h0 => ?_⟩
  obtain ⟨g', cs', e1, e2, e3, e4⟩ := h2 h0
  by_cases e : g' = g
  · subst e
    have ec : cs' = cs := by
      unfold Blk at e3 hg
      rw [e3] at hg
      injection hg with hg
      injection hg with hg
    subst ec
    refine ⟨g', _, e1, e2, zeroR_blk e3, fun k' hk' => ?_⟩
    by_cases ek : k' = k
    · subst ek
      refine ⟨0, 0, false, .slice none 0 0, ?_, ?_, ?_, ?_, none, 0, 0, rfl, by omega, fun h => by omega⟩
      · unfold zeroC
        rw [Array.getElem?_setIfInBounds_ne (by omega), Array.getElem?_setIfInBounds_ne (by omega), Array.getElem?_setIfInBounds_ne (by omega), Array.getElem?_setIfInBounds_self_of_lt (by omega)]
      · unfold zeroC
        rw [Array.getElem?_setIfInBounds_ne (by omega), Array.getElem?_setIfInBounds_ne (by omega), Array.getElem?_setIfInBounds_self_of_lt (by simp; omega)]
      · unfold zeroC
        rw [Array.getElem?_setIfInBounds_ne (by omega), Array.getElem?_setIfInBounds_self_of_lt (by simp; omega)]
      · unfold zeroC
        rw [Array.getElem?_setIfInBounds_self_of_lt (by simp; omega)]
    · obtain ⟨a, b, d, V, f1, f2, f3, f4, f5⟩ := e4 k' hk'
      exact ⟨a, b, d, V, by rw [zeroC_at (by omega)]; exact f1, by rw [zeroC_at (by omega)]; exact f2, by rw [zeroC_at (by omega)]; exact f3, by rw [zeroC_at (by omega)]; exact f4, keepP V f5⟩
  · refine ⟨g', cs', e1, e2, zeroR_far e3 e, fun k' hk' => ?_⟩
    obtain ⟨a, b, d, V, f1, f2, f3, f4, f5⟩ := e4 k' hk'
    exact ⟨a, b, d, V, f1, f2, f3, f4, keepP V f5⟩
theorem SpR.below {N : Nat} {W W' : World} {v : Value} {us : List (List (Rl × Value) × Value)} (h : SpR N W v us) (hb : Below W.heap.size W W') : SpR N W' v us := by
  refine ⟨own_below h.row hb (Nat.le_refl _), fun x hx => ?_⟩
  obtain ⟨A, c, h1, h2⟩ := h.part x hx
  refine ⟨A, c, h1, fun h0 => ?_⟩
  obtain ⟨g', cs', e1, e2, e3, e4⟩ := h2 h0
  refine ⟨g', cs', e1, e2, e3.below hb e3.lt, fun k' hk' => ?_⟩
  obtain ⟨a, b, d, V, f1, f2, f3, f4, f5⟩ := e4 k' hk'
  exact ⟨a, b, d, V, f1, f2, f3, f4, f5.blk fun g cs _ hg => ⟨cs, hg.below hb hg.lt, Nat.le_refl _⟩⟩
end Go.Proofs.YtokjbdefkfdhhaaDoor
