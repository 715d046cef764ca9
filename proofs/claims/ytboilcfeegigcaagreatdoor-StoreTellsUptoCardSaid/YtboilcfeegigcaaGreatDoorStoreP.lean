/- Versions of bundles that are kept, plainly: no program. -/
import Derived.Test.YtboilcfeegigcaaGreatDoorDiffP
import Derived.Maps.Views
import Derived.Lib.SlMapFilter
import Derived.Lib.SlKeysI
namespace Go.Proofs.YtboilcfeegigcaaGreatDoor
open Go.RowKit Go.Maps

/- ## What is found in right bundles -/
theorem load_zero {l : List Bun} (h : loadFault l = 0) (j : Nat) (hj : j < l.length) : bunFault l[j] = 0 ∧ ∀ q (h : q < j), l[q].tag ≠ l[j].tag := by
  have h1 := (firstN_zero_iff _ _).1 h j hj
  unfold loadAt at h1
  have hg : l.getD j noBun = l[j] := by rw [List.getD_eq_getElem?_getD, List.getElem?_eq_getElem hj]; rfl
  rw [hg] at h1
  by_cases hf : bunFault l[j] = 0
  · rw [if_pos hf] at h1
    refine ⟨hf, fun q hq e => ?_⟩
    have : (l.take j).any (fun b => eqs b.tag l[j].tag) = true := by
      rw [List.any_eq_true]
      exact ⟨l[q], List.mem_iff_getElem.2 ⟨q, by rw [List.length_take]; omega, by rw [List.getElem_take]⟩, (eqs_iff _ _).2 e⟩
    rw [if_pos this] at h1
    exact absurd h1 (by decide)
  · rw [if_neg hf] at h1; exact absurd h1 hf
theorem load_twice {l : List Bun} (j : Nat) (hj : j < l.length) (h0 : ∀ q (h : q < j), loadAt l q = 0) (hf : bunFault l[j] = 0) (q : Nat) (hq : q < j) (ht : l[q].tag = l[j].tag) : loadFault l = 5 := by
  have hg : l.getD j noBun = l[j] := by rw [List.getD_eq_getElem?_getD, List.getElem?_eq_getElem hj]; rfl
  have h5 : loadAt l j = 5 := by
    unfold loadAt
    rw [hg, if_pos hf, if_pos]
    rw [List.any_eq_true]
    exact ⟨l[q], List.mem_iff_getElem.2 ⟨q, by rw [List.length_take]; omega, by rw [List.getElem_take]⟩, (eqs_iff _ _).2 ht⟩
  unfold loadFault
  rw [firstN_at _ j h0 (by rw [h5]; decide) _ hj, h5]
theorem load_bad {l : List Bun} (j : Nat) (hj : j < l.length) (h0 : ∀ q (h : q < j), loadAt l q = 0) (hf : bunFault l[j] ≠ 0) : loadFault l = bunFault l[j] := by
  have hg : l.getD j noBun = l[j] := by rw [List.getD_eq_getElem?_getD, List.getElem?_eq_getElem hj]; rfl
  have h5 : loadAt l j = bunFault l[j] := by unfold loadAt; rw [hg, if_neg hf]
  unfold loadFault
  rw [firstN_at _ j h0 (by rw [h5]; exact hf) _ hj, h5]
theorem load_next {l : List Bun} (j : Nat) (hj : j < l.length) (hf : bunFault l[j] = 0) (hn : ∀ q (h : q < j), l[q].tag ≠ l[j].tag) : loadAt l j = 0 := by
  have hg : l.getD j noBun = l[j] := by rw [List.getD_eq_getElem?_getD, List.getElem?_eq_getElem hj]; rfl
  unfold loadAt
  rw [hg, if_pos hf, if_neg]
  rw [List.any_eq_true]
  rintro ⟨b, hb, he⟩
  obtain ⟨q, hq, rfl⟩ := List.mem_iff_getElem.1 hb
  rw [List.length_take] at hq
  rw [List.getElem_take] at he
  exact hn q (by omega) ((eqs_iff _ _).1 he)
theorem textIn_no {l : List Bun} {nm key : ByteArray} (h : ∀ b ∈ l, b.tag ≠ nm) : textIn l nm key = none := by
  unfold textIn findTag
  rw [firstS_none]
  · rfl
  · intro q hq
    unfold hitAt hitOf
    rw [List.getElem?_eq_getElem hq]
    show (if eqs l[q].tag nm then _ else none) = none
    rw [if_neg]
    intro e
    exact h _ (List.getElem_mem hq) ((eqs_iff _ _).1 e)
theorem textIn_yes {l : List Bun} {nm key : ByteArray} (hl : loadFault l = 0) {b : Bun} (hb : b ∈ l) (ht : b.tag = nm) : textIn l nm key = textK b.ents key := by
  obtain ⟨j, hj, rfl⟩ := List.mem_iff_getElem.1 hb
  have hne : ∀ q (h : q < l.length), q ≠ j → hitAt l nm key q = none := fun q hq hqj => by
    unfold hitAt hitOf
    rw [List.getElem?_eq_getElem hq]
    show (if eqs l[q].tag nm then _ else none) = none
    rw [if_neg]
    intro e
    have e2 := (eqs_iff _ _).1 e
    rcases Nat.lt_or_gt_of_ne hqj with h | h
    · exact (load_zero hl j hj).2 q h (e2.trans ht.symm)
    · exact (load_zero hl q hq).2 j h (ht.trans e2.symm)
  have hat : hitAt l nm key j = textK l[j].ents key := by
    unfold hitAt hitOf
    rw [List.getElem?_eq_getElem hj]
    show (if eqs l[j].tag nm then _ else none) = _
    rw [if_pos ((eqs_iff _ _).2 ht)]; rfl
  unfold textIn findTag
  cases hk : textK l[j].ents key with
  | none =>
    rw [firstS_none]
    · rfl
    · intro q hq
      by_cases e : q = j
      · subst e; rw [hat, hk]
      · exact hne q hq e
  | some t =>
    rw [firstS_at _ j t (fun q hq => hne q (by omega) (by omega)) (by rw [hat, hk]) _ hj]
    rfl

/- ## A version as it lies, and which ones are kept -/
structure VR where
  blk : Nat
  held : Nat
  buns : List Bun
def pickV (q : Nat → VR → Bool) : Nat → List VR → List (Nat × Nat)
  | _, [] => []
  | k, r :: rs => if q k r then (k, r.blk) :: pickV q (k + 1) rs else pickV q (k + 1) rs
theorem pickV_snoc (q : Nat → VR → Bool) (r : VR) : ∀ (vs : List VR) (k : Nat), pickV q k (vs ++ [r]) = pickV q k vs ++ (if q (k + vs.length) r then [(k + vs.length, r.blk)] else [])
  | [], k => by
    show (if q k r then _ else _) = _
    simp only [pickV, List.length_nil, Nat.add_zero, List.nil_append]
  | a :: vs, k => by
    have ih := pickV_snoc q r vs (k + 1)
    have e : k + 1 + vs.length = k + (a :: vs).length := by simp; omega
    rw [e] at ih
    show (if q k a then (k, a.blk) :: pickV q (k + 1) (vs ++ [r]) else pickV q (k + 1) (vs ++ [r])) = (if q k a then (k, a.blk) :: pickV q (k + 1) vs else pickV q (k + 1) vs) ++ _
    rw [ih]
    split <;> simp
theorem pickV_filter (q : Nat → VR → Bool) (f : Nat × Nat → Bool) : ∀ (vs : List VR) (k : Nat), (pickV q k vs).filter f = pickV (fun k r => q k r && f (k, r.blk)) k vs
  | [], k => rfl
  | a :: vs, k => by
    have ih := pickV_filter q f vs (k + 1)
    show (if q k a then (k, a.blk) :: pickV q (k + 1) vs else pickV q (k + 1) vs).filter f = (if (q k a && f (k, a.blk)) then _ else _)
    cases h1 : q k a with
    | false => simp only [Bool.false_eq_true, if_false, Bool.false_and]; exact ih
    | true =>
      simp only [if_true, Bool.true_and]
      rw [List.filter_cons]
      cases h2 : f (k, a.blk) with
      | true => simp only [if_true]; rw [ih]
      | false => simp only [Bool.false_eq_true, if_false]; exact ih
theorem pickV_congr {q q' : Nat → VR → Bool} : ∀ (vs vs' : List VR) (k : Nat), vs.length = vs'.length → (∀ i (h : i < vs.length) (h' : i < vs'.length), q (k + i) vs[i] = q' (k + i) vs'[i] ∧ vs[i].blk = vs'[i].blk) → pickV q k vs = pickV q' k vs'
  | [], [], _, _, _ => rfl
  | [], b :: vs', _, h, _ => by simp at h
  | a :: vs, [], _, h, _ => by simp at h
  | a :: vs, b :: vs', k, hl, h => by
    have h0 := h 0 (by simp) (by simp)
    simp only [Nat.add_zero, List.getElem_cons_zero] at h0
    have ih := pickV_congr (q := q) (q' := q') vs vs' (k + 1) (by simpa using hl) fun i h1 h2 => by
      have h3 := h (i + 1) (by simpa using h1) (by simpa using h2)
      simp only [List.getElem_cons_succ] at h3
      have e : k + 1 + i = k + (i + 1) := by omega
      rw [e]; exact h3
    show (if q k a then (k, a.blk) :: pickV q (k + 1) vs else pickV q (k + 1) vs) = (if q' k b then (k, b.blk) :: pickV q' (k + 1) vs' else pickV q' (k + 1) vs')
    rw [h0.1, h0.2, ih]
theorem mem_pickV {q : Nat → VR → Bool} {m a : Nat} : ∀ {vs : List VR} {k : Nat}, (m, a) ∈ pickV q k vs ↔ ∃ i, ∃ h : i < vs.length, m = k + i ∧ a = vs[i].blk ∧ q (k + i) vs[i] = true
  | [], k => by simp [pickV]
  | b :: vs, k => by
    have ih := mem_pickV (q := q) (m := m) (a := a) (vs := vs) (k := k + 1)
    have e : (m, a) ∈ pickV q k (b :: vs) ↔ (q k b = true ∧ m = k ∧ a = b.blk) ∨ (m, a) ∈ pickV q (k + 1) vs := by
      show (m, a) ∈ (if q k b then (k, b.blk) :: pickV q (k + 1) vs else pickV q (k + 1) vs) ↔ _
      cases h : q k b with
      | true => simp
      | false => simp
    rw [e, ih]
    constructor
    · rintro (⟨h1, h2, h3⟩ | ⟨i, h, h1, h2, h3⟩)
      · exact ⟨0, by simp, h2, h3, by simpa using h1⟩
      · have e2 : k + 1 + i = k + (i + 1) := by omega
        exact ⟨i + 1, by simpa using h, by omega, by simpa using h2, by rw [← e2]; simpa using h3⟩
    · rintro ⟨i, h, h1, h2, h3⟩
      cases i with
      | zero => exact .inl ⟨by simpa using h3, h1, by simpa using h2⟩
      | succ i =>
        have e2 : k + 1 + i = k + (i + 1) := by omega
        exact .inr ⟨i, by simpa using h, by omega, by simpa using h2, by rw [e2]; simpa using h3⟩
theorem pickV_rising (q : Nat → VR → Bool) : ∀ (vs : List VR) (k : Nat), (pickV q k vs).Pairwise fun a b => a.1 < b.1
  | [], k => List.Pairwise.nil
  | b :: vs, k => by
    have ih := pickV_rising q vs (k + 1)
    show (if q k b then (k, b.blk) :: pickV q (k + 1) vs else pickV q (k + 1) vs).Pairwise _
    split
    · refine List.pairwise_cons.2 ⟨fun p hp => ?_, ih⟩
      obtain ⟨m, a⟩ := p
      obtain ⟨i, _, h1, _⟩ := mem_pickV.1 hp
      show k < m; omega
    · exact ih
theorem pickV_le (q : Nat → VR → Bool) (vs : List VR) (k : Nat) : (pickV q k vs).length ≤ vs.length := by
  induction vs generalizing k with
  | nil => exact Nat.le_refl _
  | cons a vs ih =>
    show (if q k a then (k, a.blk) :: pickV q (k + 1) vs else pickV q (k + 1) vs).length ≤ _
    have := ih (k + 1)
    split <;> simp <;> omega
def live (N k : Nat) (r : VR) : Bool := k == N || r.held != 0
def keptV (vs : List VR) : List (Nat × Nat) := pickV (live vs.length) 1 vs
/-- Which number, of those that are there. -/
def heldOf (vs : List VR) (a : Nat) : Nat := ((vs.find? fun r => r.blk == a).map (·.held)).getD 0
theorem heldOf_at {vs : List VR} (hn : vs.Pairwise fun a b => a.blk ≠ b.blk) (i : Nat) (h : i < vs.length) : heldOf vs vs[i].blk = vs[i].held := by
  unfold heldOf
  induction vs generalizing i with
  | nil => cases h
  | cons a r ih =>
    obtain ⟨h1, h2⟩ := List.pairwise_cons.1 hn
    cases i with
    | zero => rw [List.find?_cons]; simp
    | succ i =>
      have hi : i < r.length := by simpa using h
      have hne : (a.blk == r[i].blk) = false := by rw [beq_eq_false_iff_ne]; exact h1 _ (List.getElem_mem hi)
      have e : (a :: r)[i + 1] = r[i] := rfl
      rw [e, List.find?_cons, hne]
      exact ih h2 i hi
/-- What clean leaves. -/
theorem clean_pick {q : Nat → VR → Bool} {vs : List VR} (hn : vs.Pairwise fun a b => a.blk ≠ b.blk) (h : ∀ i (hi : i < vs.length), live vs.length (1 + i) vs[i] = true → q (1 + i) vs[i] = true) :
    (pickV q 1 vs).filter (fun p => !(p.1 != vs.length && heldOf vs p.2 == 0)) = keptV vs := by
  rw [pickV_filter]
  refine pickV_congr _ _ _ rfl fun i hi _ => ⟨?_, rfl⟩
  have h1 := h i hi
  show (q (1 + i) vs[i] && !((1 + i) != vs.length && heldOf vs vs[i].blk == 0)) = live vs.length (1 + i) vs[i]
  rw [heldOf_at hn i hi]
  unfold live at h1 ⊢
  cases hq : q (1 + i) vs[i] with
  | true =>
    rw [Bool.true_and, Bool.not_and]
    simp [bne]
  | false =>
    rw [hq] at h1
    cases hl : (1 + i == vs.length || vs[i].held != 0) with
    | true => exact absurd (h1 hl) (by decide)
    | false => rfl
/-- The versions with one more, ahead of clean. -/
theorem kept_more (vs : List VR) (r : VR) : keptV vs ++ [(vs.length + 1, r.blk)] = pickV (fun k x => k == vs.length + 1 || live vs.length k x) 1 (vs ++ [r]) := by
  rw [pickV_snoc]
  have e : 1 + vs.length = vs.length + 1 := by omega
  rw [e]
  simp only [beq_self_eq_true, Bool.true_or, if_true]
  congr 1
  refine pickV_congr _ _ _ rfl fun i hi _ => ⟨?_, rfl⟩
  have : (1 + i == vs.length + 1) = false := by rw [beq_eq_false_iff_ne]; omega
  rw [this, Bool.false_or]
/-- The one of a number. -/
def verAt (vs : List VR) (n : Int) : Option VR := if 1 ≤ n then (vs[(n - 1).toNat]?).filter fun r => live vs.length n.toNat r else none
theorem verAt_some {vs : List VR} {n : Int} {r : VR} (h : verAt vs n = some r) : ∃ i, ∃ hi : i < vs.length, n = ((i + 1 : Nat) : Int) ∧ r = vs[i] ∧ live vs.length (i + 1) vs[i] = true := by
  unfold verAt at h
  split at h
  · rename_i hn
    rw [Option.filter_eq_some_iff] at h
    obtain ⟨h1, h2⟩ := h
    obtain ⟨hi, he⟩ := List.getElem?_eq_some_iff.1 h1
    refine ⟨(n - 1).toNat, hi, by omega, he.symm, ?_⟩
    have e : (n - 1).toNat + 1 = n.toNat := by omega
    rw [e, he]; exact h2
  · cases h
theorem verAt_at {vs : List VR} (i : Nat) (hi : i < vs.length) : verAt vs ((i + 1 : Nat) : Int) = if live vs.length (i + 1) vs[i] then some vs[i] else none := by
  unfold verAt
  rw [if_pos (by omega)]
  have e1 : (((i + 1 : Nat) : Int) - 1).toNat = i := by omega
  have e2 : (((i + 1 : Nat) : Int)).toNat = i + 1 := by omega
  rw [e1, e2, List.getElem?_eq_getElem hi]
  rfl
theorem verAt_out {vs : List VR} {n : Int} (h : n < 1 ∨ (vs.length : Int) < n) : verAt vs n = none := by
  unfold verAt
  split
  · rename_i h1
    rw [List.getElem?_eq_none (by omega)]; rfl
  · rfl
theorem kept_find (vs : List VR) (n : Int) : ((keptV vs).find? fun p => decide ((p.1 : Int) = n)).map (·.2) = (verAt vs n).map (·.blk) := by
  cases hv : verAt vs n with
  | some r =>
    obtain ⟨i, hi, rfl, rfl, hl⟩ := verAt_some hv
    have hm : (i + 1, vs[i].blk) ∈ keptV vs := mem_pickV.2 ⟨i, hi, by omega, rfl, by rw [Nat.add_comm]; exact hl⟩
    cases hf : (keptV vs).find? fun p => decide ((p.1 : Int) = ((i + 1 : Nat) : Int)) with
    | none =>
      have := List.find?_eq_none.1 hf _ hm
      simp at this
    | some p =>
      obtain ⟨m, a⟩ := p
      have h1 := List.find?_some hf
      have h2 := List.mem_of_find?_eq_some hf
      have h3 : (m : Int) = ((i + 1 : Nat) : Int) := of_decide_eq_true h1
      obtain ⟨i', hi', h4, rfl, _⟩ := mem_pickV.1 h2
      obtain rfl : i' = i := by omega
      rfl
  | none =>
    have : (keptV vs).find? (fun p => decide ((p.1 : Int) = n)) = none := by
      rw [List.find?_eq_none]
      rintro ⟨m, a⟩ hm h1
      obtain ⟨i, hi, h4, rfl, hl⟩ := mem_pickV.1 hm
      have h3 : (m : Int) = n := of_decide_eq_true h1
      obtain rfl : n = ((i + 1 : Nat) : Int) := by omega
      rw [verAt_at i hi, Nat.add_comm i 1, hl] at hv
      cases hv
    rw [this]; rfl

/- ## What a map of versions reads as -/
def entV (p : Nat × Nat) : Lit × DataW Nat := (.int .i64 p.1, .held p.2)
def toV (S : List (Nat × Nat)) : DataW Nat := .map (S.map entV)
theorem sameKey_int (a b : Int) : (Lit.int .i64 a).sameKey (.int .i64 b) = decide (a = b) := by
  show decide (_ ∧ _) = _
  simp
theorem insert_end (x : Nat × Nat) : ∀ S : List (Nat × Nat), (∀ p ∈ S, p.1 < x.1) → DataW.insert (entV x) (S.map entV) = (S ++ [x]).map entV
  | [], _ => rfl
  | y :: r, h => by
    have h1 : y.1 < x.1 := h y List.mem_cons_self
    have e : (entV x).1.before (entV y).1 = false := by
      show decide ((x.1 : Int) < y.1) = false
      exact decide_eq_false (by omega)
    rw [List.map_cons, DataW.insert, e]
    simp only [Bool.false_eq_true, if_false]
    rw [insert_end x r fun p hp => h p (List.mem_cons_of_mem _ hp)]
    rfl
theorem toV_put (S : List (Nat × Nat)) (n a : Nat) (h : ∀ p ∈ S, p.1 < n) : (toV S).put (.int .i64 n) (.held a) = toV (S ++ [(n, a)]) := by
  show DataW.map (DataW.insert (entV (n, a)) ((S.map entV).filter fun p => !p.1.sameKey (.int .i64 n))) = _
  have e : ((S.map entV).filter fun p => !p.1.sameKey (.int .i64 n)) = S.map entV := by
    rw [List.filter_eq_self]
    intro p hp
    obtain ⟨y, hy, rfl⟩ := List.mem_map.1 hp
    show (!(Lit.int .i64 (y.1 : Int)).sameKey (.int .i64 n)) = true
    rw [sameKey_int]
    have := h y hy
    simp; omega
  rw [e, insert_end (n, a) S h]; rfl
theorem toV_at (S : List (Nat × Nat)) (n : Int) : (toV S).atKey (.int .i64 n) .nil = match ((S.find? fun p => decide ((p.1 : Int) = n)).map (·.2)) with | some a => .held a | none => .nil := by
  unfold toV DataW.atKey
  dsimp only
  induction S with
  | nil => rfl
  | cons a r ih =>
    rw [List.map_cons, List.find?_cons, List.find?_cons]
    have e : (entV a).1.sameKey (.int .i64 n) = decide ((a.1 : Int) = n) := sameKey_int _ _
    rw [e]
    cases decide ((a.1 : Int) = n) with
    | true => rfl
    | false => exact ih
theorem toV_delete (f : Nat × Nat → Bool) (pd : Lit → DataW Nat → Bool) (S : List (Nat × Nat)) (h : ∀ p ∈ S, pd (.int .i64 p.1) (.held p.2) = f p) : Lib.deleteFuncD pd (toV S) = toV (S.filter fun p => !f p) := by
  show DataW.map ((S.map entV).filter fun q => !pd q.1 q.2) = _
  rw [List.filter_map]
  unfold toV
  congr 2
  refine List.filter_congr fun e he => ?_
  show (!pd (.int .i64 e.1) (.held e.2)) = _
  rw [h e he]
theorem toV_keys (S : List (Nat × Nat)) : intKeys (toV S) = S.map fun p => (p.1 : Int) := by
  show (S.map entV).map (fun p => intOf p.1) = _
  rw [List.map_map]; rfl
theorem toV_size (S : List (Nat × Nat)) : Maps.size (toV S) = S.length := by show (S.map entV).length = _; rw [List.length_map]
theorem sorted_nums {S : List (Nat × Nat)} (h : S.Pairwise fun a b => a.1 < b.1) {ss : List Int} (hp : ss.Perm (intKeys (toV S))) : ss.mergeSort (fun x y => decide (x ≤ y)) = S.map fun p => (p.1 : Int) := by
  rw [toV_keys] at hp
  have h1 : (ss.mergeSort (fun x y => decide (x ≤ y))).Pairwise (fun x y => decide (x ≤ y) = true) := List.pairwise_mergeSort (fun a b c h1 h2 => by simp at h1 h2 ⊢; omega) (fun a b => by simp; omega) ss
  have h2 : (S.map fun p => (p.1 : Int)).Pairwise (fun x y => decide (x ≤ y) = true) := by
    rw [List.pairwise_map]
    exact h.imp fun {a b} hab => decide_eq_true (by omega)
  exact List.Perm.eq_of_pairwise (le := fun (x y : Int) => decide (x ≤ y) = true) (fun a b _ _ g1 g2 => by simp at g1 g2; omega) h1 h2 ((List.mergeSort_perm ss _).trans hp)
end Go.Proofs.YtboilcfeegigcaaGreatDoor
