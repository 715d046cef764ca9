/- What is new between bundles, plainly. No program. -/
import Derived.Test.YtmpjfomfibkbnaaGreatDoorWords
set_option linter.unusedSimpArgs false
set_option linter.unusedVariables false
namespace Go.Proofs.YtmpjfomfibkbnaaGreatDoor
open Go.RowKit Go.Maps

/- ## Right bundles -/
theorem entAt_zero {l : List Ent} {j : Nat} (hj : j < l.length) : entAt l j = 0 ↔ keyOk l[j].key = true ∧ (l.take j).any (fun e => eqs e.key l[j].key) = false ∧ l[j].text.size ≤ 2000 := by
  have : l.getD j noEnt = l[j] := by rw [List.getD_eq_getElem?_getD, List.getElem?_eq_getElem hj]; rfl
  unfold entAt
  rw [this]
  cases keyOk l[j].key <;> cases (l.take j).any (fun e => eqs e.key l[j].key) <;> by_cases h : 2000 < l[j].text.size <;> simp [h] <;> omega
structure Right (b : Bun) : Prop where
  tag : isTag b.tag = true
  len : b.ents.length ≤ 100
  uniq : Uniq b.ents
  each : ∀ e ∈ b.ents, keyOk e.key = true ∧ e.text.size ≤ 2000
theorem uniq_iff (l : List Ent) : Uniq l ↔ ∀ j (h : j < l.length), (l.take j).any (fun e => eqs e.key l[j].key) = false := by
  unfold Uniq
  rw [List.pairwise_iff_getElem]
  constructor
  · intro h j hj
    rw [List.any_eq_false]
    intro x hx
    obtain ⟨i, hi, rfl⟩ := List.getElem_of_mem hx
    rw [List.length_take] at hi
    rw [List.getElem_take]
    have := h i j (by omega) hj (by omega)
    rw [Bool.not_eq_true, eqs_false]; exact this
  · intro h i j hi hj hij
    have := h j hj
    rw [List.any_eq_false] at this
    have h2 := this l[i] (by
      have : (l.take j)[i]'(by rw [List.length_take]; omega) = l[i] := List.getElem_take
      rw [← this]; exact List.getElem_mem _)
    rw [Bool.not_eq_true, eqs_false] at h2; exact h2
theorem right_iff (b : Bun) : bunFault b = 0 ↔ Right b := by
  unfold bunFault
  cases ht : isTag b.tag with
  | false => exact ⟨fun h => by simp at h, fun h => by rw [h.tag] at ht; cases ht⟩
  | true =>
    simp only [if_true]
    by_cases hl : 100 < b.ents.length
    · rw [if_pos hl]; exact ⟨fun h => by simp at h, fun h => by have := h.len; omega⟩
    · rw [if_neg hl, firstN_zero_iff]
      constructor
      · intro h
        refine ⟨ht, by omega, (uniq_iff _).2 fun j hj => ((entAt_zero hj).1 (h j hj)).2.1, fun e he => ?_⟩
        obtain ⟨j, hj, rfl⟩ := List.getElem_of_mem he
        have := (entAt_zero hj).1 (h j hj)
        exact ⟨this.1, this.2.2⟩
      · intro h j hj
        have := h.each _ (List.getElem_mem hj)
        exact (entAt_zero hj).2 ⟨this.1, (uniq_iff _).1 h.uniq j hj, this.2⟩
theorem Right.sub {b : Bun} (h : Right b) {l : List Ent} (hu : Uniq l) (hs : ∀ e ∈ l, e ∈ b.ents) (hl : l.length ≤ 100) : Right ⟨b.tag, l⟩ := ⟨h.tag, hl, hu, fun e he => h.each e (hs e he)⟩

/- ## The document's order -/
def insQ (S : List Ent) (x : Ent) : List Ent := S.takeWhile (fun y => ltK y.key x.key) ++ x :: S.dropWhile (fun y => ltK y.key x.key)
def qSorted (l : List Ent) : List Ent := l.foldl insQ []
theorem insQ_ins {x : Ent} : ∀ {S : List Ent}, (∀ e ∈ S, e.key ≠ x.key) → Srt S → insQ S x = insE x S
  | [], _, _ => rfl
  | a :: r, hn, hs => by
    obtain ⟨h1, h2⟩ := List.pairwise_cons.1 hs
    have ih := insQ_ins (x := x) (S := r) (fun e he => hn e (List.mem_cons_of_mem _ he)) h2
    unfold insQ insE
    rw [List.takeWhile_cons, List.dropWhile_cons]
    cases h : ltK a.key x.key with
    | true =>
      rw [ltK_asymm h]
      simp only [if_true, Bool.false_eq_true, if_false, List.cons_append]
      rw [← ih]; rfl
    | false =>
      have : ltK x.key a.key = true := by
        rcases ltK_tri x.key a.key with k | k | k
        · exact k
        · exact absurd k.symm (hn a List.mem_cons_self)
        · rw [k] at h; cases h
      rw [this]
      simp
theorem foldQ : ∀ (l S : List Ent), Srt S → Uniq (S ++ l) → l.foldl insQ S = l.foldl putE S
  | [], _, _, _ => rfl
  | a :: r, S, hs, hu => by
    have hn : ∀ e ∈ S, e.key ≠ a.key := fun e he => (List.pairwise_append.1 hu).2.2 e he a List.mem_cons_self
    have hp : putE S a = insE a S := by unfold putE; rw [filter_self hn]
    rw [List.foldl_cons, List.foldl_cons, insQ_ins hn hs, hp]
    refine foldQ r _ (insE_srt hs hn) ?_
    have hq : (insE a S ++ r).Perm (S ++ a :: r) := ((insE_perm a S).append_right r).trans List.perm_middle.symm
    exact hq.symm.pairwise hu fun {x y} hxy => Ne.symm hxy
theorem qSorted_srt {l : List Ent} (h : Uniq l) : qSorted l = srt l := foldQ l [] List.Pairwise.nil h

/- ## What is new, what goes -/
def hasText (S : List Ent) (e : Ent) : Bool := match textK S e.key with | some t => eqs t e.text | none => false
def diffPut (a b : List Ent) : List Ent := (srt b).filter fun e => !hasText a e
def diffOut (a b : List Ent) : List Ent := (srt a).filter fun e => !hasK b e.key
def diffGone (a b : List Ent) : List ByteArray := (diffOut a b).map (·.key)
theorem hasText_iff {S : List Ent} (hu : Uniq S) {e : Ent} : hasText S e = true ↔ e ∈ S := by
  unfold hasText
  constructor
  · intro h
    cases ht : textK S e.key with
    | none => rw [ht] at h; cases h
    | some t =>
      rw [ht] at h
      obtain ⟨x, hx, h1, h2⟩ := textK_mem ht
      have h3 : t = e.text := (eqs_iff _ _).1 h
      have : x = e := by cases x; cases e; simp_all
      rw [← this]; exact hx
  · intro h
    rw [textK_some hu h]; exact eqs_self _
theorem hasText_perm {S T : List Ent} (hu : Uniq S) (h : S.Perm T) (e : Ent) : hasText S e = hasText T e := by unfold hasText; rw [textK_perm hu h]
theorem mem_put {a b : List Ent} (ha : Uniq a) (hb : Uniq b) {e : Ent} : e ∈ diffPut a b ↔ e ∈ b ∧ e ∉ a := by
  unfold diffPut
  rw [List.mem_filter, mem_srt hb, Bool.not_eq_true', ← Bool.not_eq_true, hasText_iff ha]
theorem mem_gone {a b : List Ent} (ha : Uniq a) {g : ByteArray} : g ∈ diffGone a b ↔ hasK a g = true ∧ hasK b g = false := by
  unfold diffGone diffOut
  rw [List.mem_map]
  constructor
  · rintro ⟨e, he, rfl⟩
    obtain ⟨h1, h2⟩ := List.mem_filter.1 he
    exact ⟨hasK_iff.2 ⟨e, (mem_srt ha).1 h1, rfl⟩, by simpa using h2⟩
  · rintro ⟨h1, h2⟩
    obtain ⟨e, he, rfl⟩ := hasK_iff.1 h1
    exact ⟨e, List.mem_filter.2 ⟨(mem_srt ha).2 he, by simpa using h2⟩, rfl⟩
theorem put_srt (a b : List Ent) : Srt (diffPut a b) := (srt_srt b).filter _
theorem out_srt (a b : List Ent) : Srt (diffOut a b) := (srt_srt a).filter _
theorem put_len {a b : List Ent} (hb : Uniq b) : (diffPut a b).length ≤ b.length := by
  have := List.length_filter_le (fun e => !hasText a e) (srt b)
  rw [srt_length hb] at this; exact this
theorem out_len {a b : List Ent} (ha : Uniq a) : (diffGone a b).length ≤ a.length := by
  have := List.length_filter_le (fun e => !hasK b e.key) (srt a)
  rw [srt_length ha] at this
  unfold diffGone; rw [List.length_map]; exact this
theorem Right.put {a b : Bun} (ha : Right a) (hb : Right b) : Right ⟨b.tag, diffPut a.ents b.ents⟩ :=
  hb.sub (put_srt _ _).uniq (fun _e he => ((mem_put ha.uniq hb.uniq).1 he).1) (Nat.le_trans (put_len hb.uniq) hb.len)
theorem Right.srt {b : Bun} (h : Right b) : Right ⟨b.tag, srt b.ents⟩ := h.sub (srt_srt _).uniq (fun e he => (mem_srt h.uniq).1 he) (by rw [srt_length h.uniq]; exact h.len)
theorem put_none {b : List Ent} (h : Uniq b) : diffPut b (srt b) = [] := by
  rw [List.eq_nil_iff_forall_not_mem]
  intro e he
  have := (mem_put h (srt_srt b).uniq).1 he
  exact this.2 ((mem_srt h).1 this.1)
theorem gone_none {b : List Ent} (h : Uniq b) : diffGone b (srt b) = [] := by
  rw [List.eq_nil_iff_forall_not_mem]
  intro g hg
  have := (mem_gone h).1 hg
  rw [hasK_perm (srt_perm h).symm, this.2] at this
  cases this.1

/- ## What is new is put, what goes goes -/
def goneAt (a p : List Ent) (gone : List ByteArray) (j : Nat) : Int :=
  if hasK a (gone.getD j ByteArray.empty) then (if hasK p (gone.getD j ByteArray.empty) || (gone.take j).any (eqs · (gone.getD j ByteArray.empty)) then 5 else 0) else 2
def cutAll (a : List Ent) (gone : List ByteArray) : List Ent := (srt a).filter fun e => !gone.any (eqs e.key ·)
def applied (a p : List Ent) (gone : List ByteArray) : List Ent := (srt p).foldl putE (cutAll a gone)
def applyErr (a p : List Ent) (gone : List ByteArray) : Int :=
  if firstN (goneAt a p gone) gone.length = 0 then (if 100 < (applied a p gone).length then 4 else 0) else firstN (goneAt a p gone) gone.length
/-- The document's: what is put, and what of the other one is neither put nor goes. -/
def rest (a p : List Ent) (gone : List ByteArray) : List Ent := p ++ a.filter fun e => !hasK p e.key && !gone.any (eqs · e.key)
theorem rest_uniq {a p : List Ent} (ha : Uniq a) (hp : Uniq p) (gone : List ByteArray) : Uniq (rest a p gone) := by
  refine List.pairwise_append.2 ⟨hp, ha.filter _, fun x hx y hy e => ?_⟩
  have h := (List.mem_filter.1 hy).2
  rw [Bool.and_eq_true, Bool.not_eq_true'] at h
  have : hasK p y.key = true := hasK_iff.2 ⟨x, hx, e⟩
  rw [h.1] at this; cases this
theorem putE_mem {S : List Ent} {x e : Ent} : e ∈ putE S x ↔ e = x ∨ (e ∈ S ∧ e.key ≠ x.key) := by
  unfold putE
  rw [mem_insE, List.mem_filter, Bool.not_eq_true', eqs_false]
theorem foldPut_mem : ∀ {l S : List Ent} {e : Ent}, Uniq l → (e ∈ l.foldl putE S ↔ e ∈ l ∨ (e ∈ S ∧ ∀ x ∈ l, e.key ≠ x.key))
  | [], S, e, _ => by simp
  | a :: r, S, e, hu => by
    obtain ⟨h1, h2⟩ := List.pairwise_cons.1 hu
    rw [List.foldl_cons, foldPut_mem h2, putE_mem]
    constructor
    · rintro (h | ⟨rfl | ⟨h, hk⟩, h3⟩)
      · exact .inl (List.mem_cons_of_mem _ h)
      · exact .inl List.mem_cons_self
      · exact .inr ⟨h, fun x hx => by
          rcases List.mem_cons.1 hx with rfl | hx
          · exact hk
          · exact h3 x hx⟩
    · rintro (h | ⟨h, h3⟩)
      · rcases List.mem_cons.1 h with rfl | h
        · exact .inr ⟨.inl rfl, fun x hx => h1 x hx⟩
        · exact .inl h
      · exact .inr ⟨.inr ⟨h, h3 a List.mem_cons_self⟩, fun x hx => h3 x (List.mem_cons_of_mem _ hx)⟩
theorem uniq_nodup {l : List Ent} (h : Uniq l) : l.Nodup := h.imp fun hab e => hab (by rw [e])
theorem applied_rest {a p : List Ent} (ha : Uniq a) (hp : Uniq p) (gone : List ByteArray) : (applied a p gone).Perm (rest a p gone) := by
  have hs : Srt (applied a p gone) := foldPut_srt _ _ ((srt_srt a).filter _)
  refine (List.perm_ext_iff_of_nodup (uniq_nodup hs.uniq) (uniq_nodup (rest_uniq ha hp gone))).2 fun e => ?_
  unfold applied rest cutAll
  rw [foldPut_mem (srt_srt p).uniq, List.mem_append, mem_srt hp, List.mem_filter, mem_srt ha, List.mem_filter]
  have h1 : (∀ x ∈ srt p, e.key ≠ x.key) ↔ hasK p e.key = false := by
    rw [← Bool.not_eq_true, hasK_iff]
    constructor
    · rintro h ⟨x, hx, hk⟩; exact h x ((mem_srt hp).2 hx) hk.symm
    · intro h x hx hk; exact h ⟨x, (mem_srt hp).1 hx, hk.symm⟩
  have h2 : (gone.any fun x => eqs e.key x) = gone.any (eqs · e.key) := by congr 1; funext x; exact eqs_comm _ _
  rw [h1, h2]
  cases hasK p e.key <;> cases gone.any (eqs · e.key) <;> simp
theorem applied_srt {a p : List Ent} (ha : Uniq a) (hp : Uniq p) (gone : List ByteArray) : applied a p gone = srt (rest a p gone) :=
  srt_eq (foldPut_srt _ _ ((srt_srt a).filter _)) (srt_srt _) ((applied_rest ha hp gone).trans (srt_perm (rest_uniq ha hp gone)).symm)
theorem applied_len {a p : List Ent} (ha : Uniq a) (hp : Uniq p) (gone : List ByteArray) : (applied a p gone).length = (rest a p gone).length := (applied_rest ha hp gone).length_eq
/-- By what is new of another one comes the other one. -/
theorem applies {a b : List Ent} (ha : Uniq a) (hb : Uniq b) : applied a (diffPut a b) (diffGone a b) = srt b := by
  have hpu := (put_srt a b).uniq
  rw [applied_srt ha hpu]
  refine srt_of_perm (rest_uniq ha hpu _) ?_
  refine (List.perm_ext_iff_of_nodup (uniq_nodup (rest_uniq ha hpu _)) (uniq_nodup hb)).2 fun e => ?_
  unfold rest
  rw [List.mem_append, mem_put ha hb, List.mem_filter]
  have hg : ((diffGone a b).any (eqs · e.key)) = true ↔ hasK a e.key = true ∧ hasK b e.key = false := by
    rw [← mem_gone ha, List.any_eq_true]
    exact ⟨fun ⟨x, h1, h2⟩ => by rw [← (eqs_iff _ _).1 h2]; exact h1, fun h => ⟨_, h, eqs_self _⟩⟩
  constructor
  · rintro (h | ⟨h1, h2⟩)
    · exact h.1
    · rw [Bool.and_eq_true, Bool.not_eq_true', Bool.not_eq_true'] at h2
      have hka : hasK a e.key = true := hasK_iff.2 ⟨e, h1, rfl⟩
      have hkb : hasK b e.key = true := by
        cases hk : hasK b e.key with
        | true => rfl
        | false => rw [hg.2 ⟨hka, hk⟩] at h2; cases h2.2
      obtain ⟨x, hx, hxk⟩ := hasK_iff.1 hkb
      by_cases hxa : x ∈ a
      · have : x = e := by
          have h3 := textK_some ha hxa
          have h4 := textK_some ha h1
          rw [hxk, h4] at h3
          injection h3 with h3
          cases x; cases e; simp_all
        rw [← this]; exact hx
      · have : hasK (diffPut a b) e.key = true := hasK_iff.2 ⟨x, (mem_put ha hb).2 ⟨hx, hxa⟩, hxk⟩
        rw [h2.1] at this; cases this
  · intro h
    by_cases hea : e ∈ a
    · refine .inr ⟨hea, ?_⟩
      rw [Bool.and_eq_true, Bool.not_eq_true', Bool.not_eq_true']
      constructor
      · rw [← Bool.not_eq_true, hasK_iff]
        rintro ⟨x, hx, hxk⟩
        obtain ⟨hxb, hxa⟩ := (mem_put ha hb).1 hx
        have h3 := textK_some hb hxb
        have h4 := textK_some hb h
        rw [hxk, h4] at h3
        injection h3 with h3
        have : x = e := by cases x; cases e; simp_all
        rw [this] at hxa
        exact hxa hea
      · rw [← Bool.not_eq_true, hg]
        rintro ⟨_, h5⟩
        rw [hasK_iff.2 ⟨e, h, rfl⟩] at h5; cases h5
    · exact .inl ⟨h, hea⟩
theorem gone_nodup (a b : List Ent) : (diffGone a b).Nodup := List.pairwise_map.2 ((out_srt a b).uniq.imp fun h => h)
theorem gone_fine {a b : List Ent} (ha : Uniq a) (hb : Uniq b) : firstN (goneAt a (diffPut a b) (diffGone a b)) (diffGone a b).length = 0 := by
  refine firstN_zero _ _ fun j hj => ?_
  have hgd : (diffGone a b).getD j ByteArray.empty = (diffGone a b)[j] := by rw [List.getD_eq_getElem?_getD, List.getElem?_eq_getElem hj]; rfl
  obtain ⟨h1, h2⟩ := (mem_gone ha).1 (List.getElem_mem hj)
  unfold goneAt
  rw [hgd, h1]
  have h3 : hasK (diffPut a b) (diffGone a b)[j] = false := by
    rw [← Bool.not_eq_true, hasK_iff]
    rintro ⟨x, hx, hxk⟩
    have := hasK_iff.2 ⟨x, ((mem_put ha hb).1 hx).1, hxk⟩
    rw [h2] at this; cases this
  have h4 : ((diffGone a b).take j).any (eqs · (diffGone a b)[j]) = false := by
    rw [List.any_eq_false]
    intro x hx
    obtain ⟨i, hi, rfl⟩ := List.getElem_of_mem hx
    rw [List.length_take] at hi
    rw [List.getElem_take, Bool.not_eq_true, eqs_false]
    exact List.pairwise_iff_getElem.1 (gone_nodup a b) i j (by omega) hj (by omega)
  rw [h3, h4]
  rfl
end Go.Proofs.YtmpjfomfibkbnaaGreatDoor
