/- Entries by rising keys, plainly; what maps of words hold. No program. -/
import Derived.Test.YtiaobgapfoogiaaGreatDoorBun
import Derived.Sort.KeysCollected
import Derived.Lib.SlMapMerge
import Derived.Lib.SlMapFilter
set_option linter.unusedSimpArgs false
set_option linter.unusedVariables false
namespace Go.Proofs.YtiaobgapfoogiaaGreatDoor
open Go.RowKit Go.Maps

/- ## The order of keys -/
theorem bb_irr : ∀ a : List UInt8, bytesBefore a a = false
  | [] => rfl
  | a :: r => by simp [bytesBefore, bb_irr r]
theorem bb_trans : ∀ a b c : List UInt8, bytesBefore a b = true → bytesBefore b c = true → bytesBefore a c = true
  | [], [], _, h, _ => by cases h
  | [], _ :: _, [], _, h => by cases h
  | [], _ :: _, _ :: _, _, _ => rfl
  | _ :: _, [], _, h, _ => by cases h
  | _ :: _, _ :: _, [], _, h => by cases h
  | a :: r, b :: s, c :: t, h1, h2 => by
    simp only [bytesBefore, Bool.or_eq_true, Bool.and_eq_true, beq_iff_eq, decide_eq_true_eq] at h1 h2 ⊢
    rcases h1 with h1 | ⟨rfl, h1⟩
    · rcases h2 with h2 | ⟨rfl, h2⟩
      · exact .inl (UInt8.lt_trans h1 h2)
      · exact .inl h1
    · rcases h2 with h2 | ⟨rfl, h2⟩
      · exact .inl h2
      · exact .inr ⟨rfl, bb_trans r s t h1 h2⟩
theorem bb_tri : ∀ a b : List UInt8, bytesBefore a b = true ∨ a = b ∨ bytesBefore b a = true
  | [], [] => .inr (.inl rfl)
  | [], _ :: _ => .inl rfl
  | _ :: _, [] => .inr (.inr rfl)
  | a :: r, b :: s => by
    simp only [bytesBefore, Bool.or_eq_true, Bool.and_eq_true, beq_iff_eq, decide_eq_true_eq, List.cons.injEq]
    rcases Nat.lt_trichotomy a.toNat b.toNat with h | h | h
    · exact .inl (.inl (UInt8.lt_iff_toNat_lt.2 h))
    · obtain rfl : a = b := UInt8.toNat_inj.1 h
      rcases bb_tri r s with h | h | h
      · exact .inl (.inr ⟨rfl, h⟩)
      · exact .inr (.inl ⟨rfl, h⟩)
      · exact .inr (.inr (.inr ⟨rfl, h⟩))
    · exact .inr (.inr (.inl (UInt8.lt_iff_toNat_lt.2 h)))
theorem bb_less : ∀ a b : List UInt8, Op.bytesLess a b = bytesBefore a b
  | [], [] => rfl
  | [], _ :: _ => rfl
  | _ :: _, [] => rfl
  | a :: r, b :: s => by simp only [Op.bytesLess, bytesBefore, bb_less r s]
theorem bb_lt : ∀ a b : List UInt8, bytesBefore a b = decide (a < b)
  | [], [] => by simp [bytesBefore]
  | [], _ :: _ => by simp [bytesBefore]
  | _ :: _, [] => by simp [bytesBefore]
  | a :: r, b :: s => by
    rw [Bool.eq_iff_iff]
    simp only [bytesBefore, bb_lt r s, Bool.or_eq_true, Bool.and_eq_true, beq_iff_eq, decide_eq_true_eq, List.cons_lt_cons_iff]
def ltK (a b : ByteArray) : Bool := bytesBefore (bts a) (bts b)
theorem ltK_irr (a : ByteArray) : ltK a a = false := bb_irr _
theorem ltK_trans {a b c : ByteArray} (h : ltK a b = true) (k : ltK b c = true) : ltK a c = true := bb_trans _ _ _ h k
theorem ltK_tri (a b : ByteArray) : ltK a b = true ∨ a = b ∨ ltK b a = true := (bb_tri _ _).imp id fun h => h.imp bts_inj id
theorem ltK_asymm {a b : ByteArray} (h : ltK a b = true) : ltK b a = false := by
  cases k : ltK b a with
  | false => rfl
  | true => have := ltK_trans h k; rw [ltK_irr] at this; cases this
theorem ltK_ne {a b : ByteArray} (h : ltK a b = true) : a ≠ b := fun e => by rw [e, ltK_irr] at h; cases h
theorem eqs_comm (a b : ByteArray) : eqs a b = eqs b a := by
  rw [Bool.eq_iff_iff, eqs_iff, eqs_iff]; exact eq_comm

/- ## Entries by rising keys -/
def Srt (S : List Ent) : Prop := S.Pairwise fun a b => ltK a.key b.key = true
def insE (x : Ent) : List Ent → List Ent
  | [] => [x]
  | y :: r => if ltK x.key y.key then x :: y :: r else y :: insE x r
def putE (S : List Ent) (x : Ent) : List Ent := insE x (S.filter fun e => !eqs e.key x.key)
def srt (l : List Ent) : List Ent := l.foldl putE []
def hasK (S : List Ent) (k : ByteArray) : Bool := S.any fun e => eqs e.key k
def textK (S : List Ent) (k : ByteArray) : Option ByteArray := (S.find? fun e => eqs e.key k).map (·.text)
def Uniq (l : List Ent) : Prop := l.Pairwise fun a b => a.key ≠ b.key
theorem mem_insE {x y : Ent} : ∀ {S : List Ent}, y ∈ insE x S ↔ y = x ∨ y ∈ S
  | [] => by simp [insE]
  | a :: r => by
    unfold insE
    split
    · simp
    · simp only [List.mem_cons, mem_insE (S := r)]
      constructor
      · rintro (h | h | h)
        · exact .inr (.inl h)
        · exact .inl h
        · exact .inr (.inr h)
      · rintro (h | h | h)
        · exact .inr (.inl h)
        · exact .inl h
        · exact .inr (.inr h)
theorem insE_perm (x : Ent) : ∀ S : List Ent, (insE x S).Perm (x :: S)
  | [] => List.Perm.refl _
  | a :: r => by
    unfold insE
    split
    · exact List.Perm.refl _
    · exact ((insE_perm x r).cons a).trans (List.Perm.swap x a r)
theorem insE_srt {x : Ent} : ∀ {S : List Ent}, Srt S → (∀ e ∈ S, e.key ≠ x.key) → Srt (insE x S)
  | [], _, _ => List.pairwise_singleton _ _
  | a :: r, h, hn => by
    obtain ⟨h1, h2⟩ := List.pairwise_cons.1 h
    unfold insE
    split
    · rename_i hx
      refine List.pairwise_cons.2 ⟨fun b hb => ?_, h⟩
      rcases List.mem_cons.1 hb with rfl | hb
      · exact hx
      · exact ltK_trans hx (h1 b hb)
    · rename_i hx
      refine List.pairwise_cons.2 ⟨fun b hb => ?_, insE_srt h2 fun e he => hn e (List.mem_cons_of_mem _ he)⟩
      rcases mem_insE.1 hb with rfl | hb
      · rcases ltK_tri a.key b.key with h | h | h
        · exact h
        · exact absurd h (hn a List.mem_cons_self)
        · exact absurd h hx
      · exact h1 b hb
theorem Srt.uniq {S : List Ent} (h : Srt S) : Uniq S := h.imp fun hab => ltK_ne hab
theorem Srt.filter {S : List Ent} (h : Srt S) (p : Ent → Bool) : Srt (S.filter p) := List.Pairwise.filter p h
theorem Uniq.filter {S : List Ent} (h : Uniq S) (p : Ent → Bool) : Uniq (S.filter p) := List.Pairwise.filter p h
theorem putE_srt {S : List Ent} (h : Srt S) (x : Ent) : Srt (putE S x) := insE_srt (h.filter _) fun e he => by
  have := (List.mem_filter.1 he).2
  rw [Bool.not_eq_true', eqs_false] at this
  exact this
theorem foldPut_srt : ∀ (l S : List Ent), Srt S → Srt (l.foldl putE S)
  | [], _, h => h
  | a :: r, _, h => foldPut_srt r _ (putE_srt h a)
theorem srt_srt (l : List Ent) : Srt (srt l) := foldPut_srt l [] List.Pairwise.nil
theorem filter_self {S : List Ent} {k : ByteArray} (h : ∀ e ∈ S, e.key ≠ k) : (S.filter fun e => !eqs e.key k) = S :=
  List.filter_eq_self.2 fun e he => by rw [Bool.not_eq_true', eqs_false]; exact h e he
theorem foldPut_perm : ∀ (l S : List Ent), Uniq (S ++ l) → (l.foldl putE S).Perm (S ++ l)
  | [], S, _ => by rw [List.append_nil]; exact List.Perm.refl _
  | a :: r, S, h => by
    have hn : ∀ e ∈ S, e.key ≠ a.key := fun e he => (List.pairwise_append.1 h).2.2 e he a List.mem_cons_self
    have hp : (putE S a).Perm (a :: S) := by unfold putE; rw [filter_self hn]; exact insE_perm a S
    have h2 : (a :: S ++ r).Perm (S ++ a :: r) := List.perm_middle.symm
    have hq : (putE S a ++ r).Perm (S ++ a :: r) := (hp.append_right r).trans h2
    have hu : Uniq (putE S a ++ r) := hq.symm.pairwise h fun {x y} hxy => Ne.symm hxy
    exact (foldPut_perm r _ hu).trans hq
theorem srt_perm {l : List Ent} (h : Uniq l) : (srt l).Perm l := foldPut_perm l [] h
theorem mem_srt {l : List Ent} (h : Uniq l) {e : Ent} : e ∈ srt l ↔ e ∈ l := (srt_perm h).mem_iff
theorem srt_length {l : List Ent} (h : Uniq l) : (srt l).length = l.length := (srt_perm h).length_eq
theorem srt_eq {S T : List Ent} (hS : Srt S) (hT : Srt T) (h : S.Perm T) : S = T :=
  List.Perm.eq_of_pairwise (le := fun (a b : Ent) => ltK a.key b.key = true) (fun a b _ _ h1 h2 => by rw [ltK_asymm h1] at h2; cases h2) hS hT h
theorem srt_of_srt {S : List Ent} (h : Srt S) : srt S = S := srt_eq (srt_srt S) h (srt_perm h.uniq)
theorem srt_of_perm {S T : List Ent} (h : Uniq S) (hp : S.Perm T) : srt S = srt T :=
  srt_eq (srt_srt S) (srt_srt T) ((srt_perm h).trans (hp.trans (srt_perm (hp.pairwise h fun {x _y} hxy => Ne.symm hxy)).symm))
theorem srt_filter {l : List Ent} (h : Uniq l) (p : Ent → Bool) : srt (l.filter p) = (srt l).filter p :=
  srt_eq (srt_srt _) ((srt_srt l).filter p) ((srt_perm (h.filter p)).trans ((srt_perm h).filter p).symm)
theorem hasK_perm {S T : List Ent} (h : S.Perm T) (k : ByteArray) : hasK S k = hasK T k := by
  unfold hasK
  rw [Bool.eq_iff_iff, List.any_eq_true, List.any_eq_true]
  exact ⟨fun ⟨e, h1, h2⟩ => ⟨e, h.mem_iff.1 h1, h2⟩, fun ⟨e, h1, h2⟩ => ⟨e, h.mem_iff.2 h1, h2⟩⟩
theorem hasK_iff {S : List Ent} {k : ByteArray} : hasK S k = true ↔ ∃ e ∈ S, e.key = k := by
  unfold hasK
  rw [List.any_eq_true]
  exact ⟨fun ⟨e, h1, h2⟩ => ⟨e, h1, (eqs_iff _ _).1 h2⟩, fun ⟨e, h1, h2⟩ => ⟨e, h1, (eqs_iff _ _).2 h2⟩⟩
theorem textK_some {S : List Ent} (hu : Uniq S) {e : Ent} (h : e ∈ S) : textK S e.key = some e.text := by
  unfold textK
  induction S with
  | nil => cases h
  | cons a r ih =>
    obtain ⟨h1, h2⟩ := List.pairwise_cons.1 hu
    rw [List.find?_cons]
    rcases List.mem_cons.1 h with rfl | h
    · rw [eqs_self]; rfl
    · have : eqs a.key e.key = false := (eqs_false _ _).2 (h1 e h)
      rw [this]
      exact ih h2 h
theorem textK_none {S : List Ent} {k : ByteArray} : textK S k = none ↔ hasK S k = false := by
  unfold textK hasK
  rw [Option.map_eq_none_iff, List.find?_eq_none, List.any_eq_false]
theorem textK_mem {S : List Ent} {k t : ByteArray} (h : textK S k = some t) : ∃ e ∈ S, e.key = k ∧ e.text = t := by
  unfold textK at h
  rw [Option.map_eq_some_iff] at h
  obtain ⟨e, h1, h2⟩ := h
  exact ⟨e, List.mem_of_find?_eq_some h1, (eqs_iff _ _).1 (List.find?_some h1 : _), h2⟩
theorem textK_perm {S T : List Ent} (hu : Uniq S) (h : S.Perm T) (k : ByteArray) : textK S k = textK T k := by
  have hT : Uniq T := h.pairwise hu fun {x y} hxy => Ne.symm hxy
  cases hs : textK S k with
  | none => exact ((textK_none.2 ((hasK_perm h k).symm.trans (textK_none.1 hs)))).symm
  | some t =>
    obtain ⟨e, he, rfl, rfl⟩ := textK_mem hs
    exact (textK_some hT (h.mem_iff.1 he)).symm

/- ## What a map of words reads as -/
def entL (e : Ent) : Lit × DataW Unit := (.string (bts e.key), .lit (.string (bts e.text)))
def toD (S : List Ent) : DataW Unit := .map (S.map entL)
theorem sameKey_eqs (a b : ByteArray) : (Lit.string (bts a)).sameKey (.string (bts b)) = eqs a b := by rw [eqs_bts]; rfl
theorem insert_ins (x : Ent) : ∀ S : List Ent, DataW.insert (entL x) (S.map entL) = (insE x S).map entL
  | [] => rfl
  | y :: r => by
    rw [List.map_cons, DataW.insert]
    have e : (entL x).1.before (entL y).1 = ltK x.key y.key := rfl
    rw [e, insE]
    split
    · rfl
    · rw [insert_ins x r]; rfl
theorem filter_entL (k : ByteArray) (S : List Ent) : ((S.map entL).filter fun p => !p.1.sameKey (.string (bts k))) = (S.filter fun e => !eqs e.key k).map entL := by
  rw [List.filter_map]
  congr 2
  funext e
  show (!(Lit.string (bts e.key)).sameKey _) = _
  rw [sameKey_eqs]
theorem toD_put (S : List Ent) (x : Ent) : (toD S).put (.string (bts x.key)) (.lit (.string (bts x.text))) = toD (putE S x) := by
  show DataW.map (DataW.insert (entL x) ((S.map entL).filter fun p => !p.1.sameKey (.string (bts x.key)))) = _
  rw [filter_entL, insert_ins]
  rfl
theorem toD_del (S : List Ent) (k : ByteArray) : (toD S).del (.string (bts k)) = toD (S.filter fun e => !eqs e.key k) := by
  show DataW.map ((S.map entL).filter fun p => !p.1.sameKey (.string (bts k))) = _
  rw [filter_entL]; rfl
theorem toD_has (S : List Ent) (k : ByteArray) : Maps.has (toD S) (.string (bts k)) = hasK S k := by
  show (S.map entL).any (fun p => p.1.sameKey (.string (bts k))) = _
  rw [List.any_map]
  unfold hasK
  congr 1
  funext e
  exact sameKey_eqs _ _
theorem toD_at (S : List Ent) (k : ByteArray) (z : DataW Unit) : (toD S).atKey (.string (bts k)) z = match textK S k with | some t => .lit (.string (bts t)) | none => z := by
  unfold toD DataW.atKey textK
  dsimp only
  induction S with
  | nil => rfl
  | cons a r ih =>
    rw [List.map_cons, List.find?_cons, List.find?_cons]
    have e : (entL a).1.sameKey (.string (bts k)) = eqs a.key k := sameKey_eqs _ _
    rw [e]
    cases eqs a.key k with
    | true => rfl
    | false => exact ih
theorem toD_size (S : List Ent) : Maps.size (toD S) = S.length := by show (S.map entL).length = _; rw [List.length_map]
theorem toD_keys (S : List Ent) : strKeys (toD S) = S.map fun e => bts e.key := by
  show (S.map entL).map (fun p => strOf p.1) = _
  rw [List.map_map]; rfl
theorem toD_merge : ∀ (T S : List Ent), Lib.mergeD (toD S) (toD T) = toD (T.foldl putE S)
  | [], S => rfl
  | a :: r, S => by
    have ih := toD_merge r (putE S a)
    show ((entL a :: r.map entL).foldl (fun D p => D.put p.1 p.2) (toD S)) = _
    rw [List.foldl_cons, List.foldl_cons, ← ih]
    show _ = (r.map entL).foldl (fun D p => D.put p.1 p.2) (toD (putE S a))
    rw [← toD_put]; rfl
theorem toD_delete (p : Ent → Bool) (pd : Lit → DataW Unit → Bool) (S : List Ent) (h : ∀ e ∈ S, pd (.string (bts e.key)) (.lit (.string (bts e.text))) = p e) : Lib.deleteFuncD pd (toD S) = toD (S.filter fun e => !p e) := by
  show DataW.map ((S.map entL).filter fun q => !pd q.1 q.2) = _
  rw [List.filter_map]
  unfold toD
  congr 2
  refine List.filter_congr fun e he => ?_
  show (!pd (.string (bts e.key)) (.lit (.string (bts e.text)))) = _
  rw [h e he]
/-- sorted keys of a map are its keys -/
theorem sorted_keys {S : List Ent} (h : Srt S) {ss : List (List UInt8)} (hp : ss.Perm (strKeys (toD S))) : ss.mergeSort (fun x y => decide (x ≤ y)) = S.map fun e => bts e.key := by
  have h1 := mergeSort_of_perm hp
  rw [toD_keys] at h1
  refine h1.trans ?_
  refine List.mergeSort_of_pairwise ?_
  rw [List.pairwise_map]
  refine h.imp fun {a b} hab => ?_
  have : bts a.key < bts b.key := by unfold ltK at hab; rw [bb_lt] at hab; exact of_decide_eq_true hab
  exact decide_eq_true (List.le_of_lt this)
end Go.Proofs.YtiaobgapfoogiaaGreatDoor
/- What is new between bundles, plainly. No program. -/

namespace Go.Proofs.YtiaobgapfoogiaaGreatDoor
open Go.RowKit Go.Maps

/- ## Right bundles -/
theorem entAt_zero {l : List Ent} {j : Nat} (hj : j < l.length) : entAt l j = 0 ↔ keyOk l[j].key = true ∧ (l.take j).any (fun e => eqs e.key l[j].key) = false ∧ l[j].text.size ≤ 2000 := by
  have : l.getD j noEnt = l[j] := by rw [List.getD_eq_getElem?_getD, List.getElem?_eq_getElem hj]; rfl
  unfold entAt
  rw [this]
  cases keyOk l[j].key <;> cases (l.take j).any (fun e => eqs e.key l[j].key) <;> by_cases h : 2000 < l[j].text.size <;> simp [h] <;> omega
structure Right (b : Bun) : Prop where
  tag : isTag b.tag = true
  len : b.ents.length ≤ 100
  uniq : Uniq b.ents
  each : ∀ e ∈ b.ents, keyOk e.key = true ∧ e.text.size ≤ 2000
theorem uniq_iff (l : List Ent) : Uniq l ↔ ∀ j (h : j < l.length), (l.take j).any (fun e => eqs e.key l[j].key) = false := by
  unfold Uniq
  rw [List.pairwise_iff_getElem]
  constructor
  · intro h j hj
    rw [List.any_eq_false]
    intro x hx
    obtain ⟨i, hi, rfl⟩ := List.getElem_of_mem hx
    rw [List.length_take] at hi
    rw [List.getElem_take]
    have := h i j (by omega) hj (by omega)
    rw [Bool.not_eq_true, eqs_false]; exact this
  · intro h i j hi hj hij
    have := h j hj
    rw [List.any_eq_false] at this
    have h2 := this l[i] (by
      have : (l.take j)[i]'(by rw [List.length_take]; omega) = l[i] := List.getElem_take
      rw [← this]; exact List.getElem_mem _)
    rw [Bool.not_eq_true, eqs_false] at h2; exact h2
theorem right_iff (b : Bun) : bunFault b = 0 ↔ Right b := by
  unfold bunFault
  cases ht : isTag b.tag with
  | false => exact ⟨fun h => by simp at h, fun h => by rw [h.tag] at ht; cases ht⟩
  | true =>
    simp only [if_true]
    by_cases hl : 100 < b.ents.length
    · rw [if_pos hl]; exact ⟨fun h => by simp at h, fun h => by have := h.len; omega⟩
    · rw [if_neg hl, firstN_zero_iff]
      constructor
      · intro h
        refine ⟨ht, by omega, (uniq_iff _).2 fun j hj => ((entAt_zero hj).1 (h j hj)).2.1, fun e he => ?_⟩
        obtain ⟨j, hj, rfl⟩ := List.getElem_of_mem he
        have := (entAt_zero hj).1 (h j hj)
        exact ⟨this.1, this.2.2⟩
      · intro h j hj
        have := h.each _ (List.getElem_mem hj)
        exact (entAt_zero hj).2 ⟨this.1, (uniq_iff _).1 h.uniq j hj, this.2⟩
theorem Right.sub {b : Bun} (h : Right b) {l : List Ent} (hu : Uniq l) (hs : ∀ e ∈ l, e ∈ b.ents) (hl : l.length ≤ 100) : Right ⟨b.tag, l⟩ := ⟨h.tag, hl, hu, fun e he => h.each e (hs e he)⟩

/- ## The document's order -/
def insQ (S : List Ent) (x : Ent) : List Ent := S.takeWhile (fun y => ltK y.key x.key) ++ x :: S.dropWhile (fun y => ltK y.key x.key)
def qSorted (l : List Ent) : List Ent := l.foldl insQ []
theorem insQ_ins {x : Ent} : ∀ {S : List Ent}, (∀ e ∈ S, e.key ≠ x.key) → Srt S → insQ S x = insE x S
  | [], _, _ => rfl
  | a :: r, hn, hs => by
    obtain ⟨h1, h2⟩ := List.pairwise_cons.1 hs
    have ih := insQ_ins (x := x) (S := r) (fun e he => hn e (List.mem_cons_of_mem _ he)) h2
    unfold insQ insE
    rw [List.takeWhile_cons, List.dropWhile_cons]
    cases h : ltK a.key x.key with
    | true =>
      rw [ltK_asymm h]
      simp only [if_true, Bool.false_eq_true, if_false, List.cons_append]
      rw [← ih]; rfl
    | false =>
      have : ltK x.key a.key = true := by
        rcases ltK_tri x.key a.key with k | k | k
        · exact k
        · exact absurd k.symm (hn a List.mem_cons_self)
        · rw [k] at h; cases h
      rw [this]
      simp
theorem foldQ : ∀ (l S : List Ent), Srt S → Uniq (S ++ l) → l.foldl insQ S = l.foldl putE S
  | [], _, _, _ => rfl
  | a :: r, S, hs, hu => by
    have hn : ∀ e ∈ S, e.key ≠ a.key := fun e he => (List.pairwise_append.1 hu).2.2 e he a List.mem_cons_self
    have hp : putE S a = insE a S := by unfold putE; rw [filter_self hn]
    rw [List.foldl_cons, List.foldl_cons, insQ_ins hn hs, hp]
    refine foldQ r _ (insE_srt hs hn) ?_
    have hq : (insE a S ++ r).Perm (S ++ a :: r) := ((insE_perm a S).append_right r).trans List.perm_middle.symm
    exact hq.symm.pairwise hu fun {x y} hxy => Ne.symm hxy
theorem qSorted_srt {l : List Ent} (h : Uniq l) : qSorted l = srt l := foldQ l [] List.Pairwise.nil h

/- ## What is new, what goes -/
def hasText (S : List Ent) (e : Ent) : Bool := match textK S e.key with | some t => eqs t e.text | none => false
def diffPut (a b : List Ent) : List Ent := (srt b).filter fun e => !hasText a e
def diffOut (a b : List Ent) : List Ent := (srt a).filter fun e => !hasK b e.key
def diffGone (a b : List Ent) : List ByteArray := (diffOut a b).map (·.key)
theorem hasText_iff {S : List Ent} (hu : Uniq S) {e : Ent} : hasText S e = true ↔ e ∈ S := by
  unfold hasText
  constructor
  · intro h
    cases ht : textK S e.key with
    | none => rw [ht] at h; cases h
    | some t =>
      rw [ht] at h
      obtain ⟨x, hx, h1, h2⟩ := textK_mem ht
      have h3 : t = e.text := (eqs_iff _ _).1 h
      have : x = e := by cases x; cases e; simp_all
      rw [← this]; exact hx
  · intro h
    rw [textK_some hu h]; exact eqs_self _
theorem hasText_perm {S T : List Ent} (hu : Uniq S) (h : S.Perm T) (e : Ent) : hasText S e = hasText T e := by unfold hasText; rw [textK_perm hu h]
theorem mem_put {a b : List Ent} (ha : Uniq a) (hb : Uniq b) {e : Ent} : e ∈ diffPut a b ↔ e ∈ b ∧ e ∉ a := by
  unfold diffPut
  rw [List.mem_filter, mem_srt hb, Bool.not_eq_true', ← Bool.not_eq_true, hasText_iff ha]
theorem mem_gone {a b : List Ent} (ha : Uniq a) {g : ByteArray} : g ∈ diffGone a b ↔ hasK a g = true ∧ hasK b g = false := by
  unfold diffGone diffOut
  rw [List.mem_map]
  constructor
  · rintro ⟨e, he, rfl⟩
    obtain ⟨h1, h2⟩ := List.mem_filter.1 he
    exact ⟨hasK_iff.2 ⟨e, (mem_srt ha).1 h1, rfl⟩, by simpa using h2⟩
  · rintro ⟨h1, h2⟩
    obtain ⟨e, he, rfl⟩ := hasK_iff.1 h1
    exact ⟨e, List.mem_filter.2 ⟨(mem_srt ha).2 he, by simpa using h2⟩, rfl⟩
theorem put_srt (a b : List Ent) : Srt (diffPut a b) := (srt_srt b).filter _
theorem out_srt (a b : List Ent) : Srt (diffOut a b) := (srt_srt a).filter _
theorem put_len {a b : List Ent} (hb : Uniq b) : (diffPut a b).length ≤ b.length := by
  have := List.length_filter_le (fun e => !hasText a e) (srt b)
  rw [srt_length hb] at this; exact this
theorem out_len {a b : List Ent} (ha : Uniq a) : (diffGone a b).length ≤ a.length := by
  have := List.length_filter_le (fun e => !hasK b e.key) (srt a)
  rw [srt_length ha] at this
  unfold diffGone; rw [List.length_map]; exact this
theorem Right.put {a b : Bun} (ha : Right a) (hb : Right b) : Right ⟨b.tag, diffPut a.ents b.ents⟩ :=
  hb.sub (put_srt _ _).uniq (fun _e he => ((mem_put ha.uniq hb.uniq).1 he).1) (Nat.le_trans (put_len hb.uniq) hb.len)
theorem Right.srt {b : Bun} (h : Right b) : Right ⟨b.tag, srt b.ents⟩ := h.sub (srt_srt _).uniq (fun e he => (mem_srt h.uniq).1 he) (by rw [srt_length h.uniq]; exact h.len)
theorem put_none {b : List Ent} (h : Uniq b) : diffPut b (srt b) = [] := by
  rw [List.eq_nil_iff_forall_not_mem]
  intro e he
  have := (mem_put h (srt_srt b).uniq).1 he
  exact this.2 ((mem_srt h).1 this.1)
theorem gone_none {b : List Ent} (h : Uniq b) : diffGone b (srt b) = [] := by
  rw [List.eq_nil_iff_forall_not_mem]
  intro g hg
  have := (mem_gone h).1 hg
  rw [hasK_perm (srt_perm h).symm, this.2] at this
  cases this.1

/- ## What is new is put, what goes goes -/
def goneAt (a p : List Ent) (gone : List ByteArray) (j : Nat) : Int :=
  if hasK a (gone.getD j ByteArray.empty) then (if hasK p (gone.getD j ByteArray.empty) || (gone.take j).any (eqs · (gone.getD j ByteArray.empty)) then 5 else 0) else 2
def cutAll (a : List Ent) (gone : List ByteArray) : List Ent := (srt a).filter fun e => !gone.any (eqs e.key ·)
def applied (a p : List Ent) (gone : List ByteArray) : List Ent := (srt p).foldl putE (cutAll a gone)
def applyErr (a p : List Ent) (gone : List ByteArray) : Int :=
  if firstN (goneAt a p gone) gone.length = 0 then (if 100 < (applied a p gone).length then 4 else 0) else firstN (goneAt a p gone) gone.length
/-- The document's: what is put, and what of the other one is neither put nor goes. -/
def rest (a p : List Ent) (gone : List ByteArray) : List Ent := p ++ a.filter fun e => !hasK p e.key && !gone.any (eqs · e.key)
theorem rest_uniq {a p : List Ent} (ha : Uniq a) (hp : Uniq p) (gone : List ByteArray) : Uniq (rest a p gone) := by
  refine List.pairwise_append.2 ⟨hp, ha.filter _, fun x hx y hy e => ?_⟩
  have h := (List.mem_filter.1 hy).2
  rw [Bool.and_eq_true, Bool.not_eq_true'] at h
  have : hasK p y.key = true := hasK_iff.2 ⟨x, hx, e⟩
  rw [h.1] at this; cases this
theorem putE_mem {S : List Ent} {x e : Ent} : e ∈ putE S x ↔ e = x ∨ (e ∈ S ∧ e.key ≠ x.key) := by
  unfold putE
  rw [mem_insE, List.mem_filter, Bool.not_eq_true', eqs_false]
theorem foldPut_mem : ∀ {l S : List Ent} {e : Ent}, Uniq l → (e ∈ l.foldl putE S ↔ e ∈ l ∨ (e ∈ S ∧ ∀ x ∈ l, e.key ≠ x.key))
  | [], S, e, _ => by simp
  | a :: r, S, e, hu => by
    obtain ⟨h1, h2⟩ := List.pairwise_cons.1 hu
    rw [List.foldl_cons, foldPut_mem h2, putE_mem]
    constructor
    · rintro (h | ⟨rfl | ⟨h, hk⟩, h3⟩)
      · exact .inl (List.mem_cons_of_mem _ h)
      · exact .inl List.mem_cons_self
      · exact .inr ⟨h, fun x hx => by
          rcases List.mem_cons.1 hx with rfl | hx
          · exact hk
          · exact h3 x hx⟩
    · rintro (h | ⟨h, h3⟩)
      · rcases List.mem_cons.1 h with rfl | h
        · exact .inr ⟨.inl rfl, fun x hx => h1 x hx⟩
        · exact .inl h
      · exact .inr ⟨.inr ⟨h, h3 a List.mem_cons_self⟩, fun x hx => h3 x (List.mem_cons_of_mem _ hx)⟩
theorem uniq_nodup {l : List Ent} (h : Uniq l) : l.Nodup := h.imp fun hab e => hab (by rw [e])
theorem applied_rest {a p : List Ent} (ha : Uniq a) (hp : Uniq p) (gone : List ByteArray) : (applied a p gone).Perm (rest a p gone) := by
  have hs : Srt (applied a p gone) := foldPut_srt _ _ ((srt_srt a).filter _)
  refine (List.perm_ext_iff_of_nodup (uniq_nodup hs.uniq) (uniq_nodup (rest_uniq ha hp gone))).2 fun e => ?_
  unfold applied rest cutAll
  rw [foldPut_mem (srt_srt p).uniq, List.mem_append, mem_srt hp, List.mem_filter, mem_srt ha, List.mem_filter]
  have h1 : (∀ x ∈ srt p, e.key ≠ x.key) ↔ hasK p e.key = false := by
    rw [← Bool.not_eq_true, hasK_iff]
    constructor
    · rintro h ⟨x, hx, hk⟩; exact h x ((mem_srt hp).2 hx) hk.symm
    · intro h x hx hk; exact h ⟨x, (mem_srt hp).1 hx, hk.symm⟩
  have h2 : (gone.any fun x => eqs e.key x) = gone.any (eqs · e.key) := by congr 1; funext x; exact eqs_comm _ _
  rw [h1, h2]
  cases hasK p e.key <;> cases gone.any (eqs · e.key) <;> simp
theorem applied_srt {a p : List Ent} (ha : Uniq a) (hp : Uniq p) (gone : List ByteArray) : applied a p gone = srt (rest a p gone) :=
  srt_eq (foldPut_srt _ _ ((srt_srt a).filter _)) (srt_srt _) ((applied_rest ha hp gone).trans (srt_perm (rest_uniq ha hp gone)).symm)
theorem applied_len {a p : List Ent} (ha : Uniq a) (hp : Uniq p) (gone : List ByteArray) : (applied a p gone).length = (rest a p gone).length := (applied_rest ha hp gone).length_eq
/-- By what is new of another one comes the other one. -/
theorem applies {a b : List Ent} (ha : Uniq a) (hb : Uniq b) : applied a (diffPut a b) (diffGone a b) = srt b := by
  have hpu := (put_srt a b).uniq
  rw [applied_srt ha hpu]
  refine srt_of_perm (rest_uniq ha hpu _) ?_
  refine (List.perm_ext_iff_of_nodup (uniq_nodup (rest_uniq ha hpu _)) (uniq_nodup hb)).2 fun e => ?_
  unfold rest
  rw [List.mem_append, mem_put ha hb, List.mem_filter]
  have hg : ((diffGone a b).any (eqs · e.key)) = true ↔ hasK a e.key = true ∧ hasK b e.key = false := by
    rw [← mem_gone ha, List.any_eq_true]
    exact ⟨fun ⟨x, h1, h2⟩ => by rw [← (eqs_iff _ _).1 h2]; exact h1, fun h => ⟨_, h, eqs_self _⟩⟩
  constructor
  · rintro (h | ⟨h1, h2⟩)
    · exact h.1
    · rw [Bool.and_eq_true, Bool.not_eq_true', Bool.not_eq_true'] at h2
      have hka : hasK a e.key = true := hasK_iff.2 ⟨e, h1, rfl⟩
      have hkb : hasK b e.key = true := by
        cases hk : hasK b e.key with
        | true => rfl
        | false => rw [hg.2 ⟨hka, hk⟩] at h2; cases h2.2
      obtain ⟨x, hx, hxk⟩ := hasK_iff.1 hkb
      by_cases hxa : x ∈ a
      · have : x = e := by
          have h3 := textK_some ha hxa
          have h4 := textK_some ha h1
          rw [hxk, h4] at h3
          injection h3 with h3
          cases x; cases e; simp_all
        rw [← this]; exact hx
      · have : hasK (diffPut a b) e.key = true := hasK_iff.2 ⟨x, (mem_put ha hb).2 ⟨hx, hxa⟩, hxk⟩
        rw [h2.1] at this; cases this
  · intro h
    by_cases hea : e ∈ a
    · refine .inr ⟨hea, ?_⟩
      rw [Bool.and_eq_true, Bool.not_eq_true', Bool.not_eq_true']
      constructor
      · rw [← Bool.not_eq_true, hasK_iff]
        rintro ⟨x, hx, hxk⟩
        obtain ⟨hxb, hxa⟩ := (mem_put ha hb).1 hx
        have h3 := textK_some hb hxb
        have h4 := textK_some hb h
        rw [hxk, h4] at h3
        injection h3 with h3
        have : x = e := by cases x; cases e; simp_all
        rw [this] at hxa
        exact hxa hea
      · rw [← Bool.not_eq_true, hg]
        rintro ⟨_, h5⟩
        rw [hasK_iff.2 ⟨e, h, rfl⟩] at h5; cases h5
    · exact .inl ⟨h, hea⟩
theorem gone_nodup (a b : List Ent) : (diffGone a b).Nodup := List.pairwise_map.2 ((out_srt a b).uniq.imp fun h => h)
theorem gone_fine {a b : List Ent} (ha : Uniq a) (hb : Uniq b) : firstN (goneAt a (diffPut a b) (diffGone a b)) (diffGone a b).length = 0 := by
  refine firstN_zero _ _ fun j hj => ?_
  have hgd : (diffGone a b).getD j ByteArray.empty = (diffGone a b)[j] := by rw [List.getD_eq_getElem?_getD, List.getElem?_eq_getElem hj]; rfl
  obtain ⟨h1, h2⟩ := (mem_gone ha).1 (List.getElem_mem hj)
  unfold goneAt
  rw [hgd, h1]
  have h3 : hasK (diffPut a b) (diffGone a b)[j] = false := by
    rw [← Bool.not_eq_true, hasK_iff]
    rintro ⟨x, hx, hxk⟩
    have := hasK_iff.2 ⟨x, ((mem_put ha hb).1 hx).1, hxk⟩
    rw [h2] at this; cases this
  have h4 : ((diffGone a b).take j).any (eqs · (diffGone a b)[j]) = false := by
    rw [List.any_eq_false]
    intro x hx
    obtain ⟨i, hi, rfl⟩ := List.getElem_of_mem hx
    rw [List.length_take] at hi
    rw [List.getElem_take, Bool.not_eq_true, eqs_false]
    exact List.pairwise_iff_getElem.1 (gone_nodup a b) i j (by omega) hj (by omega)
  rw [h3, h4]
  rfl
end Go.Proofs.YtiaobgapfoogiaaGreatDoor
/- What the statements on what is new ask, plainly. No program. -/

namespace Go.Proofs.YtiaobgapfoogiaaGreatDoor
open Go.RowKit Go.Maps

theorem entIdx_mem {l : List Ent} (hu : Uniq l) {e : Ent} (he : e ∈ l) : ∃ (y : Nat) (h : y < l.length), entIdx l e.key = some y ∧ l[y] = e := by
  obtain ⟨y, hy, rfl⟩ := List.getElem_of_mem he
  refine ⟨y, hy, ?_, rfl⟩
  unfold entIdx
  refine findIdx_at l _ y hy (eqs_self _) fun q hq hqy => ?_
  exact (eqs_false _ _).2 (List.pairwise_iff_getElem.1 hu q y hq hy hqy)
theorem entIdx_key {l : List Ent} {k : ByteArray} {x : Nat} (h : entIdx l k = some x) : ∃ hx : x < l.length, l[x].key = k := by
  unfold entIdx at h
  rw [List.findIdx?_eq_some_iff_getElem] at h
  exact ⟨h.1, (eqs_iff _ _).1 h.2.1⟩
theorem entIdx_no {l : List Ent} {k : ByteArray} : entIdx l k = none ↔ hasK l k = false := by
  unfold entIdx hasK
  rw [List.findIdx?_eq_none_iff, List.any_eq_false]
  constructor
  · intro h x hx; rw [h x hx]; simp
  · intro h x hx; simpa using h x hx
/-- each entry that is put is one of the other bundle, and none of the one -/
theorem put_there {a b : List Ent} (ha : Uniq a) (hb : Uniq b) {e : Ent} (he : e ∈ diffPut a b) :
    (∃ (y : Nat) (h : y < b.length), entIdx b e.key = some y ∧ b[y] = e) ∧ ∀ x (h : x < a.length), entIdx a e.key = some x → a[x].text ≠ e.text := by
  obtain ⟨h1, h2⟩ := (mem_put ha hb).1 he
  refine ⟨entIdx_mem hb h1, fun x hx hk ht => h2 ?_⟩
  obtain ⟨_, hkey⟩ := entIdx_key hk
  have : a[x] = e := by
    cases h : a[x] with
    | mk k t => rw [h] at hkey ht; cases e; simp_all
  rw [← this]; exact List.getElem_mem hx
theorem srt_next {S : List Ent} (h : Srt S) {i : Nat} (hi : i + 1 < S.length) : ltK S[i].key S[i + 1].key = true := List.pairwise_iff_getElem.1 h i (i + 1) (by omega) hi (by omega)
theorem gone_there {a b : List Ent} (ha : Uniq a) {g : ByteArray} (hg : g ∈ diffGone a b) : (∃ x, entIdx a g = some x) ∧ entIdx b g = none := by
  obtain ⟨h1, h2⟩ := (mem_gone ha).1 hg
  refine ⟨?_, entIdx_no.2 h2⟩
  cases h : entIdx a g with
  | some x => exact ⟨x, rfl⟩
  | none => rw [entIdx_no] at h; rw [h] at h1; cases h1
theorem gone_next {a b : List Ent} {i : Nat} (hi : i + 1 < (diffGone a b).length) : ltK (diffGone a b)[i] (diffGone a b)[i + 1] = true := by
  have hi' : i + 1 < (diffOut a b).length := by unfold diffGone at hi; simpa using hi
  have e1 : (diffGone a b)[i] = (diffOut a b)[i].key := by simp [diffGone]
  have e2 : (diffGone a b)[i + 1] = (diffOut a b)[i + 1].key := by simp [diffGone]
  rw [e1, e2]
  exact srt_next (out_srt a b) hi'
theorem nodup_le {l m : List ByteArray} (h : l.Nodup) (hs : ∀ x ∈ l, x ∈ m) : l.length ≤ m.length := by
  induction l generalizing m with
  | nil => exact Nat.zero_le _
  | cons a r ih =>
    obtain ⟨h1, h2⟩ := List.nodup_cons.1 h
    have hm : a ∈ m := hs a List.mem_cons_self
    obtain ⟨s, t, rfl⟩ := List.append_of_mem hm
    have := ih h2 (m := s ++ t) fun x hx => by
      have := hs x (List.mem_cons_of_mem _ hx)
      rcases List.mem_append.1 this with h | h
      · exact List.mem_append.2 (.inl h)
      · rcases List.mem_cons.1 h with rfl | h
        · exact absurd hx h1
        · exact List.mem_append.2 (.inr h)
    simp only [List.length_append, List.length_cons] at this ⊢
    omega
theorem gone_count {a b : List Ent} (ha : Uniq a) : a.length ≤ b.length + (diffGone a b).length := by
  have h1 : (srt a).length = ((srt a).filter fun e => !hasK b e.key).length + ((srt a).filter fun e => hasK b e.key).length := by
    induction srt a with
    | nil => rfl
    | cons e r ih =>
      simp only [List.filter_cons, List.length_cons]
      cases hasK b e.key <;> simp <;> omega
  have h2 : (((srt a).filter fun e => hasK b e.key).map (·.key)).length ≤ (b.map (·.key)).length := by
    refine nodup_le (List.pairwise_map.2 (((srt_srt a).filter _).uniq.imp fun h => h)) fun x hx => ?_
    obtain ⟨e, he, rfl⟩ := List.mem_map.1 hx
    have := (List.mem_filter.1 he).2
    obtain ⟨y, hy, hk⟩ := hasK_iff.1 this
    exact List.mem_map.2 ⟨y, hy, hk⟩
  rw [List.length_map, List.length_map] at h2
  rw [srt_length ha] at h1
  have h3 : (diffGone a b).length = ((srt a).filter fun e => !hasK b e.key).length := by unfold diffGone diffOut; rw [List.length_map]
  omega
end Go.Proofs.YtiaobgapfoogiaaGreatDoor
/- What diff.Apply computes, plainly. No program. -/

namespace Go.Proofs.YtiaobgapfoogiaaGreatDoor
open Go.RowKit Go.Maps

def cutN (a : List Ent) (gone : List ByteArray) (j : Nat) : List Ent := (srt a).filter fun e => !((gone.take j).any (eqs e.key ·))
theorem cutN_zero (a : List Ent) (gone : List ByteArray) : cutN a gone 0 = srt a := List.filter_eq_self.2 fun e _ => rfl
theorem cutN_all (a : List Ent) (gone : List ByteArray) : cutN a gone gone.length = cutAll a gone := by unfold cutN cutAll; rw [List.take_length]
theorem cutN_succ (a : List Ent) (gone : List ByteArray) (j : Nat) (hj : j < gone.length) : cutN a gone (j + 1) = (cutN a gone j).filter fun e => !eqs e.key gone[j] := by
  unfold cutN
  rw [List.filter_filter, List.take_succ_eq_append_getElem hj]
  congr 1
  funext e
  rw [List.any_append, Bool.not_or, Bool.and_comm]
  congr 1
  simp
theorem cutN_srt (a : List Ent) (gone : List ByteArray) (j : Nat) : Srt (cutN a gone j) := (srt_srt a).filter _
theorem goneAt_is {a p : List Ent} {gone : List ByteArray} (j : Nat) (hj : j < gone.length) : goneAt a p gone j = if hasK a gone[j] then (if hasK p gone[j] || (gone.take j).any (eqs · gone[j]) then 5 else 0) else 2 := by
  have : gone.getD j ByteArray.empty = gone[j] := by rw [List.getD_eq_getElem?_getD, List.getElem?_eq_getElem hj]; rfl
  unfold goneAt; rw [this]
theorem apply_bad {a p : List Ent} {gone : List ByteArray} (j : Nat) (hj : j < gone.length) (h0 : ∀ q, q < j → goneAt a p gone q = 0) (h : goneAt a p gone j ≠ 0) : applyErr a p gone = goneAt a p gone j := by
  have h1 := firstN_at (goneAt a p gone) j h0 h _ hj
  unfold applyErr
  rw [h1, if_neg h]
theorem apply_full {a p : List Ent} {gone : List ByteArray} (h0 : ∀ q, q < gone.length → goneAt a p gone q = 0) : applyErr a p gone = if 100 < (applied a p gone).length then 4 else 0 := by
  unfold applyErr
  rw [if_pos (firstN_zero _ _ h0)]
end Go.Proofs.YtiaobgapfoogiaaGreatDoor
