/- Entries by rising keys, plainly; what maps of words hold. No program. -/
import Derived.Test.YtmpjfomfibkbnaaGreatDoorBun
import Derived.Sort.KeysCollected
import Derived.Lib.SlMapMerge
import Derived.Lib.SlMapFilter
set_option linter.unusedSimpArgs false
set_option linter.unusedVariables false
namespace Go.Proofs.YtmpjfomfibkbnaaGreatDoor
open Go.RowKit Go.Maps

/- ## The order of keys -/
theorem bb_irr : ∀ a : List UInt8, bytesBefore a a = false
  | [] => rfl
  | a :: r => by simp [bytesBefore, bb_irr r]
theorem bb_trans : ∀ a b c : List UInt8, bytesBefore a b = true → bytesBefore b c = true → bytesBefore a c = true
  | [], [], _, h, _ => by cases h
  | [], _ :: _, [], _, h => by cases h
  | [], _ :: _, _ :: _, _, _ => rfl
  | _ :: _, [], _, h, _ => by cases h
  | _ :: _, _ :: _, [], _, h => by cases h
  | a :: r, b :: s, c :: t, h1, h2 => by
    simp only [bytesBefore, Bool.or_eq_true, Bool.and_eq_true, beq_iff_eq, decide_eq_true_eq] at h1 h2 ⊢
    rcases h1 with h1 | ⟨rfl, h1⟩
    · rcases h2 with h2 | ⟨rfl, h2⟩
      · exact .inl (UInt8.lt_trans h1 h2)
      · exact .inl h1
    · rcases h2 with h2 | ⟨rfl, h2⟩
      · exact .inl h2
      · exact .inr ⟨rfl, bb_trans r s t h1 h2⟩
theorem bb_tri : ∀ a b : List UInt8, bytesBefore a b = true ∨ a = b ∨ bytesBefore b a = true
  | [], [] => .inr (.inl rfl)
  | [], _ :: _ => .inl rfl
  | _ :: _, [] => .inr (.inr rfl)
  | a :: r, b :: s => by
    simp only [bytesBefore, Bool.or_eq_true, Bool.and_eq_true, beq_iff_eq, decide_eq_true_eq, List.cons.injEq]
    rcases Nat.lt_trichotomy a.toNat b.toNat with h | h | h
    · exact .inl (.inl (UInt8.lt_iff_toNat_lt.2 h))
    · obtain rfl : a = b := UInt8.toNat_inj.1 h
      rcases bb_tri r s with h | h | h
      · exact .inl (.inr ⟨rfl, h⟩)
      · exact .inr (.inl ⟨rfl, h⟩)
      · exact .inr (.inr (.inr ⟨rfl, h⟩))
    · exact .inr (.inr (.inl (UInt8.lt_iff_toNat_lt.2 h)))
theorem bb_less : ∀ a b : List UInt8, Op.bytesLess a b = bytesBefore a b
  | [], [] => rfl
  | [], _ :: _ => rfl
  | _ :: _, [] => rfl
  | a :: r, b :: s => by simp only [Op.bytesLess, bytesBefore, bb_less r s]
theorem bb_lt : ∀ a b : List UInt8, bytesBefore a b = decide (a < b)
  | [], [] => by simp [bytesBefore]
  | [], _ :: _ => by simp [bytesBefore]
  | _ :: _, [] => by simp [bytesBefore]
  | a :: r, b :: s => by
    rw [Bool.eq_iff_iff]
    simp only [bytesBefore, bb_lt r s, Bool.or_eq_true, Bool.and_eq_true, beq_iff_eq, decide_eq_true_eq, List.cons_lt_cons_iff]
def ltK (a b : ByteArray) : Bool := bytesBefore (bts a) (bts b)
theorem ltK_irr (a : ByteArray) : ltK a a = false := bb_irr _
theorem ltK_trans {a b c : ByteArray} (h : ltK a b = true) (k : ltK b c = true) : ltK a c = true := bb_trans _ _ _ h k
theorem ltK_tri (a b : ByteArray) : ltK a b = true ∨ a = b ∨ ltK b a = true := (bb_tri _ _).imp id fun h => h.imp bts_inj id
theorem ltK_asymm {a b : ByteArray} (h : ltK a b = true) : ltK b a = false := by
  cases k : ltK b a with
  | false => rfl
  | true => have := ltK_trans h k; rw [ltK_irr] at this; cases this
theorem ltK_ne {a b : ByteArray} (h : ltK a b = true) : a ≠ b := fun e => by rw [e, ltK_irr] at h; cases h
theorem eqs_comm (a b : ByteArray) : eqs a b = eqs b a := by
  rw [Bool.eq_iff_iff, eqs_iff, eqs_iff]; exact eq_comm

/- ## Entries by rising keys -/
def Srt (S : List Ent) : Prop := S.Pairwise fun a b => ltK a.key b.key = true
def insE (x : Ent) : List Ent → List Ent
  | [] => [x]
  | y :: r => if ltK x.key y.key then x :: y :: r else y :: insE x r
def putE (S : List Ent) (x : Ent) : List Ent := insE x (S.filter fun e => !eqs e.key x.key)
def srt (l : List Ent) : List Ent := l.foldl putE []
def hasK (S : List Ent) (k : ByteArray) : Bool := S.any fun e => eqs e.key k
def textK (S : List Ent) (k : ByteArray) : Option ByteArray := (S.find? fun e => eqs e.key k).map (·.text)
def Uniq (l : List Ent) : Prop := l.Pairwise fun a b => a.key ≠ b.key
theorem mem_insE {x y : Ent} : ∀ {S : List Ent}, y ∈ insE x S ↔ y = x ∨ y ∈ S
  | [] => by simp [insE]
  | a :: r => by
    unfold insE
    split
    · simp
    · simp only [List.mem_cons, mem_insE (S := r)]
      constructor
      · rintro (h | h | h)
        · exact .inr (.inl h)
        · exact .inl h
        · exact .inr (.inr h)
      · rintro (h | h | h)
        · exact .inr (.inl h)
        · exact .inl h
        · exact .inr (.inr h)
theorem insE_perm (x : Ent) : ∀ S : List Ent, (insE x S).Perm (x :: S)
  | [] => List.Perm.refl _
  | a :: r => by
    unfold insE
    split
    · exact List.Perm.refl _
    · exact ((insE_perm x r).cons a).trans (List.Perm.swap x a r)
theorem insE_srt {x : Ent} : ∀ {S : List Ent}, Srt S → (∀ e ∈ S, e.key ≠ x.key) → Srt (insE x S)
  | [], _, _ => List.pairwise_singleton _ _
  | a :: r, h, hn => by
    obtain ⟨h1, h2⟩ := List.pairwise_cons.1 h
    unfold insE
    split
    · rename_i hx
      refine List.pairwise_cons.2 ⟨fun b hb => ?_, h⟩
      rcases List.mem_cons.1 hb with rfl | hb
      · exact hx
      · exact ltK_trans hx (h1 b hb)
    · rename_i hx
      refine List.pairwise_cons.2 ⟨fun b hb => ?_, insE_srt h2 fun e he => hn e (List.mem_cons_of_mem _ he)⟩
      rcases mem_insE.1 hb with rfl | hb
      · rcases ltK_tri a.key b.key with h | h | h
        · exact h
        · exact absurd h (hn a List.mem_cons_self)
        · exact absurd h hx
      · exact h1 b hb
theorem Srt.uniq {S : List Ent} (h : Srt S) : Uniq S := h.imp fun hab => ltK_ne hab
theorem Srt.filter {S : List Ent} (h : Srt S) (p : Ent → Bool) : Srt (S.filter p) := List.Pairwise.filter p h
theorem Uniq.filter {S : List Ent} (h : Uniq S) (p : Ent → Bool) : Uniq (S.filter p) := List.Pairwise.filter p h
theorem putE_srt {S : List Ent} (h : Srt S) (x : Ent) : Srt (putE S x) := insE_srt (h.filter _) fun e he => by
  have := (List.mem_filter.1 he).2
  rw [Bool.not_eq_true', eqs_false] at this
  exact this
theorem foldPut_srt : ∀ (l S : List Ent), Srt S → Srt (l.foldl putE S)
  | [], _, h => h
  | a :: r, _, h => foldPut_srt r _ (putE_srt h a)
theorem srt_srt (l : List Ent) : Srt (srt l) := foldPut_srt l [] List.Pairwise.nil
theorem filter_self {S : List Ent} {k : ByteArray} (h : ∀ e ∈ S, e.key ≠ k) : (S.filter fun e => !eqs e.key k) = S :=
  List.filter_eq_self.2 fun e he => by rw [Bool.not_eq_true', eqs_false]; exact h e he
theorem foldPut_perm : ∀ (l S : List Ent), Uniq (S ++ l) → (l.foldl putE S).Perm (S ++ l)
  | [], S, _ => by rw [List.append_nil]; exact List.Perm.refl _
  | a :: r, S, h => by
    have hn : ∀ e ∈ S, e.key ≠ a.key := fun e he => (List.pairwise_append.1 h).2.2 e he a List.mem_cons_self
    have hp : (putE S a).Perm (a :: S) := by unfold putE; rw [filter_self hn]; exact insE_perm a S
    have h2 : (a :: S ++ r).Perm (S ++ a :: r) := List.perm_middle.symm
    have hq : (putE S a ++ r).Perm (S ++ a :: r) := (hp.append_right r).trans h2
    have hu : Uniq (putE S a ++ r) := hq.symm.pairwise h fun {x y} hxy => Ne.symm hxy
    exact (foldPut_perm r _ hu).trans hq
theorem srt_perm {l : List Ent} (h : Uniq l) : (srt l).Perm l := foldPut_perm l [] h
theorem mem_srt {l : List Ent} (h : Uniq l) {e : Ent} : e ∈ srt l ↔ e ∈ l := (srt_perm h).mem_iff
theorem srt_length {l : List Ent} (h : Uniq l) : (srt l).length = l.length := (srt_perm h).length_eq
theorem srt_eq {S T : List Ent} (hS : Srt S) (hT : Srt T) (h : S.Perm T) : S = T :=
  List.Perm.eq_of_pairwise (le := fun (a b : Ent) => ltK a.key b.key = true) (fun a b _ _ h1 h2 => by rw [ltK_asymm h1] at h2; cases h2) hS hT h
theorem srt_of_srt {S : List Ent} (h : Srt S) : srt S = S := srt_eq (srt_srt S) h (srt_perm h.uniq)
theorem srt_of_perm {S T : List Ent} (h : Uniq S) (hp : S.Perm T) : srt S = srt T :=
  srt_eq (srt_srt S) (srt_srt T) ((srt_perm h).trans (hp.trans (srt_perm (hp.pairwise h fun {x _y} hxy => Ne.symm hxy)).symm))
theorem srt_filter {l : List Ent} (h : Uniq l) (p : Ent → Bool) : srt (l.filter p) = (srt l).filter p :=
  srt_eq (srt_srt _) ((srt_srt l).filter p) ((srt_perm (h.filter p)).trans ((srt_perm h).filter p).symm)
theorem hasK_perm {S T : List Ent} (h : S.Perm T) (k : ByteArray) : hasK S k = hasK T k := by
  unfold hasK
  rw [Bool.eq_iff_iff, List.any_eq_true, List.any_eq_true]
  exact ⟨fun ⟨e, h1, h2⟩ => ⟨e, h.mem_iff.1 h1, h2⟩, fun ⟨e, h1, h2⟩ => ⟨e, h.mem_iff.2 h1, h2⟩⟩
theorem hasK_iff {S : List Ent} {k : ByteArray} : hasK S k = true ↔ ∃ e ∈ S, e.key = k := by
  unfold hasK
  rw [List.any_eq_true]
  exact ⟨fun ⟨e, h1, h2⟩ => ⟨e, h1, (eqs_iff _ _).1 h2⟩, fun ⟨e, h1, h2⟩ => ⟨e, h1, (eqs_iff _ _).2 h2⟩⟩
theorem textK_some {S : List Ent} (hu : Uniq S) {e : Ent} (h : e ∈ S) : textK S e.key = some e.text := by
  unfold textK
  induction S with
  | nil => cases h
  | cons a r ih =>
    obtain ⟨h1, h2⟩ := List.pairwise_cons.1 hu
    rw [List.find?_cons]
    rcases List.mem_cons.1 h with rfl | h
    · rw [eqs_self]; rfl
    · have : eqs a.key e.key = false := (eqs_false _ _).2 (h1 e h)
      rw [this]
      exact ih h2 h
theorem textK_none {S : List Ent} {k : ByteArray} : textK S k = none ↔ hasK S k = false := by
  unfold textK hasK
  rw [Option.map_eq_none_iff, List.find?_eq_none, List.any_eq_false]
theorem textK_mem {S : List Ent} {k t : ByteArray} (h : textK S k = some t) : ∃ e ∈ S, e.key = k ∧ e.text = t := by
  unfold textK at h
  rw [Option.map_eq_some_iff] at h
  obtain ⟨e, h1, h2⟩ := h
  exact ⟨e, List.mem_of_find?_eq_some h1, (eqs_iff _ _).1 (List.find?_some h1 : _), h2⟩
theorem textK_perm {S T : List Ent} (hu : Uniq S) (h : S.Perm T) (k : ByteArray) : textK S k = textK T k := by
  have hT : Uniq T := h.pairwise hu fun {x y} hxy => Ne.symm hxy
  cases hs : textK S k with
  | none => exact ((textK_none.2 ((hasK_perm h k).symm.trans (textK_none.1 hs)))).symm
  | some t =>
    obtain ⟨e, he, rfl, rfl⟩ := textK_mem hs
    exact (textK_some hT (h.mem_iff.1 he)).symm

/- ## What a map of words reads as -/
def entL (e : Ent) : Lit × DataW Unit := (.string (bts e.key), .lit (.string (bts e.text)))
def toD (S : List Ent) : DataW Unit := .map (S.map entL)
theorem sameKey_eqs (a b : ByteArray) : (Lit.string (bts a)).sameKey (.string (bts b)) = eqs a b := by rw [eqs_bts]; rfl
theorem insert_ins (x : Ent) : ∀ S : List Ent, DataW.insert (entL x) (S.map entL) = (insE x S).map entL
  | [] => rfl
  | y :: r => by
    rw [List.map_cons, DataW.insert]
    have e : (entL x).1.before (entL y).1 = ltK x.key y.key := rfl
    rw [e, insE]
    split
    · rfl
    · rw [insert_ins x r]; rfl
theorem filter_entL (k : ByteArray) (S : List Ent) : ((S.map entL).filter fun p => !p.1.sameKey (.string (bts k))) = (S.filter fun e => !eqs e.key k).map entL := by
  rw [List.filter_map]
  congr 2
  funext e
  show (!(Lit.string (bts e.key)).sameKey _) = _
  rw [sameKey_eqs]
theorem toD_put (S : List Ent) (x : Ent) : (toD S).put (.string (bts x.key)) (.lit (.string (bts x.text))) = toD (putE S x) := by
  show DataW.map (DataW.insert (entL x) ((S.map entL).filter fun p => !p.1.sameKey (.string (bts x.key)))) = _
  rw [filter_entL, insert_ins]
  rfl
theorem toD_del (S : List Ent) (k : ByteArray) : (toD S).del (.string (bts k)) = toD (S.filter fun e => !eqs e.key k) := by
  show DataW.map ((S.map entL).filter fun p => !p.1.sameKey (.string (bts k))) = _
  rw [filter_entL]; rfl
theorem toD_has (S : List Ent) (k : ByteArray) : Maps.has (toD S) (.string (bts k)) = hasK S k := by
  show (S.map entL).any (fun p => p.1.sameKey (.string (bts k))) = _
  rw [List.any_map]
  unfold hasK
  congr 1
  funext e
  exact sameKey_eqs _ _
theorem toD_at (S : List Ent) (k : ByteArray) (z : DataW Unit) : (toD S).atKey (.string (bts k)) z = match textK S k with | some t => .lit (.string (bts t)) | none => z := by
  unfold toD DataW.atKey textK
  dsimp only
  induction S with
  | nil => rfl
  | cons a r ih =>
    rw [List.map_cons, List.find?_cons, List.find?_cons]
    have e : (entL a).1.sameKey (.string (bts k)) = eqs a.key k := sameKey_eqs _ _
    rw [e]
    cases eqs a.key k with
    | true => rfl
    | false => exact ih
theorem toD_size (S : List Ent) : Maps.size (toD S) = S.length := by show (S.map entL).length = _; rw [List.length_map]
theorem toD_keys (S : List Ent) : strKeys (toD S) = S.map fun e => bts e.key := by
  show (S.map entL).map (fun p => strOf p.1) = _
  rw [List.map_map]; rfl
theorem toD_merge : ∀ (T S : List Ent), Lib.mergeD (toD S) (toD T) = toD (T.foldl putE S)
  | [], S => rfl
  | a :: r, S => by
    have ih := toD_merge r (putE S a)
    show ((entL a :: r.map entL).foldl (fun D p => D.put p.1 p.2) (toD S)) = _
    rw [List.foldl_cons, List.foldl_cons, ← ih]
    show _ = (r.map entL).foldl (fun D p => D.put p.1 p.2) (toD (putE S a))
    rw [← toD_put]; rfl
theorem toD_delete (p : Ent → Bool) (pd : Lit → DataW Unit → Bool) (S : List Ent) (h : ∀ e ∈ S, pd (.string (bts e.key)) (.lit (.string (bts e.text))) = p e) : Lib.deleteFuncD pd (toD S) = toD (S.filter fun e => !p e) := by
  show DataW.map ((S.map entL).filter fun q => !pd q.1 q.2) = _
  rw [List.filter_map]
  unfold toD
  congr 2
  refine List.filter_congr fun e he => ?_
  show (!pd (.string (bts e.key)) (.lit (.string (bts e.text)))) = _
  rw [h e he]
/-- sorted keys of a map are its keys -/
theorem sorted_keys {S : List Ent} (h : Srt S) {ss : List (List UInt8)} (hp : ss.Perm (strKeys (toD S))) : ss.mergeSort (fun x y => decide (x ≤ y)) = S.map fun e => bts e.key := by
  have h1 := mergeSort_of_perm hp
  rw [toD_keys] at h1
  refine h1.trans ?_
  refine List.mergeSort_of_pairwise ?_
  rw [List.pairwise_map]
  refine h.imp fun {a b} hab => ?_
  have : bts a.key < bts b.key := by unfold ltK at hab; rw [bb_lt] at hab; exact of_decide_eq_true hab
  exact decide_eq_true (List.le_of_lt this)
end Go.Proofs.YtmpjfomfibkbnaaGreatDoor
