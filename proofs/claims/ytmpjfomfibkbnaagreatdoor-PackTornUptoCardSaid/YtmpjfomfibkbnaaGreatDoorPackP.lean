/- Bundles as bytes, plainly: there and back; torn, longer, spoilt. No program. -/
import Derived.Test.YtmpjfomfibkbnaaGreatDoorDiffP
import Derived.Test.YtmpjfomfibkbnaaGreatDoorSum
import Derived.Lib.Join
set_option linter.unusedSimpArgs false
set_option linter.unusedVariables false
namespace Go.Proofs.YtmpjfomfibkbnaaGreatDoor
open Go.RowKit Go.Maps

/- ## A right tag is short -/
theorem join_le (m : Nat) (sep : List UInt8) : ∀ xs : List (List UInt8), (∀ x ∈ xs, x.length ≤ m) → (Lib.join xs sep).length ≤ xs.length * (m + sep.length)
  | [], _ => by simp [Lib.join, List.intercalate]
  | x :: r, h => by
    rw [Lib.join_length]
    have key : ∀ ys : List (List UInt8), (∀ y ∈ ys, y.length ≤ m) → Lib.lens ys ≤ ys.length * m := by
      intro ys
      induction ys with
      | nil => intro _; simp [Lib.lens]
      | cons y s ih =>
        intro hy
        have h1 := ih fun z hz => hy z (List.mem_cons_of_mem _ hz)
        have h2 := hy y List.mem_cons_self
        have h3 : Lib.lens (y :: s) = y.length + Lib.lens s := by simp [Lib.lens]
        rw [h3, List.length_cons, Nat.add_mul]; omega
    have h1 := key (x :: r) h
    rw [List.length_cons] at h1 ⊢
    have e1 : (r.length + 1) * (m + sep.length) = (r.length + 1) * m + (r.length + 1) * sep.length := Nat.mul_add _ _ _
    have e2 : (r.length + 1) * sep.length = r.length * sep.length + sep.length := by rw [Nat.add_mul, Nat.one_mul]
    have e3 : sep.length * r.length = r.length * sep.length := Nat.mul_comm _ _
    omega
theorem made_size {p : UInt8 → Bool} {s : ByteArray} {a b : Nat} (h : made p s a b = true) : s.size ≤ b := by
  unfold made at h
  simp only [Bool.and_eq_true, decide_eq_true_eq] at h
  exact h.2.2
theorem tag_short {s : ByteArray} (h : isTag s = true) : s.size ≤ 200 := by
  obtain ⟨t, hp, rfl⟩ := isTag_some h
  have hf := parse_fault hp
  unfold tagFault at hf
  split at hf
  · cases hf
  · rename_i hh
    split at hf
    · rename_i hv
      split at hf
      · cases hf
      · rename_i hn
        have hvs : ∀ x ∈ t.vars, x.size ≤ 8 := fun x hx => by
          obtain ⟨j, hj, rfl⟩ := List.getElem_of_mem hx
          have h1 := (firstN_zero_iff _ _).1 hv j hj
          have hgd : t.vars.getD j ByteArray.empty = t.vars[j] := by rw [List.getD_eq_getElem?_getD, List.getElem?_eq_getElem hj]; rfl
          unfold varAt at h1
          rw [hgd] at h1
          cases hm : made isBoth t.vars[j] 5 8 with
          | true => exact made_size hm
          | false => rw [hm] at h1; simp at h1
        have hall : ∀ x ∈ parts t, x.size ≤ 8 := fun x hx => by
          unfold parts at hx
          obtain ⟨h1, h2⟩ := List.mem_filter.1 hx
          rw [Bool.not_eq_true', eqs_false] at h2
          rcases List.mem_append.1 h1 with h1 | h1
          · have hh' : headFault t = false := by simpa using hh
            unfold headFault at hh'
            simp only [Bool.or_eq_false_iff, Bool.not_eq_false', Bool.and_eq_false_iff] at hh'
            obtain ⟨g1, g2, g3⟩ := hh'
            simp only [List.mem_cons, List.not_mem_nil, or_false] at h1
            rcases h1 with rfl | rfl | rfl
            · have := made_size g1; omega
            · rcases g2 with g | g
              · exact absurd ((eqs_iff _ _).1 g) h2
              · unfold scriptB at g
                simp only [Bool.and_eq_true, decide_eq_true_eq] at g
                omega
            · rcases g3 with g | g
              · exact absurd ((eqs_iff _ _).1 g) h2
              · unfold regionB at g
                rcases (Bool.or_eq_true _ _).mp g with g | g
                · have := made_size g; omega
                · have := made_size g; omega
          · exact hvs x h1
        have hlen : (parts t).length ≤ 6 := by
          unfold parts
          refine Nat.le_trans (List.length_filter_le _ _) ?_
          simp; omega
        have := join_le 8 (bts dash) ((parts t).map bts) (fun x hx => by
          obtain ⟨y, hy, rfl⟩ := List.mem_map.1 hx
          rw [bts_len]; exact hall y hy)
        rw [List.length_map] at this
        have e1 : (tagText t).size = (Lib.join ((parts t).map bts) (bts dash)).length := by unfold tagText joined; rw [str_size]
        have e2 : (bts dash).length = 1 := rfl
        rw [e2] at this
        have : (parts t).length * (8 + 1) ≤ 6 * 9 := Nat.mul_le_mul hlen (Nat.le_refl _)
        omega
    · rename_i hv; exact absurd hf hv

/- ## Numbers and texts as bytes -/
def b1 (n : Nat) : UInt8 := UInt8.ofNat n
def be2 (n : Nat) : List UInt8 := [b1 (n / 256), b1 n]
def be4 (n : Nat) : List UInt8 := [b1 (n / 16777216), b1 (n / 65536), b1 (n / 256), b1 n]
def txt1 (s : ByteArray) : List UInt8 := b1 s.size :: bts s
def txt2 (s : ByteArray) : List UInt8 := be2 s.size ++ bts s
def magicB : List UInt8 := [76, 71, 66, 49]
def entB (e : Ent) : List UInt8 := txt1 e.key ++ txt2 e.text
def bodyB (tag : ByteArray) (l : List Ent) : List UInt8 := magicB ++ (txt1 tag ++ (be2 l.length ++ l.flatMap entB))
def bytesB (b : Bun) : List UInt8 := bodyB b.tag (srt b.ents) ++ be4 (sumOf (bodyB b.tag (srt b.ents)))
theorem b1_toNat (n : Nat) : (b1 n).toNat = n % 256 := by unfold b1; simp
theorem be2_num (n : Nat) (h : n < 65536) : 256 * (b1 (n / 256)).toNat + (b1 n).toNat = n := by rw [b1_toNat, b1_toNat]; omega
theorem be4_inj {n m : Nat} (hn : n < 4294967296) (hm : m < 4294967296) (h : be4 n = be4 m) : n = m := by
  unfold be4 at h
  simp only [List.cons.injEq, and_true] at h
  obtain ⟨h1, h2, h3, h4⟩ := h
  have e1 := congrArg UInt8.toNat h1
  have e2 := congrArg UInt8.toNat h2
  have e3 := congrArg UInt8.toNat h3
  have e4 := congrArg UInt8.toNat h4
  simp only [b1_toNat] at e1 e2 e3 e4
  omega
theorem b1_of (x : UInt8) : b1 x.toNat = x := by unfold b1; simp
theorem be2_of (x y : UInt8) : be2 (256 * x.toNat + y.toNat) = [x, y] := by
  have hx := x.toNat_lt
  have hy := y.toNat_lt
  unfold be2
  congr 1
  · rw [← UInt8.toNat_inj, b1_toNat]; omega
  · congr 1
    rw [← UInt8.toNat_inj, b1_toNat]; omega

/- ## Reading -/
def takeN (n : Nat) (l : List UInt8) : Option (ByteArray × List UInt8) := if n ≤ l.length then some (str (l.take n), l.drop n) else none
def rd1 : List UInt8 → Option (ByteArray × List UInt8)
  | x :: r => takeN x.toNat r
  | [] => none
def rd2 : List UInt8 → Option (ByteArray × List UInt8)
  | x :: y :: r => takeN (256 * x.toNat + y.toNat) r
  | _ => none
def rdN : List UInt8 → Option (Nat × List UInt8)
  | x :: y :: r => some (256 * x.toNat + y.toNat, r)
  | _ => none
def rdE (l : List UInt8) : Option (Ent × List UInt8) := match rd1 l with
  | none => none
  | some (k, r) => match rd2 r with
    | none => none
    | some (t, s) => some (⟨k, t⟩, s)
def rdEs : Nat → List UInt8 → Option (List Ent × List UInt8)
  | 0, l => some ([], l)
  | n + 1, l => match rdE l with
    | none => none
    | some (e, r) => match rdEs n r with
      | none => none
      | some (es, s) => some (e :: es, s)
/-- a tag, and entries, and what is left -/
def rdB (l : List UInt8) : Option (Bun × List UInt8) := match rd1 l with
  | none => none
  | some (t, r) => match rdN r with
    | none => none
    | some (n, s) => match rdEs n s with
      | none => none
      | some (es, q) => some (⟨t, es⟩, q)
/-- A reader that stops: what it reads is u, whatever stands behind; of less than u it reads nothing. -/
def Reads {α : Type} (P : List UInt8 → Option (α × List UInt8)) (u : List UInt8) (a : α) : Prop := (∀ m, P (u ++ m) = some (a, m)) ∧ ∀ k, k < u.length → P (u.take k) = none
theorem takeN_reads (u : List UInt8) : Reads (takeN u.length) u (str u) := by
  refine ⟨fun m => ?_, fun k hk => ?_⟩
  · unfold takeN; rw [if_pos (by simp)]; simp
  · unfold takeN; rw [if_neg (by rw [List.length_take]; omega)]
theorem rd1_reads (x : UInt8) (u : List UInt8) (h : x.toNat = u.length) : Reads rd1 (x :: u) (str u) := by
  obtain ⟨h1, h2⟩ := takeN_reads u
  refine ⟨fun m => ?_, fun k hk => ?_⟩
  · show takeN x.toNat (u ++ m) = _; rw [h]; exact h1 m
  · cases k with
    | zero => rfl
    | succ k =>
      show takeN x.toNat (u.take k) = none
      rw [h]; exact h2 k (by simpa using hk)
theorem rd2_reads (x y : UInt8) (u : List UInt8) (h : 256 * x.toNat + y.toNat = u.length) : Reads rd2 (x :: y :: u) (str u) := by
  obtain ⟨h1, h2⟩ := takeN_reads u
  refine ⟨fun m => ?_, fun k hk => ?_⟩
  · show takeN (256 * x.toNat + y.toNat) (u ++ m) = _; rw [h]; exact h1 m
  · match k, hk with
    | 0, _ => rfl
    | 1, _ => rfl
    | k + 2, hk =>
      show takeN (256 * x.toNat + y.toNat) (u.take k) = none
      rw [h]; exact h2 k (by simpa using hk)
theorem rdN_reads (x y : UInt8) : Reads rdN [x, y] (256 * x.toNat + y.toNat) := by
  refine ⟨fun m => rfl, fun k hk => ?_⟩
  match k, hk with
  | 0, _ => rfl
  | 1, _ => rfl
  | k + 2, hk => simp at hk; omega
theorem take_app {α : Type} (u v : List α) (k : Nat) : (k < u.length ∧ (u ++ v).take k = u.take k) ∨ (u.length ≤ k ∧ (u ++ v).take k = u ++ v.take (k - u.length)) := by
  rcases Nat.lt_or_ge k u.length with h | h
  · exact .inl ⟨h, by rw [List.take_append_of_le_length (by omega)]⟩
  · refine .inr ⟨h, ?_⟩
    rw [List.take_append]
    rw [List.take_of_length_le h]
theorem rdE_reads {u v : List UInt8} {k t : ByteArray} (h1 : Reads rd1 u k) (h2 : Reads rd2 v t) : Reads rdE (u ++ v) ⟨k, t⟩ := by
  refine ⟨fun m => ?_, fun j hj => ?_⟩
  · unfold rdE; rw [List.append_assoc, h1.1]; dsimp only; rw [h2.1]
  · rcases take_app u v j with ⟨hlt, e⟩ | ⟨hge, e⟩
    · rw [e]; unfold rdE; rw [h1.2 j hlt]
    · rw [e]; unfold rdE; rw [h1.1]; dsimp only
      rw [h2.2 _ (by rw [List.length_append] at hj; omega)]
def entU (e : Ent) (u : List UInt8) : Prop := Reads rdE u e
theorem rdEs_reads : ∀ (ls : List (Ent × List UInt8)), (∀ p ∈ ls, entU p.1 p.2) → Reads (rdEs ls.length) (ls.flatMap (·.2)) (ls.map (·.1))
  | [], _ => ⟨fun m => rfl, fun k hk => absurd hk (by simp)⟩
  | (e, u) :: r, h => by
    have h1 : Reads rdE u e := h _ List.mem_cons_self
    have ih := rdEs_reads r fun p hp => h p (List.mem_cons_of_mem _ hp)
    rw [List.length_cons, List.flatMap_cons, List.map_cons]
    refine ⟨fun m => ?_, fun j hj => ?_⟩
    · unfold rdEs; rw [List.append_assoc, h1.1]; dsimp only; rw [ih.1]
    · rcases take_app u (r.flatMap (·.2)) j with ⟨hlt, e'⟩ | ⟨hge, e'⟩
      · rw [e']; unfold rdEs; rw [h1.2 j hlt]
      · rw [e']; unfold rdEs; rw [h1.1]; dsimp only
        rw [ih.2 _ (by
          rw [List.length_append] at hj
          have hj' : j < u.length + (r.flatMap (·.2)).length := hj
          omega)]
theorem rdB_reads {u v w : List UInt8} {t : ByteArray} {n : Nat} {es : List Ent} (h1 : Reads rd1 u t) (h2 : Reads rdN v n) (h3 : Reads (rdEs n) w es) : Reads rdB (u ++ (v ++ w)) ⟨t, es⟩ := by
  refine ⟨fun m => ?_, fun j hj => ?_⟩
  · unfold rdB; rw [List.append_assoc, h1.1]; dsimp only; rw [List.append_assoc, h2.1]; dsimp only; rw [h3.1]
  · simp only [List.length_append] at hj
    rcases take_app u (v ++ w) j with ⟨hlt, e⟩ | ⟨hge, e⟩
    · rw [e]; unfold rdB; rw [h1.2 j hlt]
    · rw [e]; unfold rdB; rw [h1.1]; dsimp only
      rcases take_app v w (j - u.length) with ⟨hlt, e⟩ | ⟨hge2, e⟩
      · rw [e, h2.2 _ hlt]
      · rw [e, h2.1]; dsimp only
        rw [h3.2 _ (by omega)]
/- what a reader has read, it has read of just these bytes -/
theorem takeN_inv {n : Nat} {l r : List UInt8} {s : ByteArray} (h : takeN n l = some (s, r)) : l = bts s ++ r ∧ s.size = n := by
  unfold takeN at h
  split at h
  · rename_i hn
    injection h with h; injection h with h1 h2
    subst h1; subst h2
    exact ⟨by rw [bts_str, List.take_append_drop], by rw [str_size, List.length_take]; omega⟩
  · cases h
theorem rd1_inv {l r : List UInt8} {s : ByteArray} (h : rd1 l = some (s, r)) : l = txt1 s ++ r := by
  match l, h with
  | x :: q, h =>
    obtain ⟨e1, e2⟩ := takeN_inv (show takeN x.toNat q = some (s, r) from h)
    unfold txt1
    rw [e2, b1_of, e1]; rfl
theorem rd2_inv {l r : List UInt8} {s : ByteArray} (h : rd2 l = some (s, r)) : l = txt2 s ++ r := by
  match l, h with
  | x :: y :: q, h =>
    obtain ⟨e1, e2⟩ := takeN_inv (show takeN (256 * x.toNat + y.toNat) q = some (s, r) from h)
    unfold txt2
    rw [e2, be2_of, e1]; rfl
  | [_], h => cases h
  | [], h => cases h
theorem rdN_inv {l r : List UInt8} {n : Nat} (h : rdN l = some (n, r)) : l = be2 n ++ r ∧ n < 65536 := by
  match l, h with
  | x :: y :: q, h =>
    injection h with h; injection h with h1 h2
    subst h1; subst h2
    refine ⟨by rw [be2_of]; rfl, ?_⟩
    have := x.toNat_lt; have := y.toNat_lt; omega
  | [_], h => cases h
  | [], h => cases h
theorem rdE_inv {l r : List UInt8} {e : Ent} (h : rdE l = some (e, r)) : l = entB e ++ r := by
  unfold rdE at h
  split at h
  · cases h
  · rename_i k q h1
    split at h
    · cases h
    · rename_i t s h2
      injection h with h; injection h with h3 h4
      subst h3; subst h4
      rw [rd1_inv h1, rd2_inv h2]
      unfold entB; rw [List.append_assoc]
theorem rdEs_inv : ∀ {n : Nat} {l r : List UInt8} {es : List Ent}, rdEs n l = some (es, r) → l = es.flatMap entB ++ r ∧ es.length = n
  | 0, l, r, es, h => by
    injection h with h; injection h with h1 h2
    subst h1; subst h2; exact ⟨rfl, rfl⟩
  | n + 1, l, r, es, h => by
    unfold rdEs at h
    split at h
    · cases h
    · rename_i e q h1
      split at h
      · cases h
      · rename_i es' s h2
        injection h with h; injection h with h3 h4
        subst h3; subst h4
        obtain ⟨e1, e2⟩ := rdEs_inv h2
        refine ⟨?_, by rw [List.length_cons, e2]⟩
        rw [rdE_inv h1, e1, List.flatMap_cons, List.append_assoc]
theorem rdB_inv {l r : List UInt8} {b : Bun} (h : rdB l = some (b, r)) : l = txt1 b.tag ++ (be2 b.ents.length ++ b.ents.flatMap entB) ++ r ∧ b.ents.length < 65536 := by
  unfold rdB at h
  split at h
  · cases h
  · rename_i t q h1
    split at h
    · cases h
    · rename_i n s h2
      split at h
      · cases h
      · rename_i es z h3
        injection h with h; injection h with h4 h5
        subst h4; subst h5
        obtain ⟨e1, e2⟩ := rdN_inv h2
        obtain ⟨e3, e4⟩ := rdEs_inv h3
        refine ⟨?_, by rw [e4]; exact e2⟩
        rw [rd1_inv h1, e1, e3, e4]
        simp only [List.append_assoc]

/- ## What is told of bytes -/
def sortedE : List Ent → Bool
  | a :: b :: r => ltK a.key b.key && sortedE (b :: r)
  | _ => true
theorem sortedE_srt : ∀ l : List Ent, sortedE l = true ↔ Srt l
  | [] => ⟨fun _ => List.Pairwise.nil, fun _ => rfl⟩
  | [a] => ⟨fun _ => List.pairwise_singleton _ _, fun _ => rfl⟩
  | a :: b :: r => by
    have ih := sortedE_srt (b :: r)
    unfold sortedE
    rw [Bool.and_eq_true, ih]
    constructor
    · rintro ⟨h1, h2⟩
      refine List.pairwise_cons.2 ⟨fun x hx => ?_, h2⟩
      rcases List.mem_cons.1 hx with rfl | hx
      · exact h1
      · exact ltK_trans h1 ((List.pairwise_cons.1 h2).1 x hx)
    · intro h
      obtain ⟨h1, h2⟩ := List.pairwise_cons.1 h
      exact ⟨h1 b List.mem_cons_self, h2⟩
/-- what is wrong with bytes, and what they are: behind the magic -/
def sumLeft (raw : List UInt8) (b : Bun) (r : List UInt8) : Int :=
  if r.length < 4 then 6 else if 4 < r.length then 3
  else if r = be4 (sumOf (raw.take (raw.length - r.length))) then (if sortedE b.ents && decide (bunFault b = 0) then 0 else 3) else 8
def unpackE (raw : List UInt8) : Int :=
  if raw.length < 4 then 6 else if raw.take 4 = magicB then
    (match rdB (raw.drop 4) with | none => 6 | some (b, r) => sumLeft raw b r)
  else 3
def noB : Bun := ⟨ByteArray.empty, []⟩
def unpackB (raw : List UInt8) : Bun := if unpackE raw = 0 then (match rdB (raw.drop 4) with | none => noB | some (b, _) => b) else noB

theorem rd1_txt {s : ByteArray} (h : s.size < 256) : Reads rd1 (txt1 s) s := by
  have := rd1_reads (b1 s.size) (bts s) (by rw [b1_toNat, bts_len]; omega)
  rw [str_bts] at this; exact this
theorem rd2_txt {s : ByteArray} (h : s.size < 65536) : Reads rd2 (txt2 s) s := by
  have := rd2_reads (b1 (s.size / 256)) (b1 s.size) (bts s) (by rw [be2_num _ h, bts_len])
  rw [str_bts] at this; exact this
theorem rdE_ent {e : Ent} (hk : e.key.size < 256) (ht : e.text.size < 65536) : Reads rdE (entB e) e := rdE_reads (rd1_txt hk) (rd2_txt ht)
theorem key_40 {e : Ent} (h : keyOk e.key = true) : e.key.size ≤ 40 := by
  unfold keyOk at h
  simp only [Bool.and_eq_true, decide_eq_true_eq] at h
  omega
theorem rdB_bytes {t : ByteArray} {l : List Ent} (h : Right ⟨t, l⟩) : Reads rdB (txt1 t ++ (be2 l.length ++ l.flatMap entB)) ⟨t, l⟩ := by
  have hl : l.length ≤ 100 := h.len
  have h3 := rdEs_reads (l.map fun e => (e, entB e)) (fun p hp => by
    obtain ⟨e, he, rfl⟩ := List.mem_map.1 hp
    have h1 := key_40 (h.each e he).1
    have h2 := (h.each e he).2
    exact rdE_ent (by omega) (by omega))
  rw [List.length_map, List.flatMap_map, List.map_map] at h3
  have e1 : l.map ((fun p : Ent × List UInt8 => p.1) ∘ fun e => (e, entB e)) = l := by rw [show ((fun p : Ent × List UInt8 => p.1) ∘ fun e => (e, entB e)) = id from rfl, List.map_id]
  rw [e1] at h3
  have h2 : Reads rdN (be2 l.length) l.length := by
    have := rdN_reads (b1 (l.length / 256)) (b1 l.length)
    rw [be2_num _ (by omega)] at this; exact this
  have hts : t.size ≤ 200 := tag_short h.tag
  exact rdB_reads (rd1_txt (by omega)) h2 h3
theorem body_take {raw m : List UInt8} (h : raw = magicB ++ m) : ¬ raw.length < 4 ∧ raw.take 4 = magicB ∧ raw.drop 4 = m := by
  subst h
  refine ⟨by simp [magicB], rfl, rfl⟩
/-- there and back -/
theorem unpack_bytes {b : Bun} (h : Right b) : unpackE (bytesB b) = 0 ∧ unpackB (bytesB b) = ⟨b.tag, srt b.ents⟩ := by
  have hr := h.srt
  have hR := rdB_bytes hr
  have hraw : bytesB b = magicB ++ ((txt1 b.tag ++ (be2 (srt b.ents).length ++ (srt b.ents).flatMap entB)) ++ be4 (sumOf (bodyB b.tag (srt b.ents)))) := by
    unfold bytesB; rw [← List.append_assoc magicB]; rfl
  obtain ⟨h1, h2, h3⟩ := body_take hraw
  have h4 := hR.1 (be4 (sumOf (bodyB b.tag (srt b.ents))))
  rw [← h3] at h4
  have hE : unpackE (bytesB b) = 0 := by
    unfold unpackE
    rw [if_neg h1, if_pos h2, h4]
    dsimp only
    unfold sumLeft
    have hlen : (be4 (sumOf (bodyB b.tag (srt b.ents)))).length = 4 := rfl
    rw [hlen, if_neg (by decide), if_neg (by decide)]
    have ht : (bytesB b).take ((bytesB b).length - 4) = bodyB b.tag (srt b.ents) := by
      unfold bytesB
      rw [List.length_append, hlen, Nat.add_sub_cancel, List.take_left']
      rfl
    rw [ht, if_pos rfl, (sortedE_srt _).2 (srt_srt _), decide_eq_true ((right_iff _).2 hr)]
    rfl
  refine ⟨hE, ?_⟩
  unfold unpackB
  rw [if_pos hE, h4]
/-- bytes that are a bundle's are its bytes -/
theorem bytes_unpack {raw : List UInt8} (h : unpackE raw = 0) : Right (unpackB raw) ∧ Srt (unpackB raw).ents ∧ bytesB (unpackB raw) = raw := by
  have hE := h
  unfold unpackE at h
  split at h
  · cases h
  · split at h
    · rename_i h1 h2
      split at h
      · cases h
      · rename_i b r h3
        have hb : unpackB raw = b := by unfold unpackB; rw [if_pos hE, h3]
        rw [hb]
        unfold sumLeft at h
        split at h
        · cases h
        · split at h
          · cases h
          · split at h
            · rename_i g1 g2 g3
              split at h
              · rename_i g4
                rw [Bool.and_eq_true, decide_eq_true_eq] at g4
                have hs := (sortedE_srt _).1 g4.1
                refine ⟨(right_iff b).1 g4.2, hs, ?_⟩
                obtain ⟨e1, _⟩ := rdB_inv h3
                have e2 : raw = magicB ++ raw.drop 4 := by rw [← h2, List.take_append_drop]
                have e3 : raw = bodyB b.tag b.ents ++ r := by
                  rw [e2, e1]; unfold bodyB; simp only [List.append_assoc]
                have e4 : raw.take (raw.length - r.length) = bodyB b.tag b.ents := by
                  rw [e3, List.length_append, Nat.add_sub_cancel, List.take_left']
                  rfl
                unfold bytesB
                rw [srt_of_srt hs, ← e4, ← g3]
                rw [e4]; exact e3.symm
              · cases h
            · cases h
    · cases h
theorem bytes_split (b : Bun) : bytesB b = magicB ++ ((txt1 b.tag ++ (be2 (srt b.ents).length ++ (srt b.ents).flatMap entB)) ++ be4 (sumOf (bodyB b.tag (srt b.ents)))) := by
  unfold bytesB; rw [← List.append_assoc magicB]; rfl
/-- torn it is short -/
theorem unpack_torn {b : Bun} (h : Right b) (k : Nat) (hk : k < (bytesB b).length) : unpackE ((bytesB b).take k) = 6 := by
  have hR := rdB_bytes h.srt
  have hraw := bytes_split b
  obtain ⟨s, hs⟩ : ∃ s, s = be4 (sumOf (bodyB b.tag (srt b.ents))) := ⟨_, rfl⟩
  have hs4 : s.length = 4 := by rw [hs]; rfl
  rw [← hs] at hraw
  have hlen := congrArg List.length hraw
  obtain ⟨u, hu⟩ : ∃ u, u = txt1 b.tag ++ (be2 (srt b.ents).length ++ (srt b.ents).flatMap entB) := ⟨_, rfl⟩
  rw [← hu] at hraw hR hlen
  simp only [List.length_append] at hlen
  rcases take_app magicB (u ++ s) k with ⟨hlt, e⟩ | ⟨hge, e⟩
  · rw [hraw, e]
    unfold unpackE
    rw [if_pos (by rw [List.length_take]; exact Nat.lt_of_le_of_lt (Nat.min_le_left _ _) hlt)]
  · obtain ⟨h1, h2, h3⟩ := body_take (raw := (bytesB b).take k) (m := (u ++ s).take (k - magicB.length)) (by rw [hraw]; exact e)
    unfold unpackE
    rw [if_neg h1, if_pos h2, h3]
    rcases take_app u s (k - magicB.length) with ⟨hlt, e⟩ | ⟨hge2, e⟩
    · rw [e, hR.2 _ hlt]
    · rw [e, hR.1]
      dsimp only
      unfold sumLeft
      rw [if_pos (by rw [List.length_take]; omega)]
theorem unpack_more {b : Bun} (h : Right b) (m : UInt8) : unpackE (bytesB b ++ [m]) = 3 := by
  have hR := rdB_bytes h.srt
  have hraw := bytes_split b
  obtain ⟨h1, h2, h3⟩ := body_take (raw := bytesB b ++ [m]) (m := (txt1 b.tag ++ (be2 (srt b.ents).length ++ (srt b.ents).flatMap entB)) ++ (be4 (sumOf (bodyB b.tag (srt b.ents))) ++ [m])) (by rw [hraw]; simp only [List.append_assoc])
  unfold unpackE
  rw [if_neg h1, if_pos h2, h3, hR.1]
  dsimp only
  unfold sumLeft
  have h5 : (be4 (sumOf (bodyB b.tag (srt b.ents))) ++ [m]).length = 5 := rfl
  rw [h5, if_neg (by decide), if_pos (by decide)]
theorem bytes_len (b : Bun) : 4 ≤ (bytesB b).length := by rw [bytes_split]; simp [magicB]
/-- a spoilt byte is told -/
theorem unpack_spoilt {b : Bun} (h : Right b) (i : Nat) (hi : i < (bytesB b).length) (x : UInt8) (hx : x ≠ (bytesB b)[i]) : unpackE ((bytesB b).set i x) ≠ 0 := by
  intro h0
  obtain ⟨hr', hs', hb'⟩ := bytes_unpack h0
  generalize unpackB ((bytesB b).set i x) = b' at hr' hs' hb'
  have hl4 : ∀ n, (be4 n).length = 4 := fun _ => rfl
  obtain ⟨c, hc⟩ : ∃ c, c = bodyB b.tag (srt b.ents) := ⟨_, rfl⟩
  obtain ⟨c', hc'⟩ : ∃ c', c' = bodyB b'.tag (srt b'.ents) := ⟨_, rfl⟩
  have e1 : bytesB b = c ++ be4 (sumOf c) := by rw [hc]; rfl
  have e2 : (bytesB b).set i x = c' ++ be4 (sumOf c') := by rw [← hb', hc']; rfl
  have hlen : c.length = c'.length := by
    have := congrArg List.length e2
    rw [List.length_set, e1, List.length_append, List.length_append, hl4, hl4] at this
    omega
  by_cases hlt : i < c.length
  · have e3 : (bytesB b).set i x = c.set i x ++ be4 (sumOf c) := by rw [e1, List.set_append_left _ _ hlt]
    rw [e3] at e2
    obtain ⟨e4, e5⟩ := List.append_inj e2 (by rw [List.length_set]; exact hlen)
    have e6 := be4_inj (sumOf_lt _) (sumOf_lt _) e5
    rw [← e4, List.set_eq_take_append_cons_drop, if_pos hlt] at e6
    have e7 : c = c.take i ++ c[i] :: c.drop (i + 1) := by rw [← List.drop_eq_getElem_cons hlt, List.take_append_drop]
    have e8 : sumOf (c.take i ++ c[i] :: c.drop (i + 1)) = sumOf (c.take i ++ x :: c.drop (i + 1)) := by rw [← e7]; exact e6
    have e9 := sum_spoilt _ _ e8
    apply hx
    rw [← e9]
    simp only [e1, List.getElem_append_left hlt]
  · have e3 : (bytesB b).set i x = c ++ (be4 (sumOf c)).set (i - c.length) x := by rw [e1, List.set_append_right _ _ (by omega)]
    rw [e3] at e2
    obtain ⟨e4, e5⟩ := List.append_inj e2 hlen
    rw [← e4] at e5
    apply hx
    have hj : i - c.length < (be4 (sumOf c)).length := by
      have := hi; rw [e1, List.length_append] at this; omega
    have e6 : ((be4 (sumOf c)).set (i - c.length) x)[i - c.length]'(by rw [List.length_set]; exact hj) = (be4 (sumOf c))[i - c.length] := by simp only [e5]
    rw [List.getElem_set_self] at e6
    rw [e6]
    simp only [e1, List.getElem_append_right (Nat.le_of_not_lt hlt)]
/-- the order is no matter -/
theorem bytes_perm {t : ByteArray} {l m : List Ent} (h : Uniq l) (hp : l.Perm m) : bytesB ⟨t, m⟩ = bytesB ⟨t, l⟩ := by
  unfold bytesB
  dsimp only
  rw [srt_of_perm h hp]
theorem bytes_inj {a b : Bun} (ha : Right a) (hb : Right b) (h : bytesB a = bytesB b) : a.tag = b.tag ∧ srt a.ents = srt b.ents := by
  have h1 := (unpack_bytes ha).2
  rw [h, (unpack_bytes hb).2] at h1
  injection h1 with h2 h3
  exact ⟨h2.symm, h3.symm⟩
theorem Right.perm {t : ByteArray} {l m : List Ent} (h : Right ⟨t, l⟩) (hp : l.Perm m) : Right ⟨t, m⟩ :=
  ⟨h.tag, by have := hp.length_eq; have := h.len; dsimp only at *; omega, hp.pairwise h.uniq fun {x y} hxy => Ne.symm hxy, fun e he => h.each e (hp.mem_iff.2 he)⟩
theorem Right.text {t : ByteArray} {l : List Ent} (h : Right ⟨t, l⟩) (i : Nat) (hi : i < l.length) (x : ByteArray) (hx : x.size ≤ 2000) : Right ⟨t, l.set i ⟨l[i].key, x⟩⟩ := by
  have hk : (l.set i ⟨l[i].key, x⟩).map (·.key) = l.map (·.key) := by
    rw [List.map_set]
    exact List.ext_getElem (by simp) fun j h1 h2 => by
      rw [List.getElem_set]; split
      · rename_i hij; subst hij; simp
      · rfl
  refine ⟨h.tag, by simpa using h.len, ?_, fun e he => ?_⟩
  · have h1 : (l.map (·.key)).Pairwise (· ≠ ·) := List.pairwise_map.2 h.uniq
    rw [← hk] at h1
    exact List.pairwise_map.1 h1
  · rcases List.mem_or_eq_of_mem_set he with h1 | rfl
    · exact h.each e h1
    · exact ⟨(h.each _ (List.getElem_mem hi)).1, hx⟩
/-- with another text they are others -/
theorem bytes_text {t : ByteArray} {l : List Ent} (h : Right ⟨t, l⟩) (i : Nat) (hi : i < l.length) (x : ByteArray) (hx : x.size ≤ 2000) : bytesB ⟨t, l.set i ⟨l[i].key, x⟩⟩ = bytesB ⟨t, l⟩ ↔ x = l[i].text := by
  constructor
  · intro he
    have h2 := h.text i hi x hx
    obtain ⟨_, h3⟩ := bytes_inj h2 h he
    have h4 : (⟨l[i].key, x⟩ : Ent) ∈ srt l := by
      rw [← h3, mem_srt h2.uniq]
      exact List.mem_set (l := l) (i := i) hi _
    have h5 := textK_some h.uniq ((mem_srt h.uniq).1 h4)
    have h6 := textK_some h.uniq (List.getElem_mem hi)
    dsimp only at h5
    rw [h6] at h5
    injection h5 with h5; exact h5.symm
  · intro he
    subst he
    have : l.set i ⟨l[i].key, l[i].text⟩ = l := List.set_getElem_self hi
    rw [this]
end Go.Proofs.YtmpjfomfibkbnaaGreatDoor
