/- Names and exact keys as the document has them are the code's: plainly. -/
import Derived.Test.YtokjbdefkfdhhaaGreatDoorMsgA
import Derived.Test.YtokjbdefkfdhhaaGreatDoorQOnly
namespace Go.Proofs.YtokjbdefkfdhhaaGreatDoor
open Go.RowKit

/- ## Names -/
def lowAlpha : ByteArray := ⟨#[97, 98, 99, 100, 101, 102, 103, 104, 105, 106, 107, 108, 109, 110, 111, 112, 113, 114, 115, 116, 117, 118, 119, 120, 121, 122]⟩
def nameQ (s : ByteArray) : Bool := onlyB s nameChars 1 20 && onlyB (s.extract 0 1) lowAlpha 1 1
theorem dropWhile_nil {α : Type} (p : α → Bool) : ∀ l : List α, l.dropWhile p = [] ↔ l.all p = true
  | [] => by simp
  | a :: l => by
    rw [List.dropWhile_cons, List.all_cons]
    cases h : p a with
    | true => simp [dropWhile_nil p l]
    | false => simp
theorem dropWhile_head {α : Type} (p : α → Bool) : ∀ (l : List α), (l.dropWhile p).all p = true → l.dropWhile p = []
  | [], _ => rfl
  | a :: l, h => by
    rw [List.dropWhile_cons] at h ⊢
    cases hp : p a with
    | true => rw [hp] at h; simp only [if_true] at h ⊢; exact dropWhile_head p l h
    | false => rw [hp] at h; simp [hp] at h
theorem trimN_nil (l cs : List UInt8) : Lib.trimS l cs = [] ↔ l.all (cs.contains ·) = true := by
  unfold Lib.trimS Lib.trimLeftS Lib.trimRightS
  rw [dropWhile_nil, List.all_reverse]
  constructor
  · intro h
    have h1 := dropWhile_head _ _ h
    rw [dropWhile_nil, List.all_reverse] at h1
    exact h1
  · intro h
    have h1 : l.reverse.dropWhile (cs.contains ·) = [] := by rw [dropWhile_nil, List.all_reverse]; exact h
    rw [h1]; rfl
theorem extract_one (s : ByteArray) (h : 0 < s.size) : bts (s.extract 0 1) = [(bts s).headD 0] := by
  unfold bts
  rw [ByteArray.data_extract, Array.toList_extract]
  obtain ⟨⟨l⟩⟩ := s
  cases l with
  | nil => exact absurd h (by decide)
  | cons a l => simp [List.extract]
theorem idxByte (l : List UInt8) (c : UInt8) : decide (0 ≤ Lib.indexByte l c) = l.contains c := by
  rw [Bool.eq_iff_iff, decide_eq_true_eq, List.contains_iff_mem]
  have hge := Lib.indexByte_ge l c
  constructor
  · intro h
    obtain ⟨o, ho⟩ := Int.eq_ofNat_of_zero_le h
    exact List.mem_of_getElem? (Lib.indexByte_some ho).1
  · intro h
    rcases Int.lt_or_le (Lib.indexByte l c) 0 with h1 | h1
    · obtain ⟨k, hk, he⟩ := List.getElem_of_mem h
      exact absurd (by rw [List.getElem?_eq_getElem hk, he]) (Lib.indexByte_none (show Lib.indexByte l c = -1 by omega) k)
    · exact h1
theorem nameQ_eq (s : ByteArray) : nameQ s = nameR s := by
  unfold nameQ nameR onlyB
  by_cases h0 : s.size = 0
  · obtain rfl : s = ByteArray.empty := ByteArray.size_eq_zero_iff.1 h0
    decide +kernel
  have hp : 0 < s.size := by omega
  have hs : (s.extract 0 1).size = 1 := by
    have h1 := congrArg List.length (extract_one s hp)
    rw [bts_len] at h1
    exact h1
  rw [extract_one s hp, hs]
  have ht : (trimName s).toList.isEmpty = (bts s).all (fun c => (bts nameChars).contains c) := by
    rw [Bool.eq_iff_iff, List.isEmpty_iff, ← trimN_nil]
    unfold trimName
    rw [ByteArray.toList_eq]
    rfl
  have h1 : (s.size == 0) = false := by rw [beq_eq_false_iff_ne]; exact h0
  have h2 : decide (0 ≤ headOf s) = (bts lowAlpha).contains ((bts s).headD 0) := idxByte _ _
  rw [ht, h1, h2]
  have h3 : decide (1 ≤ s.size) = true := decide_eq_true hp
  rw [h3]
  simp only [List.all_cons, List.all_nil, Bool.and_true, Bool.not_false, Bool.true_and]
  cases (bts s).all (fun c => (bts nameChars).contains c) <;> cases decide (s.size ≤ 20) <;> simp

/- ## Numbers of three digits at most -/
def dg3 (n : Nat) : List UInt8 :=
  if n < 10 then [UInt8.ofNat (48 + n)] else if n < 100 then [UInt8.ofNat (48 + n / 10), UInt8.ofNat (48 + n % 10)] else [UInt8.ofNat (48 + n / 100), UInt8.ofNat (48 + n / 10 % 10), UInt8.ofNat (48 + n % 10)]
def isDg (c : UInt8) : Bool := decide (48 ≤ c.toNat) && decide (c.toNat ≤ 57)
def numL (l : List UInt8) : Nat := l.foldl (fun a c => 10 * a + (c.toNat - 48)) 0
def refNum (l : List UInt8) : Int := if l = [] then -1 else if l.all isDg = true then (if dg3 (numL l) = l then (numL l : Int) else -1) else -1
theorem dec_dg3 (n : Nat) (h : n < 1000) : Lib.decDigits n = dg3 n := by
  unfold dg3
  by_cases h1 : n < 10
  · rw [if_pos h1, Lib.decDigits_one h1]
  · by_cases h2 : n < 100
    · rw [if_neg h1, if_pos h2, Lib.decDigits_two h1 h2]
    · rw [if_neg h1, if_neg h2, Lib.decDigits, dif_neg h1]
      have e1 : n / 10 / 10 = n / 100 := by omega
      rw [Lib.decDigits_two (by omega) (by omega), e1]
      rfl
theorem itoa_dg3 (n : Nat) (h : n < 1000) : Lib.itoa (n : Int) = dg3 n := by
  unfold Lib.itoa
  rw [if_neg (by omega), Int.toNat_natCast]
  exact dec_dg3 n h
set_option maxRecDepth 100000 in
theorem atoi_dg3 : ∀ n : Fin 1000, atoiO (dg3 n.val) = some (n.val : Int) := by decide +kernel
set_option maxRecDepth 100000 in
theorem ref_dg3 : ∀ n : Fin 1000, refNum (dg3 n.val) = (n.val : Int) ∧ (dg3 n.val).length ≤ 3 := by decide +kernel
theorem numL_lt (l : List UInt8) (hl : l.length ≤ 3) (hd : l.all isDg = true) : numL l < 1000 := by
  have key : ∀ c, isDg c = true → c.toNat - 48 ≤ 9 := fun c h => by
    unfold isDg at h; simp at h; omega
  rw [List.all_eq_true] at hd
  match l, hl with
  | [], _ => decide
  | [a], _ => have := key a (hd a (by simp)); simp only [numL, List.foldl]; omega
  | [a, b], _ => have := key a (hd a (by simp)); have := key b (hd b (by simp)); simp only [numL, List.foldl]; omega
  | [a, b, c], _ => have := key a (hd a (by simp)); have := key b (hd b (by simp)); have := key c (hd c (by simp)); simp only [numL, List.foldl]; omega
theorem refNum_iff (l : List UInt8) (hl : l.length ≤ 3) : 0 ≤ refNum l ↔ ∃ n, n < 1000 ∧ l = dg3 n := by
  constructor
  · intro h
    unfold refNum at h
    split at h
    · omega
    · split at h
      · rename_i hd
        split at h
        · rename_i he
          exact ⟨numL l, numL_lt l hl hd, he.symm⟩
        · omega
      · omega
  · rintro ⟨n, hn, rfl⟩
    have := (ref_dg3 ⟨n, hn⟩).1
    dsimp only at this
    omega

/- ## Exact keys -/
def tailB (s : ByteArray) : List UInt8 := (bts s).drop 1
def headQ (s : ByteArray) (c : UInt8) : Bool := match bts s with | x :: _ => x == c | [] => false
def exactQ (s : ByteArray) : Int := if headQ s 61 = false then -1 else if 4 < s.size then -1 else refNum (tailB s)
theorem isE_head (s : ByteArray) : isE s = headQ s 61 := by
  unfold isE headQ Lib.hasPrefix bts
  cases s.data.toList with
  | nil => rfl
  | cons a l =>
    show ((61 : UInt8) == a && List.isPrefixOf [] l) = (a == 61)
    rw [show List.isPrefixOf [] l = true from by cases l <;> rfl, Bool.and_true, Bool.eq_iff_iff, beq_iff_eq, beq_iff_eq]
    exact eq_comm
theorem restE_tail (s : ByteArray) (h : isE s = true) : bts (restE s) = tailB s := by
  unfold restE tailB
  show Lib.trimPrefix s.data.toList [61] = _
  unfold Lib.trimPrefix
  unfold isE at h
  rw [if_pos h]
  rfl
theorem exact_iff (s : ByteArray) : 0 ≤ exactR s ↔ isE s = true ∧ ∃ n, n < 1000 ∧ tailB s = dg3 n := by
  unfold exactR
  cases he : isE s with
  | false => simp
  | true =>
    rw [if_neg (by simp), restE_tail s he]
    constructor
    · intro h
      refine ⟨rfl, ?_⟩
      split at h
      · omega
      · rename_i n hn
        split at h
        · omega
        · split at h
          · omega
          · split at h
            · rename_i h1 h2 h3
              obtain ⟨k, rfl⟩ := Int.eq_ofNat_of_zero_le (show 0 ≤ n by omega)
              refine ⟨k, by omega, ?_⟩
              rw [beq_iff_eq, ByteArray.toList_eq, ByteArray.toList_eq] at h3
              have h4 : Lib.itoa (k : Int) = bts (restE s) := h3
              rw [itoa_dg3 k (by omega), restE_tail s he] at h4
              exact h4.symm
            · omega
    · rintro ⟨_, n, hn, ht⟩
      rw [ht]
      have h1 := atoi_dg3 ⟨n, hn⟩
      dsimp only at h1
      rw [h1]
      dsimp only
      rw [if_neg (by omega), if_neg (by omega), if_pos ?_]
      · omega
      · rw [beq_iff_eq, ByteArray.toList_eq, ByteArray.toList_eq]
        show Lib.itoa (n : Int) = bts (restE s)
        rw [itoa_dg3 n hn, restE_tail s he, ht]
theorem exactQ_iff (s : ByteArray) : 0 ≤ exactQ s ↔ 0 ≤ exactR s := by
  rw [exact_iff]
  unfold exactQ
  rw [isE_head]
  cases he : headQ s 61 with
  | false => simp
  | true =>
    rw [if_neg (by simp)]
    have hlen : (tailB s).length = s.size - 1 := by unfold tailB; rw [List.length_drop, bts_len]
    by_cases h4 : 4 < s.size
    · rw [if_pos h4]
      constructor
      · intro h; omega
      · rintro ⟨_, n, hn, ht⟩
        have := (ref_dg3 ⟨n, hn⟩).2
        dsimp only at this
        rw [← ht, hlen] at this
        omega
    · rw [if_neg h4, refNum_iff _ (by omega)]
      simp
theorem exactQ_lt (s : ByteArray) : decide (exactQ s < 0) = !decide (0 ≤ exactR s) := by
  have h := exactQ_iff s
  rw [Bool.eq_iff_iff, Bool.not_eq_true', decide_eq_true_eq, decide_eq_false_iff_not, ← h]
  omega
def kinds5 : List ByteArray := [⟨#[122, 101, 114, 111]⟩, ⟨#[111, 110, 101]⟩, ⟨#[116, 119, 111]⟩, ⟨#[102, 101, 119]⟩, ⟨#[109, 97, 110, 121]⟩]
def otherK : ByteArray := ⟨#[111, 116, 104, 101, 114]⟩
theorem keyM_eq (kind : Int) (k : ByteArray) : (!keyM kind k) = if kind = 5 then !nameQ k else ((!eqs k otherK && !(kinds5.any (eqs · k))) && decide (exactQ k < 0)) := by
  unfold keyM
  by_cases h5 : kind = 5
  · rw [if_pos h5, if_pos h5, nameQ_eq]
  · rw [if_neg h5, if_neg h5, exactQ_lt]
    have e : kindsB = kinds5 ++ [otherK] := rfl
    have e2 : eqs otherK k = eqs k otherK := by
      rw [Bool.eq_iff_iff, eqs_iff, eqs_iff]; exact eq_comm
    rw [e, List.any_append, List.any_cons, List.any_nil, Bool.or_false, e2]
    cases eqs k otherK <;> cases kinds5.any (eqs · k) <;> cases decide (0 ≤ exactR k) <;> rfl
end Go.Proofs.YtokjbdefkfdhhaaGreatDoor
