/- Small functions over lists of strings: is one among them; are two lists alike. -/
import Derived.Test.YtjdfpoppimcikaaGreatDoorTagS
import Derived.BigQuiet
import Derived.Deep.QuietTactic
import Derived.Test.YtjdfpoppimcikaaGreatDoorMsgB
import Derived.Test.YtjdfpoppimcikaaGreatDoorTagR
namespace Go.Proofs.YtjdfpoppimcikaaGreatDoor
open Go.RowKit

theorem eq_of_all {α : Type} {a b : List α} (hl : a.length = b.length) (h : ∀ q (h1 : q < a.length) (h2 : q < b.length), a[q] = b[q]) : a = b :=
  List.ext_getElem hl fun q h1 h2 => h q h1 h2

end Go.Proofs.YtjdfpoppimcikaaGreatDoor
/- linguisterref1.Only (as in RefA, for a seat that has no tags). -/

namespace Go.Proofs.YtjdfpoppimcikaaGreatDoor
open Go.RowKit

theorem bts_get (s : ByteArray) (q : Nat) (h : q < s.size) : (bts s)[q]'(by rw [bts_len]; exact h) = s[q] := by
  cases s with
  | mk d => exact Array.getElem_toList (xs := d) h
theorem all_bts (p : UInt8 → Bool) (s : ByteArray) (h : ∀ q (h : q < s.size), p s[q] = true) : (bts s).all p = true := by
  rw [List.all_eq_true]
  intro x hx
  obtain ⟨q, hq, rfl⟩ := List.getElem_of_mem hx
  rw [bts_len] at hq
  rw [bts_get s q hq]
  exact h q hq
theorem not_all_bts (p : UInt8 → Bool) (s : ByteArray) (j : Nat) (hj : j < s.size) (h : p s[j] = false) : (bts s).all p = false := by
  rw [← Bool.not_eq_true, List.all_eq_true]
  intro hx
  have := hx _ (List.getElem_mem (l := bts s) (n := j) (by rw [bts_len]; exact hj))
  rw [bts_get s j hj, h] at this
  cases this
/-- A function value that says of a byte what p says. -/
def Says (f : FuncId) (p : UInt8 → Bool) : Prop := ∀ (c : UInt8) (w : World), Calls Tryz.prog f #[.int .u8 c.toNat] w fun e w' => e = .returned (.bool (p c)) ∧ w = w'
set_option maxHeartbeats 400000 in
def onlyB (s o : ByteArray) (a b : Nat) : Bool := (bts s).all (fun c => (bts o).contains c) && (decide (a ≤ s.size) && decide (s.size ≤ b))
theorem take_contains (o : ByteArray) (c : UInt8) (k : Nat) (hk : k < o.size) : ((bts o).take (k + 1)).contains c = (((bts o).take k).contains c || (c == o[k])) := by
  have hk' : k < (bts o).length := by rw [bts_len]; exact hk
  rw [List.take_add_one, List.getElem?_eq_getElem hk', bts_get o k hk, List.contains_eq_any_beq, List.any_append, List.contains_eq_any_beq]
  simp
theorem all_at (p : UInt8 → Bool) (s : ByteArray) (j : Nat) (hj : j < s.size) (h : ((bts s).take j).all p = true) : ((bts s).take (j + 1)).all p = p s[j] := by
  have hj' : j < (bts s).length := by rw [bts_len]; exact hj
  rw [List.take_add_one, List.getElem?_eq_getElem hj', bts_get s j hj, List.all_append, h]
  simp
theorem not_all_at (p : UInt8 → Bool) (s : ByteArray) (j : Nat) (hj : j < s.size) (h : p s[j] = false) : (bts s).all p = false := not_all_bts p s j hj h
theorem u8_eq (c d : UInt8) : (c == d) = decide ((c.toNat : Int) = (d.toNat : Int)) := by
  rw [Bool.eq_iff_iff, beq_iff_eq, decide_eq_true_eq]
  refine ⟨fun h => by rw [h], fun h => ?_⟩
  exact UInt8.toNat_inj.1 (by omega)
end Go.Proofs.YtjdfpoppimcikaaGreatDoor
/- Names and exact keys as the document has them are the code's: plainly. -/

namespace Go.Proofs.YtjdfpoppimcikaaGreatDoor
open Go.RowKit

/- ## Names -/
def lowAlpha : ByteArray := ⟨#[97, 98, 99, 100, 101, 102, 103, 104, 105, 106, 107, 108, 109, 110, 111, 112, 113, 114, 115, 116, 117, 118, 119, 120, 121, 122]⟩
def nameQ (s : ByteArray) : Bool := onlyB s nameChars 1 20 && onlyB (s.extract 0 1) lowAlpha 1 1
theorem dropWhile_nil {α : Type} (p : α → Bool) : ∀ l : List α, l.dropWhile p = [] ↔ l.all p = true
  | [] => by simp
  | a :: l => by
    rw [List.dropWhile_cons, List.all_cons]
    cases h : p a with
    | true => simp [dropWhile_nil p l]
    | false => simp
theorem dropWhile_head {α : Type} (p : α → Bool) : ∀ (l : List α), (l.dropWhile p).all p = true → l.dropWhile p = []
  | [], _ => rfl
  | a :: l, h => by
    rw [List.dropWhile_cons] at h ⊢
    cases hp : p a with
    | true => rw [hp] at h; simp only [if_true] at h ⊢; exact dropWhile_head p l h
    | false => rw [hp] at h; simp [hp] at h
theorem trimN_nil (l cs : List UInt8) : Lib.trimS l cs = [] ↔ l.all (cs.contains ·) = true := by
  unfold Lib.trimS Lib.trimLeftS Lib.trimRightS
  rw [dropWhile_nil, List.all_reverse]
  constructor
  · intro h
    have h1 := dropWhile_head _ _ h
    rw [dropWhile_nil, List.all_reverse] at h1
    exact h1
  · intro h
    have h1 : l.reverse.dropWhile (cs.contains ·) = [] := by rw [dropWhile_nil, List.all_reverse]; exact h
    rw [h1]; rfl
theorem extract_one (s : ByteArray) (h : 0 < s.size) : bts (s.extract 0 1) = [(bts s).headD 0] := by
  unfold bts
  rw [ByteArray.data_extract, Array.toList_extract]
  obtain ⟨⟨l⟩⟩ := s
  cases l with
  | nil => exact absurd h (by decide)
  | cons a l => simp [List.extract]
theorem idxByte (l : List UInt8) (c : UInt8) : decide (0 ≤ Lib.indexByte l c) = l.contains c := by
  rw [Bool.eq_iff_iff, decide_eq_true_eq, List.contains_iff_mem]
  have hge := Lib.indexByte_ge l c
  constructor
  · intro h
    obtain ⟨o, ho⟩ := Int.eq_ofNat_of_zero_le h
    exact List.mem_of_getElem? (Lib.indexByte_some ho).1
  · intro h
    rcases Int.lt_or_le (Lib.indexByte l c) 0 with h1 | h1
    · obtain ⟨k, hk, he⟩ := List.getElem_of_mem h
      exact absurd (by rw [List.getElem?_eq_getElem hk, he]) (Lib.indexByte_none (show Lib.indexByte l c = -1 by omega) k)
    · exact h1
theorem nameQ_eq (s : ByteArray) : nameQ s = nameR s := by
  unfold nameQ nameR onlyB
  by_cases h0 : s.size = 0
  · obtain rfl : s = ByteArray.empty := ByteArray.size_eq_zero_iff.1 h0
    decide +kernel
  have hp : 0 < s.size := by omega
  have hs : (s.extract 0 1).size = 1 := by
    have h1 := congrArg List.length (extract_one s hp)
    rw [bts_len] at h1
    exact h1
  rw [extract_one s hp, hs]
  have ht : (trimName s).toList.isEmpty = (bts s).all (fun c => (bts nameChars).contains c) := by
    rw [Bool.eq_iff_iff, List.isEmpty_iff, ← trimN_nil]
    unfold trimName
    rw [ByteArray.toList_eq]
    rfl
  have h1 : (s.size == 0) = false := by rw [beq_eq_false_iff_ne]; exact h0
  have h2 : decide (0 ≤ headOf s) = (bts lowAlpha).contains ((bts s).headD 0) := idxByte _ _
  rw [ht, h1, h2]
  have h3 : decide (1 ≤ s.size) = true := decide_eq_true hp
  rw [h3]
  simp only [List.all_cons, List.all_nil, Bool.and_true, Bool.not_false, Bool.true_and]
  cases (bts s).all (fun c => (bts nameChars).contains c) <;> cases decide (s.size ≤ 20) <;> simp

/- ## Numbers of three digits at most -/
def dg3 (n : Nat) : List UInt8 :=
  if n < 10 then [UInt8.ofNat (48 + n)] else if n < 100 then [UInt8.ofNat (48 + n / 10), UInt8.ofNat (48 + n % 10)] else [UInt8.ofNat (48 + n / 100), UInt8.ofNat (48 + n / 10 % 10), UInt8.ofNat (48 + n % 10)]
def isDg (c : UInt8) : Bool := decide (48 ≤ c.toNat) && decide (c.toNat ≤ 57)
def numL (l : List UInt8) : Nat := l.foldl (fun a c => 10 * a + (c.toNat - 48)) 0
def refNum (l : List UInt8) : Int := if l = [] then -1 else if l.all isDg = true then (if dg3 (numL l) = l then (numL l : Int) else -1) else -1
theorem dec_dg3 (n : Nat) (h : n < 1000) : Lib.decDigits n = dg3 n := by
  unfold dg3
  by_cases h1 : n < 10
  · rw [if_pos h1, Lib.decDigits_one h1]
  · by_cases h2 : n < 100
    · rw [if_neg h1, if_pos h2, Lib.decDigits_two h1 h2]
    · rw [if_neg h1, if_neg h2, Lib.decDigits, dif_neg h1]
      have e1 : n / 10 / 10 = n / 100 := by omega
      rw [Lib.decDigits_two (by omega) (by omega), e1]
      rfl
theorem itoa_dg3 (n : Nat) (h : n < 1000) : Lib.itoa (n : Int) = dg3 n := by
  unfold Lib.itoa
  rw [if_neg (by omega), Int.toNat_natCast]
  exact dec_dg3 n h
set_option maxRecDepth 100000 in
theorem atoi_dg3 : ∀ n : Fin 1000, atoiO (dg3 n.val) = some (n.val : Int) := by decide +kernel
set_option maxRecDepth 100000 in
theorem ref_dg3 : ∀ n : Fin 1000, refNum (dg3 n.val) = (n.val : Int) ∧ (dg3 n.val).length ≤ 3 := by decide +kernel
theorem numL_lt (l : List UInt8) (hl : l.length ≤ 3) (hd : l.all isDg = true) : numL l < 1000 := by
  have key : ∀ c, isDg c = true → c.toNat - 48 ≤ 9 := fun c h => by
    unfold isDg at h; simp at h; omega
  rw [List.all_eq_true] at hd
  match l, hl with
  | [], _ => decide
  | [a], _ => have := key a (hd a (by simp)); simp only [numL, List.foldl]; omega
  | [a, b], _ => have := key a (hd a (by simp)); have := key b (hd b (by simp)); simp only [numL, List.foldl]; omega
  | [a, b, c], _ => have := key a (hd a (by simp)); have := key b (hd b (by simp)); have := key c (hd c (by simp)); simp only [numL, List.foldl]; omega
theorem refNum_iff (l : List UInt8) (hl : l.length ≤ 3) : 0 ≤ refNum l ↔ ∃ n, n < 1000 ∧ l = dg3 n := by
  constructor
  · intro h
    unfold refNum at h
    split at h
    · omega
    · split at h
      · rename_i hd
        split at h
        · rename_i he
          exact ⟨numL l, numL_lt l hl hd, he.symm⟩
        · omega
      · omega
  · rintro ⟨n, hn, rfl⟩
    have := (ref_dg3 ⟨n, hn⟩).1
    dsimp only at this
    omega

/- ## Exact keys -/
def tailB (s : ByteArray) : List UInt8 := (bts s).drop 1
def headQ (s : ByteArray) (c : UInt8) : Bool := match bts s with | x :: _ => x == c | [] => false
def exactQ (s : ByteArray) : Int := if headQ s 61 = false then -1 else if 4 < s.size then -1 else refNum (tailB s)
theorem isE_head (s : ByteArray) : isE s = headQ s 61 := by
  unfold isE headQ Lib.hasPrefix bts
  cases s.data.toList with
  | nil => rfl
  | cons a l =>
    show ((61 : UInt8) == a && List.isPrefixOf [] l) = (a == 61)
    rw [show List.isPrefixOf [] l = true from by cases l <;> rfl, Bool.and_true, Bool.eq_iff_iff, beq_iff_eq, beq_iff_eq]
    exact eq_comm
theorem restE_tail (s : ByteArray) (h : isE s = true) : bts (restE s) = tailB s := by
  unfold restE tailB
  show Lib.trimPrefix s.data.toList [61] = _
  unfold Lib.trimPrefix
  unfold isE at h
  rw [if_pos h]
  rfl
theorem exact_iff (s : ByteArray) : 0 ≤ exactR s ↔ isE s = true ∧ ∃ n, n < 1000 ∧ tailB s = dg3 n := by
  unfold exactR
  cases he : isE s with
  | false => simp
  | true =>
    rw [if_neg (by simp), restE_tail s he]
    constructor
    · intro h
      refine ⟨rfl, ?_⟩
      split at h
      · omega
      · rename_i n hn
        split at h
        · omega
        · split at h
          · omega
          · split at h
            · rename_i h1 h2 h3
              obtain ⟨k, rfl⟩ := Int.eq_ofNat_of_zero_le (show 0 ≤ n by omega)
              refine ⟨k, by omega, ?_⟩
              rw [beq_iff_eq, ByteArray.toList_eq, ByteArray.toList_eq] at h3
              have h4 : Lib.itoa (k : Int) = bts (restE s) := h3
              rw [itoa_dg3 k (by omega), restE_tail s he] at h4
              exact h4.symm
            · omega
    · rintro ⟨_, n, hn, ht⟩
      rw [ht]
      have h1 := atoi_dg3 ⟨n, hn⟩
      dsimp only at h1
      rw [h1]
      dsimp only
      rw [if_neg (by omega), if_neg (by omega), if_pos ?_]
      · omega
      · rw [beq_iff_eq, ByteArray.toList_eq, ByteArray.toList_eq]
        show Lib.itoa (n : Int) = bts (restE s)
        rw [itoa_dg3 n hn, restE_tail s he, ht]
theorem exactQ_iff (s : ByteArray) : 0 ≤ exactQ s ↔ 0 ≤ exactR s := by
  rw [exact_iff]
  unfold exactQ
  rw [isE_head]
  cases he : headQ s 61 with
  | false => simp
  | true =>
    rw [if_neg (by simp)]
    have hlen : (tailB s).length = s.size - 1 := by unfold tailB; rw [List.length_drop, bts_len]
    by_cases h4 : 4 < s.size
    · rw [if_pos h4]
      constructor
      · intro h; omega
      · rintro ⟨_, n, hn, ht⟩
        have := (ref_dg3 ⟨n, hn⟩).2
        dsimp only at this
        rw [← ht, hlen] at this
        omega
    · rw [if_neg h4, refNum_iff _ (by omega)]
      simp
theorem exactQ_lt (s : ByteArray) : decide (exactQ s < 0) = !decide (0 ≤ exactR s) := by
  have h := exactQ_iff s
  rw [Bool.eq_iff_iff, Bool.not_eq_true', decide_eq_true_eq, decide_eq_false_iff_not, ← h]
  omega
def kinds5 : List ByteArray := [⟨#[122, 101, 114, 111]⟩, ⟨#[111, 110, 101]⟩, ⟨#[116, 119, 111]⟩, ⟨#[102, 101, 119]⟩, ⟨#[109, 97, 110, 121]⟩]
def otherK : ByteArray := ⟨#[111, 116, 104, 101, 114]⟩
theorem keyM_eq (kind : Int) (k : ByteArray) : (!keyM kind k) = if kind = 5 then !nameQ k else ((!eqs k otherK && !(kinds5.any (eqs · k))) && decide (exactQ k < 0)) := by
  unfold keyM
  by_cases h5 : kind = 5
  · rw [if_pos h5, if_pos h5, nameQ_eq]
  · rw [if_neg h5, if_neg h5, exactQ_lt]
    have e : kindsB = kinds5 ++ [otherK] := rfl
    have e2 : eqs otherK k = eqs k otherK := by
      rw [Bool.eq_iff_iff, eqs_iff, eqs_iff]; exact eq_comm
    rw [e, List.any_append, List.any_cons, List.any_nil, Bool.or_false, e2]
    cases eqs k otherK <;> cases kinds5.any (eqs · k) <;> cases decide (0 ≤ exactR k) <;> rfl
end Go.Proofs.YtjdfpoppimcikaaGreatDoor
/- Digits of small numbers. -/

namespace Go.Proofs.YtjdfpoppimcikaaGreatDoor
open Go.RowKit

def dig1 (n : Nat) : ByteArray := ⟨#[UInt8.ofNat (48 + n % 10)]⟩
def dig (n : Nat) : ByteArray := if n < 10 then dig1 n else dig1 (n / 10) ++ dig1 n

theorem conv_dig (n : Nat) (w : World) : (convert 58 9 (.slice (some ⟨w.heap.size, 0, none⟩) 1 1)).run Tryz.prog (w.alloc (.cells #[.int .u8 (48 + (n : Int) % 10)] 5)) = .ok (.string (dig1 n)) (w.alloc (.cells #[.int .u8 (48 + (n : Int) % 10)] 5)) := by
  refine run_convert_bytes_back (P := Tryz.prog) _ 58 9 5 ⟨w.heap.size, 0, none⟩ 1 [UInt8.ofNat (48 + n % 10)] Tryz.underlying58 Tryz.underlying5 Tryz.underlying9 ?_
  intro j hj
  have : j = 0 := by simp at hj; omega
  subst this
  have h := (Blk.new w 5 #[.int .u8 (48 + (n : Int) % 10)]).cell 0
  have e : ((UInt8.ofNat (48 + n % 10)).toNat : Int) = 48 + (n : Int) % 10 := by
    rw [UInt8.toNat_ofNat']
    omega
  simp only [List.getElem_cons_zero, e]
  exact h

end Go.Proofs.YtjdfpoppimcikaaGreatDoor
/- linguisterref1.Digits, NumberOf, Starts; linguisterref2.Name, Exact. -/

namespace Go.Proofs.YtjdfpoppimcikaaGreatDoor
open Go.RowKit

def digB : Nat → Nat → ByteArray
  | 0, n => dig1 n
  | f + 1, n => if n < 10 then dig1 n else digB f (n / 10) ++ dig1 n
theorem digB_size : ∀ (f n : Nat), 0 < (digB f n).size ∧ (digB f n).size ≤ f + 1
  | 0, n => by show 0 < 1 ∧ 1 ≤ 0 + 1; decide
  | f + 1, n => by
    unfold digB
    split
    · show 0 < 1 ∧ 1 ≤ f + 1 + 1; omega
    · have := digB_size f (n / 10)
      rw [ByteArray.size_append]
      have e : (dig1 n).size = 1 := rfl
      omega
set_option maxRecDepth 100000 in
theorem digB_dg3 : ∀ n : Fin 1000, bts (digB 2 n.val) = dg3 n.val := by decide +kernel
theorem numL_snoc (l : List UInt8) (c : UInt8) : numL (l ++ [c]) = 10 * numL l + (c.toNat - 48) := by unfold numL; rw [List.foldl_append]; rfl
theorem all_snoc (l : List UInt8) (c : UInt8) (h : l.all isDg = true) : (l ++ [c]).all isDg = isDg c := by rw [List.all_append, h]; simp
theorem isDg_not {l : List UInt8} {j : Nat} {c : UInt8} (h : l[j]? = some c) (hc : isDg c = false) : l.all isDg = false := by
  rw [← Bool.not_eq_true, List.all_eq_true]
  intro hx
  have := hx _ (List.mem_of_getElem? h)
  rw [hc] at this; cases this
end Go.Proofs.YtjdfpoppimcikaaGreatDoor
/- linguisterref1.Starts, Kinds; linguisterref2.Name, Exact, CasesOf, KeyFault. -/

namespace Go.Proofs.YtjdfpoppimcikaaGreatDoor
open Go.RowKit

theorem one_at (s : ByteArray) (c : UInt8) (j : Nat) (hj : j < s.size) : ((s.extract j (j + 1)).toList == (⟨#[c]⟩ : ByteArray).toList) = (s[j] == c) := by
  have h1 : (s.extract j (j + 1)).toList = [s[j]] := by
    rw [ByteArray.toList_eq]
    show bts _ = _
    have hj' : j < (bts s).length := by rw [bts_len]; exact hj
    rw [bts_extract, List.take_add_one, List.getElem?_eq_getElem hj', bts_get s j hj, List.drop_append_of_le_length (by rw [List.length_take]; omega), List.drop_of_length_le (by rw [List.length_take]; omega)]
    rfl
  have h2 : (⟨#[c]⟩ : ByteArray).toList = [c] := by rw [ByteArray.toList_eq]
  rw [h1, h2]
  simp
theorem drop_at (s : ByteArray) (j : Nat) (hj : j < s.size) : (bts s).drop j = s[j] :: (bts s).drop (j + 1) := by
  have hj' : j < (bts s).length := by rw [bts_len]; exact hj
  rw [List.drop_eq_getElem_cons hj', bts_get s j hj]
/- ## Name -/
/- ## Exact -/
/- ## Kinds -/
/- ## CasesOf -/
end Go.Proofs.YtjdfpoppimcikaaGreatDoor
/- lex.Bare, plainly: a text, quoted or not, and what is left. -/

namespace Go.Proofs.YtjdfpoppimcikaaGreatDoor
open Go.RowKit

abbrev LexR := Option (List UInt8 × List UInt8)
def appL (a : List UInt8) (p : List UInt8 × List UInt8) : List UInt8 × List UInt8 := (a ++ p.1, p.2)
theorem appL_nil (o : LexR) : o.map (appL []) = o := by cases o <;> rfl
theorem appL_two (a b : List UInt8) (o : LexR) : (o.map (appL b)).map (appL a) = o.map (appL (a ++ b)) := by
  cases o with
  | none => rfl
  | some p => show some _ = some _; simp [appL, List.append_assoc]
/-- what is quoted, up to where -/
def quotedL : List UInt8 → LexR
  | [] => none
  | [c] => if c = 39 then some ([], []) else none
  | c :: d :: r => if c = 39 then (if d = 39 then (quotedL r).map (appL [39]) else some ([], d :: r)) else (quotedL (d :: r)).map (appL [c])
theorem quotedL_plain {c : UInt8} {r : List UInt8} (h : c ≠ 39) : quotedL (c :: r) = (quotedL r).map (appL [c]) := by
  cases r with
  | nil => unfold quotedL; rw [if_neg h]; rfl
  | cons d r => exact if_neg h
theorem quotedL_two {r : List UInt8} : quotedL (39 :: 39 :: r) = (quotedL r).map (appL [39]) := (if_pos rfl).trans (if_pos rfl)
theorem quotedL_end {r : List UInt8} (h : r.head? ≠ some 39) : quotedL (39 :: r) = some ([], r) := by
  cases r with
  | nil => exact if_pos rfl
  | cons d r => exact (if_pos rfl).trans (if_neg fun e => h (by rw [e]; rfl))
theorem quotedL_len : ∀ (n : Nat) (l t r : List UInt8), l.length ≤ n → quotedL l = some (t, r) → t.length + r.length + 1 ≤ l.length
  | 0, l, t, r, hn, h => by
    obtain rfl := List.length_eq_zero_iff.1 (Nat.le_zero.1 hn)
    cases h
  | n + 1, [], t, r, hn, h => by cases h
  | n + 1, c :: l, t, r, hn, h => by
    have hl : l.length ≤ n := by rw [List.length_cons] at hn; omega
    have sub : ∀ (l' : List UInt8) (a : List UInt8), a.length = 1 → l'.length ≤ n → (quotedL l').map (appL a) = some (t, r) → t.length + r.length + 1 ≤ l'.length + 1 := fun l' a ha hl' h' => by
      cases hq : quotedL l' with
      | none => rw [hq] at h'; cases h'
      | some p =>
        obtain ⟨t', r'⟩ := p
        rw [hq] at h'
        injection h' with h'
        injection h' with h1 h2
        have := quotedL_len n l' t' r' hl' hq
        rw [← h1, ← h2, List.length_append]
        show a.length + t'.length + r'.length + 1 ≤ _
        omega
    by_cases hc : c = 39
    · subst hc
      by_cases hh : l.head? = some 39
      · cases l with
        | nil => cases hh
        | cons d q =>
          injection hh with hh
          subst hh
          rw [quotedL_two] at h
          rw [List.length_cons] at hl
          have := sub q [39] rfl (by omega) h
          rw [List.length_cons, List.length_cons]; omega
      · rw [quotedL_end hh] at h
        injection h with h
        injection h with h1 h2
        rw [← h1, ← h2, List.length_cons]
        show 0 + l.length + 1 ≤ _
        omega
    · rw [quotedL_plain hc] at h
      have := sub l [c] rfl hl h
      rw [List.length_cons]; omega
/-- the signs -/
def sgB (mark : Bool) : ByteArray := if mark then ⟨#[123, 125, 35]⟩ else ⟨#[123, 125]⟩
def sigL (mark : Bool) (c : UInt8) : Bool := (bts (sgB mark)).contains c
def sigH (mark : Bool) (r : List UInt8) : Bool := (r.head?.map (sigL mark)).getD false
/-- with fuel -/
def lexL (mark : Bool) : Nat → List UInt8 → LexR
  | 0, _ => none
  | _ + 1, [] => some ([], [])
  | n + 1, c :: r => if sigL mark c = true then some ([], c :: r) else if c = 39 ∧ r.head? = some 39 then (lexL mark n r.tail).map (appL [39])
      else if c = 39 ∧ sigH mark r = true then (match quotedL r with | none => none | some p => (lexL mark n p.2).map (appL p.1)) else (lexL mark n r).map (appL [c])
def bareM (mark : Bool) (l : List UInt8) : LexR := lexL mark (l.length + 1) l
section
variable {mark : Bool} {n : Nat} {c : UInt8} {r : List UInt8}
theorem lexL_nil : lexL mark (n + 1) [] = some ([], []) := rfl
theorem lexL_sign (h : sigL mark c = true) : lexL mark (n + 1) (c :: r) = some ([], c :: r) := if_pos h
theorem lexL_two (h : sigL mark 39 = false) : lexL mark (n + 1) (39 :: 39 :: r) = (lexL mark n r).map (appL [39]) := (if_neg (by rw [h]; decide)).trans (if_pos ⟨rfl, rfl⟩)
theorem lexL_quote (h : sigL mark 39 = false) (h1 : r.head? ≠ some 39) (h2 : sigH mark r = true) : lexL mark (n + 1) (39 :: r) = match quotedL r with | none => none | some p => (lexL mark n p.2).map (appL p.1) :=
  (if_neg (by rw [h]; decide)).trans ((if_neg fun e => h1 e.2).trans (if_pos ⟨rfl, h2⟩))
theorem lexL_bad (h : sigL mark 39 = false) (h1 : r.head? ≠ some 39) (h2 : sigH mark r = true) (hq : quotedL r = none) : lexL mark (n + 1) (39 :: r) = none := by rw [lexL_quote h h1 h2, hq]
theorem lexL_good {p : List UInt8 × List UInt8} (h : sigL mark 39 = false) (h1 : r.head? ≠ some 39) (h2 : sigH mark r = true) (hq : quotedL r = some p) : lexL mark (n + 1) (39 :: r) = (lexL mark n p.2).map (appL p.1) := by rw [lexL_quote h h1 h2, hq]
theorem quotedL_drop : ∀ (k : Nat) (l : List UInt8) (p : List UInt8 × List UInt8), l.length ≤ k → quotedL l = some p → p.2 = l.drop (l.length - p.2.length)
  | 0, l, p, hk, h => by
    obtain rfl := List.length_eq_zero_iff.1 (Nat.le_zero.1 hk)
    cases h
  | k + 1, [], p, hk, h => by cases h
  | k + 1, c :: l, p, hk, h => by
    have hl : l.length ≤ k := by rw [List.length_cons] at hk; omega
    have sub : ∀ (l' : List UInt8) (a : List UInt8), l'.length ≤ k → (quotedL l').map (appL a) = some p → p.2 = l'.drop (l'.length - p.2.length) ∧ p.2.length ≤ l'.length := fun l' a hl' h' => by
      cases hq : quotedL l' with
      | none => rw [hq] at h'; cases h'
      | some p' =>
        rw [hq] at h'
        injection h' with h'
        subst h'
        have h5 := quotedL_len _ _ p'.1 p'.2 (Nat.le_refl _) hq
        exact ⟨quotedL_drop k l' p' hl' hq, by show p'.2.length ≤ _; omega⟩
    by_cases hc : c = 39
    · subst hc
      by_cases hh : l.head? = some 39
      · cases l with
        | nil => cases hh
        | cons d q =>
          injection hh with hh
          subst hh
          rw [quotedL_two] at h
          obtain ⟨h1, h2⟩ := sub q [39] (by rw [List.length_cons] at hl; omega) h
          rw [List.length_cons, List.length_cons, show q.length + 1 + 1 - p.2.length = (q.length - p.2.length) + 1 + 1 from by omega, List.drop_succ_cons, List.drop_succ_cons]
          exact h1
      · rw [quotedL_end hh] at h
        injection h with h
        subst h
        show l = _
        rw [List.length_cons]
        show l = (39 :: l).drop (l.length + 1 - l.length)
        rw [show l.length + 1 - l.length = 1 from by omega]; rfl
    · rw [quotedL_plain hc] at h
      obtain ⟨h1, h2⟩ := sub l [c] hl h
      rw [List.length_cons, show l.length + 1 - p.2.length = (l.length - p.2.length) + 1 from by omega, List.drop_succ_cons]
      exact h1
theorem lexL_plain (h : sigL mark c = false) (h1 : c = 39 → r.head? ≠ some 39 ∧ sigH mark r = false) : lexL mark (n + 1) (c :: r) = (lexL mark n r).map (appL [c]) :=
  (if_neg (by rw [h]; decide)).trans ((if_neg fun e => (h1 e.1).1 e.2).trans (if_neg fun e => by have := (h1 e.1).2; rw [e.2] at this; cases this))
theorem sig39 (mark : Bool) : sigL mark 39 = false := by cases mark <;> decide
end
theorem lexL_len (mark : Bool) : ∀ (n : Nat) (l t r : List UInt8), lexL mark n l = some (t, r) → t.length + r.length ≤ l.length
  | 0, l, t, r, h => by cases h
  | n + 1, [], t, r, h => by
    injection h with h; injection h with h1 h2
    rw [← h1, ← h2]; exact Nat.le_refl _
  | n + 1, c :: l, t, r, h => by
    have sub : ∀ (l' a : List UInt8), (lexL mark n l').map (appL a) = some (t, r) → t.length + r.length ≤ a.length + l'.length := fun l' a h' => by
      cases hq : lexL mark n l' with
      | none => rw [hq] at h'; cases h'
      | some p =>
        obtain ⟨t', r'⟩ := p
        rw [hq] at h'
        injection h' with h'
        injection h' with h1 h2
        have := lexL_len mark n l' t' r' hq
        rw [← h1, ← h2, List.length_append]
        show a.length + t'.length + r'.length ≤ _
        omega
    unfold lexL at h
    rw [List.length_cons]
    split at h
    · injection h with h; injection h with h1 h2
      rw [← h1, ← h2, List.length_cons]
      show 0 + (l.length + 1) ≤ _; omega
    split at h
    · have := sub _ _ h
      rw [List.length_tail] at this
      show _ ≤ _
      rw [show [(39 : UInt8)].length = 1 from rfl] at this
      omega
    split at h
    · split at h
      · cases h
      · rename_i p hp
        have := sub _ _ h
        have h5 := quotedL_len _ _ p.1 p.2 (Nat.le_refl _) hp
        omega
    · have := sub _ _ h
      rw [show [c].length = 1 from rfl] at this
      omega
theorem quotedL_suf {l : List UInt8} {p : List UInt8 × List UInt8} (h : quotedL l = some p) : p.2 <:+ l := by
  rw [List.suffix_iff_eq_drop]; exact quotedL_drop _ l p (Nat.le_refl _) h
theorem lexL_suf (mark : Bool) : ∀ (n : Nat) (l : List UInt8) (p : List UInt8 × List UInt8), lexL mark n l = some p → p.2 <:+ l
  | 0, l, p, h => by cases h
  | n + 1, [], p, h => by
    injection h with h
    subst h; exact List.suffix_refl _
  | n + 1, c :: l, p, h => by
    have sub : ∀ (l' a : List UInt8), l' <:+ c :: l → (lexL mark n l').map (appL a) = some p → p.2 <:+ c :: l := fun l' a hs h' => by
      obtain ⟨p', hq, h'⟩ := Option.map_eq_some_iff.1 h'
      subst h'
      exact (lexL_suf mark n l' p' hq).trans hs
    have hc : l <:+ c :: l := List.suffix_cons c l
    unfold lexL at h
    split at h
    · injection h with h
      subst h; exact List.suffix_refl _
    split at h
    · exact sub _ _ ((List.tail_suffix l).trans hc) h
    split at h
    · split at h
      · cases h
      · rename_i q hq
        exact sub _ _ ((quotedL_suf hq).trans hc) h
    · exact sub _ _ hc h
theorem bareM_drop {mark : Bool} {l : List UInt8} {p : List UInt8 × List UInt8} (h : bareM mark l = some p) : l.drop (l.length - p.2.length) = p.2 := by
  have := lexL_suf mark _ l p h
  rw [List.suffix_iff_eq_drop] at this
  exact this.symm
theorem bareM_len {mark : Bool} {l t r : List UInt8} (h : bareM mark l = some (t, r)) : t.length + r.length ≤ l.length := lexL_len mark _ _ _ _ h
end Go.Proofs.YtjdfpoppimcikaaGreatDoor
