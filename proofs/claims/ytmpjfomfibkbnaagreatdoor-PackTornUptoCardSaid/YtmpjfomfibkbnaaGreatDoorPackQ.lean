/- What a reader at a place reads, in the plain words of PackP. -/
import Derived.Test.YtmpjfomfibkbnaaGreatDoorPackP
import Derived.Test.YtmpjfomfibkbnaaGreatDoorPackE
set_option linter.unusedSimpArgs false
set_option linter.unusedVariables false
namespace Go.Proofs.YtmpjfomfibkbnaaGreatDoor
open Go.RowKit

theorem numOf_one (x : UInt8) : numOf [x] = x.toNat := by simp [numOf]
theorem numOf_two (x y : UInt8) : numOf [x, y] = 256 * x.toNat + y.toNat := by simp [numOf]
theorem take1 {l : List UInt8} {a : Nat} (h : a + 1 ≤ l.length) : ∃ x, l.drop a = x :: l.drop (a + 1) ∧ numOf ((l.drop a).take 1) = x.toNat := by
  refine ⟨l[a], List.drop_eq_getElem_cons (by omega), ?_⟩
  rw [List.drop_eq_getElem_cons (show a < l.length by omega), List.take_succ_cons, List.take_zero]
  exact numOf_one _
theorem take2 {l : List UInt8} {a : Nat} (h : a + 2 ≤ l.length) : ∃ x y, l.drop a = x :: y :: l.drop (a + 2) ∧ numOf ((l.drop a).take 2) = 256 * x.toNat + y.toNat := by
  refine ⟨l[a], l[a + 1], ?_, ?_⟩
  · rw [List.drop_eq_getElem_cons (show a < l.length by omega), List.drop_eq_getElem_cons (show a + 1 < l.length by omega)]
  · rw [List.drop_eq_getElem_cons (show a < l.length by omega), List.drop_eq_getElem_cons (show a + 1 < l.length by omega)]
    rw [List.take_succ_cons, List.take_succ_cons, List.take_zero]
    exact numOf_two _ _
theorem takeN_at (l : List UInt8) (a n : Nat) : takeN n (l.drop a) = if a + n ≤ l.length ∨ n = 0 then some (str ((l.drop a).take n), l.drop (a + n)) else none := by
  unfold takeN
  rw [List.length_drop, List.drop_drop]
  by_cases h : n ≤ l.length - a
  · rw [if_pos h, if_pos (by omega)]
  · rw [if_neg h, if_neg (by omega)]
theorem rd1_ok {l : List UInt8} {a n : Nat} (t1 : a + 1 ≤ l.length) (hn : numOf ((l.drop a).take 1) = n) (t2 : a + 1 + n ≤ l.length) : rd1 (l.drop a) = some (str ((l.drop (a + 1)).take n), l.drop (a + 1 + n)) := by
  obtain ⟨x, e, hx⟩ := take1 t1
  rw [hn] at hx
  rw [e]
  show takeN x.toNat _ = _
  rw [← hx, takeN_at, if_pos (.inl t2)]
theorem rd1_no1 {l : List UInt8} {a : Nat} (t : ¬ a + 1 ≤ l.length) : rd1 (l.drop a) = none := by
  rw [List.drop_eq_nil_of_le (by omega)]; rfl
theorem rd1_no2 {l : List UInt8} {a n : Nat} (t1 : a + 1 ≤ l.length) (hn : numOf ((l.drop a).take 1) = n) (t2 : ¬ a + 1 + n ≤ l.length) : rd1 (l.drop a) = none := by
  obtain ⟨x, e, hx⟩ := take1 t1
  rw [hn] at hx
  rw [e]
  show takeN x.toNat _ = _
  rw [← hx, takeN_at, if_neg (by omega)]
theorem two_no {l : List UInt8} {a : Nat} (t : ¬ a + 2 ≤ l.length) : l.drop a = [] ∨ ∃ x, l.drop a = [x] := by
  have h : (l.drop a).length < 2 := by rw [List.length_drop]; omega
  match l.drop a, h with
  | [], _ => exact .inl rfl
  | [x], _ => exact .inr ⟨x, rfl⟩
  | _ :: _ :: _, h => simp at h; omega
theorem rd2_ok {l : List UInt8} {a n : Nat} (t1 : a + 2 ≤ l.length) (hn : numOf ((l.drop a).take 2) = n) (t2 : a + 2 + n ≤ l.length) : rd2 (l.drop a) = some (str ((l.drop (a + 2)).take n), l.drop (a + 2 + n)) := by
  obtain ⟨x, y, e, hx⟩ := take2 t1
  rw [hn] at hx
  rw [e]
  show takeN (256 * x.toNat + y.toNat) _ = _
  rw [← hx, takeN_at, if_pos (.inl t2)]
theorem rd2_no1 {l : List UInt8} {a : Nat} (t : ¬ a + 2 ≤ l.length) : rd2 (l.drop a) = none := by
  rcases two_no t with h | ⟨x, h⟩ <;> rw [h] <;> rfl
theorem rd2_no2 {l : List UInt8} {a n : Nat} (t1 : a + 2 ≤ l.length) (hn : numOf ((l.drop a).take 2) = n) (t2 : ¬ a + 2 + n ≤ l.length) : rd2 (l.drop a) = none := by
  obtain ⟨x, y, e, hx⟩ := take2 t1
  rw [hn] at hx
  rw [e]
  show takeN (256 * x.toNat + y.toNat) _ = _
  rw [← hx, takeN_at, if_neg (by omega)]
theorem rdN_ok {l : List UInt8} {a n : Nat} (t1 : a + 2 ≤ l.length) (hn : numOf ((l.drop a).take 2) = n) : rdN (l.drop a) = some (n, l.drop (a + 2)) := by
  obtain ⟨x, y, e, hx⟩ := take2 t1
  rw [e, ← hn, hx]; rfl
theorem rdN_no {l : List UInt8} {a : Nat} (t : ¬ a + 2 ≤ l.length) : rdN (l.drop a) = none := by
  rcases two_no t with h | ⟨x, h⟩ <;> rw [h] <;> rfl
theorem rdE_ok {m r s : List UInt8} {k t : ByteArray} (h1 : rd1 m = some (k, r)) (h2 : rd2 r = some (t, s)) : rdE m = some (⟨k, t⟩, s) := by
  unfold rdE; rw [h1]; dsimp only; rw [h2]
theorem rdE_no1 {m : List UInt8} (h1 : rd1 m = none) : rdE m = none := by
  unfold rdE; rw [h1]
theorem rdE_no2 {m r : List UInt8} {k : ByteArray} (h1 : rd1 m = some (k, r)) (h2 : rd2 r = none) : rdE m = none := by
  unfold rdE; rw [h1]; dsimp only; rw [h2]
theorem rdEs_snoc : ∀ {j : Nat} {m r s : List UInt8} {es : List Ent} {e : Ent}, rdEs j m = some (es, r) → rdE r = some (e, s) → rdEs (j + 1) m = some (es ++ [e], s)
  | 0, m, r, s, es, e, h, h2 => by
    injection h with h; injection h with h3 h4
    subst h3; subst h4
    unfold rdEs; rw [h2]; rfl
  | j + 1, m, r, s, es, e, h, h2 => by
    unfold rdEs at h
    split at h
    · cases h
    · rename_i x q h1
      split at h
      · cases h
      · rename_i xs z h3
        injection h with h; injection h with h4 h5
        subst h4; subst h5
        have ih := rdEs_snoc h3 h2
        unfold rdEs
        rw [h1]; dsimp only
        rw [ih]; rfl
theorem rdEs_none : ∀ {j n : Nat} {m r : List UInt8} {es : List Ent}, j < n → rdEs j m = some (es, r) → rdE r = none → rdEs n m = none
  | 0, n + 1, m, r, es, _, h, h2 => by
    injection h with h; injection h with h3 h4
    subst h4
    unfold rdEs; rw [h2]
  | j + 1, n + 1, m, r, es, hj, h, h2 => by
    unfold rdEs at h
    split at h
    · cases h
    · rename_i x q h1
      split at h
      · cases h
      · rename_i xs z h3
        injection h with h; injection h with h4 h5
        subst h5
        have ih := rdEs_none (show j < n by omega) h3 h2
        unfold rdEs
        rw [h1]; dsimp only
        rw [ih]
/-- four bytes and their number -/
theorem num_be4 {r : List UInt8} (h : r.length = 4) : be4 (numOf r) = r := by
  match r, h with
  | [x, y, z, u], _ =>
    have hx := x.toNat_lt
    have hy := y.toNat_lt
    have hz := z.toNat_lt
    have hu := u.toNat_lt
    have e : numOf [x, y, z, u] = 256 * (256 * (256 * x.toNat + y.toNat) + z.toNat) + u.toNat := by simp [numOf]
    rw [e]
    unfold be4
    congr 1
    · rw [← UInt8.toNat_inj, b1_toNat]; omega
    · congr 1
      · rw [← UInt8.toNat_inj, b1_toNat]; omega
      · congr 1
        · rw [← UInt8.toNat_inj, b1_toNat]; omega
        · congr 1
          rw [← UInt8.toNat_inj, b1_toNat]; omega
theorem num4_iff {r : List UInt8} (h : r.length = 4) (s : Nat) (hs : s < 4294967296) : numOf r = s ↔ r = be4 s := by
  constructor
  · intro e; rw [← e, num_be4 h]
  · intro e
    have h2 := num_be4 h
    rw [e] at h2
    rw [e]
    refine be4_inj ?_ hs h2
    have := numOf_lt 4 (be4 s) rfl
    exact this

/- ## What is told of bytes, behind each way out -/
theorem un_short0 {l : List UInt8} (h : l.length < 4) : unpackE l = 6 := by unfold unpackE; rw [if_pos h]
theorem un_form0 {l : List UInt8} (h : 4 ≤ l.length) (hm : ¬ l.take 4 = magicB) : unpackE l = 3 := by unfold unpackE; rw [if_neg (by omega), if_neg hm]
theorem un_short {l : List UInt8} (h : 4 ≤ l.length) (hm : l.take 4 = magicB) (hr : rdB (l.drop 4) = none) : unpackE l = 6 := by unfold unpackE; rw [if_neg (by omega), if_pos hm, hr]
theorem un_left {l r : List UInt8} {b : Bun} (h : 4 ≤ l.length) (hm : l.take 4 = magicB) (hr : rdB (l.drop 4) = some (b, r)) : unpackE l = sumLeft l b r := by unfold unpackE; rw [if_neg (by omega), if_pos hm, hr]
theorem rdB_no1 {m : List UInt8} (h : rd1 m = none) : rdB m = none := by unfold rdB; rw [h]
theorem rdB_no2 {m r : List UInt8} {t : ByteArray} (h : rd1 m = some (t, r)) (h2 : rdN r = none) : rdB m = none := by unfold rdB; rw [h]; dsimp only; rw [h2]
theorem rdB_no3 {m r s : List UInt8} {t : ByteArray} {n : Nat} (h : rd1 m = some (t, r)) (h2 : rdN r = some (n, s)) (h3 : rdEs n s = none) : rdB m = none := by
  unfold rdB; rw [h]; dsimp only; rw [h2]; dsimp only; rw [h3]
theorem rdB_ok {m r s q : List UInt8} {t : ByteArray} {n : Nat} {es : List Ent} (h : rd1 m = some (t, r)) (h2 : rdN r = some (n, s)) (h3 : rdEs n s = some (es, q)) : rdB m = some (⟨t, es⟩, q) := by
  unfold rdB; rw [h]; dsimp only; rw [h2]; dsimp only; rw [h3]
theorem left_short {l : List UInt8} {b : Bun} {a : Nat} (h : ¬ a + 4 ≤ l.length) : sumLeft l b (l.drop a) = 6 := by
  unfold sumLeft; rw [if_pos (by rw [List.length_drop]; omega)]
theorem left_more {l : List UInt8} {b : Bun} {a : Nat} (h : a + 4 < l.length) : sumLeft l b (l.drop a) = 3 := by
  unfold sumLeft; rw [if_neg (by rw [List.length_drop]; omega), if_pos (by rw [List.length_drop]; omega)]
theorem left_sum {l : List UInt8} {b : Bun} {a : Nat} (h : a + 4 = l.length) (hs : numOf ((l.drop a).take 4) ≠ sumOf (l.take a)) : sumLeft l b (l.drop a) = 8 := by
  have h4 : (l.drop a).length = 4 := by rw [List.length_drop]; omega
  have ht : (l.drop a).take 4 = l.drop a := List.take_of_length_le (by omega)
  unfold sumLeft
  rw [if_neg (by omega), if_neg (by omega), h4, show l.length - 4 = a by omega, if_neg]
  intro e
  exact hs (by rw [ht]; exact (num4_iff h4 _ (sumOf_lt _)).2 e)
theorem left_last {l : List UInt8} {b : Bun} {a : Nat} (h : a + 4 = l.length) (hs : numOf ((l.drop a).take 4) = sumOf (l.take a)) : sumLeft l b (l.drop a) = if sortedE b.ents && decide (bunFault b = 0) then 0 else 3 := by
  have h4 : (l.drop a).length = 4 := by rw [List.length_drop]; omega
  have ht : (l.drop a).take 4 = l.drop a := List.take_of_length_le (by omega)
  unfold sumLeft
  rw [if_neg (by omega), if_neg (by omega), h4, show l.length - 4 = a by omega, if_pos]
  rw [ht] at hs
  exact (num4_iff h4 _ (sumOf_lt _)).1 hs
end Go.Proofs.YtmpjfomfibkbnaaGreatDoor
