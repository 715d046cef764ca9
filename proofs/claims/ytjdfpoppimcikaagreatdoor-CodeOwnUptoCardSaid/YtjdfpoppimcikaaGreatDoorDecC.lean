/- dec.power, dec.Check, dec.wide. -/
import Derived.Test.YtjdfpoppimcikaaGreatDoorTrim
import Derived.Test.YtjdfpoppimcikaaGreatDoorShelf
import Derived.WalkMore
import Derived.Deep.QuietTactic
import Derived.BigQuiet
import Derived.Deep.Cut
import Derived.Deep.DeepCutAuto
namespace Go.Proofs.YtjdfpoppimcikaaGreatDoor
open Go.RowKit

structure DecV where
  coef : Int
  scale : Int
def DecV.ok (d : DecV) : Prop := 0 ≤ d.scale ∧ d.scale ≤ 9 ∧ -1000000000000000 ≤ d.coef ∧ d.coef ≤ 1000000000000000
instance (d : DecV) : Decidable d.ok := by unfold DecV.ok; infer_instance
def checkD (d : DecV) : Int := if d.ok then 0 else 1
theorem checkD_ok {d : DecV} (h : d.ok) : checkD d = 0 := if_pos h
theorem checkD_no {d : DecV} (h : ¬ d.ok) : checkD d = 1 := if_neg h
def DecV.v (d : DecV) : Value := .agg #[.int .i64 d.coef, .int .i64 d.scale]
def errD (n : Int) : Value := if n = 0 then .nilIface else .iface 67 (.int .i64 n)
def P10 (n : Nat) : Int := ((10 ^ n : Nat) : Int)
theorem P10_pos (n : Nat) : 0 < P10 n := by unfold P10; exact Int.natCast_pos.2 (Nat.pow_pos (by decide))
theorem P10_succ (n : Nat) : P10 (n + 1) = P10 n * 10 := by unfold P10; rw [Nat.pow_succ]; push_cast; rfl
theorem P10_le (n : Nat) (h : n ≤ 9) : P10 n ≤ 1000000000 := by
  unfold P10
  have : 10 ^ n ≤ 10 ^ 9 := Nat.pow_le_pow_right (by decide) h
  omega
set_option maxHeartbeats 1600000 in
set_option maxRecDepth 100000 in
theorem power_any (n : Nat) (w : World) (hn : n ≤ 9) : Calls Tryz.prog 96 #[.int .i64 n] w fun e w' => e = .returned (.int .i64 (P10 n)) ∧ w' = w := by
  go_enter Tryz.func96, Tryz.ntmps96
  go_wp2_with fail
  go_loopw [3, 5] (fun o i wr => ∃ j : Nat, j ≤ n ∧ i = .int .i64 (j : Int) ∧ o = .int .i64 (P10 j) ∧ wr = w) (fun _ i _ => n - (intOf i).toNat)
  case atStart => exact ⟨0, Nat.zero_le _, rfl, rfl, rfl⟩
  case round =>
    obtain ⟨j, hj, rfl, rfl, rfl⟩ := hrel
    by_cases hlt : j < n
    · have i1 : (0 : Int) ≤ (j : Int) := Int.natCast_nonneg j
      have i2 : (j : Int) < (n : Int) := by omega
      have hS := Lib.hid (P10_succ j)
      have h1 := P10_le j (by omega)
      have h2 := P10_pos j
      generalize P10 j = p at *
      have hw : wrap64 (p * 10) = p * 10 := by unfold wrap64; omega
      go_wp2_with fail
      go_roundw
      case rel => exact ⟨j + 1, by omega, by go_num, by rw [hS.out], by first | rfl | trivial⟩
      case measure => simp [intOf]; omega
    · obtain rfl : j = n := by omega
      go_wp2_with fail
      go_ret
      exact ⟨rfl, rfl⟩
set_option maxHeartbeats 1600000 in
set_option maxRecDepth 100000 in
theorem checkD_any (d : DecV) (w : World) : Calls Tryz.prog 26 #[d.v] w fun e w' => e = .returned (errD (checkD d)) ∧ Below w.heap.size w w' := by
  obtain ⟨c, s⟩ := d
  have HN : Hid (¬ (0 ≤ s ∧ s ≤ 9 ∧ -1000000000000000 ≤ c ∧ c ≤ 1000000000000000) → checkD ⟨c, s⟩ = 1) := Lib.hid fun h => checkD_no h
  have HY : Hid (0 ≤ s ∧ s ≤ 9 ∧ -1000000000000000 ≤ c ∧ c ≤ 1000000000000000 → checkD ⟨c, s⟩ = 0) := Lib.hid fun h => checkD_ok h
  generalize checkD ⟨c, s⟩ = r at *
  unfold DecV.v
  dsimp only
  have HB : Hid (Below w.heap.size w (w.alloc (.cells #[.int .i64 c, .int .i64 s] 33))) := Lib.hid ((Below.refl _ _).alloc (Nat.le_refl _) _)
  by_cases h1 : s < 0
  · obtain rfl : r = 1 := HN.out (by omega)
    go_enter Tryz.func26, Tryz.ntmps26
    go_wp2_with fail
    go_ret
    exact ⟨rfl, HB.out⟩
  · by_cases h2 : 9 < s
    · obtain rfl : r = 1 := HN.out (by omega)
      go_enter Tryz.func26, Tryz.ntmps26
      go_wp2_with fail
      go_ret
      exact ⟨rfl, HB.out⟩
    · by_cases h3 : c < -1000000000000000
      · obtain rfl : r = 1 := HN.out (by omega)
        go_enter Tryz.func26, Tryz.ntmps26
        go_wp2_with fail
        go_ret
        exact ⟨rfl, HB.out⟩
      · by_cases h4 : 1000000000000000 < c
        · obtain rfl : r = 1 := HN.out (by omega)
          go_enter Tryz.func26, Tryz.ntmps26
          go_wp2_with fail
          go_ret
          exact ⟨rfl, HB.out⟩
        · obtain rfl : r = 0 := HY.out (by omega)
          go_enter Tryz.func26, Tryz.ntmps26
          go_wp2_with fail
          go_ret
          exact ⟨rfl, HB.out⟩
set_option maxHeartbeats 1600000 in
set_option maxRecDepth 100000 in
theorem wide_any (n s : Nat) (w : World) (hn : n ≤ 1000000000000000) (hs : s ≤ 9) : Calls Tryz.prog 122 #[.int .i64 n, .int .i64 s] w fun e w' =>
    e = .returned (.tuple #[.int .u64 ((n * 10 ^ s / 18446744073709551616 : Nat) : Int), .int .u64 ((n * 10 ^ s % 18446744073709551616 : Nat) : Int)]) ∧ w' = w := by
  have HP := Lib.hid (power_any s w hs)
  have hp := P10_le s hs
  have e1 : P10 s = ((10 ^ s : Nat) : Int) := rfl
  rw [e1] at HP hp
  have HM := Lib.hid (Tryz.bits_Mul64 n (10 ^ s) (by omega) (by omega) w)
  generalize 10 ^ s = p at *
  clear e1
  have i0 : (0 : Int) ≤ (n : Int) := Int.natCast_nonneg n
  have i1 : (0 : Int) ≤ (p : Int) := Int.natCast_nonneg p
  have c1 : ((n : Int) % 18446744073709551616) = (n : Int) := by omega
  have c2 : ((p : Int) % 18446744073709551616) = (p : Int) := by omega
  go_enter Tryz.func122, Tryz.ntmps122
  go_wp2_with fail
  refine HP.out.mono ?_
  clear HP
  rintro e w1 ⟨rfl, rfl⟩
  go_wp2_with fail
  refine HM.out.mono ?_
  clear HM
  rintro e w1 ⟨rfl, rfl⟩
  go_wp2_with fail
  go_ret2
  exact ⟨rfl, rfl⟩
end Go.Proofs.YtjdfpoppimcikaaGreatDoor
/- dec.compared, dec.Same, dec.Round to three digits, dec.Add. -/

namespace Go.Proofs.YtjdfpoppimcikaaGreatDoor
open Go.RowKit

def cmpN (a b : Nat) : Int := if a < b then -1 else if a = b then 0 else 1
theorem cmpN_spec (a b : Nat) : ((a / 18446744073709551616 < b / 18446744073709551616 ∨ (a / 18446744073709551616 = b / 18446744073709551616 ∧ a % 18446744073709551616 < b % 18446744073709551616)) → cmpN a b = -1) ∧
    (¬ (a / 18446744073709551616 < b / 18446744073709551616 ∨ (a / 18446744073709551616 = b / 18446744073709551616 ∧ a % 18446744073709551616 < b % 18446744073709551616)) → (a / 18446744073709551616 = b / 18446744073709551616 ∧ a % 18446744073709551616 = b % 18446744073709551616) → cmpN a b = 0) ∧
    (¬ (a / 18446744073709551616 < b / 18446744073709551616 ∨ (a / 18446744073709551616 = b / 18446744073709551616 ∧ a % 18446744073709551616 < b % 18446744073709551616)) → ¬ (a / 18446744073709551616 = b / 18446744073709551616 ∧ a % 18446744073709551616 = b % 18446744073709551616) → cmpN a b = 1) := by
  unfold cmpN
  refine ⟨fun h => if_pos (by omega), fun h k => ?_, fun h k => ?_⟩
  · rw [if_neg (by omega), if_pos (by omega)]
  · rw [if_neg (by omega), if_neg (by omega)]
/-- the order of two values: numbers times powers -/
def cmpD (a b : DecV) : Int := if a.coef * P10 b.scale.toNat < b.coef * P10 a.scale.toNat then -1 else if a.coef * P10 b.scale.toNat = b.coef * P10 a.scale.toNat then 0 else 1
theorem cmpD_nn (n m : Nat) (s t : Int) : cmpD ⟨n, s⟩ ⟨m, t⟩ = cmpN (n * 10 ^ t.toNat) (m * 10 ^ s.toNat) := by
  unfold cmpD cmpN P10
  dsimp only
  have e1 : (n : Int) * ((10 ^ t.toNat : Nat) : Int) = ((n * 10 ^ t.toNat : Nat) : Int) := by push_cast; rfl
  have e2 : (m : Int) * ((10 ^ s.toNat : Nat) : Int) = ((m * 10 ^ s.toNat : Nat) : Int) := by push_cast; rfl
  rw [e1, e2]
  congr 1
  · exact propext ⟨fun h => by omega, fun h => by omega⟩
  · congr 1
    exact propext ⟨fun h => by omega, fun h => by omega⟩
theorem cmpD_neg (a b s t : Int) : cmpD ⟨-b, t⟩ ⟨-a, s⟩ = cmpD ⟨a, s⟩ ⟨b, t⟩ := by
  unfold cmpD
  dsimp only
  rw [Int.neg_mul, Int.neg_mul]
  generalize a * P10 t.toNat = x
  generalize b * P10 s.toNat = y
  by_cases h1 : x < y
  · rw [if_pos h1, if_pos (by omega)]
  · rw [if_neg h1, if_neg (by omega)]
    by_cases h2 : x = y
    · rw [if_pos h2, if_pos (by omega)]
    · rw [if_neg h2, if_neg (by omega)]
theorem cmpD_less (a b s t : Int) (ha : a < 0) (hb : 0 ≤ b) : cmpD ⟨a, s⟩ ⟨b, t⟩ = -1 := by
  unfold cmpD
  dsimp only
  have h1 : a * P10 t.toNat < 0 := Int.mul_neg_of_neg_of_pos ha (P10_pos _)
  have h2 : 0 ≤ b * P10 s.toNat := Int.mul_nonneg hb (Int.le_of_lt (P10_pos _))
  rw [if_pos (by omega)]
theorem cmpD_more (a b s t : Int) (ha : 0 ≤ a) (hb : b < 0) : cmpD ⟨a, s⟩ ⟨b, t⟩ = 1 := by
  unfold cmpD
  dsimp only
  have h1 : b * P10 s.toNat < 0 := Int.mul_neg_of_neg_of_pos hb (P10_pos _)
  have h2 : 0 ≤ a * P10 t.toNat := Int.mul_nonneg ha (Int.le_of_lt (P10_pos _))
  rw [if_neg (by omega), if_neg (by omega)]
set_option maxHeartbeats 3200000 in
set_option maxRecDepth 100000 in
theorem compared_nn (n m s t : Nat) (w : World) (hn : n ≤ 1000000000000000) (hm : m ≤ 1000000000000000) (hs : s ≤ 9) (ht : t ≤ 9) :
    Calls Tryz.prog 104 #[.agg #[.int .i64 n, .int .i64 s], .agg #[.int .i64 m, .int .i64 t]] w fun e w' => e = .returned (.int .i64 (cmpN (n * 10 ^ t) (m * 10 ^ s))) ∧ Below w.heap.size w w' := by
  have HA : Hid (∀ W, Calls Tryz.prog 122 #[.int .i64 n, .int .i64 t] W fun e w' => e = .returned (.tuple #[.int .u64 ((n * 10 ^ t / 18446744073709551616 : Nat) : Int), .int .u64 ((n * 10 ^ t % 18446744073709551616 : Nat) : Int)]) ∧ w' = W) := Lib.hid fun W => wide_any n t W hn ht
  have HB : Hid (∀ W, Calls Tryz.prog 122 #[.int .i64 m, .int .i64 s] W fun e w' => e = .returned (.tuple #[.int .u64 ((m * 10 ^ s / 18446744073709551616 : Nat) : Int), .int .u64 ((m * 10 ^ s % 18446744073709551616 : Nat) : Int)]) ∧ w' = W) := Lib.hid fun W => wide_any m s W hm hs
  obtain ⟨q1, q2, q3⟩ := cmpN_spec (n * 10 ^ t) (m * 10 ^ s)
  have HC1 := Lib.hid q1
  have HC2 := Lib.hid q2
  have HC3 := Lib.hid q3
  clear q1 q2 q3
  generalize cmpN (n * 10 ^ t) (m * 10 ^ s) = r at *
  generalize n * 10 ^ t / 18446744073709551616 = a1 at *
  generalize n * 10 ^ t % 18446744073709551616 = a0 at *
  generalize m * 10 ^ s / 18446744073709551616 = b1 at *
  generalize m * 10 ^ s % 18446744073709551616 = b0 at *
  have i0 : ¬ ((n : Int) < 0) := by omega
  have i1 : ¬ ((m : Int) < 0) := by omega
  have j0 : (0 : Int) ≤ (n : Int) := by omega
  have HBe : Hid (Below w.heap.size w ((w.alloc (.cells #[.int .i64 n, .int .i64 s] 33)).alloc (.cells #[.int .i64 m, .int .i64 t] 33))) := Lib.hid (((Below.refl _ _).alloc (Nat.le_refl _) _).alloc (by simp) _)
  go_enter Tryz.func104, Tryz.ntmps104
  go_wp2_with fail
  refine (HA.out _).mono ?_
  clear HA
  rintro e w1 ⟨rfl, rfl⟩
  go_wp2_with fail
  refine (HB.out _).mono ?_
  clear HB
  rintro e w1 ⟨rfl, rfl⟩
  by_cases h1 : a1 < b1
  · obtain rfl : r = -1 := HC1.out (.inl h1)
    have k1 : (a1 : Int) < (b1 : Int) := by omega
    go_wp2_with fail
    go_ret
    exact ⟨rfl, HBe.out⟩
  · have k1 : ¬ ((a1 : Int) < (b1 : Int)) := by omega
    by_cases h2 : a1 = b1
    · have k2 : ((a1 : Int) == (b1 : Int)) = true := by rw [beq_iff_eq]; omega
      by_cases h3 : a0 < b0
      · obtain rfl : r = -1 := HC1.out (.inr ⟨h2, h3⟩)
        have k3 : (a0 : Int) < (b0 : Int) := by omega
        clear h2
        go_wp2_with fail
        go_ret
        exact ⟨rfl, HBe.out⟩
      · have k3 : ¬ ((a0 : Int) < (b0 : Int)) := by omega
        by_cases h4 : a0 = b0
        · obtain rfl : r = 0 := HC2.out (by omega) ⟨h2, h4⟩
          have k4 : ((a0 : Int) == (b0 : Int)) = true := by rw [beq_iff_eq]; omega
          clear h2 h4
          go_wp2_with fail
          go_ret
          exact ⟨rfl, HBe.out⟩
        · obtain rfl : r = 1 := HC3.out (by omega) (by omega)
          have k4 : ((a0 : Int) == (b0 : Int)) = false := by rw [beq_eq_false_iff_ne]; omega
          clear h2 h4
          go_wp2_with fail
          go_ret
          exact ⟨rfl, HBe.out⟩
    · have k2 : ((a1 : Int) == (b1 : Int)) = false := by rw [beq_eq_false_iff_ne]; omega
      obtain rfl : r = 1 := HC3.out (by omega) (by omega)
      clear h2
      go_wp2_with fail
      go_ret
      exact ⟨rfl, HBe.out⟩
set_option maxHeartbeats 3200000 in
set_option maxRecDepth 100000 in
theorem compared_any (a b : DecV) (w : World) (ha : a.ok) (hb : b.ok) : Calls Tryz.prog 104 #[a.v, b.v] w fun e w' => e = .returned (.int .i64 (cmpD a b)) ∧ Below w.heap.size w w' := by
  obtain ⟨a, s⟩ := a
  obtain ⟨b, t⟩ := b
  unfold DecV.ok at ha hb
  dsimp only at ha hb
  obtain ⟨s', rfl⟩ : ∃ s' : Nat, s = s' := ⟨s.toNat, by omega⟩
  obtain ⟨t', rfl⟩ : ∃ t' : Nat, t = t' := ⟨t.toNat, by omega⟩
  unfold DecV.v
  dsimp only
  have HBe : Hid (Below w.heap.size w ((w.alloc (.cells #[.int .i64 a, .int .i64 s'] 33)).alloc (.cells #[.int .i64 b, .int .i64 t'] 33))) := Lib.hid (((Below.refl _ _).alloc (Nat.le_refl _) _).alloc (by simp) _)
  by_cases h1 : a < 0
  · by_cases h2 : b < 0
    · have hw1 : wrap64 (-a) = -a := by unfold wrap64; omega
      have hw2 : wrap64 (-b) = -b := by unfold wrap64; omega
      have h2' : ¬ ((0 : Int) ≤ b) := by omega
      have h1' : ¬ ((0 : Int) ≤ a) := by omega
      have HC : Hid (∀ W, Calls Tryz.prog 104 #[.agg #[.int .i64 (-b), .int .i64 t'], .agg #[.int .i64 (-a), .int .i64 s']] W fun e w' => e = .returned (.int .i64 (cmpD ⟨a, s'⟩ ⟨b, t'⟩)) ∧ Below W.heap.size W w') := Lib.hid fun W => by
        have h := compared_nn (-b).toNat (-a).toNat t' s' W (by omega) (by omega) (by omega) (by omega)
        have e1 : (((-b).toNat : Nat) : Int) = -b := by omega
        have e2 : (((-a).toNat : Nat) : Int) = -a := by omega
        have e3 := cmpD_nn (-b).toNat (-a).toNat t' s'
        rw [e1, e2, cmpD_neg] at e3
        rw [e1, e2] at h
        have e4 : ((s' : Int)).toNat = s' := by omega
        have e5 : ((t' : Int)).toNat = t' := by omega
        rw [e4, e5] at e3
        rw [e3]
        exact h
      generalize cmpD ⟨a, s'⟩ ⟨b, t'⟩ = r at *
      go_enter Tryz.func104, Tryz.ntmps104
      go_wp2_with fail
      refine (HC.out _).mono ?_
      clear HC
      rintro e w1 ⟨rfl, hb1⟩
      have HB1 := Lib.hid (HBe.out.trans (hb1.mono (by simp; omega)))
      clear hb1
      go_wp2_with fail
      go_ret
      exact ⟨rfl, HB1.out⟩
    · have e := Lib.hid (cmpD_less a b s' t' h1 (by omega))
      have h2' : (0 : Int) ≤ b := by omega
      generalize cmpD ⟨a, s'⟩ ⟨b, t'⟩ = r at *
      go_enter Tryz.func104, Tryz.ntmps104
      go_wp2_with fail
      go_ret
      exact ⟨by rw [e.out]; rfl, HBe.out⟩
  · have h1' : (0 : Int) ≤ a := by omega
    by_cases h2 : b < 0
    · have e := Lib.hid (cmpD_more a b s' t' h1' h2)
      generalize cmpD ⟨a, s'⟩ ⟨b, t'⟩ = r at *
      go_enter Tryz.func104, Tryz.ntmps104
      go_wp2_with fail
      go_ret
      exact ⟨by rw [e.out]; rfl, HBe.out⟩
    · obtain ⟨n, rfl⟩ : ∃ n : Nat, a = n := ⟨a.toNat, by omega⟩
      obtain ⟨m, rfl⟩ : ∃ m : Nat, b = m := ⟨b.toNat, by omega⟩
      rw [cmpD_nn]
      exact compared_nn n m s' t' w (by omega) (by omega) (by omega) (by omega)
end Go.Proofs.YtjdfpoppimcikaaGreatDoor
/- dec.right, dec.Same, dec.nearer to the even one, dec.Round to three digits, dec.Add. -/

namespace Go.Proofs.YtjdfpoppimcikaaGreatDoor
open Go.RowKit

theorem errD_zero : errD 0 = .nilIface := rfl
theorem errD_ne {n : Int} (h : n ≠ 0) : errD n = .iface 67 (.int .i64 n) := if_neg h
set_option maxHeartbeats 3200000 in
set_option maxRecDepth 100000 in
theorem right_any (a b : DecV) (w : World) : Calls Tryz.prog 103 #[a.v, b.v] w fun e w' => e = .returned (.bool (decide a.ok && decide b.ok)) ∧ Below w.heap.size w w' := by
  have HA : Hid (∀ W, Calls Tryz.prog 26 #[a.v] W fun e w' => e = .returned (errD (checkD a)) ∧ Below W.heap.size W w') := Lib.hid fun W => checkD_any a W
  have HB : Hid (∀ W, Calls Tryz.prog 26 #[b.v] W fun e w' => e = .returned (errD (checkD b)) ∧ Below W.heap.size W w') := Lib.hid fun W => checkD_any b W
  have ea : checkD a = if decide a.ok = true then 0 else 1 := by
    by_cases h : a.ok
    · rw [checkD_ok h, if_pos (decide_eq_true h)]
    · rw [checkD_no h, if_neg (by simpa using h)]
  have eb : checkD b = if decide b.ok = true then 0 else 1 := by
    by_cases h : b.ok
    · rw [checkD_ok h, if_pos (decide_eq_true h)]
    · rw [checkD_no h, if_neg (by simpa using h)]
  rw [ea] at HA
  rw [eb] at HB
  clear ea eb
  generalize decide a.ok = x at *
  generalize decide b.ok = y at *
  obtain ⟨a, s⟩ := a
  obtain ⟨b, t⟩ := b
  unfold DecV.v at *
  dsimp only at HA HB ⊢
  obtain ⟨W2, eW2⟩ : ∃ W2, W2 = (w.alloc (.cells #[.int .i64 a, .int .i64 s] 33)).alloc (.cells #[.int .i64 b, .int .i64 t] 33) := ⟨_, rfl⟩
  have ma : Blk W2 w.heap.size 33 #[.int .i64 a, .int .i64 s] := by rw [eW2]; exact (Blk.new _ _ _).alloc _
  have mb : Blk W2 (w.heap.size + 1) 33 #[.int .i64 b, .int .i64 t] := by
    rw [eW2]
    have := Blk.new (w.alloc (.cells #[.int .i64 a, .int .i64 s] 33)) 33 #[.int .i64 b, .int .i64 t]
    rw [World.size_alloc] at this; exact this
  have hb2 : Below w.heap.size w W2 := by rw [eW2]; exact ((Below.refl _ _).alloc (Nat.le_refl _) _).alloc (by simp) _
  have HB2 := Lib.hid hb2
  have MB := Lib.hid mb
  have EW := Lib.hid eW2
  have k0 := (ma.cell 0).trans (show _ = some (.int .i64 a) from rfl)
  have k1 := (ma.cell 1).trans (show _ = some (.int .i64 s) from rfl)
  clear hb2 ma mb eW2
  go_enter Tryz.func103, Tryz.ntmps103
  go_upto_region 1 with fail
  rw [← EW.out]
  clear EW
  go_wp2_with fail
  refine (HA.out W2).mono ?_
  clear HA
  rintro e w3 ⟨rfl, hb3⟩
  have HB3 := Lib.hid (HB2.out.trans (hb3.mono HB2.out.size))
  cases x with
  | false =>
    rw [if_neg (by decide), errD_ne (by decide)]
    clear HB hb3
    go_wp2_with fail
    go_ret
    exact ⟨rfl, HB3.out⟩
  | true =>
    have m3 := MB.out.below hb3 MB.out.lt
    have d0 := (m3.cell 0).trans (show _ = some (.int .i64 b) from rfl)
    have d1 := (m3.cell 1).trans (show _ = some (.int .i64 t) from rfl)
    clear m3 hb3
    rw [if_pos rfl, errD_zero]
    go_wp2_with fail
    refine (HB.out w3).mono ?_
    clear HB
    rintro e w4 ⟨rfl, hb4⟩
    have HB4 := Lib.hid (HB3.out.trans (hb4.mono HB3.out.size))
    clear hb4
    cases y with
    | false =>
      rw [if_neg (by decide), errD_ne (by decide)]
      go_wp2_with fail
      go_ret
      exact ⟨rfl, HB4.out⟩
    | true =>
      rw [if_pos rfl, errD_zero]
      go_wp2_with fail
      go_ret
      exact ⟨rfl, HB4.out⟩
def sameD (a b : DecV) : Bool := decide a.ok && decide b.ok && cmpD a b == 0
set_option maxHeartbeats 3200000 in
set_option maxRecDepth 100000 in
theorem sameD_any (a b : DecV) (w : World) : Calls Tryz.prog 58 #[a.v, b.v] w fun e w' => e = .returned (.bool (sameD a b)) ∧ Below w.heap.size w w' := by
  have HA : Hid (∀ W, Calls Tryz.prog 103 #[a.v, b.v] W fun e w' => e = .returned (.bool (decide a.ok && decide b.ok)) ∧ Below W.heap.size W w') := Lib.hid fun W => right_any a b W
  have HC : Hid (∀ W, (decide a.ok && decide b.ok) = true → Calls Tryz.prog 104 #[a.v, b.v] W fun e w' => e = .returned (.int .i64 (cmpD a b)) ∧ Below W.heap.size W w') := Lib.hid fun W h => by
    simp at h
    exact compared_any a b W h.1 h.2
  have HR : Hid (sameD a b = ((decide a.ok && decide b.ok) && cmpD a b == 0)) := Lib.hid rfl
  generalize (decide a.ok && decide b.ok) = x at *
  generalize cmpD a b = r at *
  generalize sameD a b = z at *
  obtain ⟨a, s⟩ := a
  obtain ⟨b, t⟩ := b
  unfold DecV.v at *
  dsimp only at HA HC ⊢
  obtain ⟨W2, eW2⟩ : ∃ W2, W2 = (w.alloc (.cells #[.int .i64 a, .int .i64 s] 33)).alloc (.cells #[.int .i64 b, .int .i64 t] 33) := ⟨_, rfl⟩
  have ma : Blk W2 w.heap.size 33 #[.int .i64 a, .int .i64 s] := by rw [eW2]; exact (Blk.new _ _ _).alloc _
  have mb : Blk W2 (w.heap.size + 1) 33 #[.int .i64 b, .int .i64 t] := by
    rw [eW2]
    have := Blk.new (w.alloc (.cells #[.int .i64 a, .int .i64 s] 33)) 33 #[.int .i64 b, .int .i64 t]
    rw [World.size_alloc] at this; exact this
  have hb2 : Below w.heap.size w W2 := by rw [eW2]; exact ((Below.refl _ _).alloc (Nat.le_refl _) _).alloc (by simp) _
  have HB2 := Lib.hid hb2
  have MA := Lib.hid ma
  have MB := Lib.hid mb
  have EW := Lib.hid eW2
  have k0 := (ma.cell 0).trans (show _ = some (.int .i64 a) from rfl)
  have k1 := (ma.cell 1).trans (show _ = some (.int .i64 s) from rfl)
  have k2 := (mb.cell 0).trans (show _ = some (.int .i64 b) from rfl)
  have k3 := (mb.cell 1).trans (show _ = some (.int .i64 t) from rfl)
  clear hb2 ma mb eW2
  go_enter Tryz.func58, Tryz.ntmps58
  go_upto_region 1 with fail
  rw [← EW.out]
  clear EW
  go_wp2_with fail
  refine (HA.out W2).mono ?_
  clear HA
  rintro e w3 ⟨rfl, hb3⟩
  have HB3 := Lib.hid (HB2.out.trans (hb3.mono HB2.out.size))
  cases x with
  | false =>
    obtain rfl : z = false := by rw [HR.out]; rfl
    clear HC hb3
    go_wp2_with fail
    go_ret
    exact ⟨rfl, HB3.out⟩
  | true =>
    have m3 := MA.out.below hb3 MA.out.lt
    have n3 := MB.out.below hb3 MB.out.lt
    have d0 := (m3.cell 0).trans (show _ = some (.int .i64 a) from rfl)
    have d1 := (m3.cell 1).trans (show _ = some (.int .i64 s) from rfl)
    have d2 := (n3.cell 0).trans (show _ = some (.int .i64 b) from rfl)
    have d3 := (n3.cell 1).trans (show _ = some (.int .i64 t) from rfl)
    have HC3 := Lib.hid (HC.out w3 rfl)
    clear m3 n3 hb3 HC
    go_wp2_with fail
    refine HC3.out.mono ?_
    clear HC3
    rintro e w4 ⟨rfl, hb4⟩
    have HB4 := Lib.hid (HB3.out.trans (hb4.mono HB3.out.size))
    clear hb4
    by_cases h0 : r = 0
    · have q0 : (r == (0 : Int)) = true := by rw [beq_iff_eq]; exact h0
      obtain rfl : z = true := by rw [HR.out, q0]; rfl
      clear h0
      go_wp2_with fail
      go_ret
      exact ⟨rfl, HB4.out⟩
    · have q0 : (r == (0 : Int)) = false := by rw [beq_eq_false_iff_ne]; exact h0
      obtain rfl : z = false := by rw [HR.out, q0]; rfl
      clear h0
      go_wp2_with fail
      go_ret
      exact ⟨rfl, HB4.out⟩
/-- is what is cut off rounded up: to the nearest, halfway to the even one? -/
def nearE (whole rest unit : Int) : Bool := decide (unit < 2 * rest) || (2 * rest == unit && Int.tmod whole 2 == 1)
set_option maxHeartbeats 3200000 in
set_option maxRecDepth 100000 in
theorem nearer_any (whole rest unit sign : Int) (w : World) (h0 : 0 ≤ rest) (h1 : rest ≤ 1000000000) : Calls Tryz.prog 123 #[.int .i64 5, .int .i64 whole, .int .i64 rest, .int .i64 unit, .int .i64 sign] w fun e w' => e = .returned (.bool (nearE whole rest unit)) ∧ w' = w := by
  have HR : Hid (nearE whole rest unit = (decide (unit < 2 * rest) || (2 * rest == unit && Int.tmod whole 2 == 1))) := Lib.hid rfl
  have hw : wrap64 (2 * rest) = 2 * rest := by unfold wrap64; omega
  generalize nearE whole rest unit = z at *
  by_cases q1 : unit < 2 * rest
  · obtain rfl : z = true := by rw [HR.out, decide_eq_true q1]; rfl
    go_enter Tryz.func123, Tryz.ntmps123
    go_wp2_with fail
    go_ret
    exact ⟨rfl, rfl⟩
  · by_cases q2 : (2 * rest == unit) = true
    · have HR2 : Hid (z = (Int.tmod whole 2 == 1)) := Lib.hid (by rw [HR.out, decide_eq_false q1, q2]; rfl)
      clear HR
      generalize hz : (Int.tmod whole 2 == 1) = y at *
      obtain rfl : z = y := HR2.out
      cases z with
      | true =>
        go_enter Tryz.func123, Tryz.ntmps123
        go_wp2_with fail
        go_ret
        exact ⟨rfl, rfl⟩
      | false =>
        go_enter Tryz.func123, Tryz.ntmps123
        go_wp2_with fail
        go_ret
        exact ⟨rfl, rfl⟩
    · have q2' : (2 * rest == unit) = false := by simpa using q2
      obtain rfl : z = false := by rw [HR.out, decide_eq_false q1, q2']; rfl
      clear q2
      go_enter Tryz.func123, Tryz.ntmps123
      go_wp2_with fail
      go_ret
      exact ⟨rfl, rfl⟩
end Go.Proofs.YtjdfpoppimcikaaGreatDoor
