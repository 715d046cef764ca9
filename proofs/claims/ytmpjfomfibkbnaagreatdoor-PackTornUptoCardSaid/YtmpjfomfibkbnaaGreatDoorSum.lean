/- The sum of bytes, plainly: by a table, and bit by bit; the last four decide. No program. -/
import Derived.Test.YtmpjfomfibkbnaaGreatDoorBase
set_option linter.unusedSimpArgs false
set_option linter.unusedVariables false
namespace Go.Proofs.YtmpjfomfibkbnaaGreatDoor
open Go.RowKit

def poly : Nat := 3988292384
def bitStep (c : Nat) : Nat := if c % 2 = 1 then (c >>> 1) ^^^ poly else c >>> 1
def bits8 (c : Nat) : Nat := bitStep (bitStep (bitStep (bitStep (bitStep (bitStep (bitStep (bitStep c)))))))
def sumStep (c : Nat) (x : UInt8) : Nat := bits8 ((c % 256) ^^^ x.toNat) ^^^ (c >>> 8)
def sumRun (c : Nat) (l : List UInt8) : Nat := l.foldl sumStep c
def sumOf (l : List UInt8) : Nat := 4294967295 ^^^ sumRun 4294967295 l

theorem poly_lt : poly < 4294967296 := by decide
theorem xor_lt {a b : Nat} (ha : a < 4294967296) (hb : b < 4294967296) : a ^^^ b < 4294967296 := Nat.xor_lt_two_pow (n := 32) ha hb
theorem shr_lt {a : Nat} (k : Nat) (ha : a < 4294967296) : a >>> k < 4294967296 := Nat.lt_of_le_of_lt (by rw [Nat.shiftRight_eq_div_pow]; exact Nat.div_le_self _ _) ha
theorem bitStep_lt {c : Nat} (h : c < 4294967296) : bitStep c < 4294967296 := by
  unfold bitStep; split
  · exact xor_lt (shr_lt 1 h) poly_lt
  · exact shr_lt 1 h
theorem bits8_lt {c : Nat} (h : c < 4294967296) : bits8 c < 4294967296 := by
  unfold bits8; repeat (first | exact h | apply bitStep_lt)
theorem sumStep_lt {c : Nat} (x : UInt8) (h : c < 4294967296) : sumStep c x < 4294967296 := by
  unfold sumStep
  refine xor_lt (bits8_lt ?_) (shr_lt 8 h)
  have h1 : c % 256 < 256 := Nat.mod_lt _ (by decide)
  have h2 : x.toNat < 256 := x.toNat_lt
  have : (c % 256) ^^^ x.toNat < 256 := Nat.xor_lt_two_pow (n := 8) h1 h2
  omega
theorem sumRun_lt : ∀ (l : List UInt8) (c : Nat), c < 4294967296 → sumRun c l < 4294967296
  | [], _, h => h
  | x :: r, _, h => sumRun_lt r _ (sumStep_lt x h)
theorem sumOf_lt (l : List UInt8) : sumOf l < 4294967296 := xor_lt (by decide) (sumRun_lt l _ (by decide))
theorem sumRun_snoc (c : Nat) (l : List UInt8) (x : UInt8) : sumRun c (l ++ [x]) = sumStep (sumRun c l) x := by unfold sumRun; rw [List.foldl_append]; rfl
theorem sumRun_append (c : Nat) (l m : List UInt8) : sumRun c (l ++ m) = sumRun (sumRun c l) m := by unfold sumRun; rw [List.foldl_append]

/- ## Each step is linear -/
theorem xor_mod2 (a b : Nat) : (a ^^^ b) % 2 = (a % 2 + b % 2) % 2 := by
  have h := Nat.testBit_xor a b 0
  rw [Nat.testBit_zero, Nat.testBit_zero, Nat.testBit_zero] at h
  rcases Nat.mod_two_eq_zero_or_one a with ha | ha <;> rcases Nat.mod_two_eq_zero_or_one b with hb | hb <;> rcases Nat.mod_two_eq_zero_or_one (a ^^^ b) with hc | hc <;> rw [ha, hb, hc] at h <;> rw [ha, hb, hc] <;> first | rfl | (exfalso; revert h; decide)
theorem bitStep_xor (a b : Nat) : bitStep (a ^^^ b) = bitStep a ^^^ bitStep b := by
  have h := xor_mod2 a b
  have hs : (a ^^^ b) >>> 1 = a >>> 1 ^^^ b >>> 1 := Nat.shiftRight_xor_distrib
  unfold bitStep
  rw [hs]
  by_cases ha : a % 2 = 1 <;> by_cases hb : b % 2 = 1
  · rw [if_neg (by omega), if_pos ha, if_pos hb]
    rw [Nat.xor_assoc, ← Nat.xor_assoc poly, Nat.xor_comm poly, Nat.xor_assoc, Nat.xor_self, Nat.xor_zero]
  · rw [if_pos (by omega), if_pos ha, if_neg hb]
    rw [Nat.xor_assoc, Nat.xor_comm _ poly, ← Nat.xor_assoc]
  · rw [if_pos (by omega), if_neg ha, if_pos hb, Nat.xor_assoc]
  · rw [if_neg (by omega), if_neg ha, if_neg hb]
theorem bits8_xor (a b : Nat) : bits8 (a ^^^ b) = bits8 a ^^^ bits8 b := by
  unfold bits8
  simp only [bitStep_xor]
theorem bitStep_two (m : Nat) : bitStep (2 * m) = m := by
  unfold bitStep
  rw [if_neg (by omega), Nat.shiftRight_eq_div_pow]; omega
theorem bits8_shift (m : Nat) : bits8 (256 * m) = m := by
  unfold bits8
  rw [show 256 * m = 2 * (2 * (2 * (2 * (2 * (2 * (2 * (2 * m))))))) from by omega]
  simp only [bitStep_two]
theorem split_byte (n : Nat) : n = (n % 256) ^^^ (256 * (n / 256)) := by
  have h : (256 * (n / 256)) ||| (n % 256) = 256 * (n / 256) + n % 256 := by
    have := Nat.two_pow_add_eq_or_of_lt (i := 8) (b := n % 256) (Nat.mod_lt _ (by decide)) (n / 256)
    simpa using this.symm
  have h2 : (256 * (n / 256)) ||| (n % 256) = (n % 256) ^^^ (256 * (n / 256)) := by
    apply Nat.eq_of_testBit_eq
    intro i
    rw [Nat.testBit_or, Nat.testBit_xor]
    by_cases hi : i < 8
    · have : (256 * (n / 256)).testBit i = false := by
        rw [show 256 = 2 ^ 8 from rfl, Nat.testBit_two_pow_mul]; simp; omega
      rw [this]; simp
    · have : (n % 256).testBit i = false := by
        rw [show 256 = 2 ^ 8 from rfl, Nat.testBit_mod_two_pow]; simp; omega
      rw [this]; simp
  omega
theorem xor_high (c : Nat) (x : UInt8) : (c ^^^ x.toNat) / 256 = c / 256 ∧ (c ^^^ x.toNat) % 256 = (c % 256) ^^^ x.toNat := by
  have hx : x.toNat < 256 := x.toNat_lt
  constructor
  · have : (c ^^^ x.toNat) >>> 8 = c >>> 8 ^^^ x.toNat >>> 8 := Nat.shiftRight_xor_distrib
    rw [Nat.shiftRight_eq_div_pow, Nat.shiftRight_eq_div_pow, Nat.shiftRight_eq_div_pow] at this
    have h0 : x.toNat / 2 ^ 8 = 0 := by omega
    rw [h0, Nat.xor_zero] at this
    simpa using this
  · have : (c ^^^ x.toNat) % 2 ^ 8 = (c % 2 ^ 8) ^^^ (x.toNat % 2 ^ 8) := Nat.xor_mod_two_pow
    rw [Nat.mod_eq_of_lt (a := x.toNat) (by simpa using hx)] at this
    simpa using this
/-- by the table it is as bit by bit -/
theorem sumStep_bits (c : Nat) (x : UInt8) : sumStep c x = bits8 (c ^^^ x.toNat) := by
  obtain ⟨h1, h2⟩ := xor_high c x
  have h := split_byte (c ^^^ x.toNat)
  rw [h, bits8_xor, bits8_shift, h1, h2]
  unfold sumStep
  rw [Nat.shiftRight_eq_div_pow]
/-- bit by bit, as the document has it: k bits have gone -/
def bitRun (c : Nat) (x : UInt8) : Nat → Nat
  | 0 => c
  | k + 1 => if (bitRun c x k ^^^ x.toNat >>> k) % 2 = 1 then (bitRun c x k >>> 1) ^^^ poly else bitRun c x k >>> 1
theorem bitRun_step (c : Nat) (x : UInt8) (k : Nat) : bitRun c x (k + 1) ^^^ x.toNat >>> (k + 1) = bitStep (bitRun c x k ^^^ x.toNat >>> k) := by
  unfold bitStep
  have hs : (bitRun c x k ^^^ x.toNat >>> k) >>> 1 = bitRun c x k >>> 1 ^^^ x.toNat >>> (k + 1) := by rw [Nat.shiftRight_xor_distrib, ← Nat.shiftRight_add]
  rw [hs]
  show (if (bitRun c x k ^^^ x.toNat >>> k) % 2 = 1 then (bitRun c x k >>> 1) ^^^ poly else bitRun c x k >>> 1) ^^^ _ = _
  split
  · rw [Nat.xor_assoc, Nat.xor_assoc, Nat.xor_comm poly]
  · rfl
theorem bitRun_all (c : Nat) (x : UInt8) : bitRun c x 8 = sumStep c x := by
  have h8 : x.toNat >>> 8 = 0 := by rw [Nat.shiftRight_eq_div_pow]; have := x.toNat_lt; omega
  have : bitRun c x 8 ^^^ x.toNat >>> 8 = bits8 (bitRun c x 0 ^^^ x.toNat >>> 0) := by
    unfold bits8
    rw [← bitRun_step c x 0, ← bitRun_step c x 1, ← bitRun_step c x 2, ← bitRun_step c x 3, ← bitRun_step c x 4, ← bitRun_step c x 5, ← bitRun_step c x 6, ← bitRun_step c x 7]
  rw [h8, Nat.xor_zero] at this
  rw [this, sumStep_bits]; rfl
theorem bitRun_lt (c : Nat) (x : UInt8) (h : c < 4294967296) : ∀ k, bitRun c x k < 4294967296
  | 0 => h
  | k + 1 => by
    unfold bitRun; split
    · exact xor_lt (shr_lt 1 (bitRun_lt c x h k)) poly_lt
    · exact shr_lt 1 (bitRun_lt c x h k)

/- ## What is no more than one byte tells itself -/
theorem top_inj : ∀ i j, i < 256 → j < 256 → bits8 i >>> 24 = bits8 j >>> 24 → i = j := by
  have h : ((List.range 256).map fun i => bits8 i >>> 24).Nodup := by decide +kernel
  intro i j hi hj hij
  have h1 := List.pairwise_map.1 h
  rcases Nat.lt_trichotomy i j with hlt | heq | hgt
  · have := List.pairwise_iff_getElem.1 h1 i j (by simpa using hi) (by simpa using hj) hlt
    simp only [List.getElem_range] at this
    exact absurd hij this
  · exact heq
  · have := List.pairwise_iff_getElem.1 h1 j i (by simpa using hj) (by simpa using hi) hgt
    simp only [List.getElem_range] at this
    exact absurd hij.symm this
/-- two steps that end alike on their first bits took the same row of the table -/
theorem step_back {c d : Nat} {x y : UInt8} (hc : c < 4294967296) (hd : d < 4294967296) (h : sumStep c x >>> 24 = sumStep d y >>> 24) : (c % 256) ^^^ x.toNat = (d % 256) ^^^ y.toNat := by
  unfold sumStep at h
  rw [Nat.shiftRight_xor_distrib, Nat.shiftRight_xor_distrib, ← Nat.shiftRight_add, ← Nat.shiftRight_add] at h
  have z : ∀ a : Nat, a < 4294967296 → a >>> (8 + 24) = 0 := fun a ha => by rw [Nat.shiftRight_eq_div_pow]; omega
  rw [z c hc, z d hd, Nat.xor_zero, Nat.xor_zero] at h
  have lt8 : ∀ (a : Nat) (b : UInt8), (a % 256) ^^^ b.toNat < 256 := fun a b => Nat.xor_lt_two_pow (n := 8) (Nat.mod_lt _ (by decide)) b.toNat_lt
  exact top_inj _ _ (lt8 c x) (lt8 d y) h
theorem step_rest {c d : Nat} {x y : UInt8} (hi : (c % 256) ^^^ x.toNat = (d % 256) ^^^ y.toNat) (k : Nat) (h : sumStep c x >>> k = sumStep d y >>> k) : c >>> (8 + k) = d >>> (8 + k) := by
  unfold sumStep at h
  rw [hi, Nat.shiftRight_xor_distrib, Nat.shiftRight_xor_distrib, ← Nat.shiftRight_add, ← Nat.shiftRight_add] at h
  have := congrArg (fun n => (bits8 ((d % 256) ^^^ y.toNat) >>> k) ^^^ n) h
  simpa only [← Nat.xor_assoc, Nat.xor_self, Nat.zero_xor] using this
/-- one byte that is another one, or another state, tells itself -/
theorem sumStep_inj {c d : Nat} {x : UInt8} (hc : c < 4294967296) (hd : d < 4294967296) (h : sumStep c x = sumStep d x) : c = d := by
  have h1 := step_back hc hd (congrArg (· >>> 24) h)
  have h2 := step_rest h1 0 (by rw [h])
  have h3 : c % 256 = d % 256 := by
    have := congrArg (· ^^^ x.toNat) h1
    simpa only [Nat.xor_assoc, Nat.xor_self, Nat.xor_zero] using this
  rw [Nat.shiftRight_eq_div_pow, Nat.shiftRight_eq_div_pow] at h2
  omega
theorem sumStep_byte {c : Nat} {x y : UInt8} (hc : c < 4294967296) (h : sumStep c x = sumStep c y) : x = y := by
  have h1 := step_back hc hc (congrArg (· >>> 24) h)
  have := congrArg ((c % 256) ^^^ ·) h1
  simp only [← Nat.xor_assoc, Nat.xor_self, Nat.zero_xor] at this
  exact UInt8.toNat_inj.1 this
theorem sumRun_inj : ∀ (l : List UInt8) {c d : Nat}, c < 4294967296 → d < 4294967296 → sumRun c l = sumRun d l → c = d
  | [], _, _, _, _, h => h
  | x :: r, _, _, hc, hd, h => sumStep_inj hc hd (sumRun_inj r (sumStep_lt x hc) (sumStep_lt x hd) h)
/-- four bytes: the sums are the same just if they are -/
theorem four_inj {c : Nat} {a b e f a' b' e' f' : UInt8} (hc : c < 4294967296) (h : sumRun c [a, b, e, f] = sumRun c [a', b', e', f']) : a = a' ∧ b = b' ∧ e = e' ∧ f = f' := by
  have h' : sumStep (sumStep (sumStep (sumStep c a) b) e) f = sumStep (sumStep (sumStep (sumStep c a') b') e') f' := h
  have c1 := sumStep_lt a hc
  have c2 := sumStep_lt b c1
  have c3 := sumStep_lt e c2
  have d1 := sumStep_lt a' hc
  have d2 := sumStep_lt b' d1
  have d3 := sumStep_lt e' d2
  have i4 := step_back c3 d3 (congrArg (· >>> 24) h')
  have r4 := step_rest i4 0 (by rw [h'])
  have s3 : sumStep (sumStep (sumStep c a) b) e >>> 24 = sumStep (sumStep (sumStep c a') b') e' >>> 24 := by
    have := congrArg (· >>> 16) r4
    simpa only [← Nat.shiftRight_add] using this
  have i3 := step_back c2 d2 s3
  have r3 := step_rest i3 8 r4
  have s2 : sumStep (sumStep c a) b >>> 24 = sumStep (sumStep c a') b' >>> 24 := by
    have := congrArg (· >>> 8) r3
    simpa only [← Nat.shiftRight_add] using this
  have i2 := step_back c1 d1 s2
  have r2 := step_rest i2 16 r3
  have i1 := step_back hc hc r2
  have key : ∀ {c : Nat} {x y : UInt8}, (c % 256) ^^^ x.toNat = (c % 256) ^^^ y.toNat → x = y := fun {c x y} h => by
    have := congrArg ((c % 256) ^^^ ·) h
    simp only [← Nat.xor_assoc, Nat.xor_self, Nat.zero_xor] at this
    exact UInt8.toNat_inj.1 this
  obtain rfl := key i1
  obtain rfl := key i2
  obtain rfl := key i3
  obtain rfl := key i4
  exact ⟨rfl, rfl, rfl, rfl⟩
theorem sum_four (l : List UInt8) (a b e f a' b' e' f' : UInt8) : sumOf (l ++ [a, b, e, f]) = sumOf (l ++ [a', b', e', f']) ↔ a = a' ∧ b = b' ∧ e = e' ∧ f = f' := by
  constructor
  · intro h
    unfold sumOf at h
    have h1 := congrArg (4294967295 ^^^ ·) h
    simp only [← Nat.xor_assoc, Nat.xor_self, Nat.zero_xor] at h1
    rw [sumRun_append, sumRun_append] at h1
    exact four_inj (sumRun_lt l _ (by decide)) h1
  · rintro ⟨rfl, rfl, rfl, rfl⟩; rfl
/-- a byte that is another one makes another sum -/
theorem sum_spoilt (l r : List UInt8) {x y : UInt8} (h : sumOf (l ++ x :: r) = sumOf (l ++ y :: r)) : x = y := by
  unfold sumOf at h
  have h1 := congrArg (4294967295 ^^^ ·) h
  simp only [← Nat.xor_assoc, Nat.xor_self, Nat.zero_xor] at h1
  rw [sumRun_append, sumRun_append] at h1
  have hc := sumRun_lt l 4294967295 (by decide)
  exact sumStep_byte hc (sumRun_inj r (sumStep_lt x hc) (sumStep_lt y hc) h1)
end Go.Proofs.YtmpjfomfibkbnaaGreatDoor
