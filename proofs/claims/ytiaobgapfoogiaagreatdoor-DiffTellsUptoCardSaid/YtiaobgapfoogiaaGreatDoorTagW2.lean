/- The walk of package tag: kinds of signs, scripts, regions, Check. -/
import Derived.Test.YtiaobgapfoogiaaGreatDoorBun
import Derived.Shelf.Abstract
import Derived.BigQuiet
import Derived.Deep.QuietTactic
set_option linter.unusedSimpArgs false
set_option linter.unusedVariables false
namespace Go.Proofs.YtiaobgapfoogiaaGreatDoor
open Go.RowKit

theorem low_any (c : UInt8) (w : World) : Calls Tryz.prog 77 #[.int .u8 c.toNat] w fun e w' => e = .returned (.bool (isLow c)) ∧ w = w' := by
  have h : Hid (isLow c = (decide (97 ≤ c.toNat) && decide (c.toNat ≤ 122))) := rfl
  generalize c.toNat = n at h ⊢
  go_enter Tryz.func77, Tryz.ntmps77
  go_wp2
  all_goals
    go_ret
    exact ⟨ret_bool (by rw [h.out, Bool.eq_iff_iff]; simp only [decide_eq_true_eq, Bool.and_eq_true, Bool.false_eq_true]; refine ⟨fun h => ?_, fun h => ?_⟩ <;> first | exact h.elim | omega), rfl⟩
theorem high_any (c : UInt8) (w : World) : Calls Tryz.prog 102 #[.int .u8 c.toNat] w fun e w' => e = .returned (.bool (isHigh c)) ∧ w = w' := by
  have h : Hid (isHigh c = (decide (65 ≤ c.toNat) && decide (c.toNat ≤ 90))) := rfl
  generalize c.toNat = n at h ⊢
  go_enter Tryz.func102, Tryz.ntmps102
  go_wp2
  all_goals
    go_ret
    exact ⟨ret_bool (by rw [h.out, Bool.eq_iff_iff]; simp only [decide_eq_true_eq, Bool.and_eq_true, Bool.false_eq_true]; refine ⟨fun h => ?_, fun h => ?_⟩ <;> first | exact h.elim | omega), rfl⟩
theorem digit_any (c : UInt8) (w : World) : Calls Tryz.prog 103 #[.int .u8 c.toNat] w fun e w' => e = .returned (.bool (isDig c)) ∧ w = w' := by
  have h : Hid (isDig c = (decide (48 ≤ c.toNat) && decide (c.toNat ≤ 57))) := rfl
  generalize c.toNat = n at h ⊢
  go_enter Tryz.func103, Tryz.ntmps103
  go_wp2
  all_goals
    go_ret
    exact ⟨ret_bool (by rw [h.out, Bool.eq_iff_iff]; simp only [decide_eq_true_eq, Bool.and_eq_true, Bool.false_eq_true]; refine ⟨fun h => ?_, fun h => ?_⟩ <;> first | exact h.elim | omega), rfl⟩
theorem both_any (c : UInt8) (w : World) : Calls Tryz.prog 105 #[.int .u8 c.toNat] w fun e w' => e = .returned (.bool (isBoth c)) ∧ w = w' := by
  have h : Hid (isBoth c = (isLow c || isDig c)) := rfl
  have H1 := Lib.hid (low_any c)
  have H2 := Lib.hid (digit_any c)
  generalize c.toNat = n at H1 H2 ⊢
  go_enter Tryz.func105, Tryz.ntmps105
  go_wp2_with (first
    | (go_at_call 77; refine (H1.out _).mono ?_; rintro e w1 ⟨rfl, rfl⟩)
    | (go_at_call 103; refine (H2.out _).mono ?_; rintro e w1 ⟨rfl, rfl⟩))
  all_goals
    go_ret
    exact ⟨ret_bool (by rw [h.out]; simp_all), rfl⟩

theorem bts_get (s : ByteArray) (q : Nat) (h : q < s.size) : (bts s)[q]'(by rw [bts_len]; exact h) = s[q] := by
  cases s with
  | mk d => exact Array.getElem_toList (xs := d) h
theorem all_bts (p : UInt8 → Bool) (s : ByteArray) (h : ∀ q (h : q < s.size), p s[q] = true) : (bts s).all p = true := by
  rw [List.all_eq_true]
  intro x hx
  obtain ⟨q, hq, rfl⟩ := List.getElem_of_mem hx
  rw [bts_len] at hq
  rw [bts_get s q hq]
  exact h q hq
theorem not_all_bts (p : UInt8 → Bool) (s : ByteArray) (j : Nat) (hj : j < s.size) (h : p s[j] = false) : (bts s).all p = false := by
  rw [← Bool.not_eq_true, List.all_eq_true]
  intro hx
  have := hx _ (List.getElem_mem (l := bts s) (n := j) (by rw [bts_len]; exact hj))
  rw [bts_get s j hj, h] at this
  cases this
/-- A function value that says of a byte what p says. -/
def Says (f : FuncId) (p : UInt8 → Bool) : Prop := ∀ (c : UInt8) (w : World), Calls Tryz.prog f #[.int .u8 c.toNat] w fun e w' => e = .returned (.bool (p c)) ∧ w = w'
set_option maxHeartbeats 400000 in
theorem made_any (f : FuncId) (p : UInt8 → Bool) (he : ∀ args w, (callFunc f args).run Tryz.prog w = .ok (.enter f args) w) (hp : Says f p) (s : ByteArray) (a b : Nat) (w : World) (hs : s.size ≤ 9223372036854775807) (_ha : a ≤ 1000) (_hb : b ≤ 1000) :
    Calls Tryz.prog 78 #[.func (.func f) #[] #[], .string s, .int .i64 a, .int .i64 b] w fun e w' => e = .returned (.bool (made p s a b)) ∧ w = w' := by
  have HP := Lib.hid hp
  go_enter Tryz.func78, Tryz.ntmps78
  go_wp2
  go_loop [12] (fun i => ∃ j : Nat, j ≤ s.size ∧ i = .int .i64 j ∧ (∀ q, (h : q < s.size) → q < j → p s[q] = true)) (fun i => s.size - (intOf i).toNat)
  case atStart => exact ⟨0, Nat.zero_le _, rfl, fun _ _ h => absurd h (by omega)⟩
  case round =>
    obtain ⟨j, hj, rfl, hno0⟩ := hrel
    have hno := Lib.hid hno0
    clear hno0
    by_cases hlt : j < s.size
    · go_wp2_with (go_at_fn f; refine (HP.out _ _).mono ?_; rintro e w1 ⟨rfl, rfl⟩)
      · have hpj : (!p s[j]) = true := by assumption
        go_ret
        exact ⟨ret_bool (by unfold made; rw [not_all_bts p s j hlt (by simpa using hpj)]; rfl), rfl⟩
      · have hpj0 : (!p s[j]) = false := by assumption
        have hpj : p s[j] = true := by simpa using hpj0
        refine ⟨⟨j + 1, by omega, by go_num, fun q h hq => ?_⟩, by simp only [intOf]; omega⟩
        rcases Nat.lt_or_eq_of_le (Nat.le_of_lt_succ hq) with h1 | h1
        · exact hno.out q h h1
        · subst h1; exact hpj
    · have hall := all_bts p s (fun q h => hno.out q h (by omega))
      go_wp2
      · go_ret
        have h1 : a ≤ s.size := by assumption
        exact ⟨ret_bool (by unfold made; rw [hall]; simp [h1]), rfl⟩
      · go_ret
        have h1 : ¬ a ≤ s.size := by assumption
        exact ⟨ret_bool (by unfold made; rw [hall]; simp [h1]), rfl⟩
theorem enters_low : ∀ args w, (callFunc 77 args).run Tryz.prog w = .ok (.enter 77 args) w := enters_of Tryz.func77 (by kernel_rfl) rfl
theorem enters_high : ∀ args w, (callFunc 102 args).run Tryz.prog w = .ok (.enter 102 args) w := enters_of Tryz.func102 (by kernel_rfl) rfl
theorem enters_digit : ∀ args w, (callFunc 103 args).run Tryz.prog w = .ok (.enter 103 args) w := enters_of Tryz.func103 (by kernel_rfl) rfl
theorem enters_both : ∀ args w, (callFunc 105 args).run Tryz.prog w = .ok (.enter 105 args) w := enters_of Tryz.func105 (by kernel_rfl) rfl
theorem made_low (s : ByteArray) (a b : Nat) (w : World) (hs : s.size ≤ 9223372036854775807) (ha : a ≤ 1000) (hb : b ≤ 1000) : Calls Tryz.prog 78 #[.func (.func 77) #[] #[], .string s, .int .i64 a, .int .i64 b] w fun e w' => e = .returned (.bool (made isLow s a b)) ∧ w = w' := made_any _ _ enters_low low_any s a b w hs ha hb
theorem made_high (s : ByteArray) (a b : Nat) (w : World) (hs : s.size ≤ 9223372036854775807) (ha : a ≤ 1000) (hb : b ≤ 1000) : Calls Tryz.prog 78 #[.func (.func 102) #[] #[], .string s, .int .i64 a, .int .i64 b] w fun e w' => e = .returned (.bool (made isHigh s a b)) ∧ w = w' := made_any _ _ enters_high high_any s a b w hs ha hb
theorem made_dig (s : ByteArray) (a b : Nat) (w : World) (hs : s.size ≤ 9223372036854775807) (ha : a ≤ 1000) (hb : b ≤ 1000) : Calls Tryz.prog 78 #[.func (.func 103) #[] #[], .string s, .int .i64 a, .int .i64 b] w fun e w' => e = .returned (.bool (made isDig s a b)) ∧ w = w' := made_any _ _ enters_digit digit_any s a b w hs ha hb
theorem made_both (s : ByteArray) (a b : Nat) (w : World) (hs : s.size ≤ 9223372036854775807) (ha : a ≤ 1000) (hb : b ≤ 1000) : Calls Tryz.prog 78 #[.func (.func 105) #[] #[], .string s, .int .i64 a, .int .i64 b] w fun e w' => e = .returned (.bool (made isBoth s a b)) ∧ w = w' := made_any _ _ enters_both both_any s a b w hs ha hb

theorem region_any (s : ByteArray) (w : World) (hs : s.size ≤ 9223372036854775807) : Calls Tryz.prog 80 #[.string s] w fun e w' => e = .returned (.bool (regionB s)) ∧ w = w' := by
  have h : Hid (regionB s = (made isHigh s 2 2 || made isDig s 3 3)) := rfl
  have H1 := Lib.hid (made_high s 2 2 w hs (by omega) (by omega))
  have H2 := Lib.hid (made_dig s 3 3 w hs (by omega) (by omega))
  generalize made isHigh s 2 2 = m at h H1
  generalize made isDig s 3 3 = k at h H2
  cases m with
  | true =>
    go_enter Tryz.func80, Tryz.ntmps80
    go_wp2_with (go_at_call 78; refine (H1.out).mono ?_; rintro e w1 ⟨rfl, rfl⟩)
    go_ret
    exact ⟨ret_bool (by rw [h.out]; rfl), rfl⟩
  | false =>
    go_enter Tryz.func80, Tryz.ntmps80
    go_wp2_with fail
    refine (H1.out).mono ?_
    rintro e w1 ⟨rfl, rfl⟩
    go_wp2_with fail
    refine (H2.out).mono ?_
    rintro e w1 ⟨rfl, rfl⟩
    go_wp2_with fail
    go_ret
    exact ⟨ret_bool (by rw [h.out]; rfl), rfl⟩
end Go.Proofs.YtiaobgapfoogiaaGreatDoor
/- The walk of package tag: scripts. -/

namespace Go.Proofs.YtiaobgapfoogiaaGreatDoor
open Go.RowKit

theorem bts_drop1 (s : ByteArray) : bts (s.extract 1 s.size) = (bts s).drop 1 := by
  show (s.extract 1 s.size).data.toList = _
  rw [ByteArray.data_extract]
  have h : s.data.toList.length = s.size := bts_len s
  simp [bts]
  rw [List.take_of_length_le (by simp)]
theorem scriptB_eq (s : ByteArray) (h4 : s.size = 4) (h0 : 0 < s.size) : scriptB s = (isHigh s[0] && made isLow (s.extract 1 s.size) 3 3) := by
  have hl := bts_len s
  obtain ⟨a, b, c, d, he⟩ : ∃ a b c d, bts s = [a, b, c, d] := by
    rw [h4] at hl
    match h : bts s, hl with
    | [a, b, c, d], _ => exact ⟨a, b, c, d, rfl⟩
  have e0 : s[0] = a := by
    have := bts_get s 0 h0
    rw [← this]
    simp [he]
  have e1 : (s.extract 1 s.size).size = 3 := by rw [← bts_len, bts_drop1, he]; rfl
  unfold scriptB made
  rw [e0, e1, bts_drop1, he, h4]
  simp
set_option maxHeartbeats 400000 in
theorem script_any (s : ByteArray) (w : World) (_hs : s.size ≤ 9223372036854775807) : Calls Tryz.prog 104 #[.string s] w fun e w' => e = .returned (.bool (scriptB s)) ∧ w = w' := by
  by_cases h4 : s.size = 4
  · have h0 : 0 < s.size := by omega
    have hb := scriptB_eq s h4 h0
    rw [h4] at hb
    have h := Lib.hid hb
    clear hb
    have H1 := Lib.hid (high_any s[0] w)
    have H2 := Lib.hid (made_low (s.extract 1 4) 3 3 w (by rw [ByteArray.size_extract]; omega) (by omega) (by omega))
    generalize made isLow (s.extract 1 4) 3 3 = k at h H2
    have h4' : ((s.size : Int) == 4) = true := by rw [h4]; rfl
    cases hm : isHigh s[0] with
    | true =>
      rw [hm] at h H1
      clear hm
      go_enter Tryz.func104, Tryz.ntmps104
      go_wp2_with fail
      refine (H1.out).mono ?_
      rintro e w1 ⟨rfl, rfl⟩
      go_wp2_with fail
      refine (H2.out).mono ?_
      rintro e w1 ⟨rfl, rfl⟩
      go_wp2_with fail
      go_ret
      exact ⟨ret_bool (by rw [h.out]; rfl), rfl⟩
    | false =>
      rw [hm] at h H1
      clear hm
      go_enter Tryz.func104, Tryz.ntmps104
      go_wp2_with fail
      refine (H1.out).mono ?_
      rintro e w1 ⟨rfl, rfl⟩
      go_wp2_with fail
      go_ret
      exact ⟨ret_bool (by rw [h.out]; rfl), rfl⟩
  · have h : Hid (scriptB s = false) := by unfold scriptB; simp [h4, Hid]
    have h4' : ((s.size : Int) == 4) = false := by simp; omega
    clear h4
    go_enter Tryz.func104, Tryz.ntmps104
    go_wp2_with fail
    go_ret
    exact ⟨ret_bool h.out.symm, rfl⟩
end Go.Proofs.YtiaobgapfoogiaaGreatDoor
