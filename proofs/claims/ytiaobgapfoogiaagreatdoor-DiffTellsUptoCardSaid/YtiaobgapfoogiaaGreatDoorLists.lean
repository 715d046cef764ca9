/- Small functions over lists of strings: is one among them; are two lists alike. -/
import Derived.Test.YtiaobgapfoogiaaGreatDoorBase
import Derived.BigQuiet
import Derived.Deep.QuietTactic
set_option linter.unusedSimpArgs false
set_option linter.unusedVariables false
namespace Go.Proofs.YtiaobgapfoogiaaGreatDoor
open Go.RowKit

set_option maxHeartbeats 400000 in
theorem in_any (v : Value) (l : List ByteArray) (s : ByteArray) (lo hi : Nat) (w : World) (hv : ListOk Enc.str w lo hi v l) (hn : l.length ≤ 140737488355328) :
    Calls Tryz.prog 33 #[v, .string s] w fun e w' => e = .returned (.bool (l.any (eqs · s))) ∧ w = w' := by
  obtain ⟨A, c, rfl, hlc⟩ := hv.form
  go_enter Tryz.func33, Tryz.ntmps33
  go_wp2
  go_loop [5] (fun i => ∃ j : Nat, j ≤ l.length ∧ i = .int .i64 j ∧ (∀ q (h : q < l.length), q < j → eqs l[q] s = false)) (fun i => l.length - (intOf i).toNat)
  case atStart => exact ⟨0, Nat.zero_le _, rfl, fun _ _ h => absurd h (by omega)⟩
  case round =>
    obtain ⟨j, hj, rfl, hno0⟩ := hrel
    have hno := Lib.hid hno0
    clear hno0
    by_cases hlt : j < l.length
    · obtain ⟨b, o, rfl, h1, h2, hc⟩ := hv.strAt j hlt
      go_wp2
      · have hk : (l[j].toList == s.toList) = true := by assumption
        go_ret
        exact ⟨by rw [any_of_at _ _ j hlt hk]; rfl, rfl⟩
      · have hk : (l[j].toList == s.toList) = false := by assumption
        go_round
        case rel => exact ⟨j + 1, by omega, by go_num, step_no _ (eqs · s) j hno.out (fun _ => hk)⟩
        case measure => simp [intOf]; omega
    · go_wp2
      go_ret
      exact ⟨by rw [any_of_no _ _ (fun q h => hno.out q h (by omega))]; rfl, rfl⟩

theorem eq_of_all {α : Type} {a b : List α} (hl : a.length = b.length) (h : ∀ q (h1 : q < a.length) (h2 : q < b.length), a[q] = b[q]) : a = b :=
  List.ext_getElem hl fun q h1 h2 => h q h1 h2

set_option maxHeartbeats 400000 in
theorem texts_any (v u : Value) (a b : List ByteArray) (lo hi lo' hi' : Nat) (w : World) (hv : ListOk Enc.str w lo hi v a) (hu : ListOk Enc.str w lo' hi' u b) (hn : a.length ≤ 140737488355328) (hm : b.length ≤ 140737488355328) :
    Calls Tryz.prog 17 #[v, u] w fun e w' => e = .returned (.bool (decide (a = b))) ∧ ∃ n, w' = w.drewN n := by
  obtain ⟨A, c, rfl, hlc⟩ := hv.form
  obtain ⟨B, d, rfl, hld⟩ := hu.form
  by_cases hab : a.length = b.length
  · have hbl : ((a.length : Int) != (b.length : Int)) = false := by simp [hab]
    have HAB := Lib.hid hab
    clear hab
    go_enter Tryz.func17, Tryz.ntmps17
    go_wp2
    go_loopw [5] (fun i wr => ∃ j : Nat, j ≤ a.length ∧ i = .int .i64 j ∧ (∀ q (h : q < a.length) (h2 : q < b.length), q < j → a[q] = b[q]) ∧ ∃ n, wr = w.drewN n) (fun i _ => a.length - (intOf i).toNat)
    case atStart => exact ⟨0, Nat.zero_le _, rfl, fun _ _ _ h => absurd h (by omega), 0, rfl⟩
    case round =>
      obtain ⟨j, hj, rfl, hno0, n, rfl⟩ := hrel
      have hno := Lib.hid hno0
      clear hno0
      by_cases hlt : j < a.length
      · have hltb : j < b.length := by have := HAB.out; omega
        obtain ⟨b1, o1, rfl, h1, h2, hc⟩ := hv.strAt j hlt
        obtain ⟨b2, o2, rfl, h3, h4, hd⟩ := hu.strAt j hltb
        by_cases he : eqs a[j] b[j] = true
        · have he' : (a[j].toList == b[j].toList) = true := he
          go_wp2
          go_quiet (fail)
          go_wp2
          go_roundw
          case rel => exact ⟨j + 1, by omega, by go_num, fun q hq hq2 hq3 => by
            rcases Nat.lt_or_eq_of_le (Nat.le_of_lt_succ hq3) with h | h
            · exact hno.out q hq hq2 h
            · subst h; exact (eqs_iff _ _).1 he, _, rfl⟩
          case measure => simp [intOf]; omega
        · have he' : (a[j].toList == b[j].toList) = false := by simpa [eqs] using he
          go_wp2
          go_quiet (fail)
          go_wp2
          go_ret
          refine ⟨ret_bool (Eq.symm (decide_eq_false fun hab => he ?_)), _, World.drewN_drewN _ _ _⟩
          subst hab; exact eqs_self _
      · go_wp2
        go_ret
        exact ⟨ret_bool (Eq.symm (decide_eq_true (eq_of_all HAB.out fun q h1 h2 => hno.out q h1 h2 (by omega)))), _, rfl⟩
  · have hbl : ((a.length : Int) != (b.length : Int)) = true := by simp; omega
    have HAB := Lib.hid hab
    clear hab
    go_enter Tryz.func17, Tryz.ntmps17
    go_wp2
    go_ret
    exact ⟨ret_bool (Eq.symm (decide_eq_false fun h => HAB.out (by rw [h]))), 0, rfl⟩
end Go.Proofs.YtiaobgapfoogiaaGreatDoor
