/- Small functions over lists of strings: is one among them; are two lists alike. -/
import Derived.Test.YtmpjfomfibkbnaaGreatDoorBase
import Derived.BigQuiet
import Derived.Deep.QuietTactic
set_option linter.unusedSimpArgs false
set_option linter.unusedVariables false
namespace Go.Proofs.YtmpjfomfibkbnaaGreatDoor
open Go.RowKit

set_option maxHeartbeats 400000 in
theorem in_any (v : Value) (l : List ByteArray) (s : ByteArray) (lo hi : Nat) (w : World) (hv : ListOk Enc.str w lo hi v l) (hn : l.length ≤ 140737488355328) :
    Calls Tryz.prog 96 #[v, .string s] w fun e w' => e = .returned (.bool (l.any (eqs · s))) ∧ w = w' := by
  obtain ⟨A, c, rfl, hlc⟩ := hv.form
  go_enter Tryz.func96, Tryz.ntmps96
  go_wp2
  go_loop [5] (fun i => ∃ j : Nat, j ≤ l.length ∧ i = .int .i64 j ∧ (∀ q (h : q < l.length), q < j → eqs l[q] s = false)) (fun i => l.length - (intOf i).toNat)
  case atStart => exact ⟨0, Nat.zero_le _, rfl, fun _ _ h => absurd h (by omega)⟩
  case round =>
    obtain ⟨j, hj, rfl, hno0⟩ := hrel
    have hno := Lib.hid hno0
    clear hno0
    by_cases hlt : j < l.length
    · obtain ⟨b, o, rfl, h1, h2, hc⟩ := hv.strAt j hlt
      go_wp2
      · have hk : (l[j].toList == s.toList) = true := by assumption
        go_ret
        exact ⟨by rw [any_of_at _ _ j hlt hk]; rfl, rfl⟩
      · have hk : (l[j].toList == s.toList) = false := by assumption
        go_round
        case rel => exact ⟨j + 1, by omega, by go_num, step_no _ (eqs · s) j hno.out (fun _ => hk)⟩
        case measure => simp [intOf]; omega
    · go_wp2
      go_ret
      exact ⟨by rw [any_of_no _ _ (fun q h => hno.out q h (by omega))]; rfl, rfl⟩

theorem eq_of_all {α : Type} {a b : List α} (hl : a.length = b.length) (h : ∀ q (h1 : q < a.length) (h2 : q < b.length), a[q] = b[q]) : a = b :=
  List.ext_getElem hl fun q h1 h2 => h q h1 h2

end Go.Proofs.YtmpjfomfibkbnaaGreatDoor
