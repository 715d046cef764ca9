/- The walk of the document's package: EntryAt, TagFault of a text, BundleFault. -/
import Derived.Test.YtdmjelkjeiinjaaDoorRefE
import Derived.Test.YtdmjelkjeiinjaaDoorPropC
set_option linter.unusedSimpArgs false
set_option linter.unusedVariables false
namespace Go.Proofs.YtdmjelkjeiinjaaDoor
open Go.RowKit

def idxI (o : Option Nat) : Int := match o with | some j => j | none => -1
theorem idxI_none : idxI none = -1 := rfl
theorem idxI_some (j : Nat) : idxI (some j) = j := rfl
theorem idxI_neg (o : Option Nat) : decide (idxI o < 0) = o.isNone := by
  cases o with
  | none => rfl
  | some j => exact decide_eq_false (by have h : (0 : Int) ≤ (j : Int) := Int.natCast_nonneg j; exact Int.not_lt.2 h)
theorem idxI_ge (o : Option Nat) : decide (0 ≤ idxI o) = o.isSome := by
  cases o with
  | none => rfl
  | some j => exact decide_eq_true (Int.natCast_nonneg j)
theorem entIdx_some (l : List Ent) (key : ByteArray) : (entIdx l key).isSome = l.any (fun e => eqs e.key key) := by
  unfold entIdx
  rw [List.findIdx?_isSome]

set_option maxHeartbeats 800000 in
theorem entat_any (v : Value) (l : List Ent) (key : ByteArray) (lo hi : Nat) (w : World) (hv : ListOk Enc.ent w lo hi v l) (hn : l.length ≤ 140737488355328) :
    Calls Tryd.prog 42 #[v, .string key] w fun e w' => e = .returned (.int .i64 (idxI (entIdx l key))) ∧ w = w' := by
  obtain ⟨A, c, rfl, hlc⟩ := hv.form
  have HI : Hid (entIdx l key = l.findIdx? (fun e => eqs e.key key)) := Lib.hid rfl
  go_enter Tryd.func42, Tryd.ntmps42
  go_wp2_with fail
  go_loop [5] (fun i => ∃ j : Nat, j ≤ l.length ∧ i = .int .i64 j ∧ (∀ q (h : q < l.length), q < j → eqs l[q].key key = false)) (fun i => l.length - (intOf i).toNat)
  case atStart => exact ⟨0, Nat.zero_le _, rfl, fun _ _ h => absurd h (by omega)⟩
  case round =>
    obtain ⟨j, hj, rfl, hno0⟩ := hrel
    have hno := Lib.hid hno0
    clear hno0
    by_cases hlt : j < l.length
    · obtain ⟨b, o, rfl, h1, h2, hc, _⟩ := hv.entAt j hlt
      cases hk : (l[j].key.toList == key.toList) with
      | true =>
        have HK : Hid (entIdx l key = some j) := Lib.hid (by rw [HI.out]; exact findIdx_at l _ j hlt hk hno.out)
        go_wp2_with fail
        go_ret
        exact ⟨by rw [HK.out]; rfl, rfl⟩
      | false =>
        have HK := Lib.hid hk
        go_wp2_with fail
        go_round
        case rel => exact ⟨j + 1, by omega, by go_num, step_no l (fun e => eqs e.key key) j hno.out (fun _ => HK.out)⟩
        case measure => simp [intOf]; omega
    · have HK : Hid (entIdx l key = none) := Lib.hid (by rw [HI.out]; exact findIdx_none l _ (fun q h => hno.out q h (by omega)))
      go_wp2_with fail
      go_ret
      exact ⟨by rw [HK.out]; rfl, rfl⟩

theorem keyOk_made (s : ByteArray) : made isKey s 1 40 = keyOk s := by
  unfold made keyOk
  cases (bts s).all isKey
  · simp
  · by_cases h : s.size = 0
    · simp [h]
    · have : 1 ≤ s.size := by omega
      simp [h, this]
theorem only_key (s : ByteArray) (w : World) (hs : s.size ≤ 9223372036854775807) :
    Calls Tryd.prog 63 #[.string s, .string ⟨#[97,98,99,100,101,102,103,104,105,106,107,108,109,110,111,112,113,114,115,116,117,118,119,120,121,122,48,49,50,51,52,53,54,55,56,57,46,95]⟩, .int .i64 1, .int .i64 40] w fun e w' => e = .returned (.bool (keyOk s)) ∧ ∃ n, w' = w.drewN n := by
  rw [← keyOk_made, ← contains_byte ⟨#[97,98,99,100,101,102,103,104,105,106,107,108,109,110,111,112,113,114,115,116,117,118,119,120,121,122,48,49,50,51,52,53,54,55,56,57,46,95]⟩ isKey (by decide +kernel) s 1 40]
  exact only_any s _ 1 40 w hs (by decide) (by decide) (by decide)
end Go.Proofs.YtdmjelkjeiinjaaDoor
