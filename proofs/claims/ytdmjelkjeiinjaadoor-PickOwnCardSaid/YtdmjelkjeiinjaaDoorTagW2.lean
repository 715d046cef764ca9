/- The walk of package tag: scripts. -/
import Derived.Test.YtdmjelkjeiinjaaDoorTagW
set_option linter.unusedSimpArgs false
set_option linter.unusedVariables false
namespace Go.Proofs.YtdmjelkjeiinjaaDoor
open Go.RowKit

theorem bts_drop1 (s : ByteArray) : bts (s.extract 1 s.size) = (bts s).drop 1 := by
  show (s.extract 1 s.size).data.toList = _
  rw [ByteArray.data_extract]
  have h : s.data.toList.length = s.size := bts_len s
  simp [bts]
  rw [List.take_of_length_le (by simp)]
theorem scriptB_eq (s : ByteArray) (h4 : s.size = 4) (h0 : 0 < s.size) : scriptB s = (isHigh s[0] && made isLow (s.extract 1 s.size) 3 3) := by
  have hl := bts_len s
  obtain ⟨a, b, c, d, he⟩ : ∃ a b c d, bts s = [a, b, c, d] := by
    rw [h4] at hl
    match h : bts s, hl with
    | [a, b, c, d], _ => exact ⟨a, b, c, d, rfl⟩
  have e0 : s[0] = a := by
    have := bts_get s 0 h0
    rw [← this]
    simp [he]
  have e1 : (s.extract 1 s.size).size = 3 := by rw [← bts_len, bts_drop1, he]; rfl
  unfold scriptB made
  rw [e0, e1, bts_drop1, he, h4]
  simp
set_option maxHeartbeats 400000 in
theorem script_any (s : ByteArray) (w : World) (hs : s.size ≤ 9223372036854775807) : Calls Tryd.prog 49 #[.string s] w fun e w' => e = .returned (.bool (scriptB s)) ∧ w = w' := by
  by_cases h4 : s.size = 4
  · have h0 : 0 < s.size := by omega
    have hb := scriptB_eq s h4 h0
    rw [h4] at hb
    have h := Lib.hid hb
    clear hb
    have H1 := Lib.hid (high_any s[0] w)
    have H2 := Lib.hid (made_low (s.extract 1 4) 3 3 w (by rw [ByteArray.size_extract]; omega) (by omega) (by omega))
    generalize made isLow (s.extract 1 4) 3 3 = k at h H2
    have h4' : ((s.size : Int) == 4) = true := by rw [h4]; rfl
    cases hm : isHigh s[0] with
    | true =>
      rw [hm] at h H1
      clear hm
      go_enter Tryd.func49, Tryd.ntmps49
      go_wp2_with fail
      refine (H1.out).mono ?_
      rintro e w1 ⟨rfl, rfl⟩
      go_wp2_with fail
      refine (H2.out).mono ?_
      rintro e w1 ⟨rfl, rfl⟩
      go_wp2_with fail
      go_ret
      exact ⟨ret_bool (by rw [h.out]; rfl), rfl⟩
    | false =>
      rw [hm] at h H1
      clear hm
      go_enter Tryd.func49, Tryd.ntmps49
      go_wp2_with fail
      refine (H1.out).mono ?_
      rintro e w1 ⟨rfl, rfl⟩
      go_wp2_with fail
      go_ret
      exact ⟨ret_bool (by rw [h.out]; rfl), rfl⟩
  · have h : Hid (scriptB s = false) := by unfold scriptB; simp [h4, Hid]
    have h4' : ((s.size : Int) == 4) = false := by simp; omega
    clear h4
    go_enter Tryd.func49, Tryd.ntmps49
    go_wp2_with fail
    go_ret
    exact ⟨ret_bool h.out.symm, rfl⟩
end Go.Proofs.YtdmjelkjeiinjaaDoor
