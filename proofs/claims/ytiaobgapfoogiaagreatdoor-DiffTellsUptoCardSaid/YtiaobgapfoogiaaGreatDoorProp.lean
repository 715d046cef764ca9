/- The walk of package prop: key, Tag, Check. -/
import Derived.Test.YtiaobgapfoogiaaGreatDoorPropP
import Derived.Test.YtiaobgapfoogiaaGreatDoorParse
import Derived.Test.YtiaobgapfoogiaaGreatDoorPick
import Derived.Test.YtiaobgapfoogiaaGreatDoorTrim
import Derived.Maps.OwnSet
set_option linter.unusedSimpArgs false
set_option linter.unusedVariables false
namespace Go.Proofs.YtiaobgapfoogiaaGreatDoor
open Go.RowKit

set_option maxHeartbeats 800000 in
theorem key_any (s : ByteArray) (w : World) (hs : s.size ≤ 9223372036854775807) : Calls Tryz.prog 44 #[.string s] w fun e w' => e = .returned (.bool (keyOk s)) ∧ Below w.heap.size w w' := by
  have HT : Hid (∀ W, Calls Tryz.prog 60 #[.string s, .string keySigns] W fun e w' => e = .returned (.string ⟨(Lib.trimS (bts s) (bts keySigns)).toArray⟩) ∧ Below W.heap.size W w') := Lib.hid fun W => trim_any s keySigns W hs (by decide) (ascii_of_all (by decide +kernel))
  have HK : Hid (keyOk s = (decide (s.size ≠ 0) && (decide (s.size ≤ 40) && (bts s).all isKey))) := Lib.hid rfl
  have HTr : Hid ((⟨(Lib.trimS (bts s) (bts keySigns)).toArray⟩ : ByteArray).toList = [] ↔ (bts s).all isKey = true) := Lib.hid (by
    rw [← trim_key, ByteArray.toList_eq])
  generalize (⟨(Lib.trimS (bts s) (bts keySigns)).toArray⟩ : ByteArray) = r at HT HTr
  generalize (bts s).all isKey = al at HK HTr
  have hsz : s.toList = [] ↔ s.size = 0 := by
    rw [ByteArray.toList_eq]
    constructor
    · intro h; have := congrArg List.length h; simpa using this
    · intro h; exact List.length_eq_zero_iff.1 (by simpa using h)
  by_cases h0 : s.toList = []
  · have hz := hsz.1 h0
    have HZ : Hid (keyOk s = false) := Lib.hid (by rw [HK.out]; simp [hz])
    clear hsz HK hz
    go_enter Tryz.func44, Tryz.ntmps44
    go_wp2_with fail
    go_ret
    exact ⟨by rw [HZ.out]; simp, Below.refl _ _⟩
  · have hz : s.size ≠ 0 := fun h => h0 (hsz.2 h)
    by_cases h40 : s.size ≤ 40
    · have HZ : Hid (keyOk s = al) := Lib.hid (by rw [HK.out]; simp [hz, h40])
      clear hsz HK hz
      go_enter Tryz.func44, Tryz.ntmps44
      go_wp2_with fail
      refine (HT.out _).mono ?_
      rintro e w1 ⟨rfl, hb1⟩
      have HB1 := Lib.hid hb1
      clear hb1
      by_cases hr : r.toList = []
      · have HA : Hid (al = true) := Lib.hid (HTr.out.1 hr)
        clear HTr
        go_wp2_with fail
        go_ret
        exact ⟨by rw [HZ.out, HA.out]; simp [h0], HB1.out⟩
      · have HA : Hid (al = false) := Lib.hid (by cases al with | false => rfl | true => exact absurd (HTr.out.2 rfl) hr)
        clear HTr
        go_wp2_with fail
        go_ret
        exact ⟨by rw [HZ.out, HA.out]; simp [h0, hr], HB1.out⟩
    · have HZ : Hid (keyOk s = false) := Lib.hid (by rw [HK.out]; simp [h40])
      clear hsz HK hz
      go_enter Tryz.func44, Tryz.ntmps44
      go_wp2_with fail
      go_ret
      exact ⟨by rw [HZ.out]; rfl, Below.refl _ _⟩

set_option maxHeartbeats 800000 in
theorem propTag_any (s : ByteArray) (w : World) (hm : MaxVar w) (hs : s.size < 4294967281) : Calls Tryz.prog 43 #[.string s] w fun e w' => e = .returned (.bool (isTag s)) ∧ Below w.heap.size w w' := by
  have HP := Lib.hid (parse_any s w hm hs)
  have HI : Hid (isTag s = match parseTag s with | some t => eqs (tagText t) s | none => false) := Lib.hid rfl
  have HF : Hid (∀ t, parseTag s = some t → tagFault t = 0) := Lib.hid fun t h => parse_fault h
  go_enter Tryz.func43, Tryz.ntmps43
  go_wp2_with fail
  refine HP.out.mono ?_
  clear HP
  rintro e w1 ⟨hb1, ⟨hn, rfl⟩ | ⟨t, v, hsm, rfl, hl⟩⟩
  · have HB1 := Lib.hid hb1
    have hE : errV 3 = .iface 38 (.int .i64 3) := errV_ne (by decide)
    have HZ : Hid (isTag s = false) := Lib.hid (by rw [HI.out, hn])
    have hs1 := hb1.size
    rw [hE]
    clear hn hb1 hE HI HF
    go_wp2_with fail
    go_ret
    exact ⟨by rw [HZ.out]; rfl, HB1.out.alloc hs1 _⟩
  · have HB1 := Lib.hid hb1
    have hs1 := hb1.size
    have hf := HF.out t hsm
    have HZ : Hid (isTag s = eqs (tagText t) s) := Lib.hid (by rw [HI.out, hsm])
    obtain ⟨A, c, rfl, _⟩ := hl.form
    have HX : Hid (∀ W, Below w1.heap.size w1 W → Calls Tryz.prog 59 #[.agg #[.string t.lang, .string t.script, .string t.region, .slice A t.vars.length c]] W fun e w' => e = .returned (.string (tagText t)) ∧ Below W.heap.size W w') := Lib.hid fun W hW =>
      text_small (t, .slice A t.vars.length c) W (small_of hf) (lo := w.heap.size) ((hl.below Enc.str_laws hW).mono Enc.str_laws (Nat.le_refl _) hW.size)
    clear hsm hb1 HI HF hl hf
    have heq : Hid (eqs (tagText t) s = ((tagText t).toList == s.toList)) := Lib.hid rfl
    generalize tagText t = X at *
    go_wp2_with fail
    refine (HX.out _ ((Below.refl _ _).alloc (Nat.le_refl _) _)).mono ?_
    rintro e w2 ⟨rfl, hb2⟩
    have HB2 := Lib.hid (HB1.out.trans ((((Below.refl w1.heap.size w1).alloc (Nat.le_refl _) _).trans (hb2.mono (by simp))).mono hs1))
    clear hb2 HX
    by_cases he : (X.toList == s.toList) = true
    · go_wp2_with fail
      go_ret
      exact ⟨by rw [HZ.out, heq.out]; simp_all, HB2.out⟩
    · have he' : (X.toList == s.toList) = false := by simpa using he
      clear he
      go_wp2_with fail
      go_ret
      exact ⟨by rw [HZ.out, heq.out]; simp_all, HB2.out⟩
end Go.Proofs.YtiaobgapfoogiaaGreatDoor
