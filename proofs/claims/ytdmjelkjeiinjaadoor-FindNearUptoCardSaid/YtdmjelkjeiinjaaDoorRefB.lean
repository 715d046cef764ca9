/- The walk of the document's package: TagFault. -/
import Derived.Test.YtdmjelkjeiinjaaDoorRefA
import Derived.Test.YtdmjelkjeiinjaaDoorTagC
import Derived.Test.YtdmjelkjeiinjaaDoorLists
import Derived.Deep.DeepCutAuto
set_option linter.unusedSimpArgs false
set_option linter.unusedVariables false
namespace Go.Proofs.YtdmjelkjeiinjaaDoor
open Go.RowKit

theorem made_first (s : ByteArray) (h : s.size = 4) : scriptB s = (made isHigh (s.extract 0 1) 1 1 && made isLow (s.extract 1 4) 3 3) := by
  unfold scriptB made
  rw [bts_extract, bts_extract]
  have e1 : ((bts s).take 1).drop 0 = (bts s).take 1 := rfl
  have e2 : ((bts s).take 4).drop 1 = (bts s).drop 1 := by rw [List.take_of_length_le (by rw [bts_len]; omega)]
  have s1 : (s.extract 0 1).size = 1 := by rw [ByteArray.size_extract]; omega
  have s2 : (s.extract 1 4).size = 3 := by rw [ByteArray.size_extract]; omega
  rw [e1, e2, s1, s2, h]
  simp

set_option maxHeartbeats 1600000 in
theorem rfault_any (t : Tg) (v : Value) (w : World) (lo : Nat) (hv : ListOk Enc.str w lo w.heap.size v t.vars) (hn : t.vars.length ≤ 140737488355328) (hvs : ∀ s ∈ t.vars, s.size ≤ 9223372036854775807)
    (hl : t.lang.size ≤ 9223372036854775807) (hs : t.script.size ≤ 9223372036854775807) (hr : t.region.size ≤ 9223372036854775807) :
    Calls Tryd.prog 46 #[.agg #[.string t.lang, .string t.script, .string t.region, v]] w fun e w' => e = .returned (.int .i64 (tagFault t)) ∧ Below w.heap.size w w' := by
  have H0 := Lib.hid (fun W => only_low t.lang 2 3 W hl (by omega) (by omega))
  have H1 := Lib.hid (fun W => only_high (t.script.extract 0 1) 1 1 W (by rw [ByteArray.size_extract]; omega) (by omega) (by omega))
  have H2 := Lib.hid (fun W => only_low (t.script.extract 1 4) 3 3 W (by rw [ByteArray.size_extract]; omega) (by omega) (by omega))
  have H3 := Lib.hid (fun W => only_high t.region 2 2 W hr (by omega) (by omega))
  have H4 := Lib.hid (fun W => only_dig t.region 3 3 W hr (by omega) (by omega))
  have HS := Lib.hid (made_first t.script)
  have HS2 : Hid (t.script.size ≠ 4 → scriptB t.script = false) := Lib.hid (fun h => by unfold scriptB; simp [h])
  have HR : Hid (regionB t.region = (made isHigh t.region 2 2 || made isDig t.region 3 3)) := rfl
  have HH : Hid (headFault t = (!made isLow t.lang 2 3 || (!(eqs t.script ByteArray.empty || scriptB t.script) || !(eqs t.region ByteArray.empty || regionB t.region)))) := Lib.hid (by
    unfold headFault
    cases made isLow t.lang 2 3 <;> cases eqs t.script ByteArray.empty <;> cases scriptB t.script <;> cases eqs t.region ByteArray.empty <;> cases regionB t.region <;> rfl)
  go_enter Tryd.func46, Tryd.ntmps46
  go_upto_region 1 with fail
  go_cut [3] (fun c wx => c = .bool (eqs t.script ByteArray.empty || scriptB t.script) ∧ ∃ n, wx = (w.alloc (.cells #[.string t.lang, .string t.script, .string t.region, v] 24)).drewN n)
  case first =>
    clear H0 H3 H4 HR HH
    generalize made isHigh (t.script.extract 0 1) 1 1 = m1 at H1 HS
    generalize made isLow (t.script.extract 1 4) 3 3 = m2 at H2 HS
    by_cases a : t.script.toList = []
    · have A := eqs_nil a
      go_wp2_with fail
      go_meet
      case rel => exact ⟨by rw [A.out]; rfl, 0, rfl⟩
    · have A := eqs_not_nil a
      have AI : Hid (t.script.toList.isEmpty = false) := Lib.hid (by simpa using a)
      by_cases b : t.script.size = 4
      · have HS' := Lib.hid (HS.out b)
        clear HS HS2
        go_wp2_with fail
        refine (H1.out _).mono ?_
        rintro e w1 ⟨rfl, n1, rfl⟩
        cases m1 with
        | false =>
          go_wp2_with fail
          go_meet
          case rel => exact ⟨by rw [A.out, HS'.out, AI.out]; rfl, n1, rfl⟩
        | true =>
          go_wp2_with fail
          refine (H2.out _).mono ?_
          rintro e w1 ⟨rfl, n2, rfl⟩
          go_wp2_with fail
          go_meet
          case rel => exact ⟨by rw [A.out, HS'.out, AI.out]; rfl, _, rfl⟩
      · have HS' := Lib.hid (HS2.out b)
        clear HS HS2
        go_wp2_with fail
        go_meet
        case rel => exact ⟨by rw [A.out, HS'.out, AI.out]; rfl, 0, rfl⟩
  case rest =>
    obtain ⟨rfl, n0, rfl⟩ := hcut
    clear H1 H2 HS HS2
    go_upto_region 2 with fail
    go_cut [4] (fun c wx => c = .bool (eqs t.region ByteArray.empty || regionB t.region) ∧ ∃ n, wx = (w.alloc (.cells #[.string t.lang, .string t.script, .string t.region, v] 24)).drewN n)
    case first =>
      clear H0 HH
      generalize made isHigh t.region 2 2 = m1 at H3 HR
      generalize made isDig t.region 3 3 = m2 at H4 HR
      by_cases a : t.region.toList = []
      · have A := eqs_nil a
        go_wp2_with fail
        go_meet
        case rel => exact ⟨by rw [A.out]; rfl, n0, rfl⟩
      · have A := eqs_not_nil a
        have AI : Hid (t.region.toList.isEmpty = false) := Lib.hid (by simpa using a)
        go_wp2_with fail
        refine (H3.out _).mono ?_
        rintro e w1 ⟨rfl, n1, rfl⟩
        cases m1 with
        | true =>
          go_wp2_with fail
          go_meet
          case rel => exact ⟨by rw [A.out, HR.out]; first | rfl | (rw [AI.out]; rfl), _, rfl⟩
        | false =>
          go_wp2_with fail
          refine (H4.out _).mono ?_
          rintro e w1 ⟨rfl, n2, rfl⟩
          go_wp2_with fail
          go_meet
          case rel => exact ⟨by rw [A.out, HR.out]; first | rfl | (rw [AI.out]; rfl), _, rfl⟩
    case rest =>
      obtain ⟨rfl, n1, rfl⟩ := hcut
      clear H3 H4 HR
      go_upto_region 3 with fail
      go_cut [3, 4, 51] (fun _ _ c wx => c = .bool (headFault t) ∧ ∃ n, wx = (w.alloc (.cells #[.string t.lang, .string t.script, .string t.region, v] 24)).drewN n)
      case first =>
        generalize made isLow t.lang 2 3 = m1 at H0 HH
        generalize (eqs t.script ByteArray.empty || scriptB t.script) = m2 at HH ⊢
        generalize (eqs t.region ByteArray.empty || regionB t.region) = m3 at HH ⊢
        go_wp2_with fail
        refine (H0.out _).mono ?_
        rintro e w1 ⟨rfl, n2, rfl⟩
        cases m1
        all_goals
          go_wp2_with fail
          all_goals
            go_meet
            case rel => exact ⟨by rw [HH.out]; cases m2 <;> cases m3 <;> simp_all, _, rfl⟩
      case rest =>
        obtain ⟨rfl, n2, rfl⟩ := hcut
        clear H0
        cases hf : headFault t with
        | true =>
          have hT : Hid (tagFault t = 3) := fault_head hf
          clear HH
          go_wp2_with fail
          go_ret
          exact ⟨by rw [hT.out]; rfl, below_drewN ((Below.refl _ _).alloc (Nat.le_refl _) _) _⟩
        | false =>
          obtain ⟨A, c, rfl, hc⟩ := hv.form
          clear HH
          have HF := Lib.hid hf
          clear hf
          obtain ⟨W1, eW⟩ : ∃ W1, W1 = w.alloc (.cells #[.string t.lang, .string t.script, .string t.region, .slice A t.vars.length c] 24) := ⟨_, rfl⟩
          have HM : Blk W1 w.heap.size 24 #[.string t.lang, .string t.script, .string t.region, .slice A t.vars.length c] := by rw [eW]; exact Blk.new _ _ _
          have HBW : Hid (Below w.heap.size w W1) := Lib.hid (by rw [eW]; exact (Below.refl _ _).alloc (Nat.le_refl _) _)
          have HV : Hid (ListOk Enc.str W1 lo w.heap.size (.slice A t.vars.length c) t.vars) := Lib.hid (hv.below Enc.str_laws HBW.out)
          rw [← eW]
          clear eW hv
          have k3 := fun n => (HM.drewN n).cell 3
          simp only [List.getElem?_toArray, List.getElem?_cons_succ, List.getElem?_cons_zero] at k3
          clear HM
          go_wp2_with fail
          go_loopw [5] (fun i wr => ∃ j : Nat, j ≤ t.vars.length ∧ i = .int .i64 j ∧ (∀ q, q < j → varAt t.vars q = 0) ∧ ∃ n, wr = W1.drewN n) (fun i _ => t.vars.length - (intOf i).toNat)
          case atStart => exact ⟨0, Nat.zero_le _, rfl, fun _ h => absurd h (by omega), _, rfl⟩
          case round =>
            obtain ⟨j, hj, rfl, hno0, n3, rfl⟩ := hrel
            have hno := Lib.hid hno0
            clear hno0
            have k3' := k3 n3
            by_cases hlt : j < t.vars.length
            · obtain ⟨b, o, rfl, h1, h2, hcell⟩ := (HV.out.keep Enc.str_laws (Alk.of_below (below_drewN (Below.refl w.heap.size W1) n3))).strAt j hlt
              have H4 := Lib.hid (fun W => only_both t.vars[j] 5 8 W (hvs _ (List.getElem_mem hlt)) (by omega) (by omega))
              have H5 : Hid (∀ m, Calls Tryd.prog 64 #[.slice (some ⟨b, o, none⟩) j c, .string t.vars[j]] (W1.drewN m) fun e w' => e = .returned (.bool ((t.vars.take j).any (eqs · t.vars[j]))) ∧ W1.drewN m = w') := Lib.hid (fun m => by
                have hk := (HV.out.keep Enc.str_laws (Alk.of_below (below_drewN (Below.refl w.heap.size W1) m))).take j (by omega)
                exact in_any _ _ _ _ _ _ hk (by rw [List.length_take]; omega))
              have hgd : t.vars.getD j ByteArray.empty = t.vars[j] := by rw [List.getD_eq_getElem?_getD, List.getElem?_eq_getElem hlt]; rfl
              have hva : Hid (varAt t.vars j = if made isBoth t.vars[j] 5 8 then (if (t.vars.take j).any (eqs · t.vars[j]) then 5 else 0) else 3) := by
                show varAt t.vars j = _
                unfold varAt
                rw [hgd]
              clear hgd
              generalize made isBoth t.vars[j] 5 8 = m at H4 hva
              generalize (t.vars.take j).any (eqs · t.vars[j]) = k at H5 hva
              go_wp2_with fail
              refine (H4.out _).mono ?_
              rintro e w1 ⟨rfl, n4, e4⟩
              obtain ⟨n5, rfl⟩ : ∃ n5, w1 = W1.drewN n5 := ⟨n3 + n4, by rw [e4, World.drewN_drewN]⟩
              have k4 := k3 n5
              have c5 : (W1.drewN n5).cell? ⟨b, o + j, none⟩ = some (.string t.vars[j]) := hcell
              clear e4 hcell k3' H4
              cases m with
              | false =>
                have hT := Lib.hid (tag_bad HF.out j hlt hno.out (by rw [hva.out]; simp))
                go_wp2_with fail
                go_ret
                exact ⟨by rw [hT.out, hva.out]; rfl, below_drewN HBW.out _⟩
              | true =>
                go_wp2_with fail
                have c6 : W1.cell? ⟨b, o + j, none⟩ = some (.string t.vars[j]) := c5
                have k6 : W1.cell? ⟨w.heap.size, 3, none⟩ = some (.slice (some ⟨b, o, none⟩) t.vars.length c) := k4
                have hjc : j ≤ c := by omega
                go_quiet ((go_at_call 64; exact quiet_add_left (H5.out _)))
                cases k with
                | true =>
                  have hT := Lib.hid (tag_bad HF.out j hlt hno.out (by rw [hva.out]; simp))
                  go_wp2_with fail
                  go_ret
                  exact ⟨by rw [hT.out, hva.out]; rfl, below_drewN HBW.out _⟩
                | false =>
                  go_wp2_with fail
                  go_roundw
                  case rel => exact ⟨j + 1, by omega, by go_num, fun q hq => by
                    rcases Nat.lt_or_eq_of_le (Nat.le_of_lt_succ hq) with h | h
                    · exact hno.out q h
                    · subst h; rw [hva.out]; rfl, _, rfl⟩
                  case measure => simp [intOf]; omega
            · have hall : ∀ q, q < t.vars.length → varAt t.vars q = 0 := fun q h => hno.out q (by omega)
              have hT := Lib.hid (tag_ok HF.out hall)
              go_wp2_with fail
              · have h3 : 3 < (t.vars.length : Int) := by assumption
                go_ret
                exact ⟨by rw [hT.out, if_pos (by omega)]; rfl, below_drewN HBW.out _⟩
              · have h3 : (t.vars.length : Int) ≤ 3 := by assumption
                go_ret
                exact ⟨by rw [hT.out, if_neg (by omega)]; rfl, below_drewN HBW.out _⟩
end Go.Proofs.YtdmjelkjeiinjaaDoor
