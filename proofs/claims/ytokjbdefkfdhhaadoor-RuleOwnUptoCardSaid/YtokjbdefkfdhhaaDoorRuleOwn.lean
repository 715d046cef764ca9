/- linguisterlaw5.RuleOwn. -/
import Derived.Test.YtokjbdefkfdhhaaDoorParseR
import Derived.Test.YtokjbdefkfdhhaaDoorRuleS
namespace Go.Proofs.YtokjbdefkfdhhaaDoor
open Go.RowKit

theorem own_cell1 {w : World} {base : Nat} {e : TypeId} {A : Option Addr} {n c : Nat} {xs : List Value} (h : w.ownsRow base e 1 (.slice A n c) n xs) (i : Nat) (hi : i < n) : ∃ g u, A = some ⟨g, 0, none⟩ ∧ xs[i]? = some u ∧ w.cell? ⟨g, i, none⟩ = some u := by
  obtain ⟨hlen, ⟨_, h0⟩ | ⟨g, cap, cur, hv, hb, hh, hc, hm, hcs, ht⟩⟩ := h
  · omega
  · injection hv with hv1 hv2 hv3
    have hl : i < xs.length := by omega
    refine ⟨g, xs[i], hv1, List.getElem?_eq_getElem hl, ?_⟩
    have ex : xs[i]? = cur[i]? := by
      rw [← ht, List.getElem?_take, if_pos (by omega)]
      simp
    rw [cell_of_row w g i cur e (0, 0) hh, ← ex]
    exact List.getElem?_eq_getElem hl
theorem SpR.at_ {N : Nat} {W : World} {v : Value} {us : List (List (Rl × Value) × Value)} (h : SpR N W v us) {y : List (Rl × Value) × Value} (hy : y ∈ us) {UA : Option Addr} {Uc b : Nat} (hu : y.2 = .slice UA y.1.length Uc) (hb : b < y.1.length) :
    ∃ g cs, UA = some ⟨g, 0, none⟩ ∧ N ≤ g ∧ Blk W g 36 cs ∧ RelAt N W cs b := by
  obtain ⟨A, c, h1, h2⟩ := h.part y hy
  rw [hu] at h1
  injection h1 with e1 e2 e3
  subst e1
  obtain ⟨g, cs, e4, e5, e6, e7⟩ := h2 (by omega)
  exact ⟨g, cs, e4, e5, e6, e7 b hb⟩
theorem SpR.val {N : Nat} {W : World} {v : Value} {us : List (List (Rl × Value) × Value)} (h : SpR N W v us) {y : List (Rl × Value) × Value} (hy : y ∈ us) : ∃ A c, y.2 = .slice A y.1.length c := by
  obtain ⟨A, c, h1, _⟩ := h.part y hy
  exact ⟨A, c, h1⟩
theorem parseOk_one : ParseOkR [110, 32, 61, 32, 49] := by unfold ParseOkR; decide +kernel
theorem len_one : (ruleOf [110, 32, 61, 32, 49]).length = 1 := by decide +kernel
set_option maxHeartbeats 6400000 in
set_option maxRecDepth 100000 in
theorem ruleOwn_any (s : List UInt8) (o : OpV) (x : Int) (w : World) (hs : s.length ≤ 1048900) (ho : o.Ok) (hv : RV w) (hG : 2 < w.heap.size) :
    Calls Tryd.prog 3 #[.string (str s), .agg #[.int .i64 o.i, .int .i64 o.v, .int .i64 o.w, .int .i64 o.f, .int .i64 o.t], .int .i64 x] w fun e w' => e = .returned (.bool true) ∧ Below w.heap.size w w' := by
  obtain ⟨W1, eW1⟩ : ∃ W1, W1 = w.alloc (.cells #[.int .i64 o.i, .int .i64 o.v, .int .i64 o.w, .int .i64 o.f, .int .i64 o.t] 23) := ⟨_, rfl⟩
  have HB1 : Hid (Below w.heap.size w W1) := Lib.hid (by rw [eW1]; exact (Below.refl _ _).alloc (Nat.le_refl _) _)
  have M1 : Hid (Blk W1 w.heap.size 23 #[.int .i64 o.i, .int .i64 o.v, .int .i64 o.w, .int .i64 o.f, .int .i64 o.t]) := Lib.hid (by rw [eW1]; exact Blk.new _ _ _)
  have HW1 := Lib.hid eW1
  have HP : Hid (∀ W, Below w.heap.size w W → ∀ t : List UInt8, t.length ≤ 1048900 → Calls Tryd.prog 4 #[.string (str t)] W fun e w' => Below W.heap.size W w' ∧
      ((ParseOkR t ∧ ∃ v us, e = .returned (.tuple #[v, .nilIface]) ∧ plainU us = ruleOf t ∧ RuleV W.heap.size w' us v) ∨ (¬ ParseOkR t ∧ e = .returned (.tuple #[.slice none 0 0, .iface 43 (.int .i64 3)])))) := Lib.hid fun W hW t ht => Parse_any t W ht (hv.below hW) (Nat.lt_of_lt_of_le hG hW.size)
  have HP0 : Hid (Calls Tryd.prog 4 #[.string ⟨#[110, 32, 61, 32, 49]⟩] W1 fun e w' => Below W1.heap.size W1 w' ∧
      ((ParseOkR [110, 32, 61, 32, 49] ∧ ∃ v us, e = .returned (.tuple #[v, .nilIface]) ∧ plainU us = ruleOf [110, 32, 61, 32, 49] ∧ RuleV W1.heap.size w' us v) ∨ (¬ ParseOkR [110, 32, 61, 32, 49] ∧ e = .returned (.tuple #[.slice none 0 0, .iface 43 (.int .i64 3)])))) := Lib.hid (HP.out W1 HB1.out [110, 32, 61, 32, 49] (by decide))
  have HVw : Hid (RV w) := Lib.hid hv
  clear eW1 hv
  go_enter Tryd.func3, Tryd.ntmps3
  go_upto_region 1 with fail
  rw [← HW1.out]
  clear HW1
  go_wp2_with fail
  refine HP0.out.mono ?_
  clear HP0
  rintro e w2 ⟨hb2, ⟨_, v0, us0, rfl, hu0, hr0⟩ | ⟨hno, _⟩⟩
  case inr => exact absurd parseOk_one hno
  have h01 : us0.length = 1 := by
    have := congrArg List.length hu0
    rw [len_one] at this
    simpa [plainU] using this
  obtain ⟨A0, c0, rfl, _⟩ := own_slice hr0.row
  rw [h01]
  have HB2 := Lib.hid (HB1.out.trans (hb2.mono HB1.out.size))
  have M2 := Lib.hid (M1.out.below hb2 M1.out.lt)
  have HPs := Lib.hid (HP.out w2 HB2.out s hs)
  clear hb2 hu0 hr0 h01 HB1 M1
  go_wp2_with fail
  refine HPs.out.mono ?_
  clear HPs
  rintro e w3 ⟨hb3, ⟨hok, v, us, rfl, hus, hrv⟩ | ⟨hno, rfl⟩⟩
  case inr =>
    have HB3 := Lib.hid (HB2.out.trans (hb3.mono HB2.out.size))
    clear hb3 HB2 M2
    go_wp2_with fail
    go_ret
    exact ⟨rfl, HB3.out⟩
  have HB3 := Lib.hid (HB2.out.trans (hb3.mono HB2.out.size))
  have M3 := Lib.hid (M2.out.below hb3 M2.out.lt)
  have hrl := rule_len s
  have RIN : Hid (∀ (v : Value) (us : List (List (Rl × Value) × Value)) (N : Nat) (W : World), plainU us = ruleOf s → RuleV N W us v → RuIn W 0 v (ruleOf s)) := Lib.hid fun v us N W hu hr =>
    ⟨by rw [← hu]; exact hr.list (Nat.zero_le _) (Nat.le_refl _), by omega, fun p hp => by have := (hrl.2 p hp).1; omega, fun p hp r hr => by have := (hrl.2 p hp).2 r hr; omega⟩
  have HTx : Hid (∀ (W : World) (v : Value), Below w.heap.size w W → RuIn W 0 v (ruleOf s) → Calls Tryd.prog 5 #[v] W fun e w' => e = .returned (.tuple #[.string (str s), .nilIface]) ∧ Below W.heap.size W w') := Lib.hid fun W v hW hin => by
    have h := Text_any (ruleOf s) v 0 W hin (HVw.out.below hW)
    rw [hok.1, if_pos rfl, hok.2, errR_zero] at h
    exact h
  have HHo : Hid (∀ (W : World) (v : Value), RuIn W 0 v (ruleOf s) → Calls Tryd.prog 6 #[v, .agg #[.int .i64 o.i, .int .i64 o.v, .int .i64 o.w, .int .i64 o.f, .int .i64 o.t]] W fun e w' => e = .returned (.tuple #[.bool (holdR o (ruleOf s)), .nilIface]) ∧ Below W.heap.size W w') := Lib.hid fun W v hin => by
    have h := Holds_any (ruleOf s) v o 0 W hin ho
    rw [hok.1, if_pos rfl, errR_zero] at h
    exact h
  have HOK := Lib.hid hok
  have hwl : us.length ≤ 10000000 := by
    have h1 := congrArg List.length hus
    have h2 : (plainU us).length = us.length := by simp [plainU]
    omega
  have HPL : Hid (∀ y ∈ us, y.1.length ≤ 10000000) := Lib.hid fun y hy => by
    have h1 : y.1.map (·.1) ∈ ruleOf s := by rw [← hus]; exact List.mem_map_of_mem hy
    have h2 := (hrl.2 _ h1).1
    rw [List.length_map] at h2
    omega
  have HSp3 : Hid (SpR w2.heap.size w3 v us) := Lib.hid (hrv.spR (by
    rw [hus]
    intro p hp r hr
    have := (hrl.2 p hp).2 r hr
    omega))
  have hin3 := RIN.out v us _ w3 hus hrv
  generalize holdR o (ruleOf s) = X at *
  obtain ⟨VA, Vc, rfl, _⟩ := own_slice hrv.row
  have HT3 := Lib.hid (HTx.out w3 _ HB3.out hin3)
  have HIn3 := Lib.hid hin3
  have hw2 : w.heap.size ≤ w2.heap.size := HB2.out.size
  clear hb3 hus hrv hrl hin3 hok HB2 M2
  go_wp2_with fail
  refine HT3.out.mono ?_
  clear HT3
  rintro e w4 ⟨rfl, hb4⟩
  have HB4 := Lib.hid (HB3.out.trans (hb4.mono HB3.out.size))
  have M4 := Lib.hid (M3.out.below hb4 M3.out.lt)
  have HSp4 := Lib.hid (HSp3.out.below hb4)
  have HIn4 := Lib.hid (HIn3.out.below hb4)
  have HH4 := Lib.hid (HHo.out w4 _ HIn4.out)
  have a0 := (M4.out.cell 0).trans (show _ = some (.int .i64 o.i) from rfl)
  have a1 := (M4.out.cell 1).trans (show _ = some (.int .i64 o.v) from rfl)
  have a2 := (M4.out.cell 2).trans (show _ = some (.int .i64 o.w) from rfl)
  have a3 := (M4.out.cell 3).trans (show _ = some (.int .i64 o.f) from rfl)
  have a4 := (M4.out.cell 4).trans (show _ = some (.int .i64 o.t) from rfl)
  clear hb4 HSp3 HIn3 HB3 M3
  go_wp2_with fail
  refine HH4.out.mono ?_
  clear HH4
  rintro e w5 ⟨rfl, hb5⟩
  have HB5 := Lib.hid (HB4.out.trans (hb5.mono HB4.out.size))
  have M5 := Lib.hid (M4.out.below hb5 M4.out.lt)
  have HSp5 := Lib.hid (HSp4.out.below hb5)
  have HIn5 := Lib.hid (HIn4.out.below hb5)
  have HT5 := Lib.hid (HTx.out w5 _ HB5.out HIn5.out)
  clear hb5 HSp4 HIn4 HB4 M4 a0 a1 a2 a3 a4
  go_wp2_with fail
  refine HT5.out.mono ?_
  clear HT5
  rintro e w6 ⟨rfl, hb6⟩
  have HB6 := Lib.hid (HB5.out.trans (hb6.mono HB5.out.size))
  have M6 := Lib.hid (M5.out.below hb6 M5.out.lt)
  have HSp6 := Lib.hid (HSp5.out.below hb6)
  clear hb6 HSp5 HIn5 HB5 M5
  go_wp2_with fail
  go_loopw [17, 18, 19] (fun i _ _ wr => ∃ a : Nat, a ≤ us.length ∧ i = .int .i64 (a : Int) ∧ Below w.heap.size w wr ∧ SpR w2.heap.size wr (.slice VA us.length Vc) us ∧ Blk wr w.heap.size 23 #[.int .i64 o.i, .int .i64 o.v, .int .i64 o.w, .int .i64 o.f, .int .i64 o.t]) (fun i _ _ _ => us.length - (intOf i).toNat)
  case atStart => exact ⟨0, Nat.zero_le _, rfl, HB6.out, HSp6.out, M6.out⟩
  case round =>
    obtain ⟨a, ha, rfl, hbl, hsp, hmo⟩ := hrel
    by_cases hlt : a < us.length
    · have i1 : (0 : Int) ≤ (a : Int) := Int.natCast_nonneg a
      have i2 : (a : Int) < (us.length : Int) := by omega
      obtain ⟨ua, hua⟩ : ∃ ua, ua = us[a] := ⟨_, rfl⟩
      have hmem : ua ∈ us := by rw [hua]; exact List.getElem_mem hlt
      obtain ⟨UA, Uc, hu⟩ := hsp.val hmem
      have hpl := HPL.out ua hmem
      obtain ⟨gv, u0, rfl, hx0, _⟩ := own_cell1 hsp.row a hlt
      have HU0 : Hid (∀ W, SpR w2.heap.size W (.slice (some ⟨gv, 0, none⟩) us.length Vc) us → W.cell? ⟨gv, a, none⟩ = some (.slice UA ua.1.length Uc)) := Lib.hid fun W h => by
        obtain ⟨g, u, e1, e2, e3⟩ := own_cell1 h.row a hlt
        injection e1 with e1
        injection e1 with e1
        subst e1
        rw [e3]
        rw [List.getElem?_map, List.getElem?_eq_getElem hlt, ← hua] at e2
        simp only [Option.map_some] at e2
        rw [← e2, hu]
      have HUv := Lib.hid hu
      have HMem := Lib.hid hmem
      have HBl := Lib.hid hbl
      have HSp := Lib.hid hsp
      have HMo := Lib.hid hmo
      obtain ⟨wo, rfl⟩ : ∃ wo : World, wo = wr := ⟨_, rfl⟩
      obtain ⟨pl, hple⟩ : ∃ pl, pl = ua.1.length := ⟨_, rfl⟩
      rw [← hple] at hpl HU0
      have HPle := Lib.hid hple
      clear hbl hsp hmo hmem hu hua hx0 hple
      go_wp2_with fail
      go_loopw [18, 19] (fun k _ wr => ∃ b : Nat, b ≤ pl ∧ k = .int .i64 (b : Int) ∧ Below w.heap.size w wr ∧ SpR w2.heap.size wr (.slice (some ⟨gv, 0, none⟩) us.length Vc) us ∧ Blk wr w.heap.size 23 #[.int .i64 o.i, .int .i64 o.v, .int .i64 o.w, .int .i64 o.f, .int .i64 o.t]) (fun k _ _ => pl - (intOf k).toNat)
      case atStart => exact ⟨0, Nat.zero_le _, rfl, HBl.out, HSp.out, HMo.out⟩
      case round =>
        obtain ⟨b, hb, rfl, hbl, hsp, hmo⟩ := hrel
        have x0 := HU0.out wr hsp
        by_cases hlt2 : b < pl
        · have i3 : (0 : Int) ≤ (b : Int) := Int.natCast_nonneg b
          have i4 : (b : Int) < (pl : Int) := by omega
          obtain ⟨g, cs, rfl, hgN, hgb, q0, q1, q2, V, hq0, hq1, hq2, hq3, hV⟩ := hsp.at_ HMem.out (by rw [HUv.out]) (by rw [← HPle.out]; exact hlt2)
          obtain ⟨PA, m, Pc, rfl, hm, hPA⟩ := hV
          have x3 : wr.cell? ⟨g, b * 4 + 3, none⟩ = some (.slice PA m Pc) := (hgb.cell (b * 4 + 3)).trans hq3
          have hcsz : b * 4 + 3 < cs.size := (Array.getElem?_eq_some_iff.1 hq3).1
          have HBl2 := Lib.hid hbl
          have HSp2 := Lib.hid hsp
          have HMo2 := Lib.hid hmo
          obtain ⟨w9, rfl⟩ : ∃ w9 : World, w9 = wr := ⟨_, rfl⟩
          clear hbl hsp hmo hgb hq0 hq1 hq2 hq3 hPA
          go_wp2_with fail
          go_loopw [19] (fun j wr => ∃ c : Nat, c ≤ m ∧ j = .int .i64 (c : Int) ∧ Below w.heap.size w wr ∧ SpR w2.heap.size wr (.slice (some ⟨gv, 0, none⟩) us.length Vc) us ∧ Blk wr w.heap.size 23 #[.int .i64 o.i, .int .i64 o.v, .int .i64 o.w, .int .i64 o.f, .int .i64 o.t] ∧ wr.cell? ⟨g, b * 4 + 3, none⟩ = some (.slice PA m Pc)) (fun j _ => m - (intOf j).toNat)
          case atStart => exact ⟨0, Nat.zero_le _, rfl, HBl2.out, HSp2.out, HMo2.out, x3⟩
          case round =>
            obtain ⟨c, hc, rfl, hbl, hsp, hmo, hx3⟩ := hrel
            have x0 := HU0.out wr hsp
            obtain ⟨g', cs', eg, hgN', hgb', r0, r1, r2, V', hr0, hr1, hr2, hr3, hV'⟩ := hsp.at_ HMem.out (by rw [HUv.out]) (by rw [← HPle.out]; exact hlt2)
            injection eg with eg
            injection eg with eg
            subst eg
            have hcsz' : b * 4 + 3 < cs'.size := (Array.getElem?_eq_some_iff.1 hr3).1
            have eV : V' = .slice PA m Pc := by
              have h := (hgb'.cell (b * 4 + 3)).trans hr3
              rw [hx3] at h
              injection h with h
              exact h.symm
            subst eV
            have hgw : w.heap.size ≤ g := by omega
            by_cases hlt3 : c < m
            · obtain ⟨PA', m', Pc', eP, _, hP'⟩ := hV'
              injection eP with eP1 eP2 eP3
              subst eP1; subst eP2; subst eP3
              obtain ⟨gp, rfl, hgpN, cs2, hgp, hcs2⟩ := hP' (by omega)
              have y0 : ∃ y, wr.cell? ⟨gp, c * 2, none⟩ = some y := ⟨cs2[c * 2]'(by omega), (hgp.cell (c * 2)).trans (Array.getElem?_eq_getElem (by omega))⟩
              have y1 : ∃ y, wr.cell? ⟨gp, c * 2 + 1, none⟩ = some y := ⟨cs2[c * 2 + 1]'(by omega), (hgp.cell (c * 2 + 1)).trans (Array.getElem?_eq_getElem (by omega))⟩
              obtain ⟨y0, hy0⟩ := y0
              obtain ⟨y1, hy1⟩ := y1
              have f0 := hgp.frozen (c * 2)
              have f1 := hgp.frozen (c * 2 + 1)
              have i5 : (0 : Int) ≤ (c : Int) := Int.natCast_nonneg c
              have i6 : (c : Int) < (m : Int) := by omega
              have hne : g ≠ gp := fun e => by
                subst e
                unfold Blk at hgb' hgp
                rw [hgb'] at hgp
                injection hgp with hgp
                injection hgp with _ hgp
                exact absurd hgp (by decide)
              have hgpw : w.heap.size ≤ gp := by omega
              have HNew : Hid (Below w.heap.size w ((wr.setCell ⟨gp, c * 2, none⟩ (.int .i64 x)).setCell ⟨gp, c * 2 + 1, none⟩ (.int .i64 x)) ∧ SpR w2.heap.size ((wr.setCell ⟨gp, c * 2, none⟩ (.int .i64 x)).setCell ⟨gp, c * 2 + 1, none⟩ (.int .i64 x)) (.slice (some ⟨gv, 0, none⟩) us.length Vc) us ∧
                Blk ((wr.setCell ⟨gp, c * 2, none⟩ (.int .i64 x)).setCell ⟨gp, c * 2 + 1, none⟩ (.int .i64 x)) w.heap.size 23 #[.int .i64 o.i, .int .i64 o.v, .int .i64 o.w, .int .i64 o.f, .int .i64 o.t] ∧
                ((wr.setCell ⟨gp, c * 2, none⟩ (.int .i64 x)).setCell ⟨gp, c * 2 + 1, none⟩ (.int .i64 x)).cell? ⟨g, b * 4 + 3, none⟩ = some (.slice (some ⟨gp, 0, none⟩) m Pc)) := Lib.hid (by
                  have hog : w.heap.size ≠ gp := fun e => by
                    rw [← e] at hgp
                    unfold Blk at hmo hgp
                    rw [hmo] at hgp
                    injection hgp with hgp
                    injection hgp with _ hgp
                    exact absurd hgp (by decide)
                  refine ⟨(hbl.setCell hgpw _).setCell hgpw _, (hsp.setPair hgp _ _).setPair (hgp.set_ _ _) _ _, (hmo.far hog _).far hog _, ?_⟩
                  exact (((hgb'.far hne _).far hne _).cell (b * 4 + 3)).trans hr3)
              clear hbl hsp hmo hgb' hgp hr0 hr1 hr2 hr3 hP' hcs2
              go_wp2_with fail
              go_roundw
              case rel => exact ⟨c + 1, by omega, by go_num, HNew.out⟩
              case measure => simp [intOf]; omega
            · have z0 : ∃ y, wr.cell? ⟨g, b * 4, none⟩ = some y := ⟨_, (hgb'.cell (b * 4)).trans hr0⟩
              have z1 : ∃ y, wr.cell? ⟨g, b * 4 + 1, none⟩ = some y := ⟨_, (hgb'.cell (b * 4 + 1)).trans hr1⟩
              have z2 : ∃ y, wr.cell? ⟨g, b * 4 + 2, none⟩ = some y := ⟨_, (hgb'.cell (b * 4 + 2)).trans hr2⟩
              obtain ⟨z0, hz0⟩ := z0
              obtain ⟨z1, hz1⟩ := z1
              obtain ⟨z2, hz2⟩ := z2
              have f0 := hgb'.frozen (b * 4)
              have f1 := hgb'.frozen (b * 4 + 1)
              have f2 := hgb'.frozen (b * 4 + 2)
              have f3 := hgb'.frozen (b * 4 + 3)
              have HNew : Hid (Below w.heap.size w (zeroR wr g b) ∧ SpR w2.heap.size (zeroR wr g b) (.slice (some ⟨gv, 0, none⟩) us.length Vc) us ∧
                Blk (zeroR wr g b) w.heap.size 23 #[.int .i64 o.i, .int .i64 o.v, .int .i64 o.w, .int .i64 o.f, .int .i64 o.t]) := Lib.hid (by
                  have hog : w.heap.size ≠ g := fun e => by
                    rw [← e] at hgb'
                    unfold Blk at hmo hgb'
                    rw [hmo] at hgb'
                    injection hgb' with hgb'
                    injection hgb' with _ hgb'
                    exact absurd hgb' (by decide)
                  exact ⟨(((hbl.setCell hgw _).setCell hgw _).setCell hgw _).setCell hgw _, hsp.setRel hgb' hcsz', zeroR_far hmo hog⟩)
              have hce : ¬ ((c : Int) < (m : Int)) := by omega
              clear hbl hsp hmo hgb' hr0 hr1 hr2 hr3 hV'
              go_wp2_with fail
              go_roundw
              case rel => exact ⟨b + 1, by omega, by go_num, HNew.out⟩
              case measure => simp [intOf]; omega
        · obtain rfl : b = pl := by omega
          have HBl2 := Lib.hid hbl
          have HSp2 := Lib.hid hsp
          have HMo2 := Lib.hid hmo
          clear hbl hsp hmo
          go_wp2_with fail
          go_roundw
          case rel => exact ⟨a + 1, by omega, by go_num, HBl2.out, HSp2.out, HMo2.out⟩
          case measure => simp [intOf]; omega
    · obtain rfl : a = us.length := by omega
      have hce : ¬ ((us.length : Int) < (us.length : Int)) := by omega
      have HBl := Lib.hid hbl
      have HMo := Lib.hid hmo
      have HPs := Lib.hid (HP.out wr hbl s hs)
      clear hbl hsp hmo HSp6 M6 HB6 HP
      go_wp2_with fail
      refine HPs.out.mono ?_
      clear HPs
      rintro e w7 ⟨hb7, ⟨_, v7, us7, rfl, hu7, hr7⟩ | ⟨hno, _⟩⟩
      case inr => exact absurd HOK.out hno
      have HB7 := Lib.hid (HBl.out.trans (hb7.mono HBl.out.size))
      have M7 := Lib.hid (HMo.out.below hb7 HMo.out.lt)
      have HIn7 := Lib.hid (RIN.out v7 us7 _ w7 hu7 hr7)
      obtain ⟨V7, c7, rfl, _⟩ := own_slice hr7.row
      have HH7 := Lib.hid (HHo.out w7 _ HIn7.out)
      have a0 := (M7.out.cell 0).trans (show _ = some (.int .i64 o.i) from rfl)
      have a1 := (M7.out.cell 1).trans (show _ = some (.int .i64 o.v) from rfl)
      have a2 := (M7.out.cell 2).trans (show _ = some (.int .i64 o.w) from rfl)
      have a3 := (M7.out.cell 3).trans (show _ = some (.int .i64 o.f) from rfl)
      have a4 := (M7.out.cell 4).trans (show _ = some (.int .i64 o.t) from rfl)
      clear hb7 hu7 hr7 HBl HMo
      go_wp2_with fail
      refine HH7.out.mono ?_
      clear HH7
      rintro e w8 ⟨rfl, hb8⟩
      have HB8 := Lib.hid (HB7.out.trans (hb8.mono HB7.out.size))
      have HT8 := Lib.hid (HTx.out w8 _ HB8.out (HIn7.out.below hb8))
      clear hb8 HB7 M7 HIn7 a0 a1 a2 a3 a4
      go_wp2_with fail
      refine HT8.out.mono ?_
      clear HT8
      rintro e w9 ⟨rfl, hb9⟩
      have HB9 := Lib.hid (HB8.out.trans (hb9.mono HB8.out.size))
      clear hb9 HB8
      go_wp2_with fail
      go_ret
      exact ⟨by simp, HB9.out⟩
end Go.Proofs.YtokjbdefkfdhhaaDoor
