/- The walk of package chain: Within; of package pick: All. -/
import Derived.Test.YtdmjelkjeiinjaaDoorPickP
import Derived.Deep.RegionHeld3
set_option linter.unusedSimpArgs false
set_option linter.unusedVariables false
namespace Go.Proofs.YtdmjelkjeiinjaaDoor
open Go.RowKit

set_option maxHeartbeats 1600000 in
theorem within_any (p q : Tg × Value) (w : World) (hp : TagIn w p) (hq : TagIn w q) (fp : tagFault p.1 = 0) (fq : tagFault q.1 = 0) :
    Calls Tryd.prog 36 #[.agg #[.string p.1.lang, .string p.1.script, .string p.1.region, p.2], .agg #[.string q.1.lang, .string q.1.script, .string q.1.region, q.2]] w fun e w' =>
      Below w.heap.size w w' ∧ ∃ b, e = .returned (.tuple #[.bool b, .nilIface]) := by
  have HC : Hid (∀ W, Below w.heap.size w W → Calls Tryd.prog 8 #[.agg #[.string p.1.lang, .string p.1.script, .string p.1.region, p.2]] W fun e w' => Below W.heap.size W w' ∧ ∃ u, e = .returned (.tuple #[u, .nilIface]) ∧ TagRow W.heap.size w' u (chainOf p.1)) := fun W hW => chain_ok p W (hp.below hW) fp
  have HK : Hid (∀ W, Below w.heap.size w W → Calls Tryd.prog 23 #[.agg #[.string q.1.lang, .string q.1.script, .string q.1.region, q.2]] W fun e w' => e = .returned .nilIface ∧ Below W.heap.size W w') := fun W hW => by
    have := check_in (hq.below hW)
    rw [fq] at this; exact this
  have HQ : Hid (∀ W, Below w.heap.size w W → Calls Tryd.prog 32 #[.agg #[.string q.1.lang, .string q.1.script, .string q.1.region, q.2]] W fun e w' => e = .returned (.string (tagText q.1)) ∧ Below W.heap.size W w') := fun W hW => text_ok q W (hq.below hW) fq
  have HSm := Lib.hid (small_chain (small_of fp))
  have hc6 : (chainOf p.1).length ≤ 6 := chain_six (small_of fp)
  obtain ⟨A1, c1, hV1, _⟩ := (Classical.choose_spec hp.lo).form
  obtain ⟨A2, c2, hV2, _⟩ := (Classical.choose_spec hq.lo).form
  obtain ⟨⟨pl, ps, pr, pv⟩, V1⟩ := p
  obtain ⟨⟨ql, qs, qr, qv⟩, V2⟩ := q
  dsimp only at hV1 hV2
  subst hV1; subst hV2
  dsimp only at HC HK HQ HSm hc6 ⊢
  generalize chainOf ⟨pl, ps, pr, pv⟩ = C at *
  generalize tagText ⟨ql, qs, qr, qv⟩ = Y at *
  clear hp hq fp fq
  go_enter Tryd.func36, Tryd.ntmps36
  go_wp2_with fail
  refine (HC.out _ (((Below.refl _ _).alloc (Nat.le_refl _) _).alloc (by simp) _)).mono ?_
  clear HC
  rintro e w3 ⟨hb3, u, rfl, hrow⟩
  have m3 : Blk w3 (w.heap.size + 1) 24 #[.string ql, .string qs, .string qr, .slice A2 qv.length c2] := by
    have := Blk.new (w.alloc (.cells #[.string pl, .string ps, .string pr, .slice A1 pv.length c1] 24)) 24 #[.string ql, .string qs, .string qr, .slice A2 qv.length c2]
    rw [World.size_alloc] at this
    exact this.below hb3 (by simp)
  have hb3w : Below w.heap.size w w3 := (((Below.refl w.heap.size w).alloc (Nat.le_refl _) _).alloc (by simp) _).trans (hb3.mono (by simp; omega))
  have HB3 := Lib.hid hb3w
  have hcl := hrow.list (lo := 0) (hi := w3.heap.size) (Nat.zero_le _) (Nat.le_refl _)
  obtain ⟨A4, c4, rfl, _⟩ := hcl.form
  have HCl := Lib.hid hcl
  have HM3 := Lib.hid m3
  have k0 := m3.cell 0
  have k1 := m3.cell 1
  have k2 := m3.cell 2
  have k3 := m3.cell 3
  have hw3 := m3.lt
  simp at k0 k1 k2 k3
  clear hb3 hb3w hrow hcl m3
  go_wp2_with fail
  refine (HK.out _ HB3.out).mono ?_
  clear HK k0 k1 k2 k3
  rintro e w4 ⟨rfl, hb4⟩
  have HB4 := Lib.hid hb4
  clear hb4
  have hs4 := HB4.out.size
  go_wp2_with fail
  go_loopw [10, 26] (fun _ i wr => ∃ q : Nat, q ≤ C.length ∧ i = .int .i64 q ∧ Below w4.heap.size w4 wr) (fun _ i _ => C.length - (intOf i).toNat)
  case atStart => exact ⟨0, Nat.zero_le _, rfl, Below.refl _ _⟩
  case round =>
    obtain ⟨q, hq, rfl, hbr⟩ := hrel
    have HBr := Lib.hid hbr
    have hbs := hbr.size
    clear hbr
    by_cases hql : q < C.length
    · have hcw := (HCl.out.below Enc.tag_laws HB4.out).keep Enc.tag_laws (Alk.mono (Alk.of_below HBr.out) (Nat.zero_le _) hs4)
      obtain ⟨b4, o4, V4, rfl, _, p4, x0, x1, x2, x3, xl⟩ := hcw.tagAt q hql
      have hsm := HSm.out _ (List.getElem_mem hql)
      generalize C[q] = y at *
      obtain ⟨A5, c5, rfl, _⟩ := xl.form
      have HTx : Hid (∀ W, Below wr.heap.size wr W → Calls Tryd.prog 32 #[.agg #[.string y.lang, .string y.script, .string y.region, .slice A5 y.vars.length c5]] W fun e w' => e = .returned (.string (tagText y)) ∧ Below W.heap.size W w') := fun W hW =>
        text_small (y, .slice A5 y.vars.length c5) W hsm (lo := 0) ((xl.keep Enc.str_laws (Alk.mono (Alk.of_below hW) (Nat.zero_le _) (by omega))).mono Enc.str_laws (Nat.le_refl _) (by have := hW.size; omega))
      have HQx : Hid (∀ W, Below wr.heap.size wr W → Calls Tryd.prog 32 #[.agg #[.string ql, .string qs, .string qr, .slice A2 qv.length c2]] W fun e w' => e = .returned (.string Y) ∧ Below W.heap.size W w') := fun W hW =>
        HQ.out W (HB3.out.trans ((HB4.out.trans ((HBr.out.trans (hW.mono hbs)).mono hs4)).mono HB3.out.size))
      have HBoth : Hid (∀ W a b c V, Below wr.heap.size wr W → ((a = y.lang ∧ b = y.script ∧ c = y.region ∧ V = .slice A5 y.vars.length c5) ∨ (a = ql ∧ b = qs ∧ c = qr ∧ V = .slice A2 qv.length c2)) → Calls Tryd.prog 32 #[.agg #[.string a, .string b, .string c, V]] W fun e w' => ∃ s, e = .returned (.string s) ∧ Below W.heap.size W w') := fun W a b c V hW h => by
        rcases h with ⟨rfl, rfl, rfl, rfl⟩ | ⟨rfl, rfl, rfl, rfl⟩
        · exact (HTx.out W hW).mono fun e w' h => ⟨_, h⟩
        · exact (HQx.out W hW).mono fun e w' h => ⟨_, h⟩
      have m := (HM3.out.below HB4.out hw3).below HBr.out (by omega)
      have k0 := m.cell 0
      have k1 := m.cell 1
      have k2 := m.cell 2
      have k3 := m.cell 3
      simp at k0 k1 k2 k3
      obtain ⟨yl, ys, yr, yv⟩ := y
      dsimp only at x0 x1 x2 x3 HBoth
      have hb4w : b4 < wr.heap.size := by omega
      have hww : w.heap.size + 1 < wr.heap.size := by omega
      clear hcw xl hsm m HTx HQx
      go_wp2_with fail
      obtain ⟨Wb, hWb⟩ : ∃ Wb, Wb = wr.alloc (.cells #[.string yl, .string ys, .string yr, .slice A5 yv.length c5] 24) := ⟨_, rfl⟩
      obtain ⟨n10, hn10⟩ : ∃ n10, n10 = wr.heap.size := ⟨_, rfl⟩
      have my : Blk Wb n10 24 #[.string yl, .string ys, .string yr, .slice A5 yv.length c5] := by rw [hWb, hn10]; exact Blk.new _ _ _
      have hS : Wb.cell? ⟨n10, 0, none⟩ = some (.string yl) ∧ Wb.cell? ⟨n10, 1, none⟩ = some (.string ys) ∧ Wb.cell? ⟨n10, 2, none⟩ = some (.string yr) ∧ Wb.cell? ⟨n10, 3, none⟩ = some (.slice A5 yv.length c5) ∧ Wb.cell? ⟨w.heap.size + 1, 0, none⟩ = some (.string ql) ∧ Wb.cell? ⟨w.heap.size + 1, 1, none⟩ = some (.string qs) ∧ Wb.cell? ⟨w.heap.size + 1, 2, none⟩ = some (.string qr) ∧ Wb.cell? ⟨w.heap.size + 1, 3, none⟩ = some (.slice A2 qv.length c2) := by
        have hkb : ∀ o, Wb.cell? ⟨w.heap.size + 1, o, none⟩ = wr.cell? ⟨w.heap.size + 1, o, none⟩ := fun o => by rw [hWb]; exact World.cell?_alloc_lt _ _ _ hww
        have y0 := my.cell 0
        have y1 := my.cell 1
        have y2 := my.cell 2
        have y3 := my.cell 3
        simp at y0 y1 y2 y3
        exact ⟨y0, y1, y2, y3, (hkb 0).trans k0, (hkb 1).trans k1, (hkb 2).trans k2, (hkb 3).trans k3⟩
      have hbk : Below wr.heap.size wr Wb := by rw [hWb]; exact (Below.refl _ _).alloc (Nat.le_refl _) _
      have hsb : n10 < Wb.heap.size := by rw [hWb, hn10]; simp
      have hle : n10 ≤ wr.heap.size := Nat.le_of_eq hn10
      rw [← hWb, ← hn10]
      rw [← hn10] at hbk HBoth hww hb4w hbs
      clear hWb hn10 k0 k1 k2 k3 x0 x1 x2 x3 my HM3
      go_region_held3 (fun w' => w'.cell? ⟨n10, 0, none⟩ = some (.string yl) ∧ w'.cell? ⟨n10, 1, none⟩ = some (.string ys) ∧ w'.cell? ⟨n10, 2, none⟩ = some (.string yr) ∧ w'.cell? ⟨n10, 3, none⟩ = some (.slice A5 yv.length c5) ∧ w'.cell? ⟨w.heap.size + 1, 0, none⟩ = some (.string ql) ∧ w'.cell? ⟨w.heap.size + 1, 1, none⟩ = some (.string qs) ∧ w'.cell? ⟨w.heap.size + 1, 2, none⟩ = some (.string qr) ∧ w'.cell? ⟨w.heap.size + 1, 3, none⟩ = some (.slice A2 qv.length c2)) (first | exact hS | assumption)
        (first
          | (go_at_call 32
             refine (HBoth.out _ _ _ _ _ (by first | exact hbk.drew | exact hbk) (by first | exact .inl ⟨rfl, rfl, rfl, rfl⟩ | exact .inr ⟨rfl, rfl, rfl, rfl⟩)).mono ?_
             rintro e w5 ⟨s5, rfl, hb5⟩
             have hS : w5.cell? ⟨n10, 0, none⟩ = some (.string yl) ∧ w5.cell? ⟨n10, 1, none⟩ = some (.string ys) ∧ w5.cell? ⟨n10, 2, none⟩ = some (.string yr) ∧ w5.cell? ⟨n10, 3, none⟩ = some (.slice A5 yv.length c5) ∧ w5.cell? ⟨w.heap.size + 1, 0, none⟩ = some (.string ql) ∧ w5.cell? ⟨w.heap.size + 1, 1, none⟩ = some (.string qs) ∧ w5.cell? ⟨w.heap.size + 1, 2, none⟩ = some (.string qr) ∧ w5.cell? ⟨w.heap.size + 1, 3, none⟩ = some (.slice A2 qv.length c2) := ⟨(hb5.cell (p := ⟨n10, 0, none⟩) hsb).trans hS.1, (hb5.cell (p := ⟨n10, 1, none⟩) hsb).trans hS.2.1, (hb5.cell (p := ⟨n10, 2, none⟩) hsb).trans hS.2.2.1, (hb5.cell (p := ⟨n10, 3, none⟩) hsb).trans hS.2.2.2.1, (hb5.cell (p := ⟨w.heap.size + 1, 0, none⟩) (Nat.lt_trans hww hsb)).trans hS.2.2.2.2.1, (hb5.cell (p := ⟨w.heap.size + 1, 1, none⟩) (Nat.lt_trans hww hsb)).trans hS.2.2.2.2.2.1, (hb5.cell (p := ⟨w.heap.size + 1, 2, none⟩) (Nat.lt_trans hww hsb)).trans hS.2.2.2.2.2.2.1, (hb5.cell (p := ⟨w.heap.size + 1, 3, none⟩) (Nat.lt_trans hww hsb)).trans hS.2.2.2.2.2.2.2⟩
             have hbk : Below n10 wr w5 := (by first | exact hbk.drew.trans (hb5.mono (Nat.le_trans hle hbk.size)) | exact hbk.trans (hb5.mono (Nat.le_trans hle hbk.size)))
             have hsb : n10 < w5.heap.size := Nat.lt_of_lt_of_le hsb hb5.size))
      have HBK := Lib.hid hbk
      have HBx := Lib.hid (HBr.out.trans (HBK.out.mono hbs))
      clear hS hbk hsb
      go_wp2_with fail
      · go_ret2
        exact ⟨HB3.out.trans ((HB4.out.trans (HBx.out.mono hs4)).mono HB3.out.size), _, rfl⟩
      · exact ⟨⟨q + 1, by omega, by go_num, HBx.out⟩, by simp [intOf]; omega⟩
    · obtain rfl : q = C.length := by omega
      have HBx := Lib.hid (HB3.out.trans ((HB4.out.trans (HBr.out.mono hs4)).mono HB3.out.size))
      go_wp2_with fail
      go_ret2
      exact ⟨HBx.out, _, rfl⟩

theorem info_int : (Tryd.prog.info? 3).map (fun i => (i.zero, i.size, i.bytes)) = some (some (.int .i64 0), 1, 8) := by kernel_rfl
set_option maxHeartbeats 3200000 in
theorem all_any (p : Tg × Value) (l : List Tg) (vl : Value) (w : World) (hp : TagIn w p) (hl : TagsIn w vl l) :
    Calls Tryd.prog 13 #[.agg #[.string p.1.lang, .string p.1.script, .string p.1.region, p.2], vl] w fun e w' =>
      Below w.heap.size w w' ∧ ∃ v n xs f, e = .returned (.tuple #[v, errV f]) ∧ w'.ownsRow w.heap.size 3 1 v n xs := by
  have HP := Lib.hid hp
  have HL := Lib.hid hl
  have HK : Hid (∀ W, Below w.heap.size w W → Calls Tryd.prog 23 #[.agg #[.string p.1.lang, .string p.1.script, .string p.1.region, p.2]] W fun e w' => e = .returned (errV (tagFault p.1)) ∧ Below W.heap.size W w') := fun W hW => check_in (hp.below hW)
  have HN : Hid (∀ W, Below w.heap.size w W → Calls Tryd.prog 34 #[vl] W fun e w' => Below W.heap.size W w' ∧ ((namesF l ≠ 0 ∧ e = .returned (.tuple #[.slice none 0 0, errV (namesF l)])) ∨
      (namesF l = 0 ∧ ∃ u, e = .returned (.tuple #[u, .nilIface]) ∧ w'.ownsRow W.heap.size 9 1 u l.length ((l.map tagText).map .string)))) := fun W hW => names_any l vl W (hl.below hW)
  have hlen : l.length * 72 ≤ 140737488355328 := hl.len
  obtain ⟨A1, c1, hV1, _⟩ := (Classical.choose_spec hp.lo).form
  obtain ⟨A2, c2, hV2, _⟩ := (Classical.choose_spec hl.lo).form
  obtain ⟨⟨pl, ps, pr, pv⟩, V1⟩ := p
  dsimp only at hV1
  subst hV1; subst hV2
  dsimp only at HK ⊢
  clear hp hl
  go_enter Tryd.func13, Tryd.ntmps13
  go_wp2_with fail
  by_cases hf : tagFault ⟨pl, ps, pr, pv⟩ = 0
  · have HF := Lib.hid hf
    rw [hf, errV_zero] at HK
    refine (HK.out _ ((Below.refl _ _).alloc (Nat.le_refl _) _)).mono ?_
    rintro e w1 ⟨rfl, hb1⟩
    have m1 : Blk w1 w.heap.size 24 #[.string pl, .string ps, .string pr, .slice A1 pv.length c1] := (Blk.new _ _ _).below hb1 (by simp)
    have HB1 := Lib.hid (((Below.refl w.heap.size w).alloc (Nat.le_refl _) _).trans (hb1.mono (by simp)))
    have HM1 := Lib.hid m1
    have hw1 := m1.lt
    clear hb1 HK hf m1
    go_wp2_with fail
    refine (HN.out _ HB1.out).mono ?_
    rintro e w2 ⟨hb2, ⟨hf2, rfl⟩ | ⟨hf2, u2, rfl, _⟩⟩
    · have HB2 := Lib.hid (HB1.out.trans (hb2.mono HB1.out.size))
      have HE := Lib.hid (errV_ne hf2)
      rw [HE.out]
      clear hb2 hf2 HN
      go_wp2_with fail
      go_ret2
      exact ⟨HB2.out, _, 0, [], namesF l, by rw [HE.out]; rfl, own_nil⟩
    · have HB12 := Lib.hid hb2
      have hs2 := hb2.size
      have HB2 := Lib.hid (HB1.out.trans (hb2.mono HB1.out.size))
      have HAll := Lib.hid (namesF_all hf2)
      clear hb2 hf2 HN
      go_wp2_with fail
      go_loopw [9, 10, 11, 12, 13, 29] (fun o _ _ _ _ i wr => ∃ (j n : Nat) (xs : List Value), j ≤ l.length ∧ i = .int .i64 j ∧ n ≤ j ∧ wr.ownsRow w2.heap.size 3 1 o n xs ∧ Below w2.heap.size w2 wr) (fun _ _ _ _ _ i _ => l.length - (intOf i).toNat)
      case atStart => exact ⟨0, 0, [], Nat.zero_le _, rfl, Nat.le_refl _, own_nil, Below.refl _ _⟩
      case round =>
        obtain ⟨j, n, xs, hj, rfl, hn, hown, hbr⟩ := hrel
        obtain ⟨Ao, co, rfl, _⟩ := own_slice hown
        have HO := Lib.hid hown
        have HBr := Lib.hid hbr
        have hbs := hbr.size
        clear hown hbr
        by_cases hlt : j < l.length
        · obtain ⟨b, o, V, rfl, hbl, x0, x1, x2, x3, hin⟩ := ((HL.out.below HB2.out).below HBr.out).tagAt j hlt
          have hft : tagFault l[j] = 0 := HAll.out _ (List.getElem_mem hlt)
          have HIn := Lib.hid hin
          generalize l[j] = t at *
          obtain ⟨A4, c4, hV, _⟩ := (Classical.choose_spec HIn.out.lo).form
          dsimp only at hV
          subst hV
          have HWi : Hid (∀ W, Below wr.heap.size wr W → Calls Tryd.prog 36 #[.agg #[.string t.lang, .string t.script, .string t.region, .slice A4 t.vars.length c4], .agg #[.string pl, .string ps, .string pr, .slice A1 pv.length c1]] W fun e w' => Below W.heap.size W w' ∧ ∃ b, e = .returned (.tuple #[.bool b, .nilIface])) := fun W hW =>
            within_any (t, .slice A4 t.vars.length c4) (⟨pl, ps, pr, pv⟩, .slice A1 pv.length c1) W (HIn.out.below hW) (((HP.out.below HB2.out).below HBr.out).below hW) hft HF.out
          have m := ((HM1.out.below HB12.out hw1).below HBr.out (by omega)).alloc (.cells #[.string t.lang, .string t.script, .string t.region, .slice A4 t.vars.length c4] 24)
          have k0 := m.cell 0
          have k1 := m.cell 1
          have k2 := m.cell 2
          have k3 := m.cell 3
          have hww : w.heap.size < wr.heap.size := by omega
          obtain ⟨tl, ts, tr, tv⟩ := t
          dsimp only at x0 x1 x2 x3 HWi k0 k1 k2 k3
          simp at k0 k1 k2 k3
          clear hin hft m HIn
          rw [World.cell?_alloc_lt _ _ _ hww] at k0 k1 k2 k3
          go_wp2_with fail
          refine (HWi.out _ ((Below.refl _ _).alloc (Nat.le_refl _) _)).mono ?_
          clear HWi
          rintro e w5 ⟨hb5, b5, rfl⟩
          have hb5w : Below wr.heap.size wr w5 := ((Below.refl wr.heap.size wr).alloc (Nat.le_refl _) _).trans (hb5.mono (by simp))
          have HB5 := Lib.hid (HBr.out.trans (hb5w.mono hbs))
          have hs5 := HB5.out.size
          have HO5 := Lib.hid (own_below HO.out hb5w (Nat.le_refl _))
          clear hb5 hb5w HO k0 k1 k2 k3 x0 x1 x2 x3
          cases b5 with
          | false =>
            go_wp2_with fail
            exact ⟨⟨j + 1, n, xs, by omega, by go_num, by omega, HO5.out, HB5.out⟩, by simp [intOf]; omega⟩
          | true =>
            have hnX : ∀ q u, ([Value.int .i64 j] : List Value)[q]? = some u → (w5.alloc (.cells #[.int .i64 j] 3)).cell? ⟨w5.heap.size, 0 + q, none⟩ = some u := fun q u hq => by
              rw [Nat.zero_add, (Blk.new w5 3 #[.int .i64 j]).cell q]; simpa using hq
            have HnX := Lib.hid hnX
            have HoX := Lib.hid (own_keep (w' := w5.alloc (.cells #[.int .i64 j] 3)) HO5.out (fun g _ hg => Below.heap_alloc _ _ _ hg))
            clear hnX HO5
            go_wp2_with (at_builtin; refine wpList_append_any rfl _ _ 38 rfl w2.heap.size 3 Tryd.underlying38 info_int rfl (by decide) xs rfl HoX.out [.int .i64 j] rfl rfl (.inr ⟨_, _, rfl, HnX.out⟩) (by simp [Value.oneCell']) (by unfold maxLen; omega) (by omega) (by simp; omega) ?_)
            intro v3 w3 hown3 hgrow3 _
            have HO3 := Lib.hid hown3
            have hbb : Below w2.heap.size w2 w3 := (HB5.out.alloc hs5 _).grown hgrow3 (by simp; omega) (fun k hk => (own_lt HoX.out hk).1)
            have HB3 := Lib.hid hbb
            clear hown3 hgrow3 HnX HoX hbb
            go_wp2_with fail
            exact ⟨⟨j + 1, n + 1, _, by omega, by go_num, by omega, HO3.out, HB3.out⟩, by simp [intOf]; omega⟩
        · obtain rfl : j = l.length := by omega
          have HBx := Lib.hid (HB2.out.trans (HBr.out.mono HB2.out.size))
          go_wp2_with fail
          go_ret2
          exact ⟨HBx.out, _, n, xs, 0, rfl, own_mono HO.out (by omega)⟩
  · have HE := Lib.hid (errV_ne hf)
    rw [errV_ne hf] at HK
    clear hf
    refine (HK.out _ ((Below.refl _ _).alloc (Nat.le_refl _) _)).mono ?_
    rintro e w1 ⟨rfl, hb1⟩
    have HB1 := Lib.hid (((Below.refl w.heap.size w).alloc (Nat.le_refl _) _).trans (hb1.mono (by simp)))
    clear hb1 HK
    go_wp2_with fail
    go_ret2
    exact ⟨HB1.out, _, 0, [], _, by rw [HE.out]; rfl, own_nil⟩
end Go.Proofs.YtdmjelkjeiinjaaDoor
