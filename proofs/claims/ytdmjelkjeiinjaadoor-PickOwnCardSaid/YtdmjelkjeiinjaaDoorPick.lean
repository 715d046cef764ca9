/- The walk of package pick: Pick. -/
import Derived.Test.YtdmjelkjeiinjaaDoorPickP
set_option linter.unusedSimpArgs false
set_option linter.unusedVariables false
namespace Go.Proofs.YtdmjelkjeiinjaaDoor
open Go.RowKit

set_option maxHeartbeats 3200000 in
theorem pick_any (want have_ : List Tg) (vw vh : Value) (w : World) (h1 : TagsIn w vw want) (h2 : TagsIn w vh have_) :
    Calls Tryd.prog 12 #[vw, vh] w fun e w' => Below w.heap.size w w' ∧ e = .returned (.tuple #[.int .i64 (pickOf want have_).1, errV (pickOf want have_).2]) := by
  have HW := Lib.hid h1
  have HN1 := Lib.hid (names_any want vw w h1)
  have HN2 : Hid (∀ W, Below w.heap.size w W → Calls Tryd.prog 34 #[vh] W fun e w' => Below W.heap.size W w' ∧ ((namesF have_ ≠ 0 ∧ e = .returned (.tuple #[.slice none 0 0, errV (namesF have_)])) ∨
      (namesF have_ = 0 ∧ ∃ u, e = .returned (.tuple #[u, .nilIface]) ∧ w'.ownsRow W.heap.size 9 1 u have_.length ((have_.map tagText).map .string)))) := fun W hW => names_any have_ vh W (h2.below hW)
  have hhl : have_.length * 72 ≤ 140737488355328 := h2.len
  have hwl : want.length * 72 ≤ 140737488355328 := h1.len
  obtain ⟨lo1, hlo1⟩ := h1.lo
  obtain ⟨A, c, rfl, _⟩ := hlo1.form
  obtain ⟨lo2, hlo2⟩ := h2.lo
  obtain ⟨A2, c2, rfl, _⟩ := hlo2.form
  clear h1 h2 hlo1 hlo2
  obtain ⟨R, hR⟩ : ∃ R, R = pickOf want have_ := ⟨_, rfl⟩
  rw [← hR]
  have HR := Lib.hid hR
  clear hR
  go_enter Tryd.func12, Tryd.ntmps12
  go_wp2_with fail
  refine HN1.out.mono ?_
  clear HN1
  rintro e w1 ⟨hb1, ⟨hf1, rfl⟩ | ⟨hf1, u1, rfl, _⟩⟩
  · have HB1 := Lib.hid hb1
    have HRe : Hid (R = (0, namesF want)) := Lib.hid (by rw [HR.out]; unfold pickOf; rw [if_pos hf1])
    have hE := errV_ne hf1
    have HE := Lib.hid hE
    rw [hE]
    clear hb1 hf1 hE HR
    go_wp2_with fail
    go_ret2
    exact ⟨HB1.out, by rw [HRe.out, HE.out]; rfl⟩
  · have HB1 := Lib.hid hb1
    clear hb1
    have HF1 := Lib.hid hf1
    clear hf1
    go_wp2_with fail
    refine (HN2.out _ HB1.out).mono ?_
    clear HN2
    rintro e w2 ⟨hb2, ⟨hf2, rfl⟩ | ⟨hf2, u2, rfl, hown⟩⟩
    · have HB2 := Lib.hid (HB1.out.trans (hb2.mono HB1.out.size))
      have HRe : Hid (R = (0, namesF have_)) := Lib.hid (by rw [HR.out]; unfold pickOf; rw [if_neg (by rw [HF1.out]; simp), if_pos hf2])
      have hE := errV_ne hf2
      have HE := Lib.hid hE
      rw [hE]
      clear hb2 hf2 hE HR
      go_wp2_with fail
      go_ret2
      exact ⟨HB2.out, by rw [HRe.out, HE.out]; rfl⟩
    · have HB2 := Lib.hid (HB1.out.trans (hb2.mono HB1.out.size))
      have HR2 : Hid (R = if 0 ≤ hitL (have_.map tagText) (want.flatMap chainOf) then (hitL (have_.map tagText) (want.flatMap chainOf), 0) else (0, 2)) := Lib.hid (by
        rw [HR.out]; unfold pickOf; rw [if_neg (by rw [HF1.out]; simp), if_neg (by rw [hf2]; simp)])
      have HAll := Lib.hid (namesF_all HF1.out)
      have hll : (have_.map tagText).length = have_.length := by simp
      obtain ⟨ls, els⟩ : ∃ ls, ls = have_.map tagText := ⟨_, rfl⟩
      rw [← els] at hown HR2 hll
      rw [← hll] at hown hhl
      have hls := ListOk.strs_of_own (lo := 0) (hi := w2.heap.size) hown (Nat.zero_le _) (Nat.le_refl _)
      obtain ⟨A3, c3, rfl, _⟩ := own_slice hown
      have HI : Hid (∀ W x, Below w2.heap.size w2 W → Calls Tryd.prog 35 #[.slice A3 have_.length c3, .string x] W fun e w' => e = .returned (.int .i64 (Lib.idxOfS ls x)) ∧ w' = W) := fun W x hW => by
        rw [← hll]
        by_cases hz : ls.length = 0
        · have hnil : ls = [] := List.length_eq_zero_iff.1 hz
          subst hnil
          exact Tryd.slices_Index_string_empty A3 c3 x W
        · obtain ⟨b, o, rfl, _, hb, _⟩ := hls.strAt 0 (by omega)
          have := Tryd.slices_Index_string b o ls.length c3 ls x W (Nat.le_refl _) (by omega) (fun j hj => by
            obtain ⟨b', o', he, _, hb', hcell⟩ := hls.strAt j hj
            injection he with he
            injection he with e1 e2
            subst e1; subst e2
            rw [hW.cell (by exact hb'), hcell, List.getD_eq_getElem?_getD, List.getElem?_eq_getElem hj]; rfl)
          rw [List.take_length] at this
          exact this
      rw [hll]
      clear hown hls hb2 hf2 els HR HB1 HF1 hll
      go_wp2_with fail
      go_loopw [11, 12, 13, 15, 16, 35] (fun _ _ _ _ _ i wr => ∃ j : Nat, j ≤ want.length ∧ i = .int .i64 j ∧ Miss ls ((want.take j).flatMap chainOf) ∧ Below w2.heap.size w2 wr) (fun _ _ _ _ _ i _ => want.length - (intOf i).toNat)
      case atStart => exact ⟨0, Nat.zero_le _, rfl, fun x hx => by simp at hx, Below.refl _ _⟩
      case round =>
        obtain ⟨j, hj, rfl, hmiss, hbr⟩ := hrel
        have HM := Lib.hid hmiss
        have HBr := Lib.hid hbr
        have hbs := hbr.size
        clear hmiss hbr
        by_cases hlt : j < want.length
        · obtain ⟨b, o, V, rfl, hbl, x0, x1, x2, x3, hin⟩ := ((HW.out.below HB2.out).below HBr.out).tagAt j hlt
          have HIn := Lib.hid hin
          have hf : tagFault want[j] = 0 := HAll.out _ (List.getElem_mem hlt)
          have HSm := Lib.hid (small_chain (small_of hf))
          have HNext : Hid (Miss ls (chainOf want[j]) → Miss ls ((want.take (j + 1)).flatMap chainOf)) := Lib.hid fun h => by rw [flat_take j hlt]; exact HM.out.append h
          have HHit : Hid (∀ q (hq : q < (chainOf want[j]).length), Miss ls ((chainOf want[j]).take q) → 0 ≤ Lib.idxOfS ls (tagText (chainOf want[j])[q]) → R = (Lib.idxOfS ls (tagText (chainOf want[j])[q]), 0)) := Lib.hid fun q hq hm h0 => by
            obtain ⟨rest, hrest⟩ := flat_split j hlt q hq
            have := hitL_found (chainOf want[j])[q] rest (HM.out.append hm) h0
            rw [← hrest] at this
            rw [HR2.out, this, if_pos h0]
          have hcl := chainOf_length want[j]
          generalize want[j] = t at *
          obtain ⟨A1, c1, hV, _⟩ := (Classical.choose_spec HIn.out.lo).form
          dsimp only at hV
          subst hV
          have HC : Hid (∀ W, Below wr.heap.size wr W → Calls Tryd.prog 8 #[.agg #[.string t.lang, .string t.script, .string t.region, .slice A1 t.vars.length c1]] W fun e w' => Below W.heap.size W w' ∧ ∃ u, e = .returned (.tuple #[u, .nilIface]) ∧ TagRow W.heap.size w' u (chainOf t)) := fun W hW => chain_ok (t, .slice A1 t.vars.length c1) W (HIn.out.below hW) hf
          have hc6 : (chainOf t).length ≤ 6 := chain_six (small_of hf)
          generalize chainOf t = C at *
          obtain ⟨tl, ts, tr, tv⟩ := t
          dsimp only at x0 x1 x2 x3 HC
          clear hin hf HIn hcl
          obtain ⟨wo, rfl⟩ : ∃ wo : World, wo = wr := ⟨_, rfl⟩
          go_wp2_with fail
          refine (HC.out _ ((Below.refl _ _).alloc (Nat.le_refl _) _)).mono ?_
          clear HC
          rintro e w3 ⟨hb3, u, rfl, hrow⟩
          have hb3w : Below wo.heap.size wo w3 := ((Below.refl wo.heap.size wo).alloc (Nat.le_refl _) _).trans (hb3.mono (by simp))
          have HB3 := Lib.hid (HBr.out.trans (hb3w.mono hbs))
          have hs3 := HB3.out.size
          have hcl := hrow.list (lo := 0) (hi := w3.heap.size) (Nat.zero_le _) (Nat.le_refl _)
          obtain ⟨A4, c4, rfl, _⟩ := hcl.form
          have HCl := Lib.hid hcl
          clear hb3 hb3w hrow hcl x0 x1 x2 x3
          go_wp2_with fail
          go_loopw [15, 16, 49] (fun _ _ i wr => ∃ q : Nat, q ≤ C.length ∧ i = .int .i64 q ∧ Miss ls (C.take q) ∧ Below w3.heap.size w3 wr) (fun _ _ i _ => C.length - (intOf i).toNat)
          case atStart => exact ⟨0, Nat.zero_le _, rfl, fun x hx => by simp at hx, Below.refl _ _⟩
          case round =>
            obtain ⟨q, hq, rfl, hmiss, hbr⟩ := hrel
            have HM2 := Lib.hid hmiss
            have HBr2 := Lib.hid hbr
            have hbs2 := hbr.size
            clear hmiss hbr
            by_cases hql : q < C.length
            · have hcw := HCl.out.below Enc.tag_laws HBr2.out
              obtain ⟨b4, o4, V4, rfl, _, p4, x0, x1, x2, x3, xl⟩ := hcw.tagAt q hql
              have hsm := HSm.out _ (List.getElem_mem hql)
              have HX := HHit.out q hql HM2.out
              have htk : Hid (C.take (q + 1) = C.take q ++ [C[q]]) := Lib.hid (by rw [List.take_add_one, List.getElem?_eq_getElem hql]; rfl)
              generalize C[q] = y at *
              obtain ⟨A5, c5, rfl, _⟩ := xl.form
              have HTx : Hid (∀ W, Below wr.heap.size wr W → Calls Tryd.prog 32 #[.agg #[.string y.lang, .string y.script, .string y.region, .slice A5 y.vars.length c5]] W fun e w' => e = .returned (.string (tagText y)) ∧ Below W.heap.size W w') := fun W hW =>
                text_small (y, .slice A5 y.vars.length c5) W hsm (lo := 0) ((xl.keep Enc.str_laws (Alk.mono (Alk.of_below hW) (Nat.zero_le _) hbs2)).mono Enc.str_laws (Nat.le_refl _) (Nat.le_trans hbs2 hW.size))
              have HMs : Hid (¬ 0 ≤ Lib.idxOfS ls (tagText y) → Miss ls (C.take (q + 1))) := Lib.hid fun h => by
                rw [htk.out]; exact HM2.out.append fun z hz => by rw [List.mem_singleton.1 hz]; exact h
              have HI2 := Lib.hid (fun W hW => HI.out W (tagText y) hW)
              obtain ⟨yl, ys, yr, yv⟩ := y
              dsimp only at x0 x1 x2 x3 HTx
              have HHx := Lib.hid HX
              clear hcw xl hsm HX htk
              generalize tagText ⟨yl, ys, yr, yv⟩ = X at *
              have hb4w : b4 < wr.heap.size := by omega
              go_wp2_with fail
              refine (HTx.out _ ((Below.refl _ _).alloc (Nat.le_refl _) _)).mono ?_
              clear HTx
              rintro e w5 ⟨rfl, hb5⟩
              have hb5w : Below wr.heap.size wr w5 := ((Below.refl wr.heap.size wr).alloc (Nat.le_refl _) _).trans (hb5.mono (by simp))
              have hb5v : Below w3.heap.size w3 w5 := HBr2.out.trans (hb5w.mono hbs2)
              have hb52 : Below w2.heap.size w2 w5 := HB3.out.trans (hb5v.mono hs3)
              have HB5 := Lib.hid hb5v
              have HB52 := Lib.hid hb52
              clear hb5 hb5w hb5v hb52 x0 x1 x2 x3
              go_wp2_with fail
              refine (HI2.out _ HB52.out).mono ?_
              rintro e w6 ⟨rfl, rfl⟩
              by_cases h0 : 0 ≤ Lib.idxOfS ls X
              · have HRx := Lib.hid (HHx.out h0)
                clear HHx HMs
                generalize Lib.idxOfS ls X = N at *
                go_wp2_with fail
                go_ret2
                exact ⟨HB2.out.trans (HB52.out.mono HB2.out.size), by rw [HRx.out]; rfl⟩
              · have HMx := Lib.hid (HMs.out (by omega))
                clear HHx HMs
                generalize Lib.idxOfS ls X = N at *
                go_wp2_with fail
                exact ⟨⟨q + 1, by omega, by go_num, HMx.out, HB5.out⟩, by simp [intOf]; omega⟩
            · obtain rfl : q = C.length := by omega
              have hmc := HM2.out
              rw [List.take_length] at hmc
              have HNx := Lib.hid (HNext.out hmc)
              have HBx := Lib.hid (HB3.out.trans (HBr2.out.mono hs3))
              clear hmc
              go_wp2_with fail
              exact ⟨⟨j + 1, by omega, by go_num, HNx.out, HBx.out⟩, by simp [intOf]; omega⟩
        · obtain rfl : j = want.length := by omega
          have hmm := HM.out
          rw [List.take_length] at hmm
          have HRx : Hid (R = (0, 2)) := Lib.hid (by rw [HR2.out, hitL_miss hmm]; rfl)
          have HBx := Lib.hid (HB2.out.trans (HBr.out.mono HB2.out.size))
          clear hmm
          go_wp2_with fail
          go_ret2
          exact ⟨HBx.out, by rw [HRx.out]; rfl⟩
end Go.Proofs.YtdmjelkjeiinjaaDoor
