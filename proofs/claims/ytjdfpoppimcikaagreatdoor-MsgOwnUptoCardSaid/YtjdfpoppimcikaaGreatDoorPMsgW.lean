/- pseudo.message: the walk. -/
import Derived.Test.YtjdfpoppimcikaaGreatDoorClean
namespace Go.Proofs.YtjdfpoppimcikaaGreatDoor
open Go.RowKit

set_option maxHeartbeats 12800000 in
set_option maxRecDepth 100000 in
theorem message_walk {β : Type} {E : Enc β} (hE : E.Laws) (g : List β → List β) (m : List (NdF β)) (v : Value) (lo : Nat) (w : World) (hv : ListOk (Enc.nodeF E) w lo w.heap.size v m) (hl : m.length ≤ 10000000) (hcl : Hid (∀ x ∈ m, x.text.size ≤ 1000000000 ∧ x.cases.length ≤ 10000000))
    (IH : Hid (∀ x ∈ m, ∀ c ∈ casesR x, ∀ W U, Below w.heap.size w W → ListOk E W lo W.heap.size U c.2 → Calls Tryz.prog 27 #[U] W fun e w' => Below W.heap.size W w' ∧ ∃ u, e = .returned u ∧ ListOk E w' W.heap.size w'.heap.size u (g c.2))) :
    Calls Tryz.prog 27 #[v] w fun e w' => Below w.heap.size w w' ∧ ∃ out xs, e = .returned out ∧ xs.map CN.plain = m.map (pseX g) ∧ Sep E w.heap.size w' out xs := by
  obtain ⟨A, c, rfl, hcap⟩ := hv.form
  have HV : Hid (∀ W, Below w.heap.size w W → ListOk (Enc.nodeF E) W lo w.heap.size (.slice A m.length c) m) := Lib.hid fun W hW => hv.below (Enc.nodeF_laws hE) hW
  clear hv
  go_enter Tryz.func27, Tryz.ntmps27
  go_wp2_with fail
  go_loopw [3, 11] (fun o i wr => ∃ (j : Nat) (xs : List (CN β)), j ≤ m.length ∧ i = .int .i64 (j : Int) ∧ Hid (xs.map CN.plain = (m.take j).map (pseX g)) ∧ Sep E w.heap.size wr o xs ∧ Below w.heap.size w wr) (fun _ i _ => m.length - (intOf i).toNat)
  case atStart => exact ⟨0, [], Nat.zero_le _, rfl, Lib.hid rfl, Sep.nil, Below.refl _ _⟩
  case round =>
    obtain ⟨j, xs, hj, rfl, HX, hsep, hb⟩ := hrel
    obtain ⟨wo, rfl⟩ : ∃ wo : World, wo = wr := ⟨_, rfl⟩
    have HS := Lib.hid hsep
    have HB := Lib.hid hb
    have hbs := hb.size
    obtain ⟨OA, Oc, rfl, _⟩ := own_slice hsep.row
    by_cases hlt : j < m.length
    · have i1 : (0 : Int) ≤ (j : Int) := Int.natCast_nonneg j
      have i2 : (j : Int) < (m.length : Int) := by omega
      have hmem : m[j] ∈ m := List.getElem_mem hlt
      have HTk : Hid ((m.take (j + 1)).map (pseX g) = (m.take j).map (pseX g) ++ [pseX g m[j]]) := Lib.hid (by rw [List.take_succ_eq_append_getElem hlt, List.map_append]; rfl)
      have hxl : xs.length = j := by
        have := congrArg List.length HX.out
        rw [List.length_map, List.length_map, List.length_take] at this; omega
      have hxl2 : xs.length ≤ 10000000 := by omega
      obtain ⟨b0, o0, V, rfl, hb0, hb0', x0, x1, x2, x3, hV⟩ := (HV.out _ hb).nodeAt j hlt
      obtain ⟨VA, Vc, rfl, _⟩ := hV.form
      have HXc : Hid (∀ W, Below wo.heap.size wo W → W.cell? ⟨b0, o0 + j * 4, none⟩ = some (.int .i64 m[j].kind) ∧ W.cell? ⟨b0, o0 + j * 4 + 1, none⟩ = some (.string m[j].text) ∧ W.cell? ⟨b0, o0 + j * 4 + 2, none⟩ = some (.int .i64 m[j].off) ∧ W.cell? ⟨b0, o0 + j * 4 + 3, none⟩ = some (.slice VA m[j].cases.length Vc)) := Lib.hid fun W hW =>
        ⟨(hW.cell (p := ⟨b0, _, none⟩) (by show b0 < _; omega)).trans x0, (hW.cell (p := ⟨b0, _, none⟩) (by show b0 < _; omega)).trans x1, (hW.cell (p := ⟨b0, _, none⟩) (by show b0 < _; omega)).trans x2, (hW.cell (p := ⟨b0, _, none⟩) (by show b0 < _; omega)).trans x3⟩
      have HCs : Hid (∀ W, Below w.heap.size w W → Calls Tryz.prog 50 #[.agg #[.int .i64 m[j].kind, .string m[j].text, .int .i64 m[j].off, .slice VA m[j].cases.length Vc]] W fun e w' => (∃ V', e = .returned V' ∧ (V' = .slice VA m[j].cases.length Vc ∨ V' = .slice none 0 0) ∧ ListOk (Enc.cas E) W lo w.heap.size V' (casesR m[j])) ∧ Below W.heap.size W w') := Lib.hid fun W hW =>
        Cases_any (E := E) m[j] (.slice VA m[j].cases.length Vc) lo w.heap.size W (hV.keep (Enc.cas_laws hE) fun p h1 h2 => (hW.cell h2).trans (HB.out.cell h2).symm)
      have HI : Hid (∀ c ∈ casesR m[j], ∀ W U, Below w.heap.size w W → ListOk E W lo W.heap.size U c.2 → Calls Tryz.prog 27 #[U] W fun e w' => Below W.heap.size W w' ∧ ∃ u, e = .returned u ∧ ListOk E w' W.heap.size w'.heap.size u (g c.2)) := Lib.hid (IH.out _ hmem)
      have hcj : (casesR m[j]).length ≤ 10000000 := Nat.le_trans (casesR_len _) (hcl.out _ hmem).2
      have HCx : Hid (pseX g m[j] = ⟨m[j].kind, if m[j].kind = 6 then ByteArray.empty else if m[j].kind = 1 then str (dblL (bts m[j].text)) else m[j].text, if m[j].kind = 4 then m[j].off else 0, (casesR m[j]).map fun c => (c.1, g c.2)⟩) := Lib.hid rfl
      have hts := (hcl.out _ hmem).1
      clear hV hmem hb hsep IH hcl hxl
      generalize pseX g m[j] = cx at *
      generalize casesR m[j] = cs at *
      generalize m[j] = x at *
      obtain ⟨y0, y1, y2, y3⟩ := x
      dsimp only at x0 x1 x2 x3 HXc HTk HCs HI hcj HCx hts
      have HD : Hid (∀ W, Below wo.heap.size wo W → Calls Tryz.prog 49 #[.string y1] W fun e w' => e = .returned (.string (str (dblL (bts y1)))) ∧ Below W.heap.size W w') := Lib.hid fun W _ => doubled_any y1 W hts
      go_upto_if 22 with fail
      obtain ⟨W2, eW2⟩ : ∃ W2, W2 = (wo.alloc (.cells #[.int .i64 y0, .string y1, .int .i64 y2, .slice VA y3.length Vc] 30)).alloc (.cells #[.int .i64 y0, .string y1, .int .i64 0, .slice none 0 0] 30) := ⟨_, rfl⟩
      have hbk : Blk W2 wo.heap.size 30 #[.int .i64 y0, .string y1, .int .i64 y2, .slice VA y3.length Vc] := by rw [eW2]; exact (Blk.new _ _ _).alloc _
      have hbm : Blk W2 (wo.heap.size + 1) 30 #[.int .i64 y0, .string y1, .int .i64 0, .slice none 0 0] := by
        rw [eW2]
        have := Blk.new (wo.alloc (.cells #[.int .i64 y0, .string y1, .int .i64 y2, .slice VA y3.length Vc] 30)) 30 #[.int .i64 y0, .string y1, .int .i64 0, .slice none 0 0]
        rw [World.size_alloc] at this; exact this
      have hbc : Below wo.heap.size wo W2 := by rw [eW2]; exact ((Below.refl _ _).alloc (Nat.le_refl _) _).alloc (by simp) _
      rw [← eW2]
      clear eW2 x0 x1 x2 x3
      have HBc := Lib.hid hbc
      have HBk := Lib.hid hbk
      have HBm := Lib.hid hbm
      have c1 := (hbk.cell 1).trans (show _ = some (.string y1) from rfl)
      have c0 := (hbk.cell 0).trans (show _ = some (.int .i64 y0) from rfl)
      have hs2 := hbm.lt
      clear hbc hbk hbm
      go_cut [] (fun wx => Below wo.heap.size wo wx ∧ Blk wx wo.heap.size 30 #[.int .i64 y0, .string y1, .int .i64 y2, .slice VA y3.length Vc] ∧ Blk wx (wo.heap.size + 1) 30 #[.int .i64 y0, .string (if y0 = 1 then str (dblL (bts y1)) else y1), .int .i64 0, .slice none 0 0])
      case first =>
        clear HXc HTk HCs HI HS HX HCx
        by_cases h1 : y0 = 1
        · subst h1
          have HD2 := Lib.hid (HD.out W2 HBc.out)
          clear HD
          go_wp2_with fail
          refine HD2.out.mono ?_
          clear HD2
          rintro e w3 ⟨rfl, hb3⟩
          have m3 := HBm.out.below hb3 HBm.out.lt
          have e1 := (m3.cell 1).trans (show _ = some (.string y1) from rfl)
          have f1 := m3.frozen 1
          have HM3 := Lib.hid m3
          have HB3 := Lib.hid hb3
          clear m3 hb3
          go_wp2_with fail
          go_meet
          case rel => exact ⟨(HBc.out.trans (HB3.out.mono HBc.out.size)).setCell (p := ⟨_, _, none⟩) (Nat.le_succ _) _, (HBk.out.below HB3.out HBk.out.lt).far (p := ⟨_, _, none⟩) (by show wo.heap.size ≠ wo.heap.size + 1; omega) _, by rw [if_pos trivial]; exact HM3.out.set_ 1 _⟩
        · have h1' : ¬ (y0 == (1 : Int)) = true := by simpa using h1
          clear HD
          go_wp2_with fail
          go_meet
          case rel => exact ⟨HBc.out, HBk.out, by rw [if_neg h1]; exact HBm.out⟩
      case rest =>
        obtain ⟨hbc, hbk, hbm⟩ := hcut
        clear c0 c1 HBc HBk HBm HD
        generalize ht1 : (if y0 = 1 then str (dblL (bts y1)) else y1) = t1 at *
        clear ht1
        have c0 := (hbk.cell 0).trans (show _ = some (.int .i64 y0) from rfl)
        have c2 := (hbk.cell 2).trans (show _ = some (.int .i64 y2) from rfl)
        have d2 := (hbm.cell 2).trans (show _ = some (.int .i64 0) from rfl)
        have f2 := hbm.frozen 2
        have HBc := Lib.hid hbc
        have HBk := Lib.hid hbk
        have HBm := Lib.hid hbm
        clear hbc hbk hbm
        go_upto_if 29 with fail
        go_cut [] (fun wx => Below wo.heap.size wo wx ∧ Blk wx wo.heap.size 30 #[.int .i64 y0, .string y1, .int .i64 y2, .slice VA y3.length Vc] ∧ Blk wx (wo.heap.size + 1) 30 #[.int .i64 y0, .string t1, .int .i64 (if y0 = 4 then y2 else 0), .slice none 0 0])
        case first =>
          clear HXc HTk HCs HI HS HX HCx
          by_cases h4 : y0 = 4
          · subst h4
            go_wp2_with fail
            go_meet
            case rel => exact ⟨HBc.out.setCell (p := ⟨_, _, none⟩) (Nat.le_succ _) _, HBk.out.far (p := ⟨_, _, none⟩) (by show wo.heap.size ≠ wo.heap.size + 1; omega) _, by rw [if_pos trivial]; exact HBm.out.set_ 2 _⟩
          · have h4' : ¬ (y0 == (4 : Int)) = true := by simpa using h4
            go_wp2_with fail
            go_meet
            case rel => exact ⟨HBc.out, HBk.out, by rw [if_neg h4]; exact HBm.out⟩
        case rest =>
          obtain ⟨hbc, hbk, hbm⟩ := hcut
          clear c0 c2 d2 f2 HBc HBk HBm
          generalize ho4 : (if y0 = 4 then y2 else 0) = o4 at *
          clear ho4
          have c0 := (hbk.cell 0).trans (show _ = some (.int .i64 y0) from rfl)
          have d1 := (hbm.cell 1).trans (show _ = some (.string t1) from rfl)
          have f1 := hbm.frozen 1
          have HBc := Lib.hid hbc
          have HBk := Lib.hid hbk
          have HBm := Lib.hid hbm
          clear hbc hbk hbm
          go_upto_if 35 with fail
          go_cut [] (fun wx => Below wo.heap.size wo wx ∧ Blk wx wo.heap.size 30 #[.int .i64 y0, .string y1, .int .i64 y2, .slice VA y3.length Vc] ∧ Blk wx (wo.heap.size + 1) 30 #[.int .i64 y0, .string (if y0 = 6 then ByteArray.empty else t1), .int .i64 o4, .slice none 0 0])
          case first =>
            clear HXc HTk HCs HI HS HX HCx
            by_cases h6 : y0 = 6
            · subst h6
              go_wp2_with fail
              go_meet
              case rel => exact ⟨HBc.out.setCell (p := ⟨_, _, none⟩) (Nat.le_succ _) _, HBk.out.far (p := ⟨_, _, none⟩) (by show wo.heap.size ≠ wo.heap.size + 1; omega) _, by rw [if_pos trivial]; exact HBm.out.set_ 1 _⟩
            · have h6' : ¬ (y0 == (6 : Int)) = true := by simpa using h6
              go_wp2_with fail
              go_meet
              case rel => exact ⟨HBc.out, HBk.out, by rw [if_neg h6]; exact HBm.out⟩
          case rest =>
            obtain ⟨hbc, hbk, hbm⟩ := hcut
            clear c0 d1 f1 HBc HBk HBm
            generalize ht6 : (if y0 = 6 then ByteArray.empty else t1) = t6 at *
            clear ht6
            have x0 := (hbk.cell 0).trans (show _ = some (.int .i64 y0) from rfl)
            have x1 := (hbk.cell 1).trans (show _ = some (.string y1) from rfl)
            have x2 := (hbk.cell 2).trans (show _ = some (.int .i64 y2) from rfl)
            have x3 := (hbk.cell 3).trans (show _ = some (.slice VA y3.length Vc) from rfl)
            have HBc := Lib.hid hbc
            have HBk := Lib.hid hbm
            have HBw := Lib.hid (HB.out.trans (hbc.mono hbs))
            have HCl := Lib.hid (HCs.out _ HBw.out)
            have hbs2 := hbc.size
            clear HXc HCs hbc hbk hbm
            go_wp2_with fail
            refine HCl.out.mono ?_
            clear HCl
            rintro e w1 ⟨⟨V', rfl, _, hV'⟩, hb1⟩
            have hV1 : ListOk (Enc.cas E) w1 lo w.heap.size V' cs := hV'.keep (Enc.cas_laws hE) ((Alk.of_below hb1).mono (Nat.le_refl _) HBw.out.size)
            have HN0 : Hid (NSt E wo (wo.heap.size + 1) y0 t6 o4 (.slice none 0 0) [] w1) := Lib.hid ⟨HBc.out.trans (hb1.mono hbs2), HBk.out.below hb1 HBk.out.lt, own_nil, (fun c hc => nomatch hc), Nat.le_succ _⟩
            obtain ⟨CA, Cc, rfl, _⟩ := hV1.form
            have HV1 : Hid (∀ W, Below wo.heap.size w1 W → ListOk (Enc.cas E) W lo w.heap.size (.slice CA cs.length Cc) cs) := Lib.hid fun W hW => hV1.keep (Enc.cas_laws hE) ((Alk.of_below hW).mono (Nat.le_refl _) hbs)
            clear hV' hV1 hb1 x0 x1 x2 x3 HBc HBk HBw
            go_wp2_with fail
            go_loopw [40] (fun k wq => ∃ (q : Nat) (VV : Value) (bods : List (CB β)), q ≤ cs.length ∧ k = .int .i64 (q : Int) ∧ Hid (bods.map CB.plain = (cs.take q).map fun c => (c.1, g c.2)) ∧ NSt E wo (wo.heap.size + 1) y0 t6 o4 VV bods wq ∧ Below wo.heap.size w1 wq) (fun k _ => cs.length - (intOf k).toNat)
            case atStart => exact ⟨0, _, [], Nat.zero_le _, rfl, Lib.hid rfl, HN0.out, Below.refl _ _⟩
            case round =>
              obtain ⟨q, VV, bods, hq, rfl, HBp, hN, hbq⟩ := hrel
              have HN := Lib.hid hN
              have HBq := Lib.hid hbq
              have hwo := hN.below.size
              have hyl := hN.box.lt
              by_cases hlq : q < cs.length
              · have i3 : (0 : Int) ≤ (q : Int) := Int.natCast_nonneg q
                have i4 : (q : Int) < (cs.length : Int) := by omega
                have hmq : cs[q] ∈ cs := List.getElem_mem hlq
                have hbl : bods.length = q := by
                  have := congrArg List.length HBp.out
                  rw [List.length_map, List.length_map, List.length_take] at this; omega
                have HPl : Hid ((cs.take (q + 1)).map (fun c => (c.1, g c.2)) = (cs.take q).map (fun c => (c.1, g c.2)) ++ [(cs[q].1, g cs[q].2)]) := Lib.hid (by rw [List.take_succ_eq_append_getElem hlq, List.map_append]; rfl)
                obtain ⟨b1, o1, U, rfl, r1, r2, z0, z1, hU⟩ := (HV1.out _ hbq).casAt q hlq
                obtain ⟨UA, Uc, rfl, _⟩ := hU.form
                obtain ⟨W3, eW3⟩ : ∃ W3, W3 = wr.alloc (.cells #[.string cs[q].1, .slice UA cs[q].2.length Uc] 76) := ⟨_, rfl⟩
                have hb3 : Below wr.heap.size wr W3 := by rw [eW3]; exact (Below.refl _ _).alloc (Nat.le_refl _) _
                have hk3 : Blk W3 wr.heap.size 76 #[.string cs[q].1, .slice UA cs[q].2.length Uc] := by rw [eW3]; exact Blk.new _ _ _
                have hN3 : NSt E wo (wo.heap.size + 1) y0 t6 o4 VV bods W3 := hN.on hE hb3
                have hz3 := hb3.size
                have HCl : Hid (Calls Tryz.prog 27 #[.slice UA cs[q].2.length Uc] W3.drew fun e w' => Below W3.drew.heap.size W3.drew w' ∧ ∃ u, e = .returned u ∧ ListOk E w' W3.drew.heap.size w'.heap.size u (g cs[q].2)) := Lib.hid
                  (HI.out _ hmq W3.drew _ (HB.out.trans (hN3.below.mono hbs)).drew ((ListOk.keep (w' := W3.drew) hE hU fun p _ hp => (show W3.cell? p = wr.cell? p from hb3.cell (by omega))).mono hE (Nat.le_refl _) (by show _ ≤ W3.heap.size; omega)))
                have d3 : W3.cell? ⟨wo.heap.size + 1, 3, none⟩ = some VV := (hN3.box.cell 3).trans rfl
                have k0 := (hk3.cell 0).trans (show _ = some (.string cs[q].1) from rfl)
                have k1 := (hk3.cell 1).trans (show _ = some (.slice UA cs[q].2.length Uc) from rfl)
                have HN3 := Lib.hid hN3
                have HBq3 : Hid (Below wo.heap.size w1 W3) := Lib.hid (hbq.trans (hb3.mono hwo))
                have EW := Lib.hid eW3
                have hyl3 := hN3.box.lt
                have hkl3 := hk3.lt
                have hbl2 : bods.length ≤ 10000000 := by omega
                clear hU hmq hbq hN hbl hN3 hk3 hb3 eW3
                generalize cs[q] = cc at *
                obtain ⟨ck, cb⟩ := cc
                dsimp only at z0 z1 HCl HPl k0 k1 EW
                go_upto_region 15 with fail
                rw [← EW.out]
                clear EW z0 z1 HBq HN hyl
                go_region_law
                  (first
                    | (refine step_append_ownN (by rfl) _ _ 28 (by rfl) (wo.heap.size + 1 + 1) 76 Tryz.underlying28 info_case rfl (by decide) (flatC bods) (by rfl) HN6.out.row [.string ck, .slice A5 (g cb).length c5] (by rfl) (by rfl) (.inr ⟨_, _, rfl, two_newsC w5 _ _ _⟩) (by simp [Value.oneCell']) (by unfold maxLen; omega) (by omega) (by simp; omega) ?_
                       intro v7 w7 hown7 hgrow7 ho7
                       obtain ⟨A7, c7, hv7, _⟩ := own_slice hown7
                       subst hv7
                       have e3 : w7.cell? ⟨wo.heap.size + 1, 3, none⟩ = some VV := ((Blk.cell (t := 30) ((hgrow7.block (wo.heap.size + 1) HN6.out.box.lt (fun e => own_box HN6.out.row (Nat.lt_succ_self _) e.symm)).trans HN6.out.box) 3)).trans rfl
                       have f3 : w7.frozen? ⟨wo.heap.size + 1, 3, none⟩ = false := Blk.frozen (t := 30) ((hgrow7.block (wo.heap.size + 1) HN6.out.box.lt (fun e => own_box HN6.out.row (Nat.lt_succ_self _) e.symm)).trans HN6.out.box) 3
                       have HN8 := Lib.hid (HN6.out.push hE (c := ⟨ck, g cb, .slice A5 (g cb).length c5, W3.heap.size, w5.heap.size⟩) HBd.out HAw.out hgrow7 hown7 ho7)
                       have HB8 := Lib.hid (((((HBq3.out.trans (HB5.out.mono (by omega))).alloc (by omega) (.cells #[.string ck, .slice A5 (g cb).length c5] 76)).grown hgrow7 (by simp; omega) (fun r e => by have := (own_lt HN6.out.row e).1; omega))).setCell (p := ⟨wo.heap.size + 1, 3, none⟩) (Nat.le_succ _) (.slice A7 (bods.length + 1) c7))
                       clear hown7 hgrow7 ho7)
                    | (go_simp
                       go_at_call 27
                       refine HCl.out.mono ?_
                       rintro e w5 ⟨hb5, u5, rfl, hl5⟩
                       obtain ⟨A5, c5, hu5, _⟩ := hl5.form
                       subst hu5
                       have hb6 : Below W3.heap.size W3 w5 := below_undrewC hb5
                       have hz5 := hb6.size
                       have HN6 : Hid (NSt E wo (wo.heap.size + 1) y0 t6 o4 VV bods (w5.alloc (.cells #[.string ck, .slice A5 (g cb).length c5] 76))) := Lib.hid ((HN3.out.on hE hb6).on hE ((Below.refl _ _).alloc (Nat.le_refl _) _))
                       have HBd : Hid (BodOk E (wo.heap.size + 1 + 1) (w5.alloc (.cells #[.string ck, .slice A5 (g cb).length c5] 76)) ⟨ck, g cb, .slice A5 (g cb).length c5, W3.heap.size, w5.heap.size⟩) := Lib.hid (BodOk.below hE (W := w5) ⟨by show _ ≤ W3.heap.size; omega, hl5, Nat.le_refl _⟩ ((Below.refl _ _).alloc (Nat.le_refl _) _))
                       have HAw : Hid (away VV W3.heap.size w5.heap.size) := Lib.hid fun r hr => .inl (own_lt HN3.out.row hr).2
                       have HB5 := Lib.hid hb6
                       have d5 : w5.cell? ⟨wo.heap.size + 1, 3, none⟩ = some VV := (hb6.cell (p := ⟨wo.heap.size + 1, 3, none⟩) hyl3).trans d3
                       have z5 : w5.cell? ⟨wr.heap.size, 0, none⟩ = some (.string ck) := (hb6.cell (p := ⟨wr.heap.size, _, none⟩) hkl3).trans k0
                       have d6 : (w5.alloc (.cells #[.string ck, .slice A5 (g cb).length c5] 76)).cell? ⟨wo.heap.size + 1, 3, none⟩ = some VV := (HN6.out.box.cell 3).trans rfl
                       clear hb5 hb6 hl5))
                all_goals
                  go_wp2_with fail
                  go_roundw
                  case rel =>
                    refine ⟨q + 1, _, _, by omega, by go_num, ?_, HN8.out, HB8.out⟩
                    exact Lib.hid (by rw [List.map_append, HBp.out, HPl.out]; rfl)
                  case measure => simp [intOf]; omega
              · obtain rfl : q = cs.length := by omega
                have et : cs.take cs.length = cs := List.take_length
                rw [et] at HBp
                obtain ⟨XA, Xc, hvv, _⟩ := own_slice hN.row
                subst hvv
                have c0 := (hN.box.cell 0).trans (show _ = some (.int .i64 y0) from rfl)
                have c1 := (hN.box.cell 1).trans (show _ = some (.string t6) from rfl)
                have c2 := (hN.box.cell 2).trans (show _ = some (.int .i64 o4) from rfl)
                have c3 := (hN.box.cell 3).trans (show _ = some (.slice XA bods.length Xc) from rfl)
                have HN2 : Hid (NSt E wo (wo.heap.size + 1) y0 t6 o4 (.slice XA bods.length Xc) bods (wr.alloc (.cells #[.int .i64 y0, .string t6, .int .i64 o4, .slice XA bods.length Xc] 30))) := Lib.hid (hN.on hE ((Below.refl _ _).alloc (Nat.le_refl _) _))
                have HS2 : Hid (Sep E w.heap.size (wr.alloc (.cells #[.int .i64 y0, .string t6, .int .i64 o4, .slice XA bods.length Xc] 30)) (.slice OA xs.length Oc) xs) := Lib.hid (HS.out.below hE HN2.out.below)
                have HBo : Hid (Below w.heap.size w (wr.alloc (.cells #[.int .i64 y0, .string t6, .int .i64 o4, .slice XA bods.length Xc] 30))) := Lib.hid (HB.out.trans (HN2.out.below.mono hbs))
                clear et hN hbq HV1 HI HN0
                go_wp2_with (at_builtin; refine wpList_append_any rfl _ _ 22 rfl w.heap.size 30 Tryz.underlying22 info_node rfl (by decide) (flatM xs) rfl HS2.out.row [.int .i64 y0, .string t6, .int .i64 o4, .slice XA bods.length Xc] rfl rfl (.inr ⟨_, _, rfl, four_newsC wr _ _ _ _ _⟩) (by simp [Value.oneCell']) (by unfold maxLen; omega) (by omega) (by simp; omega) ?_)
                intro v7 w7 hown7 hgrow7 ho7
                obtain ⟨A7, c7, hv7, _⟩ := own_slice hown7
                subst hv7
                have HS8 := Lib.hid (HS.out.push hE (x := ⟨y0, t6, o4, .slice XA bods.length Xc, bods⟩) HN2.out hbs hgrow7 hown7 (by rw [World.size_alloc]; exact ho7))
                have HB8 := Lib.hid (HBo.out.grown hgrow7 (by simp; omega) (fun r e => (own_lt HS2.out.row e).1))
                have HX8 : Hid ((xs ++ [(⟨y0, t6, o4, .slice XA bods.length Xc, bods⟩ : CN β)]).map CN.plain = (m.take (j + 1)).map (pseX g)) := Lib.hid (by rw [List.map_append, HX.out, HTk.out, HCx.out, ← HBp.out]; rfl)
                clear hown7 hgrow7 ho7 HBo HS2 HN2 c0 c1 c2 c3
                go_wp2_with fail
                go_roundw
                case rel => exact ⟨j + 1, _, by omega, by go_num, HX8, HS8.out, HB8.out⟩
                case measure => simp [intOf]; omega
    · obtain rfl : j = m.length := by omega
      have et : m.take m.length = m := List.take_length
      rw [et] at HX
      clear et hb hsep
      go_wp2_with fail
      go_ret
      exact ⟨HB.out, _, xs, rfl, HX.out, HS.out⟩
end Go.Proofs.YtjdfpoppimcikaaGreatDoor
