/- linguisterref2.PseudoOf: the walk; at any depth. -/
import Derived.Test.YtokjbdefkfdhhaaGreatDoorPsoOf
namespace Go.Proofs.YtokjbdefkfdhhaaGreatDoor
open Go.RowKit

set_option maxHeartbeats 12800000 in
set_option maxRecDepth 100000 in
theorem pso_walk {β : Type} {E : Enc β} (hE : E.Laws) (P : List β → List β) (cl : List (NdF β)) (v : Value) (w : World) (hl : cl.length ≤ 10000000) (hcl : Hid (∀ x ∈ cl, x.text.size ≤ 1000000000 ∧ x.cases.length ≤ 10000000))
    (HC : Hid (Calls Tryz.prog 20 #[v] w fun e w' => Below w.heap.size w w' ∧ ∃ out xs, e = .returned out ∧ xs.map CN.plain = cl ∧ Sep E w.heap.size w' out xs))
    (IH : Hid (∀ x ∈ cl, ∀ c ∈ x.cases, ∀ W U lo, ListOk E W lo W.heap.size U c.2 → Calls Tryz.prog 10 #[U] W fun e w' => Below W.heap.size W w' ∧ ∃ u, e = .returned u ∧ ListOk E w' W.heap.size w'.heap.size u (P c.2))) :
    Calls Tryz.prog 10 #[v] w fun e w' => Below w.heap.size w w' ∧ ∃ u, e = .returned u ∧ ListOk (Enc.nodeF E) w' w.heap.size w'.heap.size u (cl.map (louX P)) := by
  go_enter Tryz.func10, Tryz.ntmps10
  go_wp2_with fail
  refine HC.out.mono ?_
  clear HC
  rintro e w1 ⟨hb1, out, xs0, rfl, hx0, hs0⟩
  have hn0 := plain_len hx0
  obtain ⟨OA, Oc, hv0, _⟩ := own_slice hs0.row
  rw [hn0] at hv0
  subst hv0
  have HX0 := Lib.hid hx0
  have HS0 := Lib.hid hs0
  have HB1 := Lib.hid hb1
  clear hx0 hs0 hb1 hn0
  go_wp2_with fail
  go_loopw [4] (fun i wr => ∃ (j : Nat) (xs : List (CN β)), j ≤ cl.length ∧ i = .int .i64 (j : Int) ∧ Hid (xs.map CN.plain = (cl.take j).map (louX P) ++ cl.drop j) ∧ Sep E w.heap.size wr (.slice OA cl.length Oc) xs ∧ Below w.heap.size w wr) (fun i _ => cl.length - (intOf i).toNat)
  case atStart => exact ⟨0, xs0, Nat.zero_le _, rfl, HX0, HS0.out, HB1.out⟩
  case round =>
    clear HX0 HS0 HB1
    obtain ⟨j, xs, hj, rfl, HX, hsep, hb⟩ := hrel
    obtain ⟨wo, rfl⟩ : ∃ wo : World, wo = wr := ⟨_, rfl⟩
    have HB := Lib.hid hb
    have HS := Lib.hid hsep
    have hbs := hb.size
    by_cases hlt : j < cl.length
    · have i1 : (0 : Int) ≤ (j : Int) := Int.natCast_nonneg j
      have i2 : (j : Int) < (cl.length : Int) := by omega
      have hxl : xs.length = cl.length := by rw [plain_len HX.out, mid_len]
      have hjx : j < xs.length := by omega
      have hpl : xs[j].plain = cl[j] := (plain_at HX.out j hjx (by rw [mid_len]; exact hlt)).trans (mid_at _ cl j hlt)
      have hmem : cl[j] ∈ cl := List.getElem_mem hlt
      have HEnd : Hid (((cl.take j).map (louX P) ++ cl.drop j).set j (louX P cl[j]) = (cl.take (j + 1)).map (louX P) ++ cl.drop (j + 1)) := Lib.hid (step_set (louX P) cl j hlt)
      have HLou : Hid (louX P cl[j] = ⟨cl[j].kind, if cl[j].kind = 1 then str (dblL (bts cl[j].text)) else cl[j].text, cl[j].off, cl[j].cases.map fun c => (c.1, P c.2)⟩) := Lib.hid rfl
      have hMl : ((cl.take j).map (louX P) ++ cl.drop j).length = cl.length := mid_len _ _ _
      have HI : Hid (∀ c ∈ cl[j].cases, ∀ W U lo, ListOk E W lo W.heap.size U c.2 → Calls Tryz.prog 10 #[U] W fun e w' => Below W.heap.size W w' ∧ ∃ u, e = .returned u ∧ ListOk E w' W.heap.size w'.heap.size u (P c.2)) := Lib.hid (IH.out _ hmem)
      obtain ⟨hcx1, hcx2⟩ := hcl.out _ hmem
      obtain ⟨hnx, g, rfl, hg1, hg2, x0, x1, hx3, hfz⟩ := hsep.cells j hjx
      clear hnx hx3
      have hk : xs[j].kind = cl[j].kind := by rw [← hpl]; rfl
      have ht : xs[j].text = cl[j].text := by rw [← hpl]; rfl
      rw [hk] at x0
      rw [ht] at x1
      have f1 := hfz (j * 4 + 1)
      have HT : Hid (∀ t n, (xs.set j { xs[j] with text := t }).map CN.plain = ((cl.take j).map (louX P) ++ cl.drop j).set j { cl[j] with text := t } ∧ Sep E w.heap.size ((wo.drewN n).setCell ⟨g, j * 4 + 1, none⟩ (.string t)) (.slice (some ⟨g, 0, none⟩) cl.length Oc) (xs.set j { xs[j] with text := t })) := Lib.hid fun t n =>
        ⟨plain_text HX.out j hjx t hpl, Sep.setText (W := wo.drewN n) hE (hsep.below hE (below_drewN (Below.refl _ _) n)) j hjx t⟩
      have HM0 : Hid (xs.map CN.plain = ((cl.take j).map (louX P) ++ cl.drop j).set j cl[j]) := Lib.hid (by
        have e : (((cl.take j).map (louX P) ++ cl.drop j)[j]'(by rw [hMl]; exact hlt)) = cl[j] := mid_at _ cl j hlt
        rw [HX.out]
        conv => rhs; rw [← e]
        rw [List.set_getElem_self])
      have HXl := Lib.hid hxl
      have HMl := Lib.hid hMl
      clear hmem hb hsep IH hcl hfz hk ht hpl HX hxl hMl
      generalize (cl.take j).map (louX P) ++ cl.drop j = M at *
      generalize louX P cl[j] = lx at *
      generalize cl[j] = x at *
      obtain ⟨y0, y1, y2, y3⟩ := x
      dsimp only at x0 x1 HLou HI HT HM0 hcx1 hcx2
      have HVw := Lib.hid (vowels_any y1 wo hcx1)
      go_upto_if 19 with fail
      go_cut [] (fun wx => ∃ xs : List (CN β), Hid (xs.map CN.plain = M.set j ⟨y0, if y0 = 1 then str (dblL (bts y1)) else y1, y2, y3⟩) ∧ Sep E w.heap.size wx (.slice (some ⟨g, 0, none⟩) cl.length Oc) xs ∧ Below w.heap.size w wx)
      case first =>
        clear HEnd HLou HI
        by_cases h1 : y0 = 1
        · subst h1
          go_wp2_with fail
          refine HVw.out.mono ?_
          clear HVw
          rintro e w2 ⟨rfl, n2, rfl⟩
          go_wp2_with fail
          go_meet
          case rel =>
            rw [if_pos trivial]
            exact ⟨_, Lib.hid (HT.out _ n2).1, (HT.out _ n2).2, (below_drewN HB.out n2).setCell (p := ⟨g, _, none⟩) hg1 _⟩
        · have h1' : ¬ (y0 == (1 : Int)) = true := by simpa using h1
          clear HT
          go_wp2_with fail
          go_meet
          case rel => exact ⟨xs, by rw [if_neg h1]; exact HM0, HS.out, HB.out⟩
      case rest =>
        obtain ⟨xs2, HX2, hs2, hb2⟩ := hcut
        generalize (if y0 = 1 then str (dblL (bts y1)) else y1) = t1 at *
        clear HT HM0 HVw x0 x1 f1 HS HB hbs hjx hg1 hg2
        have HS2 := Lib.hid hs2
        have HB2 := Lib.hid hb2
        clear hs2 hb2
        go_wp2_with fail
        go_loopw [5] (fun k wq => ∃ (q : Nat) (xs : List (CN β)), q ≤ y3.length ∧ k = .int .i64 (q : Int) ∧ Hid (xs.map CN.plain = M.set j ⟨y0, t1, y2, (y3.take q).map (fun c => (c.1, P c.2)) ++ y3.drop q⟩) ∧ Sep E w.heap.size wq (.slice (some ⟨g, 0, none⟩) cl.length Oc) xs ∧ Below w.heap.size w wq) (fun k _ => y3.length - (intOf k).toNat)
        case atStart => exact ⟨0, xs2, Nat.zero_le _, rfl, HX2, HS2.out, HB2.out⟩
        case round =>
          clear HX2 HS2 HB2
          obtain ⟨q, xs, hq, rfl, HX, hsep, hb⟩ := hrel
          have HB := Lib.hid hb
          have HS := Lib.hid hsep
          have hbs := hb.size
          have hjx : j < xs.length := by rw [plain_len HX.out, List.length_set, HMl.out]; exact hlt
          have hjM : j < (M.set j (⟨y0, t1, y2, (y3.take q).map (fun c => (c.1, P c.2)) ++ y3.drop q⟩ : NdF β)).length := by rw [← plain_len HX.out]; exact hjx
          have hpl : xs[j].plain = ⟨y0, t1, y2, (y3.take q).map (fun c => (c.1, P c.2)) ++ y3.drop q⟩ := (plain_at HX.out j hjx hjM).trans (by rw [List.getElem_set_self])
          have hbl : xs[j].bods.length = y3.length := by
            have h1 : (xs[j].bods.map CB.plain).length = _ := congrArg (fun y : NdF β => y.cases.length) hpl
            rw [List.length_map] at h1
            rw [h1]
            exact mid_len _ _ _
          obtain ⟨hnx, g', hg', hg1, hg2, q1, q2, x3, q4⟩ := hsep.cells j hjx
          injection hg' with hg'
          injection hg' with hg'
          subst hg'
          clear hnx q1 q2 q4
          obtain ⟨XA, Xc, hvx, hcp⟩ := own_slice (hsep.cas _ (List.getElem_mem hjx))
          clear hcp
          by_cases hlq : q < y3.length
          · have i3 : (0 : Int) ≤ (q : Int) := Int.natCast_nonneg q
            have i4 : (q : Int) < (y3.length : Int) := by omega
            have hqb : q < xs[j].bods.length := by omega
            have hmq : y3[q] ∈ y3 := List.getElem_mem hlq
            have hpq : xs[j].bods[q].plain = y3[q] := by
              have h1 : xs[j].bods.map CB.plain = (y3.take q).map (fun c => (c.1, P c.2)) ++ y3.drop q := congrArg NdF.cases hpl
              have h2 : (xs[j].bods.map CB.plain)[q]'(by rw [List.length_map]; exact hqb) = y3[q] := by
                have h3 := mid_at (fun c : ByteArray × List β => (c.1, P c.2)) y3 q hlq
                rw [← h3]
                congr 1
              rw [List.getElem_map] at h2
              exact h2
            obtain ⟨r, rc, hvr, hr1, hr2, z1, fr⟩ := hsep.body j hjx q hqb
            rw [hvx] at x3 hvr
            injection hvr with e1 e0 e3
            clear e0
            subst e1; subst e3
            rw [hbl] at x3
            have hbd := hsep.bod _ (List.getElem_mem hjx) _ (List.getElem_mem hqb)
            have e2 : xs[j].bods[q].body = y3[q].2 := congrArg Prod.snd hpq
            have e4 : xs[j].bods[q].key = y3[q].1 := congrArg Prod.fst hpq
            have hlu : ListOk E wr xs[j].bods[q].s wr.heap.size xs[j].bods[q].u y3[q].2 := by
              have h := hbd.1.2.1
              rw [e2] at h
              exact h.mono hE (Nat.le_refl _) hbd.1.2.2
            have HSet : Hid (∀ W, Below wr.heap.size wr W → ∀ u, ListOk E W wr.heap.size W.heap.size u (P y3[q].2) → ∃ ys : List (CN β), Hid (ys.map CN.plain = M.set j ⟨y0, t1, y2, (y3.take (q + 1)).map (fun c => (c.1, P c.2)) ++ y3.drop (q + 1)⟩) ∧ Sep E w.heap.size (W.setCell ⟨r, q * 2 + 1, none⟩ u) (.slice (some ⟨g, 0, none⟩) cl.length Oc) ys ∧ Below w.heap.size w (W.setCell ⟨r, q * 2 + 1, none⟩ u)) := Lib.hid fun W hW u hu => by
              refine ⟨xs.set j { xs[j] with bods := xs[j].bods.set q ⟨y3[q].1, P y3[q].2, u, wr.heap.size, W.heap.size⟩ }, Lib.hid ?_, ?_, (HB.out.trans (hW.mono hbs)).setCell (p := ⟨r, _, none⟩) hr1 _⟩
              · rw [plain_body HX.out j hjx q _ hpl, List.set_set]
                congr 2
                exact step_set (fun c : ByteArray × List β => (c.1, P c.2)) y3 q hlq
              · refine (HS.out.below hE hW).setBody hE j hjx (n := xs[j].bods.length) (c := Xc) ?_ q hqb ⟨y3[q].1, P y3[q].2, u, wr.heap.size, W.heap.size⟩ e4.symm ⟨hbs, hu, Nat.le_refl _⟩ (fun k hk => .inl ?_) (fun y hy k hk => .inl ?_)
                · exact hvx
                · exact (own_lt HS.out.row hk).2
                · exact (own_lt (HS.out.cas y hy) hk).2
            have HCl : Hid (Calls Tryz.prog 10 #[xs[j].bods[q].u] wr.drew fun e w' => Below wr.drew.heap.size wr.drew w' ∧ ∃ u, e = .returned u ∧ ListOk E w' wr.drew.heap.size w'.heap.size u (P y3[q].2)) := Lib.hid (HI.out _ hmq wr.drew _ _ (ListOk.keep (w' := wr.drew) hE hlu fun p _ _ => rfl))
            clear hbd e2 e4 hpq hmq hvx hb hsep hpl hjM HX
            obtain ⟨UA, Uc, hu, _⟩ := hlu.form
            clear hlu
            rw [hu] at HCl z1
            generalize y3[q].2 = cb at *
            clear hu hqb hbl hjx
            go_wp2_with fail
            go_region_law
              (go_simp
               go_at_call 10
               refine HCl.out.mono ?_
               rintro e w5 ⟨hb5, u5, rfl, hl5⟩
               obtain ⟨A5, c5, hu5, _⟩ := hl5.form
               subst hu5
               have hb6 : Below wr.heap.size wr w5 := below_undrewC hb5
               have g1 : w5.cell? ⟨g, j * 4 + 3, none⟩ = some (.slice (some ⟨r, 0, none⟩) y3.length Xc) := (hb6.cell (p := ⟨g, _, none⟩) hg2).trans x3
               have g2 : w5.cell? ⟨r, q * 2 + 1, none⟩ = some (.slice UA cb.length Uc) := (hb6.cell (p := ⟨r, _, none⟩) hr2).trans z1
               have g3 : w5.frozen? ⟨r, q * 2 + 1, none⟩ = false := (hb6.frozen (p := ⟨r, _, none⟩) hr2).trans fr
               have HNew := Lib.hid (HSet.out w5 hb6 _ hl5)
               clear hb5 hb6 hl5)
            all_goals
              obtain ⟨ys, h1, h2, h3⟩ := HNew.out
              have H2 := Lib.hid h2
              have H3 := Lib.hid h3
              clear h2 h3 HNew HSet HCl
              go_wp2_with fail
              go_roundw
              case rel => exact ⟨q + 1, ys, by omega, by go_num, h1, H2.out, H3.out⟩
              case measure => simp [intOf]; omega
          · obtain rfl : q = y3.length := by omega
            have et : y3.take y3.length = y3 := List.take_length
            rw [et, List.drop_length, List.append_nil, ← HLou.out, HEnd.out] at HX
            rw [hvx, hbl] at x3
            clear et hb hsep hpl hbl hvx hjx hjM
            go_wp2_with fail
            go_roundw
            case rel => exact ⟨j + 1, xs, by omega, by go_num, HX, HS.out, HB.out⟩
            case measure => simp [intOf]; omega
    · obtain rfl : j = cl.length := by omega
      have et : cl.take cl.length = cl := List.take_length
      rw [et, List.drop_length, List.append_nil] at HX
      clear et hb hsep
      go_wp2_with fail
      go_ret
      refine ⟨HB.out, _, rfl, ?_⟩
      have h := HS.out.list hE (Nat.le_refl _) (Nat.le_refl _)
      rw [HX.out] at h
      exact h
theorem pso_any : (n : Nat) → (m : List (Nd n)) → (v : Value) → (lo : Nat) → (w : World) → MsgIn n m → ListOk (Enc.node n) w lo w.heap.size v m →
    Calls Tryz.prog 10 #[v] w fun e w' => Below w.heap.size w w' ∧ ∃ u, e = .returned u ∧ ListOk (Enc.node n) w' w.heap.size w'.heap.size u (psoN n m)
  | 0, m, v, lo, w, hm, hv => by
    obtain rfl := empty_list m
    obtain ⟨A, c, rfl, _⟩ := hv.form
    have h := clean_walk (E := Enc.none_) Enc.none_laws (fun l => l) ([] : List (NdF Empty)) (.slice A 0 c) lo w (ListOk.nil c A) (Nat.zero_le _) (Lib.hid fun x hx => by cases hx) (Lib.hid fun x hx => by cases hx)
    refine (pso_walk (E := Enc.none_) Enc.none_laws (fun l => l) ([] : List (NdF Empty)) (.slice A 0 c) w (Nat.zero_le _) (Lib.hid fun x hx => by cases hx) (Lib.hid h) (Lib.hid fun x hx => by cases hx)).mono ?_
    rintro e w' ⟨hb, u, rfl, hu⟩
    obtain ⟨B, d, rfl, _⟩ := hu.form
    exact ⟨hb, _, rfl, ListOk.nil d B⟩
  | n + 1, m, v, lo, w, hm, hv => by
    have hin := clean_in (n + 1) m hm
    exact pso_walk (E := Enc.node n) (Enc.node_laws n) (psoN n) ((m : List (NdF (Nd n))).map (clnX (cleanN n))) v w hin.len
      (Lib.hid fun x hx => by have h1 : smallF (SmallN n) x := hin.each x hx; exact ⟨h1.1, h1.2.1⟩)
      (Lib.hid (clean_sep n m v lo w hm hv (clean_any n)))
      (Lib.hid fun x hx c hc W U lo' hU => pso_any n c.2 U lo' W (MsgIn.body (n := n) (m := cleanN (n + 1) m) hin (x := x) hx hc) hU)
end Go.Proofs.YtokjbdefkfdhhaaGreatDoor
