/- The walk of linguisterlaw5.StoreOwn. -/
import Derived.Test.YtboilcfeegigcaaGreatDoorStoreO
import Derived.Test.YtboilcfeegigcaaGreatDoorStoreT
namespace Go.Proofs.YtboilcfeegigcaaGreatDoor
open Go.RowKit Go.Maps

theorem RowedB.stk {w0 wr W : World} {b1 p M : Nat} {vs : List VR} {u : Value} {ps : List (Bun × Value)} {base : Nat} (h : RowedB base wr u ps) (s : Stk w0 wr b1 p M vs) (hf : Fr wr W (StX p M vs)) : RowedB base W u ps :=
  ⟨s.row hf h.own (by decide) (by decide), fun q hq => s.row hf (h.ents q hq) (by decide) (by decide)⟩
theorem nums_one (r : VR) : numsTo ([] ++ [r]) ([] ++ [r]).length = [1] := by
  show numsTo ([] ++ [r]) (0 + 1) = [1]
  rw [numsTo_succ ([] ++ [r]) 0 (by simp), numsTo_zero, if_pos (by unfold live; simp)]; rfl
theorem get_one (r : VR) (tag key : ByteArray) : getOf ([] ++ [r]) 1 tag key = textIn r.buns tag key := by
  have := getOf_at ([] ++ [r]) 0 (by simp) tag key
  rw [if_pos (by unfold live; simp)] at this
  exact this
set_option maxHeartbeats 6400000 in
set_option maxRecDepth 100000 in
theorem storeOwn_any (l : List Bun) (vl : Value) (tag key x : ByteArray) (n : Int) (w : World) (h : BunsIn w vl l) (ht : tag.size ≤ maxLen) (hk : key.size ≤ maxLen) (hm : MaxVar w) :
    Calls Tryz.prog 3 #[vl, .string tag, .string key, .string x, .int .i64 n] w fun e w' => e = .returned (.bool true) ∧ Below w.heap.size w w' := by
  have HL := Lib.hid h
  have HM := Lib.hid hm
  have hlen : l.length * 40 ≤ 140737488355328 := h.len
  obtain ⟨lo, hlo⟩ := h.lo
  obtain ⟨A, c, rfl, hlc⟩ := hlo.form
  clear h hm hlo
  go_enter Tryz.func3, Tryz.ntmps3
  go_wp2_with fail
  refine (stk_new w w (Below.refl _ _)).mono ?_
  rintro e w2 ⟨p, M, rfl, hS, _⟩
  have HS2 := Lib.hid hS
  obtain ⟨b1, hb1⟩ : ∃ b1, b1 = w2.heap.size := ⟨_, rfl⟩
  rw [← hb1] at HS2
  clear hS hb1
  go_wp2_with fail
  go_loopw [12, 13] (fun o i wr => ∃ (j : Nat) (ps : List (Bun × Value)), j ≤ l.length ∧ i = .int .i64 j ∧ ps.map Prod.fst = l.take j ∧ RowedB w.heap.size wr o ps ∧ Stk w wr b1 p M []) (fun _ i _ => l.length - (intOf i).toNat)
  case atStart => exact ⟨0, [], Nat.zero_le _, rfl, rfl, RowedB.nil, HS2.out⟩
  case round =>
    clear HS2
    obtain ⟨j, ps, hj, rfl, hsum, hrow, hst⟩ := hrel
    obtain ⟨B2, capo, ho2, hco⟩ := own_slice hrow.own
    subst ho2
    have hpl : ps.length = j := by
      have := congrArg List.length hsum
      simpa [Nat.min_eq_left hj] using this
    have HSum := Lib.hid hsum
    have HRow := Lib.hid hrow
    have HSt := Lib.hid hst
    have hbs := hst.below.size
    clear hsum hrow hst
    subst hpl
    by_cases hlt : ps.length < l.length
    · obtain ⟨b, o, V, rfl, hbl, x0, x1, hin⟩ := (HL.out.below HSt.out.below).bunAt ps.length hlt
      have htk : Hid (l.take (ps.length + 1) = l.take ps.length ++ [l[ps.length]]) := Lib.hid (by rw [List.take_add_one, List.getElem?_eq_getElem hlt]; rfl)
      obtain ⟨elo, hel⟩ := hin.lo
      have HBu := Lib.hid (bundle_any l[ps.length] V wr elo hel hin.len)
      generalize l[ps.length] = B at *
      obtain ⟨A4, c4, hV, _⟩ := hel.form
      subst hV
      obtain ⟨bt, bl⟩ := B
      dsimp only at x0 x1 HBu
      clear hin hel
      go_wp2_with fail
      refine HBu.out.mono ?_
      clear HBu
      rintro e w1 ⟨hb1, v', rfl, hown⟩
      have HS1 := Lib.hid (HSt.out.keep hb1)
      have hs1 := HS1.out.below.size
      obtain ⟨A5, c5, rfl, _⟩ := own_slice hown
      have hba : Below w1.heap.size w1 (w1.alloc (.cells #[.string bt, .slice A5 bl.length c5] 27)) := (Below.refl _ _).alloc (Nat.le_refl _) _
      have hr1 := (HRow.out.below hb1 (Nat.le_refl _)).below hba (Nat.le_refl _)
      have HS1a := Lib.hid (HS1.out.keep hba)
      have hq1 : EntRow w.heap.size (w1.alloc (.cells #[.string bt, .slice A5 bl.length c5] 27)) (⟨bt, bl⟩, .slice A5 bl.length c5) := own_mono (own_keep hown fun g _ hg => Below.heap_alloc _ _ _ hg) (by omega)
      have hnX : ∀ q u, ([Value.string bt, .slice A5 bl.length c5] : List Value)[q]? = some u → (w1.alloc (.cells #[.string bt, .slice A5 bl.length c5] 27)).cell? ⟨w1.heap.size, 0 + q, none⟩ = some u := fun q u hq => by
        rw [Nat.zero_add, (Blk.new w1 27 #[.string bt, .slice A5 bl.length c5]).cell q]; simpa using hq
      have HR1 := Lib.hid hr1
      have HQ1 := Lib.hid hq1
      have HnX := Lib.hid hnX
      clear hb1 hown hr1 hq1 hnX x0 x1 hba
      go_wp2_with (at_builtin; refine wpList_append_any rfl _ _ 22 rfl w.heap.size 27 Tryz.underlying22 info_bun rfl (by decide) (flatB ps) rfl HR1.out.own [.string bt, .slice A5 bl.length c5] rfl rfl (.inr ⟨_, _, rfl, HnX.out⟩) (by simp [Value.oneCell']) (by unfold maxLen; omega) (by omega) (by simp; omega) ?_)
      intro v3 w3 hown3 hgrow3 _
      have HR3 := Lib.hid (RowedB.push HR1.out HQ1.out hgrow3 hown3)
      have HS3' := Lib.hid (HS1a.out.grow HR1.out.own (by decide) (by decide) hgrow3)
      have HS3 : Hid ((ps ++ [((⟨bt, bl⟩ : Bun), Value.slice A5 bl.length c5)]).map Prod.fst = l.take (ps.length + 1)) := Lib.hid (by rw [htk.out, List.map_append, HSum.out]; rfl)
      clear hown3 hgrow3 HR1 HQ1 HnX htk
      go_wp2_with fail
      exact ⟨⟨ps.length + 1, _, by omega, by go_num, HS3.out, HR3.out, HS3'.out⟩, by simp [intOf]; omega⟩
    · have hps : ps.map Prod.fst = l := by rw [HSum.out, List.take_of_length_le (by omega)]
      have hll : ps.length = l.length := by omega
      have hol := HRow.out.list (lo := 0) (hi := wr.heap.size) (Nat.zero_le _) (Nat.le_refl _)
      rw [hps] at hol
      have HLd := Lib.hid (HSt.out.load l (.slice B2 ps.length capo) ⟨⟨_, hol⟩, HL.out.len, HL.out.each⟩ HM.out (by simp))
      have HPe : Hid (∀ q ∈ ps, q.1.ents.length ≤ 4398046511104) := Lib.hid fun q hq => (HL.out.each q.1 (by rw [← hps]; exact List.mem_map_of_mem hq)).2.1
      rw [hll] at HLd ⊢
      clear hol HSum hps
      obtain ⟨wo, rfl⟩ : ∃ wo : World, wo = wr := ⟨_, rfl⟩
      go_wp2_with fail
      refine HLd.out.mono ?_
      clear HLd
      rintro e w3 ⟨vs, hto, hS3, hf3⟩
      have HR3 := Lib.hid (HRow.out.stk HSt.out hf3)
      have HS3 := Lib.hid hS3
      clear hS3 hf3 HRow HSt
      obtain ⟨v, hv⟩ : ∃ v : Int, v = if loadE l = 0 then 1 else 0 := ⟨_, rfl⟩
      obtain ⟨E, hE⟩ : ∃ E : Value, E = errV (loadE l) := ⟨_, rfl⟩
      have he : e = .returned (.tuple #[.int .i64 v, E]) := by
        rcases hto with ⟨h1, _, rfl⟩ | ⟨h1, r, _, _, _, rfl⟩
        · rw [hv, hE, if_neg h1]
        · rw [hv, hE, if_pos h1, h1]; rfl
      have hto' : Hid ((loadE l ≠ 0 ∧ vs = []) ∨ (loadE l = 0 ∧ ∃ r : VR, r.held = 0 ∧ r.buns = l ∧ vs = [] ++ [r])) := Lib.hid (by
        rcases hto with ⟨h1, h2, _⟩ | ⟨h1, r, h2, h3, h4, _⟩
        · exact .inl ⟨h1, h2⟩
        · exact .inr ⟨h1, r, h2, h3, h4⟩)
      subst he
      have HV := Lib.hid hv
      have HEq := Lib.hid hE
      clear hto hv hE
      have hSp : Hid (∀ g, B2 = some ⟨g, 0, none⟩ → 0 < l.length → SpIn w.heap.size w3 g (ps.map Prod.snd)) := Lib.hid fun g hg h0 => by
        have h := HR3.out
        obtain ⟨g', e, hs⟩ := SpIn.of h (by omega) HPe.out
        rw [e] at hg
        injection hg with hg
        injection hg with hg
        subst hg
        exact hs
      have hB2 : Hid (0 < l.length → ∃ g, B2 = some ⟨g, 0, none⟩) := Lib.hid fun h0 => by
        obtain ⟨g', e, _⟩ := SpIn.of HR3.out (by omega) HPe.out
        exact ⟨g', e⟩
      have hvl : (ps.map Prod.snd).length = l.length := by rw [List.length_map]; exact hll
      generalize ps.map Prod.snd = Vs at *
      clear HR3 HPe hll
      go_wp2_with fail
      go_loopw [16] (fun i wi => ∃ j : Nat, j ≤ l.length ∧ i = .int .i64 j ∧ Stk w wi b1 p M vs ∧ ∀ g, B2 = some ⟨g, 0, none⟩ → 0 < l.length → SpIn w.heap.size wi g Vs) (fun i _ => l.length - (intOf i).toNat)
      case atStart => exact ⟨0, Nat.zero_le _, rfl, HS3.out, hSp.out⟩
      case round =>
        clear HS3 hSp
        obtain ⟨j, hj, rfl, hs, hsp⟩ := hrel
        have HS := Lib.hid hs
        have HSp := Lib.hid hsp
        clear hs hsp
        by_cases hlt : j < l.length
        · obtain ⟨g, rfl⟩ := hB2.out (by omega)
          have hS := HSp.out g rfl (by omega)
          have hjv : j < Vs.length := by omega
          obtain ⟨tg, x0⟩ := hS.tags j hjv
          obtain ⟨x1, hEn⟩ := hS.ents j hjv
          obtain ⟨Ae, me, ce, hVe, hme, hEn⟩ := hEn
          rw [hVe] at x1
          have HVe := Lib.hid hVe
          have HSq := Lib.hid hS
          have HSpl := Lib.hid (spoil_has tg x Ae me ce wr (fun h0 => let ⟨k, h1, _, h2⟩ := hEn h0; ⟨k, h1, h2.lt, h2⟩) hme)
          have i1 : (0 : Int) ≤ (j : Int) := Int.natCast_nonneg j
          have i2 : (j : Int) < (l.length : Int) := by omega
          clear hS hEn hVe HSp
          go_wp2_with fail
          refine HSpl.out.mono ?_
          clear HSpl
          rintro e w5 ⟨rfl, hf5, hk5⟩
          have HS5 := Lib.hid (HS.out.spoil HSq.out hjv HVe.out hf5)
          have HSq5 := Lib.hid (HSq.out.spoil hjv HVe.out hf5 hk5)
          obtain ⟨⟨u, y0⟩, f0⟩ := HSq5.out.has.cell (j * 2) (by omega)
          have HS6 := Lib.hid (HS5.out.tag (q := j * 2) (u := .string x) HSq5.out)
          have HSq6 := Lib.hid (HSq5.out.tag j x)
          clear hf5 hk5 HS5 x0 x1
          go_wp2_with fail
          exact ⟨⟨j + 1, by omega, by go_num, HS6.out, fun g' hg' _ => by
            injection hg' with hg'
            injection hg' with hg'
            subst hg'
            exact HSq6.out⟩, by simp [intOf]; omega⟩
        · clear HSp hB2 hvl
          rcases hto'.out with ⟨h1, rfl⟩ | ⟨h1, r, hr0, hrb, rfl⟩
          · have HKp := Lib.hid (HS.out.kept (by simp))
            have e0 : numsTo [] ([] : List VR).length = [] := rfl
            rw [e0] at HKp
            simp only [List.length_nil, List.map_nil] at HKp
            have hv0 : v = 0 := by rw [HV.out, if_neg h1]
            have hE0 : E = .iface 43 (.int .i64 (loadE l)) := by rw [HEq.out, errV_ne h1]
            subst hv0
            subst hE0
            clear HV HEq hto' h1
            go_wp2_with fail
            refine HKp.out.mono ?_
            clear HKp
            rintro e w6 ⟨Ak, ck, rfl, hok, hb6, hS6⟩
            have HB := Lib.hid hS6.below
            clear hok hb6 hS6
            go_wp2_with fail
            go_ret
            exact ⟨rfl, HB.out⟩
          · have HT := Lib.hid (textin_any l _ tag key wr (HL.out.below HS.out.below))
            have HG := Lib.hid (HS.out.get 1 tag key (by omega) (by omega) ht hk)
            have HKp := Lib.hid (HS.out.kept (by simp))
            rw [get_one, hrb] at HG
            rw [nums_one] at HKp
            simp only [List.length_cons, List.length_nil, List.map_cons, List.map_nil, Nat.zero_add] at HKp
            have hbs2 := HS.out.below.size
            have hv0 : v = 1 := by rw [HV.out, if_pos h1]
            have hE0 : E = .nilIface := by rw [HEq.out, h1]; rfl
            subst hv0
            subst hE0
            have hK : Hid (∀ W, Stk w W b1 p M ([] ++ [r]) → Calls Tryz.prog 10 #[.pointer (some ⟨p, 0, none⟩)] W fun e w' => ∃ A c, e = .returned (.slice A 1 c) ∧ w'.ownsRow W.heap.size 3 1 (.slice A 1 c) 1 [.int .i64 1] ∧ Below W.heap.size W w' ∧ Stk w w' b1 p M ([] ++ [r])) := Lib.hid fun W hW => by
              have h := hW.kept (by simp)
              rw [nums_one] at h
              exact h
            clear HV HEq hto' h1 hr0 hrb
            generalize ([] ++ [r] : List VR) = vs at *
            cases hX : textIn l tag key
            all_goals
              rw [hX] at HT HG
              simp only [TextRes, GetRes, errV_zero, errV_ne (show (2 : Int) ≠ 0 by decide)] at HT HG
              clear hX
              have hss : ∀ s : ByteArray, (s.toList == s.toList) = true := fun s => by simp
              go_wp2_with fail
              refine HT.out.mono ?_
              clear HT
              rintro e w5 ⟨rfl, rfl⟩
              go_wp2_with fail
              refine HG.out.mono ?_
              clear HG
              rintro e w6 ⟨rfl, rfl⟩
              go_wp2_with fail
              refine HKp.out.mono ?_
              clear HKp
              rintro e w7 ⟨Ak, ck, rfl, hok, hb7, hS7⟩
              have HOk := Lib.hid (own_mono hok hbs2)
              have HS7 := Lib.hid hS7
              clear hok hb7 hS7 HS hbs2
              go_wp2_with fail
              go_loopw [22] (fun i wi => ∃ (q : Nat) (ys : List Value), q ≤ 1 ∧ i = .int .i64 q ∧ wi.ownsRow w.heap.size 3 1 (.slice Ak 1 ck) 1 ys ∧ Stk w wi b1 p M vs) (fun i _ => 1 - (intOf i).toNat)
              case atStart => exact ⟨0, _, Nat.zero_le _, rfl, HOk.out, HS7.out⟩
              case round =>
                clear HOk HS7
                obtain ⟨q, ys, hq, rfl, hown, hst⟩ := hrel
                have hyl := hown.1
                have HSt := Lib.hid hst
                have HOw := Lib.hid hown
                clear hst hown
                by_cases hq1 : q < 1
                · obtain rfl : q = 0 := by omega
                  obtain ⟨y, hy⟩ : ∃ y, ys[0]? = some y := ⟨_, List.getElem?_eq_getElem (by omega)⟩
                  obtain ⟨gk, ck', hgv, _, hgl, hgc, hgf⟩ := own1_at HOw.out 0 y hy
                  injection hgv with hgv _ hgv2
                  subst hgv; subst hgv2
                  have HSt2 := Lib.hid (HSt.out.setRow HOw.out 0 (.int .i64 n))
                  have HOw2 := Lib.hid (own1_set HOw.out 0 (.int .i64 n))
                  clear hy
                  go_wp2_with fail
                  exact ⟨⟨1, _, Nat.le_refl _, by go_num, HOw2.out, HSt2.out⟩, by simp [intOf]⟩
                · obtain rfl : q = 1 := by omega
                  have HK2 := Lib.hid (hK.out _ HSt.out)
                  go_wp2_with fail
                  refine HK2.out.mono ?_
                  clear HK2
                  rintro e w8 ⟨Aj, cj, rfl, hoj, hb8, hS8⟩
                  obtain ⟨gj, _, hvj, _, _, hcj, _⟩ := own1_at hoj 0 (.int .i64 1) rfl
                  injection hvj with hvj _ _
                  subst hvj
                  have HB8 := Lib.hid hS8.below
                  clear hoj hb8 hS8 HSt HOw
                  go_wp2_with fail
                  go_ret
                  exact ⟨by simp, HB8.out⟩
end Go.Proofs.YtboilcfeegigcaaGreatDoor
