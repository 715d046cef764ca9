/- The walk of linguisterlaw4.StoreTells. -/
import Derived.Test.YtboilcfeegigcaaGreatDoorStoreT
namespace Go.Proofs.YtboilcfeegigcaaGreatDoor
open Go.RowKit Go.Maps

set_option maxHeartbeats 12800000 in
set_option maxRecDepth 100000 in
theorem storeTells_any (acts nums : List Int) (loads : List (List Bun)) (v0 v1 v2 : Value) (lo0 lo2 : Nat) (tag key : ByteArray) (w : World) (h0 : ListOk Enc.int w lo0 w.heap.size v0 acts) (h1 : LoadsIn w v1 loads) (h2 : ListOk Enc.int w lo2 w.heap.size v2 nums)
    (g2 : ∀ x ∈ nums, -9223372036854775808 ≤ x ∧ x ≤ 9223372036854775807) (ht : tag.size ≤ maxLen) (hk : key.size ≤ maxLen) (hm : MaxVar w) (hE : ErrVar w) (n0 : acts.length ≤ 1100000) (n1 : loads.length ≤ 1100000) (n2 : nums.length ≤ 1100000) :
    Calls Tryz.prog 4 #[v0, v1, v2, .string tag, .string key] w fun e w' => e = .returned (.bool true) ∧ Below w.heap.size w w' := by
  have HM := Lib.hid hm
  have HA : Hid (∀ W, Below w.heap.size w W → ListOk Enc.int W lo0 w.heap.size v0 acts) := Lib.hid fun W hW => h0.below Enc.int_laws hW
  have HN : Hid (∀ W, Below w.heap.size w W → ListOk Enc.int W lo2 w.heap.size v2 nums) := Lib.hid fun W hW => h2.below Enc.int_laws hW
  have HL := Lib.hid h1
  have HG2 := Lib.hid g2
  have HEr : Hid (∀ W n, Below w.heap.size w W → Calls Tryz.prog 15 #[errV n, .int .i64 n] W fun e w' => e = .returned (.bool true) ∧ Below W.heap.size W w') := Lib.hid fun W n hW => by
    have h := serror_any n n W (hE.below hW hE.lt)
    rwa [decide_eq_true rfl] at h
  have HSt := Lib.hid (stored_any w hm)
  obtain ⟨lo1, hl1⟩ := h1.lo
  obtain ⟨A0, c0, rfl, _⟩ := h0.form
  obtain ⟨A1, c1, rfl, _⟩ := hl1.form
  obtain ⟨A2, c2, rfl, _⟩ := h2.form
  clear h0 h1 h2 hl1 hm hE g2
  go_enter Tryz.func4, Tryz.ntmps4
  go_wp2_with fail
  refine HSt.out.mono ?_
  clear HSt
  rintro e w1 ⟨rfl, hb1⟩
  have HB1 := Lib.hid hb1
  clear hb1
  go_wp2_with fail
  refine (stk_new w w1 HB1.out).mono ?_
  rintro e w2 ⟨p, M, rfl, hS, _⟩
  have HS2 := Lib.hid hS
  obtain ⟨b1, hb1⟩ : ∃ b1, b1 = w2.heap.size := ⟨_, rfl⟩
  rw [← hb1] at HS2
  clear hS HB1 hb1
  go_wp2_with fail
  go_loopw [13, 14, 15, 16, 17, 18, 19, 20, 21, 22, 23, 24, 25, 26, 27, 28, 29, 30] (fun o h i _ _ _ _ _ _ _ _ _ _ _ _ _ _ _ wr => ∃ (k : Nat) (vs : List VR) (xs : List Value), k ≤ acts.length ∧ i = .int .i64 k ∧ vs.length ≤ k ∧ (∀ r ∈ vs, r.held ≤ k) ∧ TSt w wr b1 p M o h vs xs) (fun _ _ i _ _ _ _ _ _ _ _ _ _ _ _ _ _ _ _ => acts.length - (intOf i).toNat)
  case atStart => exact ⟨0, [], [], Nat.zero_le _, rfl, Nat.le_refl _, fun r hr => (by cases hr), ⟨HS2.out, own_nil, own_nil, fun i hi => absurd hi (by simp)⟩⟩
  case round =>
    clear HS2
    obtain ⟨k, vs, xs, hka, rfl, hvk, hhk, hT⟩ := hrel
    obtain ⟨Ao, co, rfl, _⟩ := own_slice hT.all
    obtain ⟨Ah, ch, rfl, _⟩ := own_slice hT.held
    have HT := Lib.hid hT
    have HH := Lib.hid hhk
    have hbr := hT.stk.below.size
    have hxl : xs.length = vs.length := by have := hT.all.1; omega
    clear hT hhk
    by_cases hlt : k < acts.length
    · by_cases hlt1 : k < loads.length
      · by_cases hlt2 : k < nums.length
        · obtain ⟨ba, oa, rfl, _, ha2, hca⟩ := (HA.out _ HT.out.stk.below).intAt k hlt
          obtain ⟨bn, on, rfl, _, hn2, hcn⟩ := (HN.out _ HT.out.stk.below).intAt k hlt2
          obtain ⟨bl, ol, V, rfl, hcl0, hinw⟩ := HL.out.at k hlt1
          have hbl : bl < w.heap.size := by
            obtain ⟨lo1, A', c', hv, _, hi⟩ := HL.out.lo
            obtain ⟨b', o', cs, hA, _, h2, _⟩ := hi k hlt1
            injection hv with hv1
            rw [hA] at hv1; injection hv1 with hv1; injection hv1 with hv1
            omega
          have hcl := (HT.out.stk.below.cell (p := ⟨bl, ol + k, none⟩) hbl).trans hcl0
          have HCl : Hid (∀ W, Below w.heap.size w W → W.cell? ⟨bl, ol + k, none⟩ = some V) := Lib.hid fun W hW => (hW.cell (p := ⟨bl, ol + k, none⟩) hbl).trans hcl0
          have HCn : Hid (∀ W, Below w.heap.size w W → W.cell? ⟨bn, on + k, none⟩ = some (.int .i64 nums[k])) := Lib.hid fun W hW => by
            obtain ⟨b', o', hA, _, _, hc⟩ := (HN.out W hW).intAt k hlt2
            injection hA with hA; injection hA with e1 e2
            subst e1; subst e2
            exact hc
          have hnz := HG2.out _ (List.getElem_mem hlt2)
          have HInw := Lib.hid hinw
          clear hcl0 hinw hbl
          generalize acts[k] = a at *
          generalize nums[k] = z at *
          generalize loads[k] = l at *
          obtain ⟨lol, hlol⟩ := HInw.out.lo
          obtain ⟨Al, cl, rfl, _⟩ := hlol.form
          clear hlol
          go_upto_if 61 with fail
          go_cut [13, 14, 16, 17, 18, 19, 20, 21, 22] (fun o h _ t _ _ _ _ _ wx => t = .bool true ∧ ∃ (vs : List VR) (xs : List Value), vs.length ≤ k + 1 ∧ (∀ r ∈ vs, r.held ≤ k + 1) ∧ TSt w wx b1 p M o h vs xs)
          case first =>
            by_cases ha0 : a = 0
            · subst ha0
              as_aux_lemma =>
                have HLf := Lib.hid (qloadfault_any l _ wr (HInw.out.below HT.out.stk.below))
                go_wp2_with fail
                refine HLf.out.mono ?_
                clear HLf
                rintro e w3 ⟨rfl, hb3⟩
                have HT3 := Lib.hid (HT.out.keep hb3)
                have hcl3 := HCl.out w3 HT3.out.stk.below
                clear hb3 hcl hca hcn HT
                by_cases h20 : 20 < l.length
                · have hd : decide (20 < (l.length : Int)) = true := decide_eq_true (by omega)
                  have hLE : loadE l = 4 := by unfold loadE; rw [if_pos h20]
                  have HLd := Lib.hid (HT3.out.stk.load l _ (HInw.out.below HT3.out.stk.below) HM.out (by omega))
                  clear h20
                  go_wp2_with fail
                  refine HLd.out.mono ?_
                  clear HLd
                  rintro e w4 ⟨vs', hto, hS4, hf4⟩
                  rcases hto with ⟨_, rfl, rfl⟩ | ⟨h1, _⟩
                  · have HT4 := Lib.hid (HT3.out.call hS4 hf4)
                    have HE := Lib.hid (HEr.out w4 4 hS4.below)
                    rw [hLE]
                    clear hS4 hf4 hLE
                    go_wp2_with fail
                    refine HE.out.mono ?_
                    clear HE
                    rintro e w5 ⟨rfl, hb5⟩
                    have HT5 := Lib.hid (HT4.out.keep hb5)
                    clear hb5
                    go_wp2_with fail
                    go_meet
                    case rel => exact ⟨rfl, _, _, by omega, fun r hr => by have := HH.out r hr; omega, HT5.out⟩
                  · rw [hLE] at h1; cases h1
                · have hd : decide (20 < (l.length : Int)) = false := decide_eq_false (by omega)
                  have hLE : loadE l = loadFault l := by unfold loadE; rw [if_neg h20]
                  generalize loadFault l = F at *
                  clear h20
                  by_cases hF : F = 0
                  · subst hF
                    have HT4 := Lib.hid (HT3.out.keep (W := w3.alloc (.cells #[.slice Al l.length cl] 22)) ((Below.refl _ _).alloc (Nat.le_refl _) _))
                    have HnX := Lib.hid (one_new (.slice Al l.length cl) 22 w3)
                    have hbs := HT4.out.stk.below.size
                    go_wp2_with (at_builtin; refine wpList_append_any rfl _ _ 41 rfl w.heap.size 22 Tryz.underlying41 info_buns rfl (by decide) xs rfl HT4.out.all [.slice Al l.length cl] rfl rfl (.inr ⟨_, _, rfl, HnX.out⟩) (by simp [Value.oneCell']) (by unfold maxLen; omega) (by omega) (by simpa using hbs) ?_)
                    intro v5 w5 hown5 hgrow5 _
                    have hS5 := HT4.out.stk.grow HT4.out.all (by decide) (by decide) hgrow5
                    have hh5 : w5.ownsRow w.heap.size 3 1 (.slice Ah vs.length ch) vs.length (heldR vs) := own_keep HT4.out.held fun g hg hlt => hgrow5.block g hlt fun e => own_types HT4.out.held HT4.out.all (by decide) hg e.symm
                    obtain ⟨A5, c5, rfl, _⟩ := own_slice hown5
                    have hb6 : Below w5.heap.size w5 (w5.alloc (.cells #[.int .i64 0] 3)) := (Below.refl _ _).alloc (Nat.le_refl _) _
                    have HS6 := Lib.hid (hS5.keep hb6)
                    have HH6 := Lib.hid (own_below hh5 hb6 (Nat.le_refl _))
                    have HA6 := Lib.hid (own_below hown5 hb6 (Nat.le_refl _))
                    have HnY := Lib.hid (one_new (.int .i64 0) 3 w5)
                    have hbs6 := HS6.out.below.size
                    have HIx := Lib.hid HT3.out.ins
                    clear hown5 hgrow5 hS5 hh5 hb6 HT4 HnX hcl3 HT3
                    go_wp2_with (at_builtin; refine wpList_append_any rfl _ _ 34 rfl w.heap.size 3 Tryz.underlying34 info_int' rfl (by decide) (heldR vs) rfl HH6.out [.int .i64 0] rfl rfl (.inr ⟨_, _, rfl, HnY.out⟩) (by simp [Value.oneCell']) (by unfold maxLen; omega) (by omega) (by simpa using hbs6) ?_)
                    intro v7 w7 hown7 hgrow7 _
                    have HS7 := Lib.hid (HS6.out.grow HH6.out (by decide) (by decide) hgrow7)
                    have HA7 : Hid (w7.ownsRow w.heap.size 22 1 (.slice A5 (vs.length + 1) c5) (vs.length + 1) (xs ++ [.slice Al l.length cl])) := Lib.hid (own_keep HA6.out fun g hg hlt => hgrow7.block g hlt fun e => own_types HA6.out HH6.out (by decide) hg e.symm)
                    obtain ⟨A7, c7, rfl, _⟩ := own_slice hown7
                    have HH7 := Lib.hid hown7
                    have hcl7 := HCl.out w7 HS7.out.below
                    have HLd := Lib.hid (HS7.out.load l _ (HInw.out.below HS7.out.below) HM.out (by omega))
                    clear hown7 hgrow7 HS6 HH6 HA6 HnY
                    go_wp2_with fail
                    refine HLd.out.mono ?_
                    clear HLd
                    rintro e w8 ⟨vs', hto, hS8, hf8⟩
                    rcases hto with ⟨h1, _⟩ | ⟨_, r, hr0, hrb, rfl, rfl⟩
                    · exact absurd hLE h1
                    · have HT8 := Lib.hid (TSt.load HS7.out HA7.out HH7.out HIx.out hxl r (by rw [hrb]; exact HInw.out) hr0 hS8 hf8)
                      have HE := Lib.hid (HEr.out w8 0 hS8.below)
                      rw [errV_zero] at HE
                      have HHr : Hid (∀ x ∈ vs ++ [r], x.held ≤ k + 1) := Lib.hid fun x hx => by
                        rcases List.mem_append.1 hx with h | h
                        · have := HH.out x h; omega
                        · rw [List.mem_singleton.1 h, hr0]; omega
                      clear hS8 hf8 hLE hr0 hrb HS7 HA7 HH7
                      go_wp2_with fail
                      refine HE.out.mono ?_
                      clear HE
                      rintro e w9 ⟨rfl, hb9⟩
                      have HT9 := Lib.hid (HT8.out.keep hb9)
                      clear hb9
                      go_wp2_with fail
                      go_meet
                      case rel => exact ⟨by simp, _, _, by simp; omega, HHr.out, HT9.out⟩
                  · have hF2 : (F == 0) = false := by rw [beq_eq_false_iff_ne]; exact hF
                    have HLd := Lib.hid (HT3.out.stk.load l _ (HInw.out.below HT3.out.stk.below) HM.out (by omega))
                    go_wp2_with fail
                    refine HLd.out.mono ?_
                    clear HLd
                    rintro e w4 ⟨vs', hto, hS4, hf4⟩
                    rcases hto with ⟨_, rfl, rfl⟩ | ⟨h1, _⟩
                    · have HT4 := Lib.hid (HT3.out.call hS4 hf4)
                      have HE := Lib.hid (HEr.out w4 F hS4.below)
                      rw [hLE]
                      clear hS4 hf4 hLE
                      go_wp2_with fail
                      refine HE.out.mono ?_
                      clear HE
                      rintro e w5 ⟨rfl, hb5⟩
                      have HT5 := Lib.hid (HT4.out.keep hb5)
                      clear hb5
                      go_wp2_with fail
                      go_meet
                      case rel => exact ⟨rfl, _, _, by omega, fun r hr => by have := HH.out r hr; omega, HT5.out⟩
                    · rw [hLE] at h1; exact absurd h1 hF
            · have hd0 : (a == 0) = false := by rw [beq_eq_false_iff_ne]; exact ha0
              by_cases ha1 : a = 1
              · have hd1 : (a == 1) = true := by rw [beq_iff_eq]; exact ha1
                as_aux_lemma =>
                  have hHb : ∀ r ∈ vs, r.held ≤ 1000000000 := fun r hr => by have := HH.out r hr; omega
                  by_cases hv0 : vs = []
                  · subst hv0
                    have HPn := Lib.hid (HT.out.stk.pin hHb (by simp))
                    clear hHb ha0 ha1
                    go_wp2_with fail
                    refine HPn.out.mono ?_
                    clear HPn
                    rintro e w4 ⟨vs', hp, hS4, hf4⟩
                    rcases hp with ⟨_, rfl, rfl⟩ | ⟨i, hi, _⟩
                    · have HT4 := Lib.hid (HT.out.call hS4 hf4)
                      have HE := Lib.hid (HEr.out w4 2 hS4.below)
                      rw [errV_ne (show (2 : Int) ≠ 0 by decide)] at HE
                      clear hS4 hf4
                      go_wp2_with fail
                      refine HE.out.mono ?_
                      clear HE
                      rintro e w5 ⟨rfl, hb5⟩
                      have HT5 := Lib.hid (HT4.out.keep hb5)
                      clear hb5
                      go_wp2_with fail
                      go_meet
                      case rel => exact ⟨rfl, _, _, by simp, fun r hr => (by cases hr), HT5.out⟩
                    · exact absurd hi (by simp)
                  · obtain ⟨i, hi1⟩ : ∃ i, i + 1 = vs.length := ⟨vs.length - 1, by have := List.length_pos_iff.2 hv0; omega⟩
                    have hi : i < vs.length := by omega
                    have hz0 : ((vs.length : Int) == 0) = false := by rw [beq_eq_false_iff_ne]; omega
                    obtain ⟨g, cg, hg0, _, hgl, hgc, hgf⟩ := own1_at HT.out.held i _ (heldR_at vs i hi)
                    injection hg0 with hg0 _ hg2
                    subst hg0; subst hg2
                    have HS4 := Lib.hid (HT.out.stk.setRow HT.out.held i (.int .i64 ((vs[i].held + 1 : Nat) : Int)))
                    have HPn := Lib.hid (HS4.out.pin hHb (by omega))
                    have hhi : vs[i].held ≤ 1100000 := by have := HH.out _ (List.getElem_mem hi); omega
                    have HHd : Hid (∀ n, n = vs[i].held → ∀ x ∈ holdV vs i (n + 1) hi, x.held ≤ k + 1) := Lib.hid fun n hn x hx => by
                      obtain ⟨j, hj, rfl⟩ := List.mem_iff_getElem.1 hx
                      have hj2 : j < vs.length := by rw [holdV_len] at hj; exact hj
                      rw [holdV_at vs i _ hi j hj2]
                      split
                      · have := HH.out _ (List.getElem_mem hi); show n + 1 ≤ k + 1; omega
                      · have := HH.out _ (List.getElem_mem hj2); omega
                    have HTh : Hid (∀ n W, n = vs[i].held → Stk w W b1 p M (holdV vs i (n + 1) hi) → Fr (wr.setCell ⟨g, i, none⟩ (.int .i64 ((n + 1 : Nat) : Int))) W (StX p M vs) → TSt w W b1 p M (.slice Ao vs.length co) (.slice (some ⟨g, 0, none⟩) vs.length ch) (holdV vs i (n + 1) hi) xs) := Lib.hid fun n W hn s f => HT.out.hold i (n + 1) hi (by rw [hn]; exact HS4.out) s f
                    obtain ⟨n, hn⟩ : ∃ n, n = vs[i].held := ⟨_, rfl⟩
                    rw [← hn] at hgc HS4 HPn hhi
                    have Hn := Lib.hid hn
                    obtain ⟨i1, i1', i2, i3, i4, i4', i5⟩ := hold_nums vs.length i n hi1 (by omega) hhi
                    rw [i5] at HPn
                    clear hHb hn ha0 ha1 hv0 HS4
                    go_wp2_with fail
                    refine HPn.out.mono ?_
                    clear HPn
                    rintro e w4 ⟨vs', hp, hS4, hf4⟩
                    rcases hp with ⟨hx, _⟩ | ⟨i', hi', hi1', rfl, rfl⟩
                    · exact absurd hi (by rw [hx]; simp)
                    · obtain rfl : i' = i := by omega
                      rw [← Hn.out] at hS4
                      rw [← i5] at hf4
                      have HT4 := Lib.hid (HTh.out n w4 Hn.out hS4 hf4)
                      have HE := Lib.hid (HEr.out w4 0 hS4.below)
                      rw [errV_zero] at HE
                      have HHx := Lib.hid (HHd.out n Hn.out)
                      clear hS4 hf4 HTh HHd
                      go_wp2_with fail
                      refine HE.out.mono ?_
                      clear HE
                      rintro e w5 ⟨rfl, hb5⟩
                      have HT5 := Lib.hid (HT4.out.keep hb5)
                      have hl5 : (holdV vs i' (n + 1) hi').length = vs.length := holdV_len _ _ _ _
                      clear hb5
                      go_wp2_with fail
                      go_meet
                      case rel => exact ⟨by simp, _, _, by omega, HHx.out, HT5.out⟩
              · have hd1 : (a == 1) = false := by rw [beq_eq_false_iff_ne]; exact ha1
                have hHb : ∀ r ∈ vs, r.held ≤ 1000000000 := fun r hr => by have := HH.out r hr; omega
                have HFr := Lib.hid (HT.out.stk.free z hnz.1 hnz.2 hHb)
                clear ha0 ha1
                by_cases z1 : z < 1
                · have z1d : decide (z < 1) = true := decide_eq_true z1
                  as_aux_lemma =>
                    go_wp2_with fail
                    refine HFr.out.mono ?_
                    clear HFr
                    rintro e w4 ⟨vs', hfr, hS4, hf4⟩
                    rcases hfr with ⟨_, rfl, rfl⟩ | ⟨i', hi', h1, h2, _⟩
                    · have HT4 := Lib.hid (HT.out.call hS4 hf4)
                      have HE := Lib.hid (HEr.out w4 2 hS4.below)
                      rw [errV_ne (show (2 : Int) ≠ 0 by decide)] at HE
                      clear hS4 hf4
                      go_wp2_with fail
                      refine HE.out.mono ?_
                      clear HE
                      rintro e w5 ⟨rfl, hb5⟩
                      have HT5 := Lib.hid (HT4.out.keep hb5)
                      clear hb5
                      go_wp2_with fail
                      go_meet
                      case rel => exact ⟨rfl, _, _, by omega, fun r hr => by have := HH.out r hr; omega, HT5.out⟩
                    · exact absurd z1 (by omega)
                · have z1d : decide (z < 1) = false := decide_eq_false z1
                  by_cases z2 : (vs.length : Int) < z
                  · have z2d : decide ((vs.length : Int) < z) = true := decide_eq_true z2
                    as_aux_lemma =>
                      go_wp2_with fail
                      refine HFr.out.mono ?_
                      clear HFr
                      rintro e w4 ⟨vs', hfr, hS4, hf4⟩
                      rcases hfr with ⟨_, rfl, rfl⟩ | ⟨i', hi', h1, h2, _⟩
                      · have HT4 := Lib.hid (HT.out.call hS4 hf4)
                        have HE := Lib.hid (HEr.out w4 2 hS4.below)
                        rw [errV_ne (show (2 : Int) ≠ 0 by decide)] at HE
                        clear hS4 hf4
                        go_wp2_with fail
                        refine HE.out.mono ?_
                        clear HE
                        rintro e w5 ⟨rfl, hb5⟩
                        have HT5 := Lib.hid (HT4.out.keep hb5)
                        clear hb5
                        go_wp2_with fail
                        go_meet
                        case rel => exact ⟨rfl, _, _, by omega, fun r hr => by have := HH.out r hr; omega, HT5.out⟩
                      · exact absurd z2 (by omega)
                  · obtain ⟨i, rfl⟩ : ∃ i : Nat, z = ((i + 1 : Nat) : Int) := ⟨z.toNat - 1, by omega⟩
                    have hi : i < vs.length := by omega
                    obtain ⟨g, cg, hg0, _, hgl, hgc, hgf⟩ := own1_at HT.out.held i _ (heldR_at vs i hi)
                    injection hg0 with hg0 _ hg2
                    subst hg0; subst hg2
                    have hhi : vs[i].held ≤ 1100000 := by have := HH.out _ (List.getElem_mem hi); omega
                    by_cases h0 : vs[i].held = 0
                    · have z2d : decide ((vs.length : Int) < ((i + 1 : Nat) : Int)) = false := decide_eq_false z2
                      have H0 := Lib.hid h0
                      rw [h0] at hgc
                      obtain ⟨i1, i1', i2, i3⟩ := free_nums0 vs.length i hi (by omega)
                      clear i1 i1'
                      clear h0 z1 z2 hnz hHb
                      as_aux_lemma =>
                        go_wp2_with fail
                        refine HFr.out.mono ?_
                        clear HFr
                        rintro e w4 ⟨vs', hfr, hS4, hf4⟩
                        rcases hfr with ⟨_, rfl, rfl⟩ | ⟨i', hi', h1, h2, _⟩
                        · have HT4 := Lib.hid (HT.out.call hS4 hf4)
                          have HE := Lib.hid (HEr.out w4 2 hS4.below)
                          rw [errV_ne (show (2 : Int) ≠ 0 by decide)] at HE
                          clear hS4 hf4
                          go_wp2_with fail
                          refine HE.out.mono ?_
                          clear HE
                          rintro e w5 ⟨rfl, hb5⟩
                          have HT5 := Lib.hid (HT4.out.keep hb5)
                          clear hb5
                          go_wp2_with fail
                          go_meet
                          case rel => exact ⟨rfl, _, _, by omega, fun r hr => by have := HH.out r hr; omega, HT5.out⟩
                        · obtain rfl : i' = i := by omega
                          exact absurd H0.out h2
                    · obtain ⟨m, hm⟩ : ∃ m, m + 1 = vs[i].held := ⟨vs[i].held - 1, by omega⟩
                      have hm1 : vs[i].held - 1 = m := by omega
                      have HHd : Hid (∀ x ∈ holdV vs i m hi, x.held ≤ k + 1) := Lib.hid fun x hx => by
                        obtain ⟨j, hj, rfl⟩ := List.mem_iff_getElem.1 hx
                        have hj2 : j < vs.length := by rw [holdV_len] at hj; exact hj
                        rw [holdV_at vs i _ hi j hj2]
                        split
                        · have := HH.out _ (List.getElem_mem hi); show m ≤ k + 1; omega
                        · have := HH.out _ (List.getElem_mem hj2); omega
                      have HS4 := Lib.hid (HT.out.stk.setRow HT.out.held i (.int .i64 (m : Int)))
                      have HSd := Lib.hid (HS4.out.keep (Below.refl _ _).drew)
                      have HFr2 := Lib.hid (HSd.out.free ((i + 1 : Nat) : Int) hnz.1 hnz.2 hHb)
                      have HTh : Hid (∀ W, Stk w W b1 p M (holdV vs i m hi) → Fr (wr.setCell ⟨g, i, none⟩ (.int .i64 (m : Int))).drew W (StX p M vs) → TSt w W b1 p M (.slice Ao vs.length co) (.slice (some ⟨g, 0, none⟩) vs.length ch) (holdV vs i m hi) xs) := Lib.hid fun W s f => HT.out.hold i m hi HS4.out s ((Fr.of_below (Below.refl _ _).drew _).trans f)
                      have HCn2 := Lib.hid (HCn.out _ HSd.out.below)
                      rw [← hm] at hgc hhi
                      have Hm1 := Lib.hid hm1
                      have Hm := Lib.hid hm
                      obtain ⟨⟨i1, i1', i2, i3⟩, i4, i4', z2d, n0d, n0d', z2d'⟩ := free_nums1 vs.length i m hi (by omega) hhi
                      clear i1 i4
                      clear hHb hm hm1 h0 HS4 HSd HFr z1 z2 hnz
                      as_aux_lemma =>
                        go_wp2_with fail
                        go_still_tail 16, (by kernel_rfl)
                        change wpList _ _ _ _ _ wr.drew
                        have hcn2 := HCn2.out
                        go_wp2_with fail
                        refine HFr2.out.mono ?_
                        clear HFr2 hcn2 i1' i2 i3 i4' z2d z2d' n0d n0d' hgc hgf
                        rintro e w4 ⟨vs', hfr, hS4, hf4⟩
                        rcases hfr with ⟨hx, _⟩ | ⟨i', hi', h1, h2, rfl, rfl⟩
                        · exfalso
                          rcases hx with hx | hx | ⟨i', hi', h1, h2⟩
                          · omega
                          · omega
                          · obtain rfl : i' = i := by omega
                            have := Hm.out
                            omega
                        · obtain rfl : i' = i := by omega
                          rw [Hm1.out] at hS4
                          have HT4 := Lib.hid (HTh.out w4 hS4 hf4)
                          have HE := Lib.hid (HEr.out w4 0 hS4.below)
                          rw [errV_zero] at HE
                          clear hS4 hf4 HTh h1 h2
                          go_wp2_with fail
                          refine HE.out.mono ?_
                          clear HE
                          rintro e w5 ⟨rfl, hb5⟩
                          have HT5 := Lib.hid (HT4.out.keep hb5)
                          have hl5 : (holdV vs i' m hi').length = vs.length := holdV_len _ _ _ _
                          clear hb5
                          go_wp2_with fail
                          go_meet
                          case rel => exact ⟨rfl, _, _, by omega, HHd.out, HT5.out⟩
          case rest =>
            clear HT HH hxl hcl hca hcn hnz HInw HCl HCn hbr
            obtain ⟨rfl, vs2, xs2, hvk2, hhk2, hT2⟩ := hcut
            obtain ⟨Ao2, co2, rfl, _⟩ := own_slice hT2.all
            obtain ⟨Ah2, ch2, rfl, _⟩ := own_slice hT2.held
            have HT := Lib.hid hT2
            have HH := Lib.hid hhk2
            have hbx := hT2.stk.below.size
            have hvl : vs2.length ≤ 1100001 := by omega
            clear hT2 hhk2
            obtain ⟨wx, rfl⟩ : ∃ wx : World, wx = wc := ⟨_, rfl⟩
            go_wp2_with fail
            go_loopw [23, 24, 25, 26, 27, 28, 29] (fun kp v _ _ _ _ _ wi => ∃ j : Nat, j ≤ vs2.length ∧ v = .int .i64 ((j + 1 : Nat) : Int) ∧ wi.ownsRow wx.heap.size 3 1 kp (numsTo vs2 j).length ((numsTo vs2 j).map (.int .i64)) ∧ Below wx.heap.size wx wi) (fun _ v _ _ _ _ _ _ => vs2.length + 1 - (intOf v).toNat)
            case atStart => exact ⟨0, Nat.zero_le _, rfl, own_nil, Below.refl _ _⟩
            case round =>
              obtain ⟨j, hj, rfl, hown, hb⟩ := hrel
              have HT' := Lib.hid (HT.out.keep hb)
              have HKr := Lib.hid hown
              have HBx := Lib.hid hb
              have hbi := hb.size
              obtain ⟨Ak, ck, rfl, _⟩ := own_slice hown
              have hkl := numsTo_len vs2 j
              clear hown hb
              by_cases hlt : j < vs2.length
              · obtain ⟨V, hxV, hIn⟩ := HT.out.ins j hlt
                obtain ⟨go_, cg, hg0, _, hgl, hgc, hgf⟩ := own1_at HT'.out.all j V hxV
                injection hg0 with hg0 _ hg2
                subst hg0; subst hg2
                obtain ⟨gh, ch', hh0, _, hhl, hhc, hhf⟩ := own1_at HT'.out.held j _ (heldR_at vs2 j hlt)
                injection hh0 with hh0 _ hh2
                subst hh0; subst hh2
                have HTx := Lib.hid (textin_any vs2[j].buns V tag key wr (hIn.below HT'.out.stk.below))
                have HGt : Hid (∀ W, Below wx.heap.size wx W → Calls Tryz.prog 12 #[.pointer (some ⟨p, 0, none⟩), .int .i64 ((j + 1 : Nat) : Int), .string tag, .string key] W fun e w' => e = GetRes (if live vs2.length (j + 1) vs2[j] then textIn vs2[j].buns tag key else none) ∧ W = w') := Lib.hid fun W hW => by
                  have h := (HT.out.stk.keep hW).get ((j + 1 : Nat) : Int) tag key (by omega) (by omega) ht hk
                  rwa [getOf_at vs2 j hlt] at h
                have HNs := Lib.hid (numsTo_succ vs2 j hlt)
                obtain ⟨lv, hlv⟩ : ∃ lv, lv = live vs2.length (j + 1) vs2[j] := ⟨_, rfl⟩
                rw [← hlv] at HGt HNs
                have hlv2 : lv = live vs2.length (j + 1) ⟨0, vs2[j].held, []⟩ := hlv
                clear hlv
                generalize textIn vs2[j].buns tag key = X at *
                generalize vs2[j].held = hd at *
                clear hxV hIn
                have HnY := Lib.hid (one_new (.int .i64 ((j + 1 : Nat) : Int)) 3 wr)
                have hba : Below wr.heap.size wr (wr.alloc (.cells #[.int .i64 ((j + 1 : Nat) : Int)] 3)) := (Below.refl _ _).alloc (Nat.le_refl _) _
                have HK1 := Lib.hid (own_below HKr.out hba (Nat.le_refl _))
                have HB1 := Lib.hid (HBx.out.trans (hba.mono hbi))
                have hbs1 : wx.heap.size ≤ wr.heap.size := hbi
                clear hba
                have hE := live_or j vs2.length hd lv hlv2
                clear hlv2
                have hq1 : (numsTo vs2 j).length + 1 ≤ maxLen := by unfold maxLen; omega
                have hq2 : ((numsTo vs2 j).length + 1) * 8 ≤ 140737488355328 := by omega
                have hq3 : wx.heap.size ≤ (wr.alloc (.cells #[.int .i64 ((j + 1 : Nat) : Int)] 3)).heap.size := by rw [size_alloc1]; omega
                have hq4 : vs2.length + 1 - (j + 1) < vs2.length + 1 - j := by omega
                have HQ1 := Lib.hid hq1
                have HQ2 := Lib.hid hq2
                have HQ3 := Lib.hid hq3
                clear hq1 hq2 hq3
                obtain ⟨i1, i1', i2, i3⟩ := free_nums0 vs2.length j hlt (by omega)
                clear i1 i1'
                rcases hE with ⟨rfl, e1, e1'⟩ | ⟨rfl, ⟨e1, e1'⟩, e2, e2'⟩ | ⟨rfl, ⟨e1, e1'⟩, e2, e2'⟩
                case inr.inr =>
                  simp only [Bool.false_eq_true, if_false, List.append_nil] at HGt HNs
                  clear HnY HK1 HB1
                  have HK7 : Hid (wr.ownsRow wx.heap.size 3 1 (.slice Ak (numsTo vs2 j).length ck) (numsTo vs2 (j + 1)).length ((numsTo vs2 (j + 1)).map (.int .i64))) := Lib.hid (by rw [HNs.out]; exact HKr.out)
                  have HG7 := Lib.hid (HGt.out wr HBx.out)
                  clear HGt HNs
                  cases X
                  all_goals
                    as_aux_lemma =>
                      go_wp2_with fail
                      refine HTx.out.mono ?_
                      clear HTx
                      rintro e w5 ⟨rfl, rfl⟩
                      clear i2 i3 e1 e1' hgc hhc hgf hhf
                      simp only [TextRes]
                      go_wp2_with fail
                      refine HG7.out.mono ?_
                      clear HG7
                      rintro e w8 ⟨rfl, rfl⟩
                      simp only [GetRes, errV_zero, errV_ne (show (2 : Int) ≠ 0 by decide)]
                      go_wp2_with fail
                      exact ⟨⟨j + 1, hlt, by go_num, HK7.out, HBx.out⟩, by simp [intOf]; omega⟩
                all_goals
                  simp only [if_true] at HGt HNs
                  cases X
                  all_goals
                    as_aux_lemma =>
                      go_wp2_with fail
                      refine HTx.out.mono ?_
                      clear HTx
                      rintro e w5 ⟨rfl, rfl⟩
                      clear i2 i3 e1 e1' hgc hhc hgf hhf
                      simp only [TextRes]
                      go_wp2_with (at_builtin; refine wpList_append_any rfl _ _ 34 rfl wx.heap.size 3 Tryz.underlying34 info_int' rfl (by decide) ((numsTo vs2 j).map (.int .i64)) rfl HK1.out [.int .i64 ((j + 1 : Nat) : Int)] rfl rfl (.inr ⟨_, _, rfl, HnY.out⟩) (by simp [Value.oneCell']) HQ1.out HQ2.out HQ3.out ?_)
                      intro v7 w7 hown7 hgrow7 _
                      have HB7 := Lib.hid (HB1.out.grown hgrow7 HQ3.out (fun k hk => (own_lt HK1.out hk).1))
                      have HK7 : Hid (w7.ownsRow wx.heap.size 3 1 v7 (numsTo vs2 (j + 1)).length ((numsTo vs2 (j + 1)).map (.int .i64))) := Lib.hid (by rw [HNs.out, List.length_append, List.map_append]; exact hown7)
                      have HG7 := Lib.hid (HGt.out w7 HB7.out)
                      clear hown7 hgrow7 HGt HNs HnY HK1 HB1
                      go_wp2_with fail
                      refine HG7.out.mono ?_
                      clear HG7
                      rintro e w8 ⟨rfl, rfl⟩
                      simp only [GetRes, errV_zero, errV_ne (show (2 : Int) ≠ 0 by decide)]
                      go_wp2_with fail
                      exact ⟨⟨j + 1, hlt, by go_num, HK7.out, HB7.out⟩, by simp [intOf]; omega⟩
              · obtain rfl : j = vs2.length := by omega
                as_aux_lemma =>
                  have HKp := Lib.hid (HT'.out.stk.kept (by omega))
                  clear HT
                  go_wp2_with fail
                  refine HKp.out.mono ?_
                  clear HKp
                  rintro e w7 ⟨A7, c7, rfl, ho7, hb7, hS7⟩
                  have HT7 := Lib.hid (HT'.out.keep hb7)
                  have hk7 := own_below HKr.out hb7 (Nat.le_refl _)
                  have HI := Lib.hid (ints_any _ _ _ _ _ _ _ _ w7 (ints_of_own (lo := 0) ho7 (Nat.zero_le _) (Nat.le_refl _)) (ints_of_own (lo := 0) hk7 (Nat.zero_le _) (Nat.le_refl _)) (by omega) (by omega))
                  have hdd : decide (numsTo vs2 vs2.length = numsTo vs2 vs2.length) = true := decide_eq_true rfl
                  rw [hdd] at HI
                  generalize numsTo vs2 vs2.length = L at *
                  clear ho7 hb7 hS7 hk7 HKr HT' hdd
                  go_wp2_with fail
                  refine HI.out.mono ?_
                  clear HI
                  rintro e w8 ⟨rfl, n8, rfl⟩
                  have HT8 := Lib.hid (HT7.out.keep (below_drawn (Below.refl _ _) n8))
                  clear HT7
                  go_wp2_with fail
                  exact ⟨⟨k + 1, vs2, xs2, by omega, by go_num, by omega, fun r hr => HH.out r hr, HT8.out⟩, by simp [intOf]; omega⟩
        · go_wp2_with fail
          go_ret
          exact ⟨rfl, HT.out.stk.below⟩
      · go_wp2_with fail
        go_ret
        exact ⟨rfl, HT.out.stk.below⟩
    · go_wp2_with fail
      go_ret
      exact ⟨rfl, HT.out.stk.below⟩
end Go.Proofs.YtboilcfeegigcaaGreatDoor
