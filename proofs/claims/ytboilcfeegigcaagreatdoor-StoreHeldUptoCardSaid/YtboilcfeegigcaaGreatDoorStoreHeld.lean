/- The walk of linguisterlaw4.StoreHeld. -/
import Derived.Test.YtboilcfeegigcaaGreatDoorStoreG
namespace Go.Proofs.YtboilcfeegigcaaGreatDoor
open Go.RowKit Go.Maps

set_option maxHeartbeats 6400000 in
set_option maxRecDepth 100000 in
theorem storeHeld_any (first : List Bun) (loads : List (List Bun)) (v0 v1 : Value) (tag key : ByteArray) (w : World) (h0 : BunsIn w v0 first) (h1 : LoadsIn w v1 loads) (ht : tag.size ≤ maxLen) (hk : key.size ≤ maxLen) (hm : MaxVar w) (hE : ErrVar w) (hn : loads.length ≤ 1100000) :
    Calls Tryz.prog 5 #[v0, v1, .string tag, .string key] w fun e w' => e = .returned (.bool true) ∧ Below w.heap.size w w' := by
  have HM := Lib.hid hm
  have HF := Lib.hid h0
  have HL := Lib.hid h1
  have HTd : Hid (∀ W n, Below w.heap.size w W → Calls Tryz.prog 19 #[errV n, errV n] W fun e w' => e = .returned (.bool true) ∧ Below W.heap.size W w') := Lib.hid fun W n hW => by
    have h := stold_any n n W (hE.below hW hE.lt)
    rwa [decide_eq_true rfl] at h
  have HEr : Hid (∀ W n, Below w.heap.size w W → Calls Tryz.prog 15 #[errV n, .int .i64 n] W fun e w' => e = .returned (.bool true) ∧ Below W.heap.size W w') := Lib.hid fun W n hW => by
    have h := serror_any n n W (hE.below hW hE.lt)
    rwa [decide_eq_true rfl] at h
  have HSt := Lib.hid (stored_any w hm)
  obtain ⟨lo1, hl1⟩ := h1.lo
  obtain ⟨A, c, rfl, _⟩ := hl1.form
  clear h0 h1 hl1 hm hE
  go_enter Tryz.func5, Tryz.ntmps5
  go_wp2_with fail
  refine HSt.out.mono ?_
  clear HSt
  rintro e w1 ⟨rfl, hb1⟩
  have HB1 := Lib.hid hb1
  clear hb1
  go_wp2_with fail
  refine (stk_new w w1 HB1.out).mono ?_
  rintro e w2 ⟨p, M, rfl, hS, _⟩
  have HS2 := Lib.hid hS
  obtain ⟨b1, hb1⟩ : ∃ b1, b1 = w2.heap.size := ⟨_, rfl⟩
  rw [← hb1] at HS2
  clear hS HB1 hb1
  go_wp2_with fail
  refine (HS2.out.load first v0 (HF.out.below HS2.out.below) HM.out (by simp)).mono ?_
  rintro e w3 ⟨vs, hto, hS3, _⟩
  have HS3 := Lib.hid hS3
  clear hS3 HS2
  rcases hto with ⟨h1, rfl, rfl⟩ | ⟨_, r, hr0, hrb, rfl, rfl⟩
  · rw [errV_ne h1]
    clear h1
    go_wp2_with fail
    refine (HS3.out.pin (fun r hr => by cases hr) (by simp)).mono ?_
    rintro e w4 ⟨vs', hp, hS4, _⟩
    rcases hp with ⟨_, _, rfl⟩ | ⟨i, hi, _⟩
    · have HB := Lib.hid hS4.below
      clear hS4
      go_wp2_with fail
      go_ret
      exact ⟨rfl, HB.out⟩
    · exact absurd hi (by simp)
  · go_wp2_with fail
    refine (HS3.out.pin (fun x hx => by simp at hx; rw [hx, hr0]; omega) (by simp)).mono ?_
    rintro e w4 ⟨vs', hp, hS4, _⟩
    have HS4 := Lib.hid hS4
    clear hS4 HS3
    rcases hp with ⟨hx, _⟩ | ⟨i, hi, hi1, rfl, rfl⟩
    · simp at hx
    · obtain rfl : i = 0 := by simp at hi1; omega
      have HH : Hid (HeldSt first 0 (holdV ([] ++ [r]) 0 (([] ++ [r])[0].held + 1) hi)) := Lib.hid ⟨by rw [holdV_len]; rfl, ⟨by rw [holdV_len]; exact hi, by rw [holdV_at _ _ _ _ 0 hi, if_pos rfl]; exact hrb, by
        rw [holdV_at _ _ _ _ 0 hi, if_pos rfl]
        show r.held + 1 = 1
        rw [hr0]⟩, fun i h hp => by rw [holdV_len] at h; simp at h; omega⟩
      generalize holdV ([] ++ [r]) 0 (([] ++ [r])[0].held + 1) hi = vs1 at *
      clear hi hi1 hr0 hrb
      have HG := Lib.hid (HS4.out.get 1 tag key (by omega) (by omega) ht hk)
      rw [HH.out.get, getRes_eq] at HG
      have HGt : Hid (∀ (W : World) (vs : List VR) (m : Nat), Stk w W b1 p M vs → HeldSt first m vs → Calls Tryz.prog 12 #[.pointer (some ⟨p, 0, none⟩), .int .i64 1, .string tag, .string key] W fun e w' => e = .returned (.tuple #[.string (getT (textIn first tag key)), errV (getE (textIn first tag key))]) ∧ W = w') := Lib.hid fun W vs m hS hH => by
        have h := hS.get 1 tag key (by omega) (by omega) ht hk
        rwa [hH.get, getRes_eq] at h
      generalize getT (textIn first tag key) = T at *
      generalize getE (textIn first tag key) = E at *
      have h1 : ((([] ++ [r] : List VR).length : Nat) : Int) = 1 := rfl
      rw [h1]
      go_wp2_with fail
      refine HG.out.mono ?_
      clear HG
      rintro e w5 ⟨rfl, rfl⟩
      have HEE : Hid (∃ V, V = errV E) := Lib.hid ⟨_, rfl⟩
      go_wp2_with fail
      go_loopw [17, 18, 19, 20, 21, 22, 23] (fun mo i _ _ _ _ _ wr => ∃ (k m : Nat) (vs : List VR), k ≤ loads.length ∧ m ≤ k ∧ mo = .int .i64 m ∧ i = .int .i64 k ∧ HeldSt first m vs ∧ Stk w wr b1 p M vs) (fun _ i _ _ _ _ _ _ => loads.length - (intOf i).toNat)
      case atStart => exact ⟨0, 0, vs1, Nat.zero_le _, Nat.le_refl _, rfl, rfl, HH.out, HS4.out⟩
      case round =>
        clear HS4 HH
        obtain ⟨k, m, vs, hk1, hmk, rfl, rfl, hH, hS⟩ := hrel
        have HH := Lib.hid hH
        have HS := Lib.hid hS
        have hvl := hH.len
        clear hH hS
        by_cases hlt : k < loads.length
        · obtain ⟨b, o, V, rfl, x0, hin⟩ := (HL.out.below HS.out.below).at k hlt
          have HLd := Lib.hid (HS.out.load loads[k] V hin HM.out (by omega))
          clear hin
          generalize loads[k] = ld at *
          go_wp2_with fail
          refine HLd.out.mono ?_
          clear HLd x0
          rintro e w6 ⟨vs', hto, hS6, _⟩
          have HS6 := Lib.hid hS6
          clear hS6
          have hT := HTd.out w6 E HS6.out.below
          have HT := Lib.hid hT
          clear hT
          have hTT : (T.toList != T.toList) = false := by simp
          rcases hto with ⟨h1, rfl, rfl⟩ | ⟨_, r', hr0, hrb, rfl, rfl⟩
          · have HG2 := Lib.hid (HGt.out w6 _ m HS6.out HH.out)
            rw [errV_ne h1]
            clear h1
            go_wp2_with fail
            refine HG2.out.mono ?_
            clear HG2
            rintro e w7 ⟨rfl, rfl⟩
            go_wp2_with fail
            refine HT.out.mono ?_
            clear HT
            rintro e w8 ⟨rfl, hb8⟩
            have HS8 := Lib.hid (HS6.out.keep hb8)
            clear hb8
            go_wp2_with fail
            exact ⟨⟨k + 1, m, _, by omega, by omega, rfl, by go_num, HH.out, HS8.out⟩, by simp [intOf]; omega⟩
          · have HH2 := Lib.hid (HH.out.more hr0)
            have HG2 := Lib.hid (HGt.out w6 _ (m + 1) HS6.out HH2.out)
            go_wp2_with fail
            refine HG2.out.mono ?_
            clear HG2
            rintro e w7 ⟨rfl, rfl⟩
            go_wp2_with fail
            refine HT.out.mono ?_
            clear HT
            rintro e w8 ⟨rfl, hb8⟩
            have HS8 := Lib.hid (HS6.out.keep hb8)
            clear hb8
            go_wp2_with fail
            exact ⟨⟨k + 1, m + 1, _, by omega, by omega, by go_num, by go_num, HH2.out, HS8.out⟩, by simp [intOf]; omega⟩
        · have hhb : ∀ r ∈ vs, r.held ≤ 1000000000 := fun x hx => by
            obtain ⟨i, hi, rfl⟩ := List.mem_iff_getElem.1 hx
            rcases Nat.eq_zero_or_pos i with rfl | hp
            · obtain ⟨_, _, h2⟩ := HH.out.buns; rw [h2]; omega
            · rw [HH.out.rest i hi hp]; omega
          have HFr := Lib.hid (HS.out.free 1 (by omega) (by omega) hhb)
          clear hhb
          go_wp2_with fail
          refine HFr.out.mono ?_
          clear HFr
          rintro e w6 ⟨vs', hfr, hS6, _⟩
          have HS6 := Lib.hid hS6
          clear hS6
          obtain ⟨g0, g1, g2⟩ := HH.out.buns
          rcases hfr with ⟨h1 | h1 | ⟨i, hi, h1, h2⟩, _⟩ | ⟨i, hi, h1, h2, rfl, rfl⟩
          · exact absurd h1 (by decide)
          · exact absurd h1 (by omega)
          · obtain rfl : i = 0 := by omega
            rw [g2] at h2; cases h2
          · obtain rfl : i = 0 := by omega
            have hz : ∀ h : 0 < (holdV vs 0 (vs[0].held - 1) hi).length, (holdV vs 0 (vs[0].held - 1) hi)[0].held = 0 := fun h => by
              rw [holdV_at vs 0 _ hi 0 hi h, if_pos rfl]
              show vs[0].held - 1 = 0
              rw [g2]
            have HK := HH.out.kept (holdV_len _ _ _ _) hz fun i h h' hp => by
              rw [holdV_at vs 0 _ hi i h' h, if_neg (by omega)]
            rw [← numsTo_all] at HK
            have HLn := holdV_len vs 0 (vs[0].held - 1) hi
            have hb0 : ∀ r ∈ holdV vs 0 (vs[0].held - 1) hi, r.held ≤ 1000000000 := fun x hx => by
              obtain ⟨i, hi', rfl⟩ := List.mem_iff_getElem.1 hx
              rcases Nat.eq_zero_or_pos i with rfl | hp
              · rw [hz hi']; omega
              · rw [holdV_at vs 0 _ hi i (by rw [holdV_len] at hi'; exact hi'), if_neg (by omega), HH.out.rest i (by rw [holdV_len] at hi'; exact hi') hp]; omega
            have HZ := Lib.hid hz
            have HB0 := Lib.hid hb0
            clear hz hb0 h1 h2 g0 g1 g2 HH
            generalize holdV vs 0 (vs[0].held - 1) hi = vs2 at *
            clear hi
            have HKp := Lib.hid (HS6.out.kept (by omega))
            rw [HK] at HKp
            go_wp2_with fail
            refine HKp.out.mono ?_
            clear HKp
            rintro e w7 ⟨Ak, ck, rfl, hok, hb7, hS7⟩
            have HS7 := Lib.hid hS7
            have HOk := Lib.hid hok
            clear hS7 hok hb7
            go_wp2_with fail
            refine (HS7.out.free 1 (by omega) (by omega) HB0.out).mono ?_
            rintro e w8 ⟨vs3, hfr, hS8, hf8⟩
            have HS8 := Lib.hid hS8
            have hrow := HS7.out.row hf8 HOk.out (by decide) (by decide)
            clear hS8
            rcases hfr with ⟨_, rfl, rfl⟩ | ⟨i, hi, h1, h2, _⟩
            · have HRow := Lib.hid hrow
              clear hrow hf8
              have HEr2 := Lib.hid (HEr.out w8 2 HS8.out.below)
              rw [errV_ne (show (2 : Int) ≠ 0 by decide)] at HEr2
              go_wp2_with fail
              refine HEr2.out.mono ?_
              clear HEr2
              rintro e w9 ⟨rfl, hb9⟩
              have hr9 := own_below HRow.out hb9 (Nat.le_refl _)
              obtain ⟨bk, ok, hA, _, _, x0⟩ := (ints_of_own (l := [((m + 1 : Nat) : Int)]) (lo := 0) hr9 (Nat.zero_le _) (Nat.le_refl _)).intAt 0 (by simp)
              subst hA
              have HB9 := Lib.hid (HS8.out.keep hb9).below
              simp only [List.getElem_cons_zero, Nat.add_zero] at x0
              have e1 : (((m + 1 : Nat) : Int) == 1 + (m : Int)) = true := by rw [beq_iff_eq]; omega
              clear hr9 hb9 HRow
              go_wp2_with fail
              go_ret
              exact ⟨by simp; omega, HB9.out⟩
            · obtain rfl : i = 0 := by omega
              exact absurd (HZ.out hi) h2
end Go.Proofs.YtboilcfeegigcaaGreatDoor
