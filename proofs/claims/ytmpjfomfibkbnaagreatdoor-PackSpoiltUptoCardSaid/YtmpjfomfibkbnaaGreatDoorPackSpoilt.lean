/- The law PackSpoilt. -/
import Derived.Test.YtmpjfomfibkbnaaGreatDoorPackU
set_option linter.unusedSimpArgs false
set_option linter.unusedVariables false
namespace Go.Proofs.YtmpjfomfibkbnaaGreatDoor
open Go.RowKit

theorem xor_ne (x y : UInt8) (h : y ≠ 0) : x ^^^ y ≠ x := fun e => h (by
  have h1 := congrArg (x ^^^ ·) e
  simp only [← UInt8.xor_assoc, UInt8.xor_self, UInt8.zero_xor] at h1
  exact h1)
set_option maxHeartbeats 3200000 in
set_option maxRecDepth 100000 in
theorem packSpoilt_any (b : Bun) (v : Value) (i : Int) (byb more : UInt8) (w : World) (h : BunIn w b v) (hm : MaxVar w) (hg : ErrVar w) :
    Calls Tryz.prog 7 #[.agg #[.string b.tag, v], .int .i64 i, .int .u8 byb.toNat, .int .u8 more.toNat] w fun e w' => e = .returned (.bool true) ∧ Below w.heap.size w w' := by
  obtain ⟨lo, hl⟩ := h.lo
  obtain ⟨A, c, rfl, _⟩ := hl.form
  have HI := Lib.hid h
  have HM := Lib.hid hm
  have HG := Lib.hid hg
  obtain ⟨bt, l⟩ := b
  dsimp only at *
  clear h hm hg hl
  go_enter Tryz.func7, Tryz.ntmps7
  go_wp2_with fail
  have hb1 : Below w.heap.size w (w.alloc (.cells #[.string bt, .slice A l.length c] 24)) := (Below.refl _ _).alloc (Nat.le_refl _) _
  refine (packed_any _ (HM.out.below hb1)).mono ?_
  rintro e w2 ⟨rfl, hb2⟩
  have HB2 := Lib.hid (hb1.trans (hb2.mono (by simp)))
  have m2 := (Blk.new w 24 #[.string bt, .slice A l.length c]).below hb2 (by simp)
  have c0 : w2.cell? ⟨w.heap.size, 0, none⟩ = some (.string bt) := (m2.cell 0).trans rfl
  have c1 : w2.cell? ⟨w.heap.size, 1, none⟩ = some (.slice A l.length c) := (m2.cell 1).trans rfl
  clear hb1 hb2 m2
  go_wp2_with fail
  refine (encode_any ⟨bt, l⟩ _ w2 (HI.out.below HB2.out) (HM.out.below HB2.out)).mono ?_
  rintro e w3 hr
  obtain ⟨hb3, ⟨hf, rfl⟩ | ⟨hR, A3, c3, rfl, hu⟩⟩ := enc_uni hr
  · have HB3 := Lib.hid (HB2.out.trans (hb3.mono HB2.out.size))
    rw [errV_ne hf]
    clear hr hb3 c0 c1
    go_wp2_with fail
    go_ret
    exact ⟨rfl, HB3.out⟩
  · have HB3 := Lib.hid (HB2.out.trans (hb3.mono HB2.out.size))
    have hlen := bytes_le hR
    have hlen4 := bytes_len ⟨bt, l⟩
    have HMore := Lib.hid (unpack_more hR more)
    have HTorn := Lib.hid (unpack_torn hR)
    have HSp := Lib.hid (fun i (hi : i < (bytesB ⟨bt, l⟩).length) x hx => unpack_spoilt hR i hi x hx)
    have hs3 := HB3.out.size
    have HOk : Hid (ListOk Enc.byte w3 w2.heap.size w3.heap.size (.slice A3 (bytesB ⟨bt, l⟩).length c3) (bytesB ⟨bt, l⟩)) := Lib.hid (bytes_of_own hu (Nat.le_refl _) (Nat.le_refl _))
    have hc3 : (bytesB ⟨bt, l⟩).length ≤ c3 := by obtain ⟨_, _, he, h2⟩ := own_slice hu; injection he with _ _ he; omega
    clear hr hb3 c0 c1 hR hu
    generalize bytesB ⟨bt, l⟩ = L at *
    have HE0 := Lib.hid (empty_own w3 w3.heap.size (Nat.le_refl _))
    have HOk4 : Hid (ListOk Enc.byte (w3.alloc (.cells #[] 5)) w2.heap.size w3.heap.size (.slice A3 L.length c3) L) := Lib.hid (HOk.out.below Enc.byte_laws ((Below.refl _ _).alloc (Nat.le_refl _) _))
    have HNw := Lib.hid (news_bytes HOk4.out rfl)
    have HN1 := Lib.hid (one_new more)
    go_wp2_with (at_builtin; refine wpList_append_any rfl _ _ 26 rfl w3.heap.size 5 Tryz.underlying26 info_byte rfl (by decide) [] rfl HE0.out (bytesV L) rfl (by rw [bytesV_length, Nat.mul_one]) HNw.out (bytesV_one L) (by unfold maxLen; omega) (by omega) (by simp) ?_)
    intro v5 w5 hown5 hgrow5 _
    have hb5 : Below w3.heap.size w3 w5 := Below.grown ((Below.refl _ _).alloc (Nat.le_refl _) _) hgrow5 (by simp) (fun k hk => by simp [Value.ownBlock] at hk; omega)
    have HB5 := Lib.hid hb5
    have hs5 := hb5.size
    have HO5 : Hid ((w5.alloc (.cells #[.int .u8 more.toNat] 5)).ownsRow w3.heap.size 5 1 v5 L.length (bytesV L)) := Lib.hid (own_below (by simpa using hown5) ((Below.refl _ _).alloc (Nat.le_refl _) _) (Nat.le_refl _))
    clear hown5 hgrow5 hb5 HE0 HNw HOk4
    obtain ⟨A5, c5, rfl, _⟩ := own_slice HO5.out
    go_wp2_with (at_builtin; refine wpList_append_any rfl _ _ 26 rfl w3.heap.size 5 Tryz.underlying26 info_byte rfl (by decide) (bytesV L) rfl HO5.out [.int .u8 more.toNat] rfl rfl (.inr ⟨_, _, rfl, HN1.out w5⟩) (by simp [Value.oneCell']) (by unfold maxLen; omega) (by omega) (by simp; omega) ?_)
    intro v6 w6 hown6 hgrow6 _
    have hb6 : Below w3.heap.size w3 w6 := Below.grown (HB5.out.alloc hs5 _) hgrow6 (by simp; omega) (fun k hk => (own_lt HO5.out hk).1)
    have hl6 : (L ++ [more]).length = L.length + 1 := by simp
    have hx6 : ListOk Enc.byte w6 w3.heap.size w6.heap.size v6 (L ++ [more]) := bytes_of_own (by rw [hl6, bytesV_snoc]; exact hown6) (Nat.le_refl _) (Nat.le_refl _)
    obtain ⟨A6, c6, rfl, _⟩ := own_slice hown6
    have hB6 := HB3.out.trans (hb6.mono hs3)
    have HD := Lib.hid (decode_at _ _ _ w6 hx6 (by rw [hl6]; omega) (HM.out.below hB6))
    rw [HMore.out] at HD
    have HB6 := Lib.hid hB6
    have HOk6 : Hid (ListOk Enc.byte w6 w2.heap.size w3.heap.size (.slice A3 L.length c3) L) := Lib.hid (HOk.out.below Enc.byte_laws hb6)
    have hs6 := hb6.size
    clear hown6 hgrow6 hb6 hx6 hB6 HB5 HO5 HN1
    go_wp2_with fail
    refine HD.out.mono ?_
    clear HD
    rintro e w7 ⟨u7, rfl, hu7, hb7⟩
    obtain ⟨A7, c7, rfl, _⟩ := own_slice hu7
    generalize (unpackB (L ++ [more])).tag = t7 at *
    generalize (unpackB (L ++ [more])).ents.length = n7 at *
    have hb8 : Below w6.heap.size w6 (w7.alloc (.cells #[.string t7, .slice A7 n7 c7] 24)) := hb7.alloc hb7.size _
    have HB8 := Lib.hid (HB6.out.trans (hb8.mono HB6.out.size))
    have HOk8 : Hid (ListOk Enc.byte (w7.alloc (.cells #[.string t7, .slice A7 n7 c7] 24)) w2.heap.size w3.heap.size (.slice A3 L.length c3) L) := Lib.hid (HOk6.out.below Enc.byte_laws (hb8.mono hs6))
    obtain ⟨w8, hw8⟩ : ∃ w8, w8 = w7.alloc (.cells #[.string t7, .slice A7 n7 c7] 24) := ⟨_, rfl⟩
    have hs8 : w3.heap.size ≤ w8.heap.size := by rw [hw8]; exact Nat.le_trans hs6 hb8.size
    obtain ⟨m, hm1⟩ : ∃ m, L.length = m + 1 := ⟨L.length - 1, by omega⟩
    have hmi : ((L.length : Nat) : Int) - 1 = (m : Int) := by omega
    obtain ⟨b3, o3, rfl, _⟩ := HOk8.out.byteAt 0 (by omega)
    have hmc : m ≤ c3 := by omega
    have hls : ListOk Enc.byte w8 w2.heap.size w8.heap.size (.slice (some ⟨b3, o3, none⟩) m c3) (L.take m) := by
      have h1 := (HOk8.out.mid rfl 0 m (by omega)).mono Enc.byte_laws (Nat.le_refl _) (by rw [hw8] at hs8; exact hs8)
      rw [List.drop_zero] at h1
      rw [hw8]
      simpa using h1
    have HD := Lib.hid (decode_at _ _ _ w8 hls (by rw [List.length_take]; omega) (by rw [hw8]; exact HM.out.below HB8.out))
    rw [HTorn.out m (by omega)] at HD
    rw [hw8] at HD hs8
    clear hu7 hb7 hb8 hls
    clear hw8
    go_wp2_with fail
    refine HD.out.mono ?_
    clear HD
    rintro e w9 ⟨u9, rfl, hu9, hb9⟩
    obtain ⟨A9, c9, rfl, _⟩ := own_slice hu9
    generalize (unpackB (L.take m)).tag = t9 at *
    generalize (unpackB (L.take m)).ents.length = n9 at *
    have HB10 := Lib.hid (HB8.out.trans ((hb9.alloc hb9.size (.cells #[.string t9, .slice A9 n9 c9] 24)).mono HB8.out.size))
    have hb10 : Below (w7.alloc (.cells #[.string t7, .slice A7 n7 c7] 24)).heap.size (w7.alloc (.cells #[.string t7, .slice A7 n7 c7] 24)) (w9.alloc (.cells #[.string t9, .slice A9 n9 c9] 24)) := hb9.alloc hb9.size _
    have HOk10 := Lib.hid (HOk8.out.below Enc.byte_laws (hb10.mono hs8))
    have hs10 := Nat.le_trans hs8 hb10.size
    have HS1 := Lib.hid (serror_any 3 3 _ (HG.out.below HB10.out HG.out.lt))
    clear hu9 hb9 hb10 HB8 HOk8 HB6 HOk6
    go_wp2_with fail
    refine HS1.out.mono ?_
    clear HS1
    rintro e w11 ⟨rfl, hb11⟩
    have HB11 := Lib.hid (HB10.out.trans (hb11.mono HB10.out.size))
    have HOk11 := Lib.hid (HOk10.out.below Enc.byte_laws (hb11.mono hs10))
    have hs11 := Nat.le_trans hs10 hb11.size
    have HS2 := Lib.hid (serror_any 6 6 w11 (HG.out.below HB11.out HG.out.lt))
    clear hb11 HB10 HOk10 hs10 hs8
    go_wp2_with fail
    refine HS2.out.mono ?_
    clear HS2
    rintro e w12 ⟨rfl, hb12⟩
    have HB12 := Lib.hid (HB11.out.trans (hb12.mono HB11.out.size))
    have HOk12 := Lib.hid (HOk11.out.below Enc.byte_laws (hb12.mono hs11))
    have hs12 := Nat.le_trans hs11 hb12.size
    clear hb12 HB11 HOk11 hs11
    by_cases hi0 : i < 0
    · go_wp2_with fail
      go_ret
      exact ⟨rfl, HB12.out⟩
    · obtain ⟨q, rfl⟩ := Int.eq_ofNat_of_zero_le (show 0 ≤ i by omega)
      by_cases hq : q < L.length
      · have hd : decide (((m : Int) + 1) ≤ q) = false := decide_eq_false (by omega)
        by_cases hz : byb = 0
        · subst hz
          have hz0 : ((0 : UInt8).toNat : Int) = 0 := rfl
          go_wp2_with fail
          go_ret
          exact ⟨rfl, HB12.out⟩
        · have hzn : byb.toNat ≠ 0 := fun e => hz (by rw [← UInt8.toNat_inj, e]; rfl)
          have hbz : (((byb.toNat : Nat) : Int) == 0) = false := by rw [beq_eq_false_iff_ne]; omega
          have hqn : ¬ ((q : Int) < 0) := by omega
          have HE0 := Lib.hid (empty_own w12 w12.heap.size (Nat.le_refl _))
          have HOkA : Hid (ListOk Enc.byte (w12.alloc (.cells #[] 5)) w2.heap.size w3.heap.size (.slice (some ⟨b3, o3, none⟩) L.length c3) L) := Lib.hid (HOk12.out.below Enc.byte_laws (((Below.refl _ _).alloc (Nat.le_refl _) _).mono hs12))
          have HNw := Lib.hid (news_bytes HOkA.out rfl)
          rw [hm1] at HNw
          have hbl : (bytesV L).length = (m + 1) * 1 := by rw [bytesV_length, hm1, Nat.mul_one]
          go_wp2_with (at_builtin; refine wpList_append_any rfl _ _ 26 rfl w12.heap.size 5 Tryz.underlying26 info_byte rfl (by decide) [] rfl HE0.out (bytesV L) rfl hbl HNw.out (bytesV_one L) (by unfold maxLen; omega) (by omega) (by simp) ?_)
          intro v13 w13 hown13 hgrow13 _
          have hb13 : Below w12.heap.size w12 w13 := Below.grown ((Below.refl _ _).alloc (Nat.le_refl _) _) hgrow13 (by simp) (fun k hk => by simp [Value.ownBlock] at hk; omega)
          have hown : w13.ownsRow w12.heap.size 5 1 v13 L.length (bytesV L) := by rw [hm1]; simpa using hown13
          obtain ⟨A13, c13, rfl, _⟩ := own_slice hown
          have hok : ListOk Enc.byte w13 w12.heap.size w13.heap.size (.slice A13 L.length c13) L := bytes_of_own hown (Nat.le_refl _) (Nat.le_refl _)
          obtain ⟨b13, o13, rfl, _, _, y0⟩ := hok.byteAt q hq
          obtain ⟨hbb, hfr⟩ := own_frozen hown
          have hfq := hfr (o13 + q)
          have hxr := xor_u8 L[q] byb
          have HNe := Lib.hid (HSp.out q hq (L[q] ^^^ byb) (xor_ne _ _ hz))
          have HB14 : Hid (Below w.heap.size w (w13.setCell ⟨b13, o13 + q, none⟩ (.int .u8 (L[q] ^^^ byb).toNat))) := Lib.hid ((HB12.out.trans (hb13.mono HB12.out.size)).setCell (Nat.le_trans HB12.out.size hbb) _)
          have HD := Lib.hid (decode_at _ _ _ (w13.setCell ⟨b13, o13 + q, none⟩ (.int .u8 (L[q] ^^^ byb).toNat)) ((set_byte hok q hq (L[q] ^^^ byb)).mono Enc.byte_laws (Nat.le_refl _) (by simp)) (by rw [List.length_set]; omega) (HM.out.below HB14.out))
          have hqm : (q : Int) < (m : Int) + 1 := by omega
          generalize L[q] ^^^ byb = x at *
          generalize L[q] = y at *
          clear hb13 hown13 hgrow13 hown hok hfr HE0 HNw HOkA
          go_wp2_with fail
          rw [hm1] at HD
          refine HD.out.mono ?_
          clear HD
          rintro e w15 ⟨u15, rfl, hu15, hb15⟩
          obtain ⟨A15, c15, rfl, _⟩ := own_slice hu15
          generalize (unpackB (L.set q x)).tag = t15 at *
          generalize (unpackB (L.set q x)).ents.length = n15 at *
          rw [errV_ne HNe.out]
          generalize unpackE (L.set q x) = f15 at *
          have HB15 := Lib.hid (HB14.out.trans ((hb15.alloc hb15.size (.cells #[.string t15, .slice A15 n15 c15] 24)).mono HB14.out.size))
          clear hu15 hb15
          go_wp2_with fail
          go_ret
          exact ⟨rfl, HB15.out⟩
      · have hd : decide (((m : Int) + 1) ≤ q) = true := decide_eq_true (by omega)
        go_wp2_with fail
        go_ret
        exact ⟨rfl, HB12.out⟩
end Go.Proofs.YtmpjfomfibkbnaaGreatDoor
