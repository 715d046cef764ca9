/- The law PackTells. -/
import Derived.Test.YtmpjfomfibkbnaaGreatDoorPackU
import Derived.Test.YtmpjfomfibkbnaaGreatDoorRefU
set_option linter.unusedSimpArgs false
set_option linter.unusedVariables false
namespace Go.Proofs.YtmpjfomfibkbnaaGreatDoor
open Go.RowKit

theorem unB_len (raw : List UInt8) : (unpackB raw).ents.length ≤ 100 := by
  by_cases h : unpackE raw = 0
  · exact (bytes_unpack h).1.len
  · have e : unpackB raw = noB := by unfold unpackB; rw [if_neg h]
    rw [e]; exact Nat.zero_le _
set_option maxHeartbeats 3200000 in
set_option maxRecDepth 100000 in
theorem packTells_any (b : Bun) (v rv : Value) (raw : List UInt8) (lo' : Nat) (w : World) (h : BunIn w b v) (hraw : ListOk Enc.byte w lo' w.heap.size rv raw) (hrl : raw.length ≤ 1000000000) (hm : MaxVar w) (hg : ErrVar w) :
    Calls Tryz.prog 6 #[.agg #[.string b.tag, v], rv] w fun e w' => e = .returned (.bool true) ∧ Below w.heap.size w w' := by
  obtain ⟨lo, hl⟩ := h.lo
  obtain ⟨A, c, rfl, _⟩ := hl.form
  obtain ⟨B, d, rfl, _⟩ := hraw.form
  have HI := Lib.hid h
  have HM := Lib.hid hm
  have HG := Lib.hid hg
  have HRaw := Lib.hid hraw
  obtain ⟨bt, l⟩ := b
  dsimp only at *
  clear h hm hg hl hraw
  go_enter Tryz.func6, Tryz.ntmps6
  go_wp2_with fail
  have hb1 : Below w.heap.size w (w.alloc (.cells #[.string bt, .slice A l.length c] 24)) := (Below.refl _ _).alloc (Nat.le_refl _) _
  refine (packed_any _ (HM.out.below hb1)).mono ?_
  rintro e w2 ⟨rfl, hb2⟩
  have HB2 := Lib.hid (hb1.trans (hb2.mono (by simp)))
  have M2 := Lib.hid ((Blk.new w 24 #[.string bt, .slice A l.length c]).below hb2 (by simp))
  have c0 : w2.cell? ⟨w.heap.size, 0, none⟩ = some (.string bt) := (M2.out.cell 0).trans rfl
  have c1 : w2.cell? ⟨w.heap.size, 1, none⟩ = some (.slice A l.length c) := (M2.out.cell 1).trans rfl
  clear hb1 hb2
  go_wp2_with fail
  refine (qbunfault_any ⟨bt, l⟩ _ w2 (HI.out.below HB2.out)).mono ?_
  rintro e w3 ⟨rfl, hb3⟩
  have HB3 := Lib.hid (HB2.out.trans (hb3.mono HB2.out.size))
  have hlt2 := M2.out.lt
  have M3 := Lib.hid (M2.out.below hb3 hlt2)
  replace c0 : w3.cell? ⟨w.heap.size, 0, none⟩ = some (.string bt) := (M3.out.cell 0).trans rfl
  replace c1 : w3.cell? ⟨w.heap.size, 1, none⟩ = some (.slice A l.length c) := (M3.out.cell 1).trans rfl
  clear hb3 M2 HB2 hlt2
  by_cases hf : bunFault ⟨bt, l⟩ = 0
  · have hR := (right_iff ⟨bt, l⟩).1 hf
    rw [hf]
    have HR := Lib.hid hR
    clear hR
    go_wp2_with fail
    refine (bytesof_any ⟨bt, l⟩ _ w3 (HI.out.below HB3.out) HR.out).mono ?_
    rintro e w4 ⟨u4, rfl, hu4, hb4⟩
    obtain ⟨A4, c4, rfl, _⟩ := own_slice hu4
    have HB4 := Lib.hid (HB3.out.trans (hb4.mono HB3.out.size))
    have hlt3 := M3.out.lt
    have M4 := Lib.hid (M3.out.below hb4 hlt3)
    have HO4 := Lib.hid (bytes_of_own hu4 (Nat.le_refl _) (Nat.le_refl _))
    have hlen := bytes_le HR.out
    replace c0 : w4.cell? ⟨w.heap.size, 0, none⟩ = some (.string bt) := (M4.out.cell 0).trans rfl
    replace c1 : w4.cell? ⟨w.heap.size, 1, none⟩ = some (.slice A l.length c) := (M4.out.cell 1).trans rfl
    clear hb4 hu4 M3 HB3 hlt3
    have HEn := Lib.hid (encode_any ⟨bt, l⟩ _ w4 (HI.out.below HB4.out) (HM.out.below HB4.out))
    go_wp2_with fail
    refine HEn.out.mono ?_
    clear HEn
    rintro e w5 hr
    obtain ⟨hb5, ⟨hf', rfl⟩ | ⟨_, A5, c5, rfl, hu5⟩⟩ := enc_uni hr
    · exact absurd hf hf'
    · have HB5 := Lib.hid (HB4.out.trans (hb5.mono HB4.out.size))
      have HO45 := Lib.hid (HO4.out.below Enc.byte_laws hb5)
      have HO5 := Lib.hid (bytes_of_own hu5 (Nat.le_refl _) (Nat.le_refl _))
      have hs45 := hb5.size
      clear hr hb5 hu5 c0 c1 M4 HB4 HO4 hf HR
      have h0 : errV 0 = .nilIface := rfl
      have HS := Lib.hid (serror_any 0 0 w5 (HG.out.below HB5.out HG.out.lt))
      rw [h0] at HS
      clear h0
      go_wp2_with fail
      refine HS.out.mono ?_
      clear HS
      rintro e w6 ⟨rfl, hb6⟩
      have HB6 := Lib.hid (HB5.out.trans (hb6.mono HB5.out.size))
      have HS := Lib.hid (sbytes_any _ _ _ _ _ _ _ _ w6 (HO5.out.below Enc.byte_laws hb6) (HO45.out.below Enc.byte_laws (hb6.mono hs45)) (by omega) (by omega))
      clear hb6 HB5 HO5 HO45
      go_wp2_with fail
      refine HS.out.mono ?_
      clear HS
      rintro e w9 ⟨rfl, hb9⟩
      have HB9 := Lib.hid (HB6.out.trans (hb9.mono HB6.out.size))
      clear hb9 HB6
      clear HI
      have hraw9 := (HRaw.out.below Enc.byte_laws HB9.out).mono Enc.byte_laws (Nat.le_refl _) HB9.out.size
      have HU := Lib.hid (unpackof_any _ _ _ w9 hraw9 hrl)
      clear hraw9
      go_wp2_with fail
      refine HU.out.mono ?_
      clear HU
      rintro e wa ⟨ua, rfl, hua, hba⟩
      have hla := unB_len raw
      obtain ⟨Aa, ca, rfl, _⟩ := own_slice hua
      have HOa := Lib.hid (ents_of_own hua (Nat.le_refl _) (Nat.le_refl _))
      have HBa := Lib.hid (HB9.out.trans (hba.mono HB9.out.size))
      have hD := fun W hW => decode_at lo' _ raw W ((HRaw.out.below Enc.byte_laws hW).mono Enc.byte_laws (Nat.le_refl _) hW.size) hrl (HM.out.below hW)
      obtain ⟨es, hes⟩ : ∃ es, es = (unpackB raw).ents := ⟨_, rfl⟩
      obtain ⟨ut, hut⟩ : ∃ ut, ut = (unpackB raw).tag := ⟨_, rfl⟩
      obtain ⟨uf, huf⟩ : ∃ uf, uf = unpackE raw := ⟨_, rfl⟩
      rw [← hes] at hla HOa hD ⊢
      rw [← hut] at hD ⊢
      rw [← huf] at hD ⊢
      obtain ⟨wb, hwb⟩ : ∃ wb, wb = wa.alloc (.cells #[.string ut, .slice Aa es.length ca] 24) := ⟨_, rfl⟩
      have hbb : Below wa.heap.size wa wb := by rw [hwb]; exact (Below.refl _ _).alloc (Nat.le_refl _) _
      obtain ⟨q, hq⟩ : ∃ q, q = wa.heap.size := ⟨_, rfl⟩
      have MB : Hid (Blk wb q 24 #[.string ut, .slice Aa es.length ca]) := Lib.hid (by rw [hwb, hq]; exact Blk.new _ _ _)
      have HBb := Lib.hid (HBa.out.trans (hbb.mono HBa.out.size))
      have HOb := Lib.hid (HOa.out.below Enc.ent_laws hbb)
      have hqb : wa.heap.size ≤ wb.heap.size := hbb.size
      have HD := Lib.hid (hD wb HBb.out)
      clear hua hba hD hes hut huf HOa HBa HB9 hbb
      go_upto_region 10 with fail
      rw [← hwb, ← hq]
      clear hwb hq
      go_wp2_with fail
      refine HD.out.mono ?_
      clear HD
      rintro e wc ⟨uc, rfl, huc, hbc⟩
      obtain ⟨Ac, cc, rfl, _⟩ := own_slice huc
      have HOc := Lib.hid (ents_of_own huc (Nat.le_refl _) (Nat.le_refl _))
      have HBc := Lib.hid (HBb.out.trans (hbc.mono HBb.out.size))
      have HOb2 := Lib.hid ((HOb.out.below Enc.ent_laws (hbc.mono hqb)))
      have hlb := MB.out.lt
      have MC := Lib.hid (MB.out.below hbc hlb)
      have hqc := hbc.size
      clear huc hbc HOb HBb MB
      obtain ⟨wd, hwd⟩ : ∃ wd, wd = wc.alloc (.cells #[.string ut, .slice Ac es.length cc] 24) := ⟨_, rfl⟩
      have hbd : Below wc.heap.size wc wd := by rw [hwd]; exact (Below.refl _ _).alloc (Nat.le_refl _) _
      obtain ⟨r, hr⟩ : ∃ r, r = wc.heap.size := ⟨_, rfl⟩
      have MR : Hid (Blk wd r 24 #[.string ut, .slice Ac es.length cc]) := Lib.hid (by rw [hwd, hr]; exact Blk.new _ _ _)
      have HBd := Lib.hid (HBc.out.trans (hbd.mono HBc.out.size))
      have HOc2 := Lib.hid (HOc.out.below Enc.ent_laws hbd)
      have HOb3 := Lib.hid (HOb2.out.below Enc.ent_laws (hbd.mono (Nat.le_trans hqb hqc)))
      have hlc := MC.out.lt
      have MD := Lib.hid (MC.out.below hbd hlc)
      have HS := Lib.hid (serror_any uf uf wd (HG.out.below HBd.out HG.out.lt))
      have hqd := hbd.size
      obtain ⟨VU, hVU⟩ : ∃ VU, VU = errV uf := ⟨_, rfl⟩
      rw [← hVU] at HS
      clear HOc HOb2 HBc MC hbd
      go_upto_region 11 with fail
      rw [← hwd, ← hr, ← hVU]
      clear hwd hr hVU
      go_wp2_with fail
      refine HS.out.mono ?_
      clear HS
      rintro e we ⟨rfl, hbe⟩
      have HBe := Lib.hid (HBd.out.trans (hbe.mono HBd.out.size))
      have HSB := Lib.hid (sbun_same ut es _ _ _ _ _ _ we (HOc2.out.below Enc.ent_laws (hbe.mono hqd)) (HOb3.out.below Enc.ent_laws (hbe.mono (Nat.le_trans hqb (Nat.le_trans hqc hqd)))) (Nat.le_trans hqd hbe.size) (Nat.le_trans hqb (Nat.le_trans hqc (Nat.le_trans hqd hbe.size))) (by omega))
      have ME := Lib.hid (MD.out.below hbe MD.out.lt)
      have MRE := Lib.hid (MR.out.below hbe MR.out.lt)
      have d0 : we.cell? ⟨q, 0, none⟩ = some (.string ut) := (ME.out.cell 0).trans rfl
      have d1 : we.cell? ⟨q, 1, none⟩ = some (.slice Aa es.length ca) := (ME.out.cell 1).trans rfl
      have e0 : we.cell? ⟨r, 0, none⟩ = some (.string ut) := (MRE.out.cell 0).trans rfl
      have e1 : we.cell? ⟨r, 1, none⟩ = some (.slice Ac es.length cc) := (MRE.out.cell 1).trans rfl
      have hdu : decide (uf = uf) = true := decide_eq_true rfl
      clear hbe HBd HOc2 HOb3 MD MR ME MRE hlb hlc hqb hqc hqd
      go_wp2_with fail
      refine HSB.out.mono ?_
      clear HSB
      rintro e wf ⟨rfl, hbf⟩
      have HBf := Lib.hid (HBe.out.trans (hbf.mono HBe.out.size))
      have HRf := Lib.hid ((HRaw.out.below Enc.byte_laws HBf.out).mono Enc.byte_laws (Nat.le_refl _) HBf.out.size)
      have HSu := Lib.hid (sum_any _ _ _ wf HRf.out (by omega))
      have HRx := Lib.hid (fun W (hW : Below w.heap.size w W) => refsum_any _ _ _ W ((HRaw.out.below Enc.byte_laws hW).mono Enc.byte_laws (Nat.le_refl _) hW.size) (by omega))
      generalize sumOf raw = S at *
      clear hbf HBe d0 d1 e0 e1 HRf
      go_wp2_with fail
      refine HSu.out.mono ?_
      clear HSu
      rintro e wg ⟨rfl, hbg⟩
      have HBg := Lib.hid (HBf.out.trans (hbg.mono HBf.out.size))
      have HR2 := Lib.hid (HRx.out wg HBg.out)
      clear hbg HBf HRx
      go_wp2_with fail
      refine HR2.out.mono ?_
      clear HR2
      rintro e wh ⟨rfl, rfl⟩
      go_wp2_with fail
      go_ret
      exact ⟨by simp, HBg.out⟩
  · have HEn := Lib.hid (encode_any ⟨bt, l⟩ _ w3 (HI.out.below HB3.out) (HM.out.below HB3.out))
    obtain ⟨F, hF⟩ : ∃ F, F = bunFault ⟨bt, l⟩ := ⟨_, rfl⟩
    have HF := Lib.hid hF
    have HfF : Hid (F ≠ 0) := Lib.hid (by rw [hF]; exact hf)
    have hFe : (F == 0) = false := by rw [beq_eq_false_iff_ne]; exact HfF.out
    rw [← hF]
    clear hF hf
    go_wp2_with fail
    refine HEn.out.mono ?_
    clear HEn
    rintro e w5 hr
    obtain ⟨hb5, ⟨hf', rfl⟩ | ⟨hR', _⟩⟩ := enc_uni hr
    · rw [← HF.out]
      have HB5 := Lib.hid (HB3.out.trans (hb5.mono HB3.out.size))
      have HS := Lib.hid (serror_any F F w5 (HG.out.below HB5.out HG.out.lt))
      obtain ⟨V, hV⟩ : ∃ V, V = errV F := ⟨_, rfl⟩
      rw [← hV] at HS ⊢
      clear hr hb5 c0 c1 M3 HB3 hV hf'
      go_wp2_with fail
      refine HS.out.mono ?_
      clear HS
      rintro e w6 ⟨rfl, hb6⟩
      have HB6 := Lib.hid (HB5.out.trans (hb6.mono HB5.out.size))
      have HS := Lib.hid (sbytes_any (.slice none 0 0) (.slice none 0 0) [] [] 0 0 0 0 w6 (ListOk.nil _ _) (ListOk.nil _ _) (by simp) (by simp))
      clear hb6 HB5
      have hd : decide (F = F) = true := decide_eq_true rfl
      go_wp2_with fail
      refine HS.out.mono ?_
      clear HS
      rintro e w9 ⟨rfl, hb9⟩
      have HB9 := Lib.hid (HB6.out.trans (hb9.mono HB6.out.size))
      clear hb9 HB6
      clear HI
      have hraw9 := (HRaw.out.below Enc.byte_laws HB9.out).mono Enc.byte_laws (Nat.le_refl _) HB9.out.size
      have HU := Lib.hid (unpackof_any _ _ _ w9 hraw9 hrl)
      clear hraw9
      go_wp2_with fail
      refine HU.out.mono ?_
      clear HU
      rintro e wa ⟨ua, rfl, hua, hba⟩
      have hla := unB_len raw
      obtain ⟨Aa, ca, rfl, _⟩ := own_slice hua
      have HOa := Lib.hid (ents_of_own hua (Nat.le_refl _) (Nat.le_refl _))
      have HBa := Lib.hid (HB9.out.trans (hba.mono HB9.out.size))
      have hD := fun W hW => decode_at lo' _ raw W ((HRaw.out.below Enc.byte_laws hW).mono Enc.byte_laws (Nat.le_refl _) hW.size) hrl (HM.out.below hW)
      obtain ⟨es, hes⟩ : ∃ es, es = (unpackB raw).ents := ⟨_, rfl⟩
      obtain ⟨ut, hut⟩ : ∃ ut, ut = (unpackB raw).tag := ⟨_, rfl⟩
      obtain ⟨uf, huf⟩ : ∃ uf, uf = unpackE raw := ⟨_, rfl⟩
      rw [← hes] at hla HOa hD ⊢
      rw [← hut] at hD ⊢
      rw [← huf] at hD ⊢
      obtain ⟨wb, hwb⟩ : ∃ wb, wb = wa.alloc (.cells #[.string ut, .slice Aa es.length ca] 24) := ⟨_, rfl⟩
      have hbb : Below wa.heap.size wa wb := by rw [hwb]; exact (Below.refl _ _).alloc (Nat.le_refl _) _
      obtain ⟨q, hq⟩ : ∃ q, q = wa.heap.size := ⟨_, rfl⟩
      have MB : Hid (Blk wb q 24 #[.string ut, .slice Aa es.length ca]) := Lib.hid (by rw [hwb, hq]; exact Blk.new _ _ _)
      have HBb := Lib.hid (HBa.out.trans (hbb.mono HBa.out.size))
      have HOb := Lib.hid (HOa.out.below Enc.ent_laws hbb)
      have hqb : wa.heap.size ≤ wb.heap.size := hbb.size
      have HD := Lib.hid (hD wb HBb.out)
      clear hua hba hD hes hut huf HOa HBa HB9 hbb
      go_upto_region 10 with fail
      rw [← hwb, ← hq]
      clear hwb hq
      go_wp2_with fail
      refine HD.out.mono ?_
      clear HD
      rintro e wc ⟨uc, rfl, huc, hbc⟩
      obtain ⟨Ac, cc, rfl, _⟩ := own_slice huc
      have HOc := Lib.hid (ents_of_own huc (Nat.le_refl _) (Nat.le_refl _))
      have HBc := Lib.hid (HBb.out.trans (hbc.mono HBb.out.size))
      have HOb2 := Lib.hid ((HOb.out.below Enc.ent_laws (hbc.mono hqb)))
      have hlb := MB.out.lt
      have MC := Lib.hid (MB.out.below hbc hlb)
      have hqc := hbc.size
      clear huc hbc HOb HBb MB
      obtain ⟨wd, hwd⟩ : ∃ wd, wd = wc.alloc (.cells #[.string ut, .slice Ac es.length cc] 24) := ⟨_, rfl⟩
      have hbd : Below wc.heap.size wc wd := by rw [hwd]; exact (Below.refl _ _).alloc (Nat.le_refl _) _
      obtain ⟨r, hr⟩ : ∃ r, r = wc.heap.size := ⟨_, rfl⟩
      have MR : Hid (Blk wd r 24 #[.string ut, .slice Ac es.length cc]) := Lib.hid (by rw [hwd, hr]; exact Blk.new _ _ _)
      have HBd := Lib.hid (HBc.out.trans (hbd.mono HBc.out.size))
      have HOc2 := Lib.hid (HOc.out.below Enc.ent_laws hbd)
      have HOb3 := Lib.hid (HOb2.out.below Enc.ent_laws (hbd.mono (Nat.le_trans hqb hqc)))
      have hlc := MC.out.lt
      have MD := Lib.hid (MC.out.below hbd hlc)
      have HS := Lib.hid (serror_any uf uf wd (HG.out.below HBd.out HG.out.lt))
      have hqd := hbd.size
      obtain ⟨VU, hVU⟩ : ∃ VU, VU = errV uf := ⟨_, rfl⟩
      rw [← hVU] at HS
      clear HOc HOb2 HBc MC hbd
      go_upto_region 11 with fail
      rw [← hwd, ← hr, ← hVU]
      clear hwd hr hVU
      go_wp2_with fail
      refine HS.out.mono ?_
      clear HS
      rintro e we ⟨rfl, hbe⟩
      have HBe := Lib.hid (HBd.out.trans (hbe.mono HBd.out.size))
      have HSB := Lib.hid (sbun_same ut es _ _ _ _ _ _ we (HOc2.out.below Enc.ent_laws (hbe.mono hqd)) (HOb3.out.below Enc.ent_laws (hbe.mono (Nat.le_trans hqb (Nat.le_trans hqc hqd)))) (Nat.le_trans hqd hbe.size) (Nat.le_trans hqb (Nat.le_trans hqc (Nat.le_trans hqd hbe.size))) (by omega))
      have ME := Lib.hid (MD.out.below hbe MD.out.lt)
      have MRE := Lib.hid (MR.out.below hbe MR.out.lt)
      have d0 : we.cell? ⟨q, 0, none⟩ = some (.string ut) := (ME.out.cell 0).trans rfl
      have d1 : we.cell? ⟨q, 1, none⟩ = some (.slice Aa es.length ca) := (ME.out.cell 1).trans rfl
      have e0 : we.cell? ⟨r, 0, none⟩ = some (.string ut) := (MRE.out.cell 0).trans rfl
      have e1 : we.cell? ⟨r, 1, none⟩ = some (.slice Ac es.length cc) := (MRE.out.cell 1).trans rfl
      have hdu : decide (uf = uf) = true := decide_eq_true rfl
      clear hbe HBd HOc2 HOb3 MD MR ME MRE hlb hlc hqb hqc hqd
      go_wp2_with fail
      refine HSB.out.mono ?_
      clear HSB
      rintro e wf ⟨rfl, hbf⟩
      have HBf := Lib.hid (HBe.out.trans (hbf.mono HBe.out.size))
      have HRf := Lib.hid ((HRaw.out.below Enc.byte_laws HBf.out).mono Enc.byte_laws (Nat.le_refl _) HBf.out.size)
      have HSu := Lib.hid (sum_any _ _ _ wf HRf.out (by omega))
      have HRx := Lib.hid (fun W (hW : Below w.heap.size w W) => refsum_any _ _ _ W ((HRaw.out.below Enc.byte_laws hW).mono Enc.byte_laws (Nat.le_refl _) hW.size) (by omega))
      generalize sumOf raw = S at *
      clear hbf HBe d0 d1 e0 e1 HRf
      go_wp2_with fail
      refine HSu.out.mono ?_
      clear HSu
      rintro e wg ⟨rfl, hbg⟩
      have HBg := Lib.hid (HBf.out.trans (hbg.mono HBf.out.size))
      have HR2 := Lib.hid (HRx.out wg HBg.out)
      clear hbg HBf HRx
      go_wp2_with fail
      refine HR2.out.mono ?_
      clear HR2
      rintro e wh ⟨rfl, rfl⟩
      go_wp2_with fail
      go_ret
      exact ⟨by simp, HBg.out⟩
    · exact absurd ((right_iff ⟨bt, l⟩).2 hR') (by rw [← HF.out]; exact HfF.out)
end Go.Proofs.YtmpjfomfibkbnaaGreatDoor
