/- The law PackBack. -/
import Derived.Test.YtmpjfomfibkbnaaGreatDoorPackB
import Derived.Test.YtmpjfomfibkbnaaGreatDoorQSort
set_option linter.unusedSimpArgs false
set_option linter.unusedVariables false
namespace Go.Proofs.YtmpjfomfibkbnaaGreatDoor
open Go.RowKit

/-- a bundle that Decode has told, as one that is handed in -/
theorem told_in {w w' : World} {B : Nat} {u : Value} {b : Bun} (hr : Right b) (h : w.ownsRow B 32 2 u b.ents.length (flatE b.ents)) (hb : Below w.heap.size w w') : BunIn w' b u :=
  ⟨⟨0, (ents_later h hb).mono Enc.ent_laws (Nat.le_refl _) hb.size⟩, by have := tag_short hr.tag; omega, by have := hr.len; omega, fun e he => by
    have h1 := key_40 (hr.each e he).1
    have h2 := (hr.each e he).2
    omega⟩
/-- The law's two boxes. -/
structure BackSt (w wx : World) (bt : ByteArray) (A : Option Addr) (n c : Nat) : Prop where
  box : Blk wx w.heap.size 24 #[.string bt, .slice A n c]
  below : Below w.heap.size w wx

set_option maxHeartbeats 6400000 in
set_option maxRecDepth 100000 in
theorem packBack_any (b : Bun) (v rv : Value) (raw : List UInt8) (lo' : Nat) (w : World) (h : BunIn w b v) (hraw : ListOk Enc.byte w lo' w.heap.size rv raw) (hrl : raw.length ≤ 1000000000) (hm : MaxVar w) :
    Calls Tryz.prog 4 #[.agg #[.string b.tag, v], rv] w fun e w' => e = .returned (.bool true) ∧ Below w.heap.size w w' := by
  obtain ⟨lo, hl⟩ := h.lo
  obtain ⟨A, c, rfl, _⟩ := hl.form
  obtain ⟨RA, rc, rfl, _⟩ := hraw.form
  have HI := Lib.hid h
  have HM := Lib.hid hm
  have HRw := Lib.hid hraw
  have HL := Lib.hid hl
  obtain ⟨bt, l⟩ := b
  dsimp only at *
  clear h hm hl hraw
  go_enter Tryz.func4, Tryz.ntmps4
  go_wp2_with fail
  have hb1 : Below w.heap.size w (w.alloc (.cells #[.string bt, .slice A l.length c] 24)) := (Below.refl _ _).alloc (Nat.le_refl _) _
  refine (packed_any _ (HM.out.below hb1)).mono ?_
  rintro e w2 ⟨rfl, hb2⟩
  have m2 := (Blk.new w 24 #[.string bt, .slice A l.length c]).below hb2 (by simp)
  have hB2 := hb1.trans (hb2.mono (by simp))
  have HD := Lib.hid (decode_at _ _ _ w2 ((HRw.out.below Enc.byte_laws hB2).mono Enc.byte_laws (Nat.le_refl _) hB2.size) hrl (HM.out.below hB2))
  have S2 : Hid (BackSt w w2 bt A l.length c) := Lib.hid ⟨m2, hB2⟩
  clear hb1 hb2 m2 hB2
  go_wp2_with fail
  refine HD.out.mono ?_
  clear HD
  rintro e w3 ⟨u, rfl, hu, hb3⟩
  obtain ⟨A3, c3, rfl, _⟩ := own_slice hu
  have hb4 : Below w2.heap.size w2 (w3.alloc (.cells #[.string (unpackB raw).tag, .slice A3 (unpackB raw).ents.length c3] 24)) := hb3.alloc hb3.size _
  have S4 : Hid (BackSt w (w3.alloc (.cells #[.string (unpackB raw).tag, .slice A3 (unpackB raw).ents.length c3] 24)) bt A l.length c) := Lib.hid ⟨S2.out.box.below hb4 S2.out.box.lt, S2.out.below.trans (hb4.mono S2.out.below.size)⟩
  have MY := Lib.hid (Blk.new w3 24 #[.string (unpackB raw).tag, .slice A3 (unpackB raw).ents.length c3])
  have HYin : Hid (unpackE raw = 0 → Right (unpackB raw) ∧ bytesB (unpackB raw) = raw ∧ BunIn (w3.alloc (.cells #[.string (unpackB raw).tag, .slice A3 (unpackB raw).ents.length c3] 24)) (unpackB raw) (.slice A3 (unpackB raw).ents.length c3)) := Lib.hid fun h0 => by
    obtain ⟨h1, _, h2⟩ := bytes_unpack h0
    exact ⟨h1, h2, told_in h1 hu ((Below.refl _ _).alloc (Nat.le_refl _) _)⟩
  clear hu hb3 hb4 S2
  obtain ⟨w4, hw4⟩ : ∃ w4, w4 = w3.alloc (.cells #[.string (unpackB raw).tag, .slice A3 (unpackB raw).ents.length c3] 24) := ⟨_, rfl⟩
  obtain ⟨p, hp⟩ : ∃ p, p = w3.heap.size := ⟨_, rfl⟩
  obtain ⟨E, hE⟩ : ∃ E, E = errV (unpackE raw) := ⟨_, rfl⟩
  obtain ⟨D, hD⟩ : ∃ D, D = decide (unpackE raw = 0) := ⟨_, rfl⟩
  have HG : ∀ W : World, Sem.run Tryz.prog (eqGuard BinOp.eql 28 (Operand.tmp 24) (Operand.const Value.nilIface) E Value.nilIface) W = .ok () W := fun W => by
    rw [hE]
    by_cases h : unpackE raw = 0
    · rw [h, errV_zero]; go_simp
    · rw [errV_ne h]; go_simp
  have HQ : ∀ W : World, Sem.run Tryz.prog (binOp BinOp.eql 28 E Value.nilIface) W = .ok (.bool D) W := fun W => by
    rw [hE, hD]
    by_cases h : unpackE raw = 0
    · rw [h, errV_zero]; go_simp; try rfl
    · rw [errV_ne h, decide_eq_false h]; go_simp; try rfl
  rw [← hE]
  have HYin2 : Hid (D = true → Right (unpackB raw) ∧ bytesB (unpackB raw) = raw ∧ BunIn (w3.alloc (.cells #[.string (unpackB raw).tag, .slice A3 (unpackB raw).ents.length c3] 24)) (unpackB raw) (.slice A3 (unpackB raw).ents.length c3)) := Lib.hid fun h0 => HYin.out (of_decide_eq_true (hD ▸ h0))
  clear hE hD HYin
  go_upto_if 25 with fail
  rw [← hw4, ← hp]
  rw [← hw4] at S4 HYin2 MY
  rw [← hp] at MY
  clear hw4 hp
  generalize unpackB raw = y at *
  have k0 : w4.cell? ⟨p, 0, none⟩ = some (.string y.tag) := (MY.out.cell 0).trans rfl
  have k1 : w4.cell? ⟨p, 1, none⟩ = some (.slice A3 y.ents.length c3) := (MY.out.cell 1).trans rfl
  go_cut [8, 9, 10] (fun _ _ _ wx => BackSt w wx bt A l.length c)
  case first =>
    cases D with
    | true =>
      obtain ⟨hy, hyb, hyi⟩ := HYin2.out rfl
      have HE := Lib.hid (encode_any y _ w4 hyi (HM.out.below S4.out.below))
      have HRw4 : Hid (ListOk Enc.byte w4 lo' w.heap.size (.slice RA raw.length rc) raw) := Lib.hid (HRw.out.below Enc.byte_laws S4.out.below)
      have HY := Lib.hid hy
      have HYB := Lib.hid hyb
      clear HYin2 hy hyb hyi
      go_wp2_with fail
      refine HE.out.mono ?_
      clear HE
      rintro e w5 hr
      obtain ⟨hb5, ⟨hf, rfl⟩ | ⟨_, A5, c5, rfl, hu5⟩⟩ := enc_uni hr
      · exact absurd ((right_iff y).2 HY.out) hf
      · have S5 : Hid (BackSt w w5 bt A l.length c) := Lib.hid ⟨S4.out.box.below hb5 S4.out.box.lt, S4.out.below.trans (hb5.mono S4.out.below.size)⟩
        have hok := bytes_of_own hu5 (Nat.le_refl w4.heap.size) (Nat.le_refl _)
        rw [HYB.out] at hok
        have hs4 := S4.out.below.size
        have HSb := Lib.hid (sbytes_any _ _ raw raw _ _ _ _ w5 hok (HRw4.out.below Enc.byte_laws (hb5.mono hs4)) (by omega) (by omega))
        rw [HYB.out] at hr ⊢
        have hT : decide (raw = raw) = true := decide_eq_true rfl
        rw [hT] at HSb
        clear hr hb5 hu5 hok hT k0 k1
        go_wp2_with fail
        refine HSb.out.mono ?_
        clear HSb
        rintro e w6 ⟨rfl, hb6⟩
        have S6 : Hid (BackSt w w6 bt A l.length c) := Lib.hid ⟨S5.out.box.below hb6 S5.out.box.lt, S5.out.below.trans (hb6.mono S5.out.below.size)⟩
        clear hb6 S5
        go_wp2_with fail
        go_meet
        case rel => exact S6.out
    | false =>
      clear HYin2 k0 k1
      go_wp2_with fail
      go_meet
      case rel => exact S4.out
  case rest =>
    have SC := Lib.hid hcut
    clear hcut S4 HYin2 MY HRw k0 k1 HG HQ
    have k0 : wc.cell? ⟨w.heap.size, 0, none⟩ = some (.string bt) := (SC.out.box.cell 0).trans rfl
    have k1 : wc.cell? ⟨w.heap.size, 1, none⟩ = some (.slice A l.length c) := (SC.out.box.cell 1).trans rfl
    have HE := Lib.hid (encode_any ⟨bt, l⟩ _ wc (HI.out.below SC.out.below) (HM.out.below SC.out.below))
    go_wp2_with fail
    refine HE.out.mono ?_
    clear HE
    rintro e w5 hr
    obtain ⟨hb5, ⟨hf, rfl⟩ | ⟨hR, A5, c5, rfl, hu5⟩⟩ := enc_uni hr
    · have HB5 := Lib.hid (SC.out.below.trans (hb5.mono SC.out.below.size))
      rw [errV_ne hf]
      clear hr hb5 k0 k1
      go_wp2_with fail
      go_ret
      exact ⟨rfl, HB5.out⟩
    · have hlen := bytes_le hR
      have HR := Lib.hid hR
      have S5 : Hid (BackSt w w5 bt A l.length c) := Lib.hid ⟨SC.out.box.below hb5 SC.out.box.lt, SC.out.below.trans (hb5.mono SC.out.below.size)⟩
      obtain ⟨g1, g2⟩ := unpack_bytes hR
      have HD := Lib.hid (decode_at _ _ _ w5 (bytes_of_own hu5 (Nat.le_refl wc.heap.size) (Nat.le_refl _)) (by omega) (HM.out.below S5.out.below))
      rw [g1, g2, errV_zero] at HD
      dsimp only at HD
      clear hr hb5 hu5 k0 k1 g1 g2 hR
      go_wp2_with fail
      refine HD.out.mono ?_
      clear HD
      rintro e w6 ⟨u6, rfl, hu6, hb6⟩
      obtain ⟨A6, c6, rfl, _⟩ := own_slice hu6
      have hb7 : Below w5.heap.size w5 (w6.alloc (.cells #[.string bt, .slice A6 (srt l).length c6] 24)) := hb6.alloc hb6.size _
      obtain ⟨w7, hw7⟩ : ∃ w7, w7 = w6.alloc (.cells #[.string bt, .slice A6 (srt l).length c6] 24) := ⟨_, rfl⟩
      obtain ⟨q, hq⟩ : ∃ q, q = w6.heap.size := ⟨_, rfl⟩
      have MZ : Hid (Blk w7 q 24 #[.string bt, .slice A6 (srt l).length c6]) := Lib.hid (by rw [hw7, hq]; exact Blk.new _ _ _)
      rw [← hw7] at hb7
      have S7 : Hid (BackSt w w7 bt A l.length c) := Lib.hid ⟨S5.out.box.below hb7 S5.out.box.lt, S5.out.below.trans (hb7.mono S5.out.below.size)⟩
      have HZ : Hid (∀ W, Below w7.heap.size w7 W → ListOk Enc.ent W 0 w6.heap.size (.slice A6 (srt l).length c6) (srt l)) := Lib.hid fun W hW => ents_later hu6 (by
        have h1 : Below w6.heap.size w6 w7 := by rw [hw7]; exact (Below.refl _ _).alloc (Nat.le_refl _) _
        exact h1.trans (hW.mono h1.size))
      have hs67 : w6.heap.size ≤ w7.heap.size := by rw [hw7]; simp
      have HL7 : Hid (∀ W, Below w7.heap.size w7 W → ListOk Enc.ent W lo W.heap.size (.slice A l.length c) l) := Lib.hid fun W hW => by
        have h1 := S7.out.below.trans (hW.mono S7.out.below.size)
        exact (HL.out.below Enc.ent_laws h1).mono Enc.ent_laws (Nat.le_refl _) h1.size
      have hl100 : l.length ≤ 100 := HR.out.len
      have hSl : (srt l).length = l.length := srt_length HR.out.uniq
      have HSo : Hid (∀ W, Below w7.heap.size w7 W → Calls Tryz.prog 14 #[.slice A l.length c] W fun e w' => ∃ A8 c8, e = .returned (.slice A8 (srt l).length c8) ∧ ListOk Enc.ent w' 0 w'.heap.size (.slice A8 (srt l).length c8) (srt l) ∧ Below W.heap.size W w') := Lib.hid fun W hW => by
        refine (qsorted_any _ l lo W (HL7.out W hW) (by omega)).mono ?_
        rintro e w' ⟨v', rfl, hv', hb'⟩
        rw [qSorted_srt HR.out.uniq, ← hSl] at hv'
        obtain ⟨A8, c8, rfl, _⟩ := own_slice hv'
        exact ⟨A8, c8, rfl, ents_of_own hv' (Nat.zero_le _) (Nat.le_refl _), hb'⟩
      have HSB : Hid (∀ W A8 c8, Below w7.heap.size w7 W → ListOk Enc.ent W 0 W.heap.size (.slice A8 (srt l).length c8) (srt l) → Calls Tryz.prog 13 #[.agg #[.string bt, .slice A6 (srt l).length c6], .agg #[.string bt, .slice A8 (srt l).length c8]] W fun e w' => e = .returned (.bool true) ∧ Below W.heap.size W w') := Lib.hid fun W A8 c8 hW h8 =>
        sbun_same bt (srt l) _ _ _ _ _ _ W (HZ.out W hW) h8 (Nat.le_trans hs67 hW.size) (Nat.le_refl _) (by omega)
      have z0 : w7.cell? ⟨q, 0, none⟩ = some (.string bt) := (MZ.out.cell 0).trans rfl
      have z1 : w7.cell? ⟨q, 1, none⟩ = some (.slice A6 (srt l).length c6) := (MZ.out.cell 1).trans rfl
      have y0 : w7.cell? ⟨w.heap.size, 0, none⟩ = some (.string bt) := (S7.out.box.cell 0).trans rfl
      have y1 : w7.cell? ⟨w.heap.size, 1, none⟩ = some (.slice A l.length c) := (S7.out.box.cell 1).trans rfl
      have KS : Hid (∀ W, Below w7.heap.size w7 W → W.cell? ⟨q, 0, none⟩ = some (.string bt) ∧ W.cell? ⟨q, 1, none⟩ = some (.slice A6 (srt l).length c6) ∧ W.cell? ⟨w.heap.size, 0, none⟩ = some (.string bt) ∧ W.cell? ⟨w.heap.size, 1, none⟩ = some (.slice A l.length c)) := Lib.hid fun W hW =>
        ⟨(hW.cell (p := ⟨q, 0, none⟩) MZ.out.lt).trans z0, (hW.cell (p := ⟨q, 1, none⟩) MZ.out.lt).trans z1, (hW.cell (p := ⟨w.heap.size, 0, none⟩) S7.out.box.lt).trans y0, (hW.cell (p := ⟨w.heap.size, 1, none⟩) S7.out.box.lt).trans y1⟩
      clear hu6 hb6 hb7 z0 z1 y0 y1 HZ HL7 hSl
      generalize srt l = S at *
      go_upto_region 14 with fail
      rw [← hw7, ← hq]
      clear hw7 hq hs67
      go_region_held3 (fun w' => w'.cell? ⟨q, 0, none⟩ = some (.string bt) ∧ w'.cell? ⟨q, 1, none⟩ = some (.slice A6 S.length c6) ∧ w'.cell? ⟨w.heap.size, 0, none⟩ = some (.string bt) ∧ w'.cell? ⟨w.heap.size, 1, none⟩ = some (.slice A l.length c))
        (first | exact KS.out _ (Below.refl _ _).drew | exact KS.out _ hb9 | exact KS.out _ hb8)
        (first
          | (go_at_call 14
             refine (HSo.out _ (by first | exact Below.refl _ _ | exact (Below.refl _ _).drew)).mono ?_
             rintro e w8 ⟨A8, c8, rfl, hv8, hb8⟩
             have hb8 : Below w7.heap.size w7 w8 := by first | exact hb8 | exact below_undrew hb8)
          | (go_at_call 13
             refine (HSB.out _ _ _ hb8 hv8).mono ?_
             rintro e w9 ⟨rfl, hb9⟩
             have hb9 : Below w7.heap.size w7 w9 := hb8.trans (hb9.mono hb8.size)))
      have HB9 := Lib.hid (S7.out.below.trans (hb9.mono S7.out.below.size))
      clear hb8 hb9 hv8 HSo HSB KS
      go_wp2_with fail
      go_ret
      exact ⟨rfl, HB9.out⟩
end Go.Proofs.YtmpjfomfibkbnaaGreatDoor
