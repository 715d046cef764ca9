/- The walk of linguisterlaw4.PropTells. -/
import Derived.Test.YtoneheloojlifaaGreatDoorLined
namespace Go.Proofs.YtoneheloojlifaaGreatDoor
open Go.RowKit

theorem isof_len {s : List UInt8} {b : Bun} {ls : List (List UInt8)} (h : IsOf s b ls) : b.ents.length ≤ 100 := h.right.len
set_option maxHeartbeats 6400000 in
set_option maxRecDepth 100000 in
theorem propTells_any (b : Bun) (v : Value) (s : ByteArray) (w : World) (h : BunIn w b v) (hs : s.size ≤ 100000000) (hm : MaxVar w) (hE : ErrVar w) :
    Calls Tryz.prog 5 #[.agg #[.string b.tag, v], .string s] w fun e w' => e = .returned (.bool true) ∧ Below w.heap.size w w' := by
  have HMx : Hid (∀ W, Below w.heap.size w W → MaxVar W) := Lib.hid fun W hW => hm.below hW
  have HEx : Hid (∀ W, Below w.heap.size w W → ErrVar W) := Lib.hid fun W hW => hE.below hW hE.lt
  have HIn : Hid (∀ W, Below w.heap.size w W → BunIn W b v) := Lib.hid fun W hW => h.below hW
  obtain ⟨lo, hl⟩ := h.lo
  obtain ⟨A, c, rfl, _⟩ := hl.form
  obtain ⟨F, hF⟩ : ∃ F, F = bunFault b := ⟨_, rfl⟩
  obtain ⟨T, hT⟩ : ∃ T : ByteArray, T = if F = 0 then linesS b else ⟨#[]⟩ := ⟨_, rfl⟩
  have HTT : Hid (TextTold b = .tuple #[.string T, errV F]) := Lib.hid (by
    unfold TextTold
    rw [← hF, hT]
    by_cases h0 : F = 0
    · rw [if_pos h0, if_pos h0, h0]; rfl
    · rw [if_neg h0, if_neg h0])
  have HLn : Hid (F = 0 → ∀ W, Below w.heap.size w W → Calls Tryz.prog 16 #[.agg #[.string b.tag, .slice A b.ents.length c]] W fun e w' => e = .returned (.string T) ∧ Below W.heap.size W w') := Lib.hid fun h0 W hW => by
    have hR : Right b := (right_iff b).1 (by rw [← hF, h0])
    have h1 := lines_any b _ W (h.below hW) (by have := linesN_bound hR b.ents.length (Nat.le_refl _); rw [linesN_all] at this; have := h.tag; have := hR.len; omega) (fun e he => by have := (hR.each e he).2; omega)
    rw [hT, if_pos h0]; exact h1
  have HTn : Hid (F ≠ 0 → T = ⟨#[]⟩) := Lib.hid fun h0 => by rw [hT, if_neg h0]
  have HFb : Hid (∀ W, Below w.heap.size w W → Calls Tryz.prog 13 #[.agg #[.string b.tag, .slice A b.ents.length c]] W fun e w' => e = .returned (.int .i64 F) ∧ Below W.heap.size W w') := Lib.hid fun W hW => by rw [hF]; exact qbunfault_any b _ W (h.below hW)
  have HCk : Hid (∀ W, Below w.heap.size w W → Calls Tryz.prog 15 #[.agg #[.string b.tag, .slice A b.ents.length c]] W fun e w' => e = .returned (errV F) ∧ Below W.heap.size W w') := Lib.hid fun W hW => by rw [hF]; exact bunCheck_any b _ W (h.below hW) (hm.below hW)
  have HTx : Hid (∀ W, Below w.heap.size w W → Calls Tryz.prog 10 #[.agg #[.string b.tag, .slice A b.ents.length c]] W fun e w' => e = .returned (.tuple #[.string T, errV F]) ∧ Below W.heap.size W w') := Lib.hid fun W hW => by
    have h1 := ptext_any b _ W (h.below hW) (hm.below hW)
    rwa [HTT.out] at h1
  have HEr : Hid (∀ W, Below w.heap.size w W → Calls Tryz.prog 14 #[errV F, .int .i64 F] W fun e w' => e = .returned (.bool true) ∧ Below W.heap.size W w') := Lib.hid fun W hW => by
    have h1 := serror_any F F W (hE.below hW hE.lt)
    rwa [decide_eq_true rfl] at h1
  obtain ⟨W1, eW1⟩ : ∃ W1, W1 = w.alloc (.cells #[.string b.tag, .slice A b.ents.length c] 24) := ⟨_, rfl⟩
  have m1 : Blk W1 w.heap.size 24 #[.string b.tag, .slice A b.ents.length c] := by rw [eW1]; exact Blk.new _ _ _
  have hb1 : Below w.heap.size w W1 := by rw [eW1]; exact (Below.refl _ _).alloc (Nat.le_refl _) _
  have M1 := Lib.hid m1
  have HB1 := Lib.hid hb1
  have hs1 := m1.lt
  have HLd := Lib.hid (lined_any W1 (hm.below hb1))
  have EW := Lib.hid eW1
  clear h hl hm hE hF hT m1 hb1 eW1 HTT
  go_enter Tryz.func5, Tryz.ntmps5
  go_upto_region 1 with fail
  rw [← EW.out]
  clear EW
  go_wp2_with fail
  refine HLd.out.mono ?_
  clear HLd
  rintro e w2 ⟨rfl, hb2⟩
  have M2 := Lib.hid (M1.out.below hb2 hs1)
  have HB2 := Lib.hid (HB1.out.trans (hb2.mono (Nat.le_of_lt hs1)))
  have k0 := (M2.out.cell 0).trans (show _ = some (.string b.tag) from rfl)
  have k1 := (M2.out.cell 1).trans (show _ = some (.slice A b.ents.length c) from rfl)
  clear hb2 M1 HB1 hs1
  have C := Lib.hid (HFb.out _ HB2.out)
  go_wp2_with fail
  refine C.out.mono ?_
  clear C HFb
  rintro e w3 ⟨rfl, hb3⟩
  have M3 := Lib.hid (M2.out.below hb3 M2.out.lt)
  have HB3 := Lib.hid (HB2.out.trans (hb3.mono HB2.out.size))
  clear k0 k1 hb3 M2 HB2
  have k0 := (M3.out.cell 0).trans (show _ = some (.string b.tag) from rfl)
  have k1 := (M3.out.cell 1).trans (show _ = some (.slice A b.ents.length c) from rfl)
  have C := Lib.hid (HCk.out _ HB3.out)
  go_wp2_with fail
  refine C.out.mono ?_
  clear C HCk
  rintro e w4 ⟨rfl, hb4⟩
  have M4 := Lib.hid (M3.out.below hb4 M3.out.lt)
  have HB4 := Lib.hid (HB3.out.trans (hb4.mono HB3.out.size))
  clear k0 k1 hb4 M3 HB3
  have C := Lib.hid (HEr.out _ HB4.out)
  go_wp2_with fail
  refine C.out.mono ?_
  clear C
  rintro e w5 ⟨rfl, hb5⟩
  have M5 := Lib.hid (M4.out.below hb5 M4.out.lt)
  have HB5 := Lib.hid (HB4.out.trans (hb5.mono HB4.out.size))
  clear hb5 M4 HB4
  go_upto_if 26 with fail
  go_cut [8] (fun t wx => t = .string T ∧ Below w5.heap.size w5 wx)
  case first =>
    have k0 := (M5.out.cell 0).trans (show _ = some (.string b.tag) from rfl)
    have k1 := (M5.out.cell 1).trans (show _ = some (.slice A b.ents.length c) from rfl)
    by_cases h0 : F = 0
    · have C := Lib.hid (HLn.out h0 _ HB5.out)
      subst h0
      go_wp2_with fail
      refine C.out.mono ?_
      clear C
      rintro e w6 ⟨rfl, hb6⟩
      go_wp2_with fail
      go_meet
      case rel => exact ⟨rfl, hb6⟩
    · have e0 := HTn.out h0
      have h0' : (F == 0) = false := by rw [beq_eq_false_iff_ne]; exact h0
      go_wp2_with fail
      go_meet
      case rel => exact ⟨by rw [e0], Below.refl _ _⟩
  case rest =>
    obtain ⟨rfl, hbc⟩ := hcut
    have M6 := Lib.hid (M5.out.below hbc M5.out.lt)
    have HB6 := Lib.hid (HB5.out.trans (hbc.mono HB5.out.size))
    have k0 := (M6.out.cell 0).trans (show _ = some (.string b.tag) from rfl)
    have k1 := (M6.out.cell 1).trans (show _ = some (.slice A b.ents.length c) from rfl)
    have C := Lib.hid (HTx.out _ HB6.out)
    clear hbc M5 HB5 HLn HTn HTx
    go_wp2_with fail
    refine C.out.mono ?_
    clear C
    rintro e w5 ⟨rfl, hb5⟩
    have HB5 := Lib.hid (HB6.out.trans (hb5.mono HB6.out.size))
    clear k0 k1 hb5 M6 HB6
    have C := Lib.hid (HEr.out _ HB5.out)
    go_wp2_with fail
    refine C.out.mono ?_
    clear C HEr
    rintro e w4 ⟨rfl, hb4⟩
    have HB4 := Lib.hid (HB5.out.trans (hb4.mono HB5.out.size))
    have HBo := Lib.hid (bundleof_any s w4 hs)
    clear hb4 HB5
    go_wp2_with fail
    refine HBo.out.mono ?_
    clear HBo
    rintro e w6 ⟨hb6, hres1⟩
    have HB6 := Lib.hid (HB4.out.trans (hb6.mono HB4.out.size))
    rcases hres1 with ⟨b2, ls, V1, hIs, rfl, hrow⟩ | ⟨hno, rfl⟩
    · obtain ⟨A1, c1, rfl, _⟩ := own_slice hrow
      have HIs := Lib.hid hIs
      have hn100 := isof_len hIs
      have HL1 : Hid (ListOk Enc.ent w6 0 w6.heap.size (.slice A1 b2.ents.length c1) b2.ents) := Lib.hid ((ents_of_own hrow (Nat.le_refl _) (Nat.le_refl _)).mono Enc.ent_laws (Nat.zero_le _) (Nat.le_refl _))
      clear hIs hrow hb6 HB4
      obtain ⟨W6, hW6⟩ : ∃ W6, W6 = w6.alloc (.cells #[.string b2.tag, .slice A1 b2.ents.length c1] 24) := ⟨_, rfl⟩
      have m6 : Blk W6 w6.heap.size 24 #[.string b2.tag, .slice A1 b2.ents.length c1] := by rw [hW6]; exact Blk.new _ _ _
      have hb6' : Below w6.heap.size w6 W6 := by rw [hW6]; exact (Below.refl _ _).alloc (Nat.le_refl _) _
      have M6 := Lib.hid m6
      have HL6 : Hid (∀ W, Below w6.heap.size w6 W → ListOk Enc.ent W 0 w6.heap.size (.slice A1 b2.ents.length c1) b2.ents) := Lib.hid fun W hW => HL1.out.keep Enc.ent_laws (Alk.mono (Alk.of_below hW) (Nat.zero_le _) (Nat.le_refl _))
      have HBx := Lib.hid (HB6.out.trans (hb6'.mono HB6.out.size))
      have HB66 := Lib.hid hb6'
      have hs66 : w6.heap.size < W6.heap.size := m6.lt
      have HPs := Lib.hid (pparse_any s W6 hs (HMx.out _ HBx.out))
      have HW6 := Lib.hid hW6
      clear m6 hb6' hW6
      go_upto_region 11 with fail
      rw [← HW6.out]
      clear HW6
      go_wp2_with fail
      refine HPs.out.mono ?_
      clear HPs
      rintro e w7 ⟨hb7, hres⟩
      obtain ⟨V2, rfl, hV2⟩ : ∃ V2, e = .returned (.tuple #[.agg #[.string b2.tag, V2], errV 0]) ∧ w7.ownsRow W6.heap.size 62 2 V2 b2.ents.length (flatE b2.ents) := by
        rcases hres with ⟨b3, ls3, V2, h3, rfl, ho⟩ | ⟨hn, _⟩
        · obtain ⟨rfl, rfl⟩ := HIs.out.same h3
          exact ⟨V2, rfl, ho⟩
        · exact absurd HIs.out (hn _ _)
      have hb67 : Below w6.heap.size w6 w7 := HB66.out.trans (hb7.mono (Nat.le_of_lt hs66))
      have m7 := M6.out.below hb7 hs66
      obtain ⟨A2, c2, rfl, _⟩ := own_slice hV2
      obtain ⟨W7, hW7⟩ : ∃ W7, W7 = w7.alloc (.cells #[.string b2.tag, .slice A2 b2.ents.length c2] 24) := ⟨_, rfl⟩
      have hb77 : Below w7.heap.size w7 W7 := by rw [hW7]; exact (Below.refl _ _).alloc (Nat.le_refl _) _
      have n7 : Blk W7 w7.heap.size 24 #[.string b2.tag, .slice A2 b2.ents.length c2] := by rw [hW7]; exact Blk.new _ _ _
      have HB7 : Hid (Below w.heap.size w W7) := Lib.hid (HBx.out.trans ((hb7.mono HBx.out.size).trans (hb77.mono (by have := HBx.out.size; have := hb7.size; omega))))
      have N7 := Lib.hid n7
      have N6 := Lib.hid (m7.below hb77 m7.lt)
      have HB67 : Hid (Below w6.heap.size w6 W7) := Lib.hid (hb67.trans (hb77.mono hb67.size))
      have HLy : Hid (ListOk Enc.ent W7 0 w7.heap.size (.slice A2 b2.ents.length c2) b2.ents) := Lib.hid (((ents_of_own hV2 (Nat.le_refl _) (Nat.le_refl _)).below Enc.ent_laws hb77).mono Enc.ent_laws (Nat.zero_le _) (Nat.le_refl _))
      have hs7 := n7.lt
      have hs67 : w6.heap.size < W7.heap.size := N6.out.lt
      have HErr := Lib.hid (serror_any 0 0 W7 (HEx.out _ HB7.out))
      rw [decide_eq_true rfl] at HErr
      have HW7 := Lib.hid hW7
      clear hb7 hres hV2 hb67 m7 hb77 n7 hW7 M6
      go_upto_region 14 with fail
      rw [← HW7.out]
      clear HW7
      go_wp2_with fail
      refine HErr.out.mono ?_
      clear HErr
      rintro e w8 ⟨rfl, hb8⟩
      have j0 := ((N7.out.below hb8 hs7).cell 0).trans (show _ = some (.string b2.tag) from rfl)
      have j1 := ((N7.out.below hb8 hs7).cell 1).trans (show _ = some (.slice A2 b2.ents.length c2) from rfl)
      have q0 := ((N6.out.below hb8 hs67).cell 0).trans (show _ = some (.string b2.tag) from rfl)
      have q1 := ((N6.out.below hb8 hs67).cell 1).trans (show _ = some (.slice A1 b2.ents.length c1) from rfl)
      have HSb := Lib.hid (sbunS_any b2.tag b2.ents (.slice A2 b2.ents.length c2) (.slice A1 b2.ents.length c1) 0 w7.heap.size 0 w6.heap.size w8 (HLy.out.keep Enc.ent_laws (Alk.mono (Alk.of_below hb8) (Nat.zero_le _) (by omega))) (HL6.out w8 (HB67.out.trans (hb8.mono (by omega)))) (by have := hb8.size; omega) (by have := hb8.size; omega) (by omega))
      have HB8 : Hid (Below w.heap.size w w8) := Lib.hid (HB7.out.trans (hb8.mono HB7.out.size))
      clear hb8 HLy HL6 HB67 N6 N7
      go_wp2_with fail
      refine HSb.out.mono ?_
      clear HSb
      rintro e w9 ⟨rfl, hb9⟩
      have HB9 : Hid (Below w.heap.size w w9) := Lib.hid (HB8.out.trans (hb9.mono HB8.out.size))
      have hTT : (T.toList == T.toList) = true := by simp
      clear hb9 j0 j1 q0 q1
      go_wp2_with fail
      go_ret
      exact ⟨rfl, HB9.out⟩
    · have HNo := Lib.hid hno
      have HL1 : Hid (ListOk Enc.ent w6 0 w6.heap.size (.slice none 0 0) ([] : List Ent)) := Lib.hid (ListOk.nil 0 none)
      have hn100 : ([] : List Ent).length ≤ 100 := by decide
      clear hno hb6 HB4
      obtain ⟨W6, hW6⟩ : ∃ W6, W6 = w6.alloc (.cells #[.string ⟨#[]⟩, .slice none 0 0] 24) := ⟨_, rfl⟩
      have m6 : Blk W6 w6.heap.size 24 #[.string ⟨#[]⟩, .slice none 0 0] := by rw [hW6]; exact Blk.new _ _ _
      have hb6' : Below w6.heap.size w6 W6 := by rw [hW6]; exact (Below.refl _ _).alloc (Nat.le_refl _) _
      have M6 := Lib.hid m6
      have HL6 : Hid (∀ W, Below w6.heap.size w6 W → ListOk Enc.ent W 0 w6.heap.size (.slice none 0 0) ([] : List Ent)) := Lib.hid fun W hW => HL1.out.keep Enc.ent_laws (Alk.mono (Alk.of_below hW) (Nat.zero_le _) (Nat.le_refl _))
      have HBx := Lib.hid (HB6.out.trans (hb6'.mono HB6.out.size))
      have HB66 := Lib.hid hb6'
      have hs66 : w6.heap.size < W6.heap.size := m6.lt
      have HPs := Lib.hid (pparse_any s W6 hs (HMx.out _ HBx.out))
      have HW6 := Lib.hid hW6
      clear m6 hb6' hW6
      go_upto_region 11 with fail
      rw [← HW6.out]
      clear HW6
      go_wp2_with fail
      refine HPs.out.mono ?_
      clear HPs
      rintro e w7 ⟨hb7, hres⟩
      obtain rfl : e = .returned (.tuple #[.agg #[.string ⟨#[]⟩, .slice none 0 0], errV 3]) := by
        rcases hres with ⟨b3, ls3, V2, h3, rfl, ho⟩ | ⟨_, rfl⟩
        · exact absurd h3 (HNo.out _ _)
        · rfl
      have hV2 : w7.ownsRow W6.heap.size 62 2 (.slice none 0 0) ([] : List Ent).length (flatE []) := own_nil
      have hb67 : Below w6.heap.size w6 w7 := HB66.out.trans (hb7.mono (Nat.le_of_lt hs66))
      have m7 := M6.out.below hb7 hs66
      obtain ⟨W7, hW7⟩ : ∃ W7, W7 = w7.alloc (.cells #[.string ⟨#[]⟩, .slice none 0 0] 24) := ⟨_, rfl⟩
      have hb77 : Below w7.heap.size w7 W7 := by rw [hW7]; exact (Below.refl _ _).alloc (Nat.le_refl _) _
      have n7 : Blk W7 w7.heap.size 24 #[.string ⟨#[]⟩, .slice none 0 0] := by rw [hW7]; exact Blk.new _ _ _
      have HB7 : Hid (Below w.heap.size w W7) := Lib.hid (HBx.out.trans ((hb7.mono HBx.out.size).trans (hb77.mono (by have := HBx.out.size; have := hb7.size; omega))))
      have N7 := Lib.hid n7
      have N6 := Lib.hid (m7.below hb77 m7.lt)
      have HB67 : Hid (Below w6.heap.size w6 W7) := Lib.hid (hb67.trans (hb77.mono hb67.size))
      have HLy : Hid (ListOk Enc.ent W7 0 w7.heap.size (.slice none 0 0) ([] : List Ent)) := Lib.hid (((ents_of_own hV2 (Nat.le_refl _) (Nat.le_refl _)).below Enc.ent_laws hb77).mono Enc.ent_laws (Nat.zero_le _) (Nat.le_refl _))
      have hs7 := n7.lt
      have hs67 : w6.heap.size < W7.heap.size := N6.out.lt
      have HErr := Lib.hid (serror_any 3 3 W7 (HEx.out _ HB7.out))
      rw [decide_eq_true rfl] at HErr
      have HW7 := Lib.hid hW7
      clear hb7 hres hV2 hb67 m7 hb77 n7 hW7 M6
      go_upto_region 14 with fail
      rw [← HW7.out]
      clear HW7
      go_wp2_with fail
      refine HErr.out.mono ?_
      clear HErr
      rintro e w8 ⟨rfl, hb8⟩
      have j0 := ((N7.out.below hb8 hs7).cell 0).trans (show _ = some (.string ⟨#[]⟩) from rfl)
      have j1 := ((N7.out.below hb8 hs7).cell 1).trans (show _ = some (.slice none 0 0) from rfl)
      have q0 := ((N6.out.below hb8 hs67).cell 0).trans (show _ = some (.string ⟨#[]⟩) from rfl)
      have q1 := ((N6.out.below hb8 hs67).cell 1).trans (show _ = some (.slice none 0 0) from rfl)
      have HSb := Lib.hid (sbunS_any ⟨#[]⟩ ([] : List Ent) (.slice none 0 0) (.slice none 0 0) 0 w7.heap.size 0 w6.heap.size w8 (HLy.out.keep Enc.ent_laws (Alk.mono (Alk.of_below hb8) (Nat.zero_le _) (by omega))) (HL6.out w8 (HB67.out.trans (hb8.mono (by omega)))) (by have := hb8.size; omega) (by have := hb8.size; omega) (by omega))
      have HB8 : Hid (Below w.heap.size w w8) := Lib.hid (HB7.out.trans (hb8.mono HB7.out.size))
      clear hb8 HLy HL6 HB67 N6 N7
      go_wp2_with fail
      refine HSb.out.mono ?_
      clear HSb
      rintro e w9 ⟨rfl, hb9⟩
      have HB9 : Hid (Below w.heap.size w w9) := Lib.hid (HB8.out.trans (hb9.mono HB8.out.size))
      have hTT : (T.toList == T.toList) = true := by simp
      clear hb9 j0 j1 q0 q1
      go_wp2_with fail
      go_ret
      exact ⟨rfl, HB9.out⟩
end Go.Proofs.YtoneheloojlifaaGreatDoor
