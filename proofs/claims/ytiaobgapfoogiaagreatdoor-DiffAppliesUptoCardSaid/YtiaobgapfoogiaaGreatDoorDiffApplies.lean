/- The walk of linguisterlaw4.DiffApplies. -/
import Derived.Test.YtiaobgapfoogiaaGreatDoorDiffU
set_option linter.unusedSimpArgs false
set_option linter.unusedVariables false
namespace Go.Proofs.YtiaobgapfoogiaaGreatDoor
open Go.RowKit Go.Maps

theorem right_both {a b : Bun} (ha : Right a) (hb : Right b) : bothFault a b = 0 := by unfold bothFault; rw [if_pos ((right_iff a).2 ha)]; exact (right_iff b).2 hb
theorem key_small {e : Ent} (h : keyOk e.key = true) : e.key.size ≤ 40 := by
  unfold keyOk at h
  simp only [Bool.and_eq_true, decide_eq_true_eq] at h
  omega
theorem bunIn_of {w : World} {lo hi : Nat} {v : Value} {b : Bun} (hr : Right b) (hl : ListOk Enc.ent w lo hi v b.ents) (hh : hi ≤ w.heap.size) (ht : b.tag.size < 4294967281) : BunIn w b v :=
  ⟨⟨lo, hl.mono Enc.ent_laws (Nat.le_refl _) hh⟩, ht, Nat.le_trans hr.len (by decide), fun e he => by
    have h1 := key_small (hr.each e he).1
    have h2 := (hr.each e he).2
    exact ⟨by omega, by omega⟩⟩
theorem applies_fault {a b : Bun} (ha : Right a) (hb : Right b) : applyFault a ⟨b.tag, diffPut a.ents b.ents⟩ (diffGone a.ents b.ents) = 0 := by
  unfold applyFault
  rw [if_pos (right_both ha (ha.put hb))]
  unfold applyErr
  dsimp only
  rw [if_pos (gone_fine ha.uniq hb.uniq), applies ha.uniq hb.uniq, srt_length hb.uniq, if_neg (by have := hb.len; omega)]

set_option maxHeartbeats 12800000 in
set_option maxRecDepth 100000 in
theorem diffApplies_any (a b : Bun) (u v : Value) (w : World) (ha : BunIn w a u) (hb : BunIn w b v) (hm : MaxVar w) :
    Calls Tryz.prog 4 #[.agg #[.string a.tag, u], .agg #[.string b.tag, v]] w fun e w' => e = .returned (.bool true) ∧ Below w.heap.size w w' := by
  have HA := Lib.hid ha
  have HB := Lib.hid hb
  have HM := Lib.hid hm
  have HDf : Hid (∀ W, Below w.heap.size w W → Calls Tryz.prog 7 #[] W fun e w' => e = .returned (.bool true) ∧ Below W.heap.size W w') := Lib.hid fun W hW => differs_any W (hm.below hW)
  have HOf : Hid (∀ W, Below w.heap.size w W → Calls Tryz.prog 8 #[.agg #[.string a.tag, u], .agg #[.string b.tag, v]] W (DiffRes a b W)) := Lib.hid fun W hW => diffOf_any a b u v W (ha.below hW) (hb.below hW) (hm.below hW)
  have HRi : Hid (bothFault a b = 0 → Right a ∧ Right b) := Lib.hid both_right
  have hlena := ha.len
  have hlenb := hb.len
  have htb := hb.tag
  obtain ⟨_, hla⟩ := ha.lo
  obtain ⟨blo, hlb⟩ := hb.lo
  obtain ⟨A, c, rfl, hcA⟩ := hla.form
  obtain ⟨B, d, rfl, hcB⟩ := hlb.form
  have HBl : Hid (∀ W, Below w.heap.size w W → ListOk Enc.ent W blo w.heap.size (.slice B b.ents.length d) b.ents) := Lib.hid fun W hW => hlb.below Enc.ent_laws hW
  obtain ⟨at_, al⟩ := a
  obtain ⟨bt, bl⟩ := b
  dsimp only at HA HB HOf hlena hlenb hcA hcB htb HBl ⊢
  clear ha hb hla hlb hm
  go_enter Tryz.func4, Tryz.ntmps4
  go_wp2_with fail
  obtain ⟨W0, eW0⟩ : ∃ W0, W0 = (w.alloc (.cells #[.string at_, .slice A al.length c] 24)).alloc (.cells #[.string bt, .slice B bl.length d] 24) := ⟨_, rfl⟩
  have hb0 : Below w.heap.size w W0 := by rw [eW0]; exact ((Below.refl _ _).alloc (Nat.le_refl _) _).alloc (by simp) _
  have ma0 : Blk W0 w.heap.size 24 #[.string at_, .slice A al.length c] := by rw [eW0]; exact (Blk.new _ _ _).alloc _
  have mb0 : Blk W0 (w.heap.size + 1) 24 #[.string bt, .slice B bl.length d] := by
    rw [eW0]
    have := Blk.new (w.alloc (.cells #[.string at_, .slice A al.length c] 24)) 24 #[.string bt, .slice B bl.length d]
    rw [World.size_alloc] at this
    exact this
  rw [← eW0]
  clear eW0
  have HB0 := Lib.hid hb0
  have HMa := Lib.hid ma0
  have HMb := Lib.hid mb0
  clear hb0 ma0 mb0
  refine (HDf.out _ HB0.out).mono ?_
  clear HDf
  rintro e w1 ⟨rfl, hb1⟩
  have HB1 := Lib.hid (HB0.out.trans (hb1.mono HB0.out.size))
  have HMa1 := Lib.hid (HMa.out.below hb1 HMa.out.lt)
  have HMb1 := Lib.hid (HMb.out.below hb1 HMb.out.lt)
  have hs1 := HB1.out.size
  have k0 : w1.cell? ⟨w.heap.size, 0, none⟩ = some (.string at_) := (HMa1.out.cell 0).trans rfl
  have k1 : w1.cell? ⟨w.heap.size, 1, none⟩ = some (.slice A al.length c) := (HMa1.out.cell 1).trans rfl
  have k2 : w1.cell? ⟨w.heap.size + 1, 0, none⟩ = some (.string bt) := (HMb1.out.cell 0).trans rfl
  have k3 : w1.cell? ⟨w.heap.size + 1, 1, none⟩ = some (.slice B bl.length d) := (HMb1.out.cell 1).trans rfl
  clear hb1 HMa HMb HB0
  go_wp2_with fail
  refine (HOf.out _ HB1.out).mono ?_
  clear HOf
  rintro e w2 ⟨hb2, ⟨hf, rfl⟩ | ⟨hf, V, L, rfl, hV, hL⟩⟩
  · have HB2 := Lib.hid (HB1.out.trans (hb2.mono hs1))
    have hs2 := HB2.out.size
    rw [errV_ne hf]
    clear hf hb2 k0 k1 k2 k3
    go_wp2_with fail
    go_ret
    exact ⟨rfl, HB2.out.alloc hs2 _⟩
  · obtain ⟨hra, hrb⟩ := HRi.out hf
    have HRa := Lib.hid hra
    have HRb := Lib.hid hrb
    have hrp : Right ⟨bt, diffPut al bl⟩ := hra.put hrb
    have hrx : Right ⟨bt, srt bl⟩ := hrb.srt
    have HRx := Lib.hid hrx
    have hAF : applyFault ⟨at_, al⟩ ⟨bt, diffPut al bl⟩ (diffGone al bl) = 0 := applies_fault (a := ⟨at_, al⟩) (b := ⟨bt, bl⟩) hra hrb
    have hAE : apEnts ⟨at_, al⟩ ⟨bt, diffPut al bl⟩ (diffGone al bl) = srt bl := by unfold apEnts; rw [if_pos hAF]; exact applies hra.uniq hrb.uniq
    have hAT : apTag ⟨at_, al⟩ ⟨bt, diffPut al bl⟩ (diffGone al bl) = bt := by unfold apTag; rw [if_pos hAF]
    have hbl : bl.length ≤ 100 := hrb.len
    have hpl : (diffPut al bl).length ≤ 100 := Nat.le_trans (put_len hrb.uniq) hbl
    have hgl : (diffGone al bl).length ≤ 100 := Nat.le_trans (out_len hra.uniq) hra.len
    have hsl : (srt bl).length ≤ 100 := hrx.len
    have hgs : ∀ x ∈ diffGone al bl, x.size ≤ maxLen := fun x hx => by
      obtain ⟨e, he, rfl⟩ := hasK_iff.1 ((mem_gone hra.uniq).1 hx).1
      have := key_small (hra.each e he).1
      unfold maxLen; omega
    have HB2 := Lib.hid (HB1.out.trans (hb2.mono hs1))
    have hs2 := HB2.out.size
    have HMa2 := Lib.hid (HMa1.out.below hb2 HMa1.out.lt)
    have HMb2 := Lib.hid (HMb1.out.below hb2 HMb1.out.lt)
    obtain ⟨AV, cV, rfl, _⟩ := own_slice hV
    obtain ⟨AL, cL, rfl, _⟩ := own_slice hL
    dsimp only at hV hL ⊢
    obtain ⟨W3, eW3⟩ : ∃ W3, W3 = w2.alloc (.cells #[.string bt, .slice AV (diffPut al bl).length cV] 24) := ⟨_, rfl⟩
    have hb3 : Below w2.heap.size w2 W3 := by rw [eW3]; exact (Below.refl _ _).alloc (Nat.le_refl _) _
    have mp3 : Blk W3 w2.heap.size 24 #[.string bt, .slice AV (diffPut al bl).length cV] := by rw [eW3]; exact Blk.new _ _ _
    have hb3' := HB2.out.trans (hb3.mono hs2)
    have HAp := Lib.hid (ap_any ⟨at_, al⟩ ⟨bt, diffPut al bl⟩ (diffGone al bl) (.slice A al.length c) (.slice AV (diffPut al bl).length cV) (.slice AL (diffGone al bl).length cL) 0 W3 (HA.out.below hb3')
      (bunIn_of hrp (ents_later hV hb3) hb3.size htb) ((strs_later hL hb3).mono Enc.str_laws (Nat.le_refl _) hb3.size) (by omega) hgs (HM.out.below hb3'))
    rw [hAF, hAE, hAT, errV_zero] at HAp
    have HB3 := Lib.hid hb3'
    have HMa3 := Lib.hid (HMa2.out.below hb3 HMa2.out.lt)
    have HMb3 := Lib.hid (HMb2.out.below hb3 HMb2.out.lt)
    have hs3 := hb3'.size
    have m0 : W3.cell? ⟨w.heap.size, 0, none⟩ = some (.string at_) := (HMa3.out.cell 0).trans rfl
    have m1 : W3.cell? ⟨w.heap.size, 1, none⟩ = some (.slice A al.length c) := (HMa3.out.cell 1).trans rfl
    have m2 : W3.cell? ⟨w2.heap.size, 0, none⟩ = some (.string bt) := (mp3.cell 0).trans rfl
    have m3 : W3.cell? ⟨w2.heap.size, 1, none⟩ = some (.slice AV (diffPut al bl).length cV) := (mp3.cell 1).trans rfl
    have HP3 : Hid (W3 = w2.alloc (.cells #[.string bt, .slice AV (diffPut al bl).length cV] 24)) := Lib.hid eW3
    clear hV hL hb2 hb3 hb3' hra hrb hrp hrx hf k0 k1 k2 k3 HRi hAF hAE hAT hgs mp3
    go_upto_region 3 with fail
    rw [← HP3.out]
    clear HP3 eW3
    generalize diffPut al bl = P at *
    generalize diffGone al bl = GN at *
    go_wp2_with fail
    refine HAp.out.mono ?_
    clear HAp
    rintro e w4 ⟨hb4, VY, rfl, hY⟩
    obtain ⟨AY, cY, rfl, _⟩ := own_slice hY
    have HB4 := Lib.hid (HB3.out.trans (hb4.mono hs3))
    have hs4 := HB4.out.size
    have HMb4 := Lib.hid (HMb3.out.below hb4 HMb3.out.lt)
    obtain ⟨W5, eW5⟩ : ∃ W5, W5 = w4.alloc (.cells #[.string bt, .slice AY (srt bl).length cY] 24) := ⟨_, rfl⟩
    have hb5 : Below w4.heap.size w4 W5 := by rw [eW5]; exact (Below.refl _ _).alloc (Nat.le_refl _) _
    have my5 : Blk W5 w4.heap.size 24 #[.string bt, .slice AY (srt bl).length cY] := by rw [eW5]; exact Blk.new _ _ _
    have HY5 : Hid (∀ W, Below W5.heap.size W5 W → ListOk Enc.ent W 0 w4.heap.size (.slice AY (srt bl).length cY) (srt bl)) := Lib.hid fun W hW => ents_later hY (hb5.trans (hW.mono hb5.size))
    have HB5 := Lib.hid (HB4.out.trans (hb5.mono hs4))
    have hs5 := HB5.out.size
    have hs45 := hb5.size
    have HMb5 := Lib.hid (HMb4.out.below hb5 HMb4.out.lt)
    have HMy5 := Lib.hid my5
    have n0 : W5.cell? ⟨w.heap.size + 1, 0, none⟩ = some (.string bt) := (HMb5.out.cell 0).trans rfl
    have n1 : W5.cell? ⟨w.heap.size + 1, 1, none⟩ = some (.slice B bl.length d) := (HMb5.out.cell 1).trans rfl
    have n2 : W5.cell? ⟨w4.heap.size, 0, none⟩ = some (.string bt) := (my5.cell 0).trans rfl
    have n3 : W5.cell? ⟨w4.heap.size, 1, none⟩ = some (.slice AY (srt bl).length cY) := (my5.cell 1).trans rfl
    have hl1 := HMb5.out.lt
    have hl2 := my5.lt
    have HSo : Hid (∀ W, Below W5.heap.size W5 W → Calls Tryz.prog 12 #[.slice B bl.length d] W fun e w' => ∃ v', e = .returned v' ∧ w'.ownsRow W.heap.size 33 2 v' (srt bl).length (flatE (srt bl)) ∧ Below W.heap.size W w') := Lib.hid fun W hW => by
      have h1 : Below w.heap.size w W := HB5.out.trans (hW.mono hs5)
      have h := qsorted_any (.slice B bl.length d) bl blo W ((HBl.out W h1).mono Enc.ent_laws (Nat.le_refl _) h1.size) (by omega)
      rw [qSorted_srt HRb.out.uniq, ← srt_length HRb.out.uniq] at h
      rw [srt_length HRb.out.uniq] at h ⊢
      exact h
    have KS : Hid (∀ w', Below W5.heap.size W5 w' → Below W5.heap.size W5 w' ∧ w'.cell? ⟨w.heap.size + 1, 0, none⟩ = some (.string bt) ∧ w'.cell? ⟨w.heap.size + 1, 1, none⟩ = some (.slice B bl.length d) ∧ w'.cell? ⟨w4.heap.size, 0, none⟩ = some (.string bt) ∧ w'.cell? ⟨w4.heap.size, 1, none⟩ = some (.slice AY (srt bl).length cY)) := Lib.hid fun w' hw =>
      ⟨hw, (hw.cell (p := ⟨w.heap.size + 1, 0, none⟩) hl1).trans n0, (hw.cell (p := ⟨w.heap.size + 1, 1, none⟩) hl1).trans n1, (hw.cell (p := ⟨w4.heap.size, 0, none⟩) hl2).trans n2, (hw.cell (p := ⟨w4.heap.size, 1, none⟩) hl2).trans n3⟩
    have HP5 := Lib.hid eW5
    clear hb4 hY hb5 my5 eW5 m0 m1 m2 m3
    go_upto_region 8 with fail
    rw [← HP5.out]
    clear HP5
    go_region_held3 (fun w' => Below W5.heap.size W5 w' ∧ w'.cell? ⟨w.heap.size + 1, 0, none⟩ = some (.string bt) ∧ w'.cell? ⟨w.heap.size + 1, 1, none⟩ = some (.slice B bl.length d) ∧ w'.cell? ⟨w4.heap.size, 0, none⟩ = some (.string bt) ∧ w'.cell? ⟨w4.heap.size, 1, none⟩ = some (.slice AY (srt bl).length cY))
      (first
        | exact KS.out _ hby
        | exact KS.out _ hbx
        | exact KS.out _ (Below.refl _ _).drew
        | fail)
      (first
        | (go_at_call 12
           (with_reducible refine (HSo.out _ (by first | exact hbx | exact (Below.refl _ _).drew)).mono ?_)
           clear HSo
           rintro e w6 ⟨VS, rfl, hS, hb6⟩
           have hbx : Below W5.heap.size W5 w6 := Below.trans (Below.refl _ _).drew (hb6.mono (Nat.le_refl _))
           have hs6 := hb6.size
           obtain ⟨AS, cS, rfl, _⟩ := own_slice hS
           have HSl : Hid (∀ W, Below w6.heap.size w6 W → ListOk Enc.ent W 0 w6.heap.size (.slice AS (srt bl).length cS) (srt bl)) := Lib.hid fun W hW => ents_later hS hW
           clear hb6 hS)
        | (go_at_call 11
           refine (sbun_same bt (srt bl) (.slice AY (srt bl).length cY) (.slice AS (srt bl).length cS) 0 w4.heap.size 0 w6.heap.size _ (HY5.out _ hbx) (HSl.out _ (Below.refl _ _)) (by have := hbx.size; omega) (Nat.le_refl _) (by omega)).mono ?_
           rintro e w7 ⟨rfl, hb7⟩
           have hby : Below W5.heap.size W5 w7 := hbx.trans (hb7.mono hbx.size)
           clear hb7)
        | fail)
    all_goals
      have HBy := Lib.hid hby
      have HB7 := Lib.hid (HB5.out.trans (hby.mono hs5))
      have hs7 := HB7.out.size
      have hs57 := hby.size
      have o0 : w7.cell? ⟨w.heap.size + 1, 0, none⟩ = some (.string bt) := (hby.cell (p := ⟨w.heap.size + 1, 0, none⟩) hl1).trans n0
      have o1 : w7.cell? ⟨w.heap.size + 1, 1, none⟩ = some (.slice B bl.length d) := (hby.cell (p := ⟨w.heap.size + 1, 1, none⟩) hl1).trans n1
      have o2 : w7.cell? ⟨w4.heap.size, 0, none⟩ = some (.string bt) := (hby.cell (p := ⟨w4.heap.size, 0, none⟩) hl2).trans n2
      have o3 : w7.cell? ⟨w4.heap.size, 1, none⟩ = some (.slice AY (srt bl).length cY) := (hby.cell (p := ⟨w4.heap.size, 1, none⟩) hl2).trans n3
      have HOf2 := Lib.hid (diffOf_any ⟨bt, bl⟩ ⟨bt, srt bl⟩ (.slice B bl.length d) (.slice AY (srt bl).length cY) w7 (HB.out.below HB7.out) (bunIn_of HRx.out (HY5.out _ hby) (by omega) htb) (HM.out.below HB7.out))
      have HN : Hid (bothFault ⟨bt, bl⟩ ⟨bt, srt bl⟩ = 0 ∧ diffPut bl (srt bl) = [] ∧ diffGone bl (srt bl) = []) := Lib.hid ⟨right_both HRb.out HRx.out, put_none HRb.out.uniq, gone_none HRb.out.uniq⟩
      clear hbx hby n0 n1 n2 n3 KS HSl
      go_wp2_with fail
      refine HOf2.out.mono ?_
      clear HOf2
      rintro e w8 ⟨hb8, ⟨hf, _⟩ | ⟨_, V8, L8, rfl, hV8, hL8⟩⟩
      · exact absurd HN.out.1 hf
      · dsimp only at hV8 hL8 ⊢
        rw [HN.out.2.1] at hV8
        rw [HN.out.2.2] at hL8
        obtain ⟨A8, c8, rfl, _⟩ := own_slice hV8
        obtain ⟨A9, c9, rfl, _⟩ := own_slice hL8
        simp only [List.length_nil] at hV8 hL8 ⊢
        have HB8 := Lib.hid (HB7.out.trans (hb8.mono hs7))
        have hs8 := HB8.out.size
        clear hb8 hV8 hL8 o0 o1 o2 o3
        go_wp2_with fail
        go_ret
        exact ⟨rfl, HB8.out.alloc hs8 _⟩
end Go.Proofs.YtiaobgapfoogiaaGreatDoor
