/- The walk of linguisterlaw5.PropOwn. -/
import Derived.Test.YtoneheloojlifaaGreatDoorPropBack
import Derived.Test.YtoneheloojlifaaGreatDoorSpoil
namespace Go.Proofs.YtoneheloojlifaaGreatDoor
open Go.RowKit

/-- A box with a bundle whose entries a call has left behind, in blocks from B on. -/
structure BoxE (wr : World) (B p : Nat) (tg : ByteArray) (V : Value) (l : List Ent) : Prop where
  blk : Blk wr p 24 #[.string tg, V]
  row : wr.ownsRow B 62 2 V l.length (flatE l)
theorem BoxE.keep {wr W : World} {B p : Nat} {tg : ByteArray} {V : Value} {l : List Ent} (h : BoxE wr B p tg V l) (hb : Below wr.heap.size wr W) : BoxE W B p tg V l :=
  ⟨h.blk.below hb h.blk.lt, own_below h.row hb (Nat.le_refl _)⟩
theorem BoxE.new {wr : World} {B : Nat} {tg : ByteArray} {V : Value} {l : List Ent} (h : wr.ownsRow B 62 2 V l.length (flatE l)) : BoxE (wr.alloc (.cells #[.string tg, V] 24)) B wr.heap.size tg V l :=
  ⟨Blk.new _ _ _, own_below h ((Below.refl _ _).alloc (Nat.le_refl _) _) (Nat.le_refl _)⟩
theorem own_bun_ne {w : World} {base : Nat} {v : Value} {n : Nat} {xs : List Value} {g : Nat} {cs : Array Value} (h : w.ownsRow base 62 2 v n xs) (k : Blk w g 24 cs) : v.ownBlock ≠ some g := ownNeBlk h k (by decide)
theorem ents_lat {w w' : World} {B : Nat} {v : Value} {l : List Ent} (h : w.ownsRow B 62 2 v l.length (flatE l)) (hb : Below w.heap.size w w') : ListOk Enc.ent w' 0 w.heap.size v l :=
  ((ents_of_own h (Nat.le_refl _) (Nat.le_refl _)).below Enc.ent_laws hb).mono Enc.ent_laws (Nat.zero_le _) (Nat.le_refl _)
/-- what a text is parsed to -/
theorem parse_uni (s : ByteArray) (hs : s.size ≤ 100000000) : ∃ (T : ByteArray) (E : List Ent) (F : Int), E.length ≤ 100 ∧ ∀ W : World, MaxVar W → Calls Tryz.prog 8 #[.string s] W fun e w' => Below W.heap.size W w' ∧ ∃ V, e = .returned (.tuple #[.agg #[.string T, V], errV F]) ∧ w'.ownsRow W.heap.size 62 2 V E.length (flatE E) := by
  by_cases h : ∃ b ls, IsOf (bts s) b ls
  · obtain ⟨b, ls, h⟩ := h
    refine ⟨b.tag, b.ents, 0, h.right.len, fun W hm => ?_⟩
    refine (pparse_any s W hs hm).mono ?_
    rintro e w' ⟨hb, ⟨b2, ls2, v, h2, rfl, ho⟩ | ⟨hn, _⟩⟩
    · obtain ⟨rfl, _⟩ := h.same h2
      exact ⟨hb, v, rfl, ho⟩
    · exact absurd h (hn _ _)
  · refine ⟨⟨#[]⟩, [], 3, by simp, fun W hm => ?_⟩
    refine (pparse_any s W hs hm).mono ?_
    rintro e w' ⟨hb, ⟨b2, ls2, v, h2, rfl, ho⟩ | ⟨hn, rfl⟩⟩
    · exact absurd ⟨b2, ls2, h2⟩ h
    · exact ⟨hb, _, rfl, own_nil⟩
def en0 : Bun := ⟨⟨#[101, 110]⟩, []⟩
theorem en0_right : Right en0 := (right_iff _).1 (by decide +kernel)
theorem en0_lines : linesS en0 = ⟨#[64, 101, 110, 10]⟩ := by decide +kernel
set_option maxHeartbeats 25600000 in
set_option maxRecDepth 100000 in
theorem propOwn_gen (b : Bun) (v : Value) (s x : ByteArray) (w : World) (h : BunIn w b v) (hs : s.size ≤ 100000000) (hm : MaxVar w) (hE : ErrVar w)
    (HEnc : Hid (∀ W V, Below w.heap.size w W → BunIn W b V → Calls Tryz.prog 19 #[.agg #[.string b.tag, V]] W fun e w' => Below W.heap.size W w' ∧ ∃ A n c, e = .returned (.tuple #[.slice A n c, errV (bunFault b)]) ∧ (n = 0 ↔ bunFault b ≠ 0))) :
    Calls Tryz.prog 6 #[.agg #[.string b.tag, v], .string s, .string x] w fun e w' => e = .returned (.bool true) ∧ Below w.heap.size w w' := by
  have HMx : Hid (∀ W, Below w.heap.size w W → MaxVar W) := Lib.hid fun W hW => hm.below hW
  have HTd : Hid (∀ W n, Below w.heap.size w W → Calls Tryz.prog 21 #[errV n, errV n] W fun e w' => e = .returned (.bool true) ∧ Below W.heap.size W w') := Lib.hid fun W n hW => by
    have h := stold_any n n W (hE.below hW hE.lt)
    rwa [decide_eq_true rfl] at h
  obtain ⟨lo, hl⟩ := h.lo
  obtain ⟨A, c, rfl, _⟩ := hl.form
  have HLb : Hid (∀ W, Below w.heap.size w W → ListOk Enc.ent W lo W.heap.size (.slice A b.ents.length c) b.ents) := Lib.hid fun W hW => (hl.below Enc.ent_laws hW).mono Enc.ent_laws (Nat.le_refl _) hW.size
  have hlen := h.len
  have htag := h.tag
  have HEa := Lib.hid h.each
  obtain ⟨F, hF⟩ : ∃ F, F = bunFault b := ⟨_, rfl⟩
  obtain ⟨TX, hTX⟩ : ∃ T : ByteArray, T = if F = 0 then linesS b else ⟨#[]⟩ := ⟨_, rfl⟩
  have hTT : TextTold b = .tuple #[.string TX, errV F] := by
    unfold TextTold
    rw [← hF, hTX]
    by_cases h0 : F = 0
    · rw [if_pos h0, if_pos h0, h0]; rfl
    · rw [if_neg h0, if_neg h0]
  have hTE : (TX.toList == []) = decide (F ≠ 0) := by
    rw [hTX]
    by_cases h0 : F = 0
    · rw [if_pos h0, decide_eq_false (by simp [h0])]; unfold linesS linesL nlL; simp [str]
    · rw [if_neg h0, decide_eq_true h0]; first | decide +kernel | simp
  have HTE := Lib.hid hTE
  have HTxt : Hid (∀ W V, Below w.heap.size w W → BunIn W b V → Calls Tryz.prog 10 #[.agg #[.string b.tag, V]] W fun e w' => e = .returned (.tuple #[.string TX, errV F]) ∧ Below W.heap.size W w') := Lib.hid fun W V hW hV => by
    have h1 := ptext_any b V W hV (hm.below hW)
    rwa [hTT] at h1
  rw [← hF] at HEnc
  have HFc : Hid (∀ W, Below w.heap.size w W → Calls Tryz.prog 8 #[.string ⟨#[64, 101, 110, 10]⟩] W fun e w' => Below W.heap.size W w' ∧ ∃ A n c, e = .returned (.tuple #[.agg #[.string ⟨#[101, 110]⟩, .slice A n c], .nilIface])) := Lib.hid fun W hW => by
    have h1 := parse_own en0_right W (hm.below hW)
    rw [en0_lines] at h1
    refine h1.mono ?_
    rintro e w' ⟨h1, V, rfl, h2⟩
    obtain ⟨Az, cz, rfl, _⟩ := own_slice h2
    exact ⟨h1, Az, _, cz, rfl⟩
  obtain ⟨PT, PE, PF, hpe, hpar⟩ := parse_uni s hs
  have HPar := Lib.hid hpar
  clear h hl hm hE hTT hTX hF hTE hpar
  obtain ⟨bt, l⟩ := b
  dsimp only at HLb hlen htag HEa HEnc HTxt ⊢
  go_enter Tryz.func6, Tryz.ntmps6
  obtain ⟨W1, eW1⟩ : ∃ W1, W1 = w.alloc (.cells #[.string bt, .slice A l.length c] 24) := ⟨_, rfl⟩
  have hb1 : Below w.heap.size w W1 := by rw [eW1]; exact (Below.refl _ _).alloc (Nat.le_refl _) _
  have m1 : Blk W1 w.heap.size 24 #[.string bt, .slice A l.length c] := by rw [eW1]; exact Blk.new _ _ _
  have HB1 := Lib.hid hb1
  have M1 := Lib.hid m1
  have HW1 := Lib.hid eW1
  have HBu := Lib.hid (bundle_any ⟨bt, l⟩ (.slice A l.length c) W1 lo (HLb.out _ hb1) hlen)
  have k0 : W1.cell? ⟨w.heap.size, 0, none⟩ = some (.string bt) := (m1.cell 0).trans rfl
  have k1 : W1.cell? ⟨w.heap.size, 1, none⟩ = some (.slice A l.length c) := (m1.cell 1).trans rfl
  clear eW1 hb1 m1
  go_upto_region 1 with fail
  rw [← HW1.out]
  clear HW1
  go_wp2_with fail
  refine HBu.out.mono ?_
  clear HBu
  rintro e w2 ⟨hb2, Vp, rfl, hVp⟩
  dsimp only at hVp ⊢
  obtain ⟨A2, c2, rfl, _⟩ := own_slice hVp
  obtain ⟨W3, eW3⟩ : ∃ W3, W3 = w2.alloc (.cells #[.string bt, .slice A2 l.length c2] 24) := ⟨_, rfl⟩
  obtain ⟨p, ep⟩ : ∃ p, p = w2.heap.size := ⟨_, rfl⟩
  have hb3 : Below w2.heap.size w2 W3 := by rw [eW3]; exact (Below.refl _ _).alloc (Nat.le_refl _) _
  have hb13 := hb2.trans (hb3.mono hb2.size)
  have HP3 : Hid (BoxE W3 W1.heap.size p bt (.slice A2 l.length c2) l) := Lib.hid (by rw [eW3, ep]; exact BoxE.new hVp)
  have HB3 := Lib.hid (HB1.out.trans (hb13.mono HB1.out.size))
  have M3 := Lib.hid (M1.out.below hb13 M1.out.lt)
  have HW3 := Lib.hid eW3
  have Hp := Lib.hid ep
  have HIn : Hid (∀ W, Below W3.heap.size W3 W → BunIn W ⟨bt, l⟩ (.slice A2 l.length c2)) := Lib.hid fun W hW => ⟨⟨0, (ents_lat HP3.out.row hW).mono Enc.ent_laws (Nat.le_refl _) hW.size⟩, htag, hlen, HEa.out⟩
  have q0 : W3.cell? ⟨p, 0, none⟩ = some (.string bt) := (HP3.out.blk.cell 0).trans rfl
  have q1 : W3.cell? ⟨p, 1, none⟩ = some (.slice A2 l.length c2) := (HP3.out.blk.cell 1).trans rfl
  have HT3 := Lib.hid (HTxt.out W3 _ HB3.out (HIn.out _ (Below.refl _ _)))
  clear hb2 hb3 hb13 hVp eW3 ep HB1 M1 k0 k1 HTxt
  go_upto_region 2 with fail
  rw [← HW3.out, ← Hp.out]
  clear HW3 Hp
  go_wp2_with fail
  refine HT3.out.mono ?_
  clear HT3
  rintro e w4 ⟨rfl, hb4⟩
  have HB4 := Lib.hid (HB3.out.trans (hb4.mono HB3.out.size))
  have HP4 := Lib.hid (HP3.out.keep hb4)
  have M4 := Lib.hid (M3.out.below hb4 M3.out.lt)
  have HE4 := Lib.hid (HEnc.out w4 _ HB4.out (HIn.out _ hb4))
  clear hb4 q0 q1 HEnc HB3 HP3 M3 HIn
  have q0 : w4.cell? ⟨p, 0, none⟩ = some (.string bt) := (HP4.out.blk.cell 0).trans rfl
  have q1 : w4.cell? ⟨p, 1, none⟩ = some (.slice A2 l.length c2) := (HP4.out.blk.cell 1).trans rfl
  go_wp2_with fail
  refine HE4.out.mono ?_
  clear HE4
  rintro e w5 ⟨hb5, A5, n5, c5, rfl, hn5⟩
  have HB5 := Lib.hid (HB4.out.trans (hb5.mono HB4.out.size))
  have HP5 := Lib.hid (HP4.out.keep hb5)
  have M5 := Lib.hid (M4.out.below hb5 M4.out.lt)
  have hd5 : ((n5 : Int) == 0) = decide (F ≠ 0) := by
    by_cases h0 : F = 0
    · rw [decide_eq_false (by simp [h0]), beq_eq_false_iff_ne]
      intro h; exact absurd h0 (hn5.1 (by omega))
    · rw [decide_eq_true h0, beq_iff_eq]
      have := hn5.2 h0
      omega
  have HD5 := Lib.hid hd5
  have HS5 := Lib.hid (sbunS_any bt l (.slice A2 l.length c2) (.slice A l.length c) 0 w5.heap.size lo w5.heap.size w5 (ents_lat HP5.out.row (Below.refl _ _)) (HLb.out _ HB5.out) (Nat.le_refl _) (Nat.le_refl _) hlen)
  have q0 : w5.cell? ⟨p, 0, none⟩ = some (.string bt) := (HP5.out.blk.cell 0).trans rfl
  have q1 : w5.cell? ⟨p, 1, none⟩ = some (.slice A2 l.length c2) := (HP5.out.blk.cell 1).trans rfl
  have k0 : w5.cell? ⟨w.heap.size, 0, none⟩ = some (.string bt) := (M5.out.cell 0).trans rfl
  have k1 : w5.cell? ⟨w.heap.size, 1, none⟩ = some (.slice A l.length c) := (M5.out.cell 1).trans rfl
  clear hb5 hn5 hd5 HB4 HP4 M4 HLb HEa hlen htag
  go_wp2_with fail
  refine HS5.out.mono ?_
  clear HS5
  rintro e w6 ⟨rfl, hb6⟩
  have HB6 := Lib.hid (HB5.out.trans (hb6.mono HB5.out.size))
  have HF6 := Lib.hid (HFc.out _ HB6.out)
  clear hb6 HB5 HP5 M5 q0 q1 k0 k1 HFc
  go_wp2_with fail
  refine HF6.out.mono ?_
  clear HF6
  rintro e w7 ⟨hb7, A7, n7, c7, rfl⟩
  obtain ⟨W8, eW8⟩ : ∃ W8, W8 = w7.alloc (.cells #[.string ⟨#[101, 110]⟩, .slice A7 n7 c7] 24) := ⟨_, rfl⟩
  obtain ⟨q, eq⟩ : ∃ q, q = w7.heap.size := ⟨_, rfl⟩
  have hb8 : Below w7.heap.size w7 W8 := by rw [eW8]; exact (Below.refl _ _).alloc (Nat.le_refl _) _
  have M8 : Hid (Blk W8 q 24 #[.string ⟨#[101, 110]⟩, .slice A7 n7 c7]) := Lib.hid (by rw [eW8, eq]; exact Blk.new _ _ _)
  have HB8 := Lib.hid (HB6.out.trans ((hb7.trans (hb8.mono hb7.size)).mono HB6.out.size))
  have HW8 := Lib.hid eW8
  have Hq := Lib.hid eq
  have HP8 := Lib.hid (HPar.out W8 (HMx.out _ HB8.out))
  clear hb7 hb8 eW8 eq HB6
  go_upto_region 6 with fail
  rw [← HW8.out, ← Hq.out]
  clear HW8 Hq
  go_wp2_with fail
  refine HP8.out.mono ?_
  clear HP8
  rintro e w9 ⟨hb9, Vy, rfl, hVy⟩
  obtain ⟨A9, c9, rfl, _⟩ := own_slice hVy
  obtain ⟨W10, eW10⟩ : ∃ W10, W10 = w9.alloc (.cells #[.string PT, .slice A9 PE.length c9] 24) := ⟨_, rfl⟩
  obtain ⟨r, er⟩ : ∃ r, r = w9.heap.size := ⟨_, rfl⟩
  have hb10 : Below w9.heap.size w9 W10 := by rw [eW10]; exact (Below.refl _ _).alloc (Nat.le_refl _) _
  have hb810 := hb9.trans (hb10.mono hb9.size)
  have HY10 : Hid (BoxE W10 W8.heap.size r PT (.slice A9 PE.length c9) PE) := Lib.hid (by rw [eW10, er]; exact BoxE.new hVy)
  have M10 := Lib.hid (M8.out.below hb810 M8.out.lt)
  have HB10 := Lib.hid (HB8.out.trans (hb810.mono HB8.out.size))
  have HW10 := Lib.hid eW10
  have Hr := Lib.hid er
  have HBu := Lib.hid (bundle_any ⟨PT, PE⟩ (.slice A9 PE.length c9) W10 0 ((ents_lat HY10.out.row (Below.refl _ _)).mono Enc.ent_laws (Nat.le_refl _) (Nat.le_refl _)) (by show PE.length ≤ _; omega))
  have r0 : W10.cell? ⟨r, 0, none⟩ = some (.string PT) := (HY10.out.blk.cell 0).trans rfl
  have r1 : W10.cell? ⟨r, 1, none⟩ = some (.slice A9 PE.length c9) := (HY10.out.blk.cell 1).trans rfl
  have hs8 := HB8.out.size
  clear hb9 hb10 hb810 hVy eW10 er M8 HB8
  go_upto_region 7 with fail
  rw [← HW10.out, ← Hr.out]
  clear HW10 Hr
  go_wp2_with fail
  refine HBu.out.mono ?_
  clear HBu
  rintro e w11 ⟨hb11, Vw, rfl, hVw⟩
  dsimp only at hVw ⊢
  obtain ⟨A11, c11, rfl, _⟩ := own_slice hVw
  obtain ⟨W12, eW12⟩ : ∃ W12, W12 = w11.alloc (.cells #[.string PT, .slice A11 PE.length c11] 24) := ⟨_, rfl⟩
  obtain ⟨m, em⟩ : ∃ m, m = w11.heap.size := ⟨_, rfl⟩
  have hb12 : Below w11.heap.size w11 W12 := by rw [eW12]; exact (Below.refl _ _).alloc (Nat.le_refl _) _
  have hb1012 := hb11.trans (hb12.mono hb11.size)
  have HZ12 : Hid (BoxE W12 W10.heap.size m PT (.slice A11 PE.length c11) PE) := Lib.hid (by rw [eW12, em]; exact BoxE.new hVw)
  have HXY : Hid (∀ k, (Value.slice A9 PE.length c9).ownBlock = some k → (Value.slice A11 PE.length c11).ownBlock ≠ some k) := Lib.hid fun k h1 h2 => by
    have h3 := (own_lt HY10.out.row h1).2
    have h4 := (own_lt hVw h2).1
    omega
  have HY12 := Lib.hid (HY10.out.keep hb1012)
  have M12 := Lib.hid (M10.out.below hb1012 M10.out.lt)
  have HB12 := Lib.hid (HB10.out.trans (hb1012.mono HB10.out.size))
  have HW12 := Lib.hid eW12
  have Hm := Lib.hid em
  have HSp := Lib.hid (spoil_any PT x A9 PE.length c9 W8.heap.size (flatE PE) W12 HY12.out.row (by omega))
  have s0 : W12.cell? ⟨r, 0, none⟩ = some (.string PT) := (HY12.out.blk.cell 0).trans rfl
  have s1 : W12.cell? ⟨r, 1, none⟩ = some (.slice A9 PE.length c9) := (HY12.out.blk.cell 1).trans rfl
  have hs12 := HB12.out.size
  clear hb11 hb12 hb1012 hVw eW12 em M10 HB10 HY10 r0 r1
  go_upto_region 8 with fail
  rw [← HW12.out, ← Hm.out]
  clear HW12 Hm
  go_wp2_with fail
  refine HSp.out.mono ?_
  clear HSp
  rintro e w13 ⟨rfl, hf13⟩
  have HB13 := Lib.hid (HB12.out.trans (Fr.below (Below.refl _ _) hf13 hs12 (fun i hi => Nat.le_trans hs8 (own_lt HY12.out.row hi).1)))
  have HZ13 : Hid (BoxE w13 W10.heap.size m PT (.slice A11 PE.length c11) PE) := Lib.hid ⟨HZ12.out.blk.fr hf13 (fun e => own_bun_ne HY12.out.row HZ12.out.blk e), own_keep HZ12.out.row fun k hk hlt => hf13.block k hlt fun e => HXY.out k e hk⟩
  have M13 := Lib.hid (M12.out.fr hf13 (fun e => own_bun_ne HY12.out.row M12.out e))
  have HP13 := Lib.hid (HPar.out w13 (HMx.out _ HB13.out))
  clear hf13 HB12 HZ12 M12 HY12 HXY s0 s1
  go_wp2_with fail
  refine HP13.out.mono ?_
  clear HP13
  rintro e w14 ⟨hb14, Vz, rfl, hVz⟩
  obtain ⟨A14, c14, rfl, _⟩ := own_slice hVz
  obtain ⟨W15, eW15⟩ : ∃ W15, W15 = w14.alloc (.cells #[.string PT, .slice A14 PE.length c14] 24) := ⟨_, rfl⟩
  obtain ⟨z, ez⟩ : ∃ z, z = w14.heap.size := ⟨_, rfl⟩
  have hb15 : Below w14.heap.size w14 W15 := by rw [eW15]; exact (Below.refl _ _).alloc (Nat.le_refl _) _
  have hb1315 := hb14.trans (hb15.mono hb14.size)
  have HN15 : Hid (BoxE W15 w13.heap.size z PT (.slice A14 PE.length c14) PE) := Lib.hid (by rw [eW15, ez]; exact BoxE.new hVz)
  have HZ15 := Lib.hid (HZ13.out.keep hb1315)
  have M15 := Lib.hid (M13.out.below hb1315 M13.out.lt)
  have HB15 := Lib.hid (HB13.out.trans (hb1315.mono HB13.out.size))
  have HW15 := Lib.hid eW15
  have Hz := Lib.hid ez
  have HS15 := Lib.hid (sbunS_any PT PE (.slice A14 PE.length c14) (.slice A11 PE.length c11) 0 W15.heap.size 0 W15.heap.size W15 (ents_lat HN15.out.row (Below.refl _ _)) (ents_lat HZ15.out.row (Below.refl _ _)) (Nat.le_refl _) (Nat.le_refl _) (by omega))
  have t0 : W15.cell? ⟨z, 0, none⟩ = some (.string PT) := (HN15.out.blk.cell 0).trans rfl
  have t1 : W15.cell? ⟨z, 1, none⟩ = some (.slice A14 PE.length c14) := (HN15.out.blk.cell 1).trans rfl
  have u0 : W15.cell? ⟨m, 0, none⟩ = some (.string PT) := (HZ15.out.blk.cell 0).trans rfl
  have u1 : W15.cell? ⟨m, 1, none⟩ = some (.slice A11 PE.length c11) := (HZ15.out.blk.cell 1).trans rfl
  clear hb14 hb15 hb1315 hVz eW15 ez HZ13 M13 HB13
  go_upto_region 10 with fail
  rw [← HW15.out, ← Hz.out]
  clear HW15 Hz
  go_wp2_with fail
  refine HS15.out.mono ?_
  clear HS15
  rintro e w16 ⟨rfl, hb16⟩
  have HB16 := Lib.hid (HB15.out.trans (hb16.mono HB15.out.size))
  have M16 := Lib.hid (M15.out.below hb16 M15.out.lt)
  have HT16 := Lib.hid (HTd.out w16 PF HB16.out)
  clear hb16 HB15 M15 HN15 HZ15 t0 t1 u0 u1
  go_wp2_with fail
  refine HT16.out.mono ?_
  clear HT16
  rintro e w17 ⟨rfl, hb17⟩
  have HB17 := Lib.hid (HB16.out.trans (hb17.mono HB16.out.size))
  have M17 := Lib.hid (M16.out.below hb17 M16.out.lt)
  have HT17 := Lib.hid (HTd.out w17 F HB17.out)
  clear hb17 HB16 M16
  go_wp2_with fail
  refine HT17.out.mono ?_
  clear HT17
  rintro e w18 ⟨rfl, hb18⟩
  have HB18 := Lib.hid (HB17.out.trans (hb18.mono HB17.out.size))
  have M18 := Lib.hid (M17.out.below hb18 M17.out.lt)
  have v0 : w18.cell? ⟨q, 0, none⟩ = some (.string ⟨#[101, 110]⟩) := (M18.out.cell 0).trans rfl
  have hTE := HTE.out
  have hD5 := HD5.out
  generalize decide (F ≠ 0) = D at hTE hD5
  clear hb18 HB17 M17 HTd HTE HD5
  go_wp2_with fail
  go_ret
  exact ⟨rfl, HB18.out⟩
end Go.Proofs.YtoneheloojlifaaGreatDoor
