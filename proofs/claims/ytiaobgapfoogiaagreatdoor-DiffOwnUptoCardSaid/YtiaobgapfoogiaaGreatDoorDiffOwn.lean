/- The walk of linguisterlaw5.DiffOwn. -/
import Derived.Test.YtiaobgapfoogiaaGreatDoorDiffTells
import Derived.Test.YtiaobgapfoogiaaGreatDoorSpoil
set_option linter.unusedSimpArgs false
set_option linter.unusedVariables false
namespace Go.Proofs.YtiaobgapfoogiaaGreatDoor
open Go.RowKit Go.Maps

theorem bunIn_nil {w : World} (t : ByteArray) (ht : t.size < 4294967281) : BunIn w ⟨t, []⟩ (.slice none 0 0) :=
  ⟨⟨0, ListOk.nil 0 none⟩, ht, Nat.zero_le _, fun e he => (by cases he)⟩
theorem fact_fault : bothFault ⟨⟨#[101, 110]⟩, []⟩ ⟨⟨#[100, 101]⟩, []⟩ = 0 := by decide +kernel

set_option maxHeartbeats 51200000 in
set_option maxRecDepth 100000 in
theorem diffOwn_any (a b : Bun) (gone : List ByteArray) (x : ByteArray) (u v g : Value) (glo : Nat) (w : World) (ha : BunIn w a u) (hb : BunIn w b v) (hg : ListOk Enc.str w glo w.heap.size g gone) (hgl : gone.length * 16 ≤ 140737488355328) (hgs : ∀ x ∈ gone, x.size ≤ maxLen) (hm : MaxVar w) (hE : ErrVar w) :
    Calls Tryz.prog 6 #[.agg #[.string a.tag, u], .agg #[.string b.tag, v], g, .string x] w fun e w' => e = .returned (.bool true) ∧ Below w.heap.size w w' := by
  have hgl' : gone.length ≤ 140737488355328 := by omega
  have HA := Lib.hid ha
  have HB := Lib.hid hb
  have HM := Lib.hid hm
  have HEv := Lib.hid hE
  have HGs := Lib.hid hgs
  have hgW : ∀ W, Below w.heap.size w W → ListOk Enc.str W glo W.heap.size g gone := fun W hW => (hg.below Enc.str_laws hW).mono Enc.str_laws (Nat.le_refl _) hW.size
  have HGw := Lib.hid hgW
  have HOf : Hid (∀ W u v, Below w.heap.size w W → BunIn W a u → BunIn W b v → Calls Tryz.prog 8 #[.agg #[.string a.tag, u], .agg #[.string b.tag, v]] W fun e w' => Below W.heap.size W w' ∧ ∃ V L, e = .returned (.tuple #[.agg #[.string (ofTag a b), V], L, errV (bothFault a b)]) ∧
      w'.ownsRow W.heap.size 33 2 V (ofPut a b).length (flatE (ofPut a b)) ∧ w'.ownsRow W.heap.size 9 1 L (ofGone a b).length ((ofGone a b).map .string)) := Lib.hid fun W u v hW h1 h2 => of_any a b u v W h1 h2 (hm.below hW)
  have HAp : Hid (∀ W u v g lo, Below w.heap.size w W → BunIn W a u → BunIn W b v → ListOk Enc.str W lo W.heap.size g gone → Calls Tryz.prog 10 #[.agg #[.string a.tag, u], .agg #[.string b.tag, v], g] W fun e w' => Below W.heap.size W w' ∧ ∃ V, e = .returned (.tuple #[.agg #[.string (apTag a b gone), V], errV (applyFault a b gone)]) ∧
      w'.ownsRow W.heap.size 33 2 V (apEnts a b gone).length (flatE (apEnts a b gone))) := Lib.hid fun W u v g lo hW h1 h2 h3 => ap_any a b gone u v g lo W h1 h2 h3 hgl' hgs (hm.below hW)
  have HEr : Hid (∀ W n, Below w.heap.size w W → Calls Tryz.prog 20 #[errV n, errV n] W fun e w' => e = .returned (.bool true) ∧ Below W.heap.size W w') := Lib.hid fun W n hW => by
    have h := stold_any n n W (hE.below hW hE.lt)
    rwa [decide_eq_true rfl] at h
  have HFc : Hid (∀ W, Below w.heap.size w W → Calls Tryz.prog 8 #[.agg #[.string ⟨#[101, 110]⟩, .slice none 0 0], .agg #[.string ⟨#[100, 101]⟩, .slice none 0 0]] W fun e w' => Below W.heap.size W w' ∧ ∃ A n c L, e = .returned (.tuple #[.agg #[.string ⟨#[100, 101]⟩, .slice A n c], L, .nilIface])) := Lib.hid fun W hW => by
    refine (of_any ⟨⟨#[101, 110]⟩, []⟩ ⟨⟨#[100, 101]⟩, []⟩ (.slice none 0 0) (.slice none 0 0) W (bunIn_nil _ (by decide +kernel)) (bunIn_nil _ (by decide +kernel)) (hm.below hW)).mono ?_
    rintro e w' ⟨h1, V, L, rfl, h2, _⟩
    obtain ⟨Az, cz, rfl, _⟩ := own_slice h2
    refine ⟨h1, Az, (ofPut ⟨⟨#[101, 110]⟩, []⟩ ⟨⟨#[100, 101]⟩, []⟩).length, cz, L, ?_⟩
    unfold ofTag
    rw [if_pos fact_fault, fact_fault]
    rfl
  have hPl := ofPut_len a b
  have hGl := ofGone_len a b
  have hQl := apEnts_len a b gone
  have hlena := ha.len
  have hlenb := hb.len
  have hta := ha.tag
  have htb := hb.tag
  have HEa := Lib.hid ha.each
  have HEb := Lib.hid hb.each
  obtain ⟨alo, hla⟩ := ha.lo
  obtain ⟨blo, hlb⟩ := hb.lo
  obtain ⟨A, c, rfl, _⟩ := hla.form
  obtain ⟨B, d, rfl, _⟩ := hlb.form
  obtain ⟨G, gc, rfl, _⟩ := hg.form
  have HAl : Hid (∀ W, Below w.heap.size w W → ListOk Enc.ent W alo W.heap.size (.slice A a.ents.length c) a.ents) := Lib.hid fun W hW => (hla.below Enc.ent_laws hW).mono Enc.ent_laws (Nat.le_refl _) hW.size
  have HBl : Hid (∀ W, Below w.heap.size w W → ListOk Enc.ent W blo W.heap.size (.slice B b.ents.length d) b.ents) := Lib.hid fun W hW => (hlb.below Enc.ent_laws hW).mono Enc.ent_laws (Nat.le_refl _) hW.size
  clear hgW hgs hg
  generalize ofTag a b = pT at *
  generalize ofPut a b = P at *
  generalize ofGone a b = GN at *
  generalize apTag a b gone = qT at *
  generalize apEnts a b gone = Q at *
  generalize applyFault a b gone = AF at *
  generalize bothFault a b = F at *
  obtain ⟨at_, al⟩ := a
  obtain ⟨bt, bl⟩ := b
  dsimp only at HOf HAp HAl HBl hlena hlenb hta htb HEa HEb ⊢
  clear ha hb hla hlb hm hE
  go_enter Tryz.func6, Tryz.ntmps6
  go_wp2_with fail
  obtain ⟨W0, eW0⟩ : ∃ W0, W0 = (w.alloc (.cells #[.string at_, .slice A al.length c] 24)).alloc (.cells #[.string bt, .slice B bl.length d] 24) := ⟨_, rfl⟩
  have HD0 : Hid (Dt w W0 #[.string at_, .slice A al.length c] #[.string bt, .slice B bl.length d]) := Lib.hid ⟨by rw [eW0]; exact ((Below.refl _ _).alloc (Nat.le_refl _) _).alloc (by simp) _, by rw [eW0]; exact (Blk.new _ _ _).alloc _, by
    rw [eW0]
    have := Blk.new (w.alloc (.cells #[.string at_, .slice A al.length c] 24)) 24 #[.string bt, .slice B bl.length d]
    rw [World.size_alloc] at this
    exact this⟩
  rw [← eW0]
  clear eW0
  refine (bundle_any ⟨at_, al⟩ (.slice A al.length c) W0 alo (HAl.out _ HD0.out.below) hlena).mono ?_
  rintro e w1 ⟨hb1, Vp, rfl, hVp⟩
  dsimp only at hVp ⊢
  obtain ⟨A1, c1, rfl, _⟩ := own_slice hVp
  obtain ⟨W2, eW2⟩ : ∃ W2, W2 = w1.alloc (.cells #[.string at_, .slice A1 al.length c1] 24) := ⟨_, rfl⟩
  obtain ⟨p, ep⟩ : ∃ p, p = w1.heap.size := ⟨_, rfl⟩
  have hb2 : Below w1.heap.size w1 W2 := by rw [eW2]; exact (Below.refl _ _).alloc (Nat.le_refl _) _
  have HP2 : Hid (BoxB W2 W0.heap.size p at_ (.slice A1 al.length c1) al) := Lib.hid (by rw [eW2, ep]; exact BoxB.new hVp)
  have HD2 := Lib.hid ((HD0.out.keep hb1).keep hb2)
  have HW2 := Lib.hid eW2
  have Hp := Lib.hid ep
  have k0 : W2.cell? ⟨w.heap.size, 0, none⟩ = some (.string at_) := (HD2.out.ba.cell 0).trans rfl
  have k1 : W2.cell? ⟨w.heap.size, 1, none⟩ = some (.slice A al.length c) := (HD2.out.ba.cell 1).trans rfl
  have k2 : W2.cell? ⟨w.heap.size + 1, 0, none⟩ = some (.string bt) := (HD2.out.bb.cell 0).trans rfl
  have k3 : W2.cell? ⟨w.heap.size + 1, 1, none⟩ = some (.slice B bl.length d) := (HD2.out.bb.cell 1).trans rfl
  clear hb1 hb2 hVp eW2 ep HD0
  go_upto_region 2 with fail
  rw [← HW2.out, ← Hp.out]
  clear HW2 Hp
  go_wp2_with fail
  refine (bundle_any ⟨bt, bl⟩ (.slice B bl.length d) W2 blo (HBl.out _ HD2.out.below) hlenb).mono ?_
  rintro e w3 ⟨hb3, Vq, rfl, hVq⟩
  dsimp only at hVq ⊢
  obtain ⟨A2, c2, rfl, _⟩ := own_slice hVq
  obtain ⟨W4, eW4⟩ : ∃ W4, W4 = w3.alloc (.cells #[.string bt, .slice A2 bl.length c2] 24) := ⟨_, rfl⟩
  obtain ⟨q, eq⟩ : ∃ q, q = w3.heap.size := ⟨_, rfl⟩
  have hb4 : Below w3.heap.size w3 W4 := by rw [eW4]; exact (Below.refl _ _).alloc (Nat.le_refl _) _
  have HQ4 : Hid (BoxB W4 W2.heap.size q bt (.slice A2 bl.length c2) bl) := Lib.hid (by rw [eW4, eq]; exact BoxB.new hVq)
  have HP4 := Lib.hid ((HP2.out.keep hb3).keep hb4)
  have HD4 := Lib.hid ((HD2.out.keep hb3).keep hb4)
  have HW4 := Lib.hid eW4
  have Hq := Lib.hid eq
  have hs4 := HD4.out.below.size
  clear hb3 hb4 hVq eW4 eq HD2 HP2 k0 k1 k2 k3
  go_upto_region 3 with fail
  rw [← HW4.out, ← Hq.out]
  clear HW4 Hq
  have HEm : Hid ((W4.alloc (.cells #[] 9)).ownsRow W4.heap.size 9 1 (.slice (some ⟨W4.heap.size, 0, none⟩) 0 0) 0 []) := Lib.hid ⟨rfl, .inr ⟨W4.heap.size, 0, #[], rfl, Nat.le_refl _, heap_alloc_new W4 _, Nat.le_refl _, by unfold maxLen; omega, rfl, rfl⟩⟩
  have HNg : Hid (gone.length = 0 ∨ ∃ b o, G = some ⟨b, o, none⟩ ∧ ∀ j u, (gone.map Value.string)[j]? = some u → (W4.alloc (.cells #[] 9)).cell? ⟨b, o + j, none⟩ = some u) := Lib.hid (news_strs (HGw.out _ (HD4.out.below.alloc hs4 _)))
  go_wp2_with (at_builtin; refine wpList_append_any rfl _ _ 26 rfl W4.heap.size 9 Tryz.underlying26 info_string rfl (by decide) [] rfl HEm.out (gone.map .string) rfl (by simp) HNg.out (strs_oneCell _) (by unfold maxLen; omega) (by omega) (by simp) ?_)
  intro Vg W5 hVg hgrow5 _
  obtain ⟨A3, c3, rfl, _⟩ := own_slice hVg
  have hb5 : Below W4.heap.size W4 W5 := ((Below.refl _ _).alloc (Nat.le_refl _) _).grown hgrow5 (by simp) (fun k hk => by simp [Value.ownBlock] at hk; omega)
  have HG5 : Hid (W5.ownsRow W4.heap.size 9 1 (.slice A3 gone.length c3) gone.length (gone.map .string)) := Lib.hid hVg
  have HD5 := Lib.hid (HD4.out.keep hb5)
  have HP5 := Lib.hid (HP4.out.keep hb5)
  have HQ5 := Lib.hid (HQ4.out.keep hb5)
  have m0 : W5.cell? ⟨p, 0, none⟩ = some (.string at_) := (HP5.out.blk.cell 0).trans rfl
  have m1 : W5.cell? ⟨p, 1, none⟩ = some (.slice A1 al.length c1) := (HP5.out.blk.cell 1).trans rfl
  have m2 : W5.cell? ⟨q, 0, none⟩ = some (.string bt) := (HQ5.out.blk.cell 0).trans rfl
  have m3 : W5.cell? ⟨q, 1, none⟩ = some (.slice A2 bl.length c2) := (HQ5.out.blk.cell 1).trans rfl
  clear hVg hgrow5 hb5 HEm HNg HD4 HP4 HQ4
  have HIn : Hid (∀ W, Below W5.heap.size W5 W → BunIn W ⟨at_, al⟩ (.slice A1 al.length c1) ∧ BunIn W ⟨bt, bl⟩ (.slice A2 bl.length c2) ∧ ListOk Enc.str W 0 W.heap.size (.slice A3 gone.length c3) gone) := Lib.hid fun W hW =>
    ⟨⟨⟨0, (ents_later HP5.out.row hW).mono Enc.ent_laws (Nat.le_refl _) hW.size⟩, hta, hlena, HEa.out⟩, ⟨⟨0, (ents_later HQ5.out.row hW).mono Enc.ent_laws (Nat.le_refl _) hW.size⟩, htb, hlenb, HEb.out⟩, (strs_later HG5.out hW).mono Enc.str_laws (Nat.le_refl _) hW.size⟩
  go_wp2_with fail
  refine (HOf.out _ _ _ HD5.out.below (HIn.out _ (Below.refl _ _)).1 (HIn.out _ (Below.refl _ _)).2.1).mono ?_
  rintro e w6 ⟨hb6, VX, LX, rfl, hVX, hLX⟩
  obtain ⟨A4, c4, rfl, _⟩ := own_slice hVX
  obtain ⟨A5, c5, rfl, _⟩ := own_slice hLX
  obtain ⟨W7, eW7⟩ : ∃ W7, W7 = w6.alloc (.cells #[.string pT, .slice A4 P.length c4] 24) := ⟨_, rfl⟩
  obtain ⟨px, epx⟩ : ∃ px, px = w6.heap.size := ⟨_, rfl⟩
  have hb7 : Below w6.heap.size w6 W7 := by rw [eW7]; exact (Below.refl _ _).alloc (Nat.le_refl _) _
  have hb57 := hb6.trans (hb7.mono hb6.size)
  have HX7 : Hid (BoxB W7 W5.heap.size px pT (.slice A4 P.length c4) P) := Lib.hid (by rw [eW7, epx]; exact BoxB.new hVX)
  have HL7 : Hid (W7.ownsRow W5.heap.size 9 1 (.slice A5 GN.length c5) GN.length (GN.map .string)) := Lib.hid (own_below hLX hb7 (Nat.le_refl _))
  have HB7 := Lib.hid hb57
  have hs7 := hb57.size
  have hpx : W5.heap.size ≤ px := by rw [epx]; exact hb6.size
  have HW7 := Lib.hid eW7
  have Hpx := Lib.hid epx
  clear m0 m1 m2 m3
  have m0 : W7.cell? ⟨p, 0, none⟩ = some (.string at_) := ((HP5.out.keep hb57).blk.cell 0).trans rfl
  have m1 : W7.cell? ⟨p, 1, none⟩ = some (.slice A1 al.length c1) := ((HP5.out.keep hb57).blk.cell 1).trans rfl
  have m2 : W7.cell? ⟨q, 0, none⟩ = some (.string bt) := ((HQ5.out.keep hb57).blk.cell 0).trans rfl
  have m3 : W7.cell? ⟨q, 1, none⟩ = some (.slice A2 bl.length c2) := ((HQ5.out.keep hb57).blk.cell 1).trans rfl
  clear hb6 hb7 hb57 hVX hLX eW7 epx
  go_upto_region 5 with fail
  rw [← HW7.out, ← Hpx.out]
  clear HW7 Hpx
  go_wp2_with fail
  refine (HAp.out _ _ _ _ 0 (HD5.out.keep HB7.out).below (HIn.out _ HB7.out).1 (HIn.out _ HB7.out).2.1 (HIn.out _ HB7.out).2.2).mono ?_
  rintro e w8 ⟨hb8, VY, rfl, hVY⟩
  obtain ⟨A6, c6, rfl, _⟩ := own_slice hVY
  obtain ⟨W9, eW9⟩ : ∃ W9, W9 = w8.alloc (.cells #[.string qT, .slice A6 Q.length c6] 24) := ⟨_, rfl⟩
  obtain ⟨py, epy⟩ : ∃ py, py = w8.heap.size := ⟨_, rfl⟩
  have hb9 : Below w8.heap.size w8 W9 := by rw [eW9]; exact (Below.refl _ _).alloc (Nat.le_refl _) _
  have hb79 := hb8.trans (hb9.mono hb8.size)
  have HY9 : Hid (BoxB W9 W5.heap.size py qT (.slice A6 Q.length c6) Q) := Lib.hid (by rw [eW9, epy]; exact BoxB.new (own_mono hVY hs7))
  have HX9 := Lib.hid (HX7.out.keep hb79)
  have HL9 := Lib.hid (own_below HL7.out hb79 (Nat.le_refl _))
  have HB9 := Lib.hid (HB7.out.trans (hb79.mono hs7))
  have hs9 := HB9.out.size
  have hVYlo : ∀ k, (Value.slice A6 Q.length c6).ownBlock = some k → W7.heap.size ≤ k := fun k hk => (own_lt hVY hk).1
  have HXY : Hid (∀ k, (Value.slice A4 P.length c4).ownBlock = some k → (Value.slice A6 Q.length c6).ownBlock ≠ some k) := Lib.hid fun k h1 h2 => by
    have h3 := (own_lt HX7.out.row h1).2
    have h4 := hVYlo k h2
    omega
  have HW9 := Lib.hid eW9
  have Hpy := Lib.hid epy
  have n0 : W9.cell? ⟨px, 0, none⟩ = some (.string pT) := (HX9.out.blk.cell 0).trans rfl
  have n1 : W9.cell? ⟨px, 1, none⟩ = some (.slice A4 P.length c4) := (HX9.out.blk.cell 1).trans rfl
  have HSp1 := Lib.hid (spoil_any pT x A4 P.length c4 W5.heap.size (flatE P) W9 HX9.out.row (by omega))
  clear hb8 hb9 hb79 hVY eW9 epy m0 m1 m2 m3 HX7 HL7 HB7 hVYlo
  go_upto_region 6 with fail
  rw [← HW9.out, ← Hpy.out]
  clear HW9 Hpy
  go_wp2_with fail
  refine HSp1.out.mono ?_
  clear HSp1
  rintro e w10 ⟨rfl, hf10⟩
  have HB10 := Lib.hid (HB9.out.trans (Fr.below (Below.refl _ _) hf10 hs9 (fun i hi => (own_lt HX9.out.row hi).1)))
  have HXb10 := Lib.hid (HX9.out.blk.fr hf10 (fun e => own_blk_ne HX9.out.row HX9.out.blk (by decide) e))
  have HY10 : Hid (BoxB w10 W5.heap.size py qT (.slice A6 Q.length c6) Q) := Lib.hid ⟨HY9.out.blk.fr hf10 (fun e => own_blk_ne HX9.out.row HY9.out.blk (by decide) e), own_keep HY9.out.row fun k hk hlt => hf10.block k hlt fun e => HXY.out k e hk⟩
  have HL10 := Lib.hid (own_keep HL9.out fun k hk hlt => hf10.block k hlt fun e => own_types HL9.out HX9.out.row (by decide) hk e)
  have hs10 := HB10.out.size
  have n2 : w10.cell? ⟨py, 0, none⟩ = some (.string qT) := (HY10.out.blk.cell 0).trans rfl
  have n3 : w10.cell? ⟨py, 1, none⟩ = some (.slice A6 Q.length c6) := (HY10.out.blk.cell 1).trans rfl
  have HSp2 := Lib.hid (spoil_any qT x A6 Q.length c6 W5.heap.size (flatE Q) w10 HY10.out.row (by omega))
  clear hf10 n0 n1
  go_wp2_with fail
  refine HSp2.out.mono ?_
  clear HSp2
  rintro e w11 ⟨rfl, hf11⟩
  have HB11 := Lib.hid (HB10.out.trans (Fr.below (Below.refl _ _) hf11 hs10 (fun i hi => (own_lt HY10.out.row hi).1)))
  have HXb11 := Lib.hid (HXb10.out.fr hf11 (fun e => own_blk_ne HY10.out.row HXb10.out (by decide) e))
  have HYb11 := Lib.hid (HY10.out.blk.fr hf11 (fun e => own_blk_ne HY10.out.row HY10.out.blk (by decide) e))
  have HL11 := Lib.hid (own_keep HL10.out fun k hk hlt => hf11.block k hlt fun e => own_types HL10.out HY10.out.row (by decide) hk e)
  have hs11 := HB11.out.size
  clear hf11 n2 n3
  go_wp2_with fail
  go_loopw [17] (fun i wr => ∃ j : Nat, j ≤ GN.length ∧ i = .int .i64 j ∧ Fr w11 wr (OwnB (.slice A5 GN.length c5)) ∧ ∀ g, A5 = some ⟨g, 0, none⟩ → 0 < GN.length → HasN wr g 9 (GN.length * 1)) (fun i _ => GN.length - (intOf i).toNat)
  case atStart => exact ⟨0, Nat.zero_le _, rfl, Fr.refl _ _, fun g hg h0 => by
    obtain ⟨g', e, _, hlt, hh⟩ := HasN.of_own HL11.out h0
    have : g' = g := by rw [e] at hg; injection hg with hg; injection hg
    subst this
    exact hh⟩
  case round =>
    obtain ⟨j, hj, rfl, hF, hR⟩ := hrel
    have HF := Lib.hid hF
    have HR := Lib.hid hR
    clear hF hR
    by_cases hlt : j < GN.length
    · obtain ⟨g, rfl, hbg, hgl2, _⟩ := HasN.of_own HL11.out (by omega)
      have hh := HR.out g rfl (by omega)
      obtain ⟨⟨u0, h0⟩, f0⟩ := hh.cell j (by omega)
      have HS : Hid (Fr w11 (wr.setCell ⟨g, j, none⟩ (.string x)) (OwnB (.slice (some ⟨g, 0, none⟩) GN.length c5))) := Lib.hid (HF.out.setCell (p := ⟨g, j, none⟩) (.inl rfl) _)
      have HH := Lib.hid (hh.set j (.string x))
      clear hh
      have i1 : (0 : Int) ≤ (j : Int) := Int.natCast_nonneg j
      have i2 : (j : Int) < (GN.length : Int) := by omega
      go_wp2_with fail
      refine ⟨⟨j + 1, by omega, by go_num, HS.out, fun g' hg' _ => ?_⟩, by simp [intOf]; omega⟩
      injection hg' with hg'
      injection hg' with hg'
      subst hg'
      exact HH.out
    · have hb12 : Below W5.heap.size W5 wr := HB11.out.trans (Fr.below (Below.refl _ _) HF.out hs11 (fun i hi => (own_lt HL11.out hi).1))
      have HXb := Lib.hid (HXb11.out.fr HF.out (fun e => own_blk_ne HL11.out HXb11.out (by decide) e))
      have HYb := Lib.hid (HYb11.out.fr HF.out (fun e => own_blk_ne HL11.out HYb11.out (by decide) e))
      have hs12 := hb12.size
      have HB12 := Lib.hid hb12
      have HD12 := Lib.hid (HD5.out.keep hb12)
      have HP12 := Lib.hid (HP5.out.keep hb12)
      have HQ12 := Lib.hid (HQ5.out.keep hb12)
      have HG12 := Lib.hid (own_below HG5.out hb12 (Nat.le_refl _))
      have k0 : wr.cell? ⟨w.heap.size, 0, none⟩ = some (.string at_) := (HD12.out.ba.cell 0).trans rfl
      have k1 : wr.cell? ⟨w.heap.size, 1, none⟩ = some (.slice A al.length c) := (HD12.out.ba.cell 1).trans rfl
      have k2 : wr.cell? ⟨w.heap.size + 1, 0, none⟩ = some (.string bt) := (HD12.out.bb.cell 0).trans rfl
      have k3 : wr.cell? ⟨w.heap.size + 1, 1, none⟩ = some (.slice B bl.length d) := (HD12.out.bb.cell 1).trans rfl
      have m0 : wr.cell? ⟨p, 0, none⟩ = some (.string at_) := (HP12.out.blk.cell 0).trans rfl
      have m1 : wr.cell? ⟨p, 1, none⟩ = some (.slice A1 al.length c1) := (HP12.out.blk.cell 1).trans rfl
      have m2 : wr.cell? ⟨q, 0, none⟩ = some (.string bt) := (HQ12.out.blk.cell 0).trans rfl
      have m3 : wr.cell? ⟨q, 1, none⟩ = some (.slice A2 bl.length c2) := (HQ12.out.blk.cell 1).trans rfl
      have HS1 := Lib.hid (sbun_same at_ al (.slice A1 al.length c1) (.slice A al.length c) 0 wr.heap.size alo wr.heap.size wr (ents_later HP12.out.row (Below.refl _ _)) (HAl.out _ HD12.out.below) (Nat.le_refl _) (Nat.le_refl _) hlena)
      clear hb12 HXb11 HYb11 HL11 HB11 HF HR HD5 HP5 HQ5 HG5 HXY HY10 HX9 HY9 HL9 HB9 HB10 HXb10 HL10
      go_wp2_with fail
      refine HS1.out.mono ?_
      clear HS1
      rintro e w13 ⟨rfl, hb13⟩
      have hb513 := HB12.out.trans (hb13.mono hs12)
      have HD13 := Lib.hid (HD12.out.keep hb13)
      have HQ13 := Lib.hid (HQ12.out.keep hb13)
      have HG13 := Lib.hid (own_below HG12.out hb13 (Nat.le_refl _))
      have HXb13 := Lib.hid (HXb.out.below hb13 HXb.out.lt)
      have HYb13 := Lib.hid (HYb.out.below hb13 HYb.out.lt)
      clear k0 k1 k2 k3 m0 m1 m2 m3 hb13 hb513 HD12 HP12 HQ12 HG12 HXb HYb HB12
      have k2 : w13.cell? ⟨w.heap.size + 1, 0, none⟩ = some (.string bt) := (HD13.out.bb.cell 0).trans rfl
      have k3 : w13.cell? ⟨w.heap.size + 1, 1, none⟩ = some (.slice B bl.length d) := (HD13.out.bb.cell 1).trans rfl
      have m2 : w13.cell? ⟨q, 0, none⟩ = some (.string bt) := (HQ13.out.blk.cell 0).trans rfl
      have m3 : w13.cell? ⟨q, 1, none⟩ = some (.slice A2 bl.length c2) := (HQ13.out.blk.cell 1).trans rfl
      have HS2 := Lib.hid (sbun_same bt bl (.slice A2 bl.length c2) (.slice B bl.length d) 0 w13.heap.size blo w13.heap.size w13 (ents_later HQ13.out.row (Below.refl _ _)) (HBl.out _ HD13.out.below) (Nat.le_refl _) (Nat.le_refl _) hlenb)
      go_wp2_with fail
      refine HS2.out.mono ?_
      clear HS2
      rintro e w14 ⟨rfl, hb14⟩
      have HD14 := Lib.hid (HD13.out.keep hb14)
      have HXb14 := Lib.hid (HXb13.out.below hb14 HXb13.out.lt)
      have HYb14 := Lib.hid (HYb13.out.below hb14 HYb13.out.lt)
      have HT : Hid (Calls Tryz.prog 17 #[.slice A3 gone.length c3, .slice G gone.length gc] w14 fun e w' => e = .returned (.bool true) ∧ Below w14.heap.size w14 w') := Lib.hid (by
        have h := texts_any (.slice A3 gone.length c3) (.slice G gone.length gc) gone gone 0 w13.heap.size glo w14.heap.size w14 (strs_later HG13.out hb14) (HGw.out _ HD14.out.below) hgl' hgl'
        rw [decide_eq_true rfl] at h
        exact h.mono fun e w' ⟨h2, n, h3⟩ => ⟨h2, by rw [h3]; exact below_drewN (Below.refl _ _) n⟩)
      clear k2 k3 m2 m3 hb14 HD13 HQ13 HG13 HXb13 HYb13
      go_wp2_with fail
      refine HT.out.mono ?_
      clear HT
      rintro e w15 ⟨rfl, hb15⟩
      have HD15 := Lib.hid (HD14.out.keep hb15)
      have HXb15 := Lib.hid (HXb14.out.below hb15 HXb14.out.lt)
      have HYb15 := Lib.hid (HYb14.out.below hb15 HYb14.out.lt)
      have k0 : w15.cell? ⟨w.heap.size, 0, none⟩ = some (.string at_) := (HD15.out.ba.cell 0).trans rfl
      have k1 : w15.cell? ⟨w.heap.size, 1, none⟩ = some (.slice A al.length c) := (HD15.out.ba.cell 1).trans rfl
      have k2 : w15.cell? ⟨w.heap.size + 1, 0, none⟩ = some (.string bt) := (HD15.out.bb.cell 0).trans rfl
      have k3 : w15.cell? ⟨w.heap.size + 1, 1, none⟩ = some (.slice B bl.length d) := (HD15.out.bb.cell 1).trans rfl
      clear hb15 HD14 HXb14 HYb14
      go_wp2_with fail
      refine (HOf.out _ _ _ HD15.out.below (HA.out.below HD15.out.below) (HB.out.below HD15.out.below)).mono ?_
      clear HOf
      rintro e w16 ⟨hb16, VC, LC, rfl, hVC, hLC⟩
      obtain ⟨A7, c7, rfl, _⟩ := own_slice hVC
      obtain ⟨A8, c8, rfl, _⟩ := own_slice hLC
      obtain ⟨W17, eW17⟩ : ∃ W17, W17 = w16.alloc (.cells #[.string pT, .slice A7 P.length c7] 24) := ⟨_, rfl⟩
      obtain ⟨pc, epc⟩ : ∃ pc, pc = w16.heap.size := ⟨_, rfl⟩
      have hb17 : Below w16.heap.size w16 W17 := by rw [eW17]; exact (Below.refl _ _).alloc (Nat.le_refl _) _
      have hc17 := hb16.trans (hb17.mono hb16.size)
      have HC17 : Hid (Blk W17 pc 24 #[.string pT, .slice A7 P.length c7]) := Lib.hid (by rw [eW17, epc]; exact Blk.new _ _ _)
      have HD17 := Lib.hid (HD15.out.keep hc17)
      have HXb17 := Lib.hid (HXb15.out.below hc17 HXb15.out.lt)
      have HYb17 := Lib.hid (HYb15.out.below hc17 HYb15.out.lt)
      have HW17 := Lib.hid eW17
      have Hpc := Lib.hid epc
      clear k0 k1 k2 k3
      have k0 : W17.cell? ⟨w.heap.size, 0, none⟩ = some (.string at_) := (HD17.out.ba.cell 0).trans rfl
      have k1 : W17.cell? ⟨w.heap.size, 1, none⟩ = some (.slice A al.length c) := (HD17.out.ba.cell 1).trans rfl
      have k2 : W17.cell? ⟨w.heap.size + 1, 0, none⟩ = some (.string bt) := (HD17.out.bb.cell 0).trans rfl
      have k3 : W17.cell? ⟨w.heap.size + 1, 1, none⟩ = some (.slice B bl.length d) := (HD17.out.bb.cell 1).trans rfl
      clear hb16 hb17 hc17 hVC hLC eW17 epc HD15 HXb15 HYb15
      go_upto_region 16 with fail
      rw [← HW17.out, ← Hpc.out]
      clear HW17 Hpc
      go_wp2_with fail
      refine (HAp.out _ _ _ _ glo HD17.out.below (HA.out.below HD17.out.below) (HB.out.below HD17.out.below) (HGw.out _ HD17.out.below)).mono ?_
      clear HAp
      rintro e w18 ⟨hb18, VZ, rfl, hVZ⟩
      obtain ⟨A9, c9, rfl, _⟩ := own_slice hVZ
      obtain ⟨W19, eW19⟩ : ∃ W19, W19 = w18.alloc (.cells #[.string qT, .slice A9 Q.length c9] 24) := ⟨_, rfl⟩
      obtain ⟨pz, epz⟩ : ∃ pz, pz = w18.heap.size := ⟨_, rfl⟩
      have hb19 : Below w18.heap.size w18 W19 := by rw [eW19]; exact (Below.refl _ _).alloc (Nat.le_refl _) _
      have hc19 := hb18.trans (hb19.mono hb18.size)
      have HZ19 : Hid (Blk W19 pz 24 #[.string qT, .slice A9 Q.length c9]) := Lib.hid (by rw [eW19, epz]; exact Blk.new _ _ _)
      have HC19 := Lib.hid (HC17.out.below hc19 HC17.out.lt)
      have HD19 := Lib.hid (HD17.out.keep hc19)
      have HXb19 := Lib.hid (HXb17.out.below hc19 HXb17.out.lt)
      have HYb19 := Lib.hid (HYb17.out.below hc19 HYb17.out.lt)
      have HW19 := Lib.hid eW19
      have Hpz := Lib.hid epz
      clear k0 k1 k2 k3 hb18 hb19 hc19 hVZ eW19 epz HD17 HXb17 HYb17 HC17
      go_upto_region 17 with fail
      rw [← HW19.out, ← Hpz.out]
      clear HW19 Hpz
      go_wp2_with fail
      refine (HEr.out _ F HD19.out.below).mono ?_
      rintro e w20 ⟨rfl, hb20⟩
      have HZ20 := Lib.hid (HZ19.out.below hb20 HZ19.out.lt)
      have HC20 := Lib.hid (HC19.out.below hb20 HC19.out.lt)
      have HD20 := Lib.hid (HD19.out.keep hb20)
      have HXb20 := Lib.hid (HXb19.out.below hb20 HXb19.out.lt)
      have HYb20 := Lib.hid (HYb19.out.below hb20 HYb19.out.lt)
      clear hb20 HZ19 HC19 HD19 HXb19 HYb19
      go_wp2_with fail
      refine (HEr.out _ AF HD20.out.below).mono ?_
      clear HEr
      rintro e w21 ⟨rfl, hb21⟩
      have HZ21 := Lib.hid (HZ20.out.below hb21 HZ20.out.lt)
      have HC21 := Lib.hid (HC20.out.below hb21 HC20.out.lt)
      have HD21 := Lib.hid (HD20.out.keep hb21)
      have HXb21 := Lib.hid (HXb20.out.below hb21 HXb20.out.lt)
      have HYb21 := Lib.hid (HYb20.out.below hb21 HYb20.out.lt)
      clear hb21 HZ20 HC20 HD20 HXb20 HYb20
      go_wp2_with fail
      refine (HFc.out _ HD21.out.below).mono ?_
      clear HFc
      rintro e w22 ⟨hb22, AZ, nZ, cZ, LF, rfl⟩
      have HD22 := Lib.hid (HD21.out.keep hb22)
      have y0 : w22.cell? ⟨pz, 1, none⟩ = some (.slice A9 Q.length c9) := ((HZ21.out.below hb22 HZ21.out.lt).cell 1).trans rfl
      have y1 : w22.cell? ⟨pc, 1, none⟩ = some (.slice A7 P.length c7) := ((HC21.out.below hb22 HC21.out.lt).cell 1).trans rfl
      have y2 : w22.cell? ⟨px, 1, none⟩ = some (.slice A4 P.length c4) := ((HXb21.out.below hb22 HXb21.out.lt).cell 1).trans rfl
      have y3 : w22.cell? ⟨py, 1, none⟩ = some (.slice A6 Q.length c6) := ((HYb21.out.below hb22 HYb21.out.lt).cell 1).trans rfl
      have z0 := (HZ21.out.below hb22 HZ21.out.lt).lt
      have z1 := (HC21.out.below hb22 HC21.out.lt).lt
      have z2 := (HXb21.out.below hb22 HXb21.out.lt).lt
      have z3 := (HYb21.out.below hb22 HYb21.out.lt).lt
      have hs22 := HD22.out.below.size
      clear hb22 HZ21 HC21 HD21 HXb21 HYb21
      go_wp2_with fail
      go_ret
      exact ⟨by simp, HD22.out.below.alloc hs22 _⟩
end Go.Proofs.YtiaobgapfoogiaaGreatDoor
