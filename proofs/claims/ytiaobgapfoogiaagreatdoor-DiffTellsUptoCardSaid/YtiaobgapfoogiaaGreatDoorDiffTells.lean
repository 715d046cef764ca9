/- The walk of linguisterlaw4.DiffTells. -/
import Derived.Test.YtiaobgapfoogiaaGreatDoorDiffU
import Derived.Test.YtiaobgapfoogiaaGreatDoorRefG
set_option linter.unusedSimpArgs false
set_option linter.unusedVariables false
namespace Go.Proofs.YtiaobgapfoogiaaGreatDoor
open Go.RowKit Go.Maps

/-- What stands once the two bundles lie in boxes. -/
structure Dt (w wr : World) (ca cb : Array Value) : Prop where
  below : Below w.heap.size w wr
  ba : Blk wr w.heap.size 24 ca
  bb : Blk wr (w.heap.size + 1) 24 cb
theorem Dt.keep {w wr W : World} {ca cb : Array Value} (h : Dt w wr ca cb) (hb : Below wr.heap.size wr W) : Dt w W ca cb :=
  ⟨h.below.trans (hb.mono h.below.size), h.ba.below hb h.ba.lt, h.bb.below hb h.bb.lt⟩
theorem Dt.set {w wr : World} {ca cb : Array Value} (h : Dt w wr ca cb) {p : Nat} (hp : w.heap.size + 1 < p) (i : Nat) (u : Value) : Dt w (wr.setCell ⟨p, i, none⟩ u) ca cb :=
  ⟨h.below.setCell (by show w.heap.size ≤ p; omega) u, Blk.far h.ba (by show _ ≠ p; omega) u, Blk.far h.bb (by show _ ≠ p; omega) u⟩
/-- A box with a bundle whose entries a call has left behind, in blocks from B on. -/
structure BoxB (wr : World) (B p : Nat) (tg : ByteArray) (V : Value) (l : List Ent) : Prop where
  blk : Blk wr p 24 #[.string tg, V]
  row : wr.ownsRow B 33 2 V l.length (flatE l)
theorem BoxB.keep {wr W : World} {B p : Nat} {tg : ByteArray} {V : Value} {l : List Ent} (h : BoxB wr B p tg V l) (hb : Below wr.heap.size wr W) : BoxB W B p tg V l :=
  ⟨h.blk.below hb h.blk.lt, own_below h.row hb (Nat.le_refl _)⟩
theorem BoxB.new {wr : World} {B : Nat} {tg : ByteArray} {V : Value} {l : List Ent} (h : wr.ownsRow B 33 2 V l.length (flatE l)) : BoxB (wr.alloc (.cells #[.string tg, V] 24)) B wr.heap.size tg V l :=
  ⟨Blk.new _ _ _, own_below h ((Below.refl _ _).alloc (Nat.le_refl _) _) (Nat.le_refl _)⟩
theorem own_set {wr : World} {B : Nat} {e : TypeId} {sz n : Nat} {v : Value} {xs : List Value} (h : wr.ownsRow B e sz v n xs) {q : Nat} (hq : q < B) (i : Nat) (u : Value) : (wr.setCell ⟨q, i, none⟩ u).ownsRow B e sz v n xs :=
  own_keep h fun k hk _ => Below.heap_setCell _ _ _ _ (by have := (own_lt h hk).1; show k ≠ q; omega)
theorem BoxB.set {wr : World} {B p : Nat} {tg : ByteArray} {V : Value} {l : List Ent} (h : BoxB wr B p tg V l) {q : Nat} (hq : p ≠ q) (hB : q < B) (i : Nat) (u : Value) : BoxB (wr.setCell ⟨q, i, none⟩ u) B p tg V l :=
  ⟨h.blk.far hq u, own_set h.row hB i u⟩
theorem BoxB.same {wr : World} {B C p q : Nat} {tg : ByteArray} {V U : Value} {l : List Ent} (h : BoxB wr B p tg V l) (k : BoxB wr C q tg U l) (hn : l.length ≤ 100) :
    Calls Tryz.prog 11 #[.agg #[.string tg, V], .agg #[.string tg, U]] wr fun e w' => e = .returned (.bool true) ∧ Below wr.heap.size wr w' :=
  sbun_same tg l V U 0 wr.heap.size 0 wr.heap.size wr (ents_later h.row (Below.refl _ _)) (ents_later k.row (Below.refl _ _)) (Nat.le_refl _) (Nat.le_refl _) (by omega)
theorem texts_same {wr : World} {B C : Nat} {v u : Value} {l : List ByteArray} (h : wr.ownsRow B 9 1 v l.length (l.map .string)) (k : wr.ownsRow C 9 1 u l.length (l.map .string)) (hn : l.length ≤ 100) :
    Calls Tryz.prog 17 #[v, u] wr fun e w' => e = .returned (.bool true) ∧ Below wr.heap.size wr w' := by
  have h1 := texts_any v u l l 0 wr.heap.size 0 wr.heap.size wr (strs_later h (Below.refl _ _)) (strs_later k (Below.refl _ _)) (by omega) (by omega)
  rw [decide_eq_true rfl] at h1
  exact h1.mono fun e w' ⟨h2, n, h3⟩ => ⟨h2, by rw [h3]; exact below_drewN (Below.refl _ _) n⟩

set_option maxHeartbeats 25600000 in
set_option maxRecDepth 100000 in
theorem diffTells_any (a b : Bun) (gone : List ByteArray) (u v g : Value) (glo : Nat) (w : World) (ha : BunIn w a u) (hb : BunIn w b v) (hg : ListOk Enc.str w glo w.heap.size g gone) (hgl : gone.length ≤ 140737488355328) (hgs : ∀ x ∈ gone, x.size ≤ maxLen) (hm : MaxVar w) (hE : ErrVar w) :
    Calls Tryz.prog 5 #[.agg #[.string a.tag, u], .agg #[.string b.tag, v], g] w fun e w' => e = .returned (.bool true) ∧ Below w.heap.size w w' := by
  have HDf : Hid (∀ W, Below w.heap.size w W → Calls Tryz.prog 7 #[] W fun e w' => e = .returned (.bool true) ∧ Below W.heap.size W w') := Lib.hid fun W hW => differs_any W (hm.below hW)
  have HFa : Hid (∀ W, Below w.heap.size w W → Calls Tryz.prog 13 #[.agg #[.string a.tag, u]] W fun e w' => e = .returned (.int .i64 (bunFault a)) ∧ Below W.heap.size W w') := Lib.hid fun W hW => qbunfault_any a u W (ha.below hW)
  have HFb : Hid (∀ W, Below w.heap.size w W → Calls Tryz.prog 13 #[.agg #[.string b.tag, v]] W fun e w' => e = .returned (.int .i64 (bunFault b)) ∧ Below W.heap.size W w') := Lib.hid fun W hW => qbunfault_any b v W (hb.below hW)
  have hgW : ∀ W, Below w.heap.size w W → ListOk Enc.str W glo W.heap.size g gone := fun W hW => (hg.below Enc.str_laws hW).mono Enc.str_laws (Nat.le_refl _) hW.size
  have HQd : Hid (bothFault a b = 0 → ∀ W, Below w.heap.size w W → Calls Tryz.prog 14 #[.agg #[.string a.tag, u], .agg #[.string b.tag, v]] W fun e w' => Below W.heap.size W w' ∧ ∃ V L, e = .returned (.tuple #[.agg #[.string (ofTag a b), V], L]) ∧
      w'.ownsRow W.heap.size 33 2 V (ofPut a b).length (flatE (ofPut a b)) ∧ w'.ownsRow W.heap.size 9 1 L (ofGone a b).length ((ofGone a b).map .string)) := Lib.hid fun h W hW => qdiff_right h u v W (ha.below hW) (hb.below hW)
  have HQa : Hid (bothFault a b = 0 → ∀ W, Below w.heap.size w W → Calls Tryz.prog 15 #[.agg #[.string a.tag, u], .agg #[.string b.tag, v], g] W fun e w' => Below W.heap.size W w' ∧ ∃ V, e = .returned (.tuple #[.agg #[.string (apTag a b gone), V], .int .i64 (applyFault a b gone)]) ∧
      w'.ownsRow W.heap.size 33 2 V (apEnts a b gone).length (flatE (apEnts a b gone))) := Lib.hid fun h W hW => qapply_right h gone u v g glo W (ha.below hW) (hb.below hW) (hgW W hW) hgl
  have HOf : Hid (∀ W, Below w.heap.size w W → Calls Tryz.prog 8 #[.agg #[.string a.tag, u], .agg #[.string b.tag, v]] W fun e w' => Below W.heap.size W w' ∧ ∃ V L, e = .returned (.tuple #[.agg #[.string (ofTag a b), V], L, errV (bothFault a b)]) ∧
      w'.ownsRow W.heap.size 33 2 V (ofPut a b).length (flatE (ofPut a b)) ∧ w'.ownsRow W.heap.size 9 1 L (ofGone a b).length ((ofGone a b).map .string)) := Lib.hid fun W hW => of_any a b u v W (ha.below hW) (hb.below hW) (hm.below hW)
  have HAp : Hid (∀ W, Below w.heap.size w W → Calls Tryz.prog 10 #[.agg #[.string a.tag, u], .agg #[.string b.tag, v], g] W fun e w' => Below W.heap.size W w' ∧ ∃ V, e = .returned (.tuple #[.agg #[.string (apTag a b gone), V], errV (applyFault a b gone)]) ∧
      w'.ownsRow W.heap.size 33 2 V (apEnts a b gone).length (flatE (apEnts a b gone))) := Lib.hid fun W hW => ap_any a b gone u v g glo W (ha.below hW) (hb.below hW) (hgW W hW) hgl hgs (hm.below hW)
  have HEr : Hid (∀ W n, Below w.heap.size w W → Calls Tryz.prog 16 #[errV n, .int .i64 n] W fun e w' => e = .returned (.bool true) ∧ Below W.heap.size W w') := Lib.hid fun W n hW => by
    have h := serror_any n n W (hE.below hW hE.lt)
    rwa [decide_eq_true rfl] at h
  have HBf : Hid (bothFault a b = if bunFault a = 0 then bunFault b else bunFault a) := Lib.hid rfl
  have HZ : Hid (bothFault a b ≠ 0 → ofTag a b = ByteArray.empty ∧ ofPut a b = [] ∧ ofGone a b = [] ∧ apTag a b gone = ByteArray.empty ∧ apEnts a b gone = [] ∧ applyFault a b gone = bothFault a b) := Lib.hid fun h => by
    have h2 : applyFault a b gone = bothFault a b := by unfold applyFault; rw [if_neg h]
    refine ⟨by unfold ofTag; rw [if_neg h], by unfold ofPut; rw [if_neg h], by unfold ofGone; rw [if_neg h], ?_, ?_, h2⟩
    · unfold apTag; rw [h2, if_neg h]
    · unfold apEnts; rw [h2, if_neg h]
  have hPl := ofPut_len a b
  have hGl := ofGone_len a b
  have hQl := apEnts_len a b gone
  obtain ⟨_, hla⟩ := ha.lo
  obtain ⟨_, hlb⟩ := hb.lo
  obtain ⟨A, c, rfl, _⟩ := hla.form
  obtain ⟨B, d, rfl, _⟩ := hlb.form
  obtain ⟨G, gc, rfl, _⟩ := hg.form
  clear hgW hgs hg
  generalize ofTag a b = pT at *
  generalize ofPut a b = P at *
  generalize ofGone a b = GN at *
  generalize apTag a b gone = qT at *
  generalize apEnts a b gone = Q at *
  generalize applyFault a b gone = AF at *
  generalize bothFault a b = F at *
  generalize bunFault a = fa at *
  generalize bunFault b = fb at *
  obtain ⟨at_, al⟩ := a
  obtain ⟨bt, bl⟩ := b
  dsimp only at HFa HFb HQd HQa HOf HAp ⊢
  clear ha hb hla hlb hm hE
  go_enter Tryz.func5, Tryz.ntmps5
  go_wp2_with fail
  obtain ⟨W0, eW0⟩ : ∃ W0, W0 = (w.alloc (.cells #[.string at_, .slice A al.length c] 24)).alloc (.cells #[.string bt, .slice B bl.length d] 24) := ⟨_, rfl⟩
  have HD0 : Hid (Dt w W0 #[.string at_, .slice A al.length c] #[.string bt, .slice B bl.length d]) := Lib.hid ⟨by rw [eW0]; exact ((Below.refl _ _).alloc (Nat.le_refl _) _).alloc (by simp) _, by rw [eW0]; exact (Blk.new _ _ _).alloc _, by
    rw [eW0]
    have := Blk.new (w.alloc (.cells #[.string at_, .slice A al.length c] 24)) 24 #[.string bt, .slice B bl.length d]
    rw [World.size_alloc] at this
    exact this⟩
  rw [← eW0]
  clear eW0
  refine (HDf.out _ HD0.out.below).mono ?_
  clear HDf
  rintro e w1 ⟨rfl, hb1⟩
  have HD1 := Lib.hid (HD0.out.keep hb1)
  have k0 : w1.cell? ⟨w.heap.size, 0, none⟩ = some (.string at_) := (HD1.out.ba.cell 0).trans rfl
  have k1 : w1.cell? ⟨w.heap.size, 1, none⟩ = some (.slice A al.length c) := (HD1.out.ba.cell 1).trans rfl
  clear hb1 HD0
  go_wp2_with fail
  refine (HFa.out _ HD1.out.below).mono ?_
  clear HFa
  rintro e w2 ⟨rfl, hb2⟩
  have HD2 := Lib.hid (HD1.out.keep hb2)
  clear hb2 HD1 k0 k1
  go_upto_if 26 with fail
  go_cut [8] (fun x wx => x = .int .i64 F ∧ Dt w wx #[.string at_, .slice A al.length c] #[.string bt, .slice B bl.length d])
  case first =>
    have k2 : w2.cell? ⟨w.heap.size + 1, 0, none⟩ = some (.string bt) := (HD2.out.bb.cell 0).trans rfl
    have k3 : w2.cell? ⟨w.heap.size + 1, 1, none⟩ = some (.slice B bl.length d) := (HD2.out.bb.cell 1).trans rfl
    by_cases hfa : fa = 0
    · subst hfa
      rw [if_pos rfl] at HBf
      go_wp2_with fail
      refine (HFb.out _ HD2.out.below).mono ?_
      rintro e w3 ⟨rfl, hb3⟩
      have HD3 := Lib.hid (HD2.out.keep hb3)
      clear hb3 k2 k3
      go_wp2_with fail
      go_meet
      case rel => exact ⟨by rw [HBf.out], HD3.out⟩
    · rw [if_neg hfa] at HBf
      have hfb : ((fa : Int) == 0) = false := by simpa using hfa
      clear hfa k2 k3
      go_wp2_with fail
      go_meet
      case rel => exact ⟨by rw [HBf.out], HD2.out⟩
  case rest =>
    obtain ⟨rfl, hD⟩ := hcut
    have HDc := Lib.hid hD
    clear hD HD2 HFb HBf
    have hs := HDc.out.below.size
    have hbl := HDc.out.bb.lt
    go_upto_if 31 with fail
    obtain ⟨W5, eW5⟩ : ∃ W5, W5 = (wc.alloc (.cells #[.string ⟨#[]⟩, .slice none 0 0] 24)).alloc (.cells #[.string ⟨#[]⟩, .slice none 0 0] 24) := ⟨_, rfl⟩
    have hb5 : Below wc.heap.size wc W5 := by rw [eW5]; exact ((Below.refl _ _).alloc (Nat.le_refl _) _).alloc (by simp) _
    have m9 : Blk W5 wc.heap.size 24 #[.string ⟨#[]⟩, .slice none 0 0] := by rw [eW5]; exact (Blk.new _ _ _).alloc _
    have m12 : Blk W5 (wc.heap.size + 1) 24 #[.string ⟨#[]⟩, .slice none 0 0] := by
      rw [eW5]
      have := Blk.new (wc.alloc (.cells #[.string ⟨#[]⟩, .slice none 0 0] 24)) 24 #[.string ⟨#[]⟩, .slice none 0 0]
      rw [World.size_alloc] at this
      exact this
    have hB0 : wc.heap.size + 1 < W5.heap.size := m12.lt
    obtain ⟨p, ep⟩ : ∃ p, p = wc.heap.size := ⟨_, rfl⟩
    rw [← eW5]
    rw [← ep] at m9 m12 hB0 ⊢
    have hp : w.heap.size + 1 < p := by omega
    have hp1 : w.heap.size + 1 < p + 1 := by omega
    have HD5 := Lib.hid (HDc.out.keep hb5)
    have HM9 := Lib.hid m9
    have HM12 := Lib.hid m12
    clear eW5 hb5 m9 m12 ep HDc hs hbl
    go_cut [10, 11] (fun x y wx => ∃ V0 V1, y = .int .i64 AF ∧ Dt w wx #[.string at_, .slice A al.length c] #[.string bt, .slice B bl.length d] ∧ BoxB wx W5.heap.size p pT V0 P ∧ BoxB wx W5.heap.size (p + 1) qT V1 Q ∧ wx.ownsRow W5.heap.size 9 1 x GN.length (GN.map .string))
    case first =>
      by_cases hF : F = 0
      · have HQd' := Lib.hid (HQd.out hF)
        have HQa' := Lib.hid (HQa.out hF)
        have hF0 : ((F : Int) == 0) = true := by simpa using hF
        have k0 : W5.cell? ⟨w.heap.size, 0, none⟩ = some (.string at_) := (HD5.out.ba.cell 0).trans rfl
        have k1 : W5.cell? ⟨w.heap.size, 1, none⟩ = some (.slice A al.length c) := (HD5.out.ba.cell 1).trans rfl
        have k2 : W5.cell? ⟨w.heap.size + 1, 0, none⟩ = some (.string bt) := (HD5.out.bb.cell 0).trans rfl
        have k3 : W5.cell? ⟨w.heap.size + 1, 1, none⟩ = some (.slice B bl.length d) := (HD5.out.bb.cell 1).trans rfl
        clear hF HQd HQa HZ
        go_wp2_with fail
        refine (HQd'.out _ HD5.out.below).mono ?_
        clear HQd'
        rintro e w6 ⟨hb6, V0, L0, rfl, hV0, hL0⟩
        have m9 := HM9.out.below hb6 HM9.out.lt
        have q0 : w6.cell? ⟨p, 0, none⟩ = some (.string ⟨#[]⟩) := (m9.cell 0).trans rfl
        have q1 : w6.cell? ⟨p, 1, none⟩ = some (.slice none 0 0) := (m9.cell 1).trans rfl
        have g0 := m9.frozen 0
        have g1 := m9.frozen 1
        obtain ⟨A0, c0, rfl, _⟩ := own_slice hV0
        obtain ⟨A1, c1, rfl, _⟩ := own_slice hL0
        obtain ⟨W7, eW7⟩ : ∃ W7, W7 = (w6.setCell ⟨p, 0, none⟩ (.string pT)).setCell ⟨p, 1, none⟩ (.slice A0 P.length c0) := ⟨_, rfl⟩
        have HD7 : Hid (Dt w W7 #[.string at_, .slice A al.length c] #[.string bt, .slice B bl.length d]) := Lib.hid (by rw [eW7]; exact ((HD5.out.keep hb6).set hp 0 _).set hp 1 _)
        have HX7 : Hid (BoxB W7 W5.heap.size p pT (.slice A0 P.length c0) P) := Lib.hid (by rw [eW7]; exact ⟨(m9.set_ 0 _).set_ 1 _, own_set (own_set hV0 (by omega) 0 _) (by omega) 1 _⟩)
        have HL7 : Hid (W7.ownsRow W5.heap.size 9 1 (.slice A1 GN.length c1) GN.length (GN.map .string)) := Lib.hid (by rw [eW7]; exact own_set (own_set hL0 (by omega) 0 _) (by omega) 1 _)
        have HM7 : Hid (Blk W7 (p + 1) 24 #[.string ⟨#[]⟩, .slice none 0 0]) := Lib.hid (by rw [eW7]; exact ((HM12.out.below hb6 HM12.out.lt).far (by show _ ≠ p; omega) _).far (by show _ ≠ p; omega) _)
        have hs7 : W5.heap.size ≤ W7.heap.size := by rw [eW7]; have := hb6.size; simpa using this
        have l0 : W7.cell? ⟨w.heap.size, 0, none⟩ = some (.string at_) := (HD7.out.ba.cell 0).trans rfl
        have l1 : W7.cell? ⟨w.heap.size, 1, none⟩ = some (.slice A al.length c) := (HD7.out.ba.cell 1).trans rfl
        have l2 : W7.cell? ⟨w.heap.size + 1, 0, none⟩ = some (.string bt) := (HD7.out.bb.cell 0).trans rfl
        have l3 : W7.cell? ⟨w.heap.size + 1, 1, none⟩ = some (.slice B bl.length d) := (HD7.out.bb.cell 1).trans rfl
        have HW7 := Lib.hid eW7
        clear hb6 hV0 hL0 m9 k0 k1 k2 k3 HD5 eW7 HM9 HM12
        go_upto_region 11 with fail
        rw [← HW7.out]
        clear HW7 q0 q1 g0 g1
        go_wp2_with fail
        refine (HQa'.out _ HD7.out.below).mono ?_
        clear HQa'
        rintro e w8 ⟨hb8, V1, rfl, hV1⟩
        have m12 := HM7.out.below hb8 HM7.out.lt
        have q0 : w8.cell? ⟨p + 1, 0, none⟩ = some (.string ⟨#[]⟩) := (m12.cell 0).trans rfl
        have q1 : w8.cell? ⟨p + 1, 1, none⟩ = some (.slice none 0 0) := (m12.cell 1).trans rfl
        have g0 := m12.frozen 0
        have g1 := m12.frozen 1
        obtain ⟨A2, c2, rfl, _⟩ := own_slice hV1
        have hV1' := own_mono hV1 hs7
        have HD9 : Hid (Dt w ((w8.setCell ⟨p + 1, 0, none⟩ (.string qT)).setCell ⟨p + 1, 1, none⟩ (.slice A2 Q.length c2)) #[.string at_, .slice A al.length c] #[.string bt, .slice B bl.length d]) := Lib.hid (((HD7.out.keep hb8).set hp1 0 _).set hp1 1 _)
        have HX9 : Hid (BoxB ((w8.setCell ⟨p + 1, 0, none⟩ (.string qT)).setCell ⟨p + 1, 1, none⟩ (.slice A2 Q.length c2)) W5.heap.size p pT (.slice A0 P.length c0) P) := Lib.hid (((HX7.out.keep hb8).set (by omega) (by omega) 0 _).set (by omega) (by omega) 1 _)
        have HY9 : Hid (BoxB ((w8.setCell ⟨p + 1, 0, none⟩ (.string qT)).setCell ⟨p + 1, 1, none⟩ (.slice A2 Q.length c2)) W5.heap.size (p + 1) qT (.slice A2 Q.length c2) Q) := Lib.hid ⟨(m12.set_ 0 _).set_ 1 _, own_set (own_set hV1' (by omega) 0 _) (by omega) 1 _⟩
        have HL9 : Hid (((w8.setCell ⟨p + 1, 0, none⟩ (.string qT)).setCell ⟨p + 1, 1, none⟩ (.slice A2 Q.length c2)).ownsRow W5.heap.size 9 1 (.slice A1 GN.length c1) GN.length (GN.map .string)) := Lib.hid (own_set (own_set (own_below HL7.out hb8 (Nat.le_refl _)) (by omega) 0 _) (by omega) 1 _)
        clear hb8 hV1 hV1' m12 l0 l1 l2 l3
        go_wp2_with fail
        go_meet
        case rel => exact ⟨_, _, rfl, HD9.out, HX9.out, HY9.out, HL9.out⟩
      · obtain ⟨z1, z2, z3, z4, z5, z6⟩ := HZ.out hF
        have hF0 : ((F : Int) == 0) = false := by simpa using hF
        have HZ1 := Lib.hid (And.intro z1 (And.intro z2 (And.intro z3 (And.intro z4 (And.intro z5 z6)))))
        clear z1 z2 z3 z4 z5 z6 hF HZ HQd HQa
        go_wp2_with fail
        go_meet
        case rel =>
          obtain ⟨z1, z2, z3, z4, z5, z6⟩ := HZ1.out
          rw [z1, z2, z3, z4, z5, z6]
          exact ⟨_, _, rfl, HD5.out, ⟨HM9.out, own_nil⟩, ⟨HM12.out, own_nil⟩, own_nil⟩
    case rest =>
      obtain ⟨V0, V1, rfl, hD, hX, hY, hL⟩ := hcut
      obtain ⟨A0, c0, rfl, _⟩ := own_slice hX.row
      obtain ⟨A2, c2, rfl, _⟩ := own_slice hY.row
      obtain ⟨A1, c1, rfl, _⟩ := own_slice hL
      have HDd := Lib.hid hD
      have HX0 := Lib.hid hX
      have HY0 := Lib.hid hY
      have HL0 := Lib.hid hL
      clear hD hX hY hL HD5 HM9 HM12 HQd HQa HZ
      have k0 : wc.cell? ⟨w.heap.size, 0, none⟩ = some (.string at_) := (HDd.out.ba.cell 0).trans rfl
      have k1 : wc.cell? ⟨w.heap.size, 1, none⟩ = some (.slice A al.length c) := (HDd.out.ba.cell 1).trans rfl
      have k2 : wc.cell? ⟨w.heap.size + 1, 0, none⟩ = some (.string bt) := (HDd.out.bb.cell 0).trans rfl
      have k3 : wc.cell? ⟨w.heap.size + 1, 1, none⟩ = some (.slice B bl.length d) := (HDd.out.bb.cell 1).trans rfl
      go_wp2_with fail
      refine (HOf.out _ HDd.out.below).mono ?_
      clear HOf
      rintro e w6 ⟨hb6, VX, LX, rfl, hVX, hLX⟩
      obtain ⟨A3, c3, rfl, _⟩ := own_slice hVX
      obtain ⟨A4, c4, rfl, _⟩ := own_slice hLX
      obtain ⟨W7, eW7⟩ : ∃ W7, W7 = w6.alloc (.cells #[.string pT, .slice A3 P.length c3] 24) := ⟨_, rfl⟩
      have hb7 : Below w6.heap.size w6 W7 := by rw [eW7]; exact (Below.refl _ _).alloc (Nat.le_refl _) _
      obtain ⟨px, epx⟩ : ∃ px, px = w6.heap.size := ⟨_, rfl⟩
      have HB13 : Hid (BoxB W7 wc.heap.size px pT (.slice A3 P.length c3) P) := Lib.hid (by rw [eW7, epx]; exact BoxB.new hVX)
      have HLX : Hid (W7.ownsRow wc.heap.size 9 1 (.slice A4 GN.length c4) GN.length (GN.map .string)) := Lib.hid (own_below hLX hb7 (Nat.le_refl _))
      have HD7 := Lib.hid ((HDd.out.keep hb6).keep hb7)
      have HX7 := Lib.hid ((HX0.out.keep hb6).keep hb7)
      have HY7 := Lib.hid ((HY0.out.keep hb6).keep hb7)
      have HL7 := Lib.hid (own_below (own_below HL0.out hb6 (Nat.le_refl _)) hb7 (Nat.le_refl _))
      have HW7 := Lib.hid eW7
      have HPx := Lib.hid epx
      clear hb6 hb7 hVX hLX eW7 epx k0 k1 k2 k3 HDd HX0 HY0 HL0
      go_upto_region 13 with fail
      rw [← HW7.out, ← HPx.out]
      clear HW7 HPx
      go_wp2_with fail
      refine (HEr.out _ F HD7.out.below).mono ?_
      rintro e w8 ⟨rfl, hb8⟩
      have HD8 := Lib.hid (HD7.out.keep hb8)
      have HX8 := Lib.hid (HX7.out.keep hb8)
      have HY8 := Lib.hid (HY7.out.keep hb8)
      have HL8 := Lib.hid (own_below HL7.out hb8 (Nat.le_refl _))
      have HB8 := Lib.hid (HB13.out.keep hb8)
      have HM8 := Lib.hid (own_below HLX.out hb8 (Nat.le_refl _))
      have m0 : w8.cell? ⟨px, 0, none⟩ = some (.string pT) := (HB8.out.blk.cell 0).trans rfl
      have m1 : w8.cell? ⟨px, 1, none⟩ = some (.slice A3 P.length c3) := (HB8.out.blk.cell 1).trans rfl
      have m2 : w8.cell? ⟨p, 0, none⟩ = some (.string pT) := (HX8.out.blk.cell 0).trans rfl
      have m3 : w8.cell? ⟨p, 1, none⟩ = some (.slice A0 P.length c0) := (HX8.out.blk.cell 1).trans rfl
      have HS8 := Lib.hid (HB8.out.same HX8.out hPl)
      clear hb8 HD7 HX7 HY7 HL7 HB13 HLX
      go_wp2_with fail
      refine HS8.out.mono ?_
      clear HS8
      rintro e w9 ⟨rfl, hb9⟩
      have HD9 := Lib.hid (HD8.out.keep hb9)
      have HY9 := Lib.hid (HY8.out.keep hb9)
      have HS9 := Lib.hid (texts_same (own_below HM8.out hb9 (Nat.le_refl _)) (own_below HL8.out hb9 (Nat.le_refl _)) hGl)
      clear hb9 m0 m1 m2 m3 HD8 HX8 HY8 HL8 HB8 HM8
      go_wp2_with fail
      refine HS9.out.mono ?_
      clear HS9
      rintro e w10 ⟨rfl, hb10⟩
      have HD10 := Lib.hid (HD9.out.keep hb10)
      have HY10 := Lib.hid (HY9.out.keep hb10)
      clear hb10 HD9 HY9
      have k0 : w10.cell? ⟨w.heap.size, 0, none⟩ = some (.string at_) := (HD10.out.ba.cell 0).trans rfl
      have k1 : w10.cell? ⟨w.heap.size, 1, none⟩ = some (.slice A al.length c) := (HD10.out.ba.cell 1).trans rfl
      have k2 : w10.cell? ⟨w.heap.size + 1, 0, none⟩ = some (.string bt) := (HD10.out.bb.cell 0).trans rfl
      have k3 : w10.cell? ⟨w.heap.size + 1, 1, none⟩ = some (.slice B bl.length d) := (HD10.out.bb.cell 1).trans rfl
      go_wp2_with fail
      refine (HAp.out _ HD10.out.below).mono ?_
      clear HAp
      rintro e w11 ⟨hb11, VY, rfl, hVY⟩
      obtain ⟨A5, c5, rfl, _⟩ := own_slice hVY
      obtain ⟨W12, eW12⟩ : ∃ W12, W12 = w11.alloc (.cells #[.string qT, .slice A5 Q.length c5] 24) := ⟨_, rfl⟩
      have hb12 : Below w11.heap.size w11 W12 := by rw [eW12]; exact (Below.refl _ _).alloc (Nat.le_refl _) _
      obtain ⟨py, epy⟩ : ∃ py, py = w11.heap.size := ⟨_, rfl⟩
      have HB19 : Hid (BoxB W12 w10.heap.size py qT (.slice A5 Q.length c5) Q) := Lib.hid (by rw [eW12, epy]; exact BoxB.new hVY)
      have HD12 := Lib.hid ((HD10.out.keep hb11).keep hb12)
      have HY12 := Lib.hid ((HY10.out.keep hb11).keep hb12)
      have HW12 := Lib.hid eW12
      have HPy := Lib.hid epy
      clear hb11 hb12 hVY eW12 epy k0 k1 k2 k3 HD10 HY10
      go_upto_region 17 with fail
      rw [← HW12.out, ← HPy.out]
      clear HW12 HPy
      go_wp2_with fail
      refine (HEr.out _ AF HD12.out.below).mono ?_
      clear HEr
      rintro e w13 ⟨rfl, hb13⟩
      have HD13 := Lib.hid (HD12.out.keep hb13)
      have HY13 := Lib.hid (HY12.out.keep hb13)
      have HB20 := Lib.hid (HB19.out.keep hb13)
      have m0 : w13.cell? ⟨py, 0, none⟩ = some (.string qT) := (HB20.out.blk.cell 0).trans rfl
      have m1 : w13.cell? ⟨py, 1, none⟩ = some (.slice A5 Q.length c5) := (HB20.out.blk.cell 1).trans rfl
      have m2 : w13.cell? ⟨p + 1, 0, none⟩ = some (.string qT) := (HY13.out.blk.cell 0).trans rfl
      have m3 : w13.cell? ⟨p + 1, 1, none⟩ = some (.slice A2 Q.length c2) := (HY13.out.blk.cell 1).trans rfl
      have HS13 := Lib.hid (HB20.out.same HY13.out hQl)
      clear hb13 HD12 HY12 HB19
      go_wp2_with fail
      refine HS13.out.mono ?_
      clear HS13
      rintro e w14 ⟨rfl, hb14⟩
      have HD14 := Lib.hid (HD13.out.keep hb14)
      clear hb14 m0 m1 m2 m3
      go_wp2_with fail
      go_ret
      exact ⟨rfl, HD14.out.below⟩
end Go.Proofs.YtiaobgapfoogiaaGreatDoor
