/- The walk of the document's DiffOf. -/
import Derived.Test.YtiaobgapfoogiaaGreatDoorQTexts
import Derived.Test.YtiaobgapfoogiaaGreatDoorDrawn
import Derived.Test.YtiaobgapfoogiaaGreatDoorRefG
import Derived.Test.YtiaobgapfoogiaaGreatDoorDiffOf
import Derived.Test.YtiaobgapfoogiaaGreatDoorDiffP
set_option linter.unusedSimpArgs false
set_option linter.unusedVariables false
namespace Go.Proofs.YtiaobgapfoogiaaGreatDoor
open Go.RowKit Go.Maps

def fN (p : Ent → Bool) (l : List Ent) (i : Nat) : List Ent := (l.take i).filter p
theorem fN_zero (p : Ent → Bool) (l : List Ent) : fN p l 0 = [] := rfl
theorem fN_all (p : Ent → Bool) (l : List Ent) : fN p l l.length = l.filter p := by unfold fN; rw [List.take_length]
theorem fN_no (p : Ent → Bool) (l : List Ent) (i : Nat) (h : i < l.length) (hp : p l[i] = false) : fN p l (i + 1) = fN p l i := by
  unfold fN; rw [List.take_succ_eq_append_getElem h, List.filter_append]; simp [hp]
theorem fN_yes (p : Ent → Bool) (l : List Ent) (i : Nat) (h : i < l.length) (hp : p l[i] = true) : fN p l (i + 1) = fN p l i ++ [l[i]] := by
  unfold fN; rw [List.take_succ_eq_append_getElem h, List.filter_append]; simp [hp]
theorem fN_len (p : Ent → Bool) (l : List Ent) (i : Nat) : (fN p l i).length ≤ l.length := by
  unfold fN; exact Nat.le_trans (List.length_filter_le _ _) (by rw [List.length_take]; omega)
def strK (l : List Ent) : List Value := l.map fun e => .string e.key
theorem strK_snoc (l : List Ent) (e : Ent) : strK (l ++ [e]) = strK l ++ [.string e.key] := by unfold strK; rw [List.map_append]; rfl
theorem textK_idx {l : List Ent} {k : ByteArray} {y : Nat} (hy : y < l.length) (h : entIdx l k = some y) : textK l k = some l[y].text := by
  unfold entIdx at h
  rw [List.findIdx?_eq_some_iff_getElem] at h
  obtain ⟨_, h1, h2⟩ := h
  unfold textK
  have : l.find? (fun e => eqs e.key k) = some l[y] := by
    rw [List.find?_eq_some_iff_getElem]
    exact ⟨h1, y, hy, rfl, fun j hj => by simpa using h2 j hj⟩
  rw [this]; rfl
theorem hasText_idx {l : List Ent} {e : Ent} {y : Nat} (hy : y < l.length) (h : entIdx l e.key = some y) : hasText l e = eqs l[y].text e.text := by
  unfold hasText; rw [textK_idx hy h]
theorem hasText_no {l : List Ent} {e : Ent} (h : entIdx l e.key = none) : hasText l e = false := by
  unfold hasText; rw [textK_none.2 (entIdx_no.1 h)]
def putQ (a b : List Ent) : List Ent := qSorted (b.filter fun e => !hasText a e)
def outQ (a b : List Ent) : List Ent := a.filter fun e => !hasK b e.key
theorem putQ_is {a b : List Ent} (hb : Uniq b) : putQ a b = diffPut a b := by
  unfold putQ diffPut
  rw [qSorted_srt (hb.filter _), srt_filter hb]
theorem outQ_is {a b : List Ent} (ha : Uniq a) : sortT ((outQ a b).map (·.key)) = diffGone a b := by
  rw [sortT_keys]
  unfold outQ diffGone diffOut
  rw [qSorted_srt (ha.filter _), srt_filter ha]
theorem grown_from {w0 W w' : World} {row : Option Nat} (hg : W.grownBy w' row) (hb : Below w0.heap.size w0 W) : Below w0.heap.size w0 W ∧ W.grownBy w' row := ⟨hb, hg⟩
/-- What the document's loops hold. -/
structure QdLoop (w wr : World) (bx : Nat) (ca cb : Array Value) (bt : ByteArray) (P : List Ent) : Prop where
  below : Below w.heap.size w wr
  ba : Blk wr w.heap.size 24 ca
  bb : Blk wr (w.heap.size + 1) 24 cb
  res : Blk wr (w.heap.size + 1 + 1) 24 #[.string ⟨#[]⟩, .slice none 0 0]
  lx : w.heap.size + 1 + 1 < bx
  box : ∃ V, Blk wr bx 24 #[.string bt, V] ∧ wr.ownsRow w.heap.size 33 2 V P.length (flatE P)
theorem QdLoop.keep {w wr W : World} {bx : Nat} {ca cb : Array Value} {bt : ByteArray} {P : List Ent} (h : QdLoop w wr bx ca cb bt P) (hb : Below wr.heap.size wr W) : QdLoop w W bx ca cb bt P :=
  ⟨h.below.trans (hb.mono h.below.size), h.ba.below hb h.ba.lt, h.bb.below hb h.bb.lt, h.res.below hb h.res.lt, h.lx, let ⟨V, h1, h2⟩ := h.box; ⟨V, h1.below hb h1.lt, own_below h2 hb (Nat.le_refl _)⟩⟩
theorem QdLoop.set {w wr W w4 : World} {bx : Nat} {ca cb : Array Value} {bt : ByteArray} {P P' : List Ent} {V v4 : Value} (h : QdLoop w wr bx ca cb bt P) (hbox : Blk wr bx 24 #[.string bt, V])
    (hrow : wr.ownsRow w.heap.size 33 2 V P.length (flatE P)) (hb : Below wr.heap.size wr W) (hg : W.grownBy w4 V.ownBlock)
    (hown : w4.ownsRow w.heap.size 33 2 v4 P'.length (flatE P')) :
    QdLoop w (w4.setCell ⟨bx, 1, none⟩ v4) bx ca cb bt P' := by
  have hblk : ∀ {k : Nat} {cs : Array Value}, Blk wr k 24 cs → Blk w4 k 24 cs := fun {k cs} hk =>
    blk_grown (hk.below hb hk.lt) hg (fun e => own_blk_ne hrow hk (by decide) e.symm)
  have hb4 : Below w.heap.size w w4 := (h.below.trans (hb.mono h.below.size)).grown hg (Nat.le_trans h.below.size hb.size) (fun k hk => (own_lt hrow hk).1)
  have hx := h.lx
  refine ⟨hb4.setCell (by show w.heap.size ≤ bx; omega) v4, Blk.far (hblk h.ba) (by show _ ≠ bx; omega) v4, Blk.far (hblk h.bb) (by show _ ≠ bx; omega) v4, Blk.far (hblk h.res) (by show _ ≠ bx; omega) v4, hx, v4, (hblk hbox).set_ 1 v4, ?_⟩
  refine own_keep hown fun k hkk _ => Below.heap_setCell _ _ _ _ fun e => ?_
  subst e
  exact own_blk_ne hown (hblk hbox) (by decide) hkk
theorem QdLoop.push {w wr W w4 : World} {bx : Nat} {ca cb : Array Value} {bt : ByteArray} {P : List Ent} {V v4 : Value} {e : Ent} (h : QdLoop w wr bx ca cb bt P) (hbox : Blk wr bx 24 #[.string bt, V])
    (hrow : wr.ownsRow w.heap.size 33 2 V P.length (flatE P)) (hb : Below wr.heap.size wr W) (hg : W.grownBy w4 V.ownBlock)
    (hown : w4.ownsRow w.heap.size 33 2 v4 (P.length + 1) (flatE P ++ [.string e.key, .string e.text])) :
    QdLoop w (w4.setCell ⟨bx, 1, none⟩ v4) bx ca cb bt (P ++ [e]) :=
  h.set hbox hrow hb hg (by rw [flatE_snoc, List.length_append]; exact hown)
theorem QdLoop.side {w wr W w4 : World} {bx : Nat} {ca cb : Array Value} {bt : ByteArray} {P : List Ent} {s : Value} {n : Nat} {xs : List Value} (h : QdLoop w wr bx ca cb bt P) (hs : wr.ownsRow w.heap.size 9 1 s n xs) (hb : Below wr.heap.size wr W) (hg : W.grownBy w4 s.ownBlock) :
    QdLoop w w4 bx ca cb bt P := by
  have hs' := own_below hs hb (Nat.le_refl _)
  have hblk : ∀ {k : Nat} {cs : Array Value}, Blk wr k 24 cs → Blk w4 k 24 cs := fun {k cs} hk =>
    blk_grown (hk.below hb hk.lt) hg (fun e => own_blk_ne hs hk (by decide) e.symm)
  obtain ⟨V, h1, h2⟩ := h.box
  have h3 := own_below h2 hb (Nat.le_refl _)
  exact ⟨(h.below.trans (hb.mono h.below.size)).grown hg (Nat.le_trans h.below.size hb.size) (fun k hk => (own_lt hs hk).1), hblk h.ba, hblk h.bb, hblk h.res, h.lx, V, hblk h1,
    own_keep h3 fun k hkk hlt => hg.block k hlt fun e => own_types h3 hs' (by decide) hkk e.symm⟩

set_option maxHeartbeats 12800000 in
set_option maxRecDepth 100000 in
theorem qdiff_any (a b : Bun) (u v : Value) (w : World) (ha : BunIn w a u) (hb : BunIn w b v) (hal : a.ents.length ≤ 1000000) (hbl : b.ents.length ≤ 1000000) :
    Calls Tryz.prog 14 #[.agg #[.string a.tag, u], .agg #[.string b.tag, v]] w fun e w' => Below w.heap.size w w' ∧ ∃ V L, e = .returned (.tuple #[.agg #[.string b.tag, V], L]) ∧
      w'.ownsRow w.heap.size 33 2 V (putQ a.ents b.ents).length (flatE (putQ a.ents b.ents)) ∧ w'.ownsRow w.heap.size 9 1 L (outQ a.ents b.ents).length ((sortT ((outQ a.ents b.ents).map (·.key))).map .string) := by
  obtain ⟨alo, hla⟩ := ha.lo
  obtain ⟨blo, hlb⟩ := hb.lo
  obtain ⟨A, c, rfl, _⟩ := hla.form
  obtain ⟨B, d, rfl, _⟩ := hlb.form
  have HA : Hid (∀ W, Below w.heap.size w W → ListOk Enc.ent W alo w.heap.size (.slice A a.ents.length c) a.ents) := Lib.hid fun W hW => hla.below Enc.ent_laws hW
  have HB : Hid (∀ W, Below w.heap.size w W → ListOk Enc.ent W blo w.heap.size (.slice B b.ents.length d) b.ents) := Lib.hid fun W hW => hlb.below Enc.ent_laws hW
  obtain ⟨at_, al⟩ := a
  obtain ⟨bt, bl⟩ := b
  dsimp only at HA HB hal hbl ⊢
  clear ha hb hla hlb
  go_enter Tryz.func14, Tryz.ntmps14
  go_wp2_with fail
  obtain ⟨W0, eW0⟩ : ∃ W0, W0 = (((w.alloc (.cells #[.string at_, .slice A al.length c] 24)).alloc (.cells #[.string bt, .slice B bl.length d] 24)).alloc (.cells #[.string ⟨#[]⟩, .slice none 0 0] 24)).alloc (.cells #[.string bt, .slice none 0 0] 24) := ⟨_, rfl⟩
  have hb0 : Below w.heap.size w W0 := by rw [eW0]; exact ((((Below.refl _ _).alloc (Nat.le_refl _) _).alloc (by simp) _).alloc (by simp; omega) _).alloc (by simp; omega) _
  have ma0 : Blk W0 w.heap.size 24 #[.string at_, .slice A al.length c] := by rw [eW0]; exact (((Blk.new _ _ _).alloc _).alloc _).alloc _
  have mb0 : Blk W0 (w.heap.size + 1) 24 #[.string bt, .slice B bl.length d] := by
    rw [eW0]
    have := Blk.new (w.alloc (.cells #[.string at_, .slice A al.length c] 24)) 24 #[.string bt, .slice B bl.length d]
    rw [World.size_alloc] at this
    exact (this.alloc _).alloc _
  have mr0 : Blk W0 (w.heap.size + 1 + 1) 24 #[.string ⟨#[]⟩, .slice none 0 0] := by
    rw [eW0]
    have := Blk.new ((w.alloc (.cells #[.string at_, .slice A al.length c] 24)).alloc (.cells #[.string bt, .slice B bl.length d] 24)) 24 #[.string ⟨#[]⟩, .slice none 0 0]
    simp only [World.size_alloc] at this
    exact this.alloc _
  have mx0 : Blk W0 (w.heap.size + 1 + 1 + 1) 24 #[.string bt, .slice none 0 0] := by
    rw [eW0]
    have := Blk.new (((w.alloc (.cells #[.string at_, .slice A al.length c] 24)).alloc (.cells #[.string bt, .slice B bl.length d] 24)).alloc (.cells #[.string ⟨#[]⟩, .slice none 0 0] 24)) 24 #[.string bt, .slice none 0 0]
    simp only [World.size_alloc] at this
    exact this
  obtain ⟨bx, ebx⟩ : ∃ bx, bx = w.heap.size + 1 + 1 + 1 := ⟨_, rfl⟩
  have hx : w.heap.size + 1 + 1 < bx := by omega
  rw [← ebx] at mx0 ⊢
  have HQ0 : Hid (QdLoop w W0 bx #[.string at_, .slice A al.length c] #[.string bt, .slice B bl.length d] bt (fN (fun e => !hasText al e) bl 0)) := Lib.hid ⟨hb0, ma0, mb0, mr0, hx, _, mx0, own_nil⟩
  rw [← eW0]
  clear eW0 hb0 ma0 mb0 mr0 mx0 ebx
  go_loopw [8, 9] (fun i _ wr => ∃ j : Nat, j ≤ bl.length ∧ i = .int .i64 j ∧ QdLoop w wr bx #[.string at_, .slice A al.length c] #[.string bt, .slice B bl.length d] bt (fN (fun e => !hasText al e) bl j)) (fun i _ _ => bl.length - (intOf i).toNat)
  case atStart => exact ⟨0, Nat.zero_le _, rfl, HQ0.out⟩
  case round =>
    obtain ⟨j, hj, rfl, hL⟩ := hrel
    have hbs := hL.below.size
    have HLp := Lib.hid hL
    have k1 : wr.cell? ⟨w.heap.size, 1, none⟩ = some (.slice A al.length c) := (hL.ba.cell 1).trans rfl
    have k3 : wr.cell? ⟨w.heap.size + 1, 1, none⟩ = some (.slice B bl.length d) := (hL.bb.cell 1).trans rfl
    clear hL HQ0
    by_cases hlt : j < bl.length
    · obtain ⟨xb, xo, rfl, px1, px2, x0, x1⟩ := (HB.out wr HLp.out.below).entAt j hlt
      have HNo : Hid (hasText al bl[j] = true → fN (fun e => !hasText al e) bl (j + 1) = fN (fun e => !hasText al e) bl j) := Lib.hid fun h => fN_no _ _ _ hlt (by simp [h])
      have HYes : Hid (hasText al bl[j] = false → fN (fun e => !hasText al e) bl (j + 1) = fN (fun e => !hasText al e) bl j ++ [bl[j]]) := Lib.hid fun h => fN_yes _ _ _ hlt (by simp [h])
      have HEa : Hid (∀ n, Calls Tryz.prog 9 #[.slice A al.length c, .string bl[j].key] (wr.drewN n) fun e w' => e = .returned (.int .i64 (idxI (entIdx al bl[j].key))) ∧ wr.drewN n = w') := Lib.hid fun n =>
        entat_any _ _ bl[j].key _ _ (wr.drewN n) (HA.out _ (below_drewN HLp.out.below n)) (by omega)
      have HAt : Hid (∀ y, entIdx al bl[j].key = some y → ∃ yb yo, A = some ⟨yb, yo, none⟩ ∧ y < al.length ∧ ∃ ta, wr.cell? ⟨yb, yo + y * 2 + 1, none⟩ = some (.string ta) ∧ hasText al bl[j] = eqs ta bl[j].text) := Lib.hid fun y hy => by
        obtain ⟨hyl, _⟩ := entIdx_key hy
        obtain ⟨yb, yo, hA, _, _, _, q1⟩ := (HA.out wr HLp.out.below).entAt y hyl
        exact ⟨yb, yo, hA, hyl, al[y].text, q1, hasText_idx hyl hy⟩
      have HNt : Hid (entIdx al bl[j].key = none → hasText al bl[j] = false) := Lib.hid fun h => hasText_no h
      have hPl := fN_len (fun e => !hasText al e) bl j
      generalize bl[j] = e at *
      obtain ⟨ky, tx⟩ := e
      dsimp only at x0 x1 HEa HAt HNt
      generalize hPe : fN (fun e => !hasText al e) bl j = P at *
      clear hPe
      obtain ⟨V, hbox, hrow⟩ := HLp.out.box
      obtain ⟨Av, cv, rfl, _⟩ := own_slice hrow
      have HBox := Lib.hid hbox
      have HRow := Lib.hid hrow
      have b1 : wr.cell? ⟨bx, 1, none⟩ = some (.slice Av P.length cv) := (hbox.cell 1).trans rfl
      have f1 := hbox.frozen 1
      have hbxl := hbox.lt
      have i1 : (0 : Int) ≤ (j : Int) := Int.natCast_nonneg j
      have i2 : (j : Int) < (bl.length : Int) := by omega
      have HnX : Hid (∀ (W : World), Below wr.heap.size wr W → ∀ q u, ([Value.string ky, .string tx] : List Value)[q]? = some u → (W.alloc (.cells #[.string ky, .string tx] 33)).cell? ⟨W.heap.size, 0 + q, none⟩ = some u) := Lib.hid fun W hW q u hq => by
        rw [Nat.zero_add, (Blk.new W 33 #[.string ky, .string tx]).cell q]; simpa using hq
      clear hbox hrow
      have HKp : Hid (∀ (W w' : World), Below wr.heap.size wr W → W.grownBy w' (Value.slice Av P.length cv).ownBlock → w'.cell? ⟨bx, 1, none⟩ = some (.slice Av P.length cv) ∧ w'.cell? ⟨w.heap.size + 1, 1, none⟩ = some (.slice (some ⟨xb, xo, none⟩) bl.length d) ∧ w'.cell? ⟨xb, xo + j * 2, none⟩ = some (.string ky) ∧ w'.cell? ⟨xb, xo + j * 2 + 1, none⟩ = some (.string tx)) := Lib.hid fun W w' hW hg => by
        have key : ∀ k i, k < wr.heap.size → (Value.slice Av P.length cv).ownBlock ≠ some k → w'.cell? ⟨k, i, none⟩ = wr.cell? ⟨k, i, none⟩ := fun k i hk hne =>
          (World.cell?_of_block (hg.block k (Nat.lt_of_lt_of_le hk hW.size) (fun e => hne e.symm))).trans (hW.cell (p := ⟨k, i, none⟩) hk)
        have hx : (Value.slice Av P.length cv).ownBlock ≠ some xb := fun e => by have := (own_lt HRow.out e).1; omega
        exact ⟨(key _ _ hbxl (own_blk_ne HRow.out HBox.out (by decide))).trans b1, (key _ _ HLp.out.bb.lt (own_blk_ne HRow.out HLp.out.bb (by decide))).trans k3, (key _ _ (by omega) hx).trans x0, (key _ _ (by omega) hx).trans x1⟩
      cases hix : entIdx al ky with
      | none =>
        rw [hix, idxI_none] at HEa
        have HH : Hid (hasText al ⟨ky, tx⟩ = false) := Lib.hid (HNt.out hix)
        clear HAt hix HNt
        go_wp2_with fail
        go_quiet ((go_at_call 9; first | exact quiet_left (HEa.out _) | exact quiet_add_left (HEa.out _)))
        go_wp2_with fail
        go_quiet (fail)
        go_wp2_with fail
        go_region_law
          ((refine step_append_any (by rfl) _ _ 22 (by rfl) w.heap.size 33 Tryz.underlying22 info_ent rfl (by decide) (flatE P) (by rfl) (own_below HRow.out (by repeat (first | exact Below.refl _ _ | refine Below.drew ?_ | refine below_drewN ?_ _ | refine Below.alloc ?_ (by simp) _)) (Nat.le_refl _)) [Value.string ky, Value.string tx] (by rfl) (by rfl) (.inr ⟨_, _, rfl, HnX.out _ (by repeat (first | exact Below.refl _ _ | refine Below.drew ?_ | refine below_drewN ?_ _))⟩) (by simp [Value.oneCell']) (by unfold maxLen; omega) (by omega) (by simp; omega) ?_
            intro v4 w4 hown4 hgrow4
            have hbW := (grown_from hgrow4 (w0 := wr) (by repeat (first | exact Below.refl _ _ | refine Below.drew ?_ | refine below_drewN ?_ _ | refine Below.alloc ?_ (by simp) _))).1
            have hbx4 := blk_grown (HBox.out.below hbW hbxl) hgrow4 (fun e => own_blk_ne HRow.out HBox.out (by decide) e.symm)
            have s1 : w4.cell? ⟨bx, 1, none⟩ = some (.slice Av P.length cv) := (hbx4.cell 1).trans rfl
            have s2 := hbx4.frozen 1
            have HL4 := Lib.hid (HLp.out.push (e := ⟨ky, tx⟩) HBox.out HRow.out hbW hgrow4 hown4)
            obtain ⟨A4, c4, hv4, _⟩ := own_slice hown4
            have hv5 : v4 = .slice A4 (P.length + 1) c4 := by rw [hv4]
            subst hv5
            clear hbW hbx4 hgrow4 hown4 b1 f1 hv4))
        all_goals
          rw [← HYes.out HH.out] at HL4
          go_wp2_with fail
          exact ⟨⟨j + 1, by omega, by go_num, HL4.out⟩, by simp [intOf]; omega⟩
      | some y =>
        rw [hix, idxI_some] at HEa
        obtain ⟨yb, yo, rfl, hyl, ta, q1, hta⟩ := HAt.out y hix
        have i3 : (0 : Int) ≤ (y : Int) := Int.natCast_nonneg y
        have i4 : (y : Int) < (al.length : Int) := by omega
        have hy0 : decide ((y : Int) < 0) = false := decide_eq_false (by omega)
        have HTa : Hid (hasText al ⟨ky, tx⟩ = (ta.toList == tx.toList)) := Lib.hid hta
        clear HAt hix HNt hta
        cases hte : (ta.toList == tx.toList) with
        | true =>
          have HH : Hid (hasText al ⟨ky, tx⟩ = true) := Lib.hid (by rw [HTa.out]; exact hte)
          have htn : (ta.toList != tx.toList) = false := by simp only [bne, hte]; rfl
          clear HTa
          go_wp2_with fail
          go_quiet ((go_at_call 9; first | exact quiet_left (HEa.out _) | exact quiet_add_left (HEa.out _)))
          go_wp2_with fail
          go_quiet (fail)
          go_wp2_with fail
          exact ⟨⟨j + 1, by omega, by go_num, by rw [HNo.out HH.out]; exact HLp.out.keep (below_drewN (Below.refl _ _) _)⟩, by simp [intOf]; omega⟩
        | false =>
          have HH : Hid (hasText al ⟨ky, tx⟩ = false) := Lib.hid (by rw [HTa.out]; exact hte)
          have htn : (ta.toList != tx.toList) = true := by simp only [bne, hte]; rfl
          clear HTa
          go_wp2_with fail
          go_quiet ((go_at_call 9; first | exact quiet_left (HEa.out _) | exact quiet_add_left (HEa.out _)))
          go_wp2_with fail
          go_quiet (fail)
          go_wp2_with fail
          go_region_law
            ((refine step_append_any (by rfl) _ _ 22 (by rfl) w.heap.size 33 Tryz.underlying22 info_ent rfl (by decide) (flatE P) (by rfl) (own_below HRow.out (by repeat (first | exact Below.refl _ _ | refine Below.drew ?_ | refine below_drewN ?_ _ | refine Below.alloc ?_ (by simp) _)) (Nat.le_refl _)) [Value.string ky, Value.string tx] (by rfl) (by rfl) (.inr ⟨_, _, rfl, HnX.out _ (by repeat (first | exact Below.refl _ _ | refine Below.drew ?_ | refine below_drewN ?_ _))⟩) (by simp [Value.oneCell']) (by unfold maxLen; omega) (by omega) (by simp; omega) ?_
              intro v4 w4 hown4 hgrow4
              have hbW := (grown_from hgrow4 (w0 := wr) (by repeat (first | exact Below.refl _ _ | refine Below.drew ?_ | refine below_drewN ?_ _ | refine Below.alloc ?_ (by simp) _))).1
              have hbx4 := blk_grown (HBox.out.below hbW hbxl) hgrow4 (fun e => own_blk_ne HRow.out HBox.out (by decide) e.symm)
              have s1 : w4.cell? ⟨bx, 1, none⟩ = some (.slice Av P.length cv) := (hbx4.cell 1).trans rfl
              have s2 := hbx4.frozen 1
              have HL4 := Lib.hid (HLp.out.push (e := ⟨ky, tx⟩) HBox.out HRow.out hbW hgrow4 hown4)
              obtain ⟨A4, c4, hv4, _⟩ := own_slice hown4
              have hv5 : v4 = .slice A4 (P.length + 1) c4 := by rw [hv4]
              subst hv5
              clear hbW hbx4 hgrow4 hown4 b1 f1 hv4))
          all_goals
            rw [← HYes.out HH.out] at HL4
            go_wp2_with fail
            exact ⟨⟨j + 1, by omega, by go_num, HL4.out⟩, by simp [intOf]; omega⟩
    · obtain rfl : j = bl.length := by omega
      have HP0 : Hid (fN (fun e => !hasText al e) bl bl.length = bl.filter fun e => !hasText al e) := Lib.hid (fN_all _ _)
      have HQ1 : Hid (QdLoop w wr bx #[.string at_, .slice A al.length c] #[.string bt, .slice B bl.length d] bt (bl.filter fun e => !hasText al e)) := Lib.hid (by have := HLp.out; rwa [HP0.out] at this)
      have hpl : (bl.filter fun e => !hasText al e).length ≤ 1000000 := Nat.le_trans (List.length_filter_le _ _) hbl
      have HPu : Hid (putQ al bl = qSorted (bl.filter fun e => !hasText al e)) := Lib.hid rfl
      generalize (bl.filter fun e => !hasText al e) = P at *
      clear HLp HP0
      obtain ⟨wo, rfl⟩ : ∃ wo : World, wo = wr := ⟨_, rfl⟩
      go_wp2_with fail
      go_loopw [7, 10] (fun s i wr => ∃ j : Nat, j ≤ al.length ∧ i = .int .i64 j ∧ QdLoop w wr bx #[.string at_, .slice A al.length c] #[.string bt, .slice B bl.length d] bt P ∧ wr.ownsRow w.heap.size 9 1 s (fN (fun e => !hasK bl e.key) al j).length (strK (fN (fun e => !hasK bl e.key) al j))) (fun _ i _ => al.length - (intOf i).toNat)
      case atStart => exact ⟨0, Nat.zero_le _, rfl, HQ1.out, own_nil⟩
      case round =>
        obtain ⟨j, hj, rfl, hL, hrow⟩ := hrel
        have hbs := hL.below.size
        have HLp := Lib.hid hL
        have HRow := Lib.hid hrow
        have k1 : wr.cell? ⟨w.heap.size, 1, none⟩ = some (.slice A al.length c) := (hL.ba.cell 1).trans rfl
        have k3 : wr.cell? ⟨w.heap.size + 1, 1, none⟩ = some (.slice B bl.length d) := (hL.bb.cell 1).trans rfl
        clear hL HQ1
        by_cases hlt : j < al.length
        · obtain ⟨xb, xo, rfl, px1, px2, x0, x1⟩ := (HA.out wr HLp.out.below).entAt j hlt
          have HNo : Hid (hasK bl al[j].key = true → fN (fun e => !hasK bl e.key) al (j + 1) = fN (fun e => !hasK bl e.key) al j) := Lib.hid fun h => fN_no _ _ _ hlt (by simp [h])
          have HYes : Hid (hasK bl al[j].key = false → fN (fun e => !hasK bl e.key) al (j + 1) = fN (fun e => !hasK bl e.key) al j ++ [al[j]]) := Lib.hid fun h => fN_yes _ _ _ hlt (by simp [h])
          have HEb : Hid (∀ n, Calls Tryz.prog 9 #[.slice B bl.length d, .string al[j].key] (wr.drewN n) fun e w' => e = .returned (.int .i64 (idxI (entIdx bl al[j].key))) ∧ wr.drewN n = w') := Lib.hid fun n =>
            entat_any _ _ al[j].key _ _ (wr.drewN n) (HB.out _ (below_drewN HLp.out.below n)) (by omega)
          have HNt : Hid (entIdx bl al[j].key = none → hasK bl al[j].key = false) := Lib.hid fun h => entIdx_no.1 h
          have HSt : Hid (∀ y, entIdx bl al[j].key = some y → hasK bl al[j].key = true) := Lib.hid fun y hy => by
            cases h : hasK bl al[j].key with
            | true => rfl
            | false => rw [entIdx_no.2 h] at hy; cases hy
          have hPl := fN_len (fun e => !hasK bl e.key) al j
          generalize al[j] = e at *
          obtain ⟨ky, tx⟩ := e
          dsimp only at x0 x1 HEb HNt HSt HNo HYes
          generalize hGe : fN (fun e => !hasK bl e.key) al j = G at *
          clear hGe
          obtain ⟨As, cs, rfl, _⟩ := own_slice hrow
          have i1 : (0 : Int) ≤ (j : Int) := Int.natCast_nonneg j
          have i2 : (j : Int) < (al.length : Int) := by omega
          clear hrow
          cases hix : entIdx bl ky with
          | some y =>
            rw [hix, idxI_some] at HEb
            have HH : Hid (hasK bl ky = true) := Lib.hid (HSt.out y hix)
            have hy0 : decide ((y : Int) < 0) = false := decide_eq_false (by omega)
            clear HNt HSt hix
            go_wp2_with fail
            go_quiet ((go_at_call 9; first | exact quiet_left (HEb.out _) | exact quiet_add_left (HEb.out _)))
            go_wp2_with fail
            exact ⟨⟨j + 1, by omega, by go_num, HLp.out.keep (below_drewN (Below.refl _ _) _), by rw [HNo.out HH.out]; exact own_below HRow.out (below_drewN (Below.refl _ _) _) (Nat.le_refl _)⟩, by simp [intOf]; omega⟩
          | none =>
            rw [hix, idxI_none] at HEb
            have HH : Hid (hasK bl ky = false) := Lib.hid (HNt.out hix)
            clear HNt HSt hix
            have HnX : Hid (∀ n q u, ([Value.string ky] : List Value)[q]? = some u → ((wr.drewN n).alloc (.cells #[.string ky] 9)).cell? ⟨wr.heap.size, 0 + q, none⟩ = some u) := Lib.hid fun n q u hq => by
              rw [Nat.zero_add]
              have := (Blk.new (wr.drewN n) 9 #[.string ky]).cell q
              rw [show (wr.drewN n).heap.size = wr.heap.size from rfl] at this
              rw [this]; simpa using hq
            have HOa : Hid (∀ n, ((wr.drewN n).alloc (.cells #[.string ky] 9)).ownsRow w.heap.size 9 1 (.slice As G.length cs) G.length (strK G)) := Lib.hid fun n => own_below HRow.out ((below_drewN (Below.refl _ _) n).alloc (Nat.le_refl _) _) (Nat.le_refl _)
            go_wp2_with fail
            go_quiet ((go_at_call 9; first | exact quiet_left (HEb.out _) | exact quiet_add_left (HEb.out _)))
            go_wp2_with (at_builtin; refine wpList_append_any rfl _ _ 26 rfl w.heap.size 9 Tryz.underlying26 info_string rfl (by decide) (strK G) rfl (HOa.out _) [Value.string ky] rfl rfl (.inr ⟨_, _, rfl, HnX.out _⟩) (by simp [Value.oneCell']) (by unfold maxLen; omega) (by omega) (by simp; omega) ?_)
            intro v7 w7 hown7 hgrow7 _
            have hbW := (grown_from hgrow7 (w0 := wr) ((below_drewN (Below.refl _ _) _).alloc (Nat.le_refl _) _)).1
            have HL7 := Lib.hid (HLp.out.side HRow.out hbW hgrow7)
            obtain ⟨B7, c7, rfl, _⟩ := own_slice hown7
            have HO7 : Hid (w7.ownsRow w.heap.size 9 1 (.slice B7 (G.length + 1) c7) (fN (fun e => !hasK bl e.key) al (j + 1)).length (strK (fN (fun e => !hasK bl e.key) al (j + 1)))) := Lib.hid (by rw [HYes.out HH.out, strK_snoc, List.length_append]; exact hown7)
            clear hown7 hgrow7 HnX HOa hbW
            go_wp2_with fail
            exact ⟨⟨j + 1, by omega, by go_num, HL7.out, HO7.out⟩, by simp [intOf]; omega⟩
        · obtain rfl : j = al.length := by omega
          have HOq : Hid (fN (fun e => !hasK bl e.key) al al.length = outQ al bl) := Lib.hid (fN_all _ _)
          have hol : (outQ al bl).length ≤ 1000000 := Nat.le_trans (List.length_filter_le _ _) hal
          rw [HOq.out] at hrow
          clear HRow
          obtain ⟨As, cs, rfl, _⟩ := own_slice hrow
          obtain ⟨G, hGe⟩ : ∃ G, G = outQ al bl := ⟨_, rfl⟩
          rw [← hGe] at hol hrow ⊢
          have HGe := Lib.hid hGe
          clear hGe HOq
          have HGk : Hid (strK G = (G.map (·.key)).map .string) := Lib.hid (by unfold strK; rw [List.map_map]; rfl)
          have HGl : Hid ((G.map (·.key)).length = G.length) := Lib.hid (List.length_map _)
          obtain ⟨V, hbox, hrowV⟩ := HLp.out.box
          obtain ⟨Av, cv, rfl, _⟩ := own_slice hrowV
          have hen : ListOk Enc.ent wr w.heap.size wr.heap.size (.slice Av P.length cv) P := ents_of_own hrowV (Nat.le_refl _) (Nat.le_refl _)
          have HS := Lib.hid (qsorted_any _ P _ wr hen hpl)
          have b1 : wr.cell? ⟨bx, 1, none⟩ = some (.slice Av P.length cv) := (hbox.cell 1).trans rfl
          have HBox := Lib.hid hbox
          have HRowG := Lib.hid hrow
          have HB1 := Lib.hid HLp.out.below
          have HRes := Lib.hid HLp.out.res
          have hx2 := HLp.out.lx
          clear hbox hrowV hen hrow HA HB HLp
          go_wp2_with fail
          refine HS.out.mono ?_
          clear HS
          rintro e w5 ⟨v5, rfl, hown5, hb5⟩
          obtain ⟨A5, c5, rfl, _⟩ := own_slice hown5
          have hbx5 := HBox.out.below hb5 HBox.out.lt
          have s1 : w5.cell? ⟨bx, 1, none⟩ = some (.slice Av P.length cv) := (hbx5.cell 1).trans rfl
          have s2 := hbx5.frozen 1
          have hs5 := hb5.size
          obtain ⟨W6, eW6⟩ : ∃ W6, W6 = w5.setCell ⟨bx, 1, none⟩ (.slice A5 P.length c5) := ⟨_, rfl⟩
          have hbx6 : Blk W6 bx 24 #[.string bt, .slice A5 P.length c5] := by rw [eW6]; exact hbx5.set_ 1 _
          have hres6 : Blk W6 (w.heap.size + 1 + 1) 24 #[.string ⟨#[]⟩, .slice none 0 0] := by
            rw [eW6]; exact Blk.far (HRes.out.below hb5 HRes.out.lt) (by show _ ≠ bx; omega) _
          have hg6 : W6.ownsRow w.heap.size 9 1 (.slice As G.length cs) G.length (strK G) := by
            rw [eW6]
            refine own_keep (own_below HRowG.out hb5 (Nat.le_refl _)) fun k hk _ => Below.heap_setCell _ _ _ _ fun e => ?_
            subst e
            exact own_blk_ne HRowG.out HBox.out (by decide) hk
          have hv6 : W6.ownsRow wr.heap.size 33 2 (.slice A5 P.length c5) P.length (flatE (qSorted P)) := by
            rw [eW6]
            refine own_keep hown5 fun k hk _ => Below.heap_setCell _ _ _ _ fun e => ?_
            subst e
            exact own_blk_ne hown5 hbx5 (by decide) hk
          have hb6 : Below w.heap.size w W6 := by
            rw [eW6]; exact (HB1.out.trans (hb5.mono hbs)).setCell (by show w.heap.size ≤ bx; omega) _
          have HBx6 := Lib.hid hbx6
          have HRes6 := Lib.hid hres6
          have HG6 := Lib.hid hg6
          have HV6 := Lib.hid hv6
          have HB6 := Lib.hid hb6
          have hs6 := hb6.size
          have HSo : Hid (∀ W, Fr W6 W (· = w.heap.size + 1 + 1) → Calls Tryz.prog 32 #[.slice As G.length cs] W fun e w' => ∃ v', e = .returned v' ∧ w'.ownsRow W.heap.size 9 1 v' G.length ((sortT (G.map (·.key))).map .string) ∧ Below W.heap.size W w') := Lib.hid fun W hW => by
            have h1 : W.ownsRow w.heap.size 9 1 (.slice As G.length cs) (G.map (·.key)).length ((G.map (·.key)).map .string) := by
              rw [HGl.out, ← HGk.out]
              refine own_keep HG6.out fun k hk hlt => hW.block k hlt fun e => own_blk_ne HG6.out HRes6.out (by decide) (by rw [hk]; exact congrArg some e)
            have h2 := qtexts_any (.slice As G.length cs) (G.map (·.key)) w.heap.size W (ListOk.strs_of_own h1 (Nat.le_refl _) (Nat.le_refl _)) (by rw [HGl.out]; exact hol)
            rw [HGl.out] at h2
            exact h2
          have b0 : W6.cell? ⟨bx, 0, none⟩ = some (.string bt) := (hbx6.cell 0).trans rfl
          have b2 : W6.cell? ⟨bx, 1, none⟩ = some (.slice A5 P.length c5) := (hbx6.cell 1).trans rfl
          have r0 : W6.cell? ⟨w.heap.size + 1 + 1, 0, none⟩ = some (.string ⟨#[]⟩) := (hres6.cell 0).trans rfl
          have r1 : W6.cell? ⟨w.heap.size + 1 + 1, 1, none⟩ = some (.slice none 0 0) := (hres6.cell 1).trans rfl
          have f0 := hres6.frozen 0
          have f1 := hres6.frozen 1
          have hbxl := hbx6.lt
          have hrl := hres6.lt
          have KS : Hid (∀ w', Fr W6 w' (· = w.heap.size + 1 + 1) → w'.cell? ⟨bx, 0, none⟩ = some (.string bt) ∧ w'.cell? ⟨bx, 1, none⟩ = some (.slice A5 P.length c5)) := Lib.hid fun w' hf => ⟨(hf.cell (p := ⟨bx, 0, none⟩) hbxl (by show ¬ bx = _; omega)).trans b0, (hf.cell (p := ⟨bx, 1, none⟩) hbxl (by show ¬ bx = _; omega)).trans b2⟩
          have HW6 := Lib.hid eW6
          clear hown5 hb5 hbx5 eW6 hbx6 hres6 hg6 hv6 hb6 b1
          go_wp2_with fail
          rw [← HW6.out]
          clear s1 s2 HW6
          go_region_held3 (fun w' => w'.cell? ⟨bx, 0, none⟩ = some (.string bt) ∧ w'.cell? ⟨bx, 1, none⟩ = some (.slice A5 P.length c5))
            (first
              | exact KS.out _ (hfx)
              | exact KS.out _ ((Fr.refl _ _).drew)
              | exact KS.out _ (((hfx.setCell (S := (· = w.heap.size + 1 + 1)) (.inl (rfl : w.heap.size + 1 + 1 = _)) _).setCell (.inl (rfl : w.heap.size + 1 + 1 = _)) _))
              | exact KS.out _ ((((Fr.refl _ _).setCell (S := (· = w.heap.size + 1 + 1)) (.inl (rfl : w.heap.size + 1 + 1 = _)) _).setCell (.inl (rfl : w.heap.size + 1 + 1 = _)) _).drew)
              | fail)
            (first
              | (go_at_call 32
                 refine (HSo.out _ (by repeat (first | exact Fr.refl _ _ | refine Fr.drew ?_ | refine Fr.setCell ?_ (.inl rfl) _))).mono ?_
                 rintro e w10 ⟨kv2, rfl, hkv2, hb10⟩
                 have hfx : Fr W6 w10 (· = w.heap.size + 1 + 1) := Fr.then_below (by repeat (first | exact Fr.refl _ _ | refine Fr.drew ?_ | refine Fr.setCell ?_ (.inl rfl) _)) hb10
                 obtain ⟨Ak, ck, rfl, _⟩ := own_slice hkv2
                 have HKv := Lib.hid (own_mono hkv2 (base' := W6.heap.size) (by simp))
                 (first
                   | have HRu : Hid (Blk w10 (w.heap.size + 1 + 1) 24 #[.string ⟨#[]⟩, .slice none 0 0]) := Lib.hid (Blk.below HRes6.out.drew hb10 (Blk.lt HRes6.out.drew))
                   | have HRs : Hid (Blk w10 (w.heap.size + 1 + 1) 24 #[.string bt, .slice A5 P.length c5]) := Lib.hid (Blk.below (((HRes6.out.set_ 0 _).set_ 1 _).drew) hb10 (Blk.lt (((HRes6.out.set_ 0 _).set_ 1 _).drew)))
                   | fail)
                 (first | (have q0 := HRu.out.cell 0; have q1 := HRu.out.cell 1; have q2 := HRu.out.frozen 0; have q3 := HRu.out.frozen 1; simp at q0 q1) | (have q0 := HRs.out.cell 0; have q1 := HRs.out.cell 1; simp at q0 q1) | skip)
                 clear hkv2 hb10)
              | fail)
          all_goals
            have hfin := (hfx.setCell (S := (· = w.heap.size + 1 + 1)) (p := ⟨w.heap.size + 1 + 1, 0, none⟩) (.inl (rfl : w.heap.size + 1 + 1 = _)) (.string bt)).setCell (p := ⟨w.heap.size + 1 + 1, 1, none⟩) (.inl (rfl : w.heap.size + 1 + 1 = _)) (.slice A5 P.length c5)
            have HFin := Lib.hid hfin
            clear hfx hfin KS HSo
            go_wp2_with fail
            refine bodyPost_ret (v := .tuple #[.agg #[.string bt, .slice A5 P.length c5], .slice Ak G.length ck]) ?_ rfl ?_
            · simp [results, Tryz.results14, go_sem, q0, q1, q2, q3]
              try rfl
            · refine ⟨Fr.below HB6.out HFin.out hs6 (fun i hi => by have : i = w.heap.size + 1 + 1 := hi; omega), _, _, rfl, ?_, ?_⟩
              · rw [HPu.out, qSorted_length]
                exact own_mono (own_keep HV6.out fun k hk hlt => HFin.out.block k hlt fun e => own_blk_ne HV6.out HRes6.out (by decide) (by rw [hk]; exact congrArg some e)) hbs
              · rw [← HGe.out]
                refine own_mono (own_keep HKv.out fun k hk hlt => ?_) hs6
                have := (own_lt HKv.out hk).1
                rw [Below.heap_setCell _ _ _ _ (by simp; omega), Below.heap_setCell _ _ _ _ (by simp; omega)]
end Go.Proofs.YtiaobgapfoogiaaGreatDoor
