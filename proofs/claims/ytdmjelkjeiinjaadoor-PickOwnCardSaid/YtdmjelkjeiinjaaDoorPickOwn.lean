/- The walk of linguisterlaw5.PickOwn. -/
import Derived.Test.YtdmjelkjeiinjaaDoorPick
import Derived.Test.YtdmjelkjeiinjaaDoorAll
import Derived.Test.YtdmjelkjeiinjaaDoorChainOwn
set_option linter.unusedSimpArgs false
set_option linter.unusedVariables false
namespace Go.Proofs.YtdmjelkjeiinjaaDoor
open Go.RowKit

theorem tagsIn_row {base : Nat} {w w' : World} {u : Value} {l : List Tg} {v : Value} {w0 : World} (h : TagsIn w0 v l) (hr : ListOk Enc.tag w base w.heap.size u l) : TagsIn w u l := ⟨⟨_, hr⟩, h.len, h.each⟩
def RowHasI (w : World) (g n : Nat) : Prop := ∃ cur : Array Value, w.heap[g]? = some (.cells cur 3 (0, 0)) ∧ n ≤ cur.size
theorem RowHasI.cell {w : World} {g n : Nat} (h : RowHasI w g n) (q : Nat) (hq : q < n) : (∃ u, w.cell? ⟨g, q, none⟩ = some u) ∧ w.frozen? ⟨g, q, none⟩ = false := by
  obtain ⟨cur, hh, hc⟩ := h
  refine ⟨⟨cur[q], ?_⟩, by simp [World.frozen?, hh]⟩
  rw [cell_of_row w g _ cur 3 (0, 0) hh]
  exact Array.getElem?_eq_getElem (by omega)
theorem RowHasI.set {w : World} {g n : Nat} (h : RowHasI w g n) (q : Nat) (u : Value) : RowHasI (w.setCell ⟨g, q, none⟩ u) g n := by
  obtain ⟨cur, hh, hc⟩ := h
  exact ⟨cur.setIfInBounds q u, Blk.set_ (t := 3) (cs := cur) hh q u, by simpa using hc⟩
theorem RowHasI.of_own {base : Nat} {w : World} {v : Value} {n : Nat} {xs : List Value} (h : w.ownsRow base 3 1 v n xs) {g : Nat} (hg : v.ownBlock = some g) : RowHasI w g n := by
  obtain ⟨_, ⟨h2, _⟩ | ⟨g', cap', cur, hv', hb, hh, hc1, hm, hcs, ht⟩⟩ := h
  · rw [h2] at hg; cases hg
  · rw [hv'] at hg; injection hg with hg
    dsimp only at hg
    subst hg
    exact ⟨cur, hh, by omega⟩

theorem own_max {w : World} {base : Nat} {e : TypeId} {size : Nat} {v : Value} {n : Nat} {xs : List Value} (h : w.ownsRow base e size v n xs) : n ≤ 9223372036854775807 := by
  obtain ⟨_, ⟨_, h2⟩ | ⟨g', cap', cur, hv', hb, hh, hc1, hm, hcs, ht⟩⟩ := h
  · omega
  · unfold maxLen at hm; omega
set_option maxHeartbeats 3200000 in
set_option maxRecDepth 100000 in
theorem pickOwn_any (want have_ : List Tg) (vw vh : Value) (x : Int) (w : World) (h1 : TagsIn w vw want) (h2 : TagsIn w vh have_) (hm : MaxVar w) (hE : ErrVar w) :
    Calls Tryd.prog 4 #[vw, vh, .int .i64 x] w fun e w' => e = .returned (.bool true) ∧ Below w.heap.size w w' := by
  have H1 := Lib.hid h1
  have H2 := Lib.hid h2
  have HM := Lib.hid hm
  have HEv := Lib.hid hE
  obtain ⟨R, hR⟩ : ∃ R, R = pickOf want have_ := ⟨_, rfl⟩
  have HPk : Hid (∀ W a b, TagsIn W a want → TagsIn W b have_ → Calls Tryd.prog 12 #[a, b] W fun e w' => Below W.heap.size W w' ∧ e = .returned (.tuple #[.int .i64 R.1, errV R.2])) := Lib.hid fun W a b ha hb => by
    rw [hR]; exact pick_any want have_ a b W ha hb
  have HT1 := Lib.hid (tags_any want vw _ w (Classical.choose_spec h1.lo) h1.len (fun t ht => (h1.each t ht).1))
  have HT2 : Hid (∀ W, Below w.heap.size w W → Calls Tryd.prog 7 #[vh] W fun e w' => Below W.heap.size W w' ∧ ∃ u, e = .returned u ∧ TagRow W.heap.size w' u have_) := Lib.hid fun W hW =>
    tags_any have_ vh _ W (Classical.choose_spec (h2.below hW).lo) h2.len (fun t ht => (h2.each t ht).1)
  obtain ⟨A1, c1, hV1, _⟩ := (Classical.choose_spec h1.lo).form
  obtain ⟨A2, c2, hV2, _⟩ := (Classical.choose_spec h2.lo).form
  subst hV1; subst hV2
  have hl1 : want.length * 72 ≤ 140737488355328 := h1.len
  have hl2 : have_.length * 72 ≤ 140737488355328 := h2.len
  clear h1 h2 hm hE hR
  go_enter Tryd.func4, Tryd.ntmps4
  go_wp2_with fail
  refine HT1.out.mono ?_
  clear HT1
  rintro e w1 ⟨hb1, u1, rfl, hu1⟩
  have hlu1 := hu1.list (lo := w.heap.size) (hi := w1.heap.size) (Nat.le_refl _) (Nat.le_refl _)
  obtain ⟨B1, d1, rfl, hd1⟩ := hlu1.form
  have HU1 := Lib.hid hlu1
  have HB1 := Lib.hid hb1
  clear hb1 hu1 hlu1
  go_wp2_with fail
  refine (HT2.out _ HB1.out).mono ?_
  clear HT2
  rintro e w2 ⟨hb2, u2, rfl, hu2⟩
  have hlu2 := hu2.list (lo := w1.heap.size) (hi := w2.heap.size) (Nat.le_refl _) (Nat.le_refl _)
  obtain ⟨B2, d2, rfl, hd2⟩ := hlu2.form
  have HU2 := Lib.hid hlu2
  have HU12 := Lib.hid ((HU1.out.below Enc.tag_laws hb2).mono Enc.tag_laws (Nat.le_refl _) hb2.size)
  have HB2 := Lib.hid (HB1.out.trans (hb2.mono HB1.out.size))
  have hs2 := HB2.out.size
  clear hb2 hu2 hlu2 HU1
  have HA := Lib.hid (HPk.out w2 _ _ (⟨⟨_, HU12.out⟩, H1.out.len, H1.out.each⟩ : TagsIn w2 (.slice B1 want.length d1) want) (⟨⟨_, HU2.out⟩, H2.out.len, H2.out.each⟩ : TagsIn w2 (.slice B2 have_.length d2) have_))
  go_wp2_with fail
  refine HA.out.mono ?_
  clear HA
  rintro e w3 ⟨hb3, rfl⟩
  have HB3 := Lib.hid (HB2.out.trans (hb3.mono hs2))
  have HU1 := Lib.hid ((HU12.out.below Enc.tag_laws hb3).mono Enc.tag_laws (Nat.le_refl _) hb3.size)
  have HU23 := Lib.hid ((HU2.out.below Enc.tag_laws hb3).mono Enc.tag_laws (Nat.le_refl _) hb3.size)
  have hs3 := HB3.out.size
  clear hb3 HU12 HU2
  have hI1 : TagsIn w3 (.slice B1 want.length d1) want := ⟨⟨_, HU1.out⟩, H1.out.len, H1.out.each⟩
  have hI2 : TagsIn w3 (.slice B2 have_.length d2) have_ := ⟨⟨_, HU23.out⟩, H2.out.len, H2.out.each⟩
  have HI1 := Lib.hid hI1
  have HI2 := Lib.hid hI2
  clear hI1 hI2
  go_upto_if 34 with fail
  go_cut [11, 12, 13] (fun v _ _ wx => Below w3.heap.size w3 wx ∧ ∃ n xs, wx.ownsRow w3.heap.size 3 1 v n xs)
  case first =>
    by_cases hz : 0 < want.length
    · obtain ⟨b, o, V, rfl, hbl, x0, x1, x2, x3, hin⟩ := HI1.out.tagAt 0 hz
      have HAl := Lib.hid (all_any _ have_ _ w3 hin HI2.out)
      generalize want[0] = t at *
      obtain ⟨A4, c4, hV, _⟩ := (Classical.choose_spec hin.lo).form
      dsimp only at hV
      subst hV
      obtain ⟨tl, ts, tr, tv⟩ := t
      simp only [Nat.zero_mul, Nat.add_zero] at x0 x1 x2 x3
      dsimp only at HAl
      clear hin
      go_wp2_with fail
      refine HAl.out.mono ?_
      rintro e w4 ⟨hb4, v, n, xs, f, rfl, hown⟩
      have HB4 := Lib.hid hb4
      have HO4 := Lib.hid hown
      clear hb4 hown x0 x1 x2 x3 HAl
      go_wp2_with fail
      go_meet
      case rel => exact ⟨HB4.out, n, xs, HO4.out⟩
    · have h0 : want.length = 0 := by omega
      go_wp2_with fail
      go_meet
      case rel => exact ⟨Below.refl _ _, 0, [], own_nil⟩
  case rest =>
    obtain ⟨hb4, n, xs, hown⟩ := hcut
    have HB4 := Lib.hid (HB3.out.trans (hb4.mono hs3))
    have HP := Lib.hid (enus_any wc (HM.out.below HB4.out))
    have HU1c := Lib.hid ((HU1.out.below Enc.tag_laws hb4).mono Enc.tag_laws (Nat.le_refl _) (Nat.le_refl _))
    have HU2c := Lib.hid ((HU23.out.below Enc.tag_laws hb4).mono Enc.tag_laws (Nat.le_refl _) (Nat.le_refl _))
    have HO := Lib.hid hown
    have hsc := hb4.size
    obtain ⟨A5, c5, rfl, _⟩ := own_slice hown
    clear hb4 hown HU1 HU23 HI1 HI2
    go_wp2_with fail
    refine HP.out.mono ?_
    clear HP
    rintro e w5 ⟨hb5, yl, ys, yr, yA, yc, hus, rfl⟩
    have hb5a : Below wc.heap.size wc (w5.alloc (.cells #[.string yl, .string ys, .string yr, .slice yA 0 yc] 24)) := hb5.alloc hb5.size _
    have my : Blk (w5.alloc (.cells #[.string yl, .string ys, .string yr, .slice yA 0 yc] 24)) w5.heap.size 24 #[.string yl, .string ys, .string yr, .slice yA 0 yc] := Blk.new _ _ _
    obtain ⟨WL, hWL⟩ : ∃ WL, WL = w5.alloc (.cells #[.string yl, .string ys, .string yr, .slice yA 0 yc] 24) := ⟨_, rfl⟩
    obtain ⟨ny, hny⟩ : ∃ ny, ny = w5.heap.size := ⟨_, rfl⟩
    rw [← hWL] at hb5a my
    rw [← hny] at my
    have HLL := Lib.hid hWL
    have HNY := Lib.hid hny
    have HBL := Lib.hid hb5a
    have HMy := Lib.hid my
    have HOL := Lib.hid (own_below HO.out hb5a (Nat.le_refl _))
    have HLt : Hid (∀ g, A5 = some ⟨g, 0, none⟩ → w3.heap.size ≤ g ∧ g < wc.heap.size) := Lib.hid fun g hg => own_lt HO.out (by rw [hg]; rfl)
    have HN63 := Lib.hid (own_max HO.out)
    have hsL := hb5a.size
    have hnyl : wc.heap.size ≤ ny := by rw [hny]; exact hb5.size
    clear hb5 hb5a my hWL hny HO
    go_upto_region 9 with fail
    rw [← HLL.out, ← HNY.out]
    clear HLL HNY
    go_wp2_with fail
    go_loopw [16] (fun i wr => ∃ q : Nat, q ≤ n ∧ i = .int .i64 q ∧ Fr WL wr (fun g => A5 = some ⟨g, 0, none⟩ ∧ 0 < n) ∧ ∀ g, A5 = some ⟨g, 0, none⟩ → RowHasI wr g n) (fun i _ => n - (intOf i).toNat)
    case atStart => exact ⟨0, Nat.zero_le _, rfl, Fr.refl _ _, fun g hg => RowHasI.of_own HOL.out (by rw [hg]; rfl)⟩
    case round =>
      obtain ⟨q, hq, rfl, hF, hR2⟩ := hrel
      by_cases hqn : q < n
      · obtain ⟨g, c', he, hg1, hg2⟩ := own_form HOL.out (by omega)
        injection he with he
        subst he
        have hrw := hR2 g rfl
        obtain ⟨⟨uu, hu1⟩, hu2⟩ := hrw.cell q hqn
        have HSet := Lib.hid (hF.setCell (p := ⟨g, q, none⟩) (.inl ⟨rfl, by omega⟩) (.int .i64 x))
        have HRw := Lib.hid (hrw.set q (.int .i64 x))
        clear hrw hF hR2
        have HWr : Hid (wrap64 ((q : Int) + 1) = ((q + 1 : Nat) : Int)) := Lib.hid (by have := HN63.out; unfold wrap64; omega)
        go_wp2_with fail
        exact ⟨⟨q + 1, by omega, by rw [HWr.out], HSet.out, fun g' hg' => by
          injection hg' with hg'
          injection hg' with hg'
          subst hg'
          exact HRw.out⟩, by rw [HWr.out]; simp [intOf]; omega⟩
      · obtain rfl : q = n := by omega
        have hny : ¬ (A5 = some ⟨ny, 0, none⟩ ∧ 0 < q) := fun h => by have := (HLt.out ny h.1).2; omega
        have hmy := HMy.out.fr hF hny
        have hbr : Below w3.heap.size wc wr := Fr.below (HBL.out.mono hsc) hF (by omega) (fun g hg => (HLt.out g hg.1).1)
        have hbw : Below w.heap.size w wr := HB4.out.trans (hbr.mono hs3)
        have hsr := hbr.size
        have l1 := HU1c.out.keep Enc.tag_laws (Alk.mono (Alk.of_below hbr) (Nat.zero_le _) (Nat.le_refl _))
        have l2 := HU2c.out.keep Enc.tag_laws (Alk.mono (Alk.of_below hbr) (Nat.zero_le _) (Nat.le_refl _))
        have HS1 : Hid (∀ W, Below wr.heap.size wr W → Calls Tryd.prog 10 #[.slice B1 want.length d1, .slice A1 want.length c1] W fun e w' => e = .returned (.bool true) ∧ Below W.heap.size W w') := Lib.hid fun W hW => by
          obtain ⟨lo, hlo⟩ := H1.out.lo
          exact stags_same want _ _ _ _ _ _ W (l1.keep Enc.tag_laws (Alk.mono (Alk.of_below hW) (Nat.zero_le _) (by omega))) (hlo.below Enc.tag_laws (hbw.trans (hW.mono hbw.size))) (by have := hW.size; omega) (by have := hW.size; have := hbw.size; omega) (by omega) (fun t ht => by have := (H1.out.each t ht).1; omega)
        have HS2 : Hid (∀ W, Below wr.heap.size wr W → Calls Tryd.prog 10 #[.slice B2 have_.length d2, .slice A2 have_.length c2] W fun e w' => e = .returned (.bool true) ∧ Below W.heap.size W w') := Lib.hid fun W hW => by
          obtain ⟨lo, hlo⟩ := H2.out.lo
          exact stags_same have_ _ _ _ _ _ _ W (l2.keep Enc.tag_laws (Alk.mono (Alk.of_below hW) (Nat.zero_le _) (by omega))) (hlo.below Enc.tag_laws (hbw.trans (hW.mono hbw.size))) (by have := hW.size; omega) (by have := hW.size; have := hbw.size; omega) (by omega) (fun t ht => by have := (H2.out.each t ht).1; omega)
        have HBw := Lib.hid hbw
        have HMr := Lib.hid hmy
        have hyl := hmy.lt
        clear hmy hbr hbw l1 l2 hF hR2 hny
        go_wp2_with fail
        refine (HS1.out _ (Below.refl _ _)).mono ?_
        rintro e w6 ⟨rfl, hb6⟩
        have HB6 := Lib.hid hb6
        clear hb6 HS1
        have hs6 := HB6.out.size
        go_wp2_with fail
        refine (HS2.out _ HB6.out).mono ?_
        rintro e w7 ⟨rfl, hb7⟩
        have HB7 := Lib.hid (HB6.out.trans (hb7.mono hs6))
        clear hb7 HS2 HB6
        have hs7 := HB7.out.size
        have HBw7 := Lib.hid (HBw.out.trans (HB7.out.mono HBw.out.size))
        have HA2 := Lib.hid (HPk.out w7 _ _ (H1.out.below HBw7.out) (H2.out.below HBw7.out))
        go_wp2_with fail
        refine HA2.out.mono ?_
        rintro e w8 ⟨hb8, rfl⟩
        have HB8 := Lib.hid (HB7.out.trans (hb8.mono hs7))
        clear hb8 HA2
        have HBw8 := Lib.hid (HBw.out.trans (HB8.out.mono HBw.out.size))
        have HTo := Lib.hid (stold_any R.2 R.2 w8 (HEv.out.below HBw8.out HEv.out.lt))
        have hrr : Hid (decide (R.2 = R.2) = true) := Lib.hid (by simp)
        rw [hrr.out] at HTo
        obtain ⟨R1, R2⟩ := R
        dsimp only at HTo ⊢
        generalize errV R2 = E at *
        go_wp2_with fail
        refine HTo.out.mono ?_
        rintro e w9 ⟨rfl, hb9⟩
        have HB9 := Lib.hid (HB8.out.trans (hb9.mono HB8.out.size))
        have k2 := (HMr.out.below HB9.out hyl).cell 2
        simp at k2
        have hus' : (yr.toList == [85, 83]) = true := by
          have : us.toList = [85, 83] := by decide +kernel
          rw [← this]; exact hus
        have HBw9 := Lib.hid (HBw.out.trans (HB9.out.mono HBw.out.size))
        clear hb9 HTo
        go_wp2_with fail
        go_ret
        exact ⟨rfl, HBw9.out⟩
end Go.Proofs.YtdmjelkjeiinjaaDoor
