/- The law PackOrder. -/
import Derived.Test.YtmpjfomfibkbnaaGreatDoorPackB
import Derived.Test.YtmpjfomfibkbnaaGreatDoorQSort
set_option linter.unusedSimpArgs false
set_option linter.unusedVariables false
namespace Go.Proofs.YtmpjfomfibkbnaaGreatDoor
open Go.RowKit

/-- One cell of a row of the call's own is another one. -/
theorem own_set {w : World} {base : Nat} {e : TypeId} {size n c g : Nat} {xs : List Value} (h : w.ownsRow base e size (.slice (some ⟨g, 0, none⟩) n c) n xs) (k : Nat) (u : Value) (hk : k < n * size) :
    (w.setCell ⟨g, k, none⟩ u).ownsRow base e size (.slice (some ⟨g, 0, none⟩) n c) n (xs.set k u) := by
  obtain ⟨hlen, ⟨hv, _⟩ | ⟨g', cap, cur, hv, hb, hh, hc, hm, hcs, ht⟩⟩ := h
  · cases hv
  · injection hv with hv1 hv2 hv3
    injection hv1 with hv1
    injection hv1 with e1
    subst e1; subst hv3
    refine ⟨by rw [List.length_set]; exact hlen, .inr ⟨g, c, cur.setIfInBounds k u, rfl, hb, ?_, hc, hm, by simpa using hcs, ?_⟩⟩
    · rw [setCell_eq_setRow w g k cur e (0, 0) u hh]
      exact setRow_heap w g _ _ e _ hh
    · rw [← ht, Array.toList_setIfInBounds, List.take_set]
theorem flatE_set : ∀ (es : List Ent) (i : Nat) (x : ByteArray) (h : i < es.length), (flatE es).set (i * 2 + 1) (.string x) = flatE (es.set i ⟨es[i].key, x⟩)
  | [], i, x, h => by cases h
  | e :: r, 0, x, h => rfl
  | e :: r, i + 1, x, h => by
    have hi : i < r.length := by simpa using h
    have ih := flatE_set r i x hi
    have e1 : (i + 1) * 2 + 1 = (i * 2 + 1) + 1 + 1 := by omega
    show ([Value.string e.key, .string e.text] ++ flatE r).set ((i + 1) * 2 + 1) (.string x) = [Value.string e.key, .string e.text] ++ flatE (r.set i ⟨r[i].key, x⟩)
    rw [e1]
    show Value.string e.key :: Value.string e.text :: (flatE r).set (i * 2 + 1) (.string x) = _
    rw [ih]; rfl
/-- A box of a bundle whose entries are a row of the call's own. -/
structure BoxRow (w0 wr : World) (q : Nat) (tg : ByteArray) (es : List Ent) (u : Value) : Prop where
  lo : w0.heap.size ≤ q
  box : Blk wr q 24 #[.string tg, u]
  row : wr.ownsRow w0.heap.size 32 2 u es.length (flatE es)
  below : Below w0.heap.size w0 wr
theorem own_ne_blk {w : World} {base : Nat} {e t : TypeId} {size : Nat} {v : Value} {n : Nat} {xs : List Value} {g : Nat} {cs : Array Value} (h : w.ownsRow base e size v n xs) (k : Blk w g t cs) (hne : e ≠ t) : v.ownBlock ≠ some g := own_blk_ne' h k hne
theorem BoxRow.keep {w0 wr W : World} {q : Nat} {tg : ByteArray} {es : List Ent} {u : Value} (h : BoxRow w0 wr q tg es u) (hb : Below wr.heap.size wr W) : BoxRow w0 W q tg es u :=
  ⟨h.lo, h.box.below hb h.box.lt, own_below h.row hb (Nat.le_refl _), h.below.trans (hb.mono h.below.size)⟩
theorem BoxRow.push {w0 W w7 : World} {q : Nat} {tg : ByteArray} {es : List Ent} {u v : Value} {e : Ent} (h : BoxRow w0 W q tg es u) (hg : W.grownBy w7 u.ownBlock)
    (hown : w7.ownsRow w0.heap.size 32 2 v (es.length + 1) (flatE es ++ entCells e)) : BoxRow w0 (w7.setCell ⟨q, 1, none⟩ v) q tg (es ++ [e]) v := by
  have q0 := blk_grown h.box hg (fun e => own_ne_blk h.row h.box (by decide) e.symm)
  refine ⟨h.lo, q0.set_ 1 v, ?_, (h.below.grown hg h.below.size (fun k hk => (own_lt h.row hk).1)).setCell h.lo _⟩
  rw [flatE_snoc', List.length_append]
  exact own_keep hown fun g hg' _ => Below.heap_setCell _ _ _ _ (fun (e : g = q) => own_ne_blk hown q0 (by decide) (by rw [hg', e]))
theorem BoxRow.in_ {w0 wr : World} {q : Nat} {tg : ByteArray} {es : List Ent} {u : Value} (h : BoxRow w0 wr q tg es u) (hr : Right ⟨tg, es⟩) : BunIn wr ⟨tg, es⟩ u :=
  ⟨⟨_, ents_of_own h.row (Nat.le_refl _) (Nat.le_refl _)⟩, by have h2 : tg.size ≤ 200 := tag_short hr.tag; show tg.size < _; omega, by have h2 : es.length ≤ 100 := hr.len; show es.length ≤ _; omega, fun e he => by
    have h1 := key_40 (hr.each e he).1
    have h2 := (hr.each e he).2
    omega⟩
theorem eqs_iff' (a b : ByteArray) : (a.toList == b.toList) = true ↔ a = b := eqs_iff a b
set_option maxHeartbeats 6400000 in
set_option maxRecDepth 100000 in
theorem packOrder_any (b : Bun) (v : Value) (i : Int) (text : ByteArray) (w : World) (h : BunIn w b v) (hm : MaxVar w) :
    Calls Tryz.prog 3 #[.agg #[.string b.tag, v], .int .i64 i, .string text] w fun e w' => e = .returned (.bool true) ∧ Below w.heap.size w w' := by
  obtain ⟨lo, hl⟩ := h.lo
  obtain ⟨A, c, rfl, _⟩ := hl.form
  have HI := Lib.hid h
  have HM := Lib.hid hm
  have HL := Lib.hid hl
  obtain ⟨bt, l⟩ := b
  dsimp only at *
  clear h hm hl
  go_enter Tryz.func3, Tryz.ntmps3
  go_wp2_with fail
  have hb1 : Below w.heap.size w (w.alloc (.cells #[.string bt, .slice A l.length c] 24)) := (Below.refl _ _).alloc (Nat.le_refl _) _
  refine (packed_any _ (HM.out.below hb1)).mono ?_
  rintro e w2 ⟨rfl, hb2⟩
  have HB2 := Lib.hid (hb1.trans (hb2.mono (by simp)))
  have m2 := (Blk.new w 24 #[.string bt, .slice A l.length c]).below hb2 (by simp)
  have M2 := Lib.hid m2
  have c0 : w2.cell? ⟨w.heap.size, 0, none⟩ = some (.string bt) := (m2.cell 0).trans rfl
  have c1 : w2.cell? ⟨w.heap.size, 1, none⟩ = some (.slice A l.length c) := (m2.cell 1).trans rfl
  clear hb1 hb2 m2
  go_wp2_with fail
  refine (encode_any ⟨bt, l⟩ _ w2 (HI.out.below HB2.out) (HM.out.below HB2.out)).mono ?_
  rintro e w3 hr
  obtain ⟨hb3, ⟨hf, rfl⟩ | ⟨hR, A3, c3, rfl, hu⟩⟩ := enc_uni hr
  · have HB3 := Lib.hid (HB2.out.trans (hb3.mono HB2.out.size))
    rw [errV_ne hf]
    clear hr hb3 c0 c1
    go_wp2_with fail
    go_ret
    exact ⟨rfl, HB3.out⟩
  · have HB3 := Lib.hid (HB2.out.trans (hb3.mono HB2.out.size))
    have hs3 := HB3.out.size
    have hlen := bytes_le hR
    have HR := Lib.hid hR
    have hl100 : l.length ≤ 100 := hR.len
    have HBy : Hid (bytesB ⟨bt, l.reverse⟩ = bytesB ⟨bt, l⟩) := Lib.hid (bytes_perm hR.uniq (List.reverse_perm l).symm)
    have HRv : Hid (Right ⟨bt, l.reverse⟩) := Lib.hid (hR.perm (List.reverse_perm l).symm)
    have HOk : Hid (ListOk Enc.byte w3 w2.heap.size w3.heap.size (.slice A3 (bytesB ⟨bt, l⟩).length c3) (bytesB ⟨bt, l⟩)) := Lib.hid (bytes_of_own hu (Nat.le_refl _) (Nat.le_refl _))
    have m3 := M2.out.below hb3 M2.out.lt
    have M3 := Lib.hid m3
    have k0 : w3.cell? ⟨w.heap.size, 0, none⟩ = some (.string bt) := (m3.cell 0).trans rfl
    have k1 : w3.cell? ⟨w.heap.size, 1, none⟩ = some (.slice A l.length c) := (m3.cell 1).trans rfl
    have hml := m3.lt
    have HEq : Hid (∀ i (hi : i < l.reverse.length), text.size ≤ 2000 → (Right ⟨bt, l.reverse.set i ⟨l.reverse[i].key, text⟩⟩ ∧ (bytesB ⟨bt, l.reverse.set i ⟨l.reverse[i].key, text⟩⟩ = bytesB ⟨bt, l⟩ ↔ text = l.reverse[i].text))) := Lib.hid fun i hi ht => by
      have h1 := HRv.out.text i hi text ht
      have h2 := bytes_text HRv.out i hi text ht
      rw [HBy.out] at h2
      exact ⟨h1, h2⟩
    generalize hLb : bytesB ⟨bt, l⟩ = L at *
    clear hr hb3 c0 c1 hR hu m3 hLb
    obtain ⟨q, hq⟩ : ∃ q, q = w3.heap.size := ⟨_, rfl⟩
    obtain ⟨W4, hW4⟩ : ∃ W4, W4 = w3.alloc (.cells #[.string bt, .slice none 0 0] 24) := ⟨_, rfl⟩
    have hb4 : Below w3.heap.size w3 W4 := by rw [hW4]; exact (Below.refl _ _).alloc (Nat.le_refl _) _
    have R4 : Hid (BoxRow w3 W4 q bt [] (.slice none 0 0)) := Lib.hid ⟨Nat.le_of_eq hq.symm, by rw [hW4, hq]; exact Blk.new _ _ _, own_nil, hb4⟩
    have hz1 : W4.cell? ⟨w.heap.size, 1, none⟩ = some (.slice A l.length c) := (hb4.cell (p := ⟨w.heap.size, 1, none⟩) hml).trans k1
    go_upto_region 6 with fail
    rw [← hW4, ← hq]
    clear hW4 hq hb4
    go_wp2_with fail
    go_loopw [11] (fun s wr => ∃ (j : Nat) (u : Value) (z : Int), s = .int .i64 z ∧ z = (l.length : Int) - 1 - j ∧ j ≤ l.length ∧ BoxRow w3 wr q bt (l.reverse.take j) u) (fun s _ => (intOf s + 1).toNat)
    case atStart => exact ⟨0, .slice none 0 0, _, by first | rfl | go_num, by omega, Nat.zero_le _, R4.out⟩
    case round =>
      clear R4 hz1 k0 k1
      obtain ⟨j, u, z, rfl, hz, hj, hR⟩ := hrel
      have R := Lib.hid hR
      have hqlt := hR.box.lt
      have k1 : wr.cell? ⟨w.heap.size, 1, none⟩ = some (.slice A l.length c) := ((M3.out.below hR.below hml).cell 1).trans rfl
      obtain ⟨Au, cu, rfl, _⟩ := own_slice hR.row
      clear hR
      by_cases hlt : j < l.length
      · obtain ⟨m, rfl⟩ := Int.eq_ofNat_of_zero_le (show 0 ≤ z by omega)
        have hm1 : m = l.length - 1 - j := by omega
        have hml2 : m < l.length := by omega
        have hge : (0 : Int) ≤ (m : Int) := by omega
        have hmi : (m : Int) < (l.length : Int) := by omega
        obtain ⟨b, o, rfl, _, hbl, x0, x1⟩ := ((HL.out.below Enc.ent_laws (HB3.out.trans (R.out.below.mono hs3)))).entAt m hml2
        have HNx : Hid (l.reverse.take j ++ [l[m]] = l.reverse.take (j + 1)) := Lib.hid (by
          rw [List.take_succ_eq_append_getElem (by rw [List.length_reverse]; exact hlt)]
          congr 2
          rw [List.getElem_reverse]
          congr 1)
        have hesl : (l.reverse.take j).length = j := by rw [List.length_take, List.length_reverse]; omega
        generalize l.reverse.take j = es at *
        generalize l[m] = e at *
        obtain ⟨ky, tx⟩ := e
        dsimp only at x0 x1
        have b1 : wr.cell? ⟨q, 1, none⟩ = some (.slice Au es.length cu) := (R.out.box.cell 1).trans rfl
        have f1 := R.out.box.frozen 1
        have hel : es.length ≤ 100 := by omega
        have HEl := Lib.hid hesl
        have HnX : Hid (∀ (W : World) (q : Nat) (x : Value), ([Value.string ky, .string tx] : List Value)[q]? = some x → (W.alloc (.cells #[.string ky, .string tx] 32)).cell? ⟨W.heap.size, 0 + q, none⟩ = some x) := Lib.hid fun W q x hq => by
          rw [Nat.zero_add, (Blk.new W 32 #[.string ky, .string tx]).cell q]; simpa using hq
        have hws := R.out.below.size
        have HZ := Lib.hid hz
        clear hesl hm1 hz
        go_wp2_with fail
        go_region_law
          ((refine step_append_any (by rfl) _ _ 22 (by rfl) w3.heap.size 32 Tryz.underlying22 info_ent rfl (by decide) (flatE es) (by rfl) (own_below R.out.row (by repeat (first | exact Below.refl _ _ | refine Below.drew ?_ | refine below_drewN ?_ _ | refine Below.alloc ?_ (by simp) _)) (Nat.le_refl _)) [Value.string ky, Value.string tx] (by rfl) (by rfl) (.inr ⟨_, _, rfl, by first | exact HnX.out _ | exact HnX.out wr | exact HnX.out wr.drew⟩) (by simp [Value.oneCell']) (by unfold maxLen; omega) (by omega) (by simp; omega) ?_
            intro v7 w7 hown7 hgrow7
            obtain ⟨W7, hbW, hgr⟩ : ∃ W7, Below wr.heap.size wr W7 ∧ W7.grownBy w7 (Value.slice Au es.length cu).ownBlock := by
              refine ⟨_, ?_, hgrow7⟩
              repeat (first | exact Below.refl _ _ | refine Below.drew ?_ | refine below_drewN ?_ _ | refine Below.alloc ?_ (by simp) _)
            have hR7 := R.out.keep hbW
            have R8 := Lib.hid (hR7.push (e := ⟨ky, tx⟩) hgr hown7)
            have q0 := blk_grown hR7.box hgr (fun e => own_ne_blk hR7.row hR7.box (by decide) e.symm)
            have d1 : w7.cell? ⟨q, 1, none⟩ = some (.slice Au es.length cu) := (q0.cell 1).trans rfl
            have g1 := q0.frozen 1
            obtain ⟨A7, c7, hv7, _⟩ := own_slice hown7
            have hv8 : v7 = .slice A7 (es.length + 1) c7 := by rw [hv7]
            subst hv8
            clear hbW hR7 hgr q0 hown7 hgrow7 hv7 b1 f1))
        all_goals
          rw [HNx.out] at R8
          go_wp2_with fail
          exact ⟨⟨j + 1, _, (m : Int) - 1, by first | rfl | go_num, by have := HZ.out; omega, by omega, R8.out⟩, by simp [intOf]⟩
      · obtain rfl : j = l.length := by omega
        obtain rfl : z = -1 := by omega
        have hrl : (l.reverse.take l.length) = l.reverse := List.take_of_length_le (by simp)
        have hrn : Hid (l.reverse.length = l.length) := Lib.hid List.length_reverse
        rw [hrl] at R
        generalize l.reverse = rv at *
        have b0 : wr.cell? ⟨q, 0, none⟩ = some (.string bt) := (R.out.box.cell 0).trans rfl
        have b1 : wr.cell? ⟨q, 1, none⟩ = some (.slice Au rv.length cu) := (R.out.box.cell 1).trans rfl
        have HE := Lib.hid (encode_any ⟨bt, rv⟩ _ wr (R.out.in_ HRv.out) (HM.out.below (HB3.out.trans (R.out.below.mono hs3))))
        clear hz hrl hlt
        go_wp2_with fail
        refine HE.out.mono ?_
        clear HE
        rintro e w5 hr
        obtain ⟨hb5, ⟨hf, rfl⟩ | ⟨_, A5, c5, rfl, hu5⟩⟩ := enc_uni hr
        · exact absurd ((right_iff ⟨bt, rv⟩).2 HRv.out) hf
        · rw [HBy.out] at hu5 ⊢
          have R5 := Lib.hid (R.out.keep hb5)
          have hd : decide (L = L) = true := decide_eq_true rfl
          have HSb := Lib.hid (sbytes_any _ _ L L _ _ _ _ w5 (HOk.out.below Enc.byte_laws R5.out.below) (bytes_of_own hu5 (Nat.le_refl wr.heap.size) (Nat.le_refl _)) (by omega) (by omega))
          rw [hd] at HSb
          clear hr hb5 hu5 hd b0 b1
          go_wp2_with fail
          refine HSb.out.mono ?_
          clear HSb
          rintro e w6 ⟨rfl, hb6⟩
          have R6 := Lib.hid (R5.out.keep hb6)
          have b1 : w6.cell? ⟨q, 1, none⟩ = some (.slice Au rv.length cu) := (R6.out.box.cell 1).trans rfl
          have HB6 := Lib.hid (HB3.out.trans (R6.out.below.mono hs3))
          clear hb6 R5
          by_cases hi0 : i < 0
          · go_wp2_with fail
            go_ret
            exact ⟨rfl, HB6.out⟩
          · obtain ⟨k, rfl⟩ := Int.eq_ofNat_of_zero_le (show 0 ≤ i by omega)
            have hk0 : ¬ ((k : Int) < 0) := by omega
            by_cases hk : k < rv.length
            · have hd1 : decide ((rv.length : Int) ≤ k) = false := decide_eq_false (by omega)
              have hkn : (k : Int) < (rv.length : Int) := by omega
              by_cases hts : text.size ≤ 2000
              · have hd2 : decide ((2000 : Int) < text.size) = false := decide_eq_false (by omega)
                obtain ⟨hRt, hIff⟩ := HEq.out k hk hts
                have hrow := R6.out.row
                rcases own_cases hrow with ⟨_, _, h0⟩ | ⟨g, rfl⟩
                · omega
                · obtain ⟨b', o', hA', _, _, x0, x1⟩ := (ents_of_own hrow (Nat.le_refl w3.heap.size) (Nat.le_refl _)).entAt k hk
                  injection hA' with hA'
                  injection hA' with e1 e2
                  subst e1; subst e2
                  rw [Nat.zero_add] at x0 x1
                  obtain ⟨hgb, hfr⟩ := own_frozen hrow
                  have hfk := hfr (k * 2 + 1)
                  have hgq : g ≠ q := fun e => own_ne_blk hrow R6.out.box (by decide) (by rw [e]; rfl)
                  have R7 : Hid (BoxRow w3 (w6.setCell ⟨g, k * 2 + 1, none⟩ (.string text)) q bt (rv.set k ⟨rv[k].key, text⟩) (.slice (some ⟨g, 0, none⟩) rv.length cu)) := Lib.hid ⟨R6.out.lo, R6.out.box.far (p := ⟨g, k * 2 + 1, none⟩) (fun e => hgq e.symm) _, by
                    rw [← flatE_set rv k text hk, List.length_set]
                    exact own_set hrow (k * 2 + 1) _ (by omega), R6.out.below.setCell hgb _⟩
                  have HE := Lib.hid (encode_any ⟨bt, rv.set k ⟨rv[k].key, text⟩⟩ _ _ (R7.out.in_ hRt) (HM.out.below (HB3.out.trans (R7.out.below.mono hs3))))
                  have HRt := Lib.hid hRt
                  have HIff := Lib.hid hIff
                  have k0 : (w6.setCell ⟨g, k * 2 + 1, none⟩ (.string text)).cell? ⟨q, 0, none⟩ = some (.string bt) := (R7.out.box.cell 0).trans rfl
                  have k1 : (w6.setCell ⟨g, k * 2 + 1, none⟩ (.string text)).cell? ⟨q, 1, none⟩ = some (.slice (some ⟨g, 0, none⟩) rv.length cu) := (R7.out.box.cell 1).trans rfl
                  have HOk7 := Lib.hid (HOk.out.below Enc.byte_laws R7.out.below)
                  have HB7 := Lib.hid (HB3.out.trans (R7.out.below.mono hs3))
                  dsimp only at HE
                  generalize rv.set k ⟨rv[k].key, text⟩ = rs at *
                  generalize rv[k].text = was at *
                  generalize rv[k].key = ky at *
                  clear hrow hfr hRt hIff x0
                  go_wp2_with fail
                  refine HE.out.mono ?_
                  clear HE
                  rintro e w8 hr
                  obtain ⟨hb8, ⟨hf, rfl⟩ | ⟨_, A8, c8, rfl, hu8⟩⟩ := enc_uni hr
                  · exact absurd ((right_iff ⟨bt, rs⟩).2 HRt.out) hf
                  · have hl8 := bytes_le HRt.out
                    have HB8 := Lib.hid (HB7.out.trans (hb8.mono HB7.out.size))
                    generalize hL2 : bytesB ⟨bt, rs⟩ = L2 at *
                    have HSb := Lib.hid (sbytes_any _ _ L L2 _ _ _ _ w8 (HOk7.out.below Enc.byte_laws (hb8.mono R7.out.below.size)) (bytes_of_own hu8 (Nat.le_refl (w6.setCell ⟨g, k * 2 + 1, none⟩ (.string text)).heap.size) (Nat.le_refl _)) (by omega) (by omega))
                    have hD : decide (L = L2) = (text.toList == was.toList) := by
                      rw [Bool.eq_iff_iff, decide_eq_true_iff, eqs_iff' text was]
                      exact ⟨fun e => HIff.out.1 e.symm, fun e => (HIff.out.2 e).symm⟩
                    rw [hD] at HSb
                    obtain ⟨D, hDe⟩ : ∃ D, D = (text.toList == was.toList) := ⟨_, rfl⟩
                    rw [← hDe] at HSb
                    have HDe := Lib.hid hDe
                    clear hr hb8 hu8 hL2 hD k0 k1 x1 hDe
                    go_wp2_with fail
                    refine HSb.out.mono ?_
                    clear HSb
                    rintro e w9 ⟨rfl, hb9⟩
                    have HB9 := Lib.hid (HB8.out.trans (hb9.mono HB8.out.size))
                    clear hb9
                    go_wp2_with fail
                    go_ret
                    exact ⟨ret_bool (by rw [HDe.out]; simp), HB9.out⟩
              · have hd2 : decide ((2000 : Int) < text.size) = true := decide_eq_true (by omega)
                go_wp2_with fail
                go_ret
                exact ⟨rfl, HB6.out⟩
            · have hd1 : decide ((rv.length : Int) ≤ k) = true := decide_eq_true (by omega)
              go_wp2_with fail
              go_ret
              exact ⟨rfl, HB6.out⟩
end Go.Proofs.YtmpjfomfibkbnaaGreatDoor
