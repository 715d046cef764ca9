/- What the document reads of a text's lines, line by line: the plain laws. -/
import Derived.Test.YtoneheloojlifaaGreatDoorLinesP
import Derived.Test.YtoneheloojlifaaGreatDoorPParse
import Derived.Test.YtoneheloojlifaaGreatDoorRefG
namespace Go.Proofs.YtoneheloojlifaaGreatDoor
open Go.RowKit

theorem cut1_key : ∀ p : List UInt8, (cut1 61 p).headD [] = keyL p ∧ (2 ≤ (cut1 61 p).length ↔ 61 ∈ p)
  | [] => ⟨rfl, by simp [cut1]⟩
  | b :: l => by
    obtain ⟨i1, i2⟩ := cut1_key l
    have hne := cut1_ne 61 l
    have hpos : 0 < (cut1 61 l).length := List.length_pos_iff.2 hne
    unfold cut1
    by_cases h : b = 61
    · subst h
      rw [if_pos rfl]
      refine ⟨by simp [keyL], ?_⟩
      rw [List.length_cons]
      constructor
      · intro _; exact List.mem_cons_self
      · intro _; omega
    · rw [if_neg h]
      refine ⟨?_, ?_⟩
      · rw [List.headD_cons, i1]
        unfold keyL
        rw [List.takeWhile_cons, if_pos (by simpa using h)]
      · rw [List.length_cons, List.length_tail, show (cut1 61 l).length - 1 + 1 = (cut1 61 l).length by omega, i2]
        have hb : ¬ (61 : UInt8) = b := fun e => h e.symm
        simp [hb]
theorem entsR_cons (p : List UInt8) (r : List (List UInt8)) : entsR (p :: r) = if skipL p then entsR r else match entR p with | some e => (entsR r).map (e :: ·) | none => none := rfl
theorem entsR_append : ∀ (xs ys : List (List UInt8)), entsR (xs ++ ys) = (entsR xs).bind fun l => (entsR ys).map (l ++ ·)
  | [], ys => by
    show entsR ys = (entsR ys).map ([] ++ ·)
    cases entsR ys <;> simp
  | p :: xs, ys => by
    have ih := entsR_append xs ys
    rw [List.cons_append, entsR_cons, entsR_cons, ih]
    split
    · rfl
    · cases entR p with
      | none => rfl
      | some e =>
        cases entsR xs with
        | none => rfl
        | some l => cases entsR ys <;> simp
theorem val_drop {p : List UInt8} (h : 61 ∈ p) : p.drop ((keyL p).length + 1) = valL p := by
  have hk := key_back h
  have : (keyL p ++ 61 :: valL p).drop ((keyL p).length + 1) = valL p := by
    rw [List.drop_append, List.drop_of_length_le (by omega)]
    simp
  rwa [hk] at this
/-- the lines between the first and the last one -/
def midL (L : List (List UInt8)) (k : Nat) : List (List UInt8) := (L.drop 1).take k
theorem midL_succ (L : List (List UInt8)) (k : Nat) (h : k + 1 < L.length) : midL L (k + 1) = midL L k ++ [L[k + 1]] := by
  unfold midL
  rw [List.take_add_one]
  have : (L.drop 1)[k]? = some L[k + 1] := by
    rw [List.getElem?_drop, show 1 + k = k + 1 by omega, List.getElem?_eq_getElem h]
  rw [this]; rfl
theorem midL_more (L : List (List UInt8)) (k m : Nat) (h : k ≤ m) : ∃ r, midL L m = midL L k ++ r := by
  unfold midL
  refine ⟨((L.drop 1).take m).drop k, ?_⟩
  have := List.take_append_drop k ((L.drop 1).take m)
  rw [List.take_take, Nat.min_eq_left h] at this
  exact this.symm
theorem bunR_short {s : List UInt8} (h : (cut1 10 s).length < 2) : bundleR s = none := by
  unfold bundleR
  split
  · rename_i t r heq
    rw [heq] at h
    have : r = [] := List.length_eq_zero_iff.1 (by simp at h; omega)
    rw [if_pos this]
  · rfl
theorem bunR_tail {s : List UInt8} (h2 : 2 ≤ (cut1 10 s).length) (h : (cut1 10 s)[(cut1 10 s).length - 1] ≠ []) : bundleR s = none := by
  unfold bundleR
  split
  · rename_i t r heq
    split
    · rfl
    · split
      · rename_i hr hl
        exfalso
        apply h
        have e : (cut1 10 s).getLast? = some [] := by
          rw [heq, List.getLast?_cons]
          cases r with
          | nil => exact absurd rfl hr
          | cons x r => simp [hl]
        rw [List.getLast?_eq_getElem?, List.getElem?_eq_getElem (by omega)] at e
        injection e
      · rfl
  · rfl
theorem bunR_head {s : List UInt8} (h2 : 2 ≤ (cut1 10 s).length) (h : ∀ t, (cut1 10 s)[0] ≠ 64 :: t) : bundleR s = none := by
  unfold bundleR
  split
  · rename_i t r heq
    exfalso
    refine h t ?_
    have : (cut1 10 s)[0]? = some (64 :: t) := by rw [heq]; rfl
    rw [List.getElem?_eq_getElem (by omega)] at this
    injection this
  · rfl
theorem bunR_at {s t : List UInt8} (h2 : 2 ≤ (cut1 10 s).length) (h0 : (cut1 10 s)[0] = 64 :: t) (hl : (cut1 10 s)[(cut1 10 s).length - 1] = []) :
    bundleR s = (match entsR (midL (cut1 10 s) ((cut1 10 s).length - 2)) with | some l => if bunFault ⟨str t, l⟩ = 0 then some ⟨str t, l⟩ else none | none => none) := by
  have hb : ∀ (x : List UInt8) (r : List (List UInt8)), cut1 10 s = x :: r → (cut1 10 s)[0] = 64 :: t → (cut1 10 s)[(cut1 10 s).length - 1] = [] → 2 ≤ (cut1 10 s).length → x = 64 :: t ∧ r ≠ [] ∧ r.getLast? = some [] ∧ r.dropLast = midL (cut1 10 s) ((cut1 10 s).length - 2) := by
    intro x r hL h0 hl h2
    have hx : x = 64 :: t := by
      have h3 : (cut1 10 s)[0]? = some (64 :: t) := by rw [List.getElem?_eq_getElem (by omega), h0]
      rw [hL] at h3
      simpa using h3
    have h4 : (cut1 10 s)[(cut1 10 s).length - 1]? = some [] := by rw [List.getElem?_eq_getElem (by omega), hl]
    have hr : r ≠ [] := fun e => by rw [hL, e] at h2; simp at h2
    refine ⟨hx, hr, ?_, ?_⟩
    · have hrl : 0 < r.length := List.length_pos_iff.2 hr
      rw [hL, show (x :: r).length - 1 = (r.length - 1) + 1 by simp; omega, List.getElem?_cons_succ] at h4
      rw [List.getLast?_eq_getElem?]; exact h4
    · unfold midL
      rw [hL, List.drop_succ_cons, List.drop_zero, List.dropLast_eq_take, show (x :: r).length - 2 = r.length - 1 by simp]
  unfold bundleR
  split
  · rename_i t' r heq
    obtain ⟨hx, hr, h5, h6⟩ := hb _ _ heq h0 hl h2
    injection hx with _ hx
    subst hx
    rw [if_neg hr, if_pos h5, h6]
    rfl
  · rename_i hno
    exfalso
    cases hL : cut1 10 s with
    | nil => exact cut1_ne 10 s hL
    | cons x r =>
      obtain ⟨hx, _⟩ := hb x r hL h0 hl h2
      exact hno t r (by rw [hL, hx])
end Go.Proofs.YtoneheloojlifaaGreatDoor
/- The walk of linguisterref2.BundleOf. -/

namespace Go.Proofs.YtoneheloojlifaaGreatDoor
open Go.RowKit

structure BSt (w0 : World) (g : Nat) (ls : List ByteArray) (q : Nat) (tg : ByteArray) (es : List Ent) (wr : World) (u : Value) : Prop where
  res : Blk wr w0.heap.size 24 #[.string ⟨#[]⟩, .slice none 0 0]
  row : ∃ c, wr.ownsRow (w0.heap.size + 1) 9 1 (.slice (some ⟨g, 0, none⟩) ls.length c) ls.length (ls.map .string)
  box : Blk wr q 24 #[.string tg, u]
  ent : wr.ownsRow w0.heap.size 62 2 u es.length (flatE es)
  qlo : w0.heap.size < q
  below : Below w0.heap.size w0 wr
section
variable {w0 wr W : World} {g q : Nat} {ls : List ByteArray} {tg : ByteArray} {es : List Ent} {u : Value}
theorem BSt.keep (h : BSt w0 g ls q tg es wr u) (hb : Below wr.heap.size wr W) : BSt w0 g ls q tg es W u :=
  ⟨h.res.below hb h.res.lt, let ⟨c, hr⟩ := h.row; ⟨c, own_below hr hb (Nat.le_refl _)⟩, h.box.below hb h.box.lt, own_below h.ent hb (Nat.le_refl _), h.qlo, h.below.trans (hb.mono h.below.size)⟩
theorem BSt.line (h : BSt w0 g ls q tg es wr u) (i : Nat) (hi : i < ls.length) : wr.cell? ⟨g, i, none⟩ = some (.string ls[i]) := by
  obtain ⟨c, hr⟩ := h.row
  obtain ⟨g', c', hA, _, _, x, _⟩ := ownAt1 hr i (.string ls[i]) (by rw [List.getElem?_map, List.getElem?_eq_getElem hi]; rfl)
  injection hA with hA; injection hA with hA; injection hA with hA
  subst hA; exact x
theorem BSt.push {w7 : World} {v : Value} {e : Ent} (h : BSt w0 g ls q tg es W u) (hg : W.grownBy w7 u.ownBlock)
    (hown : w7.ownsRow w0.heap.size 62 2 v (es.length + 1) (flatE es ++ entCells e)) : BSt w0 g ls q tg (es ++ [e]) (w7.setCell ⟨q, 1, none⟩ v) v := by
  obtain ⟨c, hr⟩ := h.row
  have h7 : ∀ k, k < W.heap.size → u.ownBlock ≠ some k → w7.heap[k]? = W.heap[k]? := fun k hl hn => hg.block k hl (fun e => hn e.symm)
  have k7 : Blk w7 q 24 #[.string tg, u] := (h7 _ h.box.lt (ownNeBlk h.ent h.box (by decide))).trans h.box
  have r7 : Blk w7 w0.heap.size 24 #[.string ⟨#[]⟩, .slice none 0 0] := (h7 _ h.res.lt (ownNeBlk h.ent h.res (by decide))).trans h.res
  have o7 := own_keep (w' := w7) hr fun k hk hl => h7 k hl (fun e => own_types h.ent hr (by decide) e hk)
  have hf : ∀ k, k ≠ q → (w7.setCell ⟨q, 1, none⟩ v).heap[k]? = w7.heap[k]? := fun k hk => Below.heap_setCell _ _ _ _ hk
  have hb := k7.set_ 1 v
  have hq := h.qlo
  refine ⟨(hf _ (by omega)).trans r7, ⟨c, own_keep o7 fun k hk _ => hf k (fun e => ownNeBlk o7 k7 (by decide) (by rw [hk, e]))⟩, by simpa using hb, ?_, hq, (h.below.grown hg h.below.size (fun k hk => (own_lt h.ent hk).1)).setCell (p := ⟨q, 1, none⟩) (Nat.le_of_lt hq) _⟩
  rw [flatE_more, List.length_append]
  exact own_keep hown fun k hk _ => hf k (fun e => ownNeBlk hown k7 (by decide) (by rw [hk, e]))
end
/-- what the document's reader tells -/
def BunOfRes (w : World) (s : ByteArray) (e : Ending) (w' : World) : Prop := Below w.heap.size w w' ∧
  ((∃ b ls v, IsOf (bts s) b ls ∧ e = .returned (.tuple #[.agg #[.string b.tag, v], .bool true]) ∧ w'.ownsRow w.heap.size 62 2 v b.ents.length (flatE b.ents)) ∨
   ((∀ b ls, ¬ IsOf (bts s) b ls) ∧ e = .returned (.tuple #[.agg #[.string ⟨#[]⟩, .slice none 0 0], .bool false])))
theorem none_isof {s : List UInt8} (h : bundleR s = none) : ∀ b ls, ¬ IsOf s b ls := fun b ls hs => by
  have := (bundleR_iff s b).2 ⟨ls, hs⟩
  rw [h] at this; cases this
theorem headIs_str (l : List UInt8) (c : UInt8) : headIs (str l) c = (match l with | x :: _ => x == c | [] => false) := rfl
theorem str_empty (l : List UInt8) : (str l).toList.isEmpty = decide (l = []) := by
  rw [str_list]; cases l <;> simp
theorem entR_no {p : List UInt8} (h : 61 ∉ p) : entR p = none := if_neg h
theorem entR_bad {p : List UInt8} (h1 : 61 ∈ p) (h2 : escL (bareL (valL p)) ≠ valL p) : entR p = none := by unfold entR; rw [if_pos h1, if_neg h2]
theorem entR_ok {p : List UInt8} (h1 : 61 ∈ p) (h2 : escL (bareL (valL p)) = valL p) : entR p = some (entQ p) := by unfold entR; rw [if_pos h1, if_pos h2]
theorem ents_step {L : List (List UInt8)} {k : Nat} {es : List Ent} (h : entsR (midL L k) = some es) (hk : k + 1 < L.length) :
    (skipL L[k + 1] = true → entsR (midL L (k + 1)) = some es) ∧ (skipL L[k + 1] = false → ∀ e, entR L[k + 1] = some e → entsR (midL L (k + 1)) = some (es ++ [e])) ∧
    (skipL L[k + 1] = false → entR L[k + 1] = none → ∀ m, k + 1 ≤ m → entsR (midL L m) = none) := by
  have e1 := midL_succ L k hk
  refine ⟨fun hs => ?_, fun hs e he => ?_, fun hs he m hm => ?_⟩
  · rw [e1, entsR_append, h, entsR_cons, if_pos hs]; simp [entsR]
  · rw [e1, entsR_append, h, entsR_cons, if_neg (by rw [hs]; decide), he]; simp [entsR]
  · obtain ⟨r, hr⟩ := midL_more L (k + 1) m hm
    rw [hr, entsR_append, e1, entsR_append, h, entsR_cons, if_neg (by rw [hs]; decide), he]; rfl
theorem head_skip {p : List UInt8} (h : p ≠ []) : headIs (str p) 33 = skipL p := by
  cases p with
  | nil => exact absurd rfl h
  | cons c r => rw [headIs_str]; unfold skipL; by_cases hc : c = 33 <;> simp [hc]
theorem str_drop (l : List UInt8) (k : Nat) (hk : k ≤ l.length) : (str l).extract k l.length = str (l.drop k) := by
  apply bts_inj
  show ((str l).extract k l.length).data.toList = l.drop k
  rw [← ByteArray.toList_eq, Lib.extract_toList]
  show (l.drop k).take (l.length - k) = l.drop k
  rw [List.take_of_length_le (by rw [List.length_drop]; exact Nat.le_refl _)]
theorem cut1_piece (c : UInt8) : ∀ (l x : List UInt8), x ∈ cut1 c l → x.length ≤ l.length
  | [], x, h => by simp [cut1] at h; rw [h]; exact Nat.le_refl _
  | b :: l, x, h => by
    unfold cut1 at h
    split at h
    · rcases List.mem_cons.1 h with rfl | h
      · exact Nat.zero_le _
      · have := cut1_piece c l x h; rw [List.length_cons]; omega
    · rcases List.mem_cons.1 h with rfl | h
      · have := cut1_piece c l _ (by rw [← cut1_cons c l]; exact List.mem_cons_self)
        rw [List.length_cons, List.length_cons]; omega
      · have := cut1_piece c l x (List.mem_of_mem_tail h)
        rw [List.length_cons]; omega
theorem ents_each {s : List UInt8} {k : Nat} {es : List Ent} (h : entsR (midL (cut1 10 s) k) = some es) : es.length ≤ (cut1 10 s).length ∧ ∀ e ∈ es, e.key.size ≤ s.length ∧ e.text.size ≤ s.length := by
  have h2 := (entsR_some h).2
  unfold entsP at h2
  rw [if_pos rfl, List.append_nil] at h2
  have hin : ∀ p ∈ midL (cut1 10 s) k, p ∈ cut1 10 s := fun p hp => List.mem_of_mem_drop (List.mem_of_mem_take hp)
  constructor
  · rw [h2, List.length_map]
    have h3 := List.length_filter_le (fun p => !skipL p) (midL (cut1 10 s) k)
    have h4 : (midL (cut1 10 s) k).length ≤ (cut1 10 s).length := by unfold midL; rw [List.length_take, List.length_drop]; omega
    omega
  · intro e he
    rw [h2] at he
    obtain ⟨p, hp, rfl⟩ := List.mem_map.1 he
    have h5 := cut1_piece 10 s p (hin p (List.mem_filter.1 hp).1)
    unfold entQ
    dsimp only
    rw [str_size, str_size]
    have h3 := keyL_le p
    have h4 := bareL_le _ _ (Nat.le_refl (valL p).length)
    have h6 := valL_le p
    omega
theorem BSt.pushed {w0 wr W w4 : World} {g q : Nat} {ls : List ByteArray} {tg : ByteArray} {es : List Ent} {u v : Value} {e : Ent} (h : BSt w0 g ls q tg es wr u) (hb : Below wr.heap.size wr W) (hg : W.grownBy w4 u.ownBlock)
    (hown : w4.ownsRow w0.heap.size 62 2 v (es.length + 1) (flatE es ++ entCells e)) : BSt w0 g ls q tg (es ++ [e]) (w4.setCell ⟨q, 1, none⟩ v) v ∧ w4.cell? ⟨q, 1, none⟩ = some u ∧ w4.frozen? ⟨q, 1, none⟩ = false := by
  have hW := h.keep hb
  have q0 := blk_grown hW.box hg (fun e => ownNeBlk hW.ent hW.box (by decide) e.symm)
  exact ⟨hW.push hg hown, (q0.cell 1).trans rfl, q0.frozen 1⟩
theorem BSt.out {w0 wr : World} {g q : Nat} {ls : List ByteArray} {tg : ByteArray} {es : List Ent} {u : Value} {s : ByteArray} (h : BSt w0 g ls q tg es wr u) (hn : bundleR (bts s) = none) :
    BunOfRes w0 s (.returned (.tuple #[.agg #[.string ⟨#[]⟩, .slice none 0 0], .bool false])) ((wr.setCell ⟨w0.heap.size, 0, none⟩ (.string ⟨#[]⟩)).setCell ⟨w0.heap.size, 1, none⟩ (.slice none 0 0)) :=
  ⟨(h.below.setCell (p := ⟨w0.heap.size, 0, none⟩) (Nat.le_refl _) _).setCell (p := ⟨w0.heap.size, 1, none⟩) (Nat.le_refl _) _, .inr ⟨none_isof hn, rfl⟩⟩
set_option maxRecDepth 100000 in
set_option maxHeartbeats 6400000 in
theorem bundleof_any (s : ByteArray) (w : World) (hs : s.size ≤ 100000000) :
    Calls Tryz.prog 17 #[.string s] w (BunOfRes w s) := by
  obtain ⟨W1, hW1⟩ : ∃ W1, W1 = w.alloc (.cells #[.string ⟨#[]⟩, .slice none 0 0] 24) := ⟨_, rfl⟩
  have k1 : Blk W1 w.heap.size 24 #[.string ⟨#[]⟩, .slice none 0 0] := by rw [hW1]; exact Blk.new _ _ _
  have hb1 : Below w.heap.size w W1 := by rw [hW1]; exact (Below.refl _ _).alloc (Nat.le_refl _) _
  have hs1 : W1.heap.size = w.heap.size + 1 := by rw [hW1]; simp
  have HCt := Lib.hid (cut_any s 10 W1 (by omega))
  rw [splitS_one] at HCt
  obtain ⟨L, hL⟩ : ∃ L, L = cut1 10 (bts s) := ⟨_, rfl⟩
  rw [← hL] at HCt
  have HL := Lib.hid hL
  have hLne : 0 < L.length := by rw [hL]; exact List.length_pos_iff.2 (cut1_ne 10 _)
  have HW1 := Lib.hid hW1
  have HK1 := Lib.hid k1
  have HB1 := Lib.hid hb1
  clear hL hW1 k1 hb1
  go_enter Tryz.func17, Tryz.ntmps17
  go_upto_region 1 with fail
  rw [← HW1.out]
  go_wp2_with fail
  refine HCt.out.mono ?_
  clear HCt HW1
  rintro e w2 ⟨v, rfl, hrow, hlen, hb2⟩
  rw [List.length_map] at hlen
  have hl0 : 0 < (L.map str).length := by rw [List.length_map]; exact hLne
  obtain ⟨g, c, rfl, hg1, hgl, hx0, _⟩ := ownAt1 hrow 0 (.string (L.map str)[0]) (by rw [List.getElem?_map, List.getElem?_eq_getElem hl0]; rfl)
  have hln : ∀ i (hi : i < L.length), w2.cell? ⟨g, i, none⟩ = some (.string (str L[i])) := fun i hi => by
    obtain ⟨g', c', hA, _, _, x, _⟩ := ownAt1 hrow i (.string (str L[i])) (by rw [List.getElem?_map, List.getElem?_map, List.getElem?_eq_getElem hi]; rfl)
    injection hA with hA; injection hA with hA; injection hA with hA
    subst hA; exact x
  have k2 := HK1.out.below hb2 (by omega)
  have hbw : Below w.heap.size w w2 := HB1.out.trans (hb2.mono (by omega))
  have r0 := (k2.cell 0).trans (show _ = some (.string ⟨#[]⟩) from rfl)
  have r1 := (k2.cell 1).trans (show _ = some (.slice none 0 0) from rfl)
  have f0 := k2.frozen 0
  have f1 := k2.frozen 1
  have HBw := Lib.hid hbw
  have HK2 := Lib.hid k2
  have HRow := Lib.hid hrow
  have HOut : Hid (bundleR (bts s) = none → BunOfRes w s (.returned (.tuple #[.agg #[.string ⟨#[]⟩, .slice none 0 0], .bool false])) ((w2.setCell ⟨w.heap.size, 0, none⟩ (.string ⟨#[]⟩)).setCell ⟨w.heap.size, 1, none⟩ (.slice none 0 0))) := Lib.hid fun h =>
    ⟨(hbw.setCell (p := ⟨w.heap.size, 0, none⟩) (Nat.le_refl _) _).setCell (p := ⟨w.heap.size, 1, none⟩) (Nat.le_refl _) _, .inr ⟨none_isof h, rfl⟩⟩
  rw [List.length_map] at hrow ⊢
  clear hx0
  clear hrow hbw k2 hb2 hl0
  by_cases hn2 : L.length < 2
  · have hd : decide ((L.length : Int) < 2) = true := decide_eq_true (by omega)
    have HN := Lib.hid (HOut.out (bunR_short (by rw [← HL.out]; exact hn2)))
    clear HOut
    go_wp2_with fail
    refine bodyPost_ret (v := .tuple #[.agg #[.string ⟨#[]⟩, .slice none 0 0], .bool false]) ?_ rfl HN.out
    simp [results, Tryz.results17, go_sem, r0, r1, f0, f1]
    try rfl
  · have hd : decide ((L.length : Int) < 2) = false := decide_eq_false (by omega)
    have hq0 : (0 : Int) ≤ (L.length : Int) - 1 := by omega
    have hq1 : (L.length : Int) - 1 < (L.length : Int) := by omega
    have hq2 : ((L.length : Int) - 1).toNat = L.length - 1 := by omega
    have x0 := hln 0 hLne
    have xn := hln (L.length - 1) (by omega)
    have HLn := Lib.hid hln
    clear hln
    by_cases hlast : L[L.length - 1] = []
    · have he : (str L[L.length - 1]).toList.isEmpty = true := by rw [str_empty]; exact decide_eq_true hlast
      have HSt := Lib.hid (starts_any (str L[0]) 64 w2)
      by_cases hh : ∃ t, L[0] = 64 :: t
      · obtain ⟨t, ht⟩ := hh
        rw [ht] at x0 HSt
        have hhd : headIs (str (64 :: t)) 64 = true := rfl
        rw [hhd] at HSt
        have HAt := Lib.hid (bunR_at (s := bts s) (t := t) (by rw [← HL.out]; omega) (by simpa only [← HL.out] using ht) (by simpa only [← HL.out] using hlast))
        rw [← HL.out] at HAt
        have hex : (str (64 :: t)).extract 1 (64 :: t).length = str t := str_drop (64 :: t) 1 (by simp)
        have hsz : (str (64 :: t)).size = (64 :: t).length := str_size _
        have hsz2 : (str (64 :: t)).size = t.length + 1 := by rw [hsz, List.length_cons]
        have HQ0 : Hid (BSt w g (L.map str) w2.heap.size (str t) [] (w2.alloc (.cells #[.string (str t), .slice none 0 0] 24)) (.slice none 0 0)) := Lib.hid (by
          have hbA : Below w2.heap.size w2 (w2.alloc (.cells #[.string (str t), .slice none 0 0] 24)) := (Below.refl _ _).alloc (Nat.le_refl _) _
          refine ⟨HK2.out.below hbA HK2.out.lt, ⟨c, ?_⟩, Blk.new _ _ _, own_nil, HK2.out.lt, HBw.out.trans (hbA.mono HBw.out.size)⟩
          have h := own_below HRow.out hbA (Nat.le_refl _)
          rw [hs1] at h
          exact h)
        clear hhd hlast
        go_wp2_with fail
        refine HSt.out.mono ?_
        clear HSt
        rintro e w3 ⟨rfl, rfl⟩
        go_wp2_with fail
        have hex2 : (str (64 :: t)).extract 1 (t.length + 1) = str t := by rw [← hex]; rfl
        simp only [hex2]
        clear hex hex2 hsz hsz2 r0 r1 f0 f1 x0 xn he HOut
        go_loopw [6] (fun ix wr => ∃ (k : Nat) (es : List Ent) (u : Value), k + 2 ≤ L.length ∧ ix = .int .i64 ((k + 1 : Nat) : Int) ∧ BSt w g (L.map str) w2.heap.size (str t) es wr u ∧ Hid (entsR (midL L k) = some es)) (fun ix _ => L.length - (intOf ix).toNat)
        case atStart => exact ⟨0, [], _, by omega, rfl, HQ0.out, Lib.hid rfl⟩
        case round =>
          clear HQ0
          obtain ⟨k, es, u, hk, rfl, hst, HEs⟩ := hrel
          have HS := Lib.hid hst
          have hsz := hst.below.size
          have hqlo := hst.qlo
          obtain ⟨Au, cu, rfl, _⟩ := own_slice hst.ent
          obtain ⟨hel, hee⟩ := ents_each (s := bts s) (k := k) (es := es) (by rw [← HL.out]; exact HEs.out)
          rw [← HL.out] at hel
          rw [bts_len] at hee
          have HEe := Lib.hid hee
          clear hee
          by_cases hlt : k + 2 < L.length
          · have hx : wr.cell? ⟨g, k + 1, none⟩ = some (.string (str L[k + 1])) := by
              have h := hst.line (k + 1) (by rw [List.length_map]; omega)
              rwa [List.getElem_map] at h
            have hpz : L[k + 1].length ≤ s.size := by
              have h := cut1_piece 10 (bts s) L[k + 1] (by rw [← HL.out]; exact List.getElem_mem (by omega))
              rwa [bts_len] at h
            obtain ⟨st1, st2, st3⟩ := ents_step HEs.out (by omega)
            have HS1 := Lib.hid st1
            have HS2 := Lib.hid st2
            have HS3 := Lib.hid st3
            have i1 : (k : Int) + 1 < (L.length : Int) - 1 := by omega
            have i2 : decide ((k : Int) + 1 < (L.length : Int) - 1) = true := decide_eq_true i1
            have i3 : (k : Int) + 1 < (L.length : Int) := by omega
            have i4 : (0 : Int) ≤ (k : Int) + 1 := by omega
            generalize L[k + 1] = p at *
            clear st1 st2 st3 hst
            by_cases hp0 : p = []
            · subst hp0
              have he0 : (str []).toList.isEmpty = true := by rw [str_empty]; rfl
              have HNx := Lib.hid (HS1.out rfl)
              clear HS1 HS2 HS3
              go_wp2_with fail
              exact ⟨⟨k + 1, es, _, by omega, by go_num, HS.out, HNx⟩, by simp [intOf]; omega⟩
            · have he0 : (str p).toList.isEmpty = false := by rw [str_empty]; exact decide_eq_false hp0
              have HSt2 := Lib.hid (starts_any (str p) 33 wr)
              rw [head_skip hp0] at HSt2
              clear hp0
              cases hsk : skipL p with
              | true =>
                have HNx := Lib.hid (HS1.out hsk)
                rw [hsk] at HSt2
                clear HS1 HS2 HS3 hsk
                go_wp2_with fail
                refine HSt2.out.mono ?_
                clear HSt2
                rintro e w5 ⟨rfl, rfl⟩
                go_wp2_with fail
                exact ⟨⟨k + 1, es, _, by omega, by go_num, HS.out, HNx⟩, by simp [intOf]; omega⟩
              | false =>
                have HN2 := Lib.hid (HS2.out hsk)
                have HN3 : Hid (entR p = none → bundleR (bts s) = none) := Lib.hid fun h => by
                  rw [HAt.out, HS3.out hsk h _ (by omega)]
                rw [hsk] at HSt2
                clear HS1 HS2 HS3 hsk
                have HCt := Lib.hid (cut_any (str p) 61 wr (by rw [str_size]; omega))
                rw [splitS_one, bts_str] at HCt
                obtain ⟨ck1, ck2⟩ := cut1_key p
                have hcne := List.length_pos_iff.2 (cut1_ne 61 p)
                go_wp2_with fail
                refine HSt2.out.mono ?_
                clear HSt2
                rintro e w5 ⟨rfl, rfl⟩
                go_wp2_with fail
                refine HCt.out.mono ?_
                clear HCt
                rintro e w7 ⟨v7, rfl, hrow7, hlen7, hb7⟩
                have HS7 := Lib.hid (HS.out.keep hb7)
                have hx7 : w7.cell? ⟨g, k + 1, none⟩ = some (.string (str p)) := by
                  obtain ⟨cg, hrg⟩ := HS.out.row
                  have hml : 0 < (L.map str).length := by rw [List.length_map]; exact hLne
                  obtain ⟨g', c', hA, _, hgl', _, _⟩ := ownAt1 hrg 0 (.string (L.map str)[0]) (by rw [List.getElem?_map, List.getElem?_eq_getElem hml]; rfl)
                  injection hA with hA; injection hA with hA; injection hA with hA
                  subst hA
                  exact (hb7.cell (p := ⟨g, k + 1, none⟩) hgl').trans hx
                have hk7 : ∃ g7 c7, v7 = .slice (some ⟨g7, 0, none⟩) (cut1 61 p).length c7 ∧ w7.cell? ⟨g7, 0, none⟩ = some (.string (str (keyL p))) := by
                  have e0 : ((cut1 61 p).map str)[0]? = some (str (keyL p)) := by
                    rw [List.getElem?_map, ← ck1]
                    cases hc : cut1 61 p with
                    | nil => exact absurd hc (cut1_ne 61 p)
                    | cons a b => rfl
                  obtain ⟨g7, c7, hA, _, _, x, _⟩ := ownAt1 hrow7 0 (.string (str (keyL p))) (by rw [List.getElem?_map, e0]; rfl)
                  rw [List.length_map] at hA
                  exact ⟨g7, c7, hA, x⟩
                obtain ⟨g7, c7, rfl, y0⟩ := hk7
                have hb7s := HS7.out.below.size
                clear hrow7 hlen7 hb7 HS hx
                by_cases h61 : 61 ∈ p
                · have hl2 : 2 ≤ (cut1 61 p).length := ck2.2 h61
                  have hd2 : decide (((cut1 61 p).length : Int) < 2) = false := decide_eq_false (by omega)
                  have hkl : (keyL p).length + 1 ≤ p.length := by
                    have := congrArg List.length (key_back h61)
                    rw [List.length_append, List.length_cons] at this; omega
                  have hxt : (str p).extract ((keyL p).length + 1) p.length = str (valL p) := by rw [str_drop p _ hkl, val_drop h61]
                  have hks : (str (keyL p)).size = (keyL p).length := str_size _
                  have hps : (str p).size = p.length := str_size _
                  have hvl := valL_le p
                  have HBa : Hid (∀ W, Calls Tryz.prog 42 #[.string (str (valL p))] W fun e w' => e = .returned (bareF (str (valL p))) ∧ W = w') := Lib.hid fun W => qbare_any (str (valL p)) W (by rw [str_size]; omega)
                  obtain ⟨bt, ok, hbf, hok1, hok2⟩ := bareF_ex (str (valL p))
                  rw [bts_str] at hok1 hok2
                  rw [hbf] at HBa
                  have HOk1 := Lib.hid hok1
                  have HOk2 := Lib.hid hok2
                  have H61 := Lib.hid h61
                  clear hbf hok1 hok2 h61 ck1 ck2
                  generalize (cut1 61 p).length = n7 at *
                  have j1 : (0 : Int) < (n7 : Int) := by omega
                  have j2 : ((keyL p).length : Int) + 1 ≤ (p.length : Int) := by omega
                  have j3 : (0 : Int) ≤ ((keyL p).length : Int) + 1 := by omega
                  generalize (keyL p).length = kl at *
                  generalize p.length = pl at *
                  cases ok with
                  | false =>
                    have HN : Hid (∀ n, BunOfRes w s (.returned (.tuple #[.agg #[.string ⟨#[]⟩, .slice none 0 0], .bool false])) (((w7.drewN n).setCell ⟨w.heap.size, 0, none⟩ (.string ⟨#[]⟩)).setCell ⟨w.heap.size, 1, none⟩ (.slice none 0 0))) := Lib.hid fun n =>
                      (HS7.out.keep (below_drewN (Below.refl _ _) n)).out (HN3.out (entR_bad H61.out fun h => by have := HOk1.out.2 h; cases this))
                    have r0 := (HS7.out.res.cell 0).trans (show _ = some (.string ⟨#[]⟩) from rfl)
                    have r1 := (HS7.out.res.cell 1).trans (show _ = some (.slice none 0 0) from rfl)
                    have f0 := HS7.out.res.frozen 0
                    have f1 := HS7.out.res.frozen 1
                    clear HN2 HN3 HOk1 HOk2
                    go_wp2_with fail
                    go_quiet ((go_at_call 42; first | exact quiet_left (HBa.out _) | exact quiet_add_left (HBa.out _)))
                    go_wp2_with fail
                    refine bodyPost_ret (v := .tuple #[.agg #[.string ⟨#[]⟩, .slice none 0 0], .bool false]) ?_ rfl (HN.out _)
                    simp [results, Tryz.results17, go_sem, r0, r1, f0, f1]
                    try rfl
                  | true =>
                    have hbt := HOk2.out rfl
                    have HNx := Lib.hid (HN2.out _ (entR_ok H61.out (HOk1.out.1 rfl)))
                    have HEq : Hid (entQ p = ⟨str (keyL p), bt⟩) := Lib.hid (by rw [hbt]; rfl)
                    rw [HEq.out] at HNx
                    generalize str (keyL p) = ky at *
                    have b1 : w7.cell? ⟨w2.heap.size, 1, none⟩ = some (.slice Au es.length cu) := (HS7.out.box.cell 1).trans rfl
                    have b7 : ∀ (n : Nat) (o : Obj), ((w7.drewN n).alloc o).cell? ⟨w2.heap.size, 1, none⟩ = some (.slice Au es.length cu) := fun n o => (((HS7.out.box.drewN n).alloc o).cell 1).trans rfl
                    have hg7 : g7 < w7.heap.size := by
                      rcases Nat.lt_or_ge g7 w7.heap.size with h | h
                      · exact h
                      · unfold World.cell? at y0; rw [Array.getElem?_eq_none h] at y0; cases y0
                    have y7 : ∀ (n : Nat) (o : Obj), ((w7.drewN n).alloc o).cell? ⟨g7, 0, none⟩ = some (.string ky) := fun n o => (((below_drewN (Below.refl w7.heap.size w7) n).alloc (by simp) o).cell (p := ⟨g7, 0, none⟩) hg7).trans y0
                    have HnX : Hid (∀ (W : World) (q : Nat) (x : Value), ([Value.string ky, .string bt] : List Value)[q]? = some x → (W.alloc (.cells #[.string ky, .string bt] 62)).cell? ⟨W.heap.size, 0 + q, none⟩ = some x) := Lib.hid fun W q x hq => by
                      rw [Nat.zero_add, (Blk.new W 62 #[.string ky, .string bt]).cell q]; simpa using hq
                    clear HN2 HN3 HOk1 HOk2 H61 HEq hbt HAt
                    go_wp2_with fail
                    go_quiet ((go_at_call 42; first | exact quiet_left (HBa.out _) | exact quiet_add_left (HBa.out _)))
                    go_wp2_with fail
                    go_region_law
                      ((refine step_append_any (by rfl) _ _ 22 (by rfl) w.heap.size 62 Tryz.underlying22 info_ent rfl (by decide) (flatE es) (by rfl) (own_below HS7.out.ent (by repeat (first | exact Below.refl _ _ | refine Below.drew ?_ | refine below_drewN ?_ _ | refine Below.alloc ?_ (by simp) _)) (Nat.le_refl _)) [Value.string ky, Value.string bt] (by rfl) (by rfl) (.inr ⟨_, _, rfl, HnX.out _⟩) (by simp [Value.oneCell']) (by unfold maxLen; omega) (by omega) (by simp; omega) ?_
                        intro v4 w4 hown4 hgrow4
                        obtain ⟨d8, c1, f1⟩ := HS7.out.pushed (e := ⟨ky, bt⟩) (by repeat (first | exact Below.refl _ _ | refine Below.drew ?_ | refine below_drewN ?_ _ | refine Below.alloc ?_ (by simp) _)) hgrow4 hown4
                        have D8 := Lib.hid d8
                        obtain ⟨A4, c4, hv4, _⟩ := own_slice hown4
                        have hv5 : v4 = .slice A4 (es.length + 1) c4 := by rw [hv4]
                        subst hv5
                        clear d8 hown4 hgrow4 hv4))
                    all_goals
                      go_wp2_with fail
                      exact ⟨⟨k + 1, _, _, by omega, by go_num, D8.out, HNx⟩, by simp [intOf]; omega⟩
                · have hl2 : (cut1 61 p).length < 2 := by
                    rcases Nat.lt_or_ge (cut1 61 p).length 2 with h | h
                    · exact h
                    · exact absurd (ck2.1 h) h61
                  have hd2 : decide (((cut1 61 p).length : Int) < 2) = true := decide_eq_true (by omega)
                  have HN := Lib.hid (HS7.out.out (s := s) (HN3.out (entR_no h61)))
                  have r0 := (HS7.out.res.cell 0).trans (show _ = some (.string ⟨#[]⟩) from rfl)
                  have r1 := (HS7.out.res.cell 1).trans (show _ = some (.slice none 0 0) from rfl)
                  have f0 := HS7.out.res.frozen 0
                  have f1 := HS7.out.res.frozen 1
                  clear ck1 ck2 h61 HN2 HN3 hx7 y0
                  generalize (cut1 61 p).length = n7 at *
                  go_wp2_with fail
                  refine bodyPost_ret (v := .tuple #[.agg #[.string ⟨#[]⟩, .slice none 0 0], .bool false]) ?_ rfl HN.out
                  simp [results, Tryz.results17, go_sem, r0, r1, f0, f1]
                  try rfl
          · have hkn : k = L.length - 2 := by omega
            have i2 : decide ((k : Int) + 1 < (L.length : Int) - 1) = false := decide_eq_false (by omega)
            have htl : (str t).size ≤ s.size := by
              have h1 := cut1_piece 10 (bts s) L[0] (by rw [← HL.out]; exact List.getElem_mem hLne)
              rw [ht, bts_len, List.length_cons] at h1
              rw [str_size]; omega
            have hbi : BunIn wr ⟨str t, es⟩ (.slice Au es.length cu) := ⟨⟨_, ents_of_own hst.ent (Nat.le_refl _) (Nat.le_refl _)⟩, by show (str t).size < _; omega, by show es.length ≤ _; omega, fun e he => by have := HEe.out e he; omega⟩
            have HBf := Lib.hid (qbunfault_any ⟨str t, es⟩ (.slice Au es.length cu) wr hbi)
            have hAt2 : bundleR (bts s) = if bunFault ⟨str t, es⟩ = 0 then some ⟨str t, es⟩ else none := by
              have h := HEs.out
              rw [hkn] at h
              rw [HAt.out, h]
            have HA2 := Lib.hid hAt2
            have c0 := (hst.box.cell 0).trans (show _ = some (.string (str t)) from rfl)
            have c1 := (hst.box.cell 1).trans (show _ = some (.slice Au es.length cu) from rfl)
            clear hst hbi hAt2 HEs HEe htl ht
            go_wp2_with fail
            refine HBf.out.mono ?_
            clear HBf
            rintro e w5 ⟨rfl, hb5⟩
            have HS5 := Lib.hid (HS.out.keep hb5)
            have d0 := (HS5.out.box.cell 0).trans (show _ = some (.string (str t)) from rfl)
            have d1 := (HS5.out.box.cell 1).trans (show _ = some (.slice Au es.length cu) from rfl)
            have r0 := (HS5.out.res.cell 0).trans (show _ = some (.string ⟨#[]⟩) from rfl)
            have r1 := (HS5.out.res.cell 1).trans (show _ = some (.slice none 0 0) from rfl)
            have f0 := HS5.out.res.frozen 0
            have f1 := HS5.out.res.frozen 1
            clear c0 c1 hb5 HS
            by_cases hf : bunFault ⟨str t, es⟩ = 0
            · obtain ⟨ls, hIs⟩ := (bundleR_iff (bts s) ⟨str t, es⟩).1 (by rw [HA2.out, if_pos hf])
              have HIs := Lib.hid hIs
              rw [hf]
              clear hIs hf HA2
              go_wp2_with fail
              refine bodyPost_ret (v := .tuple #[.agg #[.string (str t), .slice Au es.length cu], .bool true]) ?_ rfl ?_
              · simp [results, Tryz.results17, go_sem, r0, r1, f0, f1]
                try rfl
              · refine ⟨(HS5.out.below.setCell (p := ⟨w.heap.size, 0, none⟩) (Nat.le_refl _) _).setCell (p := ⟨w.heap.size, 1, none⟩) (Nat.le_refl _) _, .inl ⟨⟨str t, es⟩, ls, _, HIs.out, rfl, ?_⟩⟩
                refine own_keep HS5.out.ent fun k2 hk2 _ => ?_
                have hne : k2 ≠ w.heap.size := fun e => ownNeBlk HS5.out.ent HS5.out.res (by decide) (by rw [hk2, e])
                rw [Below.heap_setCell _ _ _ _ hne, Below.heap_setCell _ _ _ _ hne]
            · have HN := Lib.hid (HS5.out.out (s := s) (by rw [HA2.out, if_neg hf]))
              have hfn : (bunFault ⟨str t, es⟩ == 0) = false := by rw [beq_eq_false_iff_ne]; exact hf
              clear HA2
              generalize bunFault ⟨str t, es⟩ = F at *
              clear hf
              go_wp2_with fail
              refine bodyPost_ret (v := .tuple #[.agg #[.string ⟨#[]⟩, .slice none 0 0], .bool false]) ?_ rfl HN.out
              simp [results, Tryz.results17, go_sem, r0, r1, f0, f1]
              try rfl
      · have hhd : headIs (str L[0]) 64 = false := by
          rw [headIs_str]
          cases hc : L[0] with
          | nil => rfl
          | cons x t =>
            by_cases hx : x = 64
            · exact absurd ⟨t, by rw [hc, hx]⟩ hh
            · simp [hx]
        rw [hhd] at HSt
        have HN := Lib.hid (HOut.out (bunR_head (by rw [← HL.out]; omega) (by simpa only [← HL.out] using fun t ht => hh ⟨t, ht⟩)))
        clear HOut hlast hhd hh
        go_wp2_with fail
        refine HSt.out.mono ?_
        clear HSt
        rintro e w3 ⟨rfl, rfl⟩
        go_wp2_with fail
        refine bodyPost_ret (v := .tuple #[.agg #[.string ⟨#[]⟩, .slice none 0 0], .bool false]) ?_ rfl HN.out
        simp [results, Tryz.results17, go_sem, r0, r1, f0, f1]
        try rfl
    · have he : (str L[L.length - 1]).toList.isEmpty = false := by rw [str_empty]; exact decide_eq_false hlast
      have HN := Lib.hid (HOut.out (bunR_tail (by rw [← HL.out]; omega) (by simpa only [← HL.out] using hlast)))
      clear HOut hlast
      go_wp2_with fail
      refine bodyPost_ret (v := .tuple #[.agg #[.string ⟨#[]⟩, .slice none 0 0], .bool false]) ?_ rfl HN.out
      simp [results, Tryz.results17, go_sem, r0, r1, f0, f1]
      try rfl
end Go.Proofs.YtoneheloojlifaaGreatDoor
