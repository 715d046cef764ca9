/- The walk of prop.Parse. -/
import Derived.Test.YtoneheloojlifaaGreatDoorSplitA
import Derived.Test.YtoneheloojlifaaGreatDoorPText
import Derived.Test.YtoneheloojlifaaGreatDoorBunRow
namespace Go.Proofs.YtoneheloojlifaaGreatDoor
open Go.RowKit

theorem flatE_more (es : List Ent) (e : Ent) : flatE (es ++ [e]) = flatE es ++ entCells e := by simp [flatE]
/-- what prop.Parse holds while it reads -/
structure PSt (w0 : World) (ls : Array Value) (tg : ByteArray) (es : List Ent) (kp : List UInt8) (wr : World) (u : Value) (r : Option Nat) : Prop where
  res : Blk wr w0.heap.size 24 #[.string ⟨#[]⟩, .slice none 0 0]
  box : Blk wr (w0.heap.size + 1) 24 #[.string tg, u]
  row : wr.ownsRow w0.heap.size 62 2 u es.length (flatE es)
  bld : BldR w0.heap.size (w0.heap.size + 2) kp wr r
  lns : Blk wr (w0.heap.size + 3) 9 ls
  below : Below w0.heap.size w0 wr
theorem BldR.kblk {B k : Nat} {l : List UInt8} {w : World} {r : Option Nat} (h : BldR B k l w r) : ∃ cs, Blk w k 55 cs := by
  obtain ⟨p, v, _, _, hh, _⟩ := h
  exact ⟨_, hh⟩
theorem BldR.r_ne {B k g : Nat} {l : List UInt8} {w : World} {r : Option Nat} {t : TypeId} {cs : Array Value} (h : BldR B k l w r) (hb : Blk w g t cs) (hne : 5 ≠ t) : r ≠ some g := by
  obtain ⟨p, v, _, _, _, ho, _, rfl⟩ := h
  exact ownNeBlk ho hb hne
theorem BldR.r_own {B k n : Nat} {l : List UInt8} {w : World} {r : Option Nat} {base : Nat} {e : TypeId} {size : Nat} {u : Value} {xs : List Value} (h : BldR B k l w r) (ho : w.ownsRow base e size u n xs) (hne : e ≠ 5) : ∀ g, u.ownBlock = some g → r ≠ some g := by
  obtain ⟨p, v, _, _, _, ho', _, rfl⟩ := h
  intro g hg
  exact own_types ho ho' hne hg
section
variable {w0 wr W : World} {ls : Array Value} {tg : ByteArray} {es : List Ent} {kp : List UInt8} {u : Value} {r : Option Nat}
theorem PSt.size (h : PSt w0 ls tg es kp wr u r) : w0.heap.size + 3 < wr.heap.size := h.lns.lt
theorem PSt.keep (h : PSt w0 ls tg es kp wr u r) (hb : Below wr.heap.size wr W) : PSt w0 ls tg es kp W u r :=
  ⟨h.res.below hb h.res.lt, h.box.below hb h.box.lt, own_below h.row hb (Nat.le_refl _), h.bld.far (hb.block _ h.bld.lt.2.1) (fun g hg => hb.block g (h.bld.lt.2.2 g hg).2), h.lns.below hb h.lns.lt, h.below.trans (hb.mono h.below.size)⟩
theorem PSt.setTag (h : PSt w0 ls tg es kp wr u r) (t : ByteArray) : PSt w0 ls t es kp (wr.setCell ⟨w0.heap.size + 1, 0, none⟩ (.string t)) u r := by
  have hf : ∀ g, g ≠ w0.heap.size + 1 → (wr.setCell ⟨w0.heap.size + 1, 0, none⟩ (.string t)).heap[g]? = wr.heap[g]? := fun g hg => Below.heap_setCell _ _ _ _ hg
  have hb := h.box.set_ 0 (.string t)
  refine ⟨(hf _ (by omega)).trans h.res, by simpa using hb, own_keep h.row fun g hg _ => hf g (fun e => ownNeBlk h.row h.box (by decide) (by rw [hg, e])), h.bld.far (hf _ (by omega)) (fun g hg => hf g (fun e => h.bld.r_ne h.box (by decide) (by rw [hg, e]))), (hf _ (by omega)).trans h.lns, h.below.setCell (p := ⟨w0.heap.size + 1, 0, none⟩) (Nat.le_succ _) _⟩
theorem PSt.push {w7 : World} {v : Value} {e : Ent} (h : PSt w0 ls tg es kp W u r) (hg : W.grownBy w7 u.ownBlock)
    (hown : w7.ownsRow w0.heap.size 62 2 v (es.length + 1) (flatE es ++ entCells e)) : PSt w0 ls tg (es ++ [e]) kp (w7.setCell ⟨w0.heap.size + 1, 1, none⟩ v) v r := by
  obtain ⟨kc, hk⟩ := h.bld.kblk
  have h7 : ∀ g, g < W.heap.size → u.ownBlock ≠ some g → w7.heap[g]? = W.heap[g]? := fun g hl hn => hg.block g hl (fun e => hn e.symm)
  have hs7 := hg.size
  have k7 : Blk w7 (w0.heap.size + 1) 24 #[.string tg, u] := (h7 _ h.box.lt (ownNeBlk h.row h.box (by decide))).trans h.box
  have hf : ∀ g, g ≠ w0.heap.size + 1 → (w7.setCell ⟨w0.heap.size + 1, 1, none⟩ v).heap[g]? = w7.heap[g]? := fun g hg => Below.heap_setCell _ _ _ _ hg
  have hb := k7.set_ 1 v
  have b7 : BldR w0.heap.size (w0.heap.size + 2) kp w7 r := h.bld.far (h7 _ hk.lt (ownNeBlk h.row hk (by decide))) (fun g hg => h7 g (h.bld.lt.2.2 g hg).2 (fun e => h.bld.r_own h.row (by decide) g e hg))
  have r7 : Blk w7 w0.heap.size 24 #[.string ⟨#[]⟩, .slice none 0 0] := (h7 _ h.res.lt (ownNeBlk h.row h.res (by decide))).trans h.res
  have l7 : Blk w7 (w0.heap.size + 3) 9 ls := (h7 _ h.lns.lt (ownNeBlk h.row h.lns (by decide))).trans h.lns
  refine ⟨(hf _ (by omega)).trans r7, by simpa using hb, ?_, b7.far (hf _ (by omega)) (fun g hg => hf g (fun e => b7.r_ne k7 (by decide) (by rw [hg, e]))), (hf _ (by omega)).trans l7, (h.below.grown hg h.below.size (fun k hk => (own_lt h.row hk).1)).setCell (p := ⟨w0.heap.size + 1, 1, none⟩) (Nat.le_succ _) _⟩
  rw [flatE_more, List.length_append]
  exact own_keep hown fun g hg' _ => hf g (fun e => ownNeBlk hown k7 (by decide) (by rw [hg', e]))
theorem PSt.wrote {w' : World} {x : List UInt8} {r' : Option Nat} (h : PSt w0 ls tg es kp wr u r) (hb : BldR w0.heap.size (w0.heap.size + 2) (kp ++ x) w' r') (hf : Fr wr w' (fun g => g = w0.heap.size + 2 ∨ r = some g)) : PSt w0 ls tg es (kp ++ x) w' u r' := by
  obtain ⟨kc, hk⟩ := h.bld.kblk
  refine ⟨h.res.fr hf (fun hg => hg.elim (fun e => by omega) (h.bld.r_ne h.res (by decide))), h.box.fr hf (fun hg => hg.elim (fun e => by omega) (h.bld.r_ne h.box (by decide))), own_keep h.row fun g hg hl => hf.block g hl (fun hx => hx.elim (fun e => ownNeBlk h.row hk (by decide) (by rw [hg, e])) (h.bld.r_own h.row (by decide) g hg)), hb, h.lns.fr hf (fun hg => hg.elim (fun e => by omega) (h.bld.r_ne h.lns (by decide))), Fr.below h.below hf h.below.size (fun g hg => hg.elim (fun e => by omega) (fun e => (h.bld.lt.2.2 g e).1))⟩
end
/-- what is read of the first i lines -/
def ReadTo (L : List (List UInt8)) (i : Nat) (tg : ByteArray) (es : List Ent) (kp : List UInt8) : Prop :=
  (i = 0 ∧ tg = ⟨#[]⟩ ∧ es = [] ∧ kp = []) ∨ (∃ L0 Ls m, L = L0 :: Ls ∧ i = m + 1 ∧ tg = tagP L0 ∧ es = entsA (Ls.take m) ∧ kp = L0 ++ keptA (Ls.take m))
theorem ReadTo.first {L : List (List UInt8)} (h : 0 < L.length) : ReadTo L 1 (tagP L[0]) [] L[0] := by
  cases L with
  | nil => cases h
  | cons L0 Ls => exact .inr ⟨L0, Ls, 0, rfl, rfl, rfl, rfl, by simp [keptA]⟩
theorem ReadTo.next {L : List (List UInt8)} {i : Nat} {tg : ByteArray} {es : List Ent} {kp : List UInt8} (h : ReadTo L (i + 1) tg es kp) (hi : i + 1 < L.length) :
    (skipA L[i + 1] = true → ReadTo L (i + 1 + 1) tg es kp) ∧ (skipA L[i + 1] = false → emptyA L[i + 1] = true → ReadTo L (i + 1 + 1) tg es (kp ++ L[i + 1])) ∧
    (skipA L[i + 1] = false → emptyA L[i + 1] = false → ReadTo L (i + 1 + 1) tg (es ++ [entA L[i + 1]]) (kp ++ L[i + 1])) := by
  rcases h with ⟨h, _⟩ | ⟨L0, Ls, m, rfl, hm, rfl, rfl, rfl⟩
  · omega
  · obtain rfl : i = m := by omega
    have hil : i < Ls.length := by simpa using hi
    have e : (L0 :: Ls)[i + 1] = Ls[i] := rfl
    have ht : Ls.take (i + 1) = Ls.take i ++ [Ls[i]] := by rw [List.take_add_one, List.getElem?_eq_getElem hil]; rfl
    rw [e]
    refine ⟨fun h => .inr ⟨L0, Ls, i + 1, rfl, rfl, rfl, ?_, ?_⟩, fun h1 h2 => .inr ⟨L0, Ls, i + 1, rfl, rfl, rfl, ?_, ?_⟩, fun h1 h2 => .inr ⟨L0, Ls, i + 1, rfl, rfl, rfl, ?_, ?_⟩⟩
    · rw [ht]; unfold entsA; rw [List.filter_append]; simp [h]
    · rw [ht]; unfold keptA; rw [List.filter_append]; simp [h]
    · rw [ht]; unfold entsA; rw [List.filter_append]; simp [h2]
    · rw [ht]; unfold keptA; rw [List.filter_append]; simp [h1]
    · rw [ht]; unfold entsA; rw [List.filter_append]; simp [h1, h2]
    · rw [ht]; unfold keptA; rw [List.filter_append]; simp [h1]
/-- how long what was read is at most -/
theorem ReadTo.small {s : List UInt8} {i : Nat} {tg : ByteArray} {es : List Ent} {kp : List UInt8} (h : ReadTo (cutA 10 s) i tg es kp) : kp.length ≤ s.length ∧ es.length ≤ s.length + 1 := by
  have hf := cutA_flat s
  have hl := cutA_len s
  have hc : s.count 10 ≤ s.length := List.count_le_length
  rcases h with ⟨_, _, rfl, rfl⟩ | ⟨L0, Ls, m, hL, _, _, rfl, rfl⟩
  · exact ⟨by simp, by simp⟩
  · rw [hL] at hf hl
    constructor
    · have h1 := flatten_len_le (Ls.take m)
      have h2 : (Ls.take m).flatten.length ≤ Ls.flatten.length := by
        have e : Ls.flatten = (Ls.take m).flatten ++ (Ls.drop m).flatten := by rw [← List.flatten_append, List.take_append_drop]
        rw [e, List.length_append]; omega
      have h3 := congrArg List.length hf
      rw [List.flatten_cons, List.length_append] at h3
      rw [List.length_append]; omega
    · unfold entsA
      rw [List.length_map]
      have h1 := List.length_filter_le (fun r => !skipA r && !emptyA r) (Ls.take m)
      have h2 : (Ls.take m).length ≤ Ls.length := by rw [List.length_take]; omega
      simp at hl; omega
theorem line_small {s : List UInt8} {i : Nat} (h : i < (cutA 10 s).length) : (cutA 10 s)[i].length ≤ s.length := by
  have hf := congrArg List.length (cutA_flat s)
  rw [List.length_flatten] at hf
  have h2 : (cutA 10 s)[i].length ∈ (cutA 10 s).map List.length := List.mem_map.2 ⟨_, List.getElem_mem h, rfl⟩
  have h3 : ∀ (l : List Nat) x, x ∈ l → x ≤ l.sum := by
    intro l
    induction l with
    | nil => intro x hx; cases hx
    | cons y l ih =>
      intro x hx
      rw [List.sum_cons]
      rcases List.mem_cons.1 hx with rfl | hx
      · omega
      · have := ih x hx; omega
  have := h3 _ _ h2
  omega
theorem trimSuffix_le (l : List UInt8) : (Lib.trimSuffix l [10]).length ≤ l.length := by
  unfold Lib.trimSuffix
  split
  · rw [List.length_take]; omega
  · exact Nat.le_refl _
theorem valL_le (l : List UInt8) : (valL l).length ≤ l.length := by
  unfold valL
  rw [List.length_drop]
  have := (List.dropWhile_sublist (fun c : UInt8 => decide (c ≠ 61)) (l := l)).length_le
  omega
theorem step_enterP {P : Program} {w : World} {ops : Array Oper} {o : Oper} {a : Act} {K : Act → World → Prop} {Q : Exit → Act → World → Prop} {E : Prop} (hgd : o.guard = none) (f : FuncId) (args : Array Value)
    (hrun : (execOp a.eval o).run P w = .ok (.enter f args) w) {R : Ending → World → Prop} (hc : Calls P f args w R) (hR : ∀ e w', R e w' → ∃ v, e = .returned v ∧ K (a.put o.dst v) w') :
    if Region.wanted o (yielded ops a.tmps) = true then Oper.wp P o a w K Q else E := by
  have hw : Region.wanted o (yielded ops a.tmps) = true := by simp [Region.wanted, hgd]
  rw [if_pos hw]
  unfold Oper.wp
  rw [hrun, Oper.upon_enter]
  refine hc.mono fun e w' h => ?_
  obtain ⟨v, rfl, hk⟩ := hR e w' h
  exact hk
theorem trimS_le (p cs : List UInt8) : (Lib.trimS p cs).length ≤ p.length := by
  unfold Lib.trimS Lib.trimLeftS Lib.trimRightS
  have h1 := (List.dropWhile_sublist (fun c : UInt8 => cs.contains c) (l := p.reverse)).length_le
  have h2 := (List.dropWhile_sublist (fun c : UInt8 => cs.contains c) (l := (p.reverse.dropWhile fun c : UInt8 => cs.contains c).reverse)).length_le
  rw [List.length_reverse] at h1 h2
  exact Nat.le_trans h2 h1
theorem keyL_le (p : List UInt8) : (keyL p).length ≤ p.length := by
  unfold keyL
  exact (List.takeWhile_sublist _).length_le
theorem bareL_le : ∀ (n : Nat) (l : List UInt8), l.length ≤ n → (bareL l).length ≤ l.length
  | 0, l, h => by rw [List.length_eq_zero_iff.1 (Nat.le_zero.1 h)]; simp [bareL]
  | n + 1, [], _ => by simp [bareL]
  | n + 1, c :: l, h => by
    by_cases hc : c = 92
    · subst hc
      cases l with
      | nil => simp [bareL]
      | cons d r =>
        rw [bareL_two]
        have := bareL_le n r (by simp at h; omega)
        simp only [List.length_cons]; omega
    · rw [bareL_cons hc]
      have := bareL_le n l (by simp at h; omega)
      simp only [List.length_cons]; omega
theorem mem_small {s r : List UInt8} (h : r ∈ cutA 10 s) : r.length ≤ s.length := by
  obtain ⟨i, hi, rfl⟩ := List.mem_iff_getElem.1 h
  exact line_small hi
theorem ReadTo.each {s : List UInt8} {i : Nat} {tg : ByteArray} {es : List Ent} {kp : List UInt8} (h : ReadTo (cutA 10 s) i tg es kp) : tg.size ≤ s.length ∧ ∀ e ∈ es, e.key.size ≤ s.length ∧ e.text.size ≤ s.length := by
  rcases h with ⟨_, rfl, rfl, rfl⟩ | ⟨L0, Ls, m, hL, _, rfl, rfl, rfl⟩
  · exact ⟨Nat.zero_le _, fun e he => by cases he⟩
  · have h0 : L0.length ≤ s.length := mem_small (by rw [hL]; exact List.mem_cons_self)
    constructor
    · unfold tagP
      rw [str_size]
      have := trimS_le L0 atNl
      omega
    · intro e he
      unfold entsA at he
      obtain ⟨r, hr, rfl⟩ := List.mem_map.1 he
      have hr1 : r ∈ Ls := List.mem_of_mem_take (List.mem_filter.1 hr).1
      have h1 : r.length ≤ s.length := mem_small (by rw [hL]; exact List.mem_cons_of_mem _ hr1)
      have h2 := trimSuffix_le r
      unfold entA entQ
      dsimp only
      rw [str_size, str_size]
      have h3 := keyL_le (Lib.trimSuffix r [10])
      have h4 := bareL_le _ _ (Nat.le_refl (valL (Lib.trimSuffix r [10])).length)
      have h5 := valL_le (Lib.trimSuffix r [10])
      omega
/-- what is read is a bundle's lines just if the bundle that was read has these lines -/
theorem parse_final {s : List UInt8} {tg : ByteArray} {es : List Ent} {kp : List UInt8} (h : ReadTo (cutA 10 s) (cutA 10 s).length tg es kp) :
    (bunFault ⟨tg, es⟩ = 0 → linesL ⟨tg, es⟩ = kp → ∃ ls, IsOf s ⟨tg, es⟩ ls) ∧ ∀ b ls, IsOf s b ls → bunFault ⟨tg, es⟩ = 0 ∧ linesL ⟨tg, es⟩ = kp ∧ b = ⟨tg, es⟩ := by
  rcases h with ⟨h0, _⟩ | ⟨L0, Ls, m, hL, hm, rfl, rfl, rfl⟩
  · exact absurd (List.length_eq_zero_iff.1 h0) (cutA_ne 10 s)
  · have hml : Ls.take m = Ls := List.take_of_length_le (by rw [hL] at hm; simp at hm; omega)
    rw [hml]
    rcases pcs_or s with hn | ⟨p0, mid, last, hp⟩
    · have h1 := cutA_last s hn
      rw [h1] at hL
      injection hL with e1 e2
      subst e1; subst e2
      refine ⟨fun _ he => ?_, fun b ls hs => absurd hn hs.nl⟩
      exfalso
      refine hn 10 ?_ rfl
      have e3 : keptA [] = [] := rfl
      rw [e3, List.append_nil] at he
      rw [← he]
      unfold linesL nlL
      simp
    · have h1 : cutA 10 s = nlL p0 :: (mid.map nlL ++ [last]) := by
        rw [hp.eq, cutA_nl p0 _ hp.p10, cutA_all mid last hp.m10 hp.l10]
      rw [h1] at hL
      injection hL with e1 e2
      subst e1; subst e2
      obtain ⟨i1, i2⟩ := entsA_pcs hp.m10 hp.l10
      rw [i1, i2]
      refine ⟨fun hf he => ⟨mid, (parse_yes hp ((right_iff _).1 hf) he).1⟩, fun b ls hs => ?_⟩
      obtain ⟨h2, h3, _⟩ := parse_back hp hs
      rw [h2]
      exact ⟨(right_iff b).2 hs.right, h3, rfl⟩
/-- what prop.Parse tells -/
def ParseRes (w : World) (s : ByteArray) (e : Ending) (w' : World) : Prop := Below w.heap.size w w' ∧
  ((∃ b ls v, IsOf (bts s) b ls ∧ e = .returned (.tuple #[.agg #[.string b.tag, v], .nilIface]) ∧ w'.ownsRow w.heap.size 62 2 v b.ents.length (flatE b.ents)) ∨
   ((∀ b ls, ¬ IsOf (bts s) b ls) ∧ e = .returned (.tuple #[.agg #[.string ⟨#[]⟩, .slice none 0 0], errV 3])))
theorem kept_blk {k : Nat} {w w' : World} {g : Nat} {t : TypeId} {cs : Array Value} (h : Lib.OthersKept 5 (some k) w w') (hb : Blk w g t cs) (hg : g ≠ k) (ht : t ≠ 5) : Blk w' g t cs :=
  h g _ hb (fun e => hg (by injection e)) (fun c fz e => by injection e with _ e _; exact ht e)
theorem kept_row {k : Nat} {w w' : World} {base : Nat} {e : TypeId} {size : Nat} {v : Value} {n : Nat} {xs : List Value} (h : Lib.OthersKept 5 (some k) w w') (ho : w.ownsRow base e size v n xs) (he : e ≠ 5) (hk : v.ownBlock ≠ some k) : w'.ownsRow base e size v n xs := by
  obtain ⟨h1, h2 | ⟨g, cap, cur, hv, hb, hg, r⟩⟩ := ho
  · exact ⟨h1, .inl h2⟩
  · exact ⟨h1, .inr ⟨g, cap, cur, hv, hb, kept_blk (t := e) (cs := cur) h hg (fun e2 => hk (by rw [hv, e2]; rfl)) he, r⟩⟩
theorem PSt.string {w0 wr : World} {ls : Array Value} {tg : ByteArray} {es : List Ent} {kp : List UInt8} {u : Value} {r : Option Nat} (h : PSt w0 ls tg es kp wr u r) :
    Calls Tryz.prog 31 #[.pointer (some ⟨w0.heap.size + 1 + 1, 0, none⟩)] wr fun e w' => e = .returned (.string (str kp)) ∧ Blk w' w0.heap.size 24 #[.string ⟨#[]⟩, .slice none 0 0] ∧ Blk w' (w0.heap.size + 1) 24 #[.string tg, u] ∧ w'.ownsRow w0.heap.size 62 2 u es.length (flatE es) ∧ Below w0.heap.size w0 w' := by
  refine (Tryz.Builder_String_any_k w0.heap.size (w0.heap.size + 2) kp wr (Lib.IsBuilderF.of h.bld.bld) h.below.size).mono ?_
  rintro e w' ⟨rfl, _, hb, hk⟩
  obtain ⟨kc, hkb⟩ := h.bld.kblk
  exact ⟨rfl, kept_blk hk h.res (by omega) (by decide), kept_blk hk h.box (by omega) (by decide), kept_row hk h.row (by decide) (ownNeBlk h.row hkb (by decide)), h.below.trans hb⟩
theorem str_list (l : List UInt8) : (str l).toList = l := by
  rw [ByteArray.toList_eq]; simp [str]
theorem str_nl (l : List UInt8) : ((str l).toList == [10]) = decide (l = [10]) := by
  rw [str_list]
  by_cases h : l = [10]
  · simp [h]
  · simp [h]
set_option maxRecDepth 100000 in
set_option maxHeartbeats 6400000 in
theorem pparse_any (s : ByteArray) (w : World) (hs : s.size ≤ 100000000) (hm : MaxVar w) :
    Calls Tryz.prog 8 #[.string s] w (ParseRes w s) := by
  obtain ⟨W3, hW3⟩ : ∃ W3, W3 = ((w.alloc (.cells #[.string ⟨#[]⟩, .slice none 0 0] 24)).alloc (.cells #[.string ⟨#[]⟩, .slice none 0 0] 24)).alloc (.cells #[.pointer none, .slice none 0 0] 55) := ⟨_, rfl⟩
  have hs3 : W3.heap.size = w.heap.size + 3 := by rw [hW3]; simp
  have hb3 : Below w.heap.size w W3 := by rw [hW3]; exact (((Below.refl _ _).alloc (Nat.le_refl _) _).alloc (by simp) _).alloc (by simp; omega) _
  have HSp := Lib.hid (splitAfter_any s W3 (by omega) (hm.below hb3))
  have hLn := cutA_len (bts s)
  have hLc : (bts s).count 10 ≤ s.size := by rw [← bts_len]; exact List.count_le_length
  obtain ⟨L, hL⟩ : ∃ L, L = cutA 10 (bts s) := ⟨_, rfl⟩
  rw [← hL] at HSp hLn
  obtain ⟨W4, hW4⟩ : ∃ W4, W4 = W3.alloc (.cells ((L.map str).map Value.string).toArray 9) := ⟨_, rfl⟩
  rw [← hW4] at HSp
  have HP0 : Hid (PSt w ((L.map str).map Value.string).toArray ⟨#[]⟩ [] [] W4 (.slice none 0 0) none) := Lib.hid (by
    have k1 : Blk W3 w.heap.size 24 #[.string ⟨#[]⟩, .slice none 0 0] := by rw [hW3]; exact ((Blk.new _ _ _).alloc _).alloc _
    have k2 : Blk W3 (w.heap.size + 1) 24 #[.string ⟨#[]⟩, .slice none 0 0] := by
      rw [hW3]
      have := (Blk.new (w.alloc (.cells #[.string ⟨#[]⟩, .slice none 0 0] 24)) 24 #[.string ⟨#[]⟩, .slice none 0 0]).alloc (.cells #[.pointer none, .slice none 0 0] 55)
      rw [World.size_alloc] at this; exact this
    have k3 : BldR w.heap.size (w.heap.size + 2) [] W3 none := by
      have := bldR_new ((w.alloc (.cells #[.string ⟨#[]⟩, .slice none 0 0] 24)).alloc (.cells #[.string ⟨#[]⟩, .slice none 0 0] 24))
      rw [← hW3, World.size_alloc, World.size_alloc] at this
      exact this.lower (by omega)
    have hb4 : Below W3.heap.size W3 W4 := by rw [hW4]; exact (Below.refl _ _).alloc (Nat.le_refl _) _
    have k4 : Blk W4 (w.heap.size + 3) 9 ((L.map str).map Value.string).toArray := by
      have := Blk.new W3 9 ((L.map str).map Value.string).toArray
      rw [← hW4, hs3] at this; exact this
    exact ⟨k1.below hb4 (by omega), k2.below hb4 (by omega), own_nil, k3.far (hb4.block _ (by omega)) (fun g hg => by cases hg), k4, hb3.trans (hb4.mono (by omega))⟩)
  have HW3 := Lib.hid hW3
  have HMx : Hid (∀ W, Below w.heap.size w W → MaxVar W) := Lib.hid fun W hW => hm.below hW
  have HL := Lib.hid hL
  have hLs : L.length ≤ s.size + 1 := by omega
  clear hW4 hL hm hb3 hLn hLc
  go_enter Tryz.func8, Tryz.ntmps8
  go_upto_region 3 with fail
  rw [← HW3.out]
  clear hW3 HW3
  go_wp2_with fail
  refine HSp.out.mono ?_
  clear HSp
  rintro e w4 ⟨rfl, rfl⟩
  rw [hs3]
  clear hs3
  go_wp2_with fail
  go_loopw [16] (fun ix wr => ∃ (i : Nat) (tg : ByteArray) (es : List Ent) (kp : List UInt8) (u : Value) (r : Option Nat), i ≤ L.length ∧ ix = .int .i64 (i : Int) ∧ PSt w ((L.map str).map Value.string).toArray tg es kp wr u r ∧ Hid (ReadTo L i tg es kp)) (fun ix _ => L.length - (intOf ix).toNat)
  case atStart => exact ⟨0, _, _, _, _, _, Nat.zero_le _, rfl, HP0.out, Lib.hid (.inl ⟨rfl, rfl, rfl, rfl⟩)⟩
  case round =>
    clear HP0
    obtain ⟨i, tg, es, kp, u, r, hi, rfl, hp, HRd⟩ := hrel
    have HP := Lib.hid hp
    have hpz := hp.size
    by_cases hlt : i < L.length
    · have hln : wr.cell? ⟨w.heap.size + 3, i, none⟩ = some (.string (str L[i])) := (hp.lns.cell i).trans (by simp [hlt])
      have hsml : L[i].length ≤ s.size := by
        have h := line_small (s := bts s) (i := i) (by rw [← HL.out]; exact hlt)
        rw [bts_len] at h
        simpa only [← HL.out] using h
      have hkp : kp.length ≤ s.size := by
        have h := HRd.out
        rw [HL.out] at h
        have := h.small.1
        rwa [bts_len] at this
      have hel : es.length ≤ s.size + 1 := by
        have h := HRd.out
        rw [HL.out] at h
        have := h.small.2
        rwa [bts_len] at this
      by_cases hi0 : i = 0
      · subst hi0
        have HR1 := Lib.hid (ReadTo.first hlt)
        obtain ⟨rfl, rfl, rfl⟩ : tg = ⟨#[]⟩ ∧ es = [] ∧ kp = [] := by
          rcases HRd.out with ⟨_, h1, h2, h3⟩ | ⟨L0, Ls, m, _, h0, _⟩
          · exact ⟨h1, h2, h3⟩
          · omega
        clear HRd
        have hlt2 : (0 : Int) < (L.length : Int) := by omega
        generalize L[0] = ln at *
        have HTr := Lib.hid (trimT_any ln wr (by omega))
        clear hp
        go_wp2_with fail
        refine HTr.out.mono ?_
        clear HTr
        rintro e w5 ⟨rfl, hb5⟩
        have HP5 := Lib.hid (HP.out.keep hb5)
        have c0 : w5.cell? ⟨w.heap.size + 1, 0, none⟩ = some (.string ⟨#[]⟩) := (HP5.out.box.cell 0).trans rfl
        have f0 := HP5.out.box.frozen 0
        have HP6 := Lib.hid (HP5.out.setTag (tagP ln))
        have HWs : Hid (Calls Tryz.prog 30 #[.pointer (some ⟨w.heap.size + 1 + 1, 0, none⟩), .string (str ln)] (w5.setCell ⟨w.heap.size + 1, 0, none⟩ (.string (tagP ln))) fun e w' =>
            (∃ n : Int, e = .returned (.tuple #[.int .i64 n, .nilIface])) ∧ ∃ r', PSt w ((L.map str).map Value.string).toArray (tagP ln) [] ln w' u r') := Lib.hid (by
          have hsz := str_size ln
          refine (wstrR_any w.heap.size (w.heap.size + 2) [] (str ln) _ r HP6.out.bld (by simp; omega) HP6.out.below.size).mono ?_
          rintro e w' ⟨rfl, r', hb, _, hf⟩
          rw [bts_str] at hb
          exact ⟨⟨_, rfl⟩, r', HP6.out.wrote hb hf⟩)
        clear hb5 HP HP5
        go_wp2_with fail
        refine HWs.out.mono ?_
        clear HWs
        rintro e w9 ⟨⟨n9, rfl⟩, r9, hp9⟩
        have HP9 := Lib.hid hp9
        clear hp9
        go_wp2_with fail
        exact ⟨⟨1, _, _, _, _, _, by omega, by go_num, HP9.out, HR1⟩, by simp [intOf]; omega⟩
      · obtain ⟨m, rfl⟩ : ∃ m, i = m + 1 := ⟨i - 1, by omega⟩
        have hz : (((m + 1 : Nat) : Int) == 0) = false := by rw [beq_eq_false_iff_ne]; omega
        have HNx := Lib.hid (HRd.out.next hlt)
        have hz2 : ((m : Int) + 1 == 0) = false := by rw [beq_eq_false_iff_ne]; omega
        have hlt2 : (m : Int) + 1 < (L.length : Int) := by omega
        have hltd : decide ((m : Int) + 1 < (L.length : Int)) = true := decide_eq_true hlt2
        generalize L[m + 1] = ln at *
        obtain ⟨n1, n2, n3⟩ := HNx.out
        have HN1 := Lib.hid n1
        have HN2 := Lib.hid n2
        have HN3 := Lib.hid n3
        clear n1 n2 n3 HNx hp
        by_cases hc1 : ln = [10]
        · subst hc1
          have HR1 := Lib.hid (HN1.out rfl)
          have hb1 : ((str [10]).toList == [10]) = true := by rw [str_nl]; rfl
          clear HN1 HN2 HN3
          go_wp2_with fail
          exact ⟨⟨m + 1 + 1, tg, es, kp, u, r, by omega, by go_num, HP.out, HR1.out⟩, by simp [intOf]; omega⟩
        · have hb1 : ((str ln).toList == [10]) = false := by rw [str_nl]; exact decide_eq_false hc1
          have HPx := Lib.hid (prefix_any ln wr)
          have HWs : Hid (∀ W tg' es' u', PSt w ((L.map str).map Value.string).toArray tg' es' kp W u' r → Calls Tryz.prog 30 #[.pointer (some ⟨w.heap.size + 1 + 1, 0, none⟩), .string (str ln)] W fun e w' =>
              (∃ n : Int, e = .returned (.tuple #[.int .i64 n, .nilIface])) ∧ ∃ r', PSt w ((L.map str).map Value.string).toArray tg' es' (kp ++ ln) w' u' r') := Lib.hid fun W tg' es' u' h => by
            have hsz := str_size ln
            refine (wstrR_any w.heap.size (w.heap.size + 2) kp (str ln) W r h.bld (by omega) h.below.size).mono ?_
            rintro e w' ⟨rfl, r', hb, _, hf⟩
            rw [bts_str] at hb
            exact ⟨⟨_, rfl⟩, r', h.wrote hb hf⟩
          cases hpx : Lib.hasPrefix ln [33] with
          | false =>
            rw [hpx] at HPx
            have HSk : Hid (skipA ln = false) := Lib.hid (by unfold skipA; rw [hpx, decide_eq_false hc1]; rfl)
            clear hpx hc1
            go_wp2_with fail
            refine HPx.out.mono ?_
            clear HPx
            rintro e w5 ⟨rfl, rfl⟩
            cases hem : emptyA ln with
            | true =>
              have hb2 : (str ln).toList.isEmpty = true := by rw [str_list]; unfold emptyA at hem; simpa using hem
              have HR2 := Lib.hid (HN2.out HSk.out hem)
              clear hem HN1 HN2 HN3 HSk
              go_wp2_with fail
              refine (HWs.out _ _ _ _ HP.out).mono ?_
              rintro e w9 ⟨⟨n9, rfl⟩, r9, hp9⟩
              have HP9 := Lib.hid hp9
              clear hp9
              go_wp2_with fail
              exact ⟨⟨m + 1 + 1, _, _, _, _, _, by omega, by go_num, HP9.out, HR2⟩, by simp [intOf]; omega⟩
            | false =>
              have hb2 : (str ln).toList.isEmpty = false := by rw [str_list]; unfold emptyA at hem; simpa using hem
              have HR2 := Lib.hid (HN3.out HSk.out hem)
              clear hem HN1 HN2 HN3 HSk
              have HTs := Lib.hid (trimS_any ln w5 (by omega))
              have hpl := trimSuffix_le ln
              have HEe : Hid (entA ln = ⟨str (keyL (Lib.trimSuffix ln [10])), str (bareL (valL (Lib.trimSuffix ln [10])))⟩) := Lib.hid rfl
              generalize Lib.trimSuffix ln [10] = pc at *
              have HCt := Lib.hid (cutE_any pc w5 (HMx.out _ HP.out.below) (by omega))
              have hvl := valL_le pc
              have HBr : Hid (∀ W, Calls Tryz.prog 29 #[.string (str (valL pc))] W fun e w' => e = .returned (.string (str (bareL (valL pc)))) ∧ Below W.heap.size W w') := Lib.hid fun W => by
                have h := pbare_any (str (valL pc)) W (by rw [str_size]; omega)
                rwa [bts_str] at h
              rw [HEe.out] at HR2
              generalize str (bareL (valL pc)) = tx at *
              go_wp2_with fail
              refine HTs.out.mono ?_
              clear HTs
              rintro e w6 ⟨rfl, rfl⟩
              go_wp2_with fail
              refine HCt.out.mono ?_
              clear HCt
              rintro e wd ⟨⟨f6, rfl⟩, n6, hwd⟩
              generalize str (keyL pc) = ky at *
              generalize str (valL pc) = vl at *
              have HPd : Hid (PSt w ((L.map str).map Value.string).toArray tg es kp wd u r) := Lib.hid (by rw [hwd]; exact HP.out.keep (below_drewN (Below.refl _ _) n6))
              clear hwd HP
              obtain ⟨Au, cu, rfl, _⟩ := own_slice HPd.out.row
              have b1 : wd.cell? ⟨w.heap.size + 1, 1, none⟩ = some (.slice Au es.length cu) := (HPd.out.box.cell 1).trans rfl
              have HnX : Hid (∀ (W : World) (q : Nat) (x : Value), ([Value.string ky, .string tx] : List Value)[q]? = some x → (W.alloc (.cells #[.string ky, .string tx] 62)).cell? ⟨W.heap.size, 0 + q, none⟩ = some x) := Lib.hid fun W q x hq => by
                rw [Nat.zero_add, (Blk.new W 62 #[.string ky, .string tx]).cell q]; simpa using hq
              go_upto_region 11 with fail
              go_region_law
                (first
                  | (refine step_enterP (by rfl) 29 #[.string vl] (by go_simp) (HBr.out _) ?_
                     rintro e w6 ⟨rfl, hb6⟩
                     refine ⟨_, rfl, ?_⟩
                     have d6 : PSt w ((L.map str).map Value.string).toArray tg es kp w6 (.slice Au es.length cu) r := by first | exact HPd.out.keep hb6 | exact (HPd.out.keep (Below.refl _ _).drew).keep hb6
                     have D6 := Lib.hid d6
                     have b6 : w6.cell? ⟨w.heap.size + 1, 1, none⟩ = some (.slice Au es.length cu) := (d6.box.cell 1).trans rfl
                     have hsz6 := d6.below.size
                     have b7 : ∀ o : Obj, (w6.alloc o).cell? ⟨w.heap.size + 1, 1, none⟩ = some (.slice Au es.length cu) := fun o => ((d6.box.alloc o).cell 1).trans rfl
                     clear d6 hb6)
                  | (refine step_append_any (by rfl) _ _ 22 (by rfl) w.heap.size 62 Tryz.underlying22 info_ent rfl (by decide) (flatE es) (by rfl) (own_below D6.out.row (by repeat (first | exact Below.refl _ _ | refine Below.drew ?_ | refine below_drewN ?_ _ | refine Below.alloc ?_ (by simp) _)) (Nat.le_refl _)) [Value.string ky, Value.string tx] (by rfl) (by rfl) (.inr ⟨_, _, rfl, HnX.out _⟩) (by simp [Value.oneCell']) (by unfold maxLen; omega) (by omega) (by simp; omega) ?_
                     intro v7 w7 hown7 hgrow7
                     have d6a := D6.out.keep (W := w6.alloc (.cells #[.string ky, .string tx] 62)) ((Below.refl _ _).alloc (Nat.le_refl _) _)
                     have D8 := Lib.hid (d6a.push (e := ⟨ky, tx⟩) hgrow7 hown7)
                     have q0 := blk_grown d6a.box hgrow7 (fun e => ownNeBlk d6a.row d6a.box (by decide) e.symm)
                     have c1 : w7.cell? ⟨w.heap.size + 1, 1, none⟩ = some (.slice Au es.length cu) := (q0.cell 1).trans rfl
                     have f1 := q0.frozen 1
                     obtain ⟨A7, c7, hv7, _⟩ := own_slice hown7
                     have hv8 : v7 = .slice A7 (es.length + 1) c7 := by rw [hv7]
                     subst hv8
                     clear d6a q0 hown7 hgrow7 hv7))
              all_goals
                clear HBr HnX
                go_wp2_with fail
                refine (HWs.out _ _ _ _ D8.out).mono ?_
                rintro e w9 ⟨⟨n9, rfl⟩, r9, hp9⟩
                have HP9 := Lib.hid hp9
                clear hp9
                go_wp2_with fail
                exact ⟨⟨m + 1 + 1, _, _, _, _, _, by omega, by go_num, HP9.out, HR2⟩, by simp [intOf]; omega⟩
          | true =>
            rw [hpx] at HPx
            have HSx := Lib.hid (suffix_any ln wr (by omega))
            cases hsx : Lib.hasSuffix ln [10] with
            | true =>
              have HR1 := Lib.hid (HN1.out (by unfold skipA; rw [hpx, hsx]; simp))
              rw [hsx] at HSx
              clear hpx hc1 hsx HN1 HN2 HN3 HWs
              go_wp2_with fail
              refine HPx.out.mono ?_
              clear HPx
              rintro e w5 ⟨rfl, rfl⟩
              go_wp2_with fail
              refine HSx.out.mono ?_
              clear HSx
              rintro e w5 ⟨rfl, rfl⟩
              go_wp2_with fail
              exact ⟨⟨m + 1 + 1, tg, es, kp, u, r, by omega, by go_num, HP.out, HR1.out⟩, by simp [intOf]; omega⟩
            | false =>
              have HSk : Hid (skipA ln = false) := Lib.hid (by unfold skipA; rw [hpx, hsx, decide_eq_false hc1]; rfl)
              rw [hsx] at HSx
              clear hpx hc1 hsx
              go_wp2_with fail
              refine HPx.out.mono ?_
              clear HPx
              rintro e w5 ⟨rfl, rfl⟩
              go_wp2_with fail
              refine HSx.out.mono ?_
              clear HSx
              rintro e w5 ⟨rfl, rfl⟩
              cases hem : emptyA ln with
              | true =>
                have hb2 : (str ln).toList.isEmpty = true := by rw [str_list]; unfold emptyA at hem; simpa using hem
                have HR2 := Lib.hid (HN2.out HSk.out hem)
                clear hem HN1 HN2 HN3 HSk
                go_wp2_with fail
                refine (HWs.out _ _ _ _ HP.out).mono ?_
                rintro e w9 ⟨⟨n9, rfl⟩, r9, hp9⟩
                have HP9 := Lib.hid hp9
                clear hp9
                go_wp2_with fail
                exact ⟨⟨m + 1 + 1, _, _, _, _, _, by omega, by go_num, HP9.out, HR2⟩, by simp [intOf]; omega⟩
              | false =>
                have hb2 : (str ln).toList.isEmpty = false := by rw [str_list]; unfold emptyA at hem; simpa using hem
                have HR2 := Lib.hid (HN3.out HSk.out hem)
                clear hem HN1 HN2 HN3 HSk
                have HTs := Lib.hid (trimS_any ln w5 (by omega))
                have hpl := trimSuffix_le ln
                have HEe : Hid (entA ln = ⟨str (keyL (Lib.trimSuffix ln [10])), str (bareL (valL (Lib.trimSuffix ln [10])))⟩) := Lib.hid rfl
                generalize Lib.trimSuffix ln [10] = pc at *
                have HCt := Lib.hid (cutE_any pc w5 (HMx.out _ HP.out.below) (by omega))
                have hvl := valL_le pc
                have HBr : Hid (∀ W, Calls Tryz.prog 29 #[.string (str (valL pc))] W fun e w' => e = .returned (.string (str (bareL (valL pc)))) ∧ Below W.heap.size W w') := Lib.hid fun W => by
                  have h := pbare_any (str (valL pc)) W (by rw [str_size]; omega)
                  rwa [bts_str] at h
                rw [HEe.out] at HR2
                generalize str (bareL (valL pc)) = tx at *
                go_wp2_with fail
                refine HTs.out.mono ?_
                clear HTs
                rintro e w6 ⟨rfl, rfl⟩
                go_wp2_with fail
                refine HCt.out.mono ?_
                clear HCt
                rintro e wd ⟨⟨f6, rfl⟩, n6, hwd⟩
                generalize str (keyL pc) = ky at *
                generalize str (valL pc) = vl at *
                have HPd : Hid (PSt w ((L.map str).map Value.string).toArray tg es kp wd u r) := Lib.hid (by rw [hwd]; exact HP.out.keep (below_drewN (Below.refl _ _) n6))
                clear hwd HP
                obtain ⟨Au, cu, rfl, _⟩ := own_slice HPd.out.row
                have b1 : wd.cell? ⟨w.heap.size + 1, 1, none⟩ = some (.slice Au es.length cu) := (HPd.out.box.cell 1).trans rfl
                have HnX : Hid (∀ (W : World) (q : Nat) (x : Value), ([Value.string ky, .string tx] : List Value)[q]? = some x → (W.alloc (.cells #[.string ky, .string tx] 62)).cell? ⟨W.heap.size, 0 + q, none⟩ = some x) := Lib.hid fun W q x hq => by
                  rw [Nat.zero_add, (Blk.new W 62 #[.string ky, .string tx]).cell q]; simpa using hq
                go_upto_region 11 with fail
                go_region_law
                  (first
                    | (refine step_enterP (by rfl) 29 #[.string vl] (by go_simp) (HBr.out _) ?_
                       rintro e w6 ⟨rfl, hb6⟩
                       refine ⟨_, rfl, ?_⟩
                       have d6 : PSt w ((L.map str).map Value.string).toArray tg es kp w6 (.slice Au es.length cu) r := by first | exact HPd.out.keep hb6 | exact (HPd.out.keep (Below.refl _ _).drew).keep hb6
                       have D6 := Lib.hid d6
                       have b6 : w6.cell? ⟨w.heap.size + 1, 1, none⟩ = some (.slice Au es.length cu) := (d6.box.cell 1).trans rfl
                       have hsz6 := d6.below.size
                       have b7 : ∀ o : Obj, (w6.alloc o).cell? ⟨w.heap.size + 1, 1, none⟩ = some (.slice Au es.length cu) := fun o => ((d6.box.alloc o).cell 1).trans rfl
                       clear d6 hb6)
                    | (refine step_append_any (by rfl) _ _ 22 (by rfl) w.heap.size 62 Tryz.underlying22 info_ent rfl (by decide) (flatE es) (by rfl) (own_below D6.out.row (by repeat (first | exact Below.refl _ _ | refine Below.drew ?_ | refine below_drewN ?_ _ | refine Below.alloc ?_ (by simp) _)) (Nat.le_refl _)) [Value.string ky, Value.string tx] (by rfl) (by rfl) (.inr ⟨_, _, rfl, HnX.out _⟩) (by simp [Value.oneCell']) (by unfold maxLen; omega) (by omega) (by simp; omega) ?_
                       intro v7 w7 hown7 hgrow7
                       have d6a := D6.out.keep (W := w6.alloc (.cells #[.string ky, .string tx] 62)) ((Below.refl _ _).alloc (Nat.le_refl _) _)
                       have D8 := Lib.hid (d6a.push (e := ⟨ky, tx⟩) hgrow7 hown7)
                       have q0 := blk_grown d6a.box hgrow7 (fun e => ownNeBlk d6a.row d6a.box (by decide) e.symm)
                       have c1 : w7.cell? ⟨w.heap.size + 1, 1, none⟩ = some (.slice Au es.length cu) := (q0.cell 1).trans rfl
                       have f1 := q0.frozen 1
                       obtain ⟨A7, c7, hv7, _⟩ := own_slice hown7
                       have hv8 : v7 = .slice A7 (es.length + 1) c7 := by rw [hv7]
                       subst hv8
                       clear d6a q0 hown7 hgrow7 hv7))
                all_goals
                  clear HBr HnX
                  go_wp2_with fail
                  refine (HWs.out _ _ _ _ D8.out).mono ?_
                  rintro e w9 ⟨⟨n9, rfl⟩, r9, hp9⟩
                  have HP9 := Lib.hid hp9
                  clear hp9
                  go_wp2_with fail
                  exact ⟨⟨m + 1 + 1, _, _, _, _, _, by omega, by go_num, HP9.out, HR2⟩, by simp [intOf]; omega⟩
    · obtain rfl : i = L.length := by omega
      have hR := HRd.out
      rw [HL.out] at hR
      obtain ⟨g1, g2⟩ := hR.each
      obtain ⟨g3, g4⟩ := hR.small
      rw [bts_len] at g1 g2 g3 g4
      obtain ⟨PY, PN⟩ := parse_final hR
      have HPY := Lib.hid PY
      have HPN := Lib.hid PN
      have hbi : BunIn wr ⟨tg, es⟩ u := ⟨⟨_, ents_of_own hp.row (Nat.le_refl _) (Nat.le_refl _)⟩, by show tg.size < _; omega, by show es.length ≤ _; omega, fun e he => by have := g2 e he; omega⟩
      have HTx := Lib.hid (ptext_any ⟨tg, es⟩ u wr hbi (HMx.out _ hp.below))
      have c0 := (hp.box.cell 0).trans (show _ = some (.string tg) from rfl)
      have c1 := (hp.box.cell 1).trans (show _ = some u from rfl)
      obtain ⟨Au, cu, rfl, _⟩ := own_slice hp.row
      clear hp hR hbi PY PN HRd
      go_wp2_with fail
      refine HTx.out.mono ?_
      clear HTx
      rintro e w5 ⟨rfl, hb5⟩
      have HP5 := Lib.hid (HP.out.keep hb5)
      have r0 := (HP5.out.res.cell 0).trans (show _ = some (.string ⟨#[]⟩) from rfl)
      have r1 := (HP5.out.res.cell 1).trans (show _ = some (.slice none 0 0) from rfl)
      have f0 := HP5.out.res.frozen 0
      have f1 := HP5.out.res.frozen 1
      clear HP hb5 c0 c1
      by_cases hf : bunFault ⟨tg, es⟩ = 0
      · have hT : TextTold ⟨tg, es⟩ = .tuple #[.string (linesS ⟨tg, es⟩), .nilIface] := if_pos hf
        have HF := Lib.hid hf
        have HSt := Lib.hid HP5.out.string
        have HEq : Hid (((linesS ⟨tg, es⟩).toList == (str kp).toList) = decide (linesL ⟨tg, es⟩ = kp)) := Lib.hid (by
          unfold linesS
          rw [str_list, str_list]
          by_cases h : linesL ⟨tg, es⟩ = kp
          · simp [h]
          · simp [h])
        rw [hT]
        clear hT hf r0 r1 f0 f1
        go_wp2_with fail
        refine HSt.out.mono ?_
        clear HSt
        rintro e w6 ⟨rfl, hres6, hbox6, hrow6, hbe6⟩
        have r0 := (hres6.cell 0).trans (show _ = some (.string ⟨#[]⟩) from rfl)
        have r1 := (hres6.cell 1).trans (show _ = some (.slice none 0 0) from rfl)
        have f0 := hres6.frozen 0
        have f1 := hres6.frozen 1
        have c0 := (hbox6.cell 0).trans (show _ = some (.string tg) from rfl)
        have c1 := (hbox6.cell 1).trans (show _ = some (.slice Au es.length cu) from rfl)
        have HRes := Lib.hid hres6
        have HRow := Lib.hid hrow6
        have HBe := Lib.hid hbe6
        clear hres6 hbox6 hrow6 hbe6
        have heq := HEq.out
        by_cases hq : linesL ⟨tg, es⟩ = kp
        · rw [decide_eq_true hq] at heq
          obtain ⟨ls, hIs⟩ := HPY.out HF.out hq
          have HIs := Lib.hid hIs
          clear hIs hq HPN HPY HF
          go_wp2_with fail
          refine bodyPost_ret (v := .tuple #[.agg #[.string tg, .slice Au es.length cu], .nilIface]) ?_ rfl ?_
          · simp [results, Tryz.results8, go_sem, r0, r1, f0, f1]
            try rfl
          · refine ⟨(HBe.out.setCell (p := ⟨w.heap.size, 0, none⟩) (Nat.le_refl _) _).setCell (p := ⟨w.heap.size, 1, none⟩) (Nat.le_refl _) _, .inl ⟨⟨tg, es⟩, ls, _, HIs.out, rfl, ?_⟩⟩
            refine own_keep HRow.out fun g hg _ => ?_
            have hne : g ≠ w.heap.size := fun e => ownNeBlk HRow.out HRes.out (by decide) (by rw [hg, e])
            rw [Below.heap_setCell _ _ _ _ hne, Below.heap_setCell _ _ _ _ hne]
        · rw [decide_eq_false hq] at heq
          have HNo : Hid (∀ b ls, ¬ IsOf (bts s) b ls) := Lib.hid fun b ls h => hq (HPN.out b ls h).2.1
          clear hq HPN HPY HF
          go_wp2_with fail
          refine bodyPost_ret (v := .tuple #[.agg #[.string ⟨#[]⟩, .slice none 0 0], errV 3]) ?_ rfl ?_
          · simp [results, Tryz.results8, go_sem, r0, r1, f0, f1]
            try rfl
          · exact ⟨(HBe.out.setCell (p := ⟨w.heap.size, 0, none⟩) (Nat.le_refl _) _).setCell (p := ⟨w.heap.size, 1, none⟩) (Nat.le_refl _) _, .inr ⟨HNo.out, rfl⟩⟩
      · have hT : TextTold ⟨tg, es⟩ = .tuple #[.string ⟨#[]⟩, errV (bunFault ⟨tg, es⟩)] := if_neg hf
        have HNo : Hid (∀ b ls, ¬ IsOf (bts s) b ls) := Lib.hid fun b ls h => hf (HPN.out b ls h).1
        have HBe := Lib.hid HP5.out.below
        rw [hT, errV_ne hf]
        clear hT HPN HPY hf
        go_wp2_with fail
        refine bodyPost_ret (v := .tuple #[.agg #[.string ⟨#[]⟩, .slice none 0 0], errV 3]) ?_ rfl ?_
        · simp [results, Tryz.results8, go_sem, r0, r1, f0, f1]
          try rfl
        · exact ⟨(HBe.out.setCell (p := ⟨w.heap.size, 0, none⟩) (Nat.le_refl _) _).setCell (p := ⟨w.heap.size, 1, none⟩) (Nat.le_refl _) _, .inr ⟨HNo.out, rfl⟩⟩
end Go.Proofs.YtoneheloojlifaaGreatDoor
