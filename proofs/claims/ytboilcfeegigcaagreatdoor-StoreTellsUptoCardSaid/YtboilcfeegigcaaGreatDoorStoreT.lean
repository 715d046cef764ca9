/- What StoreTells keeps: its rows beside the store. -/
import Derived.Test.YtboilcfeegigcaaGreatDoorStoreG
import Derived.Deep.AppendLies
import Derived.StillTailTactics
namespace Go.Proofs.YtboilcfeegigcaaGreatDoor
open Go.RowKit Go.Maps

theorem own1_at {w : World} {base : Nat} {e : TypeId} {v : Value} {n : Nat} {xs : List Value} (h : w.ownsRow base e 1 v n xs) (i : Nat) (u : Value) (hi : xs[i]? = some u) :
    ∃ g c, v = .slice (some ⟨g, 0, none⟩) n c ∧ base ≤ g ∧ g < w.heap.size ∧ w.cell? ⟨g, i, none⟩ = some u ∧ w.frozen? ⟨g, i, none⟩ = false := by
  have hil := (List.getElem?_eq_some_iff.1 hi).1
  obtain ⟨hlen, ⟨_, hn⟩ | ⟨g, cap, cur, hv, hb, hh, hc, hm, hcs, ht⟩⟩ := h
  · omega
  · refine ⟨g, cap, hv, hb, Blk.lt (t := e) (cs := cur) hh, ?_, by simp [World.frozen?, hh]⟩
    rw [cell_of_row w g i cur e (0, 0) hh]
    rw [← ht, List.getElem?_take] at hi
    split at hi
    · simpa using hi
    · cases hi
theorem own1_set {w : World} {base : Nat} {e : TypeId} {n c g : Nat} {xs : List Value} (h : w.ownsRow base e 1 (.slice (some ⟨g, 0, none⟩) n c) n xs) (k : Nat) (u : Value) :
    (w.setCell ⟨g, k, none⟩ u).ownsRow base e 1 (.slice (some ⟨g, 0, none⟩) n c) n (xs.set k u) := by
  obtain ⟨hlen, ⟨hv, _⟩ | ⟨g', cap, cur, hv, hb, hh, hc, hm, hcs, ht⟩⟩ := h
  · cases hv
  · injection hv with hv1 hv2 hv3
    injection hv1 with hv1
    injection hv1 with e1
    subst e1; subst hv3
    refine ⟨by rw [List.length_set]; exact hlen, .inr ⟨g, c, cur.setIfInBounds k u, rfl, hb, ?_, hc, hm, by simpa using hcs, ?_⟩⟩
    · rw [setCell_eq_setRow w g k cur e (0, 0) u hh]
      exact setRow_heap w g _ _ e _ hh
    · rw [← ht, Array.toList_setIfInBounds, List.take_set]
def heldL (vs : List VR) : List Int := vs.map fun r => (r.held : Int)
def heldR (vs : List VR) : List Value := (heldL vs).map (.int .i64)
theorem heldR_at (vs : List VR) (i : Nat) (hi : i < vs.length) : (heldR vs)[i]? = some (.int .i64 vs[i].held) := by
  unfold heldR heldL
  rw [List.getElem?_map, List.getElem?_map, List.getElem?_eq_getElem hi]; rfl
theorem heldR_more (vs : List VR) (r : VR) (h : r.held = 0) : heldR (vs ++ [r]) = heldR vs ++ [.int .i64 0] := by
  unfold heldR heldL
  rw [List.map_append, List.map_append]
  simp [h]
theorem heldR_set (vs : List VR) (i n : Nat) (hi : i < vs.length) : heldR (holdV vs i n hi) = (heldR vs).set i (.int .i64 n) := by
  unfold heldR heldL holdV
  rw [List.map_set, List.map_set]
structure TSt (w0 wr : World) (b1 p M : Nat) (o h : Value) (vs : List VR) (xs : List Value) : Prop where
  stk : Stk w0 wr b1 p M vs
  all : wr.ownsRow w0.heap.size 22 1 o vs.length xs
  held : wr.ownsRow w0.heap.size 3 1 h vs.length (heldR vs)
  ins : ∀ i (hi : i < vs.length), ∃ V, xs[i]? = some V ∧ BunsIn w0 V vs[i].buns
section
variable {w0 wr W : World} {b1 p M : Nat} {o h : Value} {vs : List VR} {xs : List Value}
theorem TSt.keep (t : TSt w0 wr b1 p M o h vs xs) (hb : Below wr.heap.size wr W) : TSt w0 W b1 p M o h vs xs :=
  ⟨t.stk.keep hb, own_below t.all hb (Nat.le_refl _), own_below t.held hb (Nat.le_refl _), t.ins⟩
/-- behind a call of the store's that leaves its versions' number -/
theorem TSt.call (t : TSt w0 wr b1 p M o h vs xs) (s : Stk w0 W b1 p M vs) (hf : Fr wr W (StX p M vs)) : TSt w0 W b1 p M o h vs xs :=
  ⟨s, t.stk.row hf t.all (by decide) (by decide), t.stk.row hf t.held (by decide) (by decide), t.ins⟩
/-- rows that are one ahead; then the load -/
theorem TSt.load {v : Value} (s0 : Stk w0 wr b1 p M vs) (all : wr.ownsRow w0.heap.size 22 1 o (vs.length + 1) (xs ++ [v])) (held : wr.ownsRow w0.heap.size 3 1 h (vs.length + 1) (heldR vs ++ [.int .i64 0]))
    (ins : ∀ i (hi : i < vs.length), ∃ V, xs[i]? = some V ∧ BunsIn w0 V vs[i].buns) (hx : xs.length = vs.length) (r : VR) (hv : BunsIn w0 v r.buns) (hr : r.held = 0) (s : Stk w0 W b1 p M (vs ++ [r])) (hf : Fr wr W (StX p M vs)) : TSt w0 W b1 p M o h (vs ++ [r]) (xs ++ [v]) := by
  refine ⟨s, ?_, ?_, fun i hi => ?_⟩
  · rw [List.length_append]; exact s0.row hf all (by decide) (by decide)
  · rw [List.length_append, heldR_more vs r hr]; exact s0.row hf held (by decide) (by decide)
  · by_cases hl : i < vs.length
    · obtain ⟨V, h1, h2⟩ := ins i hl
      refine ⟨V, ?_, ?_⟩
      · rw [List.getElem?_append_left (by omega)]; exact h1
      · rw [List.getElem_append_left hl]; exact h2
    · have : i = vs.length := by simp at hi; omega
      subst this
      refine ⟨v, ?_, ?_⟩
      · rw [← hx]; simp
      · simpa using hv
/-- a number of the row is another one; then the call that makes it so in the store -/
theorem TSt.hold {g c : Nat} (t : TSt w0 wr b1 p M o (.slice (some ⟨g, 0, none⟩) vs.length c) vs xs) (i n : Nat) (hi : i < vs.length) (s1 : Stk w0 (wr.setCell ⟨g, i, none⟩ (.int .i64 n)) b1 p M vs) (s : Stk w0 W b1 p M (holdV vs i n hi)) (hf : Fr (wr.setCell ⟨g, i, none⟩ (.int .i64 n)) W (StX p M vs)) :
    TSt w0 W b1 p M o (.slice (some ⟨g, 0, none⟩) vs.length c) (holdV vs i n hi) xs := by
  have ha : (wr.setCell ⟨g, i, none⟩ (.int .i64 n)).ownsRow w0.heap.size 22 1 o vs.length xs := own_keep t.all fun k hk _ => Below.heap_setCell _ _ _ _ (fun e => own_types t.all t.held (by decide) hk (by rw [e]; rfl))
  refine ⟨s, ?_, ?_, fun j hj => ?_⟩
  · rw [holdV_len]; exact s1.row hf ha (by decide) (by decide)
  · rw [holdV_len, heldR_set]; exact s1.row hf (own1_set t.held i _) (by decide) (by decide)
  · have hj2 : j < vs.length := by rw [holdV_len] at hj; exact hj
    obtain ⟨V, h1, h2⟩ := t.ins j hj2
    refine ⟨V, h1, ?_⟩
    rw [holdV_at vs i n hi j hj2]
    split
    · rename_i e; subst e; exact h2
    · exact h2
/-- the store stays where rows of the asker's are written or grow -/
theorem Stk.far (s : Stk w0 wr b1 p M vs) {e : TypeId} {size n : Nat} {v : Value} {ys : List Value} (ho : wr.ownsRow w0.heap.size e size v n ys) (h1 : 54 ≠ e) (h2 : 58 ≠ e) (hf : Fr wr W (fun k => v.ownBlock = some k)) : Stk w0 W b1 p M vs := by
  have hne : ∀ {k : Nat} {t : TypeId} {cs : Array Value}, Blk wr k t cs → t ≠ e → ¬ v.ownBlock = some k := fun {k t cs} hk ht hv => row_ne_blk ho hk (fun e => ht e.symm) hv
  have hnm : ∀ {H : Type} {k : TypeId} {R : Value → Option (DataW H × List MemPlace)} {b m : Nat} {D : DataW H}, wr.ownsMap Tryz.prog k R b m D → ¬ v.ownBlock = some b := fun {H k R b m D} hM hv => by
    obtain ⟨es, clock, hb, _⟩ := hM
    obtain ⟨_, ⟨h3, _⟩ | ⟨g1, cap, cur, hv1, _, hh, _⟩⟩ := ho
    · rw [h3] at hv; cases hv
    · rw [hv1] at hv; injection hv with hv; subst hv
      have := hh.symm.trans hb
      injection this with this
      cases this
  refine ⟨⟨s.st.lp, s.st.lM, s.st.box.fr hf (hne s.st.box h1), let ⟨n, h1, h2⟩ := s.st.all; ⟨n, h1, owns_fr h2 hf (hnm h2)⟩, fun r hr => ?_, s.st.apart⟩, Fr.below s.below hf s.below.size fun i hi => (own_lt ho hi).1, Nat.le_trans s.hi hf.size⟩
  obtain ⟨wb, S, m, k1, k2, k3, k4⟩ := (s.st.vers r hr).rec_
  exact ⟨(s.st.vers r hr).lo, (s.st.vers r hr).fine, wb, S, m, k1.fr hf (hne k1 h2), k2, owns_fr k3 hf (hnm k3), k4.fr hf fun mb k T _ hT => hnm hT⟩
theorem Stk.setRow (s : Stk w0 wr b1 p M vs) {g n c : Nat} {ys : List Value} (ho : wr.ownsRow w0.heap.size 3 1 (.slice (some ⟨g, 0, none⟩) n c) n ys) (i : Nat) (u : Value) : Stk w0 (wr.setCell ⟨g, i, none⟩ u) b1 p M vs :=
  s.far ho (by decide) (by decide) (Fr.setCell (w := wr) (S := fun k => (Value.slice (some ⟨g, 0, none⟩) n c).ownBlock = some k) (p := ⟨g, i, none⟩) (Fr.refl wr _) (.inl rfl) u)
theorem Stk.grow (s : Stk w0 wr b1 p M vs) {e : TypeId} {size n : Nat} {v : Value} {ys : List Value} (ho : wr.ownsRow w0.heap.size e size v n ys) (h1 : 54 ≠ e) (h2 : 58 ≠ e) (hg : wr.grownBy W v.ownBlock) : Stk w0 W b1 p M vs :=
  s.far ho h1 h2 ((Fr.refl wr _).grown hg fun k hk => .inl hk)
end
theorem wr64 (x : Int) (h1 : -1000000000000 ≤ x) (h2 : x ≤ 1000000000000) : wrap64 x = x := by unfold wrap64; omega
theorem wri64 (x : Int) (h1 : -1000000000000 ≤ x) (h2 : x ≤ 1000000000000) : IntKind.i64.wrap x = x := by rw [IntKind.wrap_i64]; omega
theorem hold_nums (N i n : Nat) (h : i + 1 = N) (hN : N ≤ 1100000) (hn : n ≤ 1100000) : wrap64 ((N : Int) - 1) = (i : Int) ∧ IntKind.i64.wrap ((N : Int) - 1) = (i : Int) ∧ (0 : Int) ≤ (i : Int) ∧ (i : Int) < (N : Int) ∧ wrap64 ((n : Int) + 1) = ((n + 1 : Nat) : Int) ∧ IntKind.i64.wrap ((n : Int) + 1) = ((n + 1 : Nat) : Int) ∧ ((n + 1 : Nat) : Int) = (n : Int) + 1 :=
  ⟨(wr64 _ (by omega) (by omega)).trans (by omega), (wri64 _ (by omega) (by omega)).trans (by omega), by omega, by omega, (wr64 _ (by omega) (by omega)).trans (by omega), (wri64 _ (by omega) (by omega)).trans (by omega), by omega⟩
theorem free_nums (N i n : Nat) (h : i < N) (hN : N ≤ 1100000) (hn : n ≤ 1100000) (h0 : n ≠ 0) : wrap64 (i : Int) = (i : Int) ∧ IntKind.i64.wrap (i : Int) = (i : Int) ∧ (0 : Int) ≤ (i : Int) ∧ (i : Int) < (N : Int) ∧ wrap64 ((n : Int) - 1) = ((n - 1 : Nat) : Int) ∧ IntKind.i64.wrap ((n : Int) - 1) = ((n - 1 : Nat) : Int) ∧ ((n - 1 : Nat) : Int) = (n : Int) - 1 ∧ decide (((i + 1 : Nat) : Int) < 1) = false ∧ decide ((N : Int) < ((i + 1 : Nat) : Int)) = false ∧ ((n : Int) == 0) = false :=
  ⟨wr64 _ (by omega) (by omega), wri64 _ (by omega) (by omega), by omega, by omega, (wr64 _ (by omega) (by omega)).trans (by omega), (wri64 _ (by omega) (by omega)).trans (by omega), by omega, decide_eq_false (by omega), decide_eq_false (by omega), by rw [beq_eq_false_iff_ne]; omega⟩
theorem free_nums0 (N i : Nat) (h : i < N) (hN : N ≤ 1100000) : wrap64 (i : Int) = (i : Int) ∧ IntKind.i64.wrap (i : Int) = (i : Int) ∧ (0 : Int) ≤ (i : Int) ∧ (i : Int) < (N : Int) :=
  ⟨wr64 _ (by omega) (by omega), wri64 _ (by omega) (by omega), by omega, by omega⟩
theorem free_nums1 (N i m : Nat) (h : i < N) (hN : N ≤ 1100000) (hm : m + 1 ≤ 1100000) : (wrap64 (i : Int) = (i : Int) ∧ IntKind.i64.wrap (i : Int) = (i : Int) ∧ (0 : Int) ≤ (i : Int) ∧ (i : Int) < (N : Int)) ∧ wrap64 (m : Int) = (m : Int) ∧ IntKind.i64.wrap (m : Int) = (m : Int) ∧ decide ((N : Int) < ((i + 1 : Nat) : Int)) = false ∧ (((m + 1 : Nat) : Int) == 0) = false ∧ ((m : Int) + 1 == 0) = false ∧ decide ((N : Int) < (i : Int) + 1) = false :=
  ⟨free_nums0 N i h hN, wr64 _ (by omega) (by omega), wri64 _ (by omega) (by omega), decide_eq_false (by omega), by rw [beq_eq_false_iff_ne]; omega, by rw [beq_eq_false_iff_ne]; omega, decide_eq_false (by omega)⟩
theorem live_or (j N hd : Nat) (lv : Bool) (h : lv = live N (j + 1) ⟨0, hd, []⟩) :
    lv = true ∧ ((((j + 1 : Nat) : Int) == (N : Int)) = true ∧ ((j : Int) + 1 == (N : Int)) = true) ∨
    lv = true ∧ (((((j + 1 : Nat) : Int) == (N : Int)) = false ∧ ((j : Int) + 1 == (N : Int)) = false) ∧ (decide (0 < (hd : Int)) = true ∧ decide (0 < hd) = true)) ∨
    lv = false ∧ (((((j + 1 : Nat) : Int) == (N : Int)) = false ∧ ((j : Int) + 1 == (N : Int)) = false) ∧ (decide (0 < (hd : Int)) = false ∧ decide (0 < hd) = false)) := by
  unfold live at h
  by_cases e : j + 1 = N
  · exact .inl ⟨by rw [h, e]; simp, by rw [beq_iff_eq, e], by rw [beq_iff_eq]; omega⟩
  · have e1 : (((j + 1 : Nat) : Int) == (N : Int)) = false := by rw [beq_eq_false_iff_ne]; omega
    have e2 : ((j : Int) + 1 == (N : Int)) = false := by rw [beq_eq_false_iff_ne]; omega
    by_cases h0 : hd = 0
    · exact .inr (.inr ⟨by rw [h, h0]; simpa using e, ⟨e1, e2⟩, decide_eq_false (by omega), decide_eq_false (by omega)⟩)
    · exact .inr (.inl ⟨by rw [h]; simp [h0], ⟨e1, e2⟩, decide_eq_true (by omega), decide_eq_true (by omega)⟩)
theorem info_buns : (Tryz.prog.info? 22).map (fun i => (i.zero, i.size, i.bytes)) = some (some (.slice none 0 0), 1, 24) := by kernel_rfl
theorem info_int' : (Tryz.prog.info? 3).map (fun i => (i.zero, i.size, i.bytes)) = some (some (.int .i64 0), 1, 8) := by kernel_rfl
theorem one_new (x : Value) (t : TypeId) (W : World) (q : Nat) (u : Value) (hq : ([x] : List Value)[q]? = some u) : (W.alloc (.cells #[x] t)).cell? ⟨W.heap.size, 0 + q, none⟩ = some u := by
  rw [Nat.zero_add, (Blk.new W t #[x]).cell q]; simpa using hq
end Go.Proofs.YtboilcfeegigcaaGreatDoor
