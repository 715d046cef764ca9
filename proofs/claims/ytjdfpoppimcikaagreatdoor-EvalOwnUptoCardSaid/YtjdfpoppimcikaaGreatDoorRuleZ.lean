/- rule.Parse. -/
import Derived.Test.YtjdfpoppimcikaaGreatDoorRuleQ
import Derived.Test.YtjdfpoppimcikaaGreatDoorOpsA
namespace Go.Proofs.YtjdfpoppimcikaaGreatDoor
open Go.RowKit Go.Shelf

attribute [local go_sem] Oper.semAt_some

theorem SeqT.inRound {α : Type} {F : Fence} {n l : Nat} {P : Program} {g : Nat} {lb : Array Value} {enc : α → Value} {xs : List α} {St Kp : World → World → Prop} {w : World} (h : SeqT F n P g lb enc xs St Kp w) : SeqT (F.inRound l) n P g lb enc xs St Kp w := h

/- ## Rows of relations, of parts -/
def rlV (x : Rl × Value) : List Value := [.int .u8 x.1.op.toNat, .int .i64 x.1.mod, .bool x.1.neg, x.2]
def flatL (l : List (Rl × Value)) : List Value := l.flatMap rlV
theorem flatL_snoc (l : List (Rl × Value)) (x : Rl × Value) : flatL (l ++ [x]) = flatL l ++ rlV x := by simp [flatL]
theorem flatL_at : ∀ (l : List (Rl × Value)) (i : Nat) (h : i < l.length), ((flatL l).drop (i * 4)).take 4 = rlV l[i]
  | [], i, h => by cases h
  | p :: l, 0, _ => by show ((rlV p ++ flatL l).drop (0 * 4)).take 4 = _; simp [rlV]
  | p :: l, i + 1, h => by
    have ih := flatL_at l i (by simpa using h)
    show ((rlV p ++ flatL l).drop ((i + 1) * 4)).take 4 = _
    rw [show (i + 1) * 4 = (rlV p).length + i * 4 from by simp [rlV]; omega, List.drop_append, List.drop_eq_nil_of_le (Nat.le_add_right _ _), Nat.add_sub_cancel_left]
    exact ih
/-- a part whose row is the call's own -/
structure PartV (base : Nat) (w : World) (ps : List (Rl × Value)) (u : Value) : Prop where
  row : w.ownsRow base 239 4 u ps.length (flatL ps)
  prs : ∀ x ∈ ps, w.ownsRow base 257 2 x.2 x.1.rng.length (flatP x.1.rng)
structure RuleV (base : Nat) (w : World) (us : List (List (Rl × Value) × Value)) (v : Value) : Prop where
  row : w.ownsRow base 236 1 v us.length (us.map (·.2))
  part : ∀ x ∈ us, PartV base w x.1 x.2
theorem PartV.keep {base : Nat} {w w' : World} {ps : List (Rl × Value)} {u : Value} (h : PartV base w ps u) (k : ∀ g, base ≤ g → g < w.heap.size → (∃ cs t, Blk w g t cs ∧ t ≠ 236 ∧ t ≠ 188 ∧ t ≠ 9) → w'.heap[g]? = w.heap[g]?) : PartV base w' ps u := by
  refine ⟨own_keep h.row fun g hg hlt => k g (own_lt h.row hg).1 hlt ?_, fun x hx => own_keep (h.prs x hx) fun g hg hlt => k g (own_lt (h.prs x hx) hg).1 hlt ?_⟩
  · obtain ⟨_, ⟨h2, _⟩ | ⟨g', cap, cur, hv, hb, hh, _⟩⟩ := h.row
    · rw [h2] at hg; cases hg
    · rw [hv] at hg; injection hg with hg; subst hg
      exact ⟨cur, _, hh, by decide, by decide, by decide⟩
  · obtain ⟨_, ⟨h2, _⟩ | ⟨g', cap, cur, hv, hb, hh, _⟩⟩ := h.prs x hx
    · rw [h2] at hg; cases hg
    · rw [hv] at hg; injection hg with hg; subst hg
      exact ⟨cur, _, hh, by decide, by decide, by decide⟩
theorem PartV.below {base B : Nat} {w w' : World} {ps : List (Rl × Value)} {u : Value} (h : PartV base w ps u) (k : Below B w w') (hB : w.heap.size ≤ B) : PartV base w' ps u := h.keep fun g _ hlt _ => k.block g (by omega)
theorem PartV.mono {base base' : Nat} {w : World} {ps : List (Rl × Value)} {u : Value} (h : PartV base w ps u) (hb : base' ≤ base) : PartV base' w ps u := ⟨own_mono h.row hb, fun x hx => own_mono (h.prs x hx) hb⟩
theorem PartV.nc {base : Nat} {W W' : World} {ps : List (Rl × Value)} {u : Value} {row : Option Nat} (h : PartV base W ps u) (hg : W.grownBy W' row) (hr : ∀ r, row = some r → ∃ o : Obj, W.heap[r]? = some o ∧ o.isCells = false) : PartV base W' ps u := ⟨own_nc h.row hg hr, fun x hx => own_nc (h.prs x hx) hg hr⟩
theorem PartV.list {base lo hi : Nat} {w : World} {ps : List (Rl × Value)} {u : Value} (h : PartV base w ps u) (hb : lo ≤ base) (hs : w.heap.size ≤ hi) : ListOk Enc.rl w lo hi u (ps.map (·.1)) := by
  have h1 := h.row
  have e1 : ps.length = (ps.map (·.1)).length := by simp
  rw [e1] at h1
  refine ListOk.of_own (E := Enc.rl) h1 hb hs fun i hl => ?_
  have hl' : i < ps.length := by simpa using hl
  refine ⟨ps[i].2, ?_, ?_⟩
  · rw [show Enc.rl.sz = 4 from rfl, flatL_at ps i hl']; simp [rlV]
  · rw [List.getElem_map]
    exact pairs_of_own (h.prs _ (List.getElem_mem hl')) hb hs
theorem RuleV.below {base B : Nat} {w w' : World} {us : List (List (Rl × Value) × Value)} {v : Value} (h : RuleV base w us v) (k : Below B w w') (hB : w.heap.size ≤ B) : RuleV base w' us v := ⟨own_below h.row k hB, fun x hx => (h.part x hx).below k hB⟩
theorem RuleV.nc {base : Nat} {W W' : World} {us : List (List (Rl × Value) × Value)} {v : Value} {row : Option Nat} (h : RuleV base W us v) (hg : W.grownBy W' row) (hr : ∀ r, row = some r → ∃ o : Obj, W.heap[r]? = some o ∧ o.isCells = false) : RuleV base W' us v := ⟨own_nc h.row hg hr, fun x hx => (h.part x hx).nc hg hr⟩
def plainU (us : List (List (Rl × Value) × Value)) : List (List Rl) := us.map fun x => x.1.map (·.1)
theorem RuleV.list {base lo hi : Nat} {w : World} {us : List (List (Rl × Value) × Value)} {v : Value} (h : RuleV base w us v) (hb : lo ≤ base) (hs : w.heap.size ≤ hi) : ListOk (Enc.list Enc.rl) w lo hi v (plainU us) := by
  have h1 := h.row
  have e1 : us.length = (plainU us).length := by simp [plainU]
  rw [e1] at h1
  refine ListOk.of_own (E := Enc.list Enc.rl) h1 hb hs fun i hl => ?_
  have hl' : i < us.length := by rw [e1]; exact hl
  refine ⟨us[i].2, ?_, ?_⟩
  · have e : Enc.sz (Enc.list Enc.rl) = 1 := rfl
    rw [e, Nat.mul_one, ← List.map_drop, ← List.map_take, List.drop_eq_getElem_cons hl']
    rfl
  · have e : (plainU us)[i] = us[i].1.map (·.1) := by simp [plainU]
    rw [e]
    exact (h.part _ (List.getElem_mem hl')).list hb hs

/- ## The inner loop -/
structure InSt (W0 Wr : World) (Rb B2 M : Nat) (u : Value) (ps : List (Rl × Value)) (W : World) : Prop where
  below : Below W0.heap.size W0 W
  box : Blk W Rb 236 #[u]
  part : PartV M W ps u
  sq : SqK B2 Wr W
  kf : KeepsFrom M Wr W
  size : M ≤ W.heap.size
theorem InSt.on {W0 Wr : World} {Rb B2 M : Nat} {u : Value} {ps : List (Rl × Value)} {W W' : World} (h : InSt W0 Wr Rb B2 M u ps W) (hb : Below W.heap.size W W') : InSt W0 Wr Rb B2 M u ps W' :=
  ⟨h.below.trans (hb.mono h.below.size), h.box.below hb h.box.lt, h.part.below hb (Nat.le_refl _), h.sq.trans (sqk_below hb), h.kf.trans (kf_below hb), Nat.le_trans h.size hb.size⟩
theorem InSt.drew {W0 Wr : World} {Rb B2 M : Nat} {u : Value} {ps : List (Rl × Value)} {W : World} (h : InSt W0 Wr Rb B2 M u ps W) : InSt W0 Wr Rb B2 M u ps W.drew := h.on (below_drewN (Below.refl _ _) 1)
theorem InSt.alloc {W0 Wr : World} {Rb B2 M : Nat} {u : Value} {ps : List (Rl × Value)} {W : World} (h : InSt W0 Wr Rb B2 M u ps W) (o : Obj) : InSt W0 Wr Rb B2 M u ps (W.alloc o) := h.on ((Below.refl _ _).alloc (Nat.le_refl _) o)
theorem InSt.push {W0 Wr : World} {Rb B2 M : Nat} {u v : Value} {ps : List (Rl × Value)} {W w7 : World} {x : Rl × Value} (h : InSt W0 Wr Rb B2 M u ps W) (hx : W.ownsRow M 257 2 x.2 x.1.rng.length (flatP x.1.rng)) (hg : W.grownBy w7 u.ownBlock)
    (hown : w7.ownsRow M 239 4 v (ps.length + 1) (flatL ps ++ rlV x)) (hB : B2 + 3 ≤ M) (hG : 5 < B2) (hR : Rb < B2) (hR0 : W0.heap.size ≤ Rb) (hGR : 5 < W0.heap.size) (hM : W0.heap.size ≤ M) : InSt W0 Wr Rb B2 M v (ps ++ [x]) (w7.setCell ⟨Rb, 0, none⟩ v) := by
  have hr : ∀ r, u.ownBlock = some r → M ≤ r := fun r hr => (own_lt h.part.row hr).1
  have b7 := blkGrown h.box hg (fun e => own_blkR h.part.row h.box (by decide) e.symm)
  have keepP : ∀ y : Rl × Value, W.ownsRow M 257 2 y.2 y.1.rng.length (flatP y.1.rng) → (w7.setCell ⟨Rb, 0, none⟩ v).ownsRow M 257 2 y.2 y.1.rng.length (flatP y.1.rng) := fun y hy => by
    have h1 : w7.ownsRow M 257 2 y.2 y.1.rng.length (flatP y.1.rng) := own_keep hy fun g hg' hlt => hg.block g hlt fun e => own_types hy h.part.row (by decide) hg' e.symm
    exact own_keep h1 fun g hg' _ => Below.heap_setCell _ _ _ _ (fun (e : g = Rb) => own_blkR h1 b7 (by decide) (by rw [hg', e]))
  refine ⟨(h.below.grown hg h.below.size (fun r e => by have := hr r e; omega)).setCell hR0 _, b7.set_ 0 v, ⟨?_, fun y hy => ?_⟩, ?_, ?_, ?_⟩
  · rw [flatL_snoc, List.length_append]
    exact own_keep hown fun g hg' _ => Below.heap_setCell _ _ _ _ (fun (e : g = Rb) => own_blkR hown b7 (by decide) (by rw [hg', e]))
  · rcases List.mem_append.1 hy with hy | hy
    · exact keepP y (h.part.prs y hy)
    · obtain rfl := List.mem_singleton.1 hy
      exact keepP y hx
  · exact (h.sq.trans (sqk_grown hg (fun r e => by have := hr r e; omega) hG)).trans (sqk_set _ _ _ _ (by omega) (.inl hR))
  · exact (h.kf.trans (kf_grown hg (own_row h.part.row))).trans (kf_set _ _ _ _ b7)
  · exact Nat.le_trans (Nat.le_trans h.size hg.size) (by simp [World.setCell])
/-- at the head of the inner round j -/
def InI (W0 : World) (Rb M : Nat) (p : List Rl) (j : Nat) (W : World) : Prop :=
  Below W0.heap.size W0 W ∧ M ≤ W.heap.size ∧ ∃ u ps, Blk W Rb 236 #[u] ∧ ps.map (·.1) = p.take j ∧ PartV M W ps u
theorem InI.own {W0 : World} {Rb M N : Nat} {p : List Rl} (hN : W0.heap.size ≤ N) : OwnFrom N (InI W0 Rb M p) := by
  rintro k W W' row ⟨h1, h2, u, ps, h3, h4, h5⟩ hg hr
  have hr' := fun r e => (hr r e).2
  exact ⟨below_nc h1 (Nat.le_refl _) hg (fun r e => Nat.le_trans hN (hr r e).1), Nat.le_trans h2 hg.size, u, ps, blk_nc h3 hg hr', h4, h5.nc hg hr'⟩
theorem InI.sq {W0 : World} {Rb M B : Nat} {p : List Rl} {j : Nat} {X Y : World} (h : InI W0 Rb M p j X) (hs : SqS B X Y) (hw : W0.heap.size ≤ B) (hR : Rb ≠ B) (hN : B < M) : InI W0 Rb M p j Y := by
  obtain ⟨v, rfl⟩ := hs
  obtain ⟨h1, h2, u, ps, h3, h4, h5⟩ := h
  exact ⟨h1.setCell hw _, by simpa [World.setCell] using h2, u, ps, h3.far hR _, h4, h5.keep fun g hg _ _ => Below.heap_setCell _ _ _ _ (by show g ≠ B; omega)⟩
/-- at the head of the outer round k -/
def OuI (w : World) (Ob N : Nat) (R : List (List Rl)) (k : Nat) (W : World) : Prop :=
  Below w.heap.size w W ∧ N ≤ W.heap.size ∧ ∃ v us, Blk W Ob 188 #[v] ∧ plainU us = R.take k ∧ RuleV N W us v
theorem OuI.own {w : World} {Ob N M : Nat} {R : List (List Rl)} (hM : w.heap.size ≤ M) : OwnFrom M (OuI w Ob N R) := by
  rintro k W W' row ⟨h1, h2, v, us, h3, h4, h5⟩ hg hr
  have hr' := fun r e => (hr r e).2
  exact ⟨below_nc h1 (Nat.le_refl _) hg (fun r e => Nat.le_trans hM (hr r e).1), Nat.le_trans h2 hg.size, v, us, blk_nc h3 hg hr', h4, h5.nc hg hr'⟩
theorem OuI.sq {w : World} {Ob N B : Nat} {R : List (List Rl)} {k : Nat} {X Y : World} (h : OuI w Ob N R k X) (hs : SqS B X Y) (hw : w.heap.size ≤ B) (hO : Ob ≠ B) (hN : B < N) : OuI w Ob N R k Y := by
  obtain ⟨v', rfl⟩ := hs
  obtain ⟨h1, h2, v, us, h3, h4, h5⟩ := h
  refine ⟨h1.setCell hw _, by simpa [World.setCell] using h2, v, us, h3.far hO _, h4, own_keep h5.row fun g hg _ => Below.heap_setCell _ _ _ _ (by have := (own_lt h5.row hg).1; show g ≠ B; omega), fun x hx => (h5.part x hx).keep fun g hg _ _ => Below.heap_setCell _ _ _ _ (by show g ≠ B; omega)⟩
theorem info_rlR : (Tryz.prog.info? 239).map (fun i => (i.zero, i.size, i.bytes)) = some (some (.agg #[.int .u8 0, .int .i64 0, .bool false, .slice none 0 0]), 4, 48) := by kernel_rfl
theorem info_partR : (Tryz.prog.info? 236).map (fun i => (i.zero, i.size, i.bytes)) = some (some (.slice none 0 0), 1, 24) := by kernel_rfl
end Go.Proofs.YtjdfpoppimcikaaGreatDoor
