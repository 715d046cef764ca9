/- A range over a function whose iterator keeps state of its own in cells (a captured variable that it writes): the law for the caller, at a loop that ends by itself. -/
import Derived.RangeFuncNested
import Derived.RangeFuncBound
import Derived.RangeFuncCalls
import Derived.RangeFuncLeaves
import Derived.Test.YtokjbdefkfdhhaaDoorBase
namespace Go.Proofs.YtokjbdefkfdhhaaDoor
open Go.RowKit

/-- The iterator's promise: it hands xs to yield, one by one, where each round goes on; J abides its steps (new blocks, and St: what it writes of its own); the rounds keep Kp. -/
def SeqT {α : Type} (F : Fence) (n : Nat) (P : Program) (g : Nat) (lb : Array Value) (enc : α → Value) (xs : List α) (St Kp : World → World → Prop) (w : World) : Prop :=
  ∀ (l : Nat) (J : Nat → World → Prop) (W : World), Kp w W → AbidesFrom W.heap.size J → (∀ k A B, J k A → St A B → J k B) →
    (∀ k (hk : k < xs.length) A, J k A → YieldAt F (n - 1) P l #[enc xs[k]] A fun e B => e = .returned (.bool true) ∧ J (k + 1) B ∧ Kp A B) →
    J 0 W → CallsIn F n P g (#[.func (.yield l) #[] #[]] ++ lb) W fun e B => (∃ v, e = .returned v) ∧ J xs.length B

/-- What a round's body owes. -/
def roundT (B : Nat) (Kp : World → World → Prop) (I : Nat → World → Prop) (k : Nat) (W : World) : Exit → Act → World → Prop
  | .normal, _, W' => KeepsFrom B W W' ∧ Kp W W' ∧ I k W'
  | _, _, _ => False

theorem zip_one (p : Tmp) (v : Value) (t : Array Value) : ((#[p]).zip #[v]).foldl (fun tmps (q, u) => tmps.setIfInBounds q u) t = t.setIfInBounds p v := by simp

variable {F : Fence} {n : Nat} {P : Program}
/-- within a round of loop l₀ -/
theorem range_inner {α : Type} {g : Operand} {p : Tmp} {assign body : Code} {Q : Exit → Act → World → Prop} {a : Act} {w : World}
    {l₀ : Nat} {r₀ : Loop} (hro : F.round = some l₀) (hl₀ : w.heap[l₀]? = some (.loop r₀)) (h1 : 1 ≤ n) {gf : Nat} {lb : Array Value} (hg : a.eval g = .func (.func gf) #[] lb) (hFg : F.fn gf) (eg : ∀ args w, (callFunc gf args).run P w = .ok (.enter gf args) w)
    {enc : α → Value} {xs : List α} {St Kp : World → World → Prop} {w0 : World} (hseq : SeqT F (n - 1) P gf lb enc xs St Kp w0)
    (hK0 : Kp w0 w) (hKt : ∀ {A B C : World}, Kp A B → Kp B C → Kp A C) (hKa : ∀ (W : World) (o : Obj), w.heap.size ≤ W.heap.size → Kp W (W.alloc o)) (hKb : ∀ (W : World) (l : Nat) (o o' : Obj), w.heap.size ≤ l → W.heap[l]? = some o → o.isCells = false → o.isWalk = false → Kp W (W.putObj l o'))
    (hSt : ∀ A B, St A B → ∀ i, w.heap.size ≤ i → B.heap[i]? = A.heap[i]?)
    (I : Nat → World → Prop) (hI : OwnFrom w.heap.size I) (hIs : ∀ k A B, I k A → St A B → I k B) (h0 : I 0 w) (Ax : Nat → Act → World → Prop) (hAx : ∀ k a', OwnFrom w.heap.size (fun (_ : Unit) W => Ax k a' W))
    (hassign : ∀ (l k : Nat) (hk : k < xs.length) (W : World) (K : Act → World → Prop), I k W → (∀ a' W', KeepsFrom w.heap.size W W' → Kp W W' → I k W' → Ax k a' W' → K a' W') →
      assign.wpIn (F.inRound l) (n - 1 - 1) P (Exit.then K (fun _ _ _ => False)) { tmps := a.tmps.setIfInBounds p (enc xs[k]), defers := [] } W)
    (hbody : ∀ (l k : Nat) (hk : k < xs.length) (a' : Act) (W : World), w.heap.size ≤ l → (∃ r, W.heap[l]? = some (.loop r)) → I k W → Ax k a' W → body.wpIn (F.inRound l) (n - 1 - 1) P (roundT w.heap.size Kp I (k + 1) W) a' W)
    (hdone : ∀ (W : World), I xs.length W → Q .normal a W) :
    (Code.rangeFunc g #[p] assign body).wpIn F n P Q a w := by
  refine wpIn_rangeFunc fun fn hfn => ?_
  rw [hro]
  obtain ⟨rec, hrec⟩ : ∃ rec : LoopState → Loop, rec = fun st => { state := st, pending := none, fn, tmps := a.tmps, params := #[p], assign, body, defers := r₀.defers } := ⟨_, rfl⟩
  obtain ⟨W1, hW1⟩ : ∃ W1, w.alloc (.loop (rec .ready)) = W1 := ⟨_, rfl⟩
  have hL1 : W1.heap[w.heap.size]? = some (.loop (rec .ready)) := by rw [← hW1]; exact World.alloc_heap_new w _
  have hs1 : W1.heap.size = w.heap.size + 1 := by rw [← hW1]; simp
  have hI1 : I 0 W1 := by rw [← hW1]; exact hI.alloc _ h0
  have hK1 : Kp w0 W1 := by rw [← hW1]; exact hKt hK0 (hKa w _ (Nat.le_refl _))
  refine ⟨w.heap.size, [], W1, { target := .fn (.func gf) lb, args := #[.func (.yield w.heap.size) #[] #[]] }, W1, gf, #[.func (.yield w.heap.size) #[] #[]] ++ lb, W1, ?_, ?_, ?_, ?_, fun _ => h1, ?_⟩
  · rw [← hW1, hrec]; exact run_enterLoop_inner hl₀ _ _ _ _ _
  · simp only [resolve, hg]
    simp [go_sem]
  · intro f' hf'; simp [Target.leads] at hf'; subst hf'; exact hFg
  · simp [invoke, go_sem, eg]
  · refine (hseq w.heap.size (fun k W => I k W ∧ W.heap[w.heap.size]? = some (.loop (rec .ready))) W1 hK1 ?_ ?_ ?_ ⟨hI1, hL1⟩).mono ?_
    · rintro k A B row ⟨hi, hl⟩ hgr hr
      have hr' : ∀ r, row = some r → w.heap.size ≤ r ∧ ∃ o : Obj, A.heap[r]? = some o ∧ o.isCells = false := fun r e => by
        obtain ⟨hB, o, ho, hw⟩ := hr r e
        exact ⟨by omega, o, ho, Obj.not_cells_of_walk hw⟩
      exact ⟨hI k A B row hi hgr hr', (grownBy_keeps hgr (fun r e => (hr r e).2) hl rfl).trans hl⟩
    · rintro k A B ⟨hi, hl⟩ hst
      exact ⟨hIs k A B hi hst, (hSt A B hst _ (Nat.le_refl _)).trans hl⟩
    · rintro k hk W ⟨hi, hl⟩
      have hy := run_yield (P := P) (args := #[enc xs[k]]) hl (by rw [hrec]; rfl)
      rw [hrec] at hy
      replace hy := hy.trans (congrArg (fun t => Result.ok (Next.round _ fn t assign body) W) (zip_one p (enc xs[k]) a.tmps))
      refine ⟨fn, _, assign, body, hy, roundIn_of_wpIn hfn (hassign _ k hk W _ hi ?_)⟩
      clear hy
      intro a' Wa hkf hkp hia hax
      have hla := hkf.same _ _ (Nat.le_refl _) hl rfl
      have hlt : w.heap.size < Wa.heap.size := (Array.getElem?_eq_some_iff.1 hla).1
      refine ⟨_, run_beginRound hla (by rw [hrec]), ?_⟩
      have hl2 : (Wa.putObj w.heap.size (.loop { rec .ready with state := .busy })).heap[w.heap.size]? = some (.loop { rec .ready with state := .busy }) := World.putObj_heap_same hlt
      have hkp2 : Kp Wa (Wa.putObj w.heap.size (.loop { rec .ready with state := .busy })) := hKb _ _ _ _ (Nat.le_refl _) hla rfl rfl
      refine wpIn_mono (hbody _ k hk a' _ (Nat.le_refl _) ⟨_, hl2⟩ (hI.putObj _ hia (Nat.le_refl _) hla rfl) ((hAx k a').putObj (s := ()) _ hax (Nat.le_refl _) hla rfl)) ?_
      rintro e a3 W3 hp
      cases e with
      | normal =>
        obtain ⟨hk3, hkp3, hi3⟩ := hp
        have hl3 := hk3.same _ _ (Nat.le_refl _) hl2 rfl
        have hend := run_endRound (P := P) none hl3
        have hl4 : (W3.putObj w.heap.size (.loop (rec .ready))).heap[w.heap.size]? = some (.loop (rec .ready)) := World.putObj_heap_same (Array.getElem?_eq_some_iff.1 hl3).1
        rw [hrec] at hend hl4 hl3
        refine ⟨_, _, hend, rfl, ⟨hI.putObj _ hi3 (Nat.le_refl _) hl3 rfl, ?_⟩, hKt hkp (hKt (hKt hkp2 hkp3) (hKb _ _ _ _ (Nat.le_refl _) hl3 rfl rfl))⟩
        rw [hrec]; exact hl4
      | ret => exact hp.elim
      | exit id => exact hp.elim
      | goto t => exact hp.elim
      | panic ch => exact hp.elim
      | outgrown => exact hp.elim
    · rintro e W2 ⟨⟨v, rfl⟩, hi, hl⟩
      exact ⟨none, _, by have := run_endLoop (P := P) hl (by rw [hrec]; simp); rw [hrec] at this; exact this, hdone _ (hI.putObj _ hi (Nat.le_refl _) hl rfl)⟩

/-- at an outermost loop -/
theorem range_outer {α : Type} {g : Operand} {p : Tmp} {assign body : Code} {Q : Exit → Act → World → Prop} {a : Act} {w : World}
    (hro : F.round = none) (h1 : 1 ≤ n) {gf : Nat} {lb : Array Value} (hg : a.eval g = .func (.func gf) #[] lb) (hFg : F.fn gf) (eg : ∀ args w, (callFunc gf args).run P w = .ok (.enter gf args) w)
    {enc : α → Value} {xs : List α} {St Kp : World → World → Prop} {w0 : World} (hseq : SeqT F (n - 1) P gf lb enc xs St Kp w0)
    (hK0 : Kp w0 w) (hKt : ∀ {A B C : World}, Kp A B → Kp B C → Kp A C) (hKa : ∀ (W : World) (o : Obj), w.heap.size ≤ W.heap.size → Kp W (W.alloc o)) (hKb : ∀ (W : World) (l : Nat) (o o' : Obj), w.heap.size ≤ l → W.heap[l]? = some o → o.isCells = false → o.isWalk = false → Kp W (W.putObj l o'))
    (hSt : ∀ A B, St A B → ∀ i, w.heap.size ≤ i → B.heap[i]? = A.heap[i]?)
    (I : Nat → World → Prop) (hI : OwnFrom w.heap.size I) (hIs : ∀ k A B, I k A → St A B → I k B) (h0 : I 0 w) (Ax : Nat → Act → World → Prop) (hAx : ∀ k a', OwnFrom w.heap.size (fun (_ : Unit) W => Ax k a' W))
    (hassign : ∀ (l k : Nat) (hk : k < xs.length) (W : World) (K : Act → World → Prop), I k W → (∀ a' W', KeepsFrom w.heap.size W W' → Kp W W' → I k W' → Ax k a' W' → K a' W') →
      assign.wpIn (F.inRound l) (n - 1 - 1) P (Exit.then K (fun _ _ _ => False)) { tmps := a.tmps.setIfInBounds p (enc xs[k]), defers := [] } W)
    (hbody : ∀ (l k : Nat) (hk : k < xs.length) (a' : Act) (W : World), w.heap.size ≤ l → (∃ r, W.heap[l]? = some (.loop r)) → I k W → Ax k a' W → body.wpIn (F.inRound l) (n - 1 - 1) P (roundT w.heap.size Kp I (k + 1) W) a' W)
    (hdone : ∀ (D : Nat) (W : World), w.heap.size ≤ D → I xs.length W → W.heap[D]? = some (.deferred (some [])) → Q .normal { a with defers := { target := .collected D, args := #[] } :: a.defers } W) :
    (Code.rangeFunc g #[p] assign body).wpIn F n P Q a w := by
  refine wpIn_rangeFunc fun fn hfn => ?_
  rw [hro]
  obtain ⟨rec, hrec⟩ : ∃ rec : LoopState → Loop, rec = fun st => { state := st, pending := none, fn, tmps := a.tmps, params := #[p], assign, body, defers := w.heap.size } := ⟨_, rfl⟩
  obtain ⟨W1, hW1⟩ : ∃ W1, (w.alloc (.deferred (some []))).alloc (.loop (rec .ready)) = W1 := ⟨_, rfl⟩
  have hs1 : W1.heap.size = w.heap.size + 2 := by rw [← hW1]; simp
  have hL1 : W1.heap[w.heap.size + 1]? = some (.loop (rec .ready)) := by
    rw [← hW1]; have := World.alloc_heap_new (w.alloc (.deferred (some []))) (.loop (rec .ready)); rwa [World.size_alloc] at this
  have hD1 : W1.heap[w.heap.size]? = some (.deferred (some [])) := by
    rw [← hW1]; exact (Below.heap_alloc _ _ _ (by simp)).trans (World.alloc_heap_new w _)
  have hI1 : I 0 W1 := by rw [← hW1]; exact hI.alloc _ (hI.alloc _ h0)
  have hK1 : Kp w0 W1 := by rw [← hW1]; exact hKt hK0 (hKt (hKa w _ (Nat.le_refl _)) (hKa _ _ (by simp)))
  refine ⟨w.heap.size + 1, [{ target := .collected w.heap.size, args := #[] }], W1, { target := .fn (.func gf) lb, args := #[.func (.yield (w.heap.size + 1)) #[] #[]] }, W1, gf, #[.func (.yield (w.heap.size + 1)) #[] #[]] ++ lb, W1, ?_, ?_, ?_, ?_, fun _ => h1, ?_⟩
  · rw [← hW1, hrec]; exact run_enterLoop_outer _ _ _ _ _
  · simp only [resolve, hg]
    simp [go_sem]
  · intro f' hf'; simp [Target.leads] at hf'; subst hf'; exact hFg
  · simp [invoke, go_sem, eg]
  · refine (hseq (w.heap.size + 1) (fun k W => I k W ∧ W.heap[w.heap.size + 1]? = some (.loop (rec .ready)) ∧ W.heap[w.heap.size]? = some (.deferred (some []))) W1 hK1 ?_ ?_ ?_ ⟨hI1, hL1, hD1⟩).mono ?_
    · rintro k A B row ⟨hi, hl, hd⟩ hgr hr
      have hr' : ∀ r, row = some r → w.heap.size ≤ r ∧ ∃ o : Obj, A.heap[r]? = some o ∧ o.isCells = false := fun r e => by
        obtain ⟨hB, o, ho, hw⟩ := hr r e
        exact ⟨by omega, o, ho, Obj.not_cells_of_walk hw⟩
      exact ⟨hI k A B row hi hgr hr', (grownBy_keeps hgr (fun r e => (hr r e).2) hl rfl).trans hl, (grownBy_keeps hgr (fun r e => (hr r e).2) hd rfl).trans hd⟩
    · rintro k A B ⟨hi, hl, hd⟩ hst
      exact ⟨hIs k A B hi hst, (hSt A B hst _ (by omega)).trans hl, (hSt A B hst _ (Nat.le_refl _)).trans hd⟩
    · rintro k hk W ⟨hi, hl, hd⟩
      have hy := run_yield (P := P) (args := #[enc xs[k]]) hl (by rw [hrec]; rfl)
      rw [hrec] at hy
      replace hy := hy.trans (congrArg (fun t => Result.ok (Next.round _ fn t assign body) W) (zip_one p (enc xs[k]) a.tmps))
      refine ⟨fn, _, assign, body, hy, roundIn_of_wpIn hfn (hassign _ k hk W _ hi ?_)⟩
      clear hy
      intro a' Wa hkf hkp hia hax
      have hla := hkf.same _ _ (by omega) hl rfl
      have hda := hkf.same _ _ (Nat.le_refl _) hd rfl
      have hlt : w.heap.size + 1 < Wa.heap.size := (Array.getElem?_eq_some_iff.1 hla).1
      refine ⟨_, run_beginRound hla (by rw [hrec]), ?_⟩
      have hl2 : (Wa.putObj (w.heap.size + 1) (.loop { rec .ready with state := .busy })).heap[w.heap.size + 1]? = some (.loop { rec .ready with state := .busy }) := World.putObj_heap_same hlt
      have hd2 : (Wa.putObj (w.heap.size + 1) (.loop { rec .ready with state := .busy })).heap[w.heap.size]? = some (.deferred (some [])) := (World.putObj_heap_other (by omega)).trans hda
      have hkp2 : Kp Wa (Wa.putObj (w.heap.size + 1) (.loop { rec .ready with state := .busy })) := hKb _ _ _ _ (by omega) hla rfl rfl
      refine wpIn_mono (hbody _ k hk a' _ (by omega) ⟨_, hl2⟩ (hI.putObj _ hia (by omega) hla rfl) ((hAx k a').putObj (s := ()) _ hax (by omega) hla rfl)) ?_
      rintro e a3 W3 hp
      cases e with
      | normal =>
        obtain ⟨hk3, hkp3, hi3⟩ := hp
        have hl3 := hk3.same _ _ (by omega) hl2 rfl
        have hd3 := hk3.same _ _ (Nat.le_refl _) hd2 rfl
        have hend := run_endRound (P := P) none hl3
        have hl4 : (W3.putObj (w.heap.size + 1) (.loop (rec .ready))).heap[w.heap.size + 1]? = some (.loop (rec .ready)) := World.putObj_heap_same (Array.getElem?_eq_some_iff.1 hl3).1
        rw [hrec] at hend hl4 hl3
        refine ⟨_, _, hend, rfl, ⟨hI.putObj _ hi3 (by omega) hl3 rfl, ?_, (World.putObj_heap_other (by omega)).trans hd3⟩, hKt hkp (hKt (hKt hkp2 hkp3) (hKb _ _ _ _ (by omega) hl3 rfl rfl))⟩
        rw [hrec]; exact hl4
      | ret => exact hp.elim
      | exit id => exact hp.elim
      | goto t => exact hp.elim
      | panic ch => exact hp.elim
      | outgrown => exact hp.elim
    · rintro e W2 ⟨⟨v, rfl⟩, hi, hl, hd⟩
      exact ⟨none, _, by have := run_endLoop (P := P) hl (by rw [hrec]; simp); rw [hrec] at this; exact this, hdone _ _ (Nat.le_refl _) (hI.putObj _ hi (by omega) hl rfl) ((World.putObj_heap_other (by omega)).trans hd)⟩
end Go.Proofs.YtokjbdefkfdhhaaDoor
