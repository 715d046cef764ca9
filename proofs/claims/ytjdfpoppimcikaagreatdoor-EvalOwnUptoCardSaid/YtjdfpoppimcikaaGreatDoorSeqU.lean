/- A range over strings.SplitSeq in one form: the two laws with an assignment of one slot; strings.Cut and SplitSeq as contracts; what keeps a row and a box. -/
import Derived.Stop.RegionWithIn
import Derived.Sort.CutIn
import Derived.Test.YtjdfpoppimcikaaGreatDoorRuleH
namespace Go.Proofs.YtjdfpoppimcikaaGreatDoor
open Go.RowKit Go.Shelf

theorem maxR {w : World} (h : RV w) : ∃ m : Int, w.cell? ⟨5, 0, none⟩ = some (.int .i64 m) := h.max
theorem cutR_any (s sep : List UInt8) (w : World) (hs : s.length ≤ 2000000000) (hv : RV w) :
    Calls Tryz.prog 89 #[.string (str s), .string (str sep)] w fun e w' => e = .returned (.tuple #[.string (str (Lib.cut s sep).1), .string (str (Lib.cut s sep).2.1), .bool (Lib.cut s sep).2.2]) ∧ Below w.heap.size w w' := by
  obtain ⟨m, hm⟩ := hv.max
  have h := Tryz.strings_Cut (str s) (str sep) m w (by rw [str_size]; omega) hm
  have e1 : (str s).data.toList = s := bts_str s
  have e2 : (str sep).data.toList = sep := bts_str sep
  rw [e1, e2] at h
  refine h.mono ?_
  rintro e w' ⟨rfl, n, rfl⟩
  exact ⟨rfl, below_drewN (Below.refl _ _) n⟩
set_option maxHeartbeats 800000 in
theorem splitSeq_any (s sep : List UInt8) (w : World) :
    Calls Tryz.prog 155 #[.string (str s), .string (str sep), .int .i64 0] w fun e w' => e = .returned (.func (.func 177) #[] #[.pointer (some ⟨w.heap.size + 1, 0, none⟩), .pointer (some ⟨w.heap.size, 0, none⟩), .pointer (some ⟨w.heap.size + 2, 0, none⟩)]) ∧
      w' = ((w.alloc (.cells #[.string (str s)] 9)).alloc (.cells #[.string (str sep)] 9)).alloc (.cells #[.int .i64 0] 3) := by
  go_enter Tryz.func155, Tryz.ntmps155
  go_wp2_with fail
  go_ret
  exact ⟨rfl, rfl⟩
set_option maxHeartbeats 800000 in
theorem SplitSeq_any (s sep : List UInt8) (w : World) (hv : RV w) :
    Calls Tryz.prog 133 #[.string (str s), .string (str sep)] w fun e w' => e = .returned (.func (.func 177) #[] #[.pointer (some ⟨w.heap.size + 1, 0, none⟩), .pointer (some ⟨w.heap.size, 0, none⟩), .pointer (some ⟨w.heap.size + 2, 0, none⟩)]) ∧
      Below w.heap.size w w' ∧ w'.heap.size = w.heap.size + 3 ∧ SqB w' w.heap.size s sep := by
  have H := Lib.hid (splitSeq_any s sep w)
  have HM : Hid (RV w) := Lib.hid hv
  clear hv
  go_enter Tryz.func133, Tryz.ntmps133
  go_wp2_with fail
  refine H.out.mono ?_
  clear H
  rintro e w1 ⟨rfl, e1⟩
  have hb : Below w.heap.size w w1 := by rw [e1]; exact (((Below.refl _ _).alloc (Nat.le_refl _) _).alloc (by simp) _).alloc (by simp; omega) _
  have hz : w1.heap.size = w.heap.size + 3 := by rw [e1]; simp
  have hq : SqB w1 w.heap.size s sep := by
    refine ⟨?_, ?_, ?_, (HM.out.below hb).max⟩
    · rw [e1]; exact ((Blk.new w _ _).alloc _).alloc _
    · rw [e1]
      have := (Blk.new (w.alloc (.cells #[.string (str s)] 9)) 9 #[.string (str sep)]).alloc (.cells #[.int .i64 0] 3)
      rwa [World.size_alloc] at this
    · rw [e1]
      have := Blk.new ((w.alloc (.cells #[.string (str s)] 9)).alloc (.cells #[.string (str sep)] 9)) 3 #[.int .i64 0]
      rwa [World.size_alloc, World.size_alloc] at this
  have HA : Hid (Below w.heap.size w w1 ∧ w1.heap.size = w.heap.size + 3 ∧ SqB w1 w.heap.size s sep) := Lib.hid ⟨hb, hz, hq⟩
  clear e1 hb hz hq
  go_wp2_with fail
  go_ret
  exact ⟨rfl, HA.out⟩

/- ## The laws, at an assignment of one slot -/
variable {F : Fence} {n : Nat} {P : Program}
theorem range_outer1 {α : Type} {g : Operand} {p : Tmp} {assign body : Code} {Q : Exit → Act → World → Prop} {a : Act} {w : World}
    (hro : F.round = none) (h1 : 1 ≤ n) {gf : Nat} {lb : Array Value} (hg : a.eval g = .func (.func gf) #[] lb) (hFg : F.fn gf) (eg : ∀ args w, (callFunc gf args).run P w = .ok (.enter gf args) w)
    {enc : α → Value} {xs : List α} {St Kp : World → World → Prop} {w0 : World} (hseq : SeqT F (n - 1) P gf lb enc xs St Kp w0)
    (hK0 : Kp w0 w) (hKr : ∀ A : World, Kp A A) (hKt : ∀ {A B C : World}, Kp A B → Kp B C → Kp A C) (hKa : ∀ (W : World) (o : Obj), w.heap.size ≤ W.heap.size → Kp W (W.alloc o)) (hKb : ∀ (W : World) (l : Nat) (o o' : Obj), w.heap.size ≤ l → W.heap[l]? = some o → o.isCells = false → o.isWalk = false → Kp W (W.putObj l o'))
    (hSt : ∀ A B, St A B → ∀ i, w.heap.size ≤ i → B.heap[i]? = A.heap[i]?)
    (I : Nat → World → Prop) (hI : OwnFrom w.heap.size I) (hIs : ∀ k A B, I k A → St A B → I k B) (h0 : I 0 w) (d : Nat)
    (hassign : ∀ (l : Nat) (v : Value) (W : World) (K : Act → World → Prop), K { tmps := (a.tmps.setIfInBounds p v).setIfInBounds d v, defers := [] } W →
      assign.wpIn (F.inRound l) (n - 1 - 1) P (Exit.then K (fun _ _ _ => False)) { tmps := a.tmps.setIfInBounds p v, defers := [] } W)
    (hbody : ∀ (l k : Nat) (hk : k < xs.length) (W : World), (∃ r, W.heap[l]? = some (.loop r)) → I k W → body.wpIn (F.inRound l) (n - 1 - 1) P (roundT w.heap.size Kp I (k + 1) W) { tmps := (a.tmps.setIfInBounds p (enc xs[k])).setIfInBounds d (enc xs[k]), defers := [] } W)
    (hdone : ∀ (D : Nat) (W : World), w.heap.size ≤ D → I xs.length W → W.heap[D]? = some (.deferred (some [])) → Q .normal { a with defers := { target := .collected D, args := #[] } :: a.defers } W) :
    (Code.rangeFunc g #[p] assign body).wpIn F n P Q a w :=
  range_outer hro h1 hg hFg eg hseq hK0 hKt hKa hKb hSt I hI hIs h0
    (fun k a' _ => ∀ hk : k < xs.length, a' = { tmps := (a.tmps.setIfInBounds p (enc xs[k])).setIfInBounds d (enc xs[k]), defers := [] })
    (fun _ _ _ _ _ _ hs _ _ => hs)
    (fun l _ _ W K hi hK => hassign l _ W K (hK _ W (KeepsFrom.refl _ _) (hKr _) hi fun _ => rfl))
    (fun l k hk a' W _ hl hi ha => by rw [ha hk]; exact hbody l k hk W hl hi)
    hdone
theorem range_inner1 {α : Type} {g : Operand} {p : Tmp} {assign body : Code} {Q : Exit → Act → World → Prop} {a : Act} {w : World}
    {l₀ : Nat} {r₀ : Loop} (hro : F.round = some l₀) (hl₀ : w.heap[l₀]? = some (.loop r₀)) (h1 : 1 ≤ n) {gf : Nat} {lb : Array Value} (hg : a.eval g = .func (.func gf) #[] lb) (hFg : F.fn gf) (eg : ∀ args w, (callFunc gf args).run P w = .ok (.enter gf args) w)
    {enc : α → Value} {xs : List α} {St Kp : World → World → Prop} {w0 : World} (hseq : SeqT F (n - 1) P gf lb enc xs St Kp w0)
    (hK0 : Kp w0 w) (hKr : ∀ A : World, Kp A A) (hKt : ∀ {A B C : World}, Kp A B → Kp B C → Kp A C) (hKa : ∀ (W : World) (o : Obj), w.heap.size ≤ W.heap.size → Kp W (W.alloc o)) (hKb : ∀ (W : World) (l : Nat) (o o' : Obj), w.heap.size ≤ l → W.heap[l]? = some o → o.isCells = false → o.isWalk = false → Kp W (W.putObj l o'))
    (hSt : ∀ A B, St A B → ∀ i, w.heap.size ≤ i → B.heap[i]? = A.heap[i]?)
    (I : Nat → World → Prop) (hI : OwnFrom w.heap.size I) (hIs : ∀ k A B, I k A → St A B → I k B) (h0 : I 0 w) (d : Nat)
    (hassign : ∀ (l : Nat) (v : Value) (W : World) (K : Act → World → Prop), K { tmps := (a.tmps.setIfInBounds p v).setIfInBounds d v, defers := [] } W →
      assign.wpIn (F.inRound l) (n - 1 - 1) P (Exit.then K (fun _ _ _ => False)) { tmps := a.tmps.setIfInBounds p v, defers := [] } W)
    (hbody : ∀ (l k : Nat) (hk : k < xs.length) (W : World), (∃ r, W.heap[l]? = some (.loop r)) → I k W → body.wpIn (F.inRound l) (n - 1 - 1) P (roundT w.heap.size Kp I (k + 1) W) { tmps := (a.tmps.setIfInBounds p (enc xs[k])).setIfInBounds d (enc xs[k]), defers := [] } W)
    (hdone : ∀ (W : World), I xs.length W → Q .normal a W) :
    (Code.rangeFunc g #[p] assign body).wpIn F n P Q a w :=
  range_inner hro hl₀ h1 hg hFg eg hseq hK0 hKt hKa hKb hSt I hI hIs h0
    (fun k a' _ => ∀ hk : k < xs.length, a' = { tmps := (a.tmps.setIfInBounds p (enc xs[k])).setIfInBounds d (enc xs[k]), defers := [] })
    (fun _ _ _ _ _ _ hs _ _ => hs)
    (fun l _ _ W K hi hK => hassign l _ W K (hK _ W (KeepsFrom.refl _ _) (hKr _) hi fun _ => rfl))
    (fun l k hk a' W _ hl hi ha => by rw [ha hk]; exact hbody l k hk W hl hi)
    hdone

/- ## What stays -/
theorem blk_nc {W W' : World} {g : Nat} {t : TypeId} {cs : Array Value} {row : Option Nat} (h : Blk W g t cs) (hg : W.grownBy W' row) (hr : ∀ r, row = some r → ∃ o : Obj, W.heap[r]? = some o ∧ o.isCells = false) : Blk W' g t cs :=
  blkGrown h hg fun e => by
    obtain ⟨o, ho, hc⟩ := hr g e.symm
    unfold Blk at h
    rw [h] at ho
    injection ho with ho
    subst ho
    cases hc
theorem own_nc {W W' : World} {base : Nat} {e : TypeId} {size : Nat} {v : Value} {m : Nat} {xs : List Value} {row : Option Nat} (h : W.ownsRow base e size v m xs) (hg : W.grownBy W' row) (hr : ∀ r, row = some r → ∃ o : Obj, W.heap[r]? = some o ∧ o.isCells = false) : W'.ownsRow base e size v m xs := by
  obtain ⟨h1, h2 | ⟨g, cap, cur, hv, hb, hh, r⟩⟩ := h
  · exact ⟨h1, .inl h2⟩
  · exact ⟨h1, .inr ⟨g, cap, cur, hv, hb, blk_nc (t := e) (cs := cur) hh hg hr, r⟩⟩
theorem below_nc {W W' w0 : World} {B : Nat} {row : Option Nat} (h : Below B w0 W) (hB : B ≤ w0.heap.size) (hg : W.grownBy W' row) (hr : ∀ r, row = some r → B ≤ r) : Below B w0 W' :=
  h.grown hg (Nat.le_trans hB h.size) hr
theorem own_blkR {w : World} {base : Nat} {e t : TypeId} {size : Nat} {v : Value} {m : Nat} {xs : List Value} {g : Nat} {cs : Array Value} (h : w.ownsRow base e size v m xs) (k : Blk w g t cs) (hne : e ≠ t) : v.ownBlock ≠ some g := by
  intro hg
  obtain ⟨_, ⟨h2, _⟩ | ⟨g', cap, cur, hv, hb, hh, r⟩⟩ := h
  · rw [h2] at hg; cases hg
  · rw [hv] at hg; injection hg with hg; subst hg
    unfold Blk at k
    rw [hh] at k
    injection k with k
    injection k with _ k
    exact hne k
theorem sqk_alloc {B : Nat} (W : World) (o : Obj) (h : B + 3 ≤ W.heap.size) (hg : 5 < W.heap.size) : SqK B W (W.alloc o) :=
  ⟨by simp, fun i hi hl => Below.heap_alloc _ _ _ hl⟩
theorem sqk_put {B N : Nat} (W : World) (l : Nat) (o' : Obj) (hB : B + 3 ≤ N) (hG : 5 < B) (hl : N ≤ l) : SqK B W (W.putObj l o') :=
  ⟨by simp [World.putObj], fun i hi _ => World.putObj_heap_other (by rcases hi with rfl | ⟨_, h⟩ <;> omega)⟩
theorem sqk_below {B : Nat} {W W' : World} (h : Below W.heap.size W W') : SqK B W W' := ⟨h.size, fun i _ hl => h.block i hl⟩
theorem sqk_grown {B : Nat} {W W' : World} {row : Option Nat} (hg : W.grownBy W' row) (hr : ∀ r, row = some r → B + 3 ≤ r) (hG : 5 < B) : SqK B W W' :=
  ⟨hg.size, fun i hi hl => hg.block i hl fun e => by
    have := hr i e.symm
    rcases hi with rfl | ⟨_, h⟩ <;> omega⟩
theorem sqk_set {B : Nat} (W : World) (q o : Nat) (v : Value) (hq : q ≠ 5) (h : q < B ∨ B + 3 ≤ q) : SqK B W (W.setCell ⟨q, o, none⟩ v) :=
  ⟨by simp [World.setCell], fun i hi _ => Below.heap_setCell _ _ _ _ (by show i ≠ q; rcases hi with rfl | ⟨h1, h2⟩ <;> omega)⟩
theorem kf_below {N : Nat} {W W' : World} (h : Below W.heap.size W W') : KeepsFrom N W W' := ⟨h.size, fun k o _ hk _ => (h.block k (Array.getElem?_eq_some_iff.1 hk).1).trans hk⟩
theorem kf_grown {N : Nat} {W W' : World} {row : Option Nat} (hg : W.grownBy W' row) (hr : ∀ r, row = some r → ∃ (cs : Array Value) (t : TypeId), Blk W r t cs) : KeepsFrom N W W' :=
  ⟨hg.size, fun k o _ hk ho => (hg.block k (Array.getElem?_eq_some_iff.1 hk).1 fun e => by
    obtain ⟨cs, t, hb⟩ := hr k e.symm
    unfold Blk at hb
    rw [hb] at hk
    injection hk with hk
    subst hk
    cases ho).trans hk⟩
theorem kf_set {N : Nat} (W : World) (q o : Nat) (v : Value) {t : TypeId} {cs : Array Value} (h : Blk W q t cs) : KeepsFrom N W (W.setCell ⟨q, o, none⟩ v) :=
  ⟨by simp [World.setCell], fun k ob _ hk ho => (Below.heap_setCell _ _ _ _ (by
    intro (e : k = q)
    subst e
    unfold Blk at h
    rw [h] at hk
    injection hk with hk
    subst hk
    cases ho)).trans hk⟩
theorem own_row {W : World} {base : Nat} {e : TypeId} {size : Nat} {v : Value} {m : Nat} {xs : List Value} (h : W.ownsRow base e size v m xs) : ∀ r, v.ownBlock = some r → ∃ (cs : Array Value) (t : TypeId), Blk W r t cs := by
  intro r hr
  obtain ⟨_, ⟨h2, _⟩ | ⟨g, cap, cur, hv, hb, hh, _⟩⟩ := h
  · rw [h2] at hr; cases hr
  · rw [hv] at hr; injection hr with hr; subst hr
    exact ⟨_, _, hh⟩
end Go.Proofs.YtjdfpoppimcikaaGreatDoor
