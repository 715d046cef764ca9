/- A range over strings.SplitSeq in one form: the two laws with an assignment of one slot; strings.Cut and SplitSeq as contracts; what keeps a row and a box. -/
import Derived.Stop.RegionWithIn
import Derived.Sort.CutIn
import Derived.Test.YtjdfpoppimcikaaGreatDoorRuleH
import Derived.OwnWalkIn
import Derived.RangeFuncCalls
import Derived.OrdersIn
import Derived.Test.YtjdfpoppimcikaaGreatDoorRuleT
namespace Go.Proofs.YtjdfpoppimcikaaGreatDoor
open Go.RowKit Go.Shelf

theorem maxR {w : World} (h : RV w) : ∃ m : Int, w.cell? ⟨5, 0, none⟩ = some (.int .i64 m) := h.max
theorem cutR_any (s sep : List UInt8) (w : World) (hs : s.length ≤ 2000000000) (hv : RV w) :
    Calls Tryz.prog 89 #[.string (str s), .string (str sep)] w fun e w' => e = .returned (.tuple #[.string (str (Lib.cut s sep).1), .string (str (Lib.cut s sep).2.1), .bool (Lib.cut s sep).2.2]) ∧ Below w.heap.size w w' := by
  obtain ⟨m, hm⟩ := hv.max
  have h := Tryz.strings_Cut (str s) (str sep) m w (by rw [str_size]; omega) hm
  have e1 : (str s).data.toList = s := bts_str s
  have e2 : (str sep).data.toList = sep := bts_str sep
  rw [e1, e2] at h
  refine h.mono ?_
  rintro e w' ⟨rfl, n, rfl⟩
  exact ⟨rfl, below_drewN (Below.refl _ _) n⟩
set_option maxHeartbeats 800000 in
theorem splitSeq_any (s sep : List UInt8) (w : World) :
    Calls Tryz.prog 155 #[.string (str s), .string (str sep), .int .i64 0] w fun e w' => e = .returned (.func (.func 177) #[] #[.pointer (some ⟨w.heap.size + 1, 0, none⟩), .pointer (some ⟨w.heap.size, 0, none⟩), .pointer (some ⟨w.heap.size + 2, 0, none⟩)]) ∧
      w' = ((w.alloc (.cells #[.string (str s)] 9)).alloc (.cells #[.string (str sep)] 9)).alloc (.cells #[.int .i64 0] 3) := by
  go_enter Tryz.func155, Tryz.ntmps155
  go_wp2_with fail
  go_ret
  exact ⟨rfl, rfl⟩
set_option maxHeartbeats 800000 in
theorem SplitSeq_any (s sep : List UInt8) (w : World) (hv : RV w) :
    Calls Tryz.prog 133 #[.string (str s), .string (str sep)] w fun e w' => e = .returned (.func (.func 177) #[] #[.pointer (some ⟨w.heap.size + 1, 0, none⟩), .pointer (some ⟨w.heap.size, 0, none⟩), .pointer (some ⟨w.heap.size + 2, 0, none⟩)]) ∧
      Below w.heap.size w w' ∧ w'.heap.size = w.heap.size + 3 ∧ SqB w' w.heap.size s sep := by
  have H := Lib.hid (splitSeq_any s sep w)
  have HM : Hid (RV w) := Lib.hid hv
  clear hv
  go_enter Tryz.func133, Tryz.ntmps133
  go_wp2_with fail
  refine H.out.mono ?_
  clear H
  rintro e w1 ⟨rfl, e1⟩
  have hb : Below w.heap.size w w1 := by rw [e1]; exact (((Below.refl _ _).alloc (Nat.le_refl _) _).alloc (by simp) _).alloc (by simp; omega) _
  have hz : w1.heap.size = w.heap.size + 3 := by rw [e1]; simp
  have hq : SqB w1 w.heap.size s sep := by
    refine ⟨?_, ?_, ?_, (HM.out.below hb).max⟩
    · rw [e1]; exact ((Blk.new w _ _).alloc _).alloc _
    · rw [e1]
      have := (Blk.new (w.alloc (.cells #[.string (str s)] 9)) 9 #[.string (str sep)]).alloc (.cells #[.int .i64 0] 3)
      rwa [World.size_alloc] at this
    · rw [e1]
      have := Blk.new ((w.alloc (.cells #[.string (str s)] 9)).alloc (.cells #[.string (str sep)] 9)) 3 #[.int .i64 0]
      rwa [World.size_alloc, World.size_alloc] at this
  have HA : Hid (Below w.heap.size w w1 ∧ w1.heap.size = w.heap.size + 3 ∧ SqB w1 w.heap.size s sep) := Lib.hid ⟨hb, hz, hq⟩
  clear e1 hb hz hq
  go_wp2_with fail
  go_ret
  exact ⟨rfl, HA.out⟩

/- ## The laws, at an assignment of one slot -/
variable {F : Fence} {n : Nat} {P : Program}
theorem range_outer1 {α : Type} {g : Operand} {p : Tmp} {assign body : Code} {Q : Exit → Act → World → Prop} {a : Act} {w : World}
    (hro : F.round = none) (h1 : 1 ≤ n) {gf : Nat} {lb : Array Value} (hg : a.eval g = .func (.func gf) #[] lb) (hFg : F.fn gf) (eg : ∀ args w, (callFunc gf args).run P w = .ok (.enter gf args) w)
    {enc : α → Value} {xs : List α} {St Kp : World → World → Prop} {w0 : World} (hseq : SeqT F (n - 1) P gf lb enc xs St Kp w0)
    (hK0 : Kp w0 w) (hKr : ∀ A : World, Kp A A) (hKt : ∀ {A B C : World}, Kp A B → Kp B C → Kp A C) (hKa : ∀ (W : World) (o : Obj), w.heap.size ≤ W.heap.size → Kp W (W.alloc o)) (hKb : ∀ (W : World) (l : Nat) (o o' : Obj), w.heap.size ≤ l → W.heap[l]? = some o → o.isCells = false → o.isWalk = false → Kp W (W.putObj l o'))
    (hSt : ∀ A B, St A B → ∀ i, w.heap.size ≤ i → B.heap[i]? = A.heap[i]?)
    (I : Nat → World → Prop) (hI : OwnFrom w.heap.size I) (hIs : ∀ k A B, I k A → St A B → I k B) (h0 : I 0 w) (d : Nat)
    (hassign : ∀ (l : Nat) (v : Value) (W : World) (K : Act → World → Prop), K { tmps := (a.tmps.setIfInBounds p v).setIfInBounds d v, defers := [] } W →
      assign.wpIn (F.inRound l) (n - 1 - 1) P (Exit.then K (fun _ _ _ => False)) { tmps := a.tmps.setIfInBounds p v, defers := [] } W)
    (hbody : ∀ (l k : Nat) (hk : k < xs.length) (W : World), (∃ r, W.heap[l]? = some (.loop r)) → I k W → body.wpIn (F.inRound l) (n - 1 - 1) P (roundT w.heap.size Kp I (k + 1) W) { tmps := (a.tmps.setIfInBounds p (enc xs[k])).setIfInBounds d (enc xs[k]), defers := [] } W)
    (hdone : ∀ (D : Nat) (W : World), w.heap.size ≤ D → I xs.length W → W.heap[D]? = some (.deferred (some [])) → Q .normal { a with defers := { target := .collected D, args := #[] } :: a.defers } W) :
    (Code.rangeFunc g #[p] assign body).wpIn F n P Q a w :=
  range_outer hro h1 hg hFg eg hseq hK0 hKt hKa hKb hSt I hI hIs h0
    (fun k a' _ => ∀ hk : k < xs.length, a' = { tmps := (a.tmps.setIfInBounds p (enc xs[k])).setIfInBounds d (enc xs[k]), defers := [] })
    (fun _ _ _ _ _ _ hs _ _ => hs)
    (fun l _ _ W K hi hK => hassign l _ W K (hK _ W (KeepsFrom.refl _ _) (hKr _) hi fun _ => rfl))
    (fun l k hk a' W _ hl hi ha => by rw [ha hk]; exact hbody l k hk W hl hi)
    hdone
theorem range_inner1 {α : Type} {g : Operand} {p : Tmp} {assign body : Code} {Q : Exit → Act → World → Prop} {a : Act} {w : World}
    {l₀ : Nat} {r₀ : Loop} (hro : F.round = some l₀) (hl₀ : w.heap[l₀]? = some (.loop r₀)) (h1 : 1 ≤ n) {gf : Nat} {lb : Array Value} (hg : a.eval g = .func (.func gf) #[] lb) (hFg : F.fn gf) (eg : ∀ args w, (callFunc gf args).run P w = .ok (.enter gf args) w)
    {enc : α → Value} {xs : List α} {St Kp : World → World → Prop} {w0 : World} (hseq : SeqT F (n - 1) P gf lb enc xs St Kp w0)
    (hK0 : Kp w0 w) (hKr : ∀ A : World, Kp A A) (hKt : ∀ {A B C : World}, Kp A B → Kp B C → Kp A C) (hKa : ∀ (W : World) (o : Obj), w.heap.size ≤ W.heap.size → Kp W (W.alloc o)) (hKb : ∀ (W : World) (l : Nat) (o o' : Obj), w.heap.size ≤ l → W.heap[l]? = some o → o.isCells = false → o.isWalk = false → Kp W (W.putObj l o'))
    (hSt : ∀ A B, St A B → ∀ i, w.heap.size ≤ i → B.heap[i]? = A.heap[i]?)
    (I : Nat → World → Prop) (hI : OwnFrom w.heap.size I) (hIs : ∀ k A B, I k A → St A B → I k B) (h0 : I 0 w) (d : Nat)
    (hassign : ∀ (l : Nat) (v : Value) (W : World) (K : Act → World → Prop), K { tmps := (a.tmps.setIfInBounds p v).setIfInBounds d v, defers := [] } W →
      assign.wpIn (F.inRound l) (n - 1 - 1) P (Exit.then K (fun _ _ _ => False)) { tmps := a.tmps.setIfInBounds p v, defers := [] } W)
    (hbody : ∀ (l k : Nat) (hk : k < xs.length) (W : World), (∃ r, W.heap[l]? = some (.loop r)) → I k W → body.wpIn (F.inRound l) (n - 1 - 1) P (roundT w.heap.size Kp I (k + 1) W) { tmps := (a.tmps.setIfInBounds p (enc xs[k])).setIfInBounds d (enc xs[k]), defers := [] } W)
    (hdone : ∀ (W : World), I xs.length W → Q .normal a W) :
    (Code.rangeFunc g #[p] assign body).wpIn F n P Q a w :=
  range_inner hro hl₀ h1 hg hFg eg hseq hK0 hKt hKa hKb hSt I hI hIs h0
    (fun k a' _ => ∀ hk : k < xs.length, a' = { tmps := (a.tmps.setIfInBounds p (enc xs[k])).setIfInBounds d (enc xs[k]), defers := [] })
    (fun _ _ _ _ _ _ hs _ _ => hs)
    (fun l _ _ W K hi hK => hassign l _ W K (hK _ W (KeepsFrom.refl _ _) (hKr _) hi fun _ => rfl))
    (fun l k hk a' W _ hl hi ha => by rw [ha hk]; exact hbody l k hk W hl hi)
    hdone

/- ## What stays -/
theorem blk_nc {W W' : World} {g : Nat} {t : TypeId} {cs : Array Value} {row : Option Nat} (h : Blk W g t cs) (hg : W.grownBy W' row) (hr : ∀ r, row = some r → ∃ o : Obj, W.heap[r]? = some o ∧ o.isCells = false) : Blk W' g t cs :=
  blkGrown h hg fun e => by
    obtain ⟨o, ho, hc⟩ := hr g e.symm
    unfold Blk at h
    rw [h] at ho
    injection ho with ho
    subst ho
    cases hc
theorem own_nc {W W' : World} {base : Nat} {e : TypeId} {size : Nat} {v : Value} {m : Nat} {xs : List Value} {row : Option Nat} (h : W.ownsRow base e size v m xs) (hg : W.grownBy W' row) (hr : ∀ r, row = some r → ∃ o : Obj, W.heap[r]? = some o ∧ o.isCells = false) : W'.ownsRow base e size v m xs := by
  obtain ⟨h1, h2 | ⟨g, cap, cur, hv, hb, hh, r⟩⟩ := h
  · exact ⟨h1, .inl h2⟩
  · exact ⟨h1, .inr ⟨g, cap, cur, hv, hb, blk_nc (t := e) (cs := cur) hh hg hr, r⟩⟩
theorem below_nc {W W' w0 : World} {B : Nat} {row : Option Nat} (h : Below B w0 W) (hB : B ≤ w0.heap.size) (hg : W.grownBy W' row) (hr : ∀ r, row = some r → B ≤ r) : Below B w0 W' :=
  h.grown hg (Nat.le_trans hB h.size) hr
theorem own_blkR {w : World} {base : Nat} {e t : TypeId} {size : Nat} {v : Value} {m : Nat} {xs : List Value} {g : Nat} {cs : Array Value} (h : w.ownsRow base e size v m xs) (k : Blk w g t cs) (hne : e ≠ t) : v.ownBlock ≠ some g := by
  intro hg
  obtain ⟨_, ⟨h2, _⟩ | ⟨g', cap, cur, hv, hb, hh, r⟩⟩ := h
  · rw [h2] at hg; cases hg
  · rw [hv] at hg; injection hg with hg; subst hg
    unfold Blk at k
    rw [hh] at k
    injection k with k
    injection k with _ k
    exact hne k
theorem sqk_alloc {B : Nat} (W : World) (o : Obj) (h : B + 3 ≤ W.heap.size) (hg : 5 < W.heap.size) : SqK B W (W.alloc o) :=
  ⟨by simp, fun i hi hl => Below.heap_alloc _ _ _ hl⟩
theorem sqk_put {B N : Nat} (W : World) (l : Nat) (o' : Obj) (hB : B + 3 ≤ N) (hG : 5 < B) (hl : N ≤ l) : SqK B W (W.putObj l o') :=
  ⟨by simp [World.putObj], fun i hi _ => World.putObj_heap_other (by rcases hi with rfl | ⟨_, h⟩ <;> omega)⟩
theorem sqk_below {B : Nat} {W W' : World} (h : Below W.heap.size W W') : SqK B W W' := ⟨h.size, fun i _ hl => h.block i hl⟩
theorem sqk_grown {B : Nat} {W W' : World} {row : Option Nat} (hg : W.grownBy W' row) (hr : ∀ r, row = some r → B + 3 ≤ r) (hG : 5 < B) : SqK B W W' :=
  ⟨hg.size, fun i hi hl => hg.block i hl fun e => by
    have := hr i e.symm
    rcases hi with rfl | ⟨_, h⟩ <;> omega⟩
theorem sqk_set {B : Nat} (W : World) (q o : Nat) (v : Value) (hq : q ≠ 5) (h : q < B ∨ B + 3 ≤ q) : SqK B W (W.setCell ⟨q, o, none⟩ v) :=
  ⟨by simp [World.setCell], fun i hi _ => Below.heap_setCell _ _ _ _ (by show i ≠ q; rcases hi with rfl | ⟨h1, h2⟩ <;> omega)⟩
theorem kf_below {N : Nat} {W W' : World} (h : Below W.heap.size W W') : KeepsFrom N W W' := ⟨h.size, fun k o _ hk _ => (h.block k (Array.getElem?_eq_some_iff.1 hk).1).trans hk⟩
theorem kf_grown {N : Nat} {W W' : World} {row : Option Nat} (hg : W.grownBy W' row) (hr : ∀ r, row = some r → ∃ (cs : Array Value) (t : TypeId), Blk W r t cs) : KeepsFrom N W W' :=
  ⟨hg.size, fun k o _ hk ho => (hg.block k (Array.getElem?_eq_some_iff.1 hk).1 fun e => by
    obtain ⟨cs, t, hb⟩ := hr k e.symm
    unfold Blk at hb
    rw [hb] at hk
    injection hk with hk
    subst hk
    cases ho).trans hk⟩
theorem kf_set {N : Nat} (W : World) (q o : Nat) (v : Value) {t : TypeId} {cs : Array Value} (h : Blk W q t cs) : KeepsFrom N W (W.setCell ⟨q, o, none⟩ v) :=
  ⟨by simp [World.setCell], fun k ob _ hk ho => (Below.heap_setCell _ _ _ _ (by
    intro (e : k = q)
    subst e
    unfold Blk at h
    rw [h] at hk
    injection hk with hk
    subst hk
    cases ho)).trans hk⟩
theorem own_row {W : World} {base : Nat} {e : TypeId} {size : Nat} {v : Value} {m : Nat} {xs : List Value} (h : W.ownsRow base e size v m xs) : ∀ r, v.ownBlock = some r → ∃ (cs : Array Value) (t : TypeId), Blk W r t cs := by
  intro r hr
  obtain ⟨_, ⟨h2, _⟩ | ⟨g, cap, cur, hv, hb, hh, _⟩⟩ := h
  · rw [h2] at hr; cases hr
  · rw [hv] at hr; injection hr with hr; subst hr
    exact ⟨_, _, hh⟩
end Go.Proofs.YtjdfpoppimcikaaGreatDoor
/- A region that draws its order, within a round of a range over a function: by the laws of a wide fence; two or three operations that may come in any order, by what each keeps. Over no program. -/

namespace Go.Proofs.YtjdfpoppimcikaaGreatDoor
open Go.RowKit

variable {P : Program} {n l : Nat}
theorem opIn_round {o : Oper} {a : Act} {w : World} {K : Act → World → Prop} {Q : Exit → Act → World → Prop} (hd : ∀ c, o.op ≠ .defer c) (h : Oper.wpIn Fence.wide n P o a w K Q) : Oper.wpIn (Fence.wide.inRound l) n P o a w K Q := by
  obtain ⟨h1, h2⟩ := h
  refine ⟨h1, ?_⟩
  rw [Oper.semAt_eq _ _ _ hd] at h2 ⊢
  generalize (execOp a.eval o).run P w = r at h2 ⊢
  cases r with
  | ok x w' => cases x <;> exact h2
  | halt x w' => cases x <;> exact h2
theorem opAtIn_round {ops : Array Oper} {Q : Exit → Act → World → Prop} (hd : ∀ (i : Nat) o, ops[i]? = some o → ∀ c, o.op ≠ .defer c) {i : Nat} {K K' : Act → World → Prop} {a : Act} {w : World} (hK : ∀ a w, K a w → K' a w)
    (h : wpOpIn Fence.wide n P ops Q i K a w) : wpOpIn (Fence.wide.inRound l) n P ops Q i K' a w := by
  have h' := wpOpIn_mono hK h
  unfold wpOpIn at h' ⊢
  cases ho : ops[i]? with
  | none => simpa [ho] using h'
  | some o =>
    simp only [ho] at h' ⊢
    split
    · rename_i hw
      simp only [hw, if_true] at h'
      exact opIn_round (hd i o ho) h'
    · rename_i hw
      simp only [hw] at h'
      exact h'
theorem anyIn_round {md : Region.Mode} {ops : Array Oper} {Q : Exit → Act → World → Prop} (hd : ∀ (i : Nat) o, ops[i]? = some o → ∀ c, o.op ≠ .defer c) : ∀ (fuel : Nat) (listed : Array Bool) (a : Act) (w : World),
    wpAnyIn Fence.wide n P md ops Q fuel listed a w → wpAnyIn (Fence.wide.inRound l) n P md ops Q fuel listed a w
  | 0, _, _, _, h => h
  | fuel + 1, listed, a, w, h => ⟨h.1, fun i hi => opAtIn_round hd (fun a w => anyIn_round hd fuel _ a w) (h.2 i hi)⟩
theorem noDefer {ops : Array Oper} (h : ops.toList.all (fun o => match o.op with | .defer _ => false | _ => true) = true) : ∀ (i : Nat) o, ops[i]? = some o → ∀ c, o.op ≠ .defer c := by
  intro i o ho c hc
  have := List.all_eq_true.1 h o (by have := Array.mem_of_getElem? ho; simpa using this)
  rw [hc] at this
  cases this
theorem regionIn_round {id : Nat} {ops : Array Oper} {Q : Exit → Act → World → Prop} {a : Act} {w : World} (hm : P.follows .mixedOrders = true) (hd : ops.toList.all (fun o => match o.op with | .defer _ => false | _ => true) = true)
    (h : wpAnyIn Fence.wide n P .any ops Q ops.size (Array.replicate ops.size false) a w.drew) : (Code.region id ops true).wpIn (Fence.wide.inRound l) n P Q a w :=
  wpIn_region_any hm (anyIn_round (noDefer hd) _ _ _ _ h)

/-- one operation: it tells v, and keeps St -/
def Stp (F : Fence) (n : Nat) (P : Program) (ops : Array Oper) (Q : Exit → Act → World → Prop) (o : Oper) (v : Value) (St : World → Prop) (a : Act) : Prop :=
  ∀ (W : World) (K : Act → World → Prop), St W → (∀ W', St W' → K (a.put o.dst v) W') → if Region.wanted o (yielded ops a.tmps) = true then Oper.wpIn F n P o a W K Q else (∀ f, o.about P W a.eval = some f → F.fn f) ∧ K (a.put o.dst undef) W
theorem stepIn_append_own {F : Fence} {n : Nat} {P : Program} (w : World) {ops : Array Oper} {o : Oper} {a : Act} {K : Act → World → Prop} {Q : Exit → Act → World → Prop} {E : Prop}
    (hg : o.guard = none) (s x : Operand) (t : TypeId) (hop : o.op = Op.call { callee := Callee.builtin Builtin.append, args := #[s, x], argTypes := #[t, t] })
    (base : Nat) (e : TypeId) (i : TypeInfo) (z : Value) (size bytes : Nat) (h1 : P.underlying t = some (.slice e)) (h2 : P.info? e = some i) (h3 : i.zero = some z) (h4 : i.size = size) (h5 : i.bytes = bytes) (h6 : z.cells.size = size) (h7 : 0 < size)
    (v : Value) (k : Nat) (xs : List Value) (hs : a.eval s = v) (hown : w.ownsRow base e size v k xs) (ad : Addr) (m c : Nat) (news : List Value) (hx : a.eval x = .slice (some ad) m c) (hn : news.length = m * size)
    (hc : ∀ j u, news[j]? = some u → w.cell? (ad.add j) = some u) (h1c : ∀ u ∈ news, u.oneCell' = true) (b1 : k + m ≤ maxLen) (b2 : (k + m) * bytes ≤ 140737488355328) (b3 : base ≤ w.heap.size)
    (hK : ∀ v' w', w'.ownsRow base e size v' (k + m) (xs ++ news) → w.grownBy w' v.ownBlock → K (a.put o.dst v') w') :
    if Region.wanted o (yielded ops a.tmps) = true then Oper.wpIn F n P o a w K Q else E := by
  have hw : Region.wanted o (yielded ops a.tmps) = true := by simp [Region.wanted, hg]
  rw [if_pos hw]
  obtain ⟨v', w', hrun, r1, r2, _⟩ := run_append_own (P := P) w base t o.type e i z size bytes h1 h2 h3 h4 h5 h6 h7 v k xs hown ad m c news hn hc h1c b1 b2 b3
  unfold Oper.wpIn
  refine ⟨?_, ?_⟩
  · simp [Oper.about, hop, resolve, Target.leads, Sem.run_pure]
  · rw [Oper.semAt_plain F _ _ (by rw [hop]; intro c hc'; cases hc')]
    simp [execOp, hop, resolve, invoke, builtin, hs, hx, hrun, Result.andThen]
    exact hK v' w' r1 r2
section
variable {F : Fence} {md : Region.Mode} {ops : Array Oper} {Q : Exit → Act → World → Prop} {St : World → Prop}
theorem any_one {i : Nat} {oi : Oper} {vi : Value} {fuel : Nat} {listed : Array Bool} {a : Act} {w : World} (hi : ops[i]? = some oi) (r : Region.ready md ops listed = [i]) (hw : St w) (s : Stp F n P ops Q oi vi St a)
    (tail : ∀ W, St W → wpAnyIn F n P md ops Q fuel (listed.setIfInBounds i true) (a.put oi.dst vi) W) : wpAnyIn F n P md ops Q (fuel + 1) listed a w :=
  wpAnyIn_ready r (by simp) (AllReadyIn.cons hi (fun K hK => s w K hw fun W hW => hK _ _ (tail W hW)) AllReadyIn.nil)
theorem any_two {i j : Nat} {oi oj : Oper} {vi vj : Value} {fuel : Nat} {listed : Array Bool} {a : Act} {w : World} (hi : ops[i]? = some oi) (hj : ops[j]? = some oj)
    (r0 : Region.ready md ops listed = [i, j]) (ri : Region.ready md ops (listed.setIfInBounds i true) = [j]) (rj : Region.ready md ops (listed.setIfInBounds j true) = [i])
    (hl : (listed.setIfInBounds j true).setIfInBounds i true = (listed.setIfInBounds i true).setIfInBounds j true) (hp : (a.put oj.dst vj).put oi.dst vi = (a.put oi.dst vi).put oj.dst vj) (hw : St w)
    (si : Stp F n P ops Q oi vi St a) (sj : Stp F n P ops Q oj vj St a) (si' : Stp F n P ops Q oi vi St (a.put oj.dst vj)) (sj' : Stp F n P ops Q oj vj St (a.put oi.dst vi))
    (tail : ∀ W, St W → wpAnyIn F n P md ops Q fuel ((listed.setIfInBounds i true).setIfInBounds j true) ((a.put oi.dst vi).put oj.dst vj) W) : wpAnyIn F n P md ops Q (fuel + 2) listed a w :=
  wpAnyIn_ready r0 (by simp) (AllReadyIn.cons hi (fun K hK => si w K hw fun W hW => hK _ _ (any_one hj ri hW sj' tail))
    (AllReadyIn.cons hj (fun K hK => sj w K hw fun W hW => hK _ _ (any_one hi rj hW si' (by rw [hl, hp]; exact tail))) AllReadyIn.nil))
theorem any_three {i j k : Nat} {oi oj ok : Oper} {vi vj vk : Value} {fuel : Nat} {listed : Array Bool} {a : Act} {w : World} (hi : ops[i]? = some oi) (hj : ops[j]? = some oj) (hk : ops[k]? = some ok)
    (r0 : Region.ready md ops listed = [i, j, k])
    (r1 : Region.ready md ops (listed.setIfInBounds i true) = [j, k]) (r2 : Region.ready md ops (listed.setIfInBounds j true) = [i, k]) (r3 : Region.ready md ops (listed.setIfInBounds k true) = [i, j])
    (r12 : Region.ready md ops ((listed.setIfInBounds i true).setIfInBounds j true) = [k]) (r13 : Region.ready md ops ((listed.setIfInBounds i true).setIfInBounds k true) = [j]) (r23 : Region.ready md ops ((listed.setIfInBounds j true).setIfInBounds k true) = [i])
    (l12 : (listed.setIfInBounds j true).setIfInBounds i true = (listed.setIfInBounds i true).setIfInBounds j true) (l13 : (listed.setIfInBounds k true).setIfInBounds i true = (listed.setIfInBounds i true).setIfInBounds k true) (l23 : (listed.setIfInBounds k true).setIfInBounds j true = (listed.setIfInBounds j true).setIfInBounds k true)
    (l132 : ((listed.setIfInBounds i true).setIfInBounds k true).setIfInBounds j true = ((listed.setIfInBounds i true).setIfInBounds j true).setIfInBounds k true) (l231 : ((listed.setIfInBounds j true).setIfInBounds k true).setIfInBounds i true = ((listed.setIfInBounds i true).setIfInBounds j true).setIfInBounds k true)
    (p12 : (a.put oj.dst vj).put oi.dst vi = (a.put oi.dst vi).put oj.dst vj) (p13 : (a.put ok.dst vk).put oi.dst vi = (a.put oi.dst vi).put ok.dst vk) (p23 : (a.put ok.dst vk).put oj.dst vj = (a.put oj.dst vj).put ok.dst vk)
    (p132 : ((a.put oi.dst vi).put ok.dst vk).put oj.dst vj = ((a.put oi.dst vi).put oj.dst vj).put ok.dst vk) (p231 : ((a.put oj.dst vj).put ok.dst vk).put oi.dst vi = ((a.put oi.dst vi).put oj.dst vj).put ok.dst vk) (hw : St w)
    (si : Stp F n P ops Q oi vi St a) (sij : Stp F n P ops Q oi vi St (a.put oj.dst vj)) (sik : Stp F n P ops Q oi vi St (a.put ok.dst vk)) (sijk : Stp F n P ops Q oi vi St ((a.put oj.dst vj).put ok.dst vk))
    (sj : Stp F n P ops Q oj vj St a) (sji : Stp F n P ops Q oj vj St (a.put oi.dst vi)) (sjk : Stp F n P ops Q oj vj St (a.put ok.dst vk)) (sjik : Stp F n P ops Q oj vj St ((a.put oi.dst vi).put ok.dst vk))
    (sk : Stp F n P ops Q ok vk St a) (ski : Stp F n P ops Q ok vk St (a.put oi.dst vi)) (skj : Stp F n P ops Q ok vk St (a.put oj.dst vj)) (skij : Stp F n P ops Q ok vk St ((a.put oi.dst vi).put oj.dst vj))
    (tail : ∀ W, St W → wpAnyIn F n P md ops Q fuel (((listed.setIfInBounds i true).setIfInBounds j true).setIfInBounds k true) (((a.put oi.dst vi).put oj.dst vj).put ok.dst vk) W) : wpAnyIn F n P md ops Q (fuel + 3) listed a w :=
  wpAnyIn_ready r0 (by simp) (AllReadyIn.cons hi (fun K hK => si w K hw fun W hW => hK _ _ (any_two hj hk r1 r12 r13 l132 p132 hW sji ski sjik skij tail))
    (AllReadyIn.cons hj (fun K hK => sj w K hw fun W hW => hK _ _ (any_two hi hk r2 (by rw [l12]; exact r12) r23 (by rw [l231, l12]) (by rw [p231, p12]) hW sij skj sijk (by rw [p12]; exact skij) (by rw [l12, p12]; exact tail)))
      (AllReadyIn.cons hk (fun K hK => sk w K hw fun W hW => hK _ _ (any_two hi hj r3 (by rw [l13]; exact r13) (by rw [l23]; exact r23) (by rw [l23, l231, l13, l132]) (by rw [p23, p231, p13, p132]) hW sik sjk (by rw [p23]; exact sijk) (by rw [p13]; exact sjik) (by rw [l13, l132, p13, p132]; exact tail))) AllReadyIn.nil)))
theorem put_commR (b : Act) {d d' : Tmp} (v v' : Value) (h : d ≠ d') : (b.put (some d') v').put (some d) v = (b.put (some d) v).put (some d') v' := by
  unfold Act.put
  simp only
  rw [Array.setIfInBounds_comm _ _ (Ne.symm h)]
/-- One operation (a load) that may come at any place of a chain of others, which come in their order. C: what holds behind t of the chain, the load left aside. -/
theorem any_float {m fuel i : Nat} {oi : Oper} {di : Tmp} {vi : Value} {a0 : Act} {w0 : World} (N : Nat) (c : Nat → Nat) (d : Nat → Tmp) (L : Nat → Array Bool) (C : Act → Nat → Act → World → Prop)
    (hi : ops[i]? = some oi) (ei : oi.dst = some di)
    (hc : ∀ t, t < N → ops[c t]? = some ((ops[c t]?).getD oi) ∧ ((ops[c t]?).getD oi).dst = some (d t) ∧ i ≠ c t ∧ di ≠ d t ∧ L (t + 1) = (L t).setIfInBounds (c t) true ∧ Region.ready md ops (L t) = [i, c t] ∧ Region.ready md ops ((L t).setIfInBounds i true) = [c t])
    (hn : Region.ready md ops (L N) = [i])
    (load : ∀ t, t ≤ N → ∀ (a : Act) (w : World) (K : Act → World → Prop), C a0 t a w → K (a.put oi.dst vi) w → if Region.wanted oi (yielded ops a.tmps) = true then Oper.wpIn F m P oi a w K Q else (∀ f, oi.about P w a.eval = some f → F.fn f) ∧ K (a.put oi.dst undef) w)
    (step : ∀ t, t < N → ∀ (a : Act) (w : World) (b : Act) (K : Act → World → Prop), C a0 t a w → (b = a ∨ b = a.put (some di) vi) → (∀ v w', C a0 (t + 1) (a.put (some (d t)) v) w' → K (b.put ((ops[c t]?).getD oi).dst v) w') →
      if Region.wanted ((ops[c t]?).getD oi) (yielded ops b.tmps) = true then Oper.wpIn F m P ((ops[c t]?).getD oi) b w K Q else (∀ f, ((ops[c t]?).getD oi).about P w b.eval = some f → F.fn f) ∧ K (b.put ((ops[c t]?).getD oi).dst undef) w)
    (tail : ∀ a w, C a0 N a w → wpAnyIn F m P md ops Q fuel ((L N).setIfInBounds i true) (a.put (some di) vi) w)
    (h0 : C a0 0 a0 w0) : wpAnyIn F m P md ops Q (fuel + N + 1) (L 0) a0 w0 := by
  have main : ∀ k t, t + k = N → (∀ a w, C a0 t a w → wpAnyIn F m P md ops Q (fuel + k + 1) (L t) a w) ∧ (∀ a w, C a0 t a w → wpAnyIn F m P md ops Q (fuel + k) ((L t).setIfInBounds i true) (a.put (some di) vi) w) := by
    intro k
    induction k with
    | zero =>
      intro t ht
      obtain rfl : t = N := by omega
      refine ⟨fun a w h => ?_, tail⟩
      exact wpAnyIn_ready hn (by simp) (AllReadyIn.cons hi (fun K hK => load t (Nat.le_refl _) a w K h (hK _ _ (by rw [ei]; exact tail a w h))) AllReadyIn.nil)
    | succ k ih =>
      intro t ht
      obtain ⟨c1, c2, c3, c4, c5, c6, c7⟩ := hc t (by omega)
      obtain ⟨ih1, ih2⟩ := ih (t + 1) (by omega)
      have second : ∀ a w, C a0 t a w → wpAnyIn F m P md ops Q (fuel + (k + 1)) ((L t).setIfInBounds i true) (a.put (some di) vi) w := fun a w h =>
        wpAnyIn_ready c7 (by simp) (AllReadyIn.cons c1 (fun K hK => step t (by omega) a w _ K h (.inr rfl) fun v w' h' => hK _ _ (by
          rw [c2, Array.setIfInBounds_comm _ _ c3, ← c5, put_commR _ _ _ (Ne.symm c4)]
          exact ih2 _ _ h')) AllReadyIn.nil)
      refine ⟨fun a w h => ?_, second⟩
      exact wpAnyIn_ready c6 (by simp) (AllReadyIn.cons hi (fun K hK => load t (by omega) a w K h (hK _ _ (by rw [ei]; exact second a w h)))
        (AllReadyIn.cons c1 (fun K hK => step t (by omega) a w _ K h (.inl rfl) fun v w' h' => hK _ _ (by rw [c2, ← c5]; exact ih1 _ _ h')) AllReadyIn.nil))
  exact (main N 0 (by omega)).1 a0 w0 h0
end
end Go.Proofs.YtjdfpoppimcikaaGreatDoor
