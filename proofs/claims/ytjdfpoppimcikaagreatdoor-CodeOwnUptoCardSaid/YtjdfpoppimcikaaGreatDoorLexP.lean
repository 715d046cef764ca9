/- Messages that a call made: none of their cells is frozen; where their blocks lie; rows that grow, each element with a part of its own. -/
import Derived.Test.YtjdfpoppimcikaaGreatDoorQMsgP
import Derived.Test.YtjdfpoppimcikaaGreatDoorPsoOf
namespace Go.Proofs.YtjdfpoppimcikaaGreatDoor
open Go.RowKit

structure PLaws {α : Type} (P : Nat → Nat → World → Value → α → Prop) : Prop where
  keep : ∀ {lo hi : Nat} {W W' : World} {v : Value} {x : α}, P lo hi W v x → (∀ g, lo ≤ g → g < hi → W'.heap[g]? = W.heap[g]?) → P lo hi W' v x
  mono : ∀ {lo hi lo' hi' : Nat} {W : World} {v : Value} {x : α}, P lo hi W v x → lo' ≤ lo → hi ≤ hi' → P lo' hi' W v x
/-- an element, its part's value, where the part's blocks lie -/
structure Prt (α : Type) where
  x : α
  u : Value
  s : Nat
  e : Nat
section
variable {α : Type} (cel : α → Value → List Value) (sz : Nat) (P : Nat → Nat → World → Value → α → Prop)
def RowOk (lo hi : Nat) (W : World) (v : Value) (l : List α) : Prop :=
  ∃ A cap, v = .slice A l.length cap ∧ l.length ≤ cap ∧ ∀ i (h : i < l.length), ∃ b o u, A = some ⟨b, o, none⟩ ∧ lo ≤ b ∧ b < hi ∧ (∀ j y, (cel l[i] u)[j]? = some y → W.cell? ⟨b, o + i * sz + j, none⟩ = some y ∧ W.frozen? ⟨b, o + i * sz + j, none⟩ = false) ∧ P lo hi W u l[i]
theorem RowOk.laws (hP : PLaws P) : PLaws (RowOk cel sz P) := by
  constructor
  · intro lo hi W W' v l h hk
    obtain ⟨A, cap, hv, hc, hi'⟩ := h
    refine ⟨A, cap, hv, hc, fun i hi => ?_⟩
    obtain ⟨b, o, u, hA, h1, h2, h3, h4⟩ := hi' i hi
    have hb := hk b h1 h2
    exact ⟨b, o, u, hA, h1, h2, fun j y hj => ⟨(World.cell?_of_block (w := W) hb).trans (h3 j y hj).1, (World.frozen?_of_block (w := W) hb).trans (h3 j y hj).2⟩, hP.keep h4 hk⟩
  · intro lo hi lo' hi' W v l h h1 h2
    obtain ⟨A, cap, hv, hc, hi''⟩ := h
    refine ⟨A, cap, hv, hc, fun i hi => ?_⟩
    obtain ⟨b, o, u, hA, k1, k2, k3, k4⟩ := hi'' i hi
    exact ⟨b, o, u, hA, by omega, by omega, k3, hP.mono k4 h1 h2⟩
theorem RowOk.nil (lo hi : Nat) (W : World) (A : Option Addr) (c : Nat) : RowOk cel sz P lo hi W (.slice A 0 c) ([] : List α) := ⟨A, c, rfl, Nat.zero_le _, fun i hi => by cases hi⟩
def flatW (l : List (Prt α)) : List Value := l.flatMap fun p => cel p.x p.u
theorem flatW_snoc (l : List (Prt α)) (p : Prt α) : flatW cel (l ++ [p]) = flatW cel l ++ cel p.x p.u := by simp [flatW]
theorem flatW_length (hz : ∀ x u, (cel x u).length = sz) (l : List (Prt α)) : (flatW cel l).length = l.length * sz := by
  induction l with
  | nil => simp [flatW]
  | cons p l ih => show (cel p.x p.u ++ flatW cel l).length = _; rw [List.length_append, ih, hz, List.length_cons, Nat.add_mul]; omega
theorem flatW_at (hz : ∀ x u, (cel x u).length = sz) : ∀ (l : List (Prt α)) (i : Nat) (h : i < l.length) (j : Nat), j < sz → (flatW cel l)[i * sz + j]? = (cel l[i].x l[i].u)[j]?
  | [], i, h, _, _ => by cases h
  | p :: l, 0, _, j, hj => by
    show (cel p.x p.u ++ flatW cel l)[0 * sz + j]? = _
    rw [Nat.zero_mul, Nat.zero_add, List.getElem?_append_left (by rw [hz]; exact hj)]; rfl
  | p :: l, i + 1, h, j, hj => by
    have ih := flatW_at hz l i (by simpa using h) j hj
    show (cel p.x p.u ++ flatW cel l)[(i + 1) * sz + j]? = _
    rw [show (i + 1) * sz + j = (cel p.x p.u).length + (i * sz + j) from by rw [hz, Nat.add_mul, Nat.one_mul]; omega, List.getElem?_append_right (Nat.le_add_right _ _), Nat.add_sub_cancel_left]
    exact ih
structure Rws (t : TypeId) (base : Nat) (W : World) (out : Value) (xs : List (Prt α)) : Prop where
  row : W.ownsRow base t sz out xs.length (flatW cel xs)
  part : ∀ p ∈ xs, base ≤ p.s ∧ P p.s p.e W p.u p.x ∧ p.e ≤ W.heap.size ∧ away out p.s p.e
variable {cel sz P} {t : TypeId} {base : Nat} {W W' w7 : World} {out out7 : Value} {xs : List (Prt α)}
theorem Rws.nil : Rws cel sz P t base W (.slice none 0 0) [] := ⟨own_nil, fun p hp => nomatch hp⟩
theorem Rws.keep (hP : PLaws P) (h : Rws cel sz P t base W out xs) (hk : ∀ g, base ≤ g → g < W.heap.size → W'.heap[g]? = W.heap[g]?) (hs : W.heap.size ≤ W'.heap.size) : Rws cel sz P t base W' out xs :=
  ⟨own_keep h.row fun g hg hl => hk g (own_lt h.row hg).1 hl, fun p hp => by
    obtain ⟨h1, h2, h3, h4⟩ := h.part p hp
    exact ⟨h1, hP.keep h2 fun g g1 g2 => hk g (by omega) (by omega), by omega, h4⟩⟩
theorem Rws.push (hP : PLaws P) (h : Rws cel sz P t base W out xs) (p : Prt α) (h1 : base ≤ p.s) (h2 : P p.s p.e W p.u p.x) (h3 : p.e ≤ W.heap.size) (h4 : away out p.s p.e)
    (hg : W.grownBy w7 out.ownBlock) (hown : w7.ownsRow base t sz out7 (xs.length + 1) (flatW cel xs ++ cel p.x p.u)) (ho : out7.ownBlock = out.ownBlock ∨ out7.ownBlock = some W.heap.size) : Rws cel sz P t base w7 out7 (xs ++ [p]) := by
  have aw : ∀ q : Prt α, base ≤ q.s → P q.s q.e W q.u q.x → q.e ≤ W.heap.size → away out q.s q.e → base ≤ q.s ∧ P q.s q.e w7 q.u q.x ∧ q.e ≤ w7.heap.size ∧ away out7 q.s q.e := fun q k1 k2 k3 k4 => by
    refine ⟨k1, hP.keep k2 fun g g1 g2 => hg.block g (by omega) fun e => ?_, Nat.le_trans k3 hg.size, fun r hr => ?_⟩
    · have := k4 g e.symm; omega
    · rcases ho with ho | ho
      · exact k4 r (by rw [← ho]; exact hr)
      · rw [ho] at hr; injection hr with hr; omega
  refine ⟨by rw [flatW_snoc, List.length_append]; exact hown, fun q hq => ?_⟩
  rcases List.mem_append.1 hq with hq | hq
  · obtain ⟨k1, k2, k3, k4⟩ := h.part q hq
    exact aw q k1 k2 k3 k4
  · obtain rfl := List.mem_singleton.1 hq
    exact aw q h1 h2 h3 h4
theorem Rws.ok (hP : PLaws P) (hz : ∀ x u, (cel x u).length = sz) (h : Rws cel sz P t base W out xs) {lo hi : Nat} (hb : lo ≤ base) (hs : W.heap.size ≤ hi) : RowOk cel sz P lo hi W out (xs.map Prt.x) := by
  obtain ⟨A, cap, rfl, hc⟩ := own_slice h.row
  refine ⟨A, cap, by rw [List.length_map], by rw [List.length_map]; exact hc, fun i hi' => ?_⟩
  have hl : i < xs.length := by simpa using hi'
  obtain ⟨k1, k2, k3, k4⟩ := h.part _ (List.getElem_mem hl)
  rw [List.getElem_map]
  rcases Nat.eq_zero_or_pos sz with h0 | h0
  · obtain ⟨_, ⟨_, h5⟩ | ⟨g, cap', cur, hv, hbb, hh, _⟩⟩ := h.row
    · omega
    · injection hv with hv1 _ _
      refine ⟨g, 0, xs[i].u, hv1, by omega, Nat.lt_of_lt_of_le (Blk.lt (t := t) (cs := cur) hh) hs, fun j y hj => ?_, hP.mono k2 (by omega) (by omega)⟩
      have := hz xs[i].x xs[i].u
      have hjl := (List.getElem?_eq_some_iff.1 hj).1
      omega
  · have hlt : i * sz + 0 < xs.length * sz := by
      have := Nat.mul_lt_mul_of_pos_right hl h0
      omega
    obtain ⟨g, hA, g1, g2, _, _⟩ := own_at h.row (i * sz + 0) hlt
    refine ⟨g, 0, xs[i].u, hA, by omega, by omega, fun j y hj => ?_, hP.mono k2 (by omega) (by omega)⟩
    have hjz : j < sz := by rw [← hz xs[i].x xs[i].u]; exact (List.getElem?_eq_some_iff.1 hj).1
    have hjl : i * sz + j < xs.length * sz := by
      have h5 : (i + 1) * sz ≤ xs.length * sz := Nat.mul_le_mul_right _ hl
      rw [Nat.add_mul, Nat.one_mul] at h5
      omega
    obtain ⟨g', hA', _, _, hc', hf'⟩ := own_at h.row (i * sz + j) hjl
    rw [hA] at hA'
    injection hA' with hA'
    injection hA' with hA'
    subst hA'
    rw [Nat.zero_add]
    exact ⟨by rw [hc', flatW_at cel sz hz xs i hl j hjz]; exact hj, hf'⟩
end
/- ## Nodes and cases -/
section
variable {β : Type}
def nodC (x : NdF β) (u : Value) : List Value := [.int .i64 x.kind, .string x.text, .int .i64 x.off, u]
def casC (c : ByteArray × List β) (u : Value) : List Value := [.string c.1, u]
theorem nodC_len (x : NdF β) (u : Value) : (nodC x u).length = 4 := rfl
theorem casC_len (c : ByteArray × List β) (u : Value) : (casC c u).length = 2 := rfl
/-- what a list of bodies is in memory -/
def MkB (M : Nat → Nat → World → Value → List β → Prop) : Nat → Nat → World → Value → (ByteArray × List β) → Prop := fun lo hi W u c => M lo hi W u c.2
def MkC (M : Nat → Nat → World → Value → List β → Prop) : Nat → Nat → World → Value → NdF β → Prop := fun lo hi W u x => RowOk casC 2 (MkB M) lo hi W u x.cases
theorem mkB_laws {M : Nat → Nat → World → Value → List β → Prop} (h : PLaws M) : PLaws (MkB M) := ⟨fun k e => h.keep k e, fun k a b => h.mono k a b⟩
theorem mkC_laws {M : Nat → Nat → World → Value → List β → Prop} (h : PLaws M) : PLaws (MkC M) := ⟨fun k e => (RowOk.laws casC 2 _ (mkB_laws h)).keep k e, fun k a b => (RowOk.laws casC 2 _ (mkB_laws h)).mono k a b⟩
abbrev MkM (M : Nat → Nat → World → Value → List β → Prop) : Nat → Nat → World → Value → List (NdF β) → Prop := RowOk nodC 4 (MkC M)
theorem mkM_laws {M : Nat → Nat → World → Value → List β → Prop} (h : PLaws M) : PLaws (MkM M) := RowOk.laws nodC 4 _ (mkC_laws h)
theorem MkC.list {E : Enc β} {M : Nat → Nat → World → Value → List β → Prop} (hM : ∀ {lo hi W v l}, M lo hi W v l → ListOk E W lo hi v l) {lo hi : Nat} {W : World} {u : Value} {x : NdF β} (h : MkC M lo hi W u x) : ListOk (Enc.cas E) W lo hi u x.cases := by
  obtain ⟨A, cap, hv, hc, hi'⟩ := h
  refine ⟨A, cap, hv, hc, fun i hi => ?_⟩
  obtain ⟨b, o, u', hA, h1, h2, h3, h4⟩ := hi' i hi
  exact ⟨b, o, casC x.cases[i] u', hA, h1, h2, fun j y hj => (h3 j y hj).1, u', rfl, hM h4⟩
theorem MkM.list {E : Enc β} {M : Nat → Nat → World → Value → List β → Prop} (hM : ∀ {lo hi W v l}, M lo hi W v l → ListOk E W lo hi v l) {lo hi : Nat} {W : World} {v : Value} {m : List (NdF β)} (h : MkM M lo hi W v m) : ListOk (Enc.nodeF E) W lo hi v m := by
  obtain ⟨A, cap, hv, hc, hi'⟩ := h
  refine ⟨A, cap, hv, hc, fun i hi => ?_⟩
  obtain ⟨b, o, u', hA, h1, h2, h3, h4⟩ := hi' i hi
  exact ⟨b, o, nodC m[i] u', hA, h1, h2, fun j y hj => (h3 j y hj).1, u', rfl, MkC.list hM h4⟩
end
def MkN : (n : Nat) → Nat → Nat → World → Value → List (Nd n) → Prop
  | 0 => fun _ _ _ v m => ∃ A c, v = .slice A m.length c
  | n + 1 => fun lo hi W v m => MkM (MkN n) lo hi W v (m : List (NdF (Nd n)))
theorem mkN_laws : (n : Nat) → PLaws (MkN n)
  | 0 => ⟨fun h _ => h, fun h _ _ => h⟩
  | n + 1 => ⟨fun h k => (mkM_laws (mkN_laws n)).keep h k, fun h a b => (mkM_laws (mkN_laws n)).mono h a b⟩
theorem MkN.list : (n : Nat) → {lo hi : Nat} → {W : World} → {v : Value} → {m : List (Nd n)} → MkN n lo hi W v m → ListOk (Enc.node n) W lo hi v m
  | 0, lo, hi, W, v, m, h => by
    obtain ⟨A, c, rfl⟩ := h
    obtain rfl := empty_list m
    exact ListOk.nil c A
  | n + 1, lo, hi, W, v, m, h => MkM.list (E := Enc.node n) (M := MkN n) (fun h => MkN.list n h) h
theorem MkN.form : (n : Nat) → {lo hi : Nat} → {W : World} → {v : Value} → {m : List (Nd n)} → MkN n lo hi W v m → ∃ A c, v = .slice A m.length c
  | 0, _, _, _, _, _, h => h
  | _ + 1, _, _, _, _, _, ⟨A, c, hv, _, _⟩ => ⟨A, c, hv⟩
end Go.Proofs.YtjdfpoppimcikaaGreatDoor
/- linguisterlaw5.wipe, with bounds: a message that may be written into, and nothing outside of it. -/

namespace Go.Proofs.YtjdfpoppimcikaaGreatDoor
open Go.RowKit

/-- a block between -/
structure InB (lo tp b : Nat) : Prop where
  ge : lo ≤ b
  lt : b < tp
/-- texts and numbers of blocks between have turned, nothing else -/
structure Wq (lo tp : Nat) (w w' : World) : Prop where
  below : Below lo w w'
  far : ∀ g, tp ≤ g → w'.heap[g]? = w.heap[g]?
  froz : ∀ p : Addr, w'.frozen? p = w.frozen? p
  cell : ∀ p : Addr, w'.cell? p = w.cell? p ∨ (∃ s s', w.cell? p = some (.string s) ∧ w'.cell? p = some (.string s')) ∨ (∃ a b, w.cell? p = some (.int .i64 a) ∧ w'.cell? p = some (.int .i64 b))
section
variable {lo tp : Nat} {w w1 w' : World}
theorem Wq.refl (lo tp : Nat) (w : World) : Wq lo tp w w := ⟨Below.refl _ _, fun _ _ => rfl, fun _ => rfl, fun _ => .inl rfl⟩
theorem Wq.trans (h : Wq lo tp w w1) (k : Wq lo tp w1 w') : Wq lo tp w w' := by
  refine ⟨h.below.trans k.below, fun g hg => (k.far g hg).trans (h.far g hg), fun p => (k.froz p).trans (h.froz p), fun p => ?_⟩
  rcases h.cell p with h1 | ⟨s, s', h1, h2⟩ | ⟨a, b, h1, h2⟩
  · rcases k.cell p with k1 | ⟨t, t', k1, k2⟩ | ⟨a, b, k1, k2⟩
    · exact .inl (k1.trans h1)
    · exact .inr (.inl ⟨t, t', h1 ▸ k1, k2⟩)
    · exact .inr (.inr ⟨a, b, h1 ▸ k1, k2⟩)
  · rcases k.cell p with k1 | ⟨t, t', k1, k2⟩ | ⟨a, b, k1, k2⟩
    · exact .inr (.inl ⟨s, s', h1, k1.trans h2⟩)
    · exact .inr (.inl ⟨s, t', h1, k2⟩)
    · rw [h2] at k1; cases k1
  · rcases k.cell p with k1 | ⟨t, t', k1, k2⟩ | ⟨a', b', k1, k2⟩
    · exact .inr (.inr ⟨a, b, h1, k1.trans h2⟩)
    · rw [h2] at k1; cases k1
    · exact .inr (.inr ⟨a, b', h1, k2⟩)
theorem Wq.slice (h : Wq lo tp w w') {p : Addr} {A : Option Addr} {n c : Nat} (hp : w.cell? p = some (.slice A n c)) : w'.cell? p = some (.slice A n c) := by
  rcases h.cell p with h1 | ⟨s, s', h1, h2⟩ | ⟨a, b, h1, h2⟩
  · exact h1.trans hp
  · rw [hp] at h1; cases h1
  · rw [hp] at h1; cases h1
theorem Wq.str (h : Wq lo tp w w') {p : Addr} {s : ByteArray} (hp : w.cell? p = some (.string s)) : ∃ s', w'.cell? p = some (.string s') := by
  rcases h.cell p with h1 | ⟨s, s', h1, h2⟩ | ⟨a, b, h1, h2⟩
  · exact ⟨_, h1.trans hp⟩
  · exact ⟨_, h2⟩
  · rw [hp] at h1; cases h1
theorem Wq.int (h : Wq lo tp w w') {p : Addr} {a : Int} (hp : w.cell? p = some (.int .i64 a)) : ∃ a', w'.cell? p = some (.int .i64 a') := by
  rcases h.cell p with h1 | ⟨s, s', h1, h2⟩ | ⟨a, b, h1, h2⟩
  · exact ⟨_, h1.trans hp⟩
  · rw [hp] at h1; cases h1
  · exact ⟨_, h2⟩
theorem Wq.setStr {p : Addr} {s : ByteArray} (hp : w.cell? p = some (.string s)) (hl : InB lo tp p.block) (x : ByteArray) : Wq lo tp w (w.setCell p (.string x)) := by
  refine ⟨(Below.refl _ _).setCell hl.ge _, fun g hg => Below.heap_setCell _ _ _ _ (fun e => by have := hl.lt; omega), fun q => by simp, fun q => ?_⟩
  by_cases h : p = q
  · subst h; exact .inr (.inl ⟨s, x, hp, World.cell?_setCell_same (h := hp) ..⟩)
  · exact .inl (World.cell?_setCell_other (h := h) ..)
theorem Wq.setInt {p : Addr} {a : Int} (hp : w.cell? p = some (.int .i64 a)) (hl : InB lo tp p.block) (b : Int) : Wq lo tp w (w.setCell p (.int .i64 b)) := by
  refine ⟨(Below.refl _ _).setCell hl.ge _, fun g hg => Below.heap_setCell _ _ _ _ (fun e => by have := hl.lt; omega), fun q => by simp, fun q => ?_⟩
  by_cases h : p = q
  · subst h; exact .inr (.inr ⟨a, b, hp, World.cell?_setCell_same (h := hp) ..⟩)
  · exact .inl (World.cell?_setCell_other (h := h) ..)
end
/- ## The shape of a message -/
def SqC (S : World → Value → Prop) (lo tp : Nat) (W : World) (cv : Value) : Prop :=
  ∃ B len cap, cv = .slice B len cap ∧ len ≤ 10000000 ∧ ∀ q, q < len → ∃ b o s A n c, B = some ⟨b, o, none⟩ ∧ InB lo tp b ∧ W.cell? ⟨b, o + q * 2, none⟩ = some (.string s) ∧ W.frozen? ⟨b, o + q * 2, none⟩ = false ∧ W.cell? ⟨b, o + q * 2 + 1, none⟩ = some (.slice A n c) ∧ S W (.slice A n c)
def SqF (S : World → Value → Prop) (lo tp : Nat) (W : World) (v : Value) : Prop :=
  ∃ B len cap, v = .slice B len cap ∧ len ≤ 10000000 ∧ ∀ i, i < len → ∃ b o k t A n c, B = some ⟨b, o, none⟩ ∧ InB lo tp b ∧ W.cell? ⟨b, o + i * 4, none⟩ = some (.int .i64 k) ∧ W.frozen? ⟨b, o + i * 4, none⟩ = false ∧ W.cell? ⟨b, o + i * 4 + 1, none⟩ = some (.string t) ∧ W.frozen? ⟨b, o + i * 4 + 1, none⟩ = false ∧ W.cell? ⟨b, o + i * 4 + 3, none⟩ = some (.slice A n c) ∧ SqC S lo tp W (.slice A n c)
theorem SqC.on {S : World → Value → Prop} {lo tp : Nat} {w w' : World} (hS : ∀ u, S w u → S w' u) {v : Value} (h : SqC S lo tp w v) (k : Wq lo tp w w') : SqC S lo tp w' v := by
  obtain ⟨B, len, cap, hv, hl, hi⟩ := h
  refine ⟨B, len, cap, hv, hl, fun q hq => ?_⟩
  obtain ⟨b, o, s, A, n, c, h1, h2, h3, h4, h5, h6⟩ := hi q hq
  obtain ⟨s', h3'⟩ := k.str h3
  exact ⟨b, o, s', A, n, c, h1, h2, h3', (k.froz _).trans h4, k.slice h5, hS _ h6⟩
theorem SqF.on {S : World → Value → Prop} {lo tp : Nat} {w w' : World} (hS : ∀ u, S w u → S w' u) {v : Value} (h : SqF S lo tp w v) (k : Wq lo tp w w') : SqF S lo tp w' v := by
  obtain ⟨B, len, cap, hv, hl, hi⟩ := h
  refine ⟨B, len, cap, hv, hl, fun q hq => ?_⟩
  obtain ⟨b, o, kk, t, A, n, c, h1, h2, h3, h4, h5, h6, h7, h8⟩ := hi q hq
  obtain ⟨k', h3'⟩ := k.int h3
  obtain ⟨t', h5'⟩ := k.str h5
  exact ⟨b, o, k', t', A, n, c, h1, h2, h3', (k.froz _).trans h4, h5', (k.froz _).trans h6, k.slice h7, h8.on hS k⟩
def SqN (lo tp : Nat) : Nat → World → Value → Prop
  | 0 => fun _ v => ∃ A c, v = .slice A 0 c
  | n + 1 => SqF (SqN lo tp n) lo tp
theorem SqN.on {lo tp : Nat} {w w' : World} (k : Wq lo tp w w') : (n : Nat) → {v : Value} → SqN lo tp n w v → SqN lo tp n w' v
  | 0, _, h => h
  | n + 1, _, h => SqF.on (fun _ hu => SqN.on k n hu) h k
theorem MkN.shapeQ : (n : Nat) → {lo hi : Nat} → {W : World} → {v : Value} → {m : List (Nd n)} → MsgIn n m → MkN n lo hi W v m → SqN lo hi n W v
  | 0, lo, hi, W, v, m, _, h => by
    obtain ⟨A, c, rfl⟩ := h
    obtain rfl := empty_list m
    exact ⟨A, c, rfl⟩
  | n + 1, lo, hi, W, v, m, hm, h => by
    obtain ⟨A, cap, hv, hc, hi'⟩ := h
    refine ⟨A, _, cap, hv, hm.len, fun i hil => ?_⟩
    obtain ⟨b, o, u, h1, h2, h3, h4, B, cap2, hu, hc2, hi2⟩ := hi' i hil
    have h0 := h4 0 _ rfl
    have h5 := h4 1 _ rfl
    have h6 := h4 3 _ rfl
    subst hu
    have hx : smallF (SmallN n) ((m : List (NdF (Nd n)))[i]) := hm.each _ (List.getElem_mem hil)
    refine ⟨b, o, _, _, B, _, cap2, h1, ⟨h2, h3⟩, h0.1, h0.2, h5.1, h5.2, h6.1, B, _, cap2, rfl, hx.2.1, fun q hq => ?_⟩
    obtain ⟨b2, o2, u2, g1, g2, g3, g4, g5⟩ := hi2 q hq
    have g6 := g4 0 _ rfl
    have g7 := g4 1 _ rfl
    obtain ⟨A2, c2, rfl⟩ := MkN.form n g5
    exact ⟨b2, o2, _, A2, _, c2, g1, ⟨g2, g3⟩, g6.1, g6.2, g7.1, MkN.shapeQ n (hm.body (List.getElem_mem hil) (List.getElem_mem hq)) g5⟩
set_option maxHeartbeats 3200000 in
set_option maxRecDepth 100000 in
theorem wipeQ_walk (S : World → Value → Prop) (lo tp : Nat) (hS : Hid (∀ W W' u, Wq lo tp W W' → S W u → S W' u)) (v : Value) (x : ByteArray) (w : World) (h : SqF S lo tp w v)
    (IH : Hid (∀ W u, S W u → Calls Tryz.prog 10 #[u, .string x] W fun e w' => e = .returned (.tuple #[]) ∧ Wq lo tp W w')) :
    Calls Tryz.prog 10 #[v, .string x] w fun e w' => e = .returned (.tuple #[]) ∧ Wq lo tp w w' := by
  have HF : Hid (∀ W, Wq lo tp w W → SqF S lo tp W v) := Lib.hid fun W hW => h.on (fun u => hS.out w W u hW) hW
  obtain ⟨B, len, cap, rfl, hlen, _⟩ := h
  go_enter Tryz.func10, Tryz.ntmps10
  go_wp2_with fail
  go_loopw [4, 5] (fun i _ wr => ∃ j : Nat, j ≤ len ∧ i = .int .i64 (j : Int) ∧ Wq lo tp w wr) (fun i _ _ => len - (intOf i).toNat)
  case atStart => exact ⟨0, Nat.zero_le _, rfl, Wq.refl _ _ _⟩
  case round =>
    obtain ⟨j, hj, rfl, hw⟩ := hrel
    obtain ⟨wo, rfl⟩ : ∃ wo : World, wo = wr := ⟨_, rfl⟩
    have HW := Lib.hid hw
    clear hw
    by_cases hlt : j < len
    · have i1 : (0 : Int) ≤ (j : Int) := Int.natCast_nonneg j
      have i2 : (j : Int) < (len : Int) := by omega
      have HN : Hid (∀ W, Wq lo tp w W → ∃ b o k t A n c, B = some ⟨b, o, none⟩ ∧ InB lo tp b ∧ W.cell? ⟨b, o + j * 4, none⟩ = some (.int .i64 k) ∧ W.frozen? ⟨b, o + j * 4, none⟩ = false ∧ W.cell? ⟨b, o + j * 4 + 1, none⟩ = some (.string t) ∧ W.frozen? ⟨b, o + j * 4 + 1, none⟩ = false ∧ W.cell? ⟨b, o + j * 4 + 3, none⟩ = some (.slice A n c) ∧ SqC S lo tp W (.slice A n c)) := Lib.hid fun W hW => by
        obtain ⟨B', l', c', hv, _, hi⟩ := HF.out W hW
        injection hv with hv1 hv2 hv3
        subst hv1; subst hv2
        exact hi j hlt
      obtain ⟨b, o, k0, t0, A, n, c, rfl, hlo, x0, x0f, x1, x1f, x3, hC⟩ := HN.out wo HW.out
      have HC := Lib.hid hC
      have hn : n ≤ 10000000 := by
        obtain ⟨_, _, _, hv, hl, _⟩ := hC
        injection hv with _ hv2 _
        omega
      have HX3 : Hid (∀ W, Wq lo tp wo W → W.cell? ⟨b, o + j * 4 + 3, none⟩ = some (.slice A n c)) := Lib.hid fun W hW => hW.slice x3
      clear hC x0 x0f x1 x1f x3
      go_wp2_with fail
      go_loopw [5] (fun q wq => ∃ i : Nat, i ≤ n ∧ q = .int .i64 (i : Int) ∧ Wq lo tp wo wq) (fun q _ => n - (intOf q).toNat)
      case atStart => exact ⟨0, Nat.zero_le _, rfl, Wq.refl _ _ _⟩
      case round =>
        obtain ⟨i, hi, rfl, hq⟩ := hrel
        have HQ := Lib.hid hq
        have y3 := HX3.out wr hq
        by_cases hlt2 : i < n
        · have i3 : (0 : Int) ≤ (i : Int) := Int.natCast_nonneg i
          have i4 : (i : Int) < (n : Int) := by omega
          have hc := HC.out.on (fun u => hS.out wo wr u hq) hq
          obtain ⟨B', l', c', hv, _, hk⟩ := hc
          injection hv with hv1 hv2 hv3
          subst hv1; subst hv2
          obtain ⟨b2, o2, s2, A2, n2, c2, rfl, g2, g3, g4, g5, g6⟩ := hk i hlt2
          have HI := Lib.hid (IH.out wr _ g6)
          have hg3 := g3
          clear hq hk g6
          go_wp2_with fail
          refine HI.out.mono ?_
          clear HI
          rintro e w5 ⟨rfl, h5⟩
          have z3 := h5.slice y3
          obtain ⟨s3, z0⟩ := h5.str g3
          have zf := (h5.froz ⟨b2, o2 + i * 2, none⟩).trans g4
          have HE := Lib.hid ((HQ.out.trans h5).trans (Wq.setStr (p := ⟨b2, o2 + i * 2, none⟩) z0 g2 x))
          clear h5 y3 g3 g4 g5 hg3
          go_wp2_with fail
          go_roundw
          case rel => exact ⟨i + 1, by omega, by go_num, HE.out⟩
          case measure => simp [intOf]; omega
        · obtain rfl : i = n := by omega
          have hE := HW.out.trans hq
          obtain ⟨b9, o9, k1, t1, A1, n1, c1, hB9, hlo9, e0, e0f, e1, e1f, e3, _⟩ := HN.out wr hE
          injection hB9 with hB9
          injection hB9 with hb9 ho9
          subst hb9; subst ho9
          have hs1 := Wq.setStr (lo := lo) (tp := tp) (p := ⟨b, o + j * 4 + 1, none⟩) e1 hlo x
          obtain ⟨k2, e0'⟩ := hs1.int e0
          have e0f' := (hs1.froz ⟨b, o + j * 4, none⟩).trans e0f
          have HE := Lib.hid ((hE.trans hs1).trans (Wq.setInt (lo := lo) (tp := tp) (p := ⟨b, o + j * 4, none⟩) e0' hlo 0))
          clear hq hE hs1
          go_wp2_with fail
          go_roundw
          case rel => exact ⟨j + 1, by omega, by go_num, HE.out⟩
          case measure => simp [intOf]; omega
    · obtain rfl : j = len := by omega
      go_wp2_with fail
      go_end0
      exact ⟨rfl, HW.out⟩
theorem wipeQ_any (lo tp : Nat) (x : ByteArray) : (n : Nat) → (v : Value) → (w : World) → SqN lo tp n w v → Calls Tryz.prog 10 #[v, .string x] w fun e w' => e = .returned (.tuple #[]) ∧ Wq lo tp w w'
  | 0, v, w, h => by
    obtain ⟨A, c, rfl⟩ := h
    exact wipeQ_walk (fun _ _ => False) lo tp (Lib.hid fun _ _ _ _ h => h) _ x w ⟨A, 0, c, rfl, Nat.zero_le _, fun i hi => by omega⟩ (Lib.hid fun W u h => h.elim)
  | n + 1, v, w, h => wipeQ_walk (SqN lo tp n) lo tp (Lib.hid fun W W' u hW hu => SqN.on hW n hu) v x w h (Lib.hid fun W u hu => wipeQ_any lo tp x n u W hu)
end Go.Proofs.YtjdfpoppimcikaaGreatDoor
/- lex.Bare, plainly: a text, quoted or not, and what is left. -/

namespace Go.Proofs.YtjdfpoppimcikaaGreatDoor
open Go.RowKit

abbrev LexR := Option (List UInt8 × List UInt8)
def appL (a : List UInt8) (p : List UInt8 × List UInt8) : List UInt8 × List UInt8 := (a ++ p.1, p.2)
theorem appL_nil (o : LexR) : o.map (appL []) = o := by cases o <;> rfl
theorem appL_two (a b : List UInt8) (o : LexR) : (o.map (appL b)).map (appL a) = o.map (appL (a ++ b)) := by
  cases o with
  | none => rfl
  | some p => show some _ = some _; simp [appL, List.append_assoc]
/-- what is quoted, up to where -/
def quotedL : List UInt8 → LexR
  | [] => none
  | [c] => if c = 39 then some ([], []) else none
  | c :: d :: r => if c = 39 then (if d = 39 then (quotedL r).map (appL [39]) else some ([], d :: r)) else (quotedL (d :: r)).map (appL [c])
theorem quotedL_plain {c : UInt8} {r : List UInt8} (h : c ≠ 39) : quotedL (c :: r) = (quotedL r).map (appL [c]) := by
  cases r with
  | nil => unfold quotedL; rw [if_neg h]; rfl
  | cons d r => exact if_neg h
theorem quotedL_two {r : List UInt8} : quotedL (39 :: 39 :: r) = (quotedL r).map (appL [39]) := (if_pos rfl).trans (if_pos rfl)
theorem quotedL_end {r : List UInt8} (h : r.head? ≠ some 39) : quotedL (39 :: r) = some ([], r) := by
  cases r with
  | nil => exact if_pos rfl
  | cons d r => exact (if_pos rfl).trans (if_neg fun e => h (by rw [e]; rfl))
theorem quotedL_len : ∀ (n : Nat) (l t r : List UInt8), l.length ≤ n → quotedL l = some (t, r) → t.length + r.length + 1 ≤ l.length
  | 0, l, t, r, hn, h => by
    obtain rfl := List.length_eq_zero_iff.1 (Nat.le_zero.1 hn)
    cases h
  | n + 1, [], t, r, hn, h => by cases h
  | n + 1, c :: l, t, r, hn, h => by
    have hl : l.length ≤ n := by rw [List.length_cons] at hn; omega
    have sub : ∀ (l' : List UInt8) (a : List UInt8), a.length = 1 → l'.length ≤ n → (quotedL l').map (appL a) = some (t, r) → t.length + r.length + 1 ≤ l'.length + 1 := fun l' a ha hl' h' => by
      cases hq : quotedL l' with
      | none => rw [hq] at h'; cases h'
      | some p =>
        obtain ⟨t', r'⟩ := p
        rw [hq] at h'
        injection h' with h'
        injection h' with h1 h2
        have := quotedL_len n l' t' r' hl' hq
        rw [← h1, ← h2, List.length_append]
        show a.length + t'.length + r'.length + 1 ≤ _
        omega
    by_cases hc : c = 39
    · subst hc
      by_cases hh : l.head? = some 39
      · cases l with
        | nil => cases hh
        | cons d q =>
          injection hh with hh
          subst hh
          rw [quotedL_two] at h
          rw [List.length_cons] at hl
          have := sub q [39] rfl (by omega) h
          rw [List.length_cons, List.length_cons]; omega
      · rw [quotedL_end hh] at h
        injection h with h
        injection h with h1 h2
        rw [← h1, ← h2, List.length_cons]
        show 0 + l.length + 1 ≤ _
        omega
    · rw [quotedL_plain hc] at h
      have := sub l [c] rfl hl h
      rw [List.length_cons]; omega
/-- the signs -/
def sgB (mark : Bool) : ByteArray := if mark then ⟨#[123, 125, 35]⟩ else ⟨#[123, 125]⟩
def sigL (mark : Bool) (c : UInt8) : Bool := (bts (sgB mark)).contains c
def sigH (mark : Bool) (r : List UInt8) : Bool := (r.head?.map (sigL mark)).getD false
/-- with fuel -/
def lexL (mark : Bool) : Nat → List UInt8 → LexR
  | 0, _ => none
  | _ + 1, [] => some ([], [])
  | n + 1, c :: r => if sigL mark c = true then some ([], c :: r) else if c = 39 ∧ r.head? = some 39 then (lexL mark n r.tail).map (appL [39])
      else if c = 39 ∧ sigH mark r = true then (match quotedL r with | none => none | some p => (lexL mark n p.2).map (appL p.1)) else (lexL mark n r).map (appL [c])
def bareM (mark : Bool) (l : List UInt8) : LexR := lexL mark (l.length + 1) l
section
variable {mark : Bool} {n : Nat} {c : UInt8} {r : List UInt8}
theorem lexL_nil : lexL mark (n + 1) [] = some ([], []) := rfl
theorem lexL_sign (h : sigL mark c = true) : lexL mark (n + 1) (c :: r) = some ([], c :: r) := if_pos h
theorem lexL_two (h : sigL mark 39 = false) : lexL mark (n + 1) (39 :: 39 :: r) = (lexL mark n r).map (appL [39]) := (if_neg (by rw [h]; decide)).trans (if_pos ⟨rfl, rfl⟩)
theorem lexL_quote (h : sigL mark 39 = false) (h1 : r.head? ≠ some 39) (h2 : sigH mark r = true) : lexL mark (n + 1) (39 :: r) = match quotedL r with | none => none | some p => (lexL mark n p.2).map (appL p.1) :=
  (if_neg (by rw [h]; decide)).trans ((if_neg fun e => h1 e.2).trans (if_pos ⟨rfl, h2⟩))
theorem lexL_bad (h : sigL mark 39 = false) (h1 : r.head? ≠ some 39) (h2 : sigH mark r = true) (hq : quotedL r = none) : lexL mark (n + 1) (39 :: r) = none := by rw [lexL_quote h h1 h2, hq]
theorem lexL_good {p : List UInt8 × List UInt8} (h : sigL mark 39 = false) (h1 : r.head? ≠ some 39) (h2 : sigH mark r = true) (hq : quotedL r = some p) : lexL mark (n + 1) (39 :: r) = (lexL mark n p.2).map (appL p.1) := by rw [lexL_quote h h1 h2, hq]
theorem quotedL_drop : ∀ (k : Nat) (l : List UInt8) (p : List UInt8 × List UInt8), l.length ≤ k → quotedL l = some p → p.2 = l.drop (l.length - p.2.length)
  | 0, l, p, hk, h => by
    obtain rfl := List.length_eq_zero_iff.1 (Nat.le_zero.1 hk)
    cases h
  | k + 1, [], p, hk, h => by cases h
  | k + 1, c :: l, p, hk, h => by
    have hl : l.length ≤ k := by rw [List.length_cons] at hk; omega
    have sub : ∀ (l' : List UInt8) (a : List UInt8), l'.length ≤ k → (quotedL l').map (appL a) = some p → p.2 = l'.drop (l'.length - p.2.length) ∧ p.2.length ≤ l'.length := fun l' a hl' h' => by
      cases hq : quotedL l' with
      | none => rw [hq] at h'; cases h'
      | some p' =>
        rw [hq] at h'
        injection h' with h'
        subst h'
        have h5 := quotedL_len _ _ p'.1 p'.2 (Nat.le_refl _) hq
        exact ⟨quotedL_drop k l' p' hl' hq, by show p'.2.length ≤ _; omega⟩
    by_cases hc : c = 39
    · subst hc
      by_cases hh : l.head? = some 39
      · cases l with
        | nil => cases hh
        | cons d q =>
          injection hh with hh
          subst hh
          rw [quotedL_two] at h
          obtain ⟨h1, h2⟩ := sub q [39] (by rw [List.length_cons] at hl; omega) h
          rw [List.length_cons, List.length_cons, show q.length + 1 + 1 - p.2.length = (q.length - p.2.length) + 1 + 1 from by omega, List.drop_succ_cons, List.drop_succ_cons]
          exact h1
      · rw [quotedL_end hh] at h
        injection h with h
        subst h
        show l = _
        rw [List.length_cons]
        show l = (39 :: l).drop (l.length + 1 - l.length)
        rw [show l.length + 1 - l.length = 1 from by omega]; rfl
    · rw [quotedL_plain hc] at h
      obtain ⟨h1, h2⟩ := sub l [c] hl h
      rw [List.length_cons, show l.length + 1 - p.2.length = (l.length - p.2.length) + 1 from by omega, List.drop_succ_cons]
      exact h1
theorem lexL_plain (h : sigL mark c = false) (h1 : c = 39 → r.head? ≠ some 39 ∧ sigH mark r = false) : lexL mark (n + 1) (c :: r) = (lexL mark n r).map (appL [c]) :=
  (if_neg (by rw [h]; decide)).trans ((if_neg fun e => (h1 e.1).1 e.2).trans (if_neg fun e => by have := (h1 e.1).2; rw [e.2] at this; cases this))
theorem sig39 (mark : Bool) : sigL mark 39 = false := by cases mark <;> decide
end
theorem lexL_len (mark : Bool) : ∀ (n : Nat) (l t r : List UInt8), lexL mark n l = some (t, r) → t.length + r.length ≤ l.length
  | 0, l, t, r, h => by cases h
  | n + 1, [], t, r, h => by
    injection h with h; injection h with h1 h2
    rw [← h1, ← h2]; exact Nat.le_refl _
  | n + 1, c :: l, t, r, h => by
    have sub : ∀ (l' a : List UInt8), (lexL mark n l').map (appL a) = some (t, r) → t.length + r.length ≤ a.length + l'.length := fun l' a h' => by
      cases hq : lexL mark n l' with
      | none => rw [hq] at h'; cases h'
      | some p =>
        obtain ⟨t', r'⟩ := p
        rw [hq] at h'
        injection h' with h'
        injection h' with h1 h2
        have := lexL_len mark n l' t' r' hq
        rw [← h1, ← h2, List.length_append]
        show a.length + t'.length + r'.length ≤ _
        omega
    unfold lexL at h
    rw [List.length_cons]
    split at h
    · injection h with h; injection h with h1 h2
      rw [← h1, ← h2, List.length_cons]
      show 0 + (l.length + 1) ≤ _; omega
    split at h
    · have := sub _ _ h
      rw [List.length_tail] at this
      show _ ≤ _
      rw [show [(39 : UInt8)].length = 1 from rfl] at this
      omega
    split at h
    · split at h
      · cases h
      · rename_i p hp
        have := sub _ _ h
        have h5 := quotedL_len _ _ p.1 p.2 (Nat.le_refl _) hp
        omega
    · have := sub _ _ h
      rw [show [c].length = 1 from rfl] at this
      omega
theorem quotedL_suf {l : List UInt8} {p : List UInt8 × List UInt8} (h : quotedL l = some p) : p.2 <:+ l := by
  rw [List.suffix_iff_eq_drop]; exact quotedL_drop _ l p (Nat.le_refl _) h
theorem lexL_suf (mark : Bool) : ∀ (n : Nat) (l : List UInt8) (p : List UInt8 × List UInt8), lexL mark n l = some p → p.2 <:+ l
  | 0, l, p, h => by cases h
  | n + 1, [], p, h => by
    injection h with h
    subst h; exact List.suffix_refl _
  | n + 1, c :: l, p, h => by
    have sub : ∀ (l' a : List UInt8), l' <:+ c :: l → (lexL mark n l').map (appL a) = some p → p.2 <:+ c :: l := fun l' a hs h' => by
      obtain ⟨p', hq, h'⟩ := Option.map_eq_some_iff.1 h'
      subst h'
      exact (lexL_suf mark n l' p' hq).trans hs
    have hc : l <:+ c :: l := List.suffix_cons c l
    unfold lexL at h
    split at h
    · injection h with h
      subst h; exact List.suffix_refl _
    split at h
    · exact sub _ _ ((List.tail_suffix l).trans hc) h
    split at h
    · split at h
      · cases h
      · rename_i q hq
        exact sub _ _ ((quotedL_suf hq).trans hc) h
    · exact sub _ _ hc h
theorem bareM_drop {mark : Bool} {l : List UInt8} {p : List UInt8 × List UInt8} (h : bareM mark l = some p) : l.drop (l.length - p.2.length) = p.2 := by
  have := lexL_suf mark _ l p h
  rw [List.suffix_iff_eq_drop] at this
  exact this.symm
theorem bareM_len {mark : Bool} {l t r : List UInt8} (h : bareM mark l = some (t, r)) : t.length + r.length ≤ l.length := lexL_len mark _ _ _ _ h
end Go.Proofs.YtjdfpoppimcikaaGreatDoor
