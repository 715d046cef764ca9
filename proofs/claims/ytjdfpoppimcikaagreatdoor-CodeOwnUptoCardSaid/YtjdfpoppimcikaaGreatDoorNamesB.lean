/- Messages that a call makes: their rows, each row of cases a block of its own, each body where no row lies. -/
import Derived.Deep.RegionLaw
import Derived.Test.YtjdfpoppimcikaaGreatDoorNamesA
namespace Go.Proofs.YtjdfpoppimcikaaGreatDoor
open Go.RowKit

theorem step_append_ownN {P : Program} {w : World} {ops : Array Oper} {o : Oper} {a : Act} {K : Act → World → Prop} {Q : Exit → Act → World → Prop} {E : Prop} (hgd : o.guard = none) (s x : Operand) (t : TypeId)
    (ho : o.op = .call { callee := .builtin .append, args := #[s, x], argTypes := #[t, t] })
    (base : Nat) (e : TypeId) {z : Value} {size bytes : Nat} (ht : P.underlying t = some (.slice e)) (hi : (P.info? e).map (fun i => (i.zero, i.size, i.bytes)) = some (some z, size, bytes))
    (hzs : z.cells.size = size) (hsz : 0 < size)
    {v : Value} {n : Nat} (xs : List Value) (hs : a.eval s = v) (hown : w.ownsRow base e size v n xs)
    {A : Option Addr} {m c : Nat} (news : List Value) (hx : a.eval x = .slice A m c) (hl : news.length = m * size)
    (hnews : m = 0 ∨ ∃ b o, A = some ⟨b, o, none⟩ ∧ ∀ j u, news[j]? = some u → w.cell? ⟨b, o + j, none⟩ = some u) (h1 : ∀ u ∈ news, u.oneCell' = true)
    (h63 : n + m ≤ maxLen) (hbytes : (n + m) * bytes ≤ 140737488355328) (hbase : base ≤ w.heap.size)
    (h : ∀ v' w', w'.ownsRow base e size v' (n + m) (xs ++ news) → w.grownBy w' v.ownBlock → (v'.ownBlock = v.ownBlock ∨ v'.ownBlock = some w.heap.size) → K (a.put o.dst v') w') :
    if Region.wanted o (yielded ops a.tmps) = true then Oper.wp P o a w K Q else E := by
  have hw : Region.wanted o (yielded ops a.tmps) = true := by simp [Region.wanted, hgd]
  rw [if_pos hw]
  obtain ⟨i, hi, hz0, hz1, hz2⟩ := info_parts hi
  by_cases hm : m = 0
  · subst hm
    have hnil : news = [] := List.length_eq_zero_iff.1 (by omega)
    subst hnil
    have hh := h v w (by simpa using hown) (World.grownBy.refl _ _) (.inl rfl)
    obtain ⟨B, cap, rfl, hcap⟩ := own_slice hown
    have hS : Src P i.size t (.slice A 0 c) 0 [] w := by
      cases A with
      | none => exact Src.ofNil w ht c
      | some ad => exact Src.ofSlice w ht ad 0 c [] (by simp) (fun j u hj => by simp at hj) (fun u hu => by cases hu)
    have hrun := run_append_nothing (P := P) w t t o.type e i ht hi B n cap hcap _ hS
    unfold Oper.wp execOp
    simp only [ho, resolve, invoke, builtin, Sem.run_bind, Sem.run_pure, Result.andThen_ok, List.map_toArray, List.map_cons, List.map_nil, hs, hx, hrun]
    exact hh
  · rcases hnews with h0 | ⟨b, o', rfl, hc⟩
    · exact absurd h0 hm
    obtain ⟨v', w', hr, h2, h3, _, h5⟩ := run_append_own_at (P := P) w base t o.type e i z size bytes ht hi hz0 hz1 hz2 hzs hsz v n xs hown ⟨b, o', none⟩ m c news hl (fun j u hj => by
      have e1 : ((⟨b, o', none⟩ : Addr).add j) = ⟨b, o' + j, none⟩ := by
        unfold Addr.add
        by_cases h0 : j = 0
        · rw [if_pos h0, h0]; rfl
        · rw [if_neg h0]
      rw [e1]; exact hc j u hj) h1 h63 hbytes hbase
    unfold Oper.wp execOp
    simp only [ho, resolve, invoke, builtin, Sem.run_bind, Sem.run_pure, Result.andThen_ok, List.map_toArray, List.map_cons, List.map_nil, hs, hx, hr]
    exact h v' w' h2 h3 h5

/-- a case that was made: its key, its body, the body's value, where the body's blocks lie -/
structure CB (β : Type) where
  key : ByteArray
  body : List β
  u : Value
  s : Nat
  e : Nat
structure CN (β : Type) where
  kind : Int
  text : ByteArray
  off : Int
  v : Value
  bods : List (CB β)
section
variable {β : Type}
def CB.row (c : CB β) : List Value := [.string c.key, c.u]
def flatC (l : List (CB β)) : List Value := l.flatMap CB.row
def CN.row (x : CN β) : List Value := [.int .i64 x.kind, .string x.text, .int .i64 x.off, x.v]
def flatM (l : List (CN β)) : List Value := l.flatMap CN.row
def CB.plain (c : CB β) : ByteArray × List β := (c.key, c.body)
def CN.plain (x : CN β) : NdF β := ⟨x.kind, x.text, x.off, x.bods.map CB.plain⟩
theorem flatC_snoc (l : List (CB β)) (c : CB β) : flatC (l ++ [c]) = flatC l ++ CB.row c := by simp [flatC]
theorem flatM_snoc (l : List (CN β)) (x : CN β) : flatM (l ++ [x]) = flatM l ++ CN.row x := by simp [flatM]
theorem flatC_at : ∀ (l : List (CB β)) (i : Nat) (h : i < l.length), ((flatC l).drop (i * 2)).take 2 = CB.row l[i]
  | [], i, h => by cases h
  | p :: l, 0, _ => by show ((CB.row p ++ flatC l).drop (0 * 2)).take 2 = _; simp [CB.row]
  | p :: l, i + 1, h => by
    have ih := flatC_at l i (by simpa using h)
    show ((CB.row p ++ flatC l).drop ((i + 1) * 2)).take 2 = _
    rw [show (i + 1) * 2 = (CB.row p).length + i * 2 from by simp [CB.row]; omega, List.drop_append, List.drop_eq_nil_of_le (Nat.le_add_right _ _), Nat.add_sub_cancel_left]
    exact ih
theorem flatM_at : ∀ (l : List (CN β)) (i : Nat) (h : i < l.length), ((flatM l).drop (i * 4)).take 4 = CN.row l[i]
  | [], i, h => by cases h
  | p :: l, 0, _ => by show ((CN.row p ++ flatM l).drop (0 * 4)).take 4 = _; simp [CN.row]
  | p :: l, i + 1, h => by
    have ih := flatM_at l i (by simpa using h)
    show ((CN.row p ++ flatM l).drop ((i + 1) * 4)).take 4 = _
    rw [show (i + 1) * 4 = (CN.row p).length + i * 4 from by simp [CN.row]; omega, List.drop_append, List.drop_eq_nil_of_le (Nat.le_add_right _ _), Nat.add_sub_cancel_left]
    exact ih
/-- the row of a value does not lie between s and e -/
def away (v : Value) (s e : Nat) : Prop := ∀ r, v.ownBlock = some r → r < s ∨ e ≤ r
def BodOk (E : Enc β) (base : Nat) (W : World) (c : CB β) : Prop := base ≤ c.s ∧ ListOk E W c.s c.e c.u c.body ∧ c.e ≤ W.heap.size
theorem BodOk.below {E : Enc β} (hE : E.Laws) {base : Nat} {W W' : World} {c : CB β} (h : BodOk E base W c) (hb : Below W.heap.size W W') : BodOk E base W' c :=
  ⟨h.1, h.2.1.keep hE ((Alk.of_below hb).mono (Nat.le_refl _) h.2.2), Nat.le_trans h.2.2 hb.size⟩
/-- what keeps the cells of all blocks between s and e -/
theorem BodOk.keep {E : Enc β} (hE : E.Laws) {base : Nat} {W W' : World} {c : CB β} (h : BodOk E base W c) (hk : ∀ g, c.s ≤ g → g < c.e → W'.heap[g]? = W.heap[g]?) (hs : W.heap.size ≤ W'.heap.size) : BodOk E base W' c :=
  ⟨h.1, h.2.1.keep hE fun p h1 h2 => World.cell?_of_block (hk p.block h1 h2), Nat.le_trans h.2.2 hs⟩
structure Sep (E : Enc β) (base : Nat) (W : World) (out : Value) (xs : List (CN β)) : Prop where
  row : W.ownsRow base 30 4 out xs.length (flatM xs)
  cas : ∀ x ∈ xs, W.ownsRow base 76 2 x.v x.bods.length (flatC x.bods)
  apart : xs.Pairwise fun x y => ∀ r, x.v.ownBlock = some r → y.v.ownBlock ≠ some r
  bod : ∀ x ∈ xs, ∀ c ∈ x.bods, BodOk E base W c ∧ away out c.s c.e ∧ ∀ y ∈ xs, away y.v c.s c.e
theorem Sep.nil {E : Enc β} {base : Nat} {W : World} : Sep E base W (.slice none 0 0) [] := ⟨own_nil, (fun x hx => nomatch hx), List.Pairwise.nil, (fun x hx => nomatch hx)⟩
theorem Sep.below {E : Enc β} (hE : E.Laws) {base : Nat} {W W' : World} {out : Value} {xs : List (CN β)} (h : Sep E base W out xs) (hb : Below W.heap.size W W') : Sep E base W' out xs :=
  ⟨own_below h.row hb (Nat.le_refl _), fun x hx => own_below (h.cas x hx) hb (Nat.le_refl _), h.apart, fun x hx c hc => ⟨(h.bod x hx c hc).1.below hE hb, (h.bod x hx c hc).2⟩⟩
theorem own_type {W : World} {b1 b2 : Nat} {t1 t2 : TypeId} {z1 z2 n1 n2 : Nat} {v1 v2 : Value} {l1 l2 : List Value} (h1 : W.ownsRow b1 t1 z1 v1 n1 l1) (h2 : W.ownsRow b2 t2 z2 v2 n2 l2) (hne : t1 ≠ t2) {r : Nat} (e1 : v1.ownBlock = some r) : v2.ownBlock ≠ some r := by
  intro e2
  obtain ⟨_, ⟨k, _⟩ | ⟨g, cap, cur, hv, hb, hh, _⟩⟩ := h1
  · rw [k] at e1; cases e1
  obtain ⟨_, ⟨k', _⟩ | ⟨g', cap', cur', hv', hb', hh', _⟩⟩ := h2
  · rw [k'] at e2; cases e2
  rw [hv] at e1; rw [hv'] at e2
  injection e1 with e1; injection e2 with e2
  subst e1
  have e2 : g' = g := e2
  subst e2
  rw [hh] at hh'
  injection hh' with hh'
  injection hh' with _ hh'
  exact hne hh'
theorem Sep.list {E : Enc β} (hE : E.Laws) {base lo hi : Nat} {W : World} {out : Value} {xs : List (CN β)} (h : Sep E base W out xs) (hb : lo ≤ base) (hs : W.heap.size ≤ hi) : ListOk (Enc.nodeF E) W lo hi out (xs.map CN.plain) := by
  have h1 := h.row
  have e1 : xs.length = (xs.map CN.plain).length := by simp
  rw [e1] at h1
  refine ListOk.of_own (E := Enc.nodeF E) h1 hb hs fun i hl => ?_
  have hl' : i < xs.length := by simpa using hl
  have hm := List.getElem_mem hl'
  refine ⟨xs[i].v, ?_, ?_⟩
  · rw [show (Enc.nodeF E).sz = 4 from rfl, flatM_at xs i hl']; simp [CN.row, CN.plain]
  · rw [List.getElem_map]
    have h2 := h.cas _ hm
    have e2 : xs[i].bods.length = (CN.plain xs[i]).cases.length := by simp [CN.plain]
    rw [e2] at h2
    refine ListOk.of_own (E := Enc.cas E) h2 hb hs fun k hk => ?_
    have hk' : k < xs[i].bods.length := by rw [e2]; exact hk
    obtain ⟨⟨b1, b2, b3⟩, _⟩ := h.bod _ hm _ (List.getElem_mem hk')
    refine ⟨xs[i].bods[k].u, ?_, ?_⟩
    · rw [show (Enc.cas E).sz = 2 from rfl, flatC_at _ k hk']; simp [CB.row, CN.plain, CB.plain]
    · have e3 : ((CN.plain xs[i]).cases[k]).2 = xs[i].bods[k].body := by simp [CN.plain, CB.plain]
      rw [e3]
      exact b2.mono hE (by omega) (by omega)
/- ## The node that is being made -/
structure NSt (E : Enc β) (W0 : World) (Yb : Nat) (kind : Int) (text : ByteArray) (off : Int) (v : Value) (bods : List (CB β)) (W : World) : Prop where
  below : Below W0.heap.size W0 W
  box : Blk W Yb 30 #[.int .i64 kind, .string text, .int .i64 off, v]
  row : W.ownsRow (Yb + 1) 76 2 v bods.length (flatC bods)
  bod : ∀ c ∈ bods, BodOk E (Yb + 1) W c ∧ away v c.s c.e
  ge : W0.heap.size ≤ Yb
theorem NSt.on {E : Enc β} (hE : E.Laws) {W0 W W' : World} {Yb : Nat} {kind : Int} {text : ByteArray} {off : Int} {v : Value} {bods : List (CB β)} (h : NSt E W0 Yb kind text off v bods W) (hb : Below W.heap.size W W') : NSt E W0 Yb kind text off v bods W' :=
  ⟨h.below.trans (hb.mono h.below.size), h.box.below hb h.box.lt, own_below h.row hb (Nat.le_refl _), fun c hc => ⟨(h.bod c hc).1.below hE hb, (h.bod c hc).2⟩, h.ge⟩
theorem own_box {w : World} {base g : Nat} {e : TypeId} {size n : Nat} {v : Value} {xs : List Value} (h : w.ownsRow base e size v n xs) (hg : g < base) : v.ownBlock ≠ some g := fun e => by have := (own_lt h e).1; omega
/-- a case is appended to the row, the row is stored into the node -/
theorem NSt.push {E : Enc β} (hE : E.Laws) {W0 W w7 : World} {Yb : Nat} {kind : Int} {text : ByteArray} {off : Int} {v v7 : Value} {bods : List (CB β)} {c : CB β} (h : NSt E W0 Yb kind text off v bods W) (hc : BodOk E (Yb + 1) W c) (hv : away v c.s c.e)
    (hg : W.grownBy w7 v.ownBlock) (hown : w7.ownsRow (Yb + 1) 76 2 v7 (bods.length + 1) (flatC bods ++ CB.row c)) (ho : v7.ownBlock = v.ownBlock ∨ v7.ownBlock = some W.heap.size) :
    NSt E W0 Yb kind text off v7 (bods ++ [c]) (w7.setCell ⟨Yb, 3, none⟩ v7) := by
  have hr : ∀ r, v.ownBlock = some r → Yb + 1 ≤ r := fun r hr => (own_lt h.row hr).1
  have hlt := h.box.lt
  have hsz : (w7.setCell ⟨Yb, 3, none⟩ v7).heap.size = w7.heap.size := by simp [World.setCell]
  have b7 : Blk w7 Yb 30 #[.int .i64 kind, .string text, .int .i64 off, v] := (hg.block Yb hlt (fun e => own_box h.row (Nat.lt_succ_self _) e.symm)).trans h.box
  have aw : ∀ d : CB β, BodOk E (Yb + 1) W d → away v d.s d.e → BodOk E (Yb + 1) (w7.setCell ⟨Yb, 3, none⟩ v7) d ∧ away v7 d.s d.e := fun d hd ha => by
    refine ⟨hd.keep hE (fun g h1 h2 => ?_) (by rw [hsz]; exact hg.size), fun r hr7 => ?_⟩
    · have hne : g ≠ Yb := by have := hd.1; omega
      rw [Below.heap_setCell _ _ _ _ (by exact hne)]
      refine hg.block g (by have := hd.2.2; omega) fun e => ?_
      have := ha g e.symm
      omega
    · rcases ho with ho | ho
      · exact ha r (by rw [← ho]; exact hr7)
      · rw [ho] at hr7
        injection hr7 with hr7
        have := hd.2.2
        omega
  refine ⟨(h.below.grown hg h.below.size (fun r e => by have := hr r e; have := h.ge; omega)).setCell (p := ⟨Yb, 3, none⟩) h.ge _, b7.set_ 3 v7, ?_, fun d hd => ?_, h.ge⟩
  · rw [flatC_snoc, List.length_append]
    exact own_keep hown fun g hg' _ => Below.heap_setCell _ _ _ _ (fun (e : g = Yb) => own_box hown (Nat.lt_succ_self _) (by rw [hg', e]))
  · rcases List.mem_append.1 hd with hd | hd
    · exact aw d (h.bod d hd).1 (h.bod d hd).2
    · obtain rfl := List.mem_singleton.1 hd
      exact aw d hc hv
/-- the node that was made is appended -/
theorem Sep.push {E : Enc β} (hE : E.Laws) {base : Nat} {W0 W w7 : World} {Yb : Nat} {out out7 : Value} {xs : List (CN β)} {x : CN β} (h : Sep E base W0 out xs) (hn : NSt E W0 Yb x.kind x.text x.off x.v x.bods W) (hbs : base ≤ W0.heap.size)
    (hg : W.grownBy w7 out.ownBlock) (hown : w7.ownsRow base 30 4 out7 (xs.length + 1) (flatM xs ++ CN.row x)) (ho : out7.ownBlock = out.ownBlock ∨ out7.ownBlock = some W.heap.size) : Sep E base w7 out7 (xs ++ [x]) := by
  have h1 : Sep E base W out xs := h.below hE hn.below
  have hz := hn.below.size
  have hge := hn.ge
  have hout : ∀ r, out.ownBlock = some r → r < W0.heap.size := fun r e => (own_lt h.row e).2
  have hold : ∀ y ∈ xs, ∀ r, y.v.ownBlock = some r → r < W0.heap.size := fun y hy r e => (own_lt (h.cas y hy) e).2
  have hnew : ∀ r, x.v.ownBlock = some r → Yb + 1 ≤ r ∧ r < W.heap.size := fun r e => own_lt hn.row e
  have ht7 : ∀ {v : Value} {b n : Nat} {l : List Value}, W.ownsRow b 76 2 v n l → w7.ownsRow b 76 2 v n l := fun hv => own_keep hv fun g hg' hlt => hg.block g hlt fun e => own_type h1.row hv (by decide) e.symm hg'
  have bo : ∀ d : CB β, BodOk E base W d → away out d.s d.e → BodOk E base w7 d ∧ away out7 d.s d.e := fun d hd ha => by
    refine ⟨hd.keep hE (fun g k1 k2 => hg.block g (by have := hd.2.2; omega) fun e => ?_) hg.size, fun r hr7 => ?_⟩
    · have := ha g e.symm
      omega
    · rcases ho with ho | ho
      · exact ha r (by rw [← ho]; exact hr7)
      · rw [ho] at hr7
        injection hr7 with hr7
        have := hd.2.2
        omega
  refine ⟨?_, fun y hy => ?_, ?_, fun y hy c hc => ?_⟩
  · rw [flatM_snoc, List.length_append]
    exact hown
  · rcases List.mem_append.1 hy with hy | hy
    · exact ht7 (h1.cas y hy)
    · obtain rfl := List.mem_singleton.1 hy
      exact ht7 (own_mono hn.row (by omega))
  · rw [List.pairwise_append]
    refine ⟨h.apart, List.pairwise_singleton _ _, fun y hy z hz' r e1 e2 => ?_⟩
    obtain rfl := List.mem_singleton.1 hz'
    have := hold y hy r e1
    have := (hnew r e2).1
    omega
  · rcases List.mem_append.1 hy with hy | hy
    · obtain ⟨k1, k2, k3⟩ := h1.bod y hy c hc
      have k0 := (h.bod y hy c hc).1.2.2
      obtain ⟨k4, k5⟩ := bo c k1 k2
      refine ⟨k4, k5, fun z hz' => ?_⟩
      rcases List.mem_append.1 hz' with hz' | hz'
      · exact k3 z hz'
      · obtain rfl := List.mem_singleton.1 hz'
        intro r e
        have := (hnew r e).1
        omega
    · obtain rfl := List.mem_singleton.1 hy
      obtain ⟨k1, k2⟩ := hn.bod c hc
      have k0 := k1.1
      obtain ⟨k4, k5⟩ := bo c ⟨by omega, k1.2⟩ fun r e => by have := hout r e; omega
      refine ⟨k4, k5, fun z hz' => ?_⟩
      rcases List.mem_append.1 hz' with hz' | hz'
      · intro r e
        have := hold z hz' r e
        omega
      · obtain rfl := List.mem_singleton.1 hz'
        exact k2
end
end Go.Proofs.YtjdfpoppimcikaaGreatDoor
/- (*needs).add. -/

namespace Go.Proofs.YtjdfpoppimcikaaGreatDoor
open Go.RowKit

theorem step_append_anyN {P : Program} {w : World} {ops : Array Oper} {o : Oper} {a : Act} {K : Act → World → Prop} {Q : Exit → Act → World → Prop} {E : Prop} (hgd : o.guard = none) (s x : Operand) (t : TypeId)
    (ho : o.op = .call { callee := .builtin .append, args := #[s, x], argTypes := #[t, t] })
    (base : Nat) (e : TypeId) {z : Value} {size bytes : Nat} (ht : P.underlying t = some (.slice e)) (hi : (P.info? e).map (fun i => (i.zero, i.size, i.bytes)) = some (some z, size, bytes))
    (hzs : z.cells.size = size) (hsz : 0 < size)
    {v : Value} {n : Nat} (xs : List Value) (hs : a.eval s = v) (hown : w.ownsRow base e size v n xs)
    {A : Option Addr} {m c : Nat} (news : List Value) (hx : a.eval x = .slice A m c) (hl : news.length = m * size)
    (hnews : m = 0 ∨ ∃ b o, A = some ⟨b, o, none⟩ ∧ ∀ j u, news[j]? = some u → w.cell? ⟨b, o + j, none⟩ = some u) (h1 : ∀ u ∈ news, u.oneCell' = true)
    (h63 : n + m ≤ maxLen) (hbytes : (n + m) * bytes ≤ 140737488355328) (hbase : base ≤ w.heap.size)
    (h : ∀ v' w', w'.ownsRow base e size v' (n + m) (xs ++ news) → w.grownBy w' v.ownBlock → K (a.put o.dst v') w') :
    if Region.wanted o (yielded ops a.tmps) = true then Oper.wp P o a w K Q else E := by
  have hw : Region.wanted o (yielded ops a.tmps) = true := by simp [Region.wanted, hgd]
  rw [if_pos hw]
  obtain ⟨i, hi, hz0, hz1, hz2⟩ := info_parts hi
  by_cases hm : m = 0
  · subst hm
    have hnil : news = [] := List.length_eq_zero_iff.1 (by omega)
    subst hnil
    have hh := h v w (by simpa using hown) (World.grownBy.refl _ _)
    obtain ⟨B, cap, rfl, hcap⟩ := own_slice hown
    have hS : Src P i.size t (.slice A 0 c) 0 [] w := by
      cases A with
      | none => exact Src.ofNil w ht c
      | some ad => exact Src.ofSlice w ht ad 0 c [] (by simp) (fun j u hj => by simp at hj) (fun u hu => by cases hu)
    have hrun := run_append_nothing (P := P) w t t o.type e i ht hi B n cap hcap _ hS
    unfold Oper.wp execOp
    simp only [ho, resolve, invoke, builtin, Sem.run_bind, Sem.run_pure, Result.andThen_ok, List.map_toArray, List.map_cons, List.map_nil, hs, hx, hrun]
    exact hh
  · rcases hnews with h0 | ⟨b, o', rfl, hc⟩
    · exact absurd h0 hm
    obtain ⟨v', w', hr, h2, h3, _, _⟩ := run_append_own_at (P := P) w base t o.type e i z size bytes ht hi hz0 hz1 hz2 hzs hsz v n xs hown ⟨b, o', none⟩ m c news hl (fun j u hj => by
      have e1 : ((⟨b, o', none⟩ : Addr).add j) = ⟨b, o' + j, none⟩ := by
        unfold Addr.add
        by_cases h0 : j = 0
        · rw [if_pos h0, h0]; rfl
        · rw [if_neg h0]
      rw [e1]; exact hc j u hj) h1 h63 hbytes hbase
    unfold Oper.wp execOp
    simp only [ho, resolve, invoke, builtin, Sem.run_bind, Sem.run_pure, Result.andThen_ok, List.map_toArray, List.map_cons, List.map_nil, hs, hx, hr]
    exact h v' w' h2 h3

theorem own_setN {w : World} {base : Nat} {e : TypeId} {size n c g : Nat} {xs : List Value} (h : w.ownsRow base e size (.slice (some ⟨g, 0, none⟩) n c) n xs) (k : Nat) (u : Value) (hk : k < n * size) :
    (w.setCell ⟨g, k, none⟩ u).ownsRow base e size (.slice (some ⟨g, 0, none⟩) n c) n (xs.set k u) := by
  obtain ⟨hlen, ⟨hv, _⟩ | ⟨g', cap, cur, hv, hb, hh, hc, hm, hcs, ht⟩⟩ := h
  · cases hv
  · injection hv with hv1 hv2 hv3
    injection hv1 with hv1
    injection hv1 with e1
    subst e1; subst hv3
    refine ⟨by rw [List.length_set]; exact hlen, .inr ⟨g, c, cur.setIfInBounds k u, rfl, hb, ?_, hc, hm, by simpa using hcs, ?_⟩⟩
    · rw [setCell_eq_setRow w g k cur e (0, 0) u hh]
      exact setRow_heap w g _ _ e _ hh
    · rw [← ht, Array.toList_setIfInBounds, List.take_set]
theorem info_needN : (Tryz.prog.info? 82).map (fun i => (i.zero, i.size, i.bytes)) = some (some (.agg #[.string ByteArray.empty, .bool false, .bool false]), 3, 24) := by kernel_rfl
theorem blkGrownN {w w' : World} {g : Nat} {t : TypeId} {cs : Array Value} {row : Option Nat} (h : Blk w g t cs) (hg : w.grownBy w' row) (hne : some g ≠ row) : Blk w' g t cs := (hg.block g h.lt hne).trans h
def putN (l : List Ned) (i : Nat) (b1 b2 : Bool) : List Ned := if h : i < l.length then l.set i ⟨l[i].name, l[i].num || b1, l[i].text || b2⟩ else l
def addN (l : List Ned) (kind : Int) (t : ByteArray) : List Ned := if kind = 1 ∨ kind = 6 then l else
  if idxOfN l (fun x => eqs x.name t) < 0 then putN (l ++ [⟨t, false, false⟩]) l.length (kind == 3 || kind == 4) (kind == 5) else putN l (idxOfN l fun x => eqs x.name t).toNat (kind == 3 || kind == 4) (kind == 5)
theorem putN_len (l : List Ned) (i : Nat) (b1 b2 : Bool) : (putN l i b1 b2).length = l.length := by unfold putN; split <;> simp
theorem addN_len (l : List Ned) (kind : Int) (t : ByteArray) : (addN l kind t).length ≤ l.length + 1 := by
  unfold addN
  split
  · omega
  · split
    · rw [putN_len, List.length_append]; simp
    · rw [putN_len]; omega
/-- only blocks of needs have turned, from base on -/
structure BK (base : Nat) (w w' : World) : Prop where
  below : Below base w w'
  keep : ∀ g t cs, Blk w g t cs → t ≠ 78 → t ≠ 82 → Blk w' g t cs
theorem BK.of {base : Nat} {w w' : World} (h : Below w.heap.size w w') (hb : base ≤ w.heap.size) : BK base w w' := ⟨h.mono hb, fun _ _ _ hg _ _ => hg.below h hg.lt⟩
theorem BK.trans {base : Nat} {a b c : World} (h : BK base a b) (k : BK base b c) : BK base a c := ⟨h.below.trans k.below, fun g t cs hg h1 h2 => k.keep g t cs (h.keep g t cs hg h1 h2) h1 h2⟩
theorem BK.grown {base : Nat} {w W w' : World} {v : Value} {n : Nat} {xs : List Value} (h : BK base w W) (hg : W.grownBy w' v.ownBlock) (hr : W.ownsRow base 82 3 v n xs) (hs : base ≤ W.heap.size) : BK base w w' :=
  ⟨h.below.grown hg hs (fun r e => (own_lt hr e).1), fun g t cs hb h1 h2 => blkGrownN (h.keep g t cs hb h1 h2) hg (fun e => own_blkM hr (h.keep g t cs hb h1 h2) (Ne.symm h2) e.symm)⟩
theorem BK.set {base : Nat} {w W : World} {g o : Nat} {t : TypeId} {cs : Array Value} (h : BK base w W) (hb : Blk W g t cs) (ht : t = 78 ∨ t = 82) (hg : base ≤ g) (u : Value) : BK base w (W.setCell ⟨g, o, none⟩ u) :=
  ⟨h.below.setCell hg _, fun g' t' cs' hb' h1 h2 => (h.keep g' t' cs' hb' h1 h2).far (fun (e : g' = g) => by
    subst e
    have hk := h.keep _ t' cs' hb' h1 h2
    unfold Blk at hb hk
    rw [hb] at hk
    injection hk with hk
    injection hk with _ hk
    rcases ht with rfl | rfl
    · exact h1 hk.symm
    · exact h2 hk.symm) u⟩
/-- the box of needs, and its row -/
structure NeS (base q : Nat) (l : List Ned) (W : World) : Prop where
  box : ∃ v, Blk W q 78 #[v] ∧ W.ownsRow base 82 3 v l.length (flatN l)
theorem NeS.below {base q : Nat} {l : List Ned} {W W' : World} (h : NeS base q l W) (hb : Below W.heap.size W W') : NeS base q l W' := by
  obtain ⟨v, h1, h2⟩ := h.box
  exact ⟨v, h1.below hb h1.lt, own_below h2 hb (Nat.le_refl _)⟩
theorem three_news (w : World) (x : ByteArray) (t : TypeId) : ∀ q u, ([Value.string x, .bool false, .bool false] : List Value)[q]? = some u → (w.alloc (.cells #[.string x, .bool false, .bool false] t)).cell? ⟨w.heap.size, 0 + q, none⟩ = some u := fun q u hq => by
  rw [Nat.zero_add, (Blk.new w t #[.string x, .bool false, .bool false]).cell q]; simpa using hq
theorem flatN_length (l : List Ned) : (flatN l).length = l.length * 3 := by
  induction l with
  | nil => rfl
  | cons p l ih => show (nedV p ++ flatN l).length = _; rw [List.length_append, ih]; simp [nedV]; omega
set_option maxHeartbeats 6400000 in
set_option maxRecDepth 100000 in
theorem add_any (l : List Ned) (q base : Nat) (kind off : Int) (text : ByteArray) (C : Option Addr) (n c : Nat) (w : World) (hS : NeS base q l w) (hbq : base ≤ q) (hl : l.length ≤ 100000000) :
    Calls Tryz.prog 76 #[.pointer (some ⟨q, 0, none⟩), .agg #[.int .i64 kind, .string text, .int .i64 off, .slice C n c]] w fun e w' => e = .returned (.tuple #[]) ∧ BK base w w' ∧ NeS base q (addN l kind text) w' := by
  obtain ⟨v, hq, hrow⟩ := hS.box
  obtain ⟨VA, Vc, rfl, _⟩ := own_slice hrow
  have hbw : base ≤ w.heap.size := by have := hq.lt; omega
  obtain ⟨W1, eW1⟩ : ∃ W1, W1 = w.alloc (.cells #[.int .i64 kind, .string text, .int .i64 off, .slice C n c] 30) := ⟨_, rfl⟩
  have hb1 : Below w.heap.size w W1 := by rw [eW1]; exact (Below.refl _ _).alloc (Nat.le_refl _) _
  have M1 : Hid (Blk W1 w.heap.size 30 #[.int .i64 kind, .string text, .int .i64 off, .slice C n c]) := Lib.hid (by rw [eW1]; exact Blk.new _ _ _)
  have Q1 := Lib.hid (hq.below hb1 hq.lt)
  have R1 := Lib.hid (own_below hrow hb1 (Nat.le_refl _))
  have HB1 := Lib.hid hb1
  have HW1 := Lib.hid eW1
  have k0 : W1.cell? ⟨w.heap.size, 0, none⟩ = some (.int .i64 kind) := (M1.out.cell 0).trans rfl
  have hql := hq.lt
  clear eW1 hb1 hS hq hrow
  by_cases h16 : kind = 1 ∨ kind = 6
  · have HE : Hid (addN l kind text = l) := Lib.hid (by unfold addN; rw [if_pos h16])
    have HS1 : Hid (NeS base q l W1) := Lib.hid ⟨_, Q1.out, R1.out⟩
    rw [HE.out]
    rcases h16 with rfl | rfl
    all_goals
      clear HE Q1 R1 M1
      go_enter Tryz.func76, Tryz.ntmps76
      go_upto_region 1 with fail
      rw [← HW1.out]
      clear HW1
      go_wp2_with fail
      refine bodyPost_ret (results_none rfl _ _ _) rfl ?_
      exact ⟨rfl, BK.of HB1.out hbw, HS1.out⟩
  have q1 : (kind == 1) = false := by rw [beq_eq_false_iff_ne]; omega
  have q6 : (kind == 6) = false := by rw [beq_eq_false_iff_ne]; omega
  have HR : Hid (addN l kind text = if idxOfN l (fun x => eqs x.name text) < 0 then putN (l ++ [⟨text, false, false⟩]) l.length (kind == 3 || kind == 4) (kind == 5) else putN l (idxOfN l fun x => eqs x.name text).toNat (kind == 3 || kind == 4) (kind == 5)) := Lib.hid (by unfold addN; rw [if_neg h16])
  have hidx := idx_cases l fun x => eqs x.name text
  have HI := Lib.hid (indexA_any l (.slice VA l.length Vc) w.heap.size (fun x => eqs x.name text) 0 W1 (neds_of_own R1.out (Nat.zero_le _) (Nat.le_refl _)) (by omega) (Lib.hid fun x _ W hW => addC_any x w.heap.size text W ((hW.cell (p := ⟨w.heap.size, 1, none⟩) M1.out.lt).trans ((M1.out.cell 1).trans rfl))))
  have x0 : W1.cell? ⟨q, 0, none⟩ = some (.slice VA l.length Vc) := (Q1.out.cell 0).trans rfl
  generalize idxOfN l (fun x => eqs x.name text) = I at *
  obtain ⟨K3, hK3⟩ : ∃ K3, K3 = (kind == 3) := ⟨_, rfl⟩
  obtain ⟨K4, hK4⟩ : ∃ K4, K4 = (kind == 4) := ⟨_, rfl⟩
  obtain ⟨K5, hK5⟩ : ∃ K5, K5 = (kind == 5) := ⟨_, rfl⟩
  rw [← hK3, ← hK4, ← hK5] at HR
  have q3 : (kind == 3) = K3 := hK3.symm
  have q4 : (kind == 4) = K4 := hK4.symm
  have q5 : (kind == 5) = K5 := hK5.symm
  clear hK3 hK4 hK5 h16
  go_enter Tryz.func76, Tryz.ntmps76
  go_upto_region 1 with fail
  rw [← HW1.out]
  clear HW1
  go_wp2_with fail
  refine HI.out.mono ?_
  clear HI
  rintro e w2 ⟨rfl, hb2⟩
  have HB2 := Lib.hid (BK.of (HB1.out.trans (hb2.mono HB1.out.size)) hbw)
  have Q2 := Lib.hid (Q1.out.below hb2 Q1.out.lt)
  have M2 := Lib.hid (M1.out.below hb2 M1.out.lt)
  have R2 := Lib.hid (own_below R1.out hb2 (Nat.le_refl _))
  clear hb2 Q1 R1 k0 x0 HB1
  have hM := M2.out.lt
  have hQ := Q2.out.lt
  go_upto_if 20 with fail
  go_cut [4] from 21 (fun iv wx => ∃ (l1 : List Ned) (i : Nat) (A1 : Option Addr) (c1 : Nat), i < l1.length ∧ iv = .int .i64 (i : Int) ∧ Hid (addN l kind text = putN l1 i (K3 || K4) K5) ∧ Blk wx q 78 #[.slice A1 l1.length c1] ∧ wx.ownsRow base 82 3 (.slice A1 l1.length c1) l1.length (flatN l1) ∧ Blk wx w.heap.size 30 #[.int .i64 kind, .string text, .int .i64 off, .slice C n c] ∧ BK base w wx ∧ l1.length ≤ 200000000)
  case first =>
    rcases hidx with h | ⟨i, hi, h⟩
    · subst h
      have HE : Hid (addN l kind text = putN (l ++ [⟨text, false, false⟩]) l.length (K3 || K4) K5) := Lib.hid (by rw [HR.out, if_pos (by decide)])
      have x0 : w2.cell? ⟨q, 0, none⟩ = some (.slice VA l.length Vc) := (Q2.out.cell 0).trans rfl
      have x1 : w2.drew.cell? ⟨w.heap.size, 1, none⟩ = some (.string text) := (M2.out.cell 1).trans rfl
      have x0d : w2.drew.cell? ⟨q, 0, none⟩ = some (.slice VA l.length Vc) := x0
      have HOn := Lib.hid (own_below R2.out ((below_drewN (Below.refl w2.heap.size w2) 1).alloc (Nat.le_refl _) (.cells #[.string text, .bool false, .bool false] 82)) (Nat.le_refl _))
      have HNn := Lib.hid (three_news w2.drew text 82)
      have hb2s := HB2.out.below.size
      clear HR
      go_wp2_with fail
      go_region_law
        (refine step_append_anyN (by rfl) _ _ 78 (by rfl) base 82 Tryz.underlying78 info_needN rfl (by decide) (flatN l) (by rfl) HOn.out [Value.string text, .bool false, .bool false] (by rfl) (by rfl) (.inr ⟨_, _, rfl, HNn.out⟩) (by simp [Value.oneCell']) (by unfold maxLen; omega) (by omega) (by simp; omega) ?_
         intro v4 w4 hown4 hgrow4
         have b4 := blkGrownN ((Q2.out.drew).alloc _) hgrow4 (fun e => own_blkM HOn.out ((Q2.out.drew).alloc _) (by decide) e.symm)
         have m4 := blkGrownN ((M2.out.drew).alloc _) hgrow4 (fun e => own_blkM HOn.out ((M2.out.drew).alloc _) (by decide) e.symm)
         have s1 : w4.cell? ⟨q, 0, none⟩ = some (.slice VA l.length Vc) := (b4.cell 0).trans rfl
         have s2 := b4.frozen 0
         have HB4 := Lib.hid ((HB2.out.trans (BK.of ((below_drewN (Below.refl w2.heap.size w2) 1).alloc (Nat.le_refl _) (.cells #[.string text, .bool false, .bool false] 82)) (by omega))).grown hgrow4 HOn.out (by simp; omega))
         have B4 := Lib.hid b4
         have M4 := Lib.hid m4
         have HO4 := Lib.hid hown4
         obtain ⟨A4, c4, hv4, _⟩ := own_slice hown4
         have hv5 : v4 = .slice A4 (l.length + 1) c4 := by rw [hv4]
         subst hv5
         clear b4 m4 hgrow4 hown4 hv4 x0 x1 x0d)
      all_goals
        go_wp2_with fail
        go_meet
        case rel =>
          refine ⟨l ++ [⟨text, false, false⟩], l.length, A4, c4, by simp, rfl, HE, ?_, ?_, ?_, ?_, by simp; omega⟩
          · rw [List.length_append]; exact B4.out.set_ 0 _
          · rw [List.length_append, flatN_snoc]
            exact own_keep HO4.out fun g hg _ => Below.heap_setCell _ _ _ _ (fun (e : g = q) => own_blkM HO4.out B4.out (by decide) (hg.trans (congrArg some e)))
          · exact M4.out.far (by show w.heap.size ≠ q; omega) _
          · exact HB4.out.set B4.out (.inl rfl) hbq _
    · subst h
      have hge : ¬ ((i : Int) < 0) := by omega
      have HE : Hid (addN l kind text = putN l i (K3 || K4) K5) := Lib.hid (by rw [HR.out, if_neg hge]; simp)
      clear HR
      go_wp2_with fail
      go_meet
      case rel => exact ⟨l, i, VA, Vc, hi, rfl, HE, Q2.out, R2.out, M2.out, HB2.out, by omega⟩
  case rest =>
    obtain ⟨l1, i, A1, c1, hi, rfl, HRes, hq3, hr3, hm3, hb3, hl1⟩ := hcut
    obtain ⟨g, cap, hv1, hgb, hgl⟩ := own_form hr3 (by omega)
    injection hv1 with hv1 _ hv2
    subst hv1; subst hv2
    obtain ⟨b, o, ho, _, _, y0, y1, y2⟩ := (neds_of_own hr3 (Nat.le_refl base) (Nat.le_refl _)).nedAt i hi
    injection ho with ho
    injection ho with e1 e2
    subst e1; subst e2
    simp only [Nat.zero_add] at y0 y1 y2
    obtain ⟨cur, hcur⟩ : ∃ cur, Blk wc g 82 cur := by
      obtain ⟨_, ⟨h, _⟩ | ⟨g', _, cur, h, _, hh, _⟩⟩ := hr3
      · cases h
      · injection h with h
        injection h with h
        injection h with h
        subst h
        exact ⟨cur, hh⟩
    have hgq : q ≠ g := fun e => by
      subst e
      unfold Blk at hq3 hcur
      rw [hq3] at hcur
      injection hcur with hcur
      injection hcur with _ hcur
      exact absurd hcur (by decide)
    have hgw : w.heap.size ≠ g := fun e => by
      subst e
      unfold Blk at hm3 hcur
      rw [hm3] at hcur
      injection hcur with hcur
      injection hcur with _ hcur
      exact absurd hcur (by decide)
    have hx0 : wc.cell? ⟨q, 0, none⟩ = some (.slice (some ⟨g, 0, none⟩) l1.length c1) := (hq3.cell 0).trans rfl
    have c0 : wc.cell? ⟨w.heap.size, 0, none⟩ = some (.int .i64 kind) := (hm3.cell 0).trans rfl
    have f1 := hcur.frozen (i * 3 + 1)
    have hz0 : ∀ u, (wc.setCell ⟨g, i * 3 + 1, none⟩ u).cell? ⟨w.heap.size, 0, none⟩ = some (.int .i64 kind) := fun u => ((hm3.far (by exact hgw) u).cell 0).trans rfl
    have hz2 : ∀ u, (wc.setCell ⟨g, i * 3 + 1, none⟩ u).cell? ⟨g, i * 3 + 2, none⟩ = some (.bool l1[i].text) := fun u => by
      rw [(hcur.set_ (i * 3 + 1) u).cell, Array.getElem?_setIfInBounds_ne (by omega), ← hcur.cell]
      exact y2
    have hzf : ∀ u, (wc.setCell ⟨g, i * 3 + 1, none⟩ u).frozen? ⟨g, i * 3 + 2, none⟩ = false := fun u => (hcur.set_ (i * 3 + 1) u).frozen _
    have HFin : Hid (∀ a bb : Bool, addN l kind text = l1.set i ⟨l1[i].name, a, bb⟩ → (BK base w ((wc.setCell ⟨g, i * 3 + 1, none⟩ (.bool a)).setCell ⟨g, i * 3 + 2, none⟩ (.bool bb)) ∧ NeS base q (addN l kind text) ((wc.setCell ⟨g, i * 3 + 1, none⟩ (.bool a)).setCell ⟨g, i * 3 + 2, none⟩ (.bool bb)))) := Lib.hid fun a bb h => by
      refine ⟨(hb3.set hcur (.inr rfl) hgb _).set (hcur.set_ _ _) (.inr rfl) hgb _, _, (hq3.far (by exact hgq) _).far (by exact hgq) _, ?_⟩
      have h1 := own_setN (own_setN hr3 (i * 3 + 1) (.bool a) (by omega)) (i * 3 + 2) (.bool bb) (by omega)
      rw [flatN_set l1 i hi a bb] at h1
      rw [h, List.length_set]
      exact h1
    have HPut : Hid (addN l kind text = l1.set i ⟨l1[i].name, l1[i].num || (K3 || K4), l1[i].text || K5⟩) := Lib.hid (by
      rw [HRes.out]; unfold putN; rw [dif_pos hi])
    have i1 : (0 : Int) ≤ (i : Int) := Int.natCast_nonneg i
    have i2 : (i : Int) < (l1.length : Int) := by omega
    clear hq3 hr3 hm3 hb3 hcur HRes HR Q2 M2 R2 HB2
    generalize l1[i].name = nm at *
    generalize l1[i].num = p1 at *
    generalize l1[i].text = p2 at *
    cases p1 with
    | true =>
      cases p2 with
      | true =>
        go_wp2_with fail
        go_end0
        exact ⟨rfl, HFin.out true true (HPut.out.trans rfl)⟩
      | false =>
        go_wp2_with fail
        go_end0
        exact ⟨rfl, HFin.out true K5 (HPut.out.trans rfl)⟩
    | false =>
      cases K3 with
      | true =>
        cases p2 with
        | true =>
          go_wp2_with fail
          go_end0
          exact ⟨rfl, HFin.out true true (HPut.out.trans rfl)⟩
        | false =>
          go_wp2_with fail
          go_end0
          exact ⟨rfl, HFin.out true K5 (HPut.out.trans rfl)⟩
      | false =>
        cases p2 with
        | true =>
          go_wp2_with fail
          go_end0
          exact ⟨rfl, HFin.out K4 true (HPut.out.trans rfl)⟩
        | false =>
          go_wp2_with fail
          go_end0
          exact ⟨rfl, HFin.out K4 K5 (HPut.out.trans rfl)⟩
end Go.Proofs.YtjdfpoppimcikaaGreatDoor
