/- Messages that a call makes: their rows, each row of cases a block of its own, each body where no row lies. -/
import Derived.Deep.RegionLaw
import Derived.Test.YtjdfpoppimcikaaGreatDoorNamesA
namespace Go.Proofs.YtjdfpoppimcikaaGreatDoor
open Go.RowKit

theorem step_append_ownN {P : Program} {w : World} {ops : Array Oper} {o : Oper} {a : Act} {K : Act → World → Prop} {Q : Exit → Act → World → Prop} {E : Prop} (hgd : o.guard = none) (s x : Operand) (t : TypeId)
    (ho : o.op = .call { callee := .builtin .append, args := #[s, x], argTypes := #[t, t] })
    (base : Nat) (e : TypeId) {z : Value} {size bytes : Nat} (ht : P.underlying t = some (.slice e)) (hi : (P.info? e).map (fun i => (i.zero, i.size, i.bytes)) = some (some z, size, bytes))
    (hzs : z.cells.size = size) (hsz : 0 < size)
    {v : Value} {n : Nat} (xs : List Value) (hs : a.eval s = v) (hown : w.ownsRow base e size v n xs)
    {A : Option Addr} {m c : Nat} (news : List Value) (hx : a.eval x = .slice A m c) (hl : news.length = m * size)
    (hnews : m = 0 ∨ ∃ b o, A = some ⟨b, o, none⟩ ∧ ∀ j u, news[j]? = some u → w.cell? ⟨b, o + j, none⟩ = some u) (h1 : ∀ u ∈ news, u.oneCell' = true)
    (h63 : n + m ≤ maxLen) (hbytes : (n + m) * bytes ≤ 140737488355328) (hbase : base ≤ w.heap.size)
    (h : ∀ v' w', w'.ownsRow base e size v' (n + m) (xs ++ news) → w.grownBy w' v.ownBlock → (v'.ownBlock = v.ownBlock ∨ v'.ownBlock = some w.heap.size) → K (a.put o.dst v') w') :
    if Region.wanted o (yielded ops a.tmps) = true then Oper.wp P o a w K Q else E := by
  have hw : Region.wanted o (yielded ops a.tmps) = true := by simp [Region.wanted, hgd]
  rw [if_pos hw]
  obtain ⟨i, hi, hz0, hz1, hz2⟩ := info_parts hi
  by_cases hm : m = 0
  · subst hm
    have hnil : news = [] := List.length_eq_zero_iff.1 (by omega)
    subst hnil
    have hh := h v w (by simpa using hown) (World.grownBy.refl _ _) (.inl rfl)
    obtain ⟨B, cap, rfl, hcap⟩ := own_slice hown
    have hS : Src P i.size t (.slice A 0 c) 0 [] w := by
      cases A with
      | none => exact Src.ofNil w ht c
      | some ad => exact Src.ofSlice w ht ad 0 c [] (by simp) (fun j u hj => by simp at hj) (fun u hu => by cases hu)
    have hrun := run_append_nothing (P := P) w t t o.type e i ht hi B n cap hcap _ hS
    unfold Oper.wp execOp
    simp only [ho, resolve, invoke, builtin, Sem.run_bind, Sem.run_pure, Result.andThen_ok, List.map_toArray, List.map_cons, List.map_nil, hs, hx, hrun]
    exact hh
  · rcases hnews with h0 | ⟨b, o', rfl, hc⟩
    · exact absurd h0 hm
    obtain ⟨v', w', hr, h2, h3, _, h5⟩ := run_append_own_at (P := P) w base t o.type e i z size bytes ht hi hz0 hz1 hz2 hzs hsz v n xs hown ⟨b, o', none⟩ m c news hl (fun j u hj => by
      have e1 : ((⟨b, o', none⟩ : Addr).add j) = ⟨b, o' + j, none⟩ := by
        unfold Addr.add
        by_cases h0 : j = 0
        · rw [if_pos h0, h0]; rfl
        · rw [if_neg h0]
      rw [e1]; exact hc j u hj) h1 h63 hbytes hbase
    unfold Oper.wp execOp
    simp only [ho, resolve, invoke, builtin, Sem.run_bind, Sem.run_pure, Result.andThen_ok, List.map_toArray, List.map_cons, List.map_nil, hs, hx, hr]
    exact h v' w' h2 h3 h5

/-- a case that was made: its key, its body, the body's value, where the body's blocks lie -/
structure CB (β : Type) where
  key : ByteArray
  body : List β
  u : Value
  s : Nat
  e : Nat
structure CN (β : Type) where
  kind : Int
  text : ByteArray
  off : Int
  v : Value
  bods : List (CB β)
section
variable {β : Type}
def CB.row (c : CB β) : List Value := [.string c.key, c.u]
def flatC (l : List (CB β)) : List Value := l.flatMap CB.row
def CN.row (x : CN β) : List Value := [.int .i64 x.kind, .string x.text, .int .i64 x.off, x.v]
def flatM (l : List (CN β)) : List Value := l.flatMap CN.row
def CB.plain (c : CB β) : ByteArray × List β := (c.key, c.body)
def CN.plain (x : CN β) : NdF β := ⟨x.kind, x.text, x.off, x.bods.map CB.plain⟩
theorem flatC_snoc (l : List (CB β)) (c : CB β) : flatC (l ++ [c]) = flatC l ++ CB.row c := by simp [flatC]
theorem flatM_snoc (l : List (CN β)) (x : CN β) : flatM (l ++ [x]) = flatM l ++ CN.row x := by simp [flatM]
theorem flatC_at : ∀ (l : List (CB β)) (i : Nat) (h : i < l.length), ((flatC l).drop (i * 2)).take 2 = CB.row l[i]
  | [], i, h => by cases h
  | p :: l, 0, _ => by show ((CB.row p ++ flatC l).drop (0 * 2)).take 2 = _; simp [CB.row]
  | p :: l, i + 1, h => by
    have ih := flatC_at l i (by simpa using h)
    show ((CB.row p ++ flatC l).drop ((i + 1) * 2)).take 2 = _
    rw [show (i + 1) * 2 = (CB.row p).length + i * 2 from by simp [CB.row]; omega, List.drop_append, List.drop_eq_nil_of_le (Nat.le_add_right _ _), Nat.add_sub_cancel_left]
    exact ih
theorem flatM_at : ∀ (l : List (CN β)) (i : Nat) (h : i < l.length), ((flatM l).drop (i * 4)).take 4 = CN.row l[i]
  | [], i, h => by cases h
  | p :: l, 0, _ => by show ((CN.row p ++ flatM l).drop (0 * 4)).take 4 = _; simp [CN.row]
  | p :: l, i + 1, h => by
    have ih := flatM_at l i (by simpa using h)
    show ((CN.row p ++ flatM l).drop ((i + 1) * 4)).take 4 = _
    rw [show (i + 1) * 4 = (CN.row p).length + i * 4 from by simp [CN.row]; omega, List.drop_append, List.drop_eq_nil_of_le (Nat.le_add_right _ _), Nat.add_sub_cancel_left]
    exact ih
/-- the row of a value does not lie between s and e -/
def away (v : Value) (s e : Nat) : Prop := ∀ r, v.ownBlock = some r → r < s ∨ e ≤ r
def BodOk (E : Enc β) (base : Nat) (W : World) (c : CB β) : Prop := base ≤ c.s ∧ ListOk E W c.s c.e c.u c.body ∧ c.e ≤ W.heap.size
theorem BodOk.below {E : Enc β} (hE : E.Laws) {base : Nat} {W W' : World} {c : CB β} (h : BodOk E base W c) (hb : Below W.heap.size W W') : BodOk E base W' c :=
  ⟨h.1, h.2.1.keep hE ((Alk.of_below hb).mono (Nat.le_refl _) h.2.2), Nat.le_trans h.2.2 hb.size⟩
/-- what keeps the cells of all blocks between s and e -/
theorem BodOk.keep {E : Enc β} (hE : E.Laws) {base : Nat} {W W' : World} {c : CB β} (h : BodOk E base W c) (hk : ∀ g, c.s ≤ g → g < c.e → W'.heap[g]? = W.heap[g]?) (hs : W.heap.size ≤ W'.heap.size) : BodOk E base W' c :=
  ⟨h.1, h.2.1.keep hE fun p h1 h2 => World.cell?_of_block (hk p.block h1 h2), Nat.le_trans h.2.2 hs⟩
structure Sep (E : Enc β) (base : Nat) (W : World) (out : Value) (xs : List (CN β)) : Prop where
  row : W.ownsRow base 30 4 out xs.length (flatM xs)
  cas : ∀ x ∈ xs, W.ownsRow base 76 2 x.v x.bods.length (flatC x.bods)
  apart : xs.Pairwise fun x y => ∀ r, x.v.ownBlock = some r → y.v.ownBlock ≠ some r
  bod : ∀ x ∈ xs, ∀ c ∈ x.bods, BodOk E base W c ∧ away out c.s c.e ∧ ∀ y ∈ xs, away y.v c.s c.e
theorem Sep.nil {E : Enc β} {base : Nat} {W : World} : Sep E base W (.slice none 0 0) [] := ⟨own_nil, (fun x hx => nomatch hx), List.Pairwise.nil, (fun x hx => nomatch hx)⟩
theorem Sep.below {E : Enc β} (hE : E.Laws) {base : Nat} {W W' : World} {out : Value} {xs : List (CN β)} (h : Sep E base W out xs) (hb : Below W.heap.size W W') : Sep E base W' out xs :=
  ⟨own_below h.row hb (Nat.le_refl _), fun x hx => own_below (h.cas x hx) hb (Nat.le_refl _), h.apart, fun x hx c hc => ⟨(h.bod x hx c hc).1.below hE hb, (h.bod x hx c hc).2⟩⟩
theorem own_type {W : World} {b1 b2 : Nat} {t1 t2 : TypeId} {z1 z2 n1 n2 : Nat} {v1 v2 : Value} {l1 l2 : List Value} (h1 : W.ownsRow b1 t1 z1 v1 n1 l1) (h2 : W.ownsRow b2 t2 z2 v2 n2 l2) (hne : t1 ≠ t2) {r : Nat} (e1 : v1.ownBlock = some r) : v2.ownBlock ≠ some r := by
  intro e2
  obtain ⟨_, ⟨k, _⟩ | ⟨g, cap, cur, hv, hb, hh, _⟩⟩ := h1
  · rw [k] at e1; cases e1
  obtain ⟨_, ⟨k', _⟩ | ⟨g', cap', cur', hv', hb', hh', _⟩⟩ := h2
  · rw [k'] at e2; cases e2
  rw [hv] at e1; rw [hv'] at e2
  injection e1 with e1; injection e2 with e2
  subst e1
  have e2 : g' = g := e2
  subst e2
  rw [hh] at hh'
  injection hh' with hh'
  injection hh' with _ hh'
  exact hne hh'
theorem Sep.list {E : Enc β} (hE : E.Laws) {base lo hi : Nat} {W : World} {out : Value} {xs : List (CN β)} (h : Sep E base W out xs) (hb : lo ≤ base) (hs : W.heap.size ≤ hi) : ListOk (Enc.nodeF E) W lo hi out (xs.map CN.plain) := by
  have h1 := h.row
  have e1 : xs.length = (xs.map CN.plain).length := by simp
  rw [e1] at h1
  refine ListOk.of_own (E := Enc.nodeF E) h1 hb hs fun i hl => ?_
  have hl' : i < xs.length := by simpa using hl
  have hm := List.getElem_mem hl'
  refine ⟨xs[i].v, ?_, ?_⟩
  · rw [show (Enc.nodeF E).sz = 4 from rfl, flatM_at xs i hl']; simp [CN.row, CN.plain]
  · rw [List.getElem_map]
    have h2 := h.cas _ hm
    have e2 : xs[i].bods.length = (CN.plain xs[i]).cases.length := by simp [CN.plain]
    rw [e2] at h2
    refine ListOk.of_own (E := Enc.cas E) h2 hb hs fun k hk => ?_
    have hk' : k < xs[i].bods.length := by rw [e2]; exact hk
    obtain ⟨⟨b1, b2, b3⟩, _⟩ := h.bod _ hm _ (List.getElem_mem hk')
    refine ⟨xs[i].bods[k].u, ?_, ?_⟩
    · rw [show (Enc.cas E).sz = 2 from rfl, flatC_at _ k hk']; simp [CB.row, CN.plain, CB.plain]
    · have e3 : ((CN.plain xs[i]).cases[k]).2 = xs[i].bods[k].body := by simp [CN.plain, CB.plain]
      rw [e3]
      exact b2.mono hE (by omega) (by omega)
/- ## The node that is being made -/
structure NSt (E : Enc β) (W0 : World) (Yb : Nat) (kind : Int) (text : ByteArray) (off : Int) (v : Value) (bods : List (CB β)) (W : World) : Prop where
  below : Below W0.heap.size W0 W
  box : Blk W Yb 30 #[.int .i64 kind, .string text, .int .i64 off, v]
  row : W.ownsRow (Yb + 1) 76 2 v bods.length (flatC bods)
  bod : ∀ c ∈ bods, BodOk E (Yb + 1) W c ∧ away v c.s c.e
  ge : W0.heap.size ≤ Yb
theorem NSt.on {E : Enc β} (hE : E.Laws) {W0 W W' : World} {Yb : Nat} {kind : Int} {text : ByteArray} {off : Int} {v : Value} {bods : List (CB β)} (h : NSt E W0 Yb kind text off v bods W) (hb : Below W.heap.size W W') : NSt E W0 Yb kind text off v bods W' :=
  ⟨h.below.trans (hb.mono h.below.size), h.box.below hb h.box.lt, own_below h.row hb (Nat.le_refl _), fun c hc => ⟨(h.bod c hc).1.below hE hb, (h.bod c hc).2⟩, h.ge⟩
theorem own_box {w : World} {base g : Nat} {e : TypeId} {size n : Nat} {v : Value} {xs : List Value} (h : w.ownsRow base e size v n xs) (hg : g < base) : v.ownBlock ≠ some g := fun e => by have := (own_lt h e).1; omega
/-- a case is appended to the row, the row is stored into the node -/
theorem NSt.push {E : Enc β} (hE : E.Laws) {W0 W w7 : World} {Yb : Nat} {kind : Int} {text : ByteArray} {off : Int} {v v7 : Value} {bods : List (CB β)} {c : CB β} (h : NSt E W0 Yb kind text off v bods W) (hc : BodOk E (Yb + 1) W c) (hv : away v c.s c.e)
    (hg : W.grownBy w7 v.ownBlock) (hown : w7.ownsRow (Yb + 1) 76 2 v7 (bods.length + 1) (flatC bods ++ CB.row c)) (ho : v7.ownBlock = v.ownBlock ∨ v7.ownBlock = some W.heap.size) :
    NSt E W0 Yb kind text off v7 (bods ++ [c]) (w7.setCell ⟨Yb, 3, none⟩ v7) := by
  have hr : ∀ r, v.ownBlock = some r → Yb + 1 ≤ r := fun r hr => (own_lt h.row hr).1
  have hlt := h.box.lt
  have hsz : (w7.setCell ⟨Yb, 3, none⟩ v7).heap.size = w7.heap.size := by simp [World.setCell]
  have b7 : Blk w7 Yb 30 #[.int .i64 kind, .string text, .int .i64 off, v] := (hg.block Yb hlt (fun e => own_box h.row (Nat.lt_succ_self _) e.symm)).trans h.box
  have aw : ∀ d : CB β, BodOk E (Yb + 1) W d → away v d.s d.e → BodOk E (Yb + 1) (w7.setCell ⟨Yb, 3, none⟩ v7) d ∧ away v7 d.s d.e := fun d hd ha => by
    refine ⟨hd.keep hE (fun g h1 h2 => ?_) (by rw [hsz]; exact hg.size), fun r hr7 => ?_⟩
    · have hne : g ≠ Yb := by have := hd.1; omega
      rw [Below.heap_setCell _ _ _ _ (by exact hne)]
      refine hg.block g (by have := hd.2.2; omega) fun e => ?_
      have := ha g e.symm
      omega
    · rcases ho with ho | ho
      · exact ha r (by rw [← ho]; exact hr7)
      · rw [ho] at hr7
        injection hr7 with hr7
        have := hd.2.2
        omega
  refine ⟨(h.below.grown hg h.below.size (fun r e => by have := hr r e; have := h.ge; omega)).setCell (p := ⟨Yb, 3, none⟩) h.ge _, b7.set_ 3 v7, ?_, fun d hd => ?_, h.ge⟩
  · rw [flatC_snoc, List.length_append]
    exact own_keep hown fun g hg' _ => Below.heap_setCell _ _ _ _ (fun (e : g = Yb) => own_box hown (Nat.lt_succ_self _) (by rw [hg', e]))
  · rcases List.mem_append.1 hd with hd | hd
    · exact aw d (h.bod d hd).1 (h.bod d hd).2
    · obtain rfl := List.mem_singleton.1 hd
      exact aw d hc hv
/-- the node that was made is appended -/
theorem Sep.push {E : Enc β} (hE : E.Laws) {base : Nat} {W0 W w7 : World} {Yb : Nat} {out out7 : Value} {xs : List (CN β)} {x : CN β} (h : Sep E base W0 out xs) (hn : NSt E W0 Yb x.kind x.text x.off x.v x.bods W) (hbs : base ≤ W0.heap.size)
    (hg : W.grownBy w7 out.ownBlock) (hown : w7.ownsRow base 30 4 out7 (xs.length + 1) (flatM xs ++ CN.row x)) (ho : out7.ownBlock = out.ownBlock ∨ out7.ownBlock = some W.heap.size) : Sep E base w7 out7 (xs ++ [x]) := by
  have h1 : Sep E base W out xs := h.below hE hn.below
  have hz := hn.below.size
  have hge := hn.ge
  have hout : ∀ r, out.ownBlock = some r → r < W0.heap.size := fun r e => (own_lt h.row e).2
  have hold : ∀ y ∈ xs, ∀ r, y.v.ownBlock = some r → r < W0.heap.size := fun y hy r e => (own_lt (h.cas y hy) e).2
  have hnew : ∀ r, x.v.ownBlock = some r → Yb + 1 ≤ r ∧ r < W.heap.size := fun r e => own_lt hn.row e
  have ht7 : ∀ {v : Value} {b n : Nat} {l : List Value}, W.ownsRow b 76 2 v n l → w7.ownsRow b 76 2 v n l := fun hv => own_keep hv fun g hg' hlt => hg.block g hlt fun e => own_type h1.row hv (by decide) e.symm hg'
  have bo : ∀ d : CB β, BodOk E base W d → away out d.s d.e → BodOk E base w7 d ∧ away out7 d.s d.e := fun d hd ha => by
    refine ⟨hd.keep hE (fun g k1 k2 => hg.block g (by have := hd.2.2; omega) fun e => ?_) hg.size, fun r hr7 => ?_⟩
    · have := ha g e.symm
      omega
    · rcases ho with ho | ho
      · exact ha r (by rw [← ho]; exact hr7)
      · rw [ho] at hr7
        injection hr7 with hr7
        have := hd.2.2
        omega
  refine ⟨?_, fun y hy => ?_, ?_, fun y hy c hc => ?_⟩
  · rw [flatM_snoc, List.length_append]
    exact hown
  · rcases List.mem_append.1 hy with hy | hy
    · exact ht7 (h1.cas y hy)
    · obtain rfl := List.mem_singleton.1 hy
      exact ht7 (own_mono hn.row (by omega))
  · rw [List.pairwise_append]
    refine ⟨h.apart, List.pairwise_singleton _ _, fun y hy z hz' r e1 e2 => ?_⟩
    obtain rfl := List.mem_singleton.1 hz'
    have := hold y hy r e1
    have := (hnew r e2).1
    omega
  · rcases List.mem_append.1 hy with hy | hy
    · obtain ⟨k1, k2, k3⟩ := h1.bod y hy c hc
      have k0 := (h.bod y hy c hc).1.2.2
      obtain ⟨k4, k5⟩ := bo c k1 k2
      refine ⟨k4, k5, fun z hz' => ?_⟩
      rcases List.mem_append.1 hz' with hz' | hz'
      · exact k3 z hz'
      · obtain rfl := List.mem_singleton.1 hz'
        intro r e
        have := (hnew r e).1
        omega
    · obtain rfl := List.mem_singleton.1 hy
      obtain ⟨k1, k2⟩ := hn.bod c hc
      have k0 := k1.1
      obtain ⟨k4, k5⟩ := bo c ⟨by omega, k1.2⟩ fun r e => by have := hout r e; omega
      refine ⟨k4, k5, fun z hz' => ?_⟩
      rcases List.mem_append.1 hz' with hz' | hz'
      · intro r e
        have := hold z hz' r e
        omega
      · obtain rfl := List.mem_singleton.1 hz'
        exact k2
end
end Go.Proofs.YtjdfpoppimcikaaGreatDoor
