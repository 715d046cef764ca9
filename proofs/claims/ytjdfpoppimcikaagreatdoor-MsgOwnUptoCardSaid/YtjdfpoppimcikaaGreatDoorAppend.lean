/- Structs opened: tags, entries, bundles. -/
import Derived.Test.YtjdfpoppimcikaaGreatDoorBun
import Derived.Test.YtjdfpoppimcikaaGreatDoorTagS
import Derived.Maps.AppendAt
import Derived.Deep.Upon
namespace Go.Proofs.YtjdfpoppimcikaaGreatDoor
open Go.RowKit Go.ChangeShapes Go.WideShapes Go.ChangeAt

section
variable {P : Program} {t : TypeId}
theorem weightsEach_mem {H : Type} : ∀ {ts : List TypeId} {ds : List (DataW H)} (j : Nat) (u : TypeId) (d : DataW H), ts[j]? = some u → ds[j]? = some d → ∀ n ∈ d.weights P u, n ∈ DataW.weightsEach P ts ds
  | [], _, j, _, _, h, _, _, _ => by simp at h
  | _ :: _, [], j, _, _, _, h, _, _ => by simp at h
  | a :: ts, b :: ds, 0, u, d, h1, h2, n, hn => by
    simp at h1 h2; subst h1; subst h2
    simp only [DataW.weightsEach, List.mem_append]; exact .inl hn
  | a :: ts, b :: ds, j + 1, u, d, h1, h2, n, hn => by
    simp only [DataW.weightsEach, List.mem_append]
    exact .inr (weightsEach_mem j u d (by simpa using h1) (by simpa using h2) n hn)
theorem opens_struct2 {α β γ : Type} {A : Enc α} {B : Enc β} {E : Enc γ} {f0 f1 : Field} (hA : Opens P A f0.type) (hB : Opens P B f1.type) (ht : P.underlying t = some (.struct #[f0, f1]))
    (o0 : f0.offset = 0) (o1 : f1.offset = A.sz) (c0 : P.cellsOf f0.type = A.sz) (c1 : P.cellsOf f1.type = B.sz) (ct : P.cellsOf t = A.sz + B.sz) (mk : α → β → γ)
    (hok : ∀ w lo hi c d a b, A.ok w lo hi c a → B.ok w lo hi d b → E.ok w lo hi (c ++ d) (mk a b)) (hf : ∀ n a b, A.fits n a → B.fits n b → E.fits n (mk a b))
    (hb : ∀ a b, E.bulk (mk a b) ≤ A.bulk a + B.bulk b) : Opens P E t := by
  intro H enc w sp held fuel cs x hi h hx
  obtain ⟨xs, n, rfl, rfl, hcl, hxl, hel⟩ := DataW.trod_struct ht h
  have e0 := hel 0 f0 rfl
  have e1 := hel 1 f1 rfl
  have hl2 : xs.length = 2 := hxl
  obtain ⟨y, z, rfl⟩ : ∃ y z, xs = [y, z] := by
    match xs, hl2 with
    | [y, z], _ => exact ⟨y, z, rfl⟩
  rw [o0, c0, List.drop_zero] at e0
  rw [o1, c1] at e1
  obtain ⟨a, ka, fa, ba⟩ := hA enc w sp held n _ y hi e0 fun p hp => hx p (by simp [hp])
  obtain ⟨b, kb, fb, bb⟩ := hB enc w sp held n _ z hi e1 fun p hp => hx p (by simp [hp])
  have hc : cs = cs.take A.sz ++ (cs.drop A.sz).take B.sz := by
    rw [List.take_of_length_le (l := cs.drop A.sz) (by rw [List.length_drop]; omega), List.take_append_drop]
  refine ⟨mk a b, by rw [hc]; exact hok _ _ _ _ _ _ _ ka kb, fun n hn => hf _ _ _ (fa n fun m hm => hn m ?_) (fb n fun m hm => hn m ?_), ?_⟩
  · simp only [DataW.weights, ht]
    exact weightsEach_mem 0 f0.type y.1 rfl rfl m hm
  · simp only [DataW.weights, ht]
    exact weightsEach_mem 1 f1.type z.1 rfl rfl m hm
  · have := hb a b
    simp only [Rows.uptoBulk, Rows.uptoBulkAll, List.map_cons, List.map_nil]
    omega
theorem opens_struct4 {α β γ δ ε : Type} {A : Enc α} {B : Enc β} {C : Enc γ} {D : Enc δ} {E : Enc ε} {f0 f1 f2 f3 : Field} (hA : Opens P A f0.type) (hB : Opens P B f1.type) (hC : Opens P C f2.type) (hD : Opens P D f3.type)
    (ht : P.underlying t = some (.struct #[f0, f1, f2, f3]))
    (o0 : f0.offset = 0) (o1 : f1.offset = A.sz) (o2 : f2.offset = A.sz + B.sz) (o3 : f3.offset = A.sz + B.sz + C.sz) (c0 : P.cellsOf f0.type = A.sz) (c1 : P.cellsOf f1.type = B.sz) (c2 : P.cellsOf f2.type = C.sz) (c3 : P.cellsOf f3.type = D.sz)
    (ct : P.cellsOf t = A.sz + B.sz + C.sz + D.sz) (mk : α → β → γ → δ → ε)
    (hok : ∀ w lo hi c d e f a b g k, A.ok w lo hi c a → B.ok w lo hi d b → C.ok w lo hi e g → D.ok w lo hi f k → E.ok w lo hi (c ++ d ++ e ++ f) (mk a b g k))
    (hf : ∀ n a b g k, A.fits n a → B.fits n b → C.fits n g → D.fits n k → E.fits n (mk a b g k))
    (hb : ∀ a b g k, E.bulk (mk a b g k) ≤ A.bulk a + B.bulk b + C.bulk g + D.bulk k) : Opens P E t := by
  intro H enc w sp held fuel cs x hi h hx
  obtain ⟨xs, n, rfl, rfl, hcl, hxl, hel⟩ := DataW.trod_struct ht h
  have e0 := hel 0 f0 rfl
  have e1 := hel 1 f1 rfl
  have e2 := hel 2 f2 rfl
  have e3 := hel 3 f3 rfl
  have hl2 : xs.length = 4 := hxl
  obtain ⟨y, z, u, v, rfl⟩ : ∃ y z u v, xs = [y, z, u, v] := by
    match xs, hl2 with
    | [y, z, u, v], _ => exact ⟨y, z, u, v, rfl⟩
  rw [o0, c0, List.drop_zero] at e0
  rw [o1, c1] at e1
  rw [o2, c2] at e2
  rw [o3, c3] at e3
  obtain ⟨a, ka, fa, ba⟩ := hA enc w sp held n _ y hi e0 fun p hp => hx p (by simp [hp])
  obtain ⟨b, kb, fb, bb⟩ := hB enc w sp held n _ z hi e1 fun p hp => hx p (by simp [hp])
  obtain ⟨g, kg, fg, bg⟩ := hC enc w sp held n _ u hi e2 fun p hp => hx p (by simp [hp])
  obtain ⟨k, kk, fk, bk⟩ := hD enc w sp held n _ v hi e3 fun p hp => hx p (by simp [hp])
  have hc : cs = cs.take A.sz ++ (cs.drop A.sz).take B.sz ++ (cs.drop (A.sz + B.sz)).take C.sz ++ (cs.drop (A.sz + B.sz + C.sz)).take D.sz := by
    rw [List.take_of_length_le (l := cs.drop (A.sz + B.sz + C.sz)) (by rw [List.length_drop]; omega)]
    rw [List.append_assoc, ← List.drop_drop (i := C.sz) (j := A.sz + B.sz), List.take_append_drop, List.append_assoc, ← List.drop_drop (i := B.sz) (j := A.sz), List.take_append_drop, List.take_append_drop]
  refine ⟨mk a b g k, by rw [hc]; exact hok _ _ _ _ _ _ _ _ _ _ _ ka kb kg kk, fun n hn => hf _ _ _ _ _ (fa n fun m hm => hn m ?_) (fb n fun m hm => hn m ?_) (fg n fun m hm => hn m ?_) (fk n fun m hm => hn m ?_), ?_⟩
  · simp only [DataW.weights, ht]
    exact weightsEach_mem 0 f0.type y.1 rfl rfl m hm
  · simp only [DataW.weights, ht]
    exact weightsEach_mem 1 f1.type z.1 rfl rfl m hm
  · simp only [DataW.weights, ht]
    exact weightsEach_mem 2 f2.type u.1 rfl rfl m hm
  · simp only [DataW.weights, ht]
    exact weightsEach_mem 3 f3.type v.1 rfl rfl m hm
  · have := hb a b g k
    simp only [Rows.uptoBulk, Rows.uptoBulkAll, List.map_cons, List.map_nil]
    omega
end

theorem len_sum {α : Type} (f : α → Nat) : ∀ l : List α, (∀ a ∈ l, 1 ≤ f a) → l.length ≤ (l.map f).sum
  | [], _ => Nat.le_refl _
  | a :: r, h => by
    have h1 := len_sum f r fun x hx => h x (List.mem_cons_of_mem _ hx)
    have h2 := h a List.mem_cons_self
    rw [List.map_cons, List.sum_cons, List.length_cons]; omega
theorem bulk_mem {α : Type} (f : α → Nat) {l : List α} {a : α} (h : a ∈ l) : f a ≤ (l.map f).sum := by
  induction l with
  | nil => cases h
  | cons x r ih =>
    rw [List.map_cons, List.sum_cons]
    rcases List.mem_cons.1 h with rfl | h
    · omega
    · have := ih h; omega

/- ## Struct arguments -/
section
variable {H : Type} {enc : TypeId × Value → H} {P : Program} {W : World} {base : Nat} {t : TypeId} {v : Value} {d : DataW H} {p : List MemPlace} {hi : Nat}
theorem arg_struct {α : Type} {E : Enc α} {fs : Array Field} (hE : Opens P E t) (ht : P.underlying t = some (.struct fs)) (hv : Value.okWide P W .any base t v) (h : DataW.Trod enc P W 0 (fun _ => true) true t v d p) (hlt : ∀ x ∈ p, x.block < hi) :
    ∃ (a : α) (cs : Array Value), v = .agg cs ∧ E.ok W 0 hi cs.toList a ∧ (∀ B, (∀ n ∈ d.weights P t, n ≤ B) → E.fits B a) ∧ E.bulk a ≤ Rows.uptoBulk d := by
  obtain ⟨cs, rfl, _⟩ := okWide_struct ht hv
  obtain ⟨fuel, hf⟩ := h
  obtain ⟨a, ha, hb⟩ := hE enc W _ _ _ _ _ hi hf hlt
  exact ⟨a, cs, rfl, ha, hb⟩
end
end Go.Proofs.YtjdfpoppimcikaaGreatDoor
/- Rows of tags that a call owns: each tag's variants in a block of their own. -/

namespace Go.Proofs.YtjdfpoppimcikaaGreatDoor
open Go.RowKit

section
variable {w w' : World} {base base' : Nat} {e : TypeId} {size : Nat} {v : Value} {n : Nat} {xs : List Value}
theorem own_keep (h : w.ownsRow base e size v n xs) (k : ∀ g, v.ownBlock = some g → g < w.heap.size → w'.heap[g]? = w.heap[g]?) : w'.ownsRow base e size v n xs := by
  obtain ⟨h1, h2 | ⟨g, cap, cur, hv, hb, hg, r⟩⟩ := h
  · exact ⟨h1, .inl h2⟩
  · exact ⟨h1, .inr ⟨g, cap, cur, hv, hb, (k g (by rw [hv]; rfl) (Blk.lt (t := e) (cs := cur) hg)).trans hg, r⟩⟩
theorem own_lt (h : w.ownsRow base e size v n xs) {g : Nat} (hg : v.ownBlock = some g) : base ≤ g ∧ g < w.heap.size := by
  obtain ⟨h1, ⟨h2, _⟩ | ⟨g', cap, cur, hv, hb, hh, r⟩⟩ := h
  · rw [h2] at hg; cases hg
  · rw [hv] at hg; injection hg with hg; subst hg; exact ⟨hb, Blk.lt (t := e) (cs := cur) hh⟩
theorem own_slice (h : w.ownsRow base e size v n xs) : ∃ A cap, v = .slice A n cap ∧ n ≤ cap := by
  obtain ⟨h1, ⟨h2, h3⟩ | ⟨g', cap, cur, hv, hb, hh, hc, r⟩⟩ := h
  · exact ⟨none, 0, by rw [h2, h3], by omega⟩
  · exact ⟨_, cap, hv, hc⟩
theorem own_below {B : Nat} (h : w.ownsRow base e size v n xs) (k : Below B w w') (hB : w.heap.size ≤ B) : w'.ownsRow base e size v n xs :=
  own_keep h fun g _ hg => k.block g (by omega)
theorem own_grown {row : Option Nat} (h : w.ownsRow base e size v n xs) (k : w.grownBy w' row) (hr : row ≠ v.ownBlock ∨ row = none) : w'.ownsRow base e size v n xs :=
  own_keep h fun g hg hlt => k.block g hlt fun e => by
    rcases hr with hr | hr
    · exact hr (by rw [hg, ← e])
    · rw [hr] at e; cases e
theorem own_types {e' : TypeId} {size' n' : Nat} {v' : Value} {xs' : List Value} (h : w.ownsRow base e size v n xs) (h' : w.ownsRow base' e' size' v' n' xs') (hne : e ≠ e') {g : Nat} (hg : v.ownBlock = some g) : v'.ownBlock ≠ some g := by
  intro hg'
  obtain ⟨_, ⟨h2, _⟩ | ⟨g1, cap, cur, hv, hb, hh, r⟩⟩ := h
  · rw [h2] at hg; cases hg
  · obtain ⟨_, ⟨h2', _⟩ | ⟨g2, cap', cur', hv', hb', hh', r'⟩⟩ := h'
    · rw [h2'] at hg'; cases hg'
    · rw [hv] at hg; injection hg with hg; subst hg
      rw [hv'] at hg'; injection hg' with hg'; subst hg'
      rw [hh] at hh'; injection hh' with hh'; injection hh' with _ hh'
      exact hne hh'
end

/-- a tag and the slice value of its variants -/
def tagCells (p : Tg × Value) : List Value := [.string p.1.lang, .string p.1.script, .string p.1.region, p.2]
def flatT (l : List (Tg × Value)) : List Value := l.flatMap tagCells
theorem flatT_length (l : List (Tg × Value)) : (flatT l).length = l.length * 4 := by
  induction l with
  | nil => rfl
  | cons p l ih => show (tagCells p ++ flatT l).length = _; rw [List.length_append, ih]; simp [tagCells]; omega
theorem flatT_at (l : List (Tg × Value)) (i : Nat) (h : i < l.length) : ((flatT l).drop (i * 4)).take 4 = tagCells l[i] := by
  induction l generalizing i with
  | nil => cases h
  | cons p l ih =>
    show ((tagCells p ++ flatT l).drop (i * 4)).take 4 = _
    cases i with
    | zero => simp [tagCells]
    | succ i =>
      rw [show (i + 1) * 4 = (tagCells p).length + i * 4 from by simp [tagCells]; omega, List.drop_append, List.drop_eq_nil_of_le (Nat.le_add_right _ _), Nat.add_sub_cancel_left]
      exact ih i (by simpa using h)
def VarRow (base : Nat) (w : World) (p : Tg × Value) : Prop := w.ownsRow base 9 1 p.2 p.1.vars.length (p.1.vars.map .string)
def Apart (a b : Tg × Value) : Prop := 0 < b.1.vars.length → ∀ g, a.2.ownBlock = some g → b.2.ownBlock ≠ some g
theorem VarRow.list {base lo hi : Nat} {w : World} {p : Tg × Value} (h : VarRow base w p) (hb : lo ≤ base) (hs : w.heap.size ≤ hi) : ListOk Enc.str w lo hi p.2 p.1.vars := ListOk.strs_of_own h hb hs
/-- 'x[k:]' -/
theorem ListOk.drop {α : Type} {E : Enc α} {w : World} {lo hi : Nat} {b o n c : Nat} {l : List α} (h : ListOk E w lo hi (.slice (some ⟨b, o, none⟩) n c) l) (k : Nat) (hk : k ≤ l.length) (c' : Nat) (hc' : l.length - k ≤ c') :
    ListOk E w lo hi (.slice (some ⟨b, o + k * E.sz, none⟩) (l.length - k) c') (l.drop k) := by
  obtain ⟨A', c1, hv, hc, hi⟩ := h
  injection hv with hv1 hv2 hv3
  subst hv1
  have hl : (l.drop k).length = l.length - k := by simp
  refine ⟨_, c', by rw [hl], by omega, fun i h => ?_⟩
  obtain ⟨b', o', cs, hA, g1, g2, g3, g4⟩ := hi (k + i) (by omega)
  injection hA with hA
  injection hA with e1 e2
  subst e1; subst e2
  refine ⟨b, o + k * E.sz, cs, rfl, g1, g2, ?_, by simpa using g4⟩
  rw [Nat.add_mul, ← Nat.add_assoc] at g3
  exact g3
end Go.Proofs.YtjdfpoppimcikaaGreatDoor
/- append of a list that may be empty, to a row of the call's own. -/

namespace Go.Proofs.YtjdfpoppimcikaaGreatDoor
open Go.RowKit

theorem wpList_append_any {P : Program} {w : World} {ops : Array Oper} {rest : List Oper} {o : Oper} {a : Act} {Q : Exit → Act → World → Prop} (hgd : o.guard = none) (s x : Operand) (t : TypeId)
    (ho : o.op = .call { callee := .builtin .append, args := #[s, x], argTypes := #[t, t] })
    (base : Nat) (e : TypeId) {z : Value} {size bytes : Nat} (ht : P.underlying t = some (.slice e)) (hi : (P.info? e).map (fun i => (i.zero, i.size, i.bytes)) = some (some z, size, bytes))
    (hzs : z.cells.size = size) (hsz : 0 < size)
    {v : Value} {n : Nat} (xs : List Value) (hs : a.eval s = v) (hown : w.ownsRow base e size v n xs)
    {A : Option Addr} {m c : Nat} (news : List Value) (hx : a.eval x = .slice A m c) (hl : news.length = m * size)
    (hnews : m = 0 ∨ ∃ b o, A = some ⟨b, o, none⟩ ∧ ∀ j u, news[j]? = some u → w.cell? ⟨b, o + j, none⟩ = some u) (h1 : ∀ u ∈ news, u.oneCell' = true)
    (h63 : n + m ≤ maxLen) (hbytes : (n + m) * bytes ≤ 140737488355328) (hbase : base ≤ w.heap.size)
    (h : ∀ v' w', w'.ownsRow base e size v' (n + m) (xs ++ news) → w.grownBy w' v.ownBlock → (v'.ownBlock = v.ownBlock ∨ v'.ownBlock = some w.heap.size) → wpList P ops Q rest (a.put o.dst v') w') :
    wpList P ops Q (o :: rest) a w := by
  obtain ⟨i, hi, hz0, hz1, hz2⟩ := info_parts hi
  by_cases hm : m = 0
  · subst hm
    have hnil : news = [] := List.length_eq_zero_iff.1 (by omega)
    subst hnil
    refine wpList_plain hgd fun K hK => ?_
    have hh := h v w (by simpa using hown) (World.grownBy.refl _ _) (.inl rfl)
    obtain ⟨B, cap, rfl, hcap⟩ := own_slice hown
    have hS : Src P i.size t (.slice A 0 c) 0 [] w := by
      cases A with
      | none => exact Src.ofNil w ht c
      | some ad => exact Src.ofSlice w ht ad 0 c [] (by simp) (fun j u hj => by simp at hj) (fun u hu => by cases hu)
    have hrun := run_append_nothing (P := P) w t t o.type e i ht hi B n cap hcap _ hS
    unfold Oper.wp execOp
    simp only [ho, resolve, invoke, builtin, Sem.run_bind, Sem.run_pure, Result.andThen_ok, List.map_toArray, List.map_cons, List.map_nil, hs, hx, hrun]
    exact hK _ _ hh
  · rcases hnews with h0 | ⟨b, o', rfl, hc⟩
    · exact absurd h0 hm
    refine wpList_append_own_at (P := P) w hgd s x t ho base e i z size bytes ht hi hz0 hz1 hz2 hzs hsz v n xs hs hown ⟨b, o', none⟩ m c news hx hl (fun j u hj => ?_) h1 h63 hbytes hbase fun v' w' p1 p2 _ p4 => h v' w' p1 p2 p4
    have e1 : ((⟨b, o', none⟩ : Addr).add j) = ⟨b, o' + j, none⟩ := by
      unfold Addr.add
      by_cases h0 : j = 0
      · rw [if_pos h0, h0]; rfl
      · rw [if_neg h0]
    rw [e1]; exact hc j u hj
theorem own_nil {w : World} {base : Nat} {e : TypeId} {size : Nat} : w.ownsRow base e size (.slice none 0 0) 0 [] := ⟨by simp, .inl ⟨rfl, rfl⟩⟩
/-- a list of strings as the news of an append -/
theorem news_strs {w : World} {lo hi : Nat} {A : Option Addr} {c : Nat} {l : List ByteArray} (h : ListOk Enc.str w lo hi (.slice A l.length c) l) :
    l.length = 0 ∨ ∃ b o, A = some ⟨b, o, none⟩ ∧ ∀ j u, (l.map Value.string)[j]? = some u → w.cell? ⟨b, o + j, none⟩ = some u := by
  by_cases h0 : l.length = 0
  · exact .inl h0
  · obtain ⟨b, o, rfl, _, _, _⟩ := h.strAt 0 (by omega)
    refine .inr ⟨b, o, rfl, fun j u hj => ?_⟩
    rw [List.getElem?_map] at hj
    cases hq : l[j]? with
    | none => rw [hq] at hj; cases hj
    | some y =>
      rw [hq] at hj
      simp only [Option.map_some, Option.some.injEq] at hj
      subst hj
      obtain ⟨hjl, rfl⟩ := List.getElem?_eq_some_iff.1 hq
      obtain ⟨b', o', he, _, _, hc⟩ := h.strAt j hjl
      injection he with he
      injection he with e1 e2
      subst e1; subst e2
      exact hc
theorem strs_oneCell (l : List ByteArray) : ∀ u ∈ l.map Value.string, u.oneCell' = true := by
  intro u hu
  obtain ⟨y, _, rfl⟩ := List.mem_map.1 hu
  rfl
end Go.Proofs.YtjdfpoppimcikaaGreatDoor
