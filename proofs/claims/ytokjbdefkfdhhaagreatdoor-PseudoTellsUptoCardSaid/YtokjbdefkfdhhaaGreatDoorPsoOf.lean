/- linguisterref2.Clean at any depth; PseudoOf. -/
import Derived.Test.YtokjbdefkfdhhaaGreatDoorClean
namespace Go.Proofs.YtokjbdefkfdhhaaGreatDoor
open Go.RowKit

theorem clean_sep (n : Nat) (m : List (Nd (n + 1))) (v : Value) (lo : Nat) (w : World) (hm : MsgIn (n + 1) m) (hv : ListOk (Enc.node (n + 1)) w lo w.heap.size v m)
    (IH : ∀ (m : List (Nd n)) (v : Value) (lo : Nat) (w : World), MsgIn n m → ListOk (Enc.node n) w lo w.heap.size v m → Calls Tryz.prog 20 #[v] w fun e w' => Below w.heap.size w w' ∧ ∃ u, e = .returned u ∧ ListOk (Enc.node n) w' w.heap.size w'.heap.size u (cleanN n m)) :
    Calls Tryz.prog 20 #[v] w fun e w' => Below w.heap.size w w' ∧ ∃ out xs, e = .returned out ∧ xs.map CN.plain = (m : List (NdF (Nd n))).map (clnX (cleanN n)) ∧ Sep (Enc.node n) w.heap.size w' out xs :=
  clean_walk (E := Enc.node n) (Enc.node_laws n) (cleanN n) (m : List (NdF (Nd n))) v lo w hv hm.len
    (Lib.hid fun x hx => by have h1 : smallF (SmallN n) x := hm.each x hx; exact h1.2.1)
    (Lib.hid fun x hx c hc W U _ hU => IH c.2 U lo W (hm.body hx (casesR_sub hc)) hU)
theorem clean_any : (n : Nat) → (m : List (Nd n)) → (v : Value) → (lo : Nat) → (w : World) → MsgIn n m → ListOk (Enc.node n) w lo w.heap.size v m →
    Calls Tryz.prog 20 #[v] w fun e w' => Below w.heap.size w w' ∧ ∃ u, e = .returned u ∧ ListOk (Enc.node n) w' w.heap.size w'.heap.size u (cleanN n m)
  | 0, m, v, lo, w, hm, hv => by
    obtain rfl := empty_list m
    obtain ⟨A, c, rfl, _⟩ := hv.form
    have h := clean_walk (E := Enc.none_) Enc.none_laws (fun l => l) ([] : List (NdF Empty)) (.slice A 0 c) lo w (ListOk.nil c A) (Nat.zero_le _) (Lib.hid fun x hx => by cases hx) (Lib.hid fun x hx => by cases hx)
    refine h.mono ?_
    rintro e w' ⟨hb, out, xs, rfl, hx, hs⟩
    obtain rfl : xs = [] := by simpa using hx
    obtain ⟨B, d, hv', _⟩ := own_slice hs.row
    exact ⟨hb, _, rfl, by rw [hv']; exact ListOk.nil d B⟩
  | n + 1, m, v, lo, w, hm, hv => by
    refine (clean_sep n m v lo w hm hv (clean_any n)).mono ?_
    rintro e w' ⟨hb, out, xs, rfl, hx, hs⟩
    refine ⟨hb, _, rfl, ?_⟩
    have h := hs.list (Enc.node_laws n) (Nat.le_refl _) (Nat.le_refl _)
    rw [hx] at h
    exact h

section
variable {α : Type}
theorem step_set (f : α → α) : ∀ (l : List α) (q : Nat) (h : q < l.length), ((l.take q).map f ++ l.drop q).set q (f l[q]) = (l.take (q + 1)).map f ++ l.drop (q + 1)
  | [], q, h => by cases h
  | x :: l, 0, _ => by simp
  | x :: l, q + 1, h => by
    have := step_set f l q (by simpa using h)
    simpa using this
theorem mid_len (f : α → α) (l : List α) (q : Nat) : ((l.take q).map f ++ l.drop q).length = l.length := by
  rw [List.length_append, List.length_map, List.length_take, List.length_drop]; omega
theorem mid_at (f : α → α) : ∀ (l : List α) (q : Nat) (h : q < l.length), ((l.take q).map f ++ l.drop q)[q]'(by rw [mid_len]; exact h) = l[q]
  | [], q, h => by cases h
  | x :: l, 0, _ => by simp
  | x :: l, q + 1, h => by
    have := mid_at f l q (by simpa using h)
    simpa using this
end
section
variable {β : Type}
theorem plain_len {xs : List (CN β)} {M : List (NdF β)} (h : xs.map CN.plain = M) : xs.length = M.length := by rw [← h, List.length_map]
theorem plain_at {xs : List (CN β)} {M : List (NdF β)} (h : xs.map CN.plain = M) (j : Nat) (hj : j < xs.length) (hM : j < M.length) : xs[j].plain = M[j] := by
  subst h
  rw [List.getElem_map]
theorem plain_text {xs : List (CN β)} {M : List (NdF β)} (h : xs.map CN.plain = M) (j : Nat) (hj : j < xs.length) (t : ByteArray) {y : NdF β} (hy : xs[j].plain = y) : (xs.set j { xs[j] with text := t }).map CN.plain = M.set j { y with text := t } := by
  rw [List.map_set, h, ← hy]; rfl
theorem plain_body {xs : List (CN β)} {M : List (NdF β)} (h : xs.map CN.plain = M) (j : Nat) (hj : j < xs.length) (q : Nat) (b : CB β) {y : NdF β} (hy : xs[j].plain = y) : (xs.set j { xs[j] with bods := xs[j].bods.set q b }).map CN.plain = M.set j { y with cases := y.cases.set q b.plain } := by
  rw [List.map_set, h, ← hy]
  congr 1
  show (⟨_, _, _, (xs[j].bods.set q b).map CB.plain⟩ : NdF β) = ⟨_, _, _, (xs[j].bods.map CB.plain).set q b.plain⟩
  rw [List.map_set]
  rfl
/-- the cells of a node that was made -/
theorem Sep.cells {E : Enc β} {base : Nat} {W : World} {A : Option Addr} {n c : Nat} {xs : List (CN β)} (h : Sep E base W (.slice A n c) xs) (j : Nat) (hj : j < xs.length) :
    n = xs.length ∧ ∃ g, A = some ⟨g, 0, none⟩ ∧ base ≤ g ∧ g < W.heap.size ∧ W.cell? ⟨g, j * 4, none⟩ = some (.int .i64 xs[j].kind) ∧ W.cell? ⟨g, j * 4 + 1, none⟩ = some (.string xs[j].text) ∧ W.cell? ⟨g, j * 4 + 3, none⟩ = some xs[j].v ∧ ∀ k, W.frozen? ⟨g, k, none⟩ = false := by
  obtain ⟨A', c', hv, _⟩ := own_slice h.row
  injection hv with _ hn _
  subst hn
  refine ⟨rfl, ?_⟩
  obtain ⟨g, hA, h1, h2, h3, h4⟩ := own_at h.row (j * 4) (by omega)
  have hat := flatM_at xs j hj
  have hc : ∀ q u, q < 4 → (CN.row xs[j])[q]? = some u → W.cell? ⟨g, j * 4 + q, none⟩ = some u := fun q u hq hu => by
    obtain ⟨g', hA', _, _, h3', _⟩ := own_at h.row (j * 4 + q) (by omega)
    rw [hA] at hA'
    injection hA' with hA'
    injection hA' with hA'
    subst hA'
    rw [h3', ← hu, ← hat, List.getElem?_take, if_pos hq, List.getElem?_drop]
  refine ⟨g, hA, h1, h2, hc 0 _ (by decide) rfl, hc 1 _ (by decide) rfl, hc 3 _ (by decide) rfl, ?_⟩
  obtain ⟨_, ⟨_, h0⟩ | ⟨g', cap, cur, hv', hb', hh, _⟩⟩ := h.row
  · omega
  · rw [hA] at hv'
    injection hv' with e1
    injection e1 with e1
    injection e1 with e1
    subst e1
    exact fun k => Blk.frozen (t := 30) (cs := cur) hh k
/-- the cells of a case that was made -/
theorem Sep.body {E : Enc β} {base : Nat} {W : World} {out : Value} {xs : List (CN β)} (h : Sep E base W out xs) (j : Nat) (hj : j < xs.length) (q : Nat) (hq : q < xs[j].bods.length) :
    ∃ r c, xs[j].v = .slice (some ⟨r, 0, none⟩) xs[j].bods.length c ∧ base ≤ r ∧ r < W.heap.size ∧ W.cell? ⟨r, q * 2 + 1, none⟩ = some xs[j].bods[q].u ∧ W.frozen? ⟨r, q * 2 + 1, none⟩ = false := by
  have hc := h.cas _ (List.getElem_mem hj)
  obtain ⟨A, c, hv, _⟩ := own_slice hc
  rw [hv] at hc
  obtain ⟨r, hA, h1, h2, h3, h4⟩ := own_at hc (q * 2 + 1) (by omega)
  refine ⟨r, c, by rw [hv, hA], h1, h2, ?_, h4⟩
  have hat := flatC_at xs[j].bods q hq
  have e : (flatC xs[j].bods)[q * 2 + 1]? = (CB.row xs[j].bods[q])[1]? := by rw [← hat, List.getElem?_take, if_pos (by decide), List.getElem?_drop]
  rw [h3, e]; rfl
end
end Go.Proofs.YtokjbdefkfdhhaaGreatDoor
