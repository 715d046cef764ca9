/- Copies of bundles: rows of bundles that a call owns; linguisterlaw5.bundle; S.Bundle at the same. -/
import Derived.Test.YtiaobgapfoogiaaGreatDoorFind
import Derived.Test.YtiaobgapfoogiaaGreatDoorAppend
import Derived.Deep.AppendLies
set_option linter.unusedSimpArgs false
set_option linter.unusedVariables false
namespace Go.Proofs.YtiaobgapfoogiaaGreatDoor
open Go.RowKit

theorem step_append_any {P : Program} {w : World} {ops : Array Oper} {o : Oper} {a : Act} {K : Act → World → Prop} {Q : Exit → Act → World → Prop} {E : Prop} (hgd : o.guard = none) (s x : Operand) (t : TypeId)
    (ho : o.op = .call { callee := .builtin .append, args := #[s, x], argTypes := #[t, t] })
    (base : Nat) (e : TypeId) {z : Value} {size bytes : Nat} (ht : P.underlying t = some (.slice e)) (hi : (P.info? e).map (fun i => (i.zero, i.size, i.bytes)) = some (some z, size, bytes))
    (hzs : z.cells.size = size) (hsz : 0 < size)
    {v : Value} {n : Nat} (xs : List Value) (hs : a.eval s = v) (hown : w.ownsRow base e size v n xs)
    {A : Option Addr} {m c : Nat} (news : List Value) (hx : a.eval x = .slice A m c) (hl : news.length = m * size)
    (hnews : m = 0 ∨ ∃ b o, A = some ⟨b, o, none⟩ ∧ ∀ j u, news[j]? = some u → w.cell? ⟨b, o + j, none⟩ = some u) (h1 : ∀ u ∈ news, u.oneCell' = true)
    (h63 : n + m ≤ maxLen) (hbytes : (n + m) * bytes ≤ 140737488355328) (hbase : base ≤ w.heap.size)
    (h : ∀ v' w', w'.ownsRow base e size v' (n + m) (xs ++ news) → w.grownBy w' v.ownBlock → K (a.put o.dst v') w') :
    if Region.wanted o (yielded ops a.tmps) = true then Oper.wp P o a w K Q else E := by
  have hw : Region.wanted o (yielded ops a.tmps) = true := by simp [Region.wanted, hgd]
  rw [if_pos hw]
  obtain ⟨i, hi, hz0, hz1, hz2⟩ := info_parts hi
  by_cases hm : m = 0
  · subst hm
    have hnil : news = [] := List.length_eq_zero_iff.1 (by omega)
    subst hnil
    have hh := h v w (by simpa using hown) (World.grownBy.refl _ _)
    obtain ⟨B, cap, rfl, hcap⟩ := own_slice hown
    have hS : Src P i.size t (.slice A 0 c) 0 [] w := by
      cases A with
      | none => exact Src.ofNil w ht c
      | some ad => exact Src.ofSlice w ht ad 0 c [] (by simp) (fun j u hj => by simp at hj) (fun u hu => by cases hu)
    have hrun := run_append_nothing (P := P) w t t o.type e i ht hi B n cap hcap _ hS
    unfold Oper.wp execOp
    simp only [ho, resolve, invoke, builtin, Sem.run_bind, Sem.run_pure, Result.andThen_ok, List.map_toArray, List.map_cons, List.map_nil, hs, hx, hrun]
    exact hh
  · rcases hnews with h0 | ⟨b, o', rfl, hc⟩
    · exact absurd h0 hm
    obtain ⟨v', w', hr, h2, h3, _, _⟩ := run_append_own_at (P := P) w base t o.type e i z size bytes ht hi hz0 hz1 hz2 hzs hsz v n xs hown ⟨b, o', none⟩ m c news hl (fun j u hj => by
      have e1 : ((⟨b, o', none⟩ : Addr).add j) = ⟨b, o' + j, none⟩ := by
        unfold Addr.add
        by_cases h0 : j = 0
        · rw [if_pos h0, h0]; rfl
        · rw [if_neg h0]
      rw [e1]; exact hc j u hj) h1 h63 hbytes hbase
    unfold Oper.wp execOp
    simp only [ho, resolve, invoke, builtin, Sem.run_bind, Sem.run_pure, Result.andThen_ok, List.map_toArray, List.map_cons, List.map_nil, hs, hx, hr]
    exact h v' w' h2 h3

def entCells (e : Ent) : List Value := [.string e.key, .string e.text]
def flatE (l : List Ent) : List Value := l.flatMap entCells
theorem flatE_length (l : List Ent) : (flatE l).length = l.length * 2 := by
  induction l with
  | nil => rfl
  | cons p l ih => show (entCells p ++ flatE l).length = _; rw [List.length_append, ih]; simp [entCells]; omega
theorem flatE_at (l : List Ent) (i : Nat) (h : i < l.length) : ((flatE l).drop (i * 2)).take 2 = entCells l[i] := by
  induction l generalizing i with
  | nil => cases h
  | cons p l ih =>
    show ((entCells p ++ flatE l).drop (i * 2)).take 2 = _
    cases i with
    | zero => simp [entCells]
    | succ i =>
      rw [show (i + 1) * 2 = (entCells p).length + i * 2 from by simp [entCells]; omega, List.drop_append, List.drop_eq_nil_of_le (Nat.le_add_right _ _), Nat.add_sub_cancel_left]
      exact ih i (by simpa using h)
theorem flatE_one (l : List Ent) : ∀ u ∈ flatE l, u.oneCell' = true := by
  intro u hu
  obtain ⟨e, _, he⟩ := List.mem_flatMap.1 hu
  simp only [entCells, List.mem_cons, List.not_mem_nil, or_false] at he
  rcases he with rfl | rfl <;> rfl
theorem news_ents {w : World} {lo hi : Nat} {A : Option Addr} {c : Nat} {l : List Ent} (h : ListOk Enc.ent w lo hi (.slice A l.length c) l) :
    l.length = 0 ∨ ∃ b o, A = some ⟨b, o, none⟩ ∧ ∀ j u, (flatE l)[j]? = some u → w.cell? ⟨b, o + j, none⟩ = some u := by
  by_cases h0 : l.length = 0
  · exact .inl h0
  · obtain ⟨b, o, rfl, _, _, _⟩ := h.entAt 0 (by omega)
    refine .inr ⟨b, o, rfl, fun j u hj => ?_⟩
    have hjl : j < l.length * 2 := by
      rcases Nat.lt_or_ge j (l.length * 2) with h | h
      · exact h
      · rw [List.getElem?_eq_none (by rw [flatE_length]; exact h)] at hj; cases hj
    have hi : j / 2 < l.length := by omega
    obtain ⟨b', o', he, _, _, x0, x1⟩ := h.entAt (j / 2) hi
    injection he with he
    injection he with e1 e2
    subst e1; subst e2
    have hh := flatE_at l (j / 2) hi
    have hr : j = j / 2 * 2 + j % 2 := by omega
    have hk : ((flatE l).drop (j / 2 * 2)).take 2 = entCells l[j / 2] := hh
    have hg : (entCells l[j / 2])[j % 2]? = some u := by
      rw [← hk, List.getElem?_take, if_pos (by omega), List.getElem?_drop, ← hr]; exact hj
    rcases Nat.mod_two_eq_zero_or_one j with h2 | h2
    · rw [h2] at hg hr
      injection hg with hg
      rw [hr, ← hg]; exact x0
    · rw [h2] at hg hr
      injection hg with hg
      rw [hr, ← hg, ← Nat.add_assoc]; exact x1
theorem info_ent : (Tryz.prog.info? 33).map (fun i => (i.zero, i.size, i.bytes)) = some (some (.agg #[.string ⟨#[]⟩, .string ⟨#[]⟩]), 2, 32) := by kernel_rfl
theorem info_bun : (Tryz.prog.info? 24).map (fun i => (i.zero, i.size, i.bytes)) = some (some (.agg #[.string ⟨#[]⟩, .slice none 0 0]), 2, 40) := by kernel_rfl
/-- entries in a row of the call's own -/
theorem ents_of_own {w : World} {base lo hi : Nat} {v : Value} {l : List Ent} (h : w.ownsRow base 33 2 v l.length (flatE l)) (hb : lo ≤ base) (hs : w.heap.size ≤ hi) : ListOk Enc.ent w lo hi v l :=
  ListOk.of_own (E := Enc.ent) h hb hs fun i hl => flatE_at l i hl

set_option maxHeartbeats 1600000 in
set_option maxRecDepth 100000 in
theorem bundle_any (b : Bun) (v : Value) (w : World) (lo : Nat) (hl : ListOk Enc.ent w lo w.heap.size v b.ents) (hn : b.ents.length ≤ 4398046511104) :
    Calls Tryz.prog 18 #[.agg #[.string b.tag, v]] w fun e w' => Below w.heap.size w w' ∧ ∃ v', e = .returned (.agg #[.string b.tag, v']) ∧ w'.ownsRow w.heap.size 33 2 v' b.ents.length (flatE b.ents) := by
  obtain ⟨A, c, rfl, hc⟩ := hl.form
  have HN : Hid (∀ W, Below w.heap.size w W → (b.ents.length = 0 ∨ ∃ bb o, A = some ⟨bb, o, none⟩ ∧ ∀ j u, (flatE b.ents)[j]? = some u → W.cell? ⟨bb, o + j, none⟩ = some u)) := Lib.hid fun W hW => news_ents (hl.below Enc.ent_laws hW)
  clear hl
  obtain ⟨bt, l⟩ := b
  dsimp only at HN hn hc ⊢
  go_enter Tryz.func18, Tryz.ntmps18
  go_upto_region 1 with fail
  have hW2 : ((w.alloc (.cells #[.string bt, .slice A l.length c] 24)).alloc (.cells #[.string ⟨#[]⟩, .slice none 0 0] 24)).heap.size = w.heap.size + 1 + 1 := by simp
  obtain ⟨W2, eW2⟩ : ∃ W2, W2 = (w.alloc (.cells #[.string bt, .slice A l.length c] 24)).alloc (.cells #[.string ⟨#[]⟩, .slice none 0 0] 24) := ⟨_, rfl⟩
  rw [← eW2] at hW2 ⊢
  have mb : Blk W2 w.heap.size 24 #[.string bt, .slice A l.length c] := by rw [eW2]; exact (Blk.new _ _ _).alloc _
  have mr : Blk W2 (w.heap.size + 1) 24 #[.string ⟨#[]⟩, .slice none 0 0] := by
    rw [eW2]
    have := Blk.new (w.alloc (.cells #[.string bt, .slice A l.length c] 24)) 24 #[.string ⟨#[]⟩, .slice none 0 0]
    rw [World.size_alloc] at this; exact this
  have hb2 : Below w.heap.size w W2 := by rw [eW2]; exact ((Below.refl _ _).alloc (Nat.le_refl _) _).alloc (by simp) _
  have HMb := Lib.hid mb
  have HMr := Lib.hid mr
  have HB2 := Lib.hid hb2
  have c0 := mb.cell 0
  have c1 := mb.cell 1
  simp at c0 c1
  clear eW2 mb mr hb2
  have HE : Hid (∀ W : World, W.heap = (W2.alloc (.cells #[] 33)).heap → W.ownsRow (w.heap.size + 1 + 1) 33 2 (.slice (some ⟨w.heap.size + 1 + 1, 0, none⟩) 0 0) 0 []) := Lib.hid fun W hW => ⟨rfl, .inr ⟨w.heap.size + 1 + 1, 0, #[], rfl, Nat.le_refl _, by rw [hW, ← hW2]; exact heap_alloc_new W2 _, by omega, by unfold maxLen; omega, rfl, rfl⟩⟩
  have hlt0 : w.heap.size < W2.heap.size := by omega
  go_region_law
    ((refine step_append_any (by rfl) _ _ 22 (by rfl) (w.heap.size + 1 + 1) 33 Tryz.underlying22 info_ent rfl (by decide) [] (by rfl) (HE.out _ rfl) (flatE l) (by rfl) (flatE_length l) (HN.out _ (by first | exact (HB2.out.alloc (by omega) _) | exact (HB2.out.alloc (by omega) _).drew | exact (HB2.out.drew.alloc (by omega) _) | exact (HB2.out.drew.alloc (by omega) _).drew)) (flatE_one l) (by unfold maxLen; omega) (by omega) (by simp; omega) ?_
      intro v' w1 hown hgrow
      have hsz1 : w.heap.size + 1 + 1 < w1.heap.size := by have := hgrow.size; simp at this; omega
      have hb1 : Below (w.heap.size + 1 + 1) W2 w1 := by
        refine Below.grown ?_ hgrow (by simp; omega) (by intro k hk; simp [Value.ownBlock] at hk; omega)
        repeat' (first | with_reducible exact Below.refl _ _ | with_reducible apply Below.drew | (with_reducible refine Below.alloc ?_ ?_ _) | omega | (simp; try omega))
      have mb1 := HMb.out.below hb1 (by omega)
      have mr1 := HMr.out.below hb1 (by omega)
      have d0 := mb1.cell 0
      have d1 := mb1.cell 1
      have r0 := mr1.cell 0
      have r1 := mr1.cell 1
      have f0 := mr1.frozen 0
      have f1 := mr1.frozen 1
      simp at d0 d1 r0 r1
      have HB1 := Lib.hid hb1
      have HO1 := Lib.hid hown
      obtain ⟨Av, cv, hv', _⟩ := own_slice hown
      have hv2 : v' = .slice Av l.length cv := by rw [hv']; simp
      subst hv2
      clear hb1 mb1 mr1 hown hgrow hv' c0 c1))
  all_goals
    go_wp2_with fail
    refine bodyPost_ret (v := .agg #[.string bt, .slice Av l.length cv]) ?_ rfl ?_
    · simp [results, Tryz.results18, go_sem, r0, r1, f0, f1]
      try rfl
    · refine ⟨?_, _, rfl, ?_⟩
      · refine Below.setCell (Below.setCell ?_ (by simp) _) (by simp) _
        exact HB2.out.trans (HB1.out.mono (by omega))
      · have ho := HO1.out
        simp only [Nat.zero_add, List.nil_append] at ho
        refine own_mono (own_keep ho fun g hg _ => ?_) (base' := w.heap.size) (by omega)
        have := (own_lt ho hg).1
        rw [Below.heap_setCell _ _ _ _ (by simp; omega), Below.heap_setCell _ _ _ _ (by simp; omega)]

theorem Blk.new1 (w : World) (o : Obj) (t : TypeId) (cs : Array Value) : Blk ((w.alloc o).alloc (.cells cs t)) (w.heap.size + 1) t cs := by
  have := Blk.new (w.alloc o) t cs
  rwa [World.size_alloc] at this
theorem blk_grown {w w' : World} {g : Nat} {t : TypeId} {cs : Array Value} {row : Option Nat} (h : Blk w g t cs) (hg : w.grownBy w' row) (hne : some g ≠ row) : Blk w' g t cs := (hg.block g h.lt hne).trans h
/-- a bundle and the slice value of its entries -/
def bunCells (p : Bun × Value) : List Value := [.string p.1.tag, p.2]
def flatB (l : List (Bun × Value)) : List Value := l.flatMap bunCells
theorem flatB_at (l : List (Bun × Value)) (i : Nat) (h : i < l.length) : ((flatB l).drop (i * 2)).take 2 = bunCells l[i] := by
  induction l generalizing i with
  | nil => cases h
  | cons p l ih =>
    show ((bunCells p ++ flatB l).drop (i * 2)).take 2 = _
    cases i with
    | zero => simp [bunCells]
    | succ i =>
      rw [show (i + 1) * 2 = (bunCells p).length + i * 2 from by simp [bunCells]; omega, List.drop_append, List.drop_eq_nil_of_le (Nat.le_add_right _ _), Nat.add_sub_cancel_left]
      exact ih i (by simpa using h)
def EntRow (base : Nat) (w : World) (p : Bun × Value) : Prop := w.ownsRow base 33 2 p.2 p.1.ents.length (flatE p.1.ents)
structure RowedB (base : Nat) (w : World) (u : Value) (ps : List (Bun × Value)) : Prop where
  own : w.ownsRow base 24 2 u ps.length (flatB ps)
  ents : ∀ p ∈ ps, EntRow base w p
theorem RowedB.below {base B : Nat} {w w' : World} {u : Value} {ps : List (Bun × Value)} (h : RowedB base w u ps) (k : Below B w w') (hB : w.heap.size ≤ B) : RowedB base w' u ps :=
  ⟨own_below h.own k hB, fun p hp => own_below (h.ents p hp) k hB⟩
theorem RowedB.push {base : Nat} {W w' : World} {o v' : Value} {ps : List (Bun × Value)} {q : Bun × Value} (h : RowedB base W o ps) (hq : EntRow base W q) (hg : W.grownBy w' o.ownBlock)
    (hown : w'.ownsRow base 24 2 v' (ps.length + 1) (flatB ps ++ bunCells q)) : RowedB base w' v' (ps ++ [q]) := by
  have keep : ∀ p, EntRow base W p → EntRow base w' p := fun p hp => own_keep hp fun g hpg hlt => hg.block g hlt fun e => own_types hp h.own (by decide) hpg e.symm
  refine ⟨?_, fun p hp => ?_⟩
  · have e1 : flatB (ps ++ [q]) = flatB ps ++ bunCells q := by simp [flatB]
    have e : (ps ++ [q]).length = ps.length + 1 := by simp
    rw [e1, e]; exact hown
  · rcases List.mem_append.1 hp with hp | hp
    · exact keep p (h.ents p hp)
    · rw [List.mem_singleton.1 hp]; exact keep q hq
theorem RowedB.list {base lo hi : Nat} {w : World} {u : Value} {ps : List (Bun × Value)} (h : RowedB base w u ps) (hb : lo ≤ base) (hs : w.heap.size ≤ hi) : ListOk Enc.bun w lo hi u (ps.map Prod.fst) := by
  have h1 := h.own
  have e1 : ps.length = (ps.map Prod.fst).length := by simp
  rw [e1] at h1
  refine ListOk.of_own (E := Enc.bun) h1 hb hs fun i hl => ?_
  have hl' : i < ps.length := by simpa using hl
  refine ⟨ps[i].2, ?_, ?_⟩
  · rw [show Enc.bun.sz = 2 from rfl, flatB_at ps i hl']; simp [bunCells]
  · rw [List.getElem_map]
    exact ents_of_own (h.ents _ (List.getElem_mem hl')) hb hs
theorem RowedB.nil {base : Nat} {w : World} : RowedB base w (.slice none 0 0) [] := ⟨own_nil, fun p hp => (by cases hp)⟩
end Go.Proofs.YtiaobgapfoogiaaGreatDoor
