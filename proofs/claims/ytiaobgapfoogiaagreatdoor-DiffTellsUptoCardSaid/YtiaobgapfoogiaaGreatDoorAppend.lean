/- append of a list that may be empty, to a row of the call's own. -/
import Derived.Test.YtiaobgapfoogiaaGreatDoorTagRow
import Derived.Deep.Upon
set_option linter.unusedSimpArgs false
set_option linter.unusedVariables false
namespace Go.Proofs.YtiaobgapfoogiaaGreatDoor
open Go.RowKit

theorem wpList_append_any {P : Program} {w : World} {ops : Array Oper} {rest : List Oper} {o : Oper} {a : Act} {Q : Exit → Act → World → Prop} (hgd : o.guard = none) (s x : Operand) (t : TypeId)
    (ho : o.op = .call { callee := .builtin .append, args := #[s, x], argTypes := #[t, t] })
    (base : Nat) (e : TypeId) {z : Value} {size bytes : Nat} (ht : P.underlying t = some (.slice e)) (hi : (P.info? e).map (fun i => (i.zero, i.size, i.bytes)) = some (some z, size, bytes))
    (hzs : z.cells.size = size) (hsz : 0 < size)
    {v : Value} {n : Nat} (xs : List Value) (hs : a.eval s = v) (hown : w.ownsRow base e size v n xs)
    {A : Option Addr} {m c : Nat} (news : List Value) (hx : a.eval x = .slice A m c) (hl : news.length = m * size)
    (hnews : m = 0 ∨ ∃ b o, A = some ⟨b, o, none⟩ ∧ ∀ j u, news[j]? = some u → w.cell? ⟨b, o + j, none⟩ = some u) (h1 : ∀ u ∈ news, u.oneCell' = true)
    (h63 : n + m ≤ maxLen) (hbytes : (n + m) * bytes ≤ 140737488355328) (hbase : base ≤ w.heap.size)
    (h : ∀ v' w', w'.ownsRow base e size v' (n + m) (xs ++ news) → w.grownBy w' v.ownBlock → (v'.ownBlock = v.ownBlock ∨ v'.ownBlock = some w.heap.size) → wpList P ops Q rest (a.put o.dst v') w') :
    wpList P ops Q (o :: rest) a w := by
  obtain ⟨i, hi, hz0, hz1, hz2⟩ := info_parts hi
  by_cases hm : m = 0
  · subst hm
    have hnil : news = [] := List.length_eq_zero_iff.1 (by omega)
    subst hnil
    refine wpList_plain hgd fun K hK => ?_
    have hh := h v w (by simpa using hown) (World.grownBy.refl _ _) (.inl rfl)
    obtain ⟨B, cap, rfl, hcap⟩ := own_slice hown
    have hS : Src P i.size t (.slice A 0 c) 0 [] w := by
      cases A with
      | none => exact Src.ofNil w ht c
      | some ad => exact Src.ofSlice w ht ad 0 c [] (by simp) (fun j u hj => by simp at hj) (fun u hu => by cases hu)
    have hrun := run_append_nothing (P := P) w t t o.type e i ht hi B n cap hcap _ hS
    unfold Oper.wp execOp
    simp only [ho, resolve, invoke, builtin, Sem.run_bind, Sem.run_pure, Result.andThen_ok, List.map_toArray, List.map_cons, List.map_nil, hs, hx, hrun]
    exact hK _ _ hh
  · rcases hnews with h0 | ⟨b, o', rfl, hc⟩
    · exact absurd h0 hm
    refine wpList_append_own_at (P := P) w hgd s x t ho base e i z size bytes ht hi hz0 hz1 hz2 hzs hsz v n xs hs hown ⟨b, o', none⟩ m c news hx hl (fun j u hj => ?_) h1 h63 hbytes hbase fun v' w' p1 p2 _ p4 => h v' w' p1 p2 p4
    have e1 : ((⟨b, o', none⟩ : Addr).add j) = ⟨b, o' + j, none⟩ := by
      unfold Addr.add
      by_cases h0 : j = 0
      · rw [if_pos h0, h0]; rfl
      · rw [if_neg h0]
    rw [e1]; exact hc j u hj
theorem own_nil {w : World} {base : Nat} {e : TypeId} {size : Nat} : w.ownsRow base e size (.slice none 0 0) 0 [] := ⟨by simp, .inl ⟨rfl, rfl⟩⟩
/-- a list of strings as the news of an append -/
theorem news_strs {w : World} {lo hi : Nat} {A : Option Addr} {c : Nat} {l : List ByteArray} (h : ListOk Enc.str w lo hi (.slice A l.length c) l) :
    l.length = 0 ∨ ∃ b o, A = some ⟨b, o, none⟩ ∧ ∀ j u, (l.map Value.string)[j]? = some u → w.cell? ⟨b, o + j, none⟩ = some u := by
  by_cases h0 : l.length = 0
  · exact .inl h0
  · obtain ⟨b, o, rfl, _, _, _⟩ := h.strAt 0 (by omega)
    refine .inr ⟨b, o, rfl, fun j u hj => ?_⟩
    rw [List.getElem?_map] at hj
    cases hq : l[j]? with
    | none => rw [hq] at hj; cases hj
    | some y =>
      rw [hq] at hj
      simp only [Option.map_some, Option.some.injEq] at hj
      subst hj
      obtain ⟨hjl, rfl⟩ := List.getElem?_eq_some_iff.1 hq
      obtain ⟨b', o', he, _, _, hc⟩ := h.strAt j hjl
      injection he with he
      injection he with e1 e2
      subst e1; subst e2
      exact hc
theorem strs_oneCell (l : List ByteArray) : ∀ u ∈ l.map Value.string, u.oneCell' = true := by
  intro u hu
  obtain ⟨y, _, rfl⟩ := List.mem_map.1 hu
  rfl
end Go.Proofs.YtiaobgapfoogiaaGreatDoor
