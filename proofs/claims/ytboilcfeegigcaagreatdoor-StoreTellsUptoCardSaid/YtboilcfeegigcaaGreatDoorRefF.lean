/- The walk of the document's package: ChainOf. -/
import Derived.Test.YtboilcfeegigcaaGreatDoorRefE
import Derived.Test.YtboilcfeegigcaaGreatDoorBunRow
import Derived.Test.YtboilcfeegigcaaGreatDoorChainB
namespace Go.Proofs.YtboilcfeegigcaaGreatDoor
open Go.RowKit

/-- a row of the call's own as the news of an append -/
theorem news_own {w : World} {base : Nat} {e : TypeId} {size : Nat} {A : Option Addr} {n c : Nat} {xs : List Value} (h : w.ownsRow base e size (.slice A n c) n xs) :
    n = 0 ∨ ∃ b o, A = some ⟨b, o, none⟩ ∧ ∀ j u, xs[j]? = some u → w.cell? ⟨b, o + j, none⟩ = some u := by
  obtain ⟨h1, ⟨h2, h3⟩ | ⟨g, cap, cur, hv, hb, hh, hc, _, hz, ht⟩⟩ := h
  · exact .inl h3
  · injection hv with hv
    refine .inr ⟨g, 0, hv, fun j u hj => ?_⟩
    rw [Nat.zero_add, cell_of_row w g j cur e (0, 0) hh]
    have hj' : j < xs.length := by
      rcases Nat.lt_or_ge j xs.length with h | h
      · exact h
      · rw [List.getElem?_eq_none h] at hj; cases hj
    rw [← ht, List.getElem?_take, if_pos (by omega), Array.getElem?_toList] at hj
    exact hj
theorem flatT_one (ps : List (Tg × Value)) (h : ∀ p ∈ ps, p.2.oneCell' = true) : ∀ u ∈ flatT ps, u.oneCell' = true := by
  intro u hu
  obtain ⟨p, hp, he⟩ := List.mem_flatMap.1 hu
  simp only [tagCells, List.mem_cons, List.not_mem_nil, or_false] at he
  rcases he with rfl | rfl | rfl | rfl
  · rfl
  · rfl
  · rfl
  · exact h p hp
/-- What ChainOf answers. -/
def ChainRes (t : Tg) (w : World) (lo hi : Nat) (e : Ending) (w' : World) : Prop :=
  Below w.heap.size w w' ∧ ∃ u ps, e = .returned u ∧ ps.map Prod.fst = chainOf t ∧ w'.ownsRow w.heap.size 84 4 u ps.length (flatT ps) ∧ ∀ p ∈ ps, ListOk Enc.str w lo hi p.2 p.1.vars
theorem list_back {w W : World} {lo hi : Nat} {v : Value} {l : List ByteArray} (h : ListOk Enc.str W lo hi v l) (hb : Below w.heap.size w W) (hh : hi ≤ w.heap.size) : ListOk Enc.str w lo hi v l :=
  h.keep Enc.str_laws fun p _ hp => (hb.cell (by omega)).symm
theorem ListOk.oneCell {α : Type} {E : Enc α} {w : World} {lo hi : Nat} {v : Value} {l : List α} (h : ListOk E w lo hi v l) : v.oneCell' = true := by
  obtain ⟨A, c, rfl, _⟩ := h.form
  rfl

theorem less_bare (l : ByteArray) : less ⟨l, ByteArray.empty, ByteArray.empty, []⟩ = none := by
  unfold less
  rw [if_neg (by simp), if_pos (eqs_self _), if_pos (eqs_self _)]
theorem flatT_cons (p : Tg × Value) (ps : List (Tg × Value)) : flatT (p :: ps) = flatT [p] ++ flatT ps := by
  show tagCells p ++ flatT ps = (tagCells p ++ []) ++ flatT ps
  rw [List.append_nil]
theorem chainRes_mk {t u : Tg} {w w4 : World} {lo hi : Nat} {v v4 : Value} {ps : List (Tg × Value)} (hc : chainOf t = t :: chainOf u) (hb : Below w.heap.size w w4) (hps : ps.map Prod.fst = chainOf u)
    (hown : w4.ownsRow w.heap.size 84 4 v4 (1 + ps.length) (flatT [(t, v)] ++ flatT ps)) (hv : ListOk Enc.str w lo hi v t.vars) (hvs : ∀ p ∈ ps, ListOk Enc.str w lo hi p.2 p.1.vars) :
    ChainRes t w lo hi (.returned v4) w4 := by
  refine ⟨hb, v4, (t, v) :: ps, rfl, by rw [List.map_cons, hps, hc], ?_, fun p hp => ?_⟩
  · rw [List.length_cons, Nat.add_comm, flatT_cons]; exact hown
  · rcases List.mem_cons.1 hp with rfl | hp
    · exact hv
    · exact hvs p hp
theorem chainRes_one {t : Tg} {w w4 : World} {lo hi : Nat} {v v4 : Value} (hc : chainOf t = [t]) (hb : Below w.heap.size w w4) (hown : w4.ownsRow w.heap.size 84 4 v4 1 (flatT [(t, v)])) (hv : ListOk Enc.str w lo hi v t.vars) :
    ChainRes t w lo hi (.returned v4) w4 :=
  ⟨hb, v4, [(t, v)], rfl, by rw [hc]; rfl, hown, fun p hp => by rw [List.mem_singleton.1 hp]; exact hv⟩

end Go.Proofs.YtboilcfeegigcaaGreatDoor
