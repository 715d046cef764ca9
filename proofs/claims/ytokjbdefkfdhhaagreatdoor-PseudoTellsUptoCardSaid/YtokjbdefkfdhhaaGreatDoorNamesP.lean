/- A message's bulk bounds its parts and what they can need. -/
import Derived.Test.YtokjbdefkfdhhaaGreatDoorNamesD
namespace Go.Proofs.YtokjbdefkfdhhaaGreatDoor
open Go.RowKit

theorem mem_sum {α : Type} (f : α → Nat) : ∀ (l : List α) (x : α), x ∈ l → f x ≤ (l.map f).sum
  | a :: l, x, h => by
    rw [List.map_cons, List.sum_cons]
    rcases List.mem_cons.1 h with rfl | h
    · omega
    · have := mem_sum f l x h; omega
theorem len_le_sum {α : Type} (f : α → Nat) : ∀ (l : List α), (∀ x ∈ l, 1 ≤ f x) → l.length ≤ (l.map f).sum
  | [], _ => Nat.le_refl _
  | a :: l, h => by
    rw [List.map_cons, List.sum_cons, List.length_cons]
    have := len_le_sum f l fun x hx => h x (List.mem_cons_of_mem _ hx)
    have := h a (List.mem_cons_self ..)
    omega
theorem sum_map_le {α : Type} (f g : α → Nat) : ∀ (l : List α), (∀ x ∈ l, f x ≤ g x) → (l.map f).sum ≤ (l.map g).sum
  | [], _ => Nat.le_refl _
  | a :: l, h => by
    rw [List.map_cons, List.sum_cons, List.map_cons, List.sum_cons]
    have := sum_map_le f g l fun x hx => h x (List.mem_cons_of_mem _ hx)
    have := h a (List.mem_cons_self ..)
    omega
theorem node_bulk (n : Nat) (x : NdF (Nd n)) : (Enc.node (n + 1)).bulk x = x.text.size + 1 + ((x.cases.map (Enc.cas (Enc.node n)).bulk).sum + 1) := rfl
theorem cas_bulk (n : Nat) (c : ByteArray × List (Nd n)) : (Enc.cas (Enc.node n)).bulk c = c.1.size + 1 + ((c.2.map (Enc.node n).bulk).sum + 1) := rfl
theorem node_pos : (n : Nat) → (x : Nd n) → 1 ≤ (Enc.node n).bulk x
  | 0, x => nomatch (show Empty from x)
  | n + 1, x => by rw [node_bulk n x]; omega
theorem small_of_bulk : (n : Nat) → (x : Nd n) → (Enc.node n).bulk x ≤ 10000000 → SmallN n x
  | 0, _, _ => trivial
  | n + 1, x, h => by
    rw [node_bulk n x] at h
    refine ⟨by omega, ?_, fun c hc => ?_⟩
    · have := len_le_sum (Enc.cas (Enc.node n)).bulk (NdF.cases (α := Nd n) x) fun c _ => by rw [cas_bulk]; omega
      omega
    · have h1 := mem_sum (Enc.cas (Enc.node n)).bulk (NdF.cases (α := Nd n) x) c hc
      rw [cas_bulk] at h1
      have h2 := len_le_sum (Enc.node n).bulk c.2 fun y _ => node_pos n y
      refine ⟨by omega, by omega, fun y hy => small_of_bulk n y ?_⟩
      have := mem_sum (Enc.node n).bulk c.2 y hy
      omega
theorem msgIn_of_bulk (n : Nat) (m : List (Nd n)) (h : (m.map (Enc.node n).bulk).sum ≤ 10000000) : MsgIn n m :=
  ⟨Nat.le_trans (len_le_sum (Enc.node n).bulk m fun y _ => node_pos n y) h, fun x hx => small_of_bulk n x (Nat.le_trans (mem_sum _ m x hx) h)⟩
theorem cnt_of_bulk : (n : Nat) → (m : List (Nd n)) → cntN n m ≤ (m.map (Enc.node n).bulk).sum
  | 0, _ => Nat.zero_le _
  | n + 1, m => by
    refine sum_map_le (fun x : NdF (Nd n) => 1 + cntC (cntN n) (casesR x)) (Enc.node (n + 1)).bulk m fun x _ => ?_
    rw [node_bulk n x]
    have h1 : cntC (cntN n) (casesR x) ≤ (x.cases.map (Enc.cas (Enc.node n)).bulk).sum := by
      have h2 : cntC (cntN n) x.cases ≤ (x.cases.map (Enc.cas (Enc.node n)).bulk).sum := sum_map_le _ _ x.cases fun c _ => by
        rw [cas_bulk]
        have := cnt_of_bulk n c.2
        omega
      unfold casesR
      split
      · exact h2
      · exact Nat.zero_le _
    omega
end Go.Proofs.YtokjbdefkfdhhaaGreatDoor
