/- Plainly: a message without what is not looked at; what it would look like. -/
import Derived.Test.YtokjbdefkfdhhaaGreatDoorMsgD
import Derived.Test.YtokjbdefkfdhhaaGreatDoorVow
namespace Go.Proofs.YtokjbdefkfdhhaaGreatDoor
open Go.RowKit

section
variable {β : Type} (g : List β → List β)
def clnX (x : NdF β) : NdF β := ⟨x.kind, if x.kind = 6 then ByteArray.empty else x.text, if x.kind = 4 then x.off else 0, (casesR x).map fun c => (c.1, g c.2)⟩
/-- what is made of a clean node -/
def louX (x : NdF β) : NdF β := ⟨x.kind, if x.kind = 1 then str (dblL (bts x.text)) else x.text, x.off, x.cases.map fun c => (c.1, g c.2)⟩
/-- what is made of a node at once -/
def pseX (x : NdF β) : NdF β := ⟨x.kind, if x.kind = 6 then ByteArray.empty else if x.kind = 1 then str (dblL (bts x.text)) else x.text, if x.kind = 4 then x.off else 0, (casesR x).map fun c => (c.1, g c.2)⟩
theorem casesR_clnX (x : NdF β) : casesR (clnX g x) = (casesR x).map fun c => (c.1, g c.2) := by
  show (if hasCases x.kind then (casesR x).map fun c => (c.1, g c.2) else []) = _
  split
  · rfl
  · rename_i h
    unfold casesR
    rw [if_neg h]; rfl
theorem louX_clnX (p c : List β → List β) (x : NdF β) : louX p (clnX c x) = pseX (fun l => p (c l)) x := by
  unfold louX pseX clnX
  simp only [NdF.mk.injEq, true_and]
  refine ⟨?_, ?_⟩
  · by_cases h1 : x.kind = 1
    · rw [if_pos h1, if_pos h1, if_neg (by omega), if_neg (by omega)]
    · rw [if_neg h1, if_neg h1]
  · rw [List.map_map]; rfl
theorem pseX_clnX (p c : List β → List β) (x : NdF β) : pseX p (clnX c x) = pseX (fun l => p (c l)) x := by
  unfold pseX
  rw [casesR_clnX]
  unfold clnX
  simp only [NdF.mk.injEq, true_and]
  refine ⟨?_, ?_, ?_⟩
  · by_cases h6 : x.kind = 6
    · rw [if_pos h6, if_pos h6]
    · rw [if_neg h6, if_neg h6, if_neg h6]
  · split <;> rfl
  · rw [List.map_map]; rfl
theorem pseX_congr {p q : List β → List β} {x : NdF β} (h : ∀ c ∈ casesR x, p c.2 = q c.2) : pseX p x = pseX q x := by
  unfold pseX
  simp only [NdF.mk.injEq, true_and]
  exact List.map_congr_left fun c hc => by rw [h c hc]
end
def cleanN : (n : Nat) → List (Nd n) → List (Nd n)
  | 0, _ => []
  | n + 1, m => (m : List (NdF (Nd n))).map (clnX (cleanN n))
def psoN : (n : Nat) → List (Nd n) → List (Nd n)
  | 0, _ => []
  | n + 1, m => ((m : List (NdF (Nd n))).map (clnX (cleanN n))).map (louX (psoN n))
def pseN : (n : Nat) → List (Nd n) → List (Nd n)
  | 0, _ => []
  | n + 1, m => (m : List (NdF (Nd n))).map (pseX (pseN n))
theorem mapmap {α β γ : Type} {F : β → γ} {G : α → β} {H : α → γ} (m : List α) (h : ∀ x, F (G x) = H x) : (m.map G).map F = m.map H := by
  rw [List.map_map]
  exact List.map_congr_left fun x _ => h x
theorem pse_same : (n : Nat) → (m : List (Nd n)) → psoN n m = pseN n m ∧ pseN n (cleanN n m) = pseN n m
  | 0, _ => ⟨rfl, rfl⟩
  | n + 1, m => by
    have h1 : ∀ l, psoN n (cleanN n l) = pseN n l := fun l => by rw [(pse_same n _).1, (pse_same n l).2]
    refine ⟨?_, ?_⟩
    · refine mapmap (m : List (NdF (Nd n))) fun x => ?_
      exact (louX_clnX (psoN n) (cleanN n) x).trans (pseX_congr fun c _ => h1 c.2)
    · refine mapmap (m : List (NdF (Nd n))) fun x => ?_
      exact (pseX_clnX (pseN n) (cleanN n) x).trans (pseX_congr fun c _ => (pse_same n c.2).2)
theorem casesR_len {β : Type} (x : NdF β) : (casesR x).length ≤ x.cases.length := by
  unfold casesR
  split
  · exact Nat.le_refl _
  · exact Nat.zero_le _
theorem clean_in : (n : Nat) → (m : List (Nd n)) → MsgIn n m → MsgIn n (cleanN n m)
  | 0, _, _ => ⟨Nat.zero_le _, fun x hx => nomatch hx⟩
  | n + 1, m, h => by
    have hl : ((m : List (NdF (Nd n))).map (clnX (cleanN n))).length = m.length := List.length_map _
    refine ⟨?_, fun x hx => ?_⟩
    · show ((m : List (NdF (Nd n))).map (clnX (cleanN n))).length ≤ _
      rw [hl]; exact h.len
    · obtain ⟨y, hy, rfl⟩ := List.mem_map.1 (show x ∈ (m : List (NdF (Nd n))).map (clnX (cleanN n)) from hx)
      have h1 : smallF (SmallN n) y := h.each y hy
      show smallF (SmallN n) (clnX (cleanN n) y)
      refine ⟨?_, ?_, fun c hc => ?_⟩
      · show (if y.kind = 6 then ByteArray.empty else y.text).size ≤ _
        split
        · exact Nat.zero_le _
        · exact h1.1
      · show ((casesR y).map _).length ≤ _
        rw [List.length_map]
        exact Nat.le_trans (casesR_len y) h1.2.1
      · obtain ⟨d, hd, rfl⟩ := List.mem_map.1 (show c ∈ (casesR y).map (fun c => (c.1, cleanN n c.2)) from hc)
        have h2 := h1.2.2 d (casesR_sub hd)
        have h3 := clean_in n d.2 (h.body hy (casesR_sub hd))
        exact ⟨h2.1, h3.len, h3.each⟩
end Go.Proofs.YtokjbdefkfdhhaaGreatDoor
