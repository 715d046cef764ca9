/- What the laws of stores say of versions that are kept, plainly: no program. -/
import Derived.Test.YtboilcfeegigcaaGreatDoorStoreP
namespace Go.Proofs.YtboilcfeegigcaaGreatDoor
open Go.RowKit Go.Maps

def getOf (vs : List VR) (n : Int) (tag key : ByteArray) : Option ByteArray := (verAt vs n).bind fun r => textIn r.buns tag key
theorem getOf_at (vs : List VR) (i : Nat) (hi : i < vs.length) (tag key : ByteArray) : getOf vs ((i + 1 : Nat) : Int) tag key = if live vs.length (i + 1) vs[i] then textIn vs[i].buns tag key else none := by
  unfold getOf
  rw [verAt_at i hi]
  split <;> rfl
/-- the numbers that are there, of the first k versions -/
def numsTo (vs : List VR) (k : Nat) : List Int := (pickV (live vs.length) 1 (vs.take k)).map fun p => (p.1 : Int)
theorem numsTo_zero (vs : List VR) : numsTo vs 0 = [] := rfl
theorem numsTo_all (vs : List VR) : numsTo vs vs.length = (keptV vs).map fun p => (p.1 : Int) := by unfold numsTo; rw [List.take_length]; rfl
theorem numsTo_succ (vs : List VR) (k : Nat) (hk : k < vs.length) : numsTo vs (k + 1) = numsTo vs k ++ (if live vs.length (k + 1) vs[k] then [((k + 1 : Nat) : Int)] else []) := by
  unfold numsTo
  rw [List.take_succ_eq_append_getElem hk, pickV_snoc, List.map_append]
  have e : 1 + (vs.take k).length = k + 1 := by rw [List.length_take]; omega
  rw [e]
  split <;> rfl
theorem numsTo_len (vs : List VR) (k : Nat) : (numsTo vs k).length ≤ k := by
  unfold numsTo
  rw [List.length_map]
  refine Nat.le_trans (pickV_le _ _ _) ?_
  rw [List.length_take]; omega
theorem live_iff (N k : Nat) (r : VR) : live N k r = (k == N || r.held != 0) := rfl
/-- What cannot be freed. -/
theorem free_none {vs : List VR} {n : Int} (h : verAt vs n = none ∨ ∃ r, verAt vs n = some r ∧ r.held = 0) : n < 1 ∨ (vs.length : Int) < n ∨ ∃ i, ∃ hi : i < vs.length, n = ((i + 1 : Nat) : Int) ∧ vs[i].held = 0 := by
  by_cases h1 : n < 1
  · exact .inl h1
  · by_cases h2 : (vs.length : Int) < n
    · exact .inr (.inl h2)
    · refine .inr (.inr ?_)
      obtain ⟨i, rfl⟩ : ∃ i : Nat, n = ((i + 1 : Nat) : Int) := ⟨n.toNat - 1, by omega⟩
      have hi : i < vs.length := by omega
      refine ⟨i, hi, rfl, ?_⟩
      rw [verAt_at i hi] at h
      by_cases hl : live vs.length (i + 1) vs[i] = true
      · rw [if_pos hl] at h
        rcases h with h | ⟨r, h, h0⟩
        · cases h
        · injection h with h; rw [h]; exact h0
      · unfold live at hl
        simp at hl
        exact hl.2
theorem free_some {vs : List VR} (i : Nat) (hi : i < vs.length) (h0 : vs[i].held ≠ 0) : verAt vs ((i + 1 : Nat) : Int) = some vs[i] := by
  rw [verAt_at i hi, if_pos]
  unfold live
  simp [h0]

/- ## One that is held, and what is loaded behind it -/
structure HeldSt (first : List Bun) (m : Nat) (vs : List VR) : Prop where
  len : vs.length = m + 1
  buns : ∃ h : 0 < vs.length, vs[0].buns = first ∧ vs[0].held = 1
  rest : ∀ i (h : i < vs.length), 0 < i → vs[i].held = 0
theorem HeldSt.more {first : List Bun} {m : Nat} {vs : List VR} (h : HeldSt first m vs) {r : VR} (hr : r.held = 0) : HeldSt first (m + 1) (vs ++ [r]) := by
  obtain ⟨h0, h1, h2⟩ := h.buns
  refine ⟨by rw [List.length_append, h.len]; rfl, ⟨by simp, ?_, ?_⟩, fun i hi hp => ?_⟩
  · rw [List.getElem_append_left h0]; exact h1
  · rw [List.getElem_append_left h0]; exact h2
  · rw [List.getElem_append]
    split
    · exact h.rest i (by assumption) hp
    · rename_i hn
      have : i - vs.length = 0 := by simp at hi; omega
      simp only [this, List.getElem_cons_zero]
      exact hr
theorem HeldSt.get {first : List Bun} {m : Nat} {vs : List VR} (h : HeldSt first m vs) (tag key : ByteArray) : getOf vs 1 tag key = textIn first tag key := by
  obtain ⟨h0, h1, h2⟩ := h.buns
  have := getOf_at vs 0 h0 tag key
  rw [if_pos (by unfold live; simp [h2]), h1] at this
  exact this
/-- when the first one is held no more -/
theorem HeldSt.kept {first : List Bun} {m : Nat} {vs vs' : List VR} (h : HeldSt first m vs) (hl : vs'.length = vs.length) (h0 : ∀ h : 0 < vs'.length, vs'[0].held = 0) (hr : ∀ i (h : i < vs'.length) (h' : i < vs.length), 0 < i → vs'[i].held = vs[i].held) :
    (keptV vs').map (fun p => (p.1 : Int)) = [((m + 1 : Nat) : Int)] := by
  have hz : ∀ i (h : i < vs'.length), vs'[i].held = 0 := fun i hi => by
    rcases Nat.eq_zero_or_pos i with rfl | hp
    · exact h0 hi
    · rw [hr i hi (by omega) hp]; exact h.rest i (by omega) hp
  have hn : ∀ k, k ≤ vs'.length → numsTo vs' k = if k = vs'.length then [((m + 1 : Nat) : Int)] else [] := by
    intro k
    induction k with
    | zero => intro _; rw [numsTo_zero, if_neg (by rw [hl, h.len]; omega)]
    | succ k ih =>
      intro hk
      rw [numsTo_succ vs' k hk, ih (by omega), if_neg (by omega)]
      have e : live vs'.length (k + 1) vs'[k] = decide (k + 1 = vs'.length) := by
        unfold live
        rw [hz k hk]
        rw [Bool.eq_iff_iff]; simp
      rw [e]
      by_cases hq : k + 1 = vs'.length
      · rw [decide_eq_true hq, if_pos rfl, if_pos hq]
        have : k + 1 = m + 1 := by rw [hq, hl, h.len]
        rw [this]; rfl
      · rw [decide_eq_false hq, if_neg (by decide), if_neg hq]; rfl
  rw [← numsTo_all, hn _ (Nat.le_refl _), if_pos rfl]
end Go.Proofs.YtboilcfeegigcaaGreatDoor
