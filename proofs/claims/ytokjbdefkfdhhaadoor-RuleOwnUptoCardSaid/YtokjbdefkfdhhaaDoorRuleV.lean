/- Rules, plainly: what is read of a text, what is a fault, when a rule is so; how long its text is. -/
import Derived.Test.YtokjbdefkfdhhaaDoorRuleX
namespace Go.Proofs.YtokjbdefkfdhhaaDoor
open Go.RowKit

/- ## Reading -/
def rangeOf (s : List UInt8) : Int × Int := (numR (Lib.cut s [46, 46]).1, numR (if (Lib.cut s [46, 46]).2.2 then (Lib.cut s [46, 46]).2.1 else (Lib.cut s [46, 46]).1))
def hdTl (s : List UInt8) : List UInt8 × List UInt8 := if (Lib.cut s [32, 61, 32]).2.2 then ((Lib.cut s [32, 61, 32]).1, (Lib.cut s [32, 61, 32]).2.1) else ((Lib.cut s [32, 33, 61, 32]).1, (Lib.cut s [32, 33, 61, 32]).2.1)
def opOf (l : List UInt8) : UInt8 := if l.length = 1 then l.headD 0 else 0
def parsedR (s : List UInt8) : Rl :=
  ⟨opOf (Lib.cut (hdTl s).1 [32, 37, 32]).1, if (Lib.cut (hdTl s).1 [32, 37, 32]).2.2 then numR (Lib.cut (hdTl s).1 [32, 37, 32]).2.1 else 0, !(Lib.cut s [32, 61, 32]).2.2, (pcsS [44] (hdTl s).2).map rangeOf⟩
def partOf (s : List UInt8) : List Rl := (pcsS [32, 97, 110, 100, 32] s).map parsedR
def ruleOf (s : List UInt8) : List (List Rl) := (pcsS [32, 111, 114, 32] s).map partOf
theorem cut_len (s sep : List UInt8) : (Lib.cut s sep).1.length ≤ s.length ∧ (Lib.cut s sep).2.1.length ≤ s.length := by
  unfold Lib.cut
  split
  · exact ⟨by rw [List.length_take]; omega, by rw [List.length_drop]; omega⟩
  · exact ⟨Nat.le_refl _, Nat.zero_le _⟩
theorem hdTl_len (s : List UInt8) : (hdTl s).1.length ≤ s.length ∧ (hdTl s).2.length ≤ s.length := by
  unfold hdTl
  split
  · exact cut_len s _
  · exact cut_len s _
theorem parsed_len (s : List UInt8) : (parsedR s).rng.length ≤ s.length + 1 := by
  have h1 := pcs_count (sep := [44]) (by decide) _ (hdTl s).2 (Nat.le_refl _)
  have h2 := (hdTl_len s).2
  show ((pcsS [44] (hdTl s).2).map rangeOf).length ≤ _
  rw [List.length_map]; omega
theorem part_len (s : List UInt8) : (partOf s).length ≤ s.length + 1 ∧ ∀ r ∈ partOf s, r.rng.length ≤ s.length + 1 := by
  refine ⟨by unfold partOf; rw [List.length_map]; exact pcs_count (by decide) _ s (Nat.le_refl _), fun r hr => ?_⟩
  obtain ⟨x, hx, rfl⟩ := List.mem_map.1 hr
  have h1 := pcs_len (by decide) _ s (Nat.le_refl _) x hx
  have h2 := parsed_len x
  omega
theorem rule_len (s : List UInt8) : (ruleOf s).length ≤ s.length + 1 ∧ ∀ p ∈ ruleOf s, p.length ≤ s.length + 1 ∧ ∀ r ∈ p, r.rng.length ≤ s.length + 1 := by
  refine ⟨by unfold ruleOf; rw [List.length_map]; exact pcs_count (by decide) _ s (Nat.le_refl _), fun p hp => ?_⟩
  obtain ⟨x, hx, rfl⟩ := List.mem_map.1 hp
  have h1 := pcs_len (by decide) _ s (Nat.le_refl _) x hx
  have h2 := part_len x
  exact ⟨by omega, fun r hr => by have := h2.2 r hr; omega⟩

/- ## Faults -/
def countR (R : List (List Rl)) : Nat := (R.map List.length).sum
def partOk (p : List Rl) : Bool := !p.isEmpty && p.all fineR
def checkR (R : List (List Rl)) : Int := if R.isEmpty || !(R.all partOk) then 3 else if 20 < countR R then 4 else 0
def errR (n : Int) : Value := if n = 0 then .nilIface else .iface 43 (.int .i64 n)
theorem checkR_zero {R : List (List Rl)} (h : checkR R = 0) : R ≠ [] ∧ (∀ p ∈ R, p ≠ [] ∧ ∀ r ∈ p, fineR r = true) ∧ countR R ≤ 20 := by
  unfold checkR at h
  split at h
  · exact absurd h (by decide)
  · rename_i h1
    split at h
    · exact absurd h (by decide)
    · rename_i h2
      simp only [Bool.or_eq_true, not_or, Bool.not_eq_true', Bool.not_eq_true, Bool.not_eq_false'] at h1
      obtain ⟨h3, h4⟩ := h1
      refine ⟨by rintro rfl; simp at h3, fun p hp => ?_, by omega⟩
      have h5 : R.all partOk = true := by simpa using h4
      have h6 := List.all_eq_true.1 h5 p hp
      unfold partOk at h6
      simp only [Bool.and_eq_true, Bool.not_eq_true', List.isEmpty_eq_false_iff, List.all_eq_true] at h6
      exact h6

/- ## Being so -/
structure OpV where
  i : Int
  v : Int
  w : Int
  f : Int
  t : Int
def valR (o : OpV) (c : UInt8) : Int := if c = 110 ∨ c = 105 then o.i else if c = 118 then o.v else if c = 119 then o.w else if c = 102 then o.f else if c = 116 then o.t else 0
def xR (o : OpV) (r : Rl) : Int := if r.mod = 0 then valR o r.op else Int.tmod (valR o r.op) r.mod
def inR (x : Int) (p : Int × Int) : Bool := decide (p.1 ≤ x) && decide (x ≤ p.2)
def hold1 (o : OpV) (r : Rl) : Bool := (r.rng.any (inR (xR o r)) && (r.op != 110 || o.t == 0)) != r.neg
def holdP (o : OpV) (p : List Rl) : Bool := !(p.any fun r => !hold1 o r)
def holdR (o : OpV) (R : List (List Rl)) : Bool := R.any (holdP o)

/- ## How long a text is -/
theorem join_le {α : Type} (T : α → List UInt8) (sep : List UInt8) (B : Nat) : ∀ (l : List α), (∀ x ∈ l, (T x).length ≤ B) → (joinT T l sep).length ≤ l.length * (B + sep.length)
  | [], _ => by unfold joinT; simp [Lib.join]
  | a :: l, h => by
    have hs : ∀ (l : List α), (∀ x ∈ l, (T x).length ≤ B) → Lib.lens (l.map T) ≤ l.length * B := by
      intro l
      induction l with
      | nil => intro _; simp [Lib.lens]
      | cons a l ih =>
        intro h
        have h1 := ih fun x hx => h x (List.mem_cons_of_mem _ hx)
        have h2 := h a (List.mem_cons_self ..)
        unfold Lib.lens at h1 ⊢
        rw [List.map_cons, List.map_cons, List.sum_cons, List.length_cons, Nat.add_mul, Nat.one_mul]
        omega
    have h1 := hs (a :: l) h
    unfold joinT
    rw [List.map_cons, Lib.join_length, ← List.map_cons, List.length_map, List.length_cons, Nat.mul_add]
    rw [List.length_cons] at h1
    have : sep.length * l.length ≤ (l.length + 1) * sep.length := by rw [Nat.mul_comm]; exact Nat.mul_le_mul_right _ (by omega)
    omega
theorem join_sum {α : Type} (T : α → List UInt8) (sep : List UInt8) (f : α → Nat) (C : Nat) : ∀ (l : List α), (∀ x ∈ l, (T x).length + sep.length ≤ f x * C) → (joinT T l sep).length ≤ (l.map f).sum * C
  | [], _ => by unfold joinT; simp [Lib.join]
  | a :: l, h => by
    have hs : ∀ (l : List α), (∀ x ∈ l, (T x).length + sep.length ≤ f x * C) → Lib.lens (l.map T) + sep.length * l.length ≤ (l.map f).sum * C := by
      intro l
      induction l with
      | nil => intro _; simp [Lib.lens]
      | cons a l ih =>
        intro h
        have h1 := ih fun x hx => h x (List.mem_cons_of_mem _ hx)
        have h2 := h a (List.mem_cons_self ..)
        unfold Lib.lens at h1 ⊢
        rw [List.map_cons, List.map_cons, List.sum_cons, List.length_cons, List.map_cons, List.sum_cons, Nat.add_mul, Nat.mul_add, Nat.mul_one]
        omega
    have h1 := hs (a :: l) h
    unfold joinT
    rw [List.map_cons, Lib.join_length, ← List.map_cons, List.length_map]
    rw [List.length_cons, Nat.mul_add, Nat.mul_one] at h1
    omega
theorem ranged_len {p : Int × Int} (h : rngOk p = true) : (rangedR p).length ≤ 44 := by
  have hp : 0 ≤ p.1 ∧ p.1 ≤ p.2 ∧ p.2 ≤ 1000000 := by
    unfold rngOk at h
    simp at h
    omega
  have h1 := itoa_small p.1 hp.1 (by omega)
  have h2 := itoa_small p.2 (by omega) hp.2.2
  unfold rangedR
  split
  · omega
  · simp only [List.length_append, List.length_cons, List.length_nil]; omega
theorem related_len {r : Rl} (h : fineR r = true) {M : Nat} (hM : r.rng.length ≤ M) : (relatedR r).length ≤ 29 + M * 45 := by
  obtain ⟨_, h2, h3, _, h5⟩ := fineR_all h
  have h1 := join_le rangedR [44] 44 r.rng fun p hp => ranged_len (h5 p hp)
  have h4 := itoa_small r.mod h2 h3
  have h6 : r.rng.length * (44 + 1) ≤ M * 45 := Nat.mul_le_mul_right _ hM
  have h7 : (headR r).length ≤ 29 := by
    unfold headR
    rw [List.length_cons, List.length_append]
    have a1 : (if r.mod = 0 then ([] : List UInt8) else [32, 37, 32] ++ Lib.itoa r.mod).length ≤ 24 := by split <;> simp; omega
    have a2 : (if r.neg = true then ([32, 33, 61, 32] : List UInt8) else [32, 61, 32]).length ≤ 4 := by split <;> simp
    omega
  unfold relatedR
  rw [List.length_append]
  simp only [List.length_cons, List.length_nil] at h1
  omega
/-- no text is too long, where nothing is a fault -/
theorem text_len {R : List (List Rl)} (h : checkR R = 0) (hM : ∀ p ∈ R, ∀ r ∈ p, r.rng.length ≤ 1049000) : (textR R).length ≤ 1000000000 := by
  obtain ⟨_, h1, h2⟩ := checkR_zero h
  have h3 : (textR R).length ≤ (R.map List.length).sum * 47205038 := by
    refine join_sum partR _ List.length _ R fun p hp => ?_
    have h4 : (partR p).length ≤ p.length * (29 + 1049000 * 45 + 5) := join_le relatedR [32, 97, 110, 100, 32] _ p fun r hr => related_len ((h1 p hp).2 r hr) (hM p hp r hr)
    have h5 : 0 < p.length := List.length_pos_iff.2 (h1 p hp).1
    show (partR p).length + 4 ≤ _
    omega
  unfold countR at h2
  omega
end Go.Proofs.YtokjbdefkfdhhaaDoor
