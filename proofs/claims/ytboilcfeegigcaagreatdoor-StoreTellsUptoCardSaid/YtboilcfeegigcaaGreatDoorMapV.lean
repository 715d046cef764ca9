/- Maps whose elements are maps, or pointers: how these read. -/
import Derived.Test.YtboilcfeegigcaaGreatDoorStoreP
import Derived.Maps.Own
namespace Go.Proofs.YtboilcfeegigcaaGreatDoor
open Go.RowKit Go.Maps
open Go.WideElems (Fit rd rg pl rd_val rg_of)

theorem mem_insert {H : Type} {x p : Lit × DataW H} : ∀ {l : List (Lit × DataW H)}, p ∈ DataW.insert x l ↔ p = x ∨ p ∈ l
  | [] => by simp [DataW.insert]
  | y :: r => by
    unfold DataW.insert
    split
    · simp
    · simp only [List.mem_cons, mem_insert (l := r)]
      constructor
      · rintro (h | h | h)
        · exact .inr (.inl h)
        · exact .inl h
        · exact .inr (.inr h)
      · rintro (h | h | h)
        · exact .inr (.inl h)
        · exact .inl h
        · exact .inr (.inr h)
theorem mem_sorted {H : Type} {p : Lit × DataW H} : ∀ {l : List (Lit × DataW H)}, p ∈ l.foldr DataW.insert [] ↔ p ∈ l
  | [] => by simp
  | y :: r => by rw [List.foldr_cons, mem_insert, mem_sorted (l := r), List.mem_cons]
/-- A map reads by another reader too that reads what lies in it. -/
theorem owns_sub {H : Type} {P : Program} {k : TypeId} {R R' : Value → Option (DataW H × List MemPlace)} {w : World} {b n : Nat} {es : List (Lit × DataW H)} (h : w.ownsMap P k R b n (.map es))
    (hD : ∀ p ∈ es, ∀ v ps, R v = some (p.2, ps) → R' v = some (p.2, ps)) : w.ownsMap P k R' b n (.map es) := by
  obtain ⟨arr, clock, hb, F, hs, hD0⟩ := h
  injection hD0 with hD0
  have hst : ∀ x ∈ arr.toList, ∀ z, R x.val = some z → R' x.val = some z := fun x hx z hz => by
    obtain ⟨y, hy⟩ := F.reads x hx
    obtain ⟨z', h1, h2⟩ := rd_val hy
    rw [hz] at h1
    injection h1 with h1
    subst h1
    have hm : y ∈ es := by
      rw [hD0]
      exact mem_sorted.2 (List.mem_map.2 ⟨x, hx, rg_of hy⟩)
    have h3 := hD y hm x.val z.2 (by rw [hz, h2])
    rw [h2] at h3
    exact h3
  obtain ⟨F1, hmap, _⟩ := F.stay hst
  exact ⟨arr, clock, hb, F1, hs, by rw [hmap, hD0]⟩

/- ## Elements that are maps: nil, or one at a block, told by a text of that length -/
def adr (b : Nat) : ByteArray := str (List.replicate (b + 1) 0)
theorem adr_size (b : Nat) : (adr b).size = b + 1 := by unfold adr; rw [str_size, List.length_replicate]
theorem bts_adr (b : Nat) : bts (adr b) = List.replicate (b + 1) 0 := by unfold adr; rw [bts_str]
theorem adr_inj {a b : Nat} (h : adr a = adr b) : a = b := by
  have := congrArg ByteArray.size h
  rw [adr_size, adr_size] at this; omega
def mapR (v : Value) : Option (DataW Unit × List MemPlace) := match v with
  | .map none => some (.lit (.string []), [])
  | .map (some b) => some (.lit (.string (List.replicate (b + 1) 0)), [])
  | _ => none
theorem mapR_some (b : Nat) : mapR (.map (some b)) = some (.lit (.string (bts (adr b))), []) := by rw [bts_adr]; rfl
theorem mapR_inv {v : Value} {l : List UInt8} {ps : List MemPlace} (h : mapR v = some (.lit (.string l), ps)) : (l = [] ∧ v = .map none) ∨ ∃ b, l = bts (adr b) ∧ v = .map (some b) := by
  unfold mapR at h
  split at h
  · injection h with h; injection h with h1 h2
    injection h1 with h1; injection h1 with h1
    exact .inl ⟨h1.symm, rfl⟩
  · rename_i b
    injection h with h; injection h with h1 h2
    injection h1 with h1; injection h1 with h1
    exact .inr ⟨b, by rw [bts_adr]; exact h1.symm, rfl⟩
  · cases h
/- ## Elements that are pointers: nil, or at a block's beginning -/
def ptrR (v : Value) : Option (DataW Nat × List MemPlace) := match v with
  | .pointer none => some (.nil, [])
  | .pointer (some ⟨a, 0, none⟩) => some (.held a, [])
  | _ => none
theorem ptrR_held {v : Value} {a : Nat} {ps : List MemPlace} (h : ptrR v = some (.held a, ps)) : v = .pointer (some ⟨a, 0, none⟩) := by
  unfold ptrR at h
  split at h
  · injection h with h; injection h with h1 h2; cases h1
  · injection h with h; injection h with h1 h2
    injection h1 with h1; rw [h1]
  · cases h
theorem ptrR_nil {v : Value} {ps : List MemPlace} (h : ptrR v = some (.nil, ps)) : v = .pointer none := by
  unfold ptrR at h
  split at h
  · rfl
  · injection h with h; injection h with h1 h2; cases h1
  · cases h
/-- .. of those blocks alone -/
def ptrIn (L : List Nat) (v : Value) : Option (DataW Nat × List MemPlace) := match v with
  | .pointer (some ⟨a, 0, none⟩) => if a ∈ L then some (.held a, []) else none
  | _ => none
theorem ptrIn_inv {L : List Nat} {v : Value} {d : DataW Nat} {ps : List MemPlace} (h : ptrIn L v = some (d, ps)) : ∃ a, a ∈ L ∧ v = .pointer (some ⟨a, 0, none⟩) ∧ d = .held a := by
  unfold ptrIn at h
  split at h
  · rename_i a
    split at h
    · rename_i ha
      injection h with h; injection h with h1 h2
      exact ⟨a, ha, rfl, h1.symm⟩
    · cases h
  · cases h
theorem ptrR_in {L : List Nat} {v : Value} {d : DataW Nat} {ps : List MemPlace} {a : Nat} (ha : a ∈ L) (hd : d = .held a) (h : ptrR v = some (d, ps)) : ptrIn L v = some (d, ps) := by
  subst hd
  have hps : ps = [] := by
    unfold ptrR at h
    split at h
    · injection h with h; injection h with h1 h2; cases h1
    · injection h with h; injection h with h1 h2; exact h2.symm
    · cases h
  rw [ptrR_held h, hps]
  unfold ptrIn
  simp [ha]
theorem ptrIn_R {L : List Nat} {v : Value} {z : DataW Nat × List MemPlace} (h : ptrIn L v = some z) : ptrR v = some z := by
  unfold ptrIn at h
  split at h
  · split at h
    · exact h
    · cases h
  · cases h
end Go.Proofs.YtboilcfeegigcaaGreatDoor
