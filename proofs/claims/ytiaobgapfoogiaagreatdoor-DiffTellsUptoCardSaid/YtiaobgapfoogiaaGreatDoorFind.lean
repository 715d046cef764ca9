/- The walk of package find: In. -/
import Derived.Test.YtiaobgapfoogiaaGreatDoorFindC
import Derived.Test.YtiaobgapfoogiaaGreatDoorOwnTags
import Derived.BigQuiet
import Derived.Deep.QuietTactic
import Derived.Deep.RegionHeld3
set_option linter.unusedSimpArgs false
set_option linter.unusedVariables false
namespace Go.Proofs.YtiaobgapfoogiaaGreatDoor
open Go.RowKit

theorem getD_bun {l : List Bun} {q : Nat} (h : q < l.length) : l.getD q noBun = l[q] := by rw [List.getD_eq_getElem?_getD, List.getElem?_eq_getElem h]; rfl
theorem loadAt_is {l : List Bun} (j : Nat) (hj : j < l.length) : loadAt l j = if bunFault l[j] = 0 then (if (l.take j).any (fun b => eqs b.tag l[j].tag) then 5 else 0) else bunFault l[j] := by
  unfold loadAt; rw [getD_bun hj]
theorem find_load {l : List Bun} (name key : ByteArray) (j : Nat) (hj : j < l.length) (h0 : ∀ q, q < j → loadAt l q = 0) (h : loadAt l j ≠ 0) : findIn l name key = ⟨loadAt l j, 0, ByteArray.empty⟩ := by
  have : loadFault l = loadAt l j := firstN_at _ j h0 h _ hj
  unfold findIn
  rw [this, if_neg h]
theorem find_bare {l : List Bun} (name key : ByteArray) (h0 : ∀ q, q < l.length → loadAt l q = 0) (h : isTag name = false) : findIn l name key = ⟨3, 0, ByteArray.empty⟩ := by
  have : loadFault l = 0 := firstN_zero _ _ h0
  unfold findIn
  rw [if_pos this, h]; rfl
theorem find_chain {l : List Bun} (name key : ByteArray) (h0 : ∀ q, q < l.length → loadAt l q = 0) (h : isTag name = true) {t : Tg} (ht : parseTag name = some t) :
    findIn l name key = match findChain l t key with | some (_, i, s) => ⟨0, i, s⟩ | none => ⟨2, 0, ByteArray.empty⟩ := by
  have : loadFault l = 0 := firstN_zero _ _ h0
  unfold findIn
  rw [if_pos this, if_pos h, ht]
  rfl
theorem tagAt_is {l : List Bun} {c : List Tg} {key : ByteArray} (k : Nat) (hk : k < c.length) : tagAt l c key k = findTag l (tagText c[k]) key := by
  unfold tagAt; rw [List.getElem?_eq_getElem hk]; rfl
theorem hitAt_is {l : List Bun} {nm key : ByteArray} (i : Nat) (hi : i < l.length) : hitAt l nm key i = if eqs l[i].tag nm then (l[i].ents.find? (fun e => eqs e.key key)).map (·.text) else none := by
  unfold hitAt; rw [List.getElem?_eq_getElem hi]; rfl
theorem find_at {l : List Ent} {key : ByteArray} : ∀ (m : Nat) (hm : m < l.length), (∀ q (h : q < l.length), q < m → eqs l[q].key key = false) → eqs l[m].key key = true → l.find? (fun e => eqs e.key key) = some l[m] := by
  induction l with
  | nil => intro m hm; cases hm
  | cons a r ih =>
    intro m hm h0 h1
    cases m with
    | zero => rw [List.find?_cons]; have : eqs a.key key = true := h1; rw [this]; rfl
    | succ m =>
      have ha : eqs a.key key = false := h0 0 (by simp) (by omega)
      rw [List.find?_cons, ha]
      exact ih m (by simpa using hm) (fun q hq hqm => h0 (q + 1) (by simpa using hq) (by omega)) h1
theorem find_no {l : List Ent} {key : ByteArray} (h : ∀ q (h : q < l.length), eqs l[q].key key = false) : l.find? (fun e => eqs e.key key) = none := by
  rw [List.find?_eq_none]
  intro x hx
  obtain ⟨q, hq, rfl⟩ := List.getElem_of_mem hx
  rw [h q hq]; simp
/-- What the search along a chain answers. -/
structure Seeks (l : List Bun) (key : ByteArray) (C : List Tg) (R : Found) : Prop where
  hit : ∀ k (hk : k < C.length), (∀ q, q < k → tagAt l C key q = none) → ∀ i, i < l.length → (∀ q, q < i → hitAt l (tagText C[k]) key q = none) → ∀ s, hitAt l (tagText C[k]) key i = some s → R = ⟨0, i, s⟩
  miss : ∀ k (hk : k < C.length), (∀ q, q < l.length → hitAt l (tagText C[k]) key q = none) → tagAt l C key k = none
  none : (∀ k, k < C.length → tagAt l C key k = none) → R = ⟨2, 0, ByteArray.empty⟩
theorem seeks_chain {l : List Bun} {t : Tg} {key : ByteArray} {R : Found} (hR : R = match findChain l t key with | some (_, i, s) => ⟨0, i, s⟩ | none => ⟨2, 0, ByteArray.empty⟩) : Seeks l key (chainEn t) R := by
  refine ⟨fun k hk h0 i hi h1 s hs => ?_, fun k hk h0 => ?_, fun h => ?_⟩
  · have h2 : tagAt l (chainEn t) key k = some (i, s) := by
      rw [tagAt_is k hk]
      exact firstS_at _ i s h1 hs _ hi
    have h3 : findChain l t key = some (k, i, s) := firstS_at _ k _ h0 h2 _ hk
    rw [hR, h3]
  · rw [tagAt_is k hk]
    exact firstS_none _ _ h0
  · have h3 : findChain l t key = Option.none := firstS_none _ _ h
    rw [hR, h3]
theorem small_en : Small enTg := ⟨by decide +kernel, by decide +kernel, by decide +kernel, by decide +kernel, fun v hv => by cases hv⟩

end Go.Proofs.YtiaobgapfoogiaaGreatDoor
