/- Bundles, plainly: their faults, where a key is; what is nearer counts. No program. -/
import Derived.Test.YtdmjelkjeiinjaaDoorTagR
set_option linter.unusedSimpArgs false
set_option linter.unusedVariables false
namespace Go.Proofs.YtdmjelkjeiinjaaDoor
open Go.RowKit

/- ## The first that is something -/
def firstS {α : Type} (f : Nat → Option α) : Nat → Option (Nat × α)
  | 0 => none
  | n + 1 => match firstS f n with | some r => some r | none => (f n).map (n, ·)
theorem firstS_none {α : Type} (f : Nat → Option α) : ∀ n, (∀ q, q < n → f q = none) → firstS f n = none
  | 0, _ => rfl
  | n + 1, h => by unfold firstS; rw [firstS_none f n fun q hq => h q (by omega), h n (by omega)]; rfl
theorem firstS_at {α : Type} (f : Nat → Option α) (j : Nat) (x : α) (h0 : ∀ q, q < j → f q = none) (hj : f j = some x) : ∀ n, j < n → firstS f n = some (j, x)
  | 0, h => absurd h (by omega)
  | n + 1, h => by
    unfold firstS
    by_cases hn : j < n
    · rw [firstS_at f j x h0 hj n hn]
    · obtain rfl : j = n := by omega
      rw [firstS_none f j h0, hj]; rfl
theorem firstS_some {α : Type} {f : Nat → Option α} : ∀ {n j : Nat} {x : α}, firstS f n = some (j, x) → j < n ∧ (∀ q, q < j → f q = none) ∧ f j = some x
  | 0, _, _, h => by cases h
  | n + 1, j, x, h => by
    unfold firstS at h
    cases hf : firstS f n with
    | some r =>
      rw [hf] at h
      injection h with h; subst h
      have := firstS_some hf
      exact ⟨by omega, this.2⟩
    | none =>
      rw [hf] at h
      simp only [Option.map_eq_some_iff] at h
      obtain ⟨y, hy, he⟩ := h
      injection he with e1 e2
      subst e1; subst e2
      refine ⟨by omega, fun q hq => ?_, hy⟩
      clear hy
      have key : ∀ m, firstS f m = none → ∀ q, q < m → f q = none := by
        intro m
        induction m with
        | zero => intro _ q hq; omega
        | succ m ih =>
          intro h q hq
          unfold firstS at h
          cases hm : firstS f m with
          | some r => rw [hm] at h; cases h
          | none =>
            rw [hm] at h
            by_cases e : q = m
            · subst e; simpa using h
            · exact ih hm q (by omega)
      exact key n hf q hq
theorem firstS_none_iff {α : Type} (f : Nat → Option α) (n : Nat) : firstS f n = none ↔ ∀ q, q < n → f q = none := by
  refine ⟨fun h q hq => ?_, firstS_none f n⟩
  cases hq2 : f q with
  | none => rfl
  | some x =>
    exfalso
    have key : ∀ m, q < m → firstS f m ≠ none := by
      intro m
      induction m with
      | zero => intro h; omega
      | succ m ih =>
        intro hm he
        unfold firstS at he
        cases h1 : firstS f m with
        | some r => rw [h1] at he; cases he
        | none =>
          rw [h1] at he
          by_cases e : q = m
          · subst e; rw [hq2] at he; cases he
          · exact ih (by omega) h1
    exact key n hq h
theorem firstS_congr {α : Type} (f g : Nat → Option α) : ∀ n, (∀ q, q < n → f q = g q) → firstS f n = firstS g n
  | 0, _ => rfl
  | n + 1, h => by unfold firstS; rw [firstS_congr f g n fun q hq => h q (by omega), h n (by omega)]
theorem firstS_more {α : Type} (f : Nat → Option α) (n : Nat) (h : f n = none) : firstS f (n + 1) = firstS f n := by
  rw [firstS, h]
  cases firstS f n <;> rfl

/- ## Bundles -/
structure Ent where
  key : ByteArray
  text : ByteArray
structure Bun where
  tag : ByteArray
  ents : List Ent
def noEnt : Ent := ⟨ByteArray.empty, ByteArray.empty⟩
def noBun : Bun := ⟨ByteArray.empty, []⟩
def Enc.ent : Enc Ent := ⟨2, 32, fun _ _ _ cs e => cs = [.string e.key, .string e.text], fun B e => e.key.size ≤ B ∧ e.text.size ≤ B, fun e => e.key.size + e.text.size⟩
theorem Enc.ent_laws : Enc.ent.Laws := ⟨fun h => by cases h; rfl, fun h _ => h, fun h _ _ => h⟩
def Enc.bun : Enc Bun := ⟨2, 40, fun w lo hi cs b => ∃ v, cs = [.string b.tag, v] ∧ ListOk Enc.ent w lo hi v b.ents, fun B b => b.tag.size ≤ B ∧ Enc.ent.list.fits B b.ents, fun b => b.tag.size + Enc.ent.list.bulk b.ents⟩
theorem Enc.bun_laws : Enc.bun.Laws :=
  ⟨fun ⟨_, h, _⟩ => by cases h; rfl, fun ⟨v, h, k⟩ ha => ⟨v, h, k.keep Enc.ent_laws ha⟩, fun ⟨v, h, k⟩ h1 h2 => ⟨v, h, k.mono Enc.ent_laws h1 h2⟩⟩

def isTag (s : ByteArray) : Bool := match parseTag s with | some t => eqs (tagText t) s | none => false
def isKey (c : UInt8) : Bool := isLow c || (isDig c || (decide (c.toNat = 46) || decide (c.toNat = 95)))
def keyOk (s : ByteArray) : Bool := decide (s.size ≠ 0) && (decide (s.size ≤ 40) && (bts s).all isKey)
def entAt (l : List Ent) (j : Nat) : Int :=
  if keyOk (l.getD j noEnt).key then (if (l.take j).any (fun e => eqs e.key (l.getD j noEnt).key) then 5 else if 2000 < (l.getD j noEnt).text.size then 4 else 0) else 3
def bunFault (b : Bun) : Int := if isTag b.tag then (if 100 < b.ents.length then 4 else firstN (entAt b.ents) b.ents.length) else 3
def loadAt (l : List Bun) (j : Nat) : Int :=
  if bunFault (l.getD j noBun) = 0 then (if (l.take j).any (fun b => eqs b.tag (l.getD j noBun).tag) then 5 else 0) else bunFault (l.getD j noBun)
def loadFault (l : List Bun) : Int := firstN (loadAt l) l.length
def entIdx (l : List Ent) (key : ByteArray) : Option Nat := l.findIdx? (fun e => eqs e.key key)
def hitOf (b : Bun) (nm key : ByteArray) : Option ByteArray := if eqs b.tag nm then (b.ents.find? (fun e => eqs e.key key)).map (·.text) else none
def hitAt (l : List Bun) (nm key : ByteArray) (i : Nat) : Option ByteArray := (l[i]?).bind (hitOf · nm key)
def findTag (l : List Bun) (nm key : ByteArray) : Option (Nat × ByteArray) := firstS (hitAt l nm key) l.length
def tagAt (l : List Bun) (c : List Tg) (key : ByteArray) (k : Nat) : Option (Nat × ByteArray) := (c[k]?).bind fun x => findTag l (tagText x) key
def en : ByteArray := ⟨#[101, 110]⟩
def enTg : Tg := ⟨en, ByteArray.empty, ByteArray.empty, []⟩
def chainEn (t : Tg) : List Tg := chainOf t ++ [enTg]
def findChain (l : List Bun) (t : Tg) (key : ByteArray) : Option (Nat × (Nat × ByteArray)) := firstS (tagAt l (chainEn t) key) (chainEn t).length
structure Found where
  err : Int
  at_ : Nat
  text : ByteArray
def findIn (l : List Bun) (name key : ByteArray) : Found :=
  if loadFault l = 0 then
    (if isTag name then
      match parseTag name with
      | some t => (match findChain l t key with | some (_, i, s) => ⟨0, i, s⟩ | none => ⟨2, 0, ByteArray.empty⟩)
      | none => ⟨3, 0, ByteArray.empty⟩
    else ⟨3, 0, ByteArray.empty⟩)
  else ⟨loadFault l, 0, ByteArray.empty⟩
/-- the text of a key in a bundle of just that tag -/
def textIn (l : List Bun) (nm key : ByteArray) : Option ByteArray := (findTag l nm key).map (·.2)

theorem isTag_some {s : ByteArray} (h : isTag s = true) : ∃ t, parseTag s = some t ∧ tagText t = s := by
  unfold isTag at h
  cases hp : parseTag s with
  | none => rw [hp] at h; cases h
  | some t => rw [hp] at h; exact ⟨t, rfl, (eqs_iff _ _).1 h⟩
theorem parse_fault {s : ByteArray} {t : Tg} (h : parseTag s = some t) : tagFault t = 0 := by
  unfold parseTag at h
  split at h
  · rename_i h1
    injection h with h; subst h
    simpa using (Bool.and_eq_true_iff.1 h1).1
  · cases h
theorem chain_head (t : Tg) : ∃ r, chainOf t = t :: r := by
  cases h : less t with
  | none => exact ⟨[], chainOf_none h⟩
  | some u => exact ⟨chainOf u, chainOf_some h⟩

/- ## What is nearer counts -/
theorem near_own (l : List Bun) (tag key : ByteArray) (own : ByteArray) (he : (findIn l tag key).err = 0) (ho : textIn l tag key = some own) :
    (findIn l tag key).text = own ∧ ∃ b, l[(findIn l tag key).at_]? = some b ∧ b.tag = tag := by
  unfold findIn at he ⊢
  by_cases h1 : loadFault l = 0
  · by_cases h2 : isTag tag = true
    · obtain ⟨t, hp, ht⟩ := isTag_some h2
      obtain ⟨r, hr⟩ := chain_head t
      unfold textIn at ho
      rw [Option.map_eq_some_iff] at ho
      obtain ⟨⟨i, s⟩, hf, rfl⟩ := ho
      have h0 : tagAt l (chainEn t) key 0 = some (i, s) := by
        unfold tagAt chainEn
        rw [hr]
        simp [ht, hf]
      have hc : findChain l t key = some (0, i, s) := by
        unfold findChain
        exact firstS_at _ 0 _ (fun q hq => absurd hq (by omega)) h0 _ (by unfold chainEn; simp)
      simp only [h1, h2, hp, hc, if_true]
      refine ⟨trivial, ?_⟩
      obtain ⟨hi, _, hh⟩ := firstS_some hf
      unfold hitAt at hh
      rw [Option.bind_eq_some_iff] at hh
      obtain ⟨b, hb, hh⟩ := hh
      refine ⟨b, hb, ?_⟩
      unfold hitOf at hh
      split at hh
      · rename_i h; exact (eqs_iff _ _).1 h
      · cases hh
    · simp only [h1, h2, if_true] at he
      cases he
  · simp only [h1, if_false] at he
theorem findTag_more (l : List Bun) (m : Bun) (nm key : ByteArray) (h : m.tag ≠ nm) : findTag (l ++ [m]) nm key = findTag l nm key := by
  unfold findTag
  rw [List.length_append, List.length_singleton, firstS_more]
  · exact firstS_congr _ _ _ fun q hq => by unfold hitAt; rw [List.getElem?_append_left hq]
  · unfold hitAt
    rw [List.getElem?_append_right (Nat.le_refl _), Nat.sub_self]
    simp only [List.getElem?_cons_zero, Option.bind_some]
    unfold hitOf
    rw [if_neg]
    rw [Bool.not_eq_true, eqs_false]
    exact h
theorem near_more (l : List Bun) (m : Bun) (tag key : ByteArray) (h1 : (findIn l tag key).err = 0) (h2 : (findIn (l ++ [m]) tag key).err = 0)
    (hen : m.tag ≠ en) (hno : ∀ t, parseTag tag = some t → ∀ x ∈ chainOf t, tagText x ≠ m.tag) :
    findIn (l ++ [m]) tag key = findIn l tag key := by
  unfold findIn at h1 h2 ⊢
  by_cases g1 : loadFault l = 0
  · by_cases g2 : loadFault (l ++ [m]) = 0
    · by_cases g3 : isTag tag = true
      · obtain ⟨t, hp, ht⟩ := isTag_some g3
        have hc : findChain (l ++ [m]) t key = findChain l t key := by
          unfold findChain
          refine firstS_congr _ _ _ fun k hk => ?_
          unfold tagAt
          cases hx : (chainEn t)[k]? with
          | none => rfl
          | some x =>
            simp only [Option.bind_some]
            refine findTag_more l m _ key ?_
            have hmem := List.mem_of_getElem? hx
            unfold chainEn at hmem
            rcases List.mem_append.1 hmem with h | h
            · exact (hno t hp x h).symm
            · obtain rfl := List.mem_singleton.1 h
              have e : tagText enTg = en := by decide +kernel
              rw [e]; exact hen
        simp only [g1, g2, g3, hp, hc, if_true]
      · simp only [g1, g3, if_true] at h1
        cases h1
    · simp only [g2, if_false] at h2
  · simp only [g1, if_false] at h1
end Go.Proofs.YtdmjelkjeiinjaaDoor
