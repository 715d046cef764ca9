/- The plain law of the clock cache: what puts and gets come to, no program in sight. -/
import Derived.Test.YtolgkepkdidjcaaDoorClockD
namespace Go.Proofs.YtolgkepkdidjcaaDoor
open Go.RowKit

structure PutR where
  ps : List Plc
  hand : Nat
  gone : Option ByteArray
def keyAt (ps : List Plc) (h : Nat) : ByteArray := match ps[h]? with | some p => p.key | none => ByteArray.empty
def putR (ps : List Plc) (hand : Nat) (k v : ByteArray) : PutR :=
  match spot ps k with
  | some i => ⟨ps.set i (fresh k v), hand, none⟩
  | none => ⟨(sweep (marks ps) ps hand).1.set (sweep (marks ps) ps hand).2 (fresh k v), ((sweep (marks ps) ps hand).2 + 1) % ps.length, some (keyAt (sweep (marks ps) ps hand).1 (sweep (marks ps) ps hand).2)⟩
def getPs (ps : List Plc) (k : ByteArray) : List Plc := match ps.findIdx? (hit k) with | some i => (match ps[i]? with | some p => ps.set i (PlcMark p true) | none => ps) | none => ps
def getV (ps : List Plc) (k : ByteArray) : Option ByteArray := match ps.findIdx? (hit k) with | some i => (ps[i]?).map (·.val) | none => none

theorem findIdx_lt {α : Type} {l : List α} {p : α → Bool} {i : Nat} (h : l.findIdx? p = some i) : i < l.length := by
  rw [List.findIdx?_eq_some_iff_getElem] at h; exact h.1
theorem findIdx_yes {α : Type} {l : List α} {p : α → Bool} {i : Nat} (h : l.findIdx? p = some i) : p (l[i]'(findIdx_lt h)) = true := by
  rw [List.findIdx?_eq_some_iff_getElem] at h; exact h.2.1
theorem spot_lt {ps : List Plc} {k : ByteArray} {i : Nat} (h : spot ps k = some i) : i < ps.length := by
  unfold spot at h
  rcases Option.or_eq_some_iff.1 h with h | ⟨_, h⟩ <;> exact findIdx_lt h

theorem put_any (bc bp : Nat) (ps : List Plc) (hand : Nat) (k v : ByteArray) (w : World) (hc : Cach w bc bp ps hand) (hn : ps.length ≤ 50) (hh : hand < ps.length) :
    Calls Tryd.prog 9 #[.pointer (some ⟨bc, 0, none⟩), .string k, .string v] w fun e w' => e = .returned (.tuple #[.string ((putR ps hand k v).gone.getD ByteArray.empty), .bool (putR ps hand k v).gone.isSome]) ∧ Cach w' bc bp (putR ps hand k v).ps (putR ps hand k v).hand ∧ Fr w w' (CS bc bp) := by
  unfold putR
  cases hs : spot ps k with
  | some i => exact put_at bc bp ps hand k v w hc hn i (spot_lt hs) hs
  | none =>
    have hl := sweep_len (marks ps) ps hand
    have hm := sweep_hand (marks ps) ps hand hh
    have h := put_full bc bp ps hand k v w hc hn hh hs (sweep (marks ps) ps hand).1 (sweep (marks ps) ps hand).2 rfl (by rw [hl]; exact hm) hl
    have e : keyAt (sweep (marks ps) ps hand).1 (sweep (marks ps) ps hand).2 = ((sweep (marks ps) ps hand).1[(sweep (marks ps) ps hand).2]'(by rw [hl]; exact hm)).key := by
      unfold keyAt; rw [List.getElem?_eq_getElem (by rw [hl]; exact hm)]
    simp only [Option.getD_some, Option.isSome_some]
    rw [e]
    exact h
theorem get_any (bc bp : Nat) (ps : List Plc) (hand : Nat) (k : ByteArray) (w : World) (hc : Cach w bc bp ps hand) (hn : ps.length ≤ 50) :
    Calls Tryd.prog 11 #[.pointer (some ⟨bc, 0, none⟩), .string k] w fun e w' => e = .returned (.tuple #[.string ((getV ps k).getD ByteArray.empty), .bool (getV ps k).isSome]) ∧ Cach w' bc bp (getPs ps k) hand ∧ Fr w w' (CS bc bp) := by
  unfold getV getPs
  cases hf : ps.findIdx? (hit k) with
  | some i =>
    have hl := findIdx_lt hf
    simp only [List.getElem?_eq_getElem hl, Option.map_some, Option.getD_some, Option.isSome_some]
    exact get_yes bc bp ps hand k w hc hn i hl hf
  | none => exact (get_no bc bp ps hand k w hc hn hf).mono fun e w' ⟨h1, h2⟩ => ⟨h1, hc.below h2 hc.lt.1 hc.lt.2, Fr.of_below h2 _⟩

/- ## Only marks turn -/
def core (p : Plc) : ByteArray × ByteArray × Bool := (p.key, p.val, p.used)
theorem core_unmark (ps : List Plc) (h : Nat) : (unmark ps h).map core = ps.map core := by
  unfold unmark
  split
  · rename_i p hp
    rw [List.map_set]
    apply List.ext_getElem?
    intro i
    rw [List.getElem?_set]
    split
    · rename_i e; subst e
      have hl : h < (ps.map core).length := by rw [List.length_map]; exact (List.getElem?_eq_some_iff.1 hp).1
      rw [if_pos hl, List.getElem?_map, hp]; rfl
    · rfl
  · rfl
theorem core_sweep (f : Nat) : ∀ ps h, (sweep f ps h).1.map core = ps.map core := by
  induction f with
  | zero => intro ps h; rfl
  | succ f ih => intro ps h; unfold sweep; split
                 · rw [ih, core_unmark]
                 · rfl
theorem core_get (ps : List Plc) (k : ByteArray) : (getPs ps k).map core = ps.map core := by
  unfold getPs
  split
  · rename_i i hi
    split
    · rename_i p hp
      rw [List.map_set]
      apply List.ext_getElem?
      intro j
      rw [List.getElem?_set]
      split
      · rename_i e; subst e
        have hl : i < (ps.map core).length := by rw [List.length_map]; exact findIdx_lt hi
        rw [if_pos hl, List.getElem?_map, hp]; rfl
      · rfl
    · rfl
  · rfl
theorem len_core {ps qs : List Plc} (h : qs.map core = ps.map core) : qs.length = ps.length := by have := congrArg List.length h; simpa using this
theorem at_core {ps qs : List Plc} (h : qs.map core = ps.map core) (i : Nat) (hi : i < ps.length) : core (qs[i]'(by rw [len_core h]; exact hi)) = core ps[i] := by
  have h1 : (qs.map core)[i]? = (ps.map core)[i]? := by rw [h]
  rw [List.getElem?_map, List.getElem?_map, List.getElem?_eq_getElem hi, List.getElem?_eq_getElem (by rw [len_core h]; exact hi)] at h1
  simpa using h1
theorem keysOf_core (ps : List Plc) : keysOf ps = ((ps.map core).filter (·.2.2)).map (·.1) := by
  unfold keysOf
  rw [List.filter_map, List.map_map]; rfl
theorem mem_keysOf (ps : List Plc) (x : ByteArray) : x ∈ keysOf ps ↔ ∃ (i : Nat) (h : i < ps.length), ps[i].used = true ∧ ps[i].key = x := by
  unfold keysOf
  rw [List.mem_map]
  constructor
  · rintro ⟨p, hp, rfl⟩
    rw [List.mem_filter] at hp
    obtain ⟨i, h, rfl⟩ := List.getElem_of_mem hp.1
    exact ⟨i, h, hp.2, rfl⟩
  · rintro ⟨i, h, hu, rfl⟩
    exact ⟨_, List.mem_filter.2 ⟨List.getElem_mem h, hu⟩, rfl⟩
theorem any_eqs (l : List ByteArray) (s : ByteArray) : l.any (eqs · s) = true ↔ s ∈ l := by
  rw [List.any_eq_true]
  constructor
  · rintro ⟨x, hx, h⟩; rw [eqs_iff] at h; subst h; exact hx
  · intro h; exact ⟨s, h, eqs_self s⟩
theorem any_eqs_false (l : List ByteArray) (s : ByteArray) : l.any (eqs · s) = false ↔ s ∉ l := by
  rw [← Bool.not_eq_true, any_eqs]

theorem hit_iff (k : ByteArray) (p : Plc) : hit k p = true ↔ p.used = true ∧ p.key = k := by
  unfold hit
  rw [Bool.and_eq_true]
  exact and_congr_right fun _ => eqs_iff p.key k
theorem find_none (ps : List Plc) (k : ByteArray) : ps.findIdx? (hit k) = none ↔ k ∉ keysOf ps := by
  rw [List.findIdx?_eq_none_iff, mem_keysOf]
  constructor
  · rintro h ⟨i, hi, hu, hk⟩
    have := h _ (List.getElem_mem hi)
    rw [(hit_iff k _).2 ⟨hu, hk⟩] at this
    cases this
  · intro h x hx
    obtain ⟨i, hi, rfl⟩ := List.getElem_of_mem hx
    rw [← Bool.not_eq_true, hit_iff]
    exact fun ⟨a, b⟩ => h ⟨i, hi, a, b⟩
theorem idle_none (ps : List Plc) : ps.findIdx? idle = none ↔ ∀ (i : Nat) (h : i < ps.length), ps[i].used = true := by
  rw [List.findIdx?_eq_none_iff]
  constructor
  · intro h i hi
    have := h _ (List.getElem_mem hi)
    simpa [idle] using this
  · intro h x hx
    obtain ⟨i, hi, rfl⟩ := List.getElem_of_mem hx
    simpa [idle] using h i hi
theorem full_iff (ps : List Plc) : (keysOf ps).length = ps.length ↔ ps.findIdx? idle = none := by
  unfold keysOf
  rw [List.length_map, List.length_filter_eq_length_iff, idle_none]
  constructor
  · intro h i hi; exact h _ (List.getElem_mem hi)
  · intro h x hx
    obtain ⟨i, hi, rfl⟩ := List.getElem_of_mem hx
    exact h i hi
theorem spot_none (ps : List Plc) (k : ByteArray) : spot ps k = none ↔ k ∉ keysOf ps ∧ (keysOf ps).length = ps.length := by
  unfold spot
  rw [Option.or_eq_none_iff, find_none, full_iff]
theorem gone_some (ps : List Plc) (hand : Nat) (k v : ByteArray) : (putR ps hand k v).gone.isSome = (decide ((keysOf ps).length = ps.length) && !((keysOf ps).any (eqs · k))) := by
  unfold putR
  cases hs : spot ps k with
  | some i =>
    have : ¬ (k ∉ keysOf ps ∧ (keysOf ps).length = ps.length) := by rw [← spot_none, hs]; simp
    by_cases hk : k ∈ keysOf ps
    · rw [(any_eqs _ _).2 hk]; simp
    · have : ¬ (keysOf ps).length = ps.length := fun h => this ⟨hk, h⟩
      simp [this]
  | none =>
    obtain ⟨h1, h2⟩ := (spot_none ps k).1 hs
    rw [(any_eqs_false _ _).2 h1, decide_eq_true h2]
    rfl

/- ## No key is there twice -/
def Dist (ps : List Plc) : Prop := ∀ (i j : Nat) (hi : i < ps.length) (hj : j < ps.length), ps[i].used = true → ps[j].used = true → ps[i].key = ps[j].key → i = j
theorem Dist.core {ps qs : List Plc} (h : Dist ps) (hc : qs.map core = ps.map core) : Dist qs := by
  intro i j hi hj h1 h2 h3
  have hl := len_core hc
  have ei := at_core hc i (by omega)
  have ej := at_core hc j (by omega)
  simp only [Proofs.YtolgkepkdidjcaaDoor.core, Prod.mk.injEq] at ei ej
  exact h i j (by omega) (by omega) (by rw [← ei.2.2]; exact h1) (by rw [← ej.2.2]; exact h2) (by rw [← ei.1, ← ej.1]; exact h3)
theorem Dist.set {ps : List Plc} (h : Dist ps) (i : Nat) (hi : i < ps.length) (p : Plc) (hp : ∀ (j : Nat) (hj : j < ps.length), ps[j].used = true → ps[j].key = p.key → j = i) : Dist (ps.set i p) := by
  intro a b ha hb h1 h2 h3
  rw [List.length_set] at ha hb
  rw [List.getElem_set] at h1 h3
  rw [List.getElem_set] at h2
  rw [List.getElem_set (j := b)] at h3
  split at h1
  · split at h2
    · omega
    · rename_i ea eb
      rw [if_pos ea, if_neg eb] at h3
      rw [hp b hb h2 h3.symm] at eb
      exact absurd rfl eb
  · split at h2
    · rename_i ea eb
      rw [if_neg ea, if_pos eb] at h3
      rw [hp a ha h1 h3] at ea
      exact absurd rfl ea
    · rename_i ea eb
      rw [if_neg ea, if_neg eb] at h3
      exact h a b ha hb h1 h2 h3
theorem Dist.zero (n : Nat) : Dist (List.replicate n Plc.zero) := by
  intro i j hi hj h1
  rw [List.getElem_replicate] at h1
  cases h1
theorem putR_len (ps : List Plc) (hand : Nat) (k v : ByteArray) : (putR ps hand k v).ps.length = ps.length := by
  unfold putR
  split
  · simp
  · simp [sweep_len]
theorem putR_hand (ps : List Plc) (hand : Nat) (k v : ByteArray) (hh : hand < ps.length) : (putR ps hand k v).hand < ps.length := by
  unfold putR
  split
  · exact hh
  · exact Nat.mod_lt _ (by omega)
theorem Dist.put {ps : List Plc} (h : Dist ps) (hand : Nat) (k v : ByteArray) (hh : hand < ps.length) : Dist (putR ps hand k v).ps := by
  unfold putR
  cases hs : spot ps k with
  | some i =>
    refine h.set i (spot_lt hs) _ fun j hj hu hk => ?_
    have hkj : hit k ps[j] = true := (hit_iff k _).2 ⟨hu, hk⟩
    unfold spot at hs
    cases hf : ps.findIdx? (hit k) with
    | none =>
      rw [List.findIdx?_eq_none_iff] at hf
      rw [hf _ (List.getElem_mem hj)] at hkj
      cases hkj
    | some i' =>
      rw [hf, Option.some_or, Option.some_inj] at hs
      subst hs
      obtain ⟨a, b⟩ := (hit_iff k _).1 (findIdx_yes hf)
      exact h j i' hj (findIdx_lt hf) hu a (hk.trans b.symm)
  | none =>
    obtain ⟨h1, _⟩ := (spot_none ps k).1 hs
    have hcs := core_sweep (marks ps) ps hand
    refine (h.core hcs).set _ (by rw [sweep_len]; exact sweep_hand _ _ _ hh) _ fun j hj hu hk => ?_
    exfalso
    refine h1 ?_
    have : k ∈ keysOf (sweep (marks ps) ps hand).1 := (mem_keysOf _ _).2 ⟨j, hj, hu, hk⟩
    rwa [keysOf_core, hcs, ← keysOf_core] at this
theorem Dist.nodup {ps : List Plc} (h : Dist ps) : (keysOf ps).Nodup := by
  unfold keysOf
  induction ps with
  | nil => simp
  | cons p r ih =>
    have hr : Dist r := fun i j hi hj h1 h2 h3 => by
      have := h (i + 1) (j + 1) (by simpa using hi) (by simpa using hj) (by simpa using h1) (by simpa using h2) (by simpa using h3)
      omega
    rw [List.filter_cons]
    split
    · rename_i hu
      rw [List.map_cons, List.nodup_cons]
      refine ⟨?_, ih hr⟩
      intro hm
      have := (mem_keysOf r p.key).1 hm
      obtain ⟨j, hj, hu2, hk⟩ := this
      have := h 0 (j + 1) (by simp) (by simpa using hj) (by simpa using hu) (by simpa using hu2) (by simpa using hk.symm)
      omega
    · exact ih hr

/-- Behind a put the key is there, with its value. -/
theorem put_there {ps : List Plc} (h : Dist ps) (hand : Nat) (k v : ByteArray) (hh : hand < ps.length) : getV (putR ps hand k v).ps k = some v := by
  have hd := h.put hand k v hh
  have key : ∀ (i : Nat) (hi : i < (putR ps hand k v).ps.length), (putR ps hand k v).ps[i] = fresh k v → getV (putR ps hand k v).ps k = some v := by
    intro i hi e
    unfold getV
    cases hf : (putR ps hand k v).ps.findIdx? (hit k) with
    | none =>
      rw [List.findIdx?_eq_none_iff] at hf
      have := hf _ (List.getElem_mem hi)
      rw [e] at this
      rw [(hit_iff k _).2 ⟨rfl, rfl⟩] at this
      cases this
    | some j =>
      obtain ⟨a, b⟩ := (hit_iff k _).1 (findIdx_yes hf)
      have := hd j i (findIdx_lt hf) hi a (by rw [e]; rfl) (by rw [e]; exact b)
      subst this
      simp only [List.getElem?_eq_getElem hi, Option.map_some, e]
      rfl
  cases hs : spot ps k with
  | some i =>
    have e : (putR ps hand k v).ps = ps.set i (fresh k v) := by unfold putR; rw [hs]
    have hi := spot_lt hs
    exact key i (by rw [putR_len]; exact hi) (by simp [e])
  | none =>
    have e : (putR ps hand k v).ps = (sweep (marks ps) ps hand).1.set (sweep (marks ps) ps hand).2 (fresh k v) := by unfold putR; rw [hs]
    exact key (sweep (marks ps) ps hand).2 (by rw [putR_len]; exact sweep_hand _ _ _ hh) (by simp [e])
/-- What goes was there, and is there no more. -/
theorem put_gone {ps : List Plc} (h : Dist ps) (hand : Nat) (k v : ByteArray) (hh : hand < ps.length) {g : ByteArray} (hg : (putR ps hand k v).gone = some g) : g ∈ keysOf ps ∧ g ∉ keysOf (putR ps hand k v).ps := by
  have hd := h.put hand k v hh
  cases hs : spot ps k with
  | some i => unfold putR at hg; rw [hs] at hg; cases hg
  | none =>
    obtain ⟨h1, h2⟩ := (spot_none ps k).1 hs
    have hall := (idle_none ps).1 ((full_iff ps).1 h2)
    have hcs := core_sweep (marks ps) ps hand
    have hl := sweep_len (marks ps) ps hand
    have hm := sweep_hand (marks ps) ps hand hh
    have e : (putR ps hand k v).ps = (sweep (marks ps) ps hand).1.set (sweep (marks ps) ps hand).2 (fresh k v) := by unfold putR; rw [hs]
    have eg : g = ps[(sweep (marks ps) ps hand).2].key := by
      have : (putR ps hand k v).gone = some (keyAt (sweep (marks ps) ps hand).1 (sweep (marks ps) ps hand).2) := by unfold putR; rw [hs]
      rw [this, Option.some_inj] at hg
      rw [← hg]
      unfold keyAt
      rw [List.getElem?_eq_getElem (by rw [hl]; exact hm)]
      have := at_core hcs _ hm
      simp only [core, Prod.mk.injEq] at this
      exact this.1
    have hgm : g ∈ keysOf ps := (mem_keysOf _ _).2 ⟨_, hm, hall _ hm, eg.symm⟩
    refine ⟨hgm, fun hn => ?_⟩
    obtain ⟨j, hj, hu, hk⟩ := (mem_keysOf _ _).1 hn
    simp only [e, List.length_set] at hj
    simp only [e, List.getElem_set] at hk hu
    split at hk
    · have hk' : k = g := hk
      rw [hk'] at h1
      exact h1 hgm
    · rename_i hne
      have hj' : j < ps.length := by omega
      have := at_core hcs j hj'
      simp only [core, Prod.mk.injEq] at this
      rw [this.1] at hk
      exact hne (h _ _ hm hj' (hall _ hm) (hall _ hj') (eg.symm.trans hk.symm))
end Go.Proofs.YtolgkepkdidjcaaDoor
