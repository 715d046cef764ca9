/- ClockSecond: the plain law and the walk. -/
import Derived.Test.YtolgkepkdidjcaaClockL
import Derived.Test.YtolgkepkdidjcaaDigits
namespace Go.Proofs.Ytolgkepkdidjcaa
open Go.RowKit

def kk (i : Nat) : ByteArray := ⟨#[107]⟩ ++ dig i
def vv : ByteArray := ⟨#[118]⟩
def first : ByteArray := ⟨#[102, 105, 114, 115, 116]⟩
def second : ByteArray := ⟨#[115, 101, 99, 111, 110, 100]⟩
theorem kk_inj_fin : ∀ i j : Fin 50, kk i = kk j → i = j := by decide +kernel
theorem kk_inj {i j : Nat} (hi : i < 50) (hj : j < 50) (h : kk i = kk j) : i = j := by
  have := kk_inj_fin ⟨i, hi⟩ ⟨j, hj⟩ h
  simpa using this
theorem kk_first_fin : ∀ i : Fin 50, kk i ≠ first ∧ kk i ≠ second := by decide +kernel
theorem kk_first {i : Nat} (hi : i < 50) : kk i ≠ first ∧ kk i ≠ second := kk_first_fin ⟨i, hi⟩
theorem first_second : first ≠ second := by decide +kernel
theorem dig_size (i : Nat) : (dig i).size ≤ 2 := by
  unfold dig
  split
  · show 1 ≤ 2; decide
  · rw [ByteArray.size_append]; show 2 ≤ 2; decide

def S1 (n j : Nat) (ps : List Plc) : Prop := ps.length = n ∧ ∀ q (h : q < ps.length), ps[q] = if q < j then fresh (kk q) vv else Plc.zero
theorem S1_start (n : Nat) : S1 n 0 (List.replicate n Plc.zero) := ⟨by simp, fun q h => by simp⟩
theorem S1_put {n j : Nat} {ps : List Plc} (h : S1 n j ps) (hj : j < n) (hn : n ≤ 50) (hand : Nat) : S1 n (j + 1) (putR ps hand (kk j) vv).ps ∧ (putR ps hand (kk j) vv).hand = hand := by
  obtain ⟨hl, hp⟩ := h
  have hs : spot ps (kk j) = some j := by
    have h1 : ps.findIdx? (hit (kk j)) = none := by
      rw [find_none, mem_keysOf]
      rintro ⟨q, hq, hu, hk⟩
      rw [hp q hq] at hu hk
      split at hu
      · rename_i hlt
        rw [if_pos hlt] at hk
        have := kk_inj (by omega) (by omega) hk
        omega
      · cases hu
    have h2 : ps.findIdx? idle = some j := by
      refine findIdx_at _ _ j (by omega) ?_ ?_
      · rw [hp j (by omega), if_neg (by omega)]; rfl
      · intro q hq hqj
        rw [hp q hq, if_pos hqj]; rfl
    unfold spot
    rw [h1, h2]; rfl
  unfold putR
  rw [hs]
  refine ⟨⟨by simp [hl], fun q hq => ?_⟩, rfl⟩
  simp only [List.length_set] at hq
  simp only [List.getElem_set]
  split
  · rename_i e; subst e; rw [if_pos (by omega)]
  · rename_i e
    rw [hp q hq]
    by_cases h1 : q < j
    · rw [if_pos h1, if_pos (by omega)]
    · rw [if_neg h1, if_neg (by omega)]

def unm (p : Plc) : Plc := PlcMark p false
theorem unm_unmark (ps : List Plc) (h : Nat) : (unmark ps h).map unm = ps.map unm := by
  unfold unmark
  split
  · rename_i p hp
    rw [List.map_set]
    apply List.ext_getElem?
    intro i
    rw [List.getElem?_set]
    split
    · rename_i e; subst e
      have hl : h < (ps.map unm).length := by rw [List.length_map]; exact (List.getElem?_eq_some_iff.1 hp).1
      rw [if_pos hl, List.getElem?_map, hp]; rfl
    · rfl
  · rfl
theorem markAt_unmark (ps : List Plc) (h q : Nat) : markAt (unmark ps h) q = (markAt ps q && !(q == h)) := by
  unfold markAt unmark
  cases hp : ps[h]? with
  | none =>
    by_cases e : q = h
    · subst e; simp [hp]
    · simp [e]
  | some p =>
    simp only
    rw [List.getElem?_set]
    by_cases e : h = q
    · subst e
      have := (List.getElem?_eq_some_iff.1 hp).1
      simp [this, PlcMark]
    · have e' : ¬ q = h := fun h => e h.symm
      simp [e, e']
/-- all are marked from the hand on, none ahead of it: the hand comes round -/
theorem sweep_all : ∀ (d h : Nat) (ps : List Plc), h + d = ps.length → h < ps.length → (∀ q, q < ps.length → markAt ps q = decide (h ≤ q)) → sweep d ps h = (ps.map unm, 0)
  | 0, h, ps, e, hl, _ => by omega
  | d + 1, h, ps, e, hl, hm => by
    unfold sweep
    rw [hm h hl, decide_eq_true (Nat.le_refl h), if_pos rfl]
    by_cases h1 : h + 1 = ps.length
    · have hd : d = 0 := by omega
      subst hd
      rw [h1, Nat.mod_self]
      unfold sweep
      congr 1
      rw [← unm_unmark ps h]
      symm
      have hid : (unmark ps h).map unm = (unmark ps h).map id := List.map_congr_left ?_
      · rw [hid, List.map_id]
      intro p hp
      obtain ⟨q, hq, rfl⟩ := List.getElem_of_mem hp
      have hq' : q < ps.length := by rwa [unmark_length] at hq
      have := markAt_unmark ps h q
      rw [hm q hq'] at this
      have hf : markAt (unmark ps h) q = false := by
        rw [this]
        by_cases e : q = h
        · subst e; simp
        · have : ¬ h ≤ q := by omega
          simp [this]
      unfold markAt at hf
      rw [List.getElem?_eq_getElem hq] at hf
      unfold unm PlcMark
      cases hx : (unmark ps h)[q] with
      | mk a b c m => rw [hx] at hf; simp only at hf; subst hf; rfl
    · rw [Nat.mod_eq_of_lt (by omega)]
      rw [sweep_all d (h + 1) (unmark ps h) (by rw [unmark_length]; omega) (by rw [unmark_length]; omega) ?_, unm_unmark]
      intro q hq
      rw [unmark_length] at hq
      rw [markAt_unmark, hm q hq]
      by_cases e : q = h
      · subst e; simp
      · have : (q == h) = false := by simp [e]
        rw [this]
        by_cases h2 : h ≤ q
        · rw [decide_eq_true h2, decide_eq_true (by omega)]; rfl
        · rw [decide_eq_false h2, decide_eq_false (by omega)]; rfl
/-- all are marked from the hand on, till one that is not -/
theorem sweep_to : ∀ (d f h : Nat) (ps : List Plc), h + d < ps.length → d ≤ f → (∀ q, h ≤ q → q < h + d → markAt ps q = true) → markAt ps (h + d) = false → (sweep f ps h).2 = h + d
  | 0, f, h, ps, _, _, _, hm => by rw [sweep_stop f ps h hm]; rfl
  | d + 1, 0, _, _, _, hf, _, _ => by omega
  | d + 1, f + 1, h, ps, hl, hf, hall, hm => by
    unfold sweep
    rw [hall h (Nat.le_refl _) (by omega), if_pos rfl, Nat.mod_eq_of_lt (by omega)]
    rw [sweep_to d f (h + 1) (unmark ps h) (by rw [unmark_length]; omega) (by omega) ?_ ?_]
    · omega
    · intro q h1 h2
      rw [markAt_unmark, hall q (by omega) (by omega)]
      have : (q == h) = false := by simp; omega
      rw [this]; rfl
    · rw [markAt_unmark, show h + 1 + d = h + (d + 1) from by omega, hm]; rfl
theorem marks_ge (ps : List Plc) (h d : Nat) (hl : h + d ≤ ps.length) (hall : ∀ q, h ≤ q → q < h + d → markAt ps q = true) : d ≤ marks ps := by
  unfold marks
  have h1 : ((ps.drop h).take d).countP (·.mark) = d := by
    have hlen : ((ps.drop h).take d).length = d := by rw [List.length_take, List.length_drop]; omega
    have : ((ps.drop h).take d).countP (·.mark) = ((ps.drop h).take d).length := by
      rw [List.countP_eq_length]
      intro p hp
      obtain ⟨q, hq, rfl⟩ := List.getElem_of_mem hp
      rw [hlen] at hq
      rw [List.getElem_take, List.getElem_drop]
      have := hall (h + q) (by omega) (by omega)
      unfold markAt at this
      rw [List.getElem?_eq_getElem (by omega)] at this
      exact this
    rw [this, hlen]
  have h2 := ((List.take_sublist d (ps.drop h)).trans (List.drop_sublist h ps)).countP_le (p := (·.mark))
  omega

/-- Behind the first put into the full cache: place 0 is the new one's, no other one is marked but those that were asked. -/
def S3 (n i j : Nat) (ps : List Plc) : Prop := ps.length = n ∧ ∀ q (h : q < ps.length), ps[q] = if q = 0 then fresh first vv else ⟨kk q, vv, true, decide (q < j ∧ q ≠ i)⟩
theorem S1_first {n : Nat} {ps : List Plc} (h : S1 n n ps) (h1 : 1 ≤ n) (hn : n ≤ 50) (i : Nat) :
    (putR ps 0 first vv).gone = some (kk 0) ∧ S3 n i 1 (putR ps 0 first vv).ps ∧ (putR ps 0 first vv).hand = 1 % n := by
  obtain ⟨hl, hp⟩ := h
  have hp' : ∀ q (hq : q < ps.length), ps[q] = fresh (kk q) vv := fun q hq => by rw [hp q hq, if_pos (by omega)]
  have hs : spot ps first = none := by
    rw [spot_none]
    refine ⟨?_, ?_⟩
    · rw [mem_keysOf]
      rintro ⟨q, hq, _, hk⟩
      rw [hp' q hq] at hk
      exact (kk_first (by omega)).1 hk
    · rw [full_iff, idle_none]
      intro q hq
      rw [hp' q hq]; rfl
  have hm : marks ps = ps.length := by
    unfold marks
    rw [List.countP_eq_length]
    intro p hpm
    obtain ⟨q, hq, rfl⟩ := List.getElem_of_mem hpm
    rw [hp' q hq]; rfl
  have hsw : sweep (marks ps) ps 0 = (ps.map unm, 0) := by
    rw [hm]
    refine sweep_all _ _ _ (by omega) (by omega) fun q hq => ?_
    unfold markAt
    rw [List.getElem?_eq_getElem hq, hp' q hq]
    simp [fresh]
  unfold putR
  rw [hs, hsw]
  refine ⟨?_, ⟨by simp [hl], fun q hq => ?_⟩, by rw [hl]⟩
  · simp only [keyAt, List.getElem?_map]
    rw [List.getElem?_eq_getElem (by omega), hp' 0 (by omega)]
    rfl
  · simp only [List.length_set, List.length_map] at hq
    simp only [List.getElem_set, List.getElem_map]
    by_cases e : q = 0
    · subst e; simp
    · rw [if_neg (fun h => e h.symm), if_neg e, hp' q hq]
      have : ¬ (q < 1 ∧ q ≠ i) := by omega
      rw [decide_eq_false this]
      rfl
theorem S3_find {n i j : Nat} {ps : List Plc} (h : S3 n i j ps) (hn : n ≤ 50) (q : Nat) (h1 : 1 ≤ q) (hq : q < n) : ps.findIdx? (hit (kk q)) = some q := by
  obtain ⟨hl, hp⟩ := h
  refine findIdx_at _ _ q (by omega) ?_ ?_
  · rw [hit_iff, hp q (by omega), if_neg (by omega)]
    exact ⟨rfl, rfl⟩
  · intro r hr hrq
    rw [← Bool.not_eq_true, hit_iff, hp r hr]
    rintro ⟨_, hk⟩
    split at hk
    · exact (kk_first (by omega)).1 hk.symm
    · have := kk_inj (by omega) (by omega) hk
      omega
theorem S3_get {n i j : Nat} {ps : List Plc} (h : S3 n i j ps) (hn : n ≤ 50) (h1 : 1 ≤ j) (hj : j < n) (hi : j ≠ i) : S3 n i (j + 1) (getPs ps (kk j)) := by
  have hf := S3_find h hn j h1 hj
  obtain ⟨hl, hp⟩ := h
  unfold getPs
  rw [hf]
  simp only [List.getElem?_eq_getElem (show j < ps.length by omega)]
  refine ⟨by simp [hl], fun q hq => ?_⟩
  simp only [List.length_set] at hq
  simp only [List.getElem_set]
  split
  · rename_i e; subst e
    rw [hp j hq, if_neg (show ¬ j = 0 by omega), if_neg (show ¬ j = 0 by omega), decide_eq_true (show j < j + 1 ∧ j ≠ i from ⟨by omega, hi⟩)]; rfl
  · rename_i e
    rw [hp q hq]
    by_cases e0 : q = 0
    · rw [if_pos e0, if_pos e0]
    · rw [if_neg e0, if_neg e0]
      have : (q < j ∧ q ≠ i) ↔ (q < j + 1 ∧ q ≠ i) := ⟨fun h => ⟨by omega, h.2⟩, fun h => ⟨by omega, h.2⟩⟩
      rw [decide_eq_decide.2 this]
theorem S3_skip {n i : Nat} {ps : List Plc} (h : S3 n i i ps) : S3 n i (i + 1) ps := by
  obtain ⟨hl, hp⟩ := h
  refine ⟨hl, fun q hq => ?_⟩
  rw [hp q hq]
  have : (q < i ∧ q ≠ i) ↔ (q < i + 1 ∧ q ≠ i) := by omega
  rw [decide_eq_decide.2 this]
theorem S3_second {n i : Nat} {ps : List Plc} (h : S3 n i n ps) (hn : n ≤ 50) (h1 : 1 ≤ i) (hi : i < n) : (putR ps 1 second vv).gone = some (kk i) := by
  obtain ⟨hl, hp⟩ := h
  have hs : spot ps second = none := by
    rw [spot_none]
    refine ⟨?_, ?_⟩
    · rw [mem_keysOf]
      rintro ⟨q, hq, _, hk⟩
      rw [hp q hq] at hk
      split at hk
      · exact first_second hk
      · exact (kk_first (by omega)).2 hk
    · rw [full_iff, idle_none]
      intro q hq
      rw [hp q hq]; split <;> rfl
  have hma : ∀ q, 1 ≤ q → q < n → markAt ps q = decide (q ≠ i) := by
    intro q h1 h2
    unfold markAt
    rw [List.getElem?_eq_getElem (by omega), hp q (by omega), if_neg (by omega)]
    simp [h2]
  have hsw : (sweep (marks ps) ps 1).2 = i := by
    have := sweep_to (i - 1) (marks ps) 1 ps (by omega) (marks_ge ps 1 (i - 1) (by omega) (fun q h1 h2 => by rw [hma q h1 (by omega)]; simp; omega)) (fun q h1 h2 => by rw [hma q h1 (by omega)]; simp; omega) (by rw [show 1 + (i - 1) = i from by omega, hma i h1 hi]; simp)
    omega
  have hcs := core_sweep (marks ps) ps 1
  unfold putR
  rw [hs]
  simp only [hsw]
  congr 1
  unfold keyAt
  rw [List.getElem?_eq_getElem (by rw [sweep_len]; omega)]
  have := at_core hcs i (by omega)
  simp only [core, Prod.mk.injEq] at this
  show ((sweep (marks ps) ps 1).1[i]'(by rw [sweep_len]; omega)).key = kk i
  rw [this.1, hp i (by omega), if_neg (by omega)]
end Go.Proofs.Ytolgkepkdidjcaa
