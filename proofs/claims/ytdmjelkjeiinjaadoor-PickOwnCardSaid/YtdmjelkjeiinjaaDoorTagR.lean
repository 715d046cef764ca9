/- The tag of a text as the document defines it is the one that the code takes. No program. -/
import Derived.Test.YtdmjelkjeiinjaaDoorTagS
set_option linter.unusedSimpArgs false
set_option linter.unusedVariables false
namespace Go.Proofs.YtdmjelkjeiinjaaDoor
open Go.RowKit

def rScript (l : List ByteArray) : ByteArray × List ByteArray :=
  match l with
  | p :: r => if p.size = 4 then (upperB (p.extract 0 1) ++ p.extract 1 p.size, r) else (ByteArray.empty, p :: r)
  | [] => (ByteArray.empty, [])
def rRegion (l : List ByteArray) : ByteArray × List ByteArray :=
  match l with
  | p :: r => if p.size < 4 then (upperB p, r) else (ByteArray.empty, p :: r)
  | [] => (ByteArray.empty, [])
def rTag (s : ByteArray) : Tg :=
  let l := splitS (lowerB s) dash
  let b := rScript (l.drop 1)
  let c := rRegion b.2
  ⟨l.headD ByteArray.empty, b.1, c.1, c.2⟩
def okTag (s : ByteArray) (t : Tg) : Bool := decide (tagFault t = 0) && eqs (lowerB (tagText t)) (lowerB s)
def tagOf (s : ByteArray) : Option Tg := if okTag s (rTag s) then some (rTag s) else none

theorem bts_append (a b : ByteArray) : bts (a ++ b) = bts a ++ bts b := by show (a ++ b).data.toList = _; rw [ByteArray.data_append]; simp [bts]
theorem bts_extract (a : ByteArray) (i j : Nat) : bts (a.extract i j) = ((bts a).take j).drop i := by
  show (a.extract i j).data.toList = _
  rw [ByteArray.data_extract]
  simp [bts, List.take_drop]
  by_cases h : i ≤ j
  · rw [show i + (j - i) = j by omega]
  · rw [show i + (j - i) = i by omega, List.drop_eq_nil_of_le (by simp; omega), List.drop_eq_nil_of_le (by simp; omega)]
theorem bts_mapB (p : UInt8 → Bool) (x : UInt8) (s : ByteArray) : bts (mapB p x s) = (bts s).map fun c => if p c then c ^^^ x else c := bts_str _
theorem mapB_size (p : UInt8 → Bool) (x : UInt8) (s : ByteArray) : (mapB p x s).size = s.size := by rw [← bts_len, bts_mapB, List.length_map, bts_len]
theorem empty_iff (s : ByteArray) : eqs s ByteArray.empty = true ↔ s.size = 0 := by
  rw [eqs_iff]
  constructor
  · rintro rfl; rfl
  · intro h
    refine bts_inj ?_
    have := bts_len s
    rw [h] at this
    rw [List.length_eq_zero_iff.1 this]; rfl
theorem empty_iff' (s : ByteArray) : eqs s ByteArray.empty = false ↔ s.size ≠ 0 := by
  rw [← Bool.not_eq_true, empty_iff]

theorem low_not_high : ∀ c : UInt8, isHigh (if isHigh c then c ^^^ 32 else c) = false := by
  intro c
  have : ∀ n, n < 256 → isHigh (if isHigh (UInt8.ofNat n) then UInt8.ofNat n ^^^ 32 else UInt8.ofNat n) = false := by decide +kernel
  have h := this c.toNat c.toNat_lt
  rwa [UInt8.ofNat_toNat] at h
theorem not_high_lower (s : ByteArray) : ∀ b ∈ bts (lowerB s), isHigh b = false := by
  intro b hb
  unfold lowerB at hb
  rw [bts_mapB, List.mem_map] at hb
  obtain ⟨c, _, rfl⟩ := hb
  exact low_not_high c
theorem not_high_parts (s : ByteArray) : ∀ p ∈ splitS (lowerB s) dash, ∀ b ∈ bts p, isHigh b = false := by
  intro p hp b hb
  have hp' : p ∈ (cut1 45 (bts (lowerB s))).map str := by rw [← splitS_one]; exact hp
  obtain ⟨x, hx, rfl⟩ := List.mem_map.1 hp'
  rw [bts_str] at hb
  exact not_high_lower s b (cut1_mem_ne _ _ x hx b hb).2

theorem script_bad (p : ByteArray) (h4 : p.size = 4) (hno : ∀ b ∈ bts p, isHigh b = false) (hm : made isLow p 4 4 = false) :
    scriptB (upperB (p.extract 0 1) ++ p.extract 1 p.size) = false := by
  have hl := bts_len p
  rw [h4] at hl
  obtain ⟨a, b, c, d, he⟩ : ∃ a b c d, bts p = [a, b, c, d] := by
    match h : bts p, hl with
    | [a, b, c, d], _ => exact ⟨a, b, c, d, rfl⟩
  have e : bts (upperB (p.extract 0 1) ++ p.extract 1 p.size) = [if isLow a then a ^^^ 32 else a, b, c, d] := by
    unfold upperB
    rw [bts_append, bts_mapB, bts_extract, bts_extract, he, h4]; rfl
  have ha : isHigh a = false := hno a (by rw [he]; simp)
  unfold made at hm
  rw [he, h4] at hm
  simp only [List.all_cons, List.all_nil, Bool.and_true, Nat.le_refl, decide_true] at hm
  unfold scriptB
  rw [e]
  by_cases h : isLow a
  · rw [h] at hm
    simp only [Bool.true_and] at hm
    simp [hm]
  · rw [if_neg h]
    simp [ha]
theorem headFault_script {t : Tg} (h : t.script.size ≠ 0) (hb : scriptB t.script = false) : headFault t = true := by
  unfold headFault; rw [(empty_iff' _).2 h, hb]; simp
theorem headFault_region {t : Tg} (h : t.region.size ≠ 0) (hb : regionB t.region = false) : headFault t = true := by
  unfold headFault; rw [(empty_iff' _).2 h, hb]; simp
theorem fault_head {t : Tg} (h : headFault t = true) : tagFault t = 3 := by unfold tagFault; rw [if_pos h]
theorem fault_short {t : Tg} {p : ByteArray} {r : List ByteArray} (hv : t.vars = p :: r) (hp : p.size < 5) : tagFault t = 3 := by
  unfold tagFault
  split
  · rfl
  · have h0 : varAt t.vars 0 = 3 := by
      unfold varAt
      rw [hv, List.getD_cons_zero, if_neg]
      unfold made
      simp; omega
    have h1 := firstN_at (varAt t.vars) 0 (fun q hq => absurd hq (by omega)) (by rw [h0]; decide) t.vars.length (by rw [hv]; simp)
    rw [h0] at h1
    rw [h1]; rfl
theorem okTag_fault {s : ByteArray} {t : Tg} (h : tagFault t = 3) : okTag s t = false := by unfold okTag; rw [h]; rfl

theorem join_length (c : UInt8) : ∀ L : List (List UInt8), L ≠ [] → (Lib.join L [c]).length + 1 = Lib.lens L + L.length
  | x :: r, _ => by
    rw [Lib.join_cons, List.length_append, Lib.joinTail_length]
    simp [Lib.lens]; omega
theorem sizes_filter (l : List ByteArray) : Lib.lens ((l.filter (fun s => !eqs s ByteArray.empty)).map bts) = Lib.lens (l.map bts) := by
  induction l with
  | nil => rfl
  | cons a l ih =>
    by_cases h : eqs a ByteArray.empty = true
    · rw [List.filter_cons_of_neg (by simp [h]), ih]
      have := (empty_iff a).1 h
      have hl := bts_len a
      simp only [Lib.lens, List.map_cons, List.sum_cons]; omega
    · rw [List.filter_cons_of_pos (by simpa using h)]
      simp only [Lib.lens, List.map_cons, List.sum_cons] at ih ⊢
      rw [ih]
/-- a text with an empty part between dashes is no tag's -/
theorem text_short (s : ByteArray) (x q p : ByteArray) (r : List ByteArray) (m : Bool) (scr : ByteArray) (hl : splitS (lowerB s) dash = x :: ((if m then [q] else []) ++ p :: r)) (hp : p.size = 0) (hs : scr.size = if m then q.size else 0) :
    eqs (lowerB (tagText ⟨x, scr, upperB p, r⟩)) (lowerB s) = false := by
  have h1 : ((splitS (lowerB s) dash).map bts) = cut1 45 (bts (lowerB s)) := by
    show (splitS (lowerB s) ⟨#[45]⟩).map bts = _
    rw [splitS_one, List.map_map]
    exact List.map_id'' (fun l => bts_str l) _
  have h2 := join_cut1 45 (bts (lowerB s))
  rw [← h1] at h2
  have h3 := join_length 45 ((splitS (lowerB s) dash).map bts) (by rw [hl]; simp)
  rw [h2, hl] at h3
  rw [eqs_false]
  intro he
  have h4 := congrArg bts he
  have h5 := congrArg List.length h4
  unfold lowerB at h5
  rw [bts_mapB, List.length_map] at h5
  have e1 : bts (tagText ⟨x, scr, upperB p, r⟩) = Lib.join ((parts ⟨x, scr, upperB p, r⟩).map bts) [45] := bts_str _
  rw [e1] at h5
  have hup : (upperB p).size = 0 := by rw [← hp]; exact mapB_size _ _ _
  have e2 := sizes_filter ([x, scr, upperB p] ++ r)
  have e3 : Lib.lens (([x, scr, upperB p] ++ r).map bts) = x.size + scr.size + Lib.lens (r.map bts) := by
    simp only [Lib.lens, List.cons_append, List.nil_append, List.map_cons, List.sum_cons, bts_len, hup]; omega
  have e4 : (parts ⟨x, scr, upperB p, r⟩).length ≤ 1 + (if m then 1 else 0) + r.length := by
    show (([x, scr, upperB p] ++ r).filter (fun s => !eqs s ByteArray.empty)).length ≤ _
    rw [List.filter_append, List.length_append]
    have := List.length_filter_le (fun s => !eqs s ByteArray.empty) r
    have h6 : ([x, scr, upperB p].filter (fun s => !eqs s ByteArray.empty)).length ≤ 1 + (if m then 1 else 0) := by
      have hu : eqs (upperB p) ByteArray.empty = true := (empty_iff _).2 hup
      cases m with
      | true =>
        have : ([x, scr, upperB p].filter (fun s => !eqs s ByteArray.empty)) = [x, scr].filter (fun s => !eqs s ByteArray.empty) := by
          simp [List.filter_cons, hu]
        rw [this]
        exact Nat.le_trans (List.length_filter_le _ _) (by simp)
      | false =>
        have hsc : eqs scr ByteArray.empty = true := (empty_iff _).2 (by simpa using hs)
        have : ([x, scr, upperB p].filter (fun s => !eqs s ByteArray.empty)) = [x].filter (fun s => !eqs s ByteArray.empty) := by
          simp [List.filter_cons, hu, hsc]
        rw [this]
        exact Nat.le_trans (List.length_filter_le _ _) (by simp)
    omega
  have e5 : Lib.lens ((x :: ((if m then [q] else []) ++ p :: r)).map bts) = x.size + (if m then q.size else 0) + Lib.lens (r.map bts) := by
    cases m <;> simp [Lib.lens, bts_len, hp] <;> omega
  have e6 : (x :: ((if m then [q] else []) ++ p :: r)).length = 2 + (if m then 1 else 0) + r.length := by cases m <;> simp <;> omega
  rw [e5, List.length_map, e6, ← hs] at h3
  have hlow : (bts (lowerB s)).length = (bts (mapB isHigh 32 s)).length := rfl
  by_cases hne : parts ⟨x, scr, upperB p, r⟩ = []
  · rw [hne] at h5
    have : (Lib.join (([] : List ByteArray).map bts) [45]).length = 0 := rfl
    rw [this] at h5
    omega
  · have h7 := join_length 45 ((parts ⟨x, scr, upperB p, r⟩).map bts) (by simpa using hne)
    have e7 : Lib.lens ((parts ⟨x, scr, upperB p, r⟩).map bts) = x.size + scr.size + Lib.lens (r.map bts) := by rw [← e3]; exact e2
    rw [e7, List.length_map] at h7
    have e8 : 1 + (if m then 1 else 0) + r.length ≤ 2 + r.length := by cases m <;> simp
    omega

theorem region_short {p : ByteArray} (h : regionB p = true) : p.size < 4 := by
  unfold regionB made at h
  simp at h
  omega
theorem region_step (s : ByteArray) (x q : ByteArray) (l : List ByteArray) (m : Bool) (scr : ByteArray) (hl : splitS (lowerB s) dash = x :: ((if m then [q] else []) ++ l)) (hs : scr.size = if m then q.size else 0) :
    (rRegion l = regionOf l) ∨ (okTag s ⟨x, scr, (rRegion l).1, (rRegion l).2⟩ = false ∧ okTag s ⟨x, scr, (regionOf l).1, (regionOf l).2⟩ = false) := by
  match l with
  | [] => exact .inl rfl
  | p :: r =>
    unfold rRegion regionOf
    by_cases h : regionB (upperB p) = true
    · have h4 := region_short h
      rw [show (upperB p).size = p.size from mapB_size _ _ _] at h4
      exact .inl (by simp only [h, h4, if_true])
    · simp only [h]
      by_cases h4 : p.size < 4
      · right
        simp only [h4, if_true]
        constructor
        · by_cases h0 : p.size = 0
          · unfold okTag
            rw [text_short s x q p r m scr hl h0 hs, Bool.and_false]
          · exact okTag_fault (fault_head (headFault_region (by rw [show (upperB p).size = p.size from mapB_size _ _ _]; exact h0) (by simpa using h)))
        · exact okTag_fault (fault_short rfl (by omega))
      · left
        simp only [h4, if_false]
        rfl
theorem rTag_same (s : ByteArray) : rTag s = rawTag s ∨ (okTag s (rTag s) = false ∧ okTag s (rawTag s) = false) := by
  unfold rTag rawTag
  match hl : splitS (lowerB s) dash with
  | [] => exact .inl rfl
  | [x] => exact .inl rfl
  | x :: p :: r =>
    simp only [List.drop_succ_cons, List.drop_zero, List.headD_cons]
    have hno : ∀ b ∈ bts p, isHigh b = false := not_high_parts s p (by rw [hl]; simp)
    unfold rScript scriptOf
    by_cases hm : made isLow p 4 4 = true
    · have h4 : p.size = 4 := by unfold made at hm; simp at hm; omega
      simp only [hm, h4, if_true]
      rcases region_step s x p r true (upperB (p.extract 0 1) ++ p.extract 1 4) hl (by
        rw [← bts_len, bts_append, List.length_append]
        unfold upperB
        rw [bts_mapB, List.length_map, bts_extract, bts_extract]
        simp [bts_len, h4]) with h | h
      · left; rw [h]
      · right; exact h
    · simp only [hm]
      by_cases h4 : p.size = 4
      · simp only [h4, if_true]
        right
        constructor
        · refine okTag_fault (fault_head (headFault_script ?_ ?_))
          · rw [← bts_len, bts_append, List.length_append]
            simp only [bts_extract, upperB, bts_mapB]
            simp [bts_len, h4]
          · rw [← h4]; exact script_bad p h4 hno (by simpa using hm)
        · refine okTag_fault ?_
          have hr : regionB (upperB p) = false := by
            cases h : regionB (upperB p) with
            | false => rfl
            | true => have := region_short h; rw [show (upperB p).size = p.size from mapB_size _ _ _] at this; omega
          refine fault_short (p := p) (r := r) ?_ (by omega)
          simp [regionOf, hr]
      · simp only [h4, if_false]
        rcases region_step s x p (p :: r) false ByteArray.empty (by rw [hl]; rfl) rfl with h | h
        · left; simp [h]
        · right; simpa using h
theorem tagOf_parse (s : ByteArray) : tagOf s = parseTag s := by
  have e : ∀ t, okTag s t = (decide (tagFault t = 0) && eqs (lowerB (tagText t)) (lowerB s)) := fun _ => rfl
  unfold tagOf parseTag
  rw [← e]
  rcases rTag_same s with h | ⟨h1, h2⟩
  · rw [h]
  · rw [h1, h2]; rfl
end Go.Proofs.YtdmjelkjeiinjaaDoor
