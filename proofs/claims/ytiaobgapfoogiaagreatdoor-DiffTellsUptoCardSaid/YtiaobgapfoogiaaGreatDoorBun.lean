/- Tags, plainly: their faults, texts, chains; the tag of a text. No program. -/
import Derived.Test.YtiaobgapfoogiaaGreatDoorBase
import Derived.Lib.SplitLaws
import Derived.Lib.Join
set_option linter.unusedSimpArgs false
set_option linter.unusedVariables false
namespace Go.Proofs.YtiaobgapfoogiaaGreatDoor
open Go.RowKit

/- ## Bytes of a string -/
def bts (s : ByteArray) : List UInt8 := s.data.toList
def str (l : List UInt8) : ByteArray := ⟨l.toArray⟩
theorem bts_str (l : List UInt8) : bts (str l) = l := rfl
theorem str_bts (s : ByteArray) : str (bts s) = s := by cases s; simp [str, bts]
theorem bts_len (s : ByteArray) : (bts s).length = s.size := by show s.data.toList.length = s.data.size; simp
theorem str_size (l : List UInt8) : (str l).size = l.length := by show l.toArray.size = _; simp
theorem bts_inj {a b : ByteArray} (h : bts a = bts b) : a = b := by rw [← str_bts a, ← str_bts b, h]
theorem eqs_bts (a b : ByteArray) : eqs a b = (bts a == bts b) := by unfold eqs bts; rw [ByteArray.toList_eq, ByteArray.toList_eq]

/- ## The first that is not nought -/
def firstN (f : Nat → Int) : Nat → Int
  | 0 => 0
  | n + 1 => if firstN f n = 0 then f n else firstN f n
theorem firstN_zero (f : Nat → Int) : ∀ n, (∀ q, q < n → f q = 0) → firstN f n = 0
  | 0, _ => rfl
  | n + 1, h => by unfold firstN; rw [if_pos (firstN_zero f n fun q hq => h q (by omega))]; exact h n (by omega)
theorem firstN_at (f : Nat → Int) (j : Nat) (h0 : ∀ q, q < j → f q = 0) (hj : f j ≠ 0) : ∀ n, j < n → firstN f n = f j
  | 0, h => absurd h (by omega)
  | n + 1, h => by
    unfold firstN
    by_cases hn : j < n
    · rw [firstN_at f j h0 hj n hn, if_neg hj]
    · obtain rfl : j = n := by omega
      rw [if_pos (firstN_zero f j h0)]
theorem firstN_zero_iff (f : Nat → Int) : ∀ n, firstN f n = 0 ↔ ∀ q, q < n → f q = 0
  | 0 => ⟨fun _ q hq => absurd hq (by omega), fun _ => rfl⟩
  | n + 1 => by
    refine ⟨fun h q hq => ?_, firstN_zero f _⟩
    unfold firstN at h
    split at h
    · rename_i h1
      by_cases e : q = n
      · subst e; exact h
      · exact (firstN_zero_iff f n).1 h1 q (by omega)
    · rename_i h1
      exact absurd h h1
theorem firstN_congr (f g : Nat → Int) : ∀ n, (∀ q, q < n → f q = g q) → firstN f n = firstN g n
  | 0, _ => rfl
  | n + 1, h => by unfold firstN; rw [firstN_congr f g n fun q hq => h q (by omega), h n (by omega)]

/- ## Kinds of signs -/
def isLow (c : UInt8) : Bool := decide (97 ≤ c.toNat) && decide (c.toNat ≤ 122)
def isHigh (c : UInt8) : Bool := decide (65 ≤ c.toNat) && decide (c.toNat ≤ 90)
def isDig (c : UInt8) : Bool := decide (48 ≤ c.toNat) && decide (c.toNat ≤ 57)
def isBoth (c : UInt8) : Bool := isLow c || isDig c
def made (p : UInt8 → Bool) (s : ByteArray) (a b : Nat) : Bool := (bts s).all p && (decide (a ≤ s.size) && decide (s.size ≤ b))
def scriptB (s : ByteArray) : Bool := decide (s.size = 4) && (((bts s).take 1).all isHigh && ((bts s).drop 1).all isLow)
def regionB (s : ByteArray) : Bool := made isHigh s 2 2 || made isDig s 3 3

/- ## Tags -/
structure Tg where
  lang : ByteArray
  script : ByteArray
  region : ByteArray
  vars : List ByteArray
def noTg : Tg := ⟨ByteArray.empty, ByteArray.empty, ByteArray.empty, []⟩
def headFault (t : Tg) : Bool := !made isLow t.lang 2 3 || (!eqs t.script ByteArray.empty && !scriptB t.script || !eqs t.region ByteArray.empty && !regionB t.region)
def varAt (l : List ByteArray) (j : Nat) : Int := if made isBoth (l.getD j ByteArray.empty) 5 8 then (if (l.take j).any (eqs · (l.getD j ByteArray.empty)) then 5 else 0) else 3
def tagFault (t : Tg) : Int :=
  if headFault t then 3
  else if firstN (varAt t.vars) t.vars.length = 0 then (if 3 < t.vars.length then 4 else 0)
  else firstN (varAt t.vars) t.vars.length
def parts (t : Tg) : List ByteArray := ([t.lang, t.script, t.region] ++ t.vars).filter (fun s => !eqs s ByteArray.empty)
def joined (l : List ByteArray) (sep : ByteArray) : ByteArray := str (Lib.join (l.map bts) (bts sep))
def dash : ByteArray := ⟨#[45]⟩
def tagText (t : Tg) : ByteArray := joined (parts t) dash
def mapB (p : UInt8 → Bool) (x : UInt8) (s : ByteArray) : ByteArray := str ((bts s).map fun c => if p c then c ^^^ x else c)
def lowerB (s : ByteArray) : ByteArray := mapB isHigh 32 s
def upperB (s : ByteArray) : ByteArray := mapB isLow 32 s
def splitS (s sep : ByteArray) : List ByteArray := Lib.splitB sep 0 (Lib.countB s sep) s

/-- What the parts of a lowered text say, as the code takes them. -/
def scriptOf (l : List ByteArray) : ByteArray × List ByteArray :=
  match l with
  | p :: r => if made isLow p 4 4 then (upperB (p.extract 0 1) ++ p.extract 1 p.size, r) else (ByteArray.empty, p :: r)
  | [] => (ByteArray.empty, [])
def regionOf (l : List ByteArray) : ByteArray × List ByteArray :=
  match l with
  | p :: r => if regionB (upperB p) then (upperB p, r) else (ByteArray.empty, p :: r)
  | [] => (ByteArray.empty, [])
def rawTag (s : ByteArray) : Tg :=
  let l := splitS (lowerB s) dash
  let b := scriptOf (l.drop 1)
  let c := regionOf b.2
  ⟨l.headD ByteArray.empty, b.1, c.1, c.2⟩
def parseTag (s : ByteArray) : Option Tg :=
  if tagFault (rawTag s) = 0 && eqs (lowerB (tagText (rawTag s))) (lowerB s) then some (rawTag s) else none

def less (t : Tg) : Option Tg :=
  if t.vars.length ≠ 0 then some { t with vars := t.vars.take (t.vars.length - 1) }
  else if eqs t.region ByteArray.empty then (if eqs t.script ByteArray.empty then none else some { t with script := ByteArray.empty })
  else some { t with region := ByteArray.empty }
/-- how often a tag can be less -/
def deg (t : Tg) : Nat := t.vars.length + ((if eqs t.region ByteArray.empty then 0 else 1) + (if eqs t.script ByteArray.empty then 0 else 1))
theorem less_deg {t u : Tg} (h : less t = some u) : deg u < deg t := by
  unfold less at h
  split at h
  · injection h with h; subst h
    simp only [deg, List.length_take]; omega
  · split at h
    · split at h
      · cases h
      · injection h with h; subst h
        rename_i h1 h2 h3
        simp only [deg, h3, eqs_self, if_true]
        simp
    · injection h with h; subst h
      rename_i h1 h2
      simp only [deg, h2, eqs_self, if_true]
      simp
def chainN : Nat → Tg → List Tg
  | 0, t => [t]
  | n + 1, t => match less t with | some u => t :: chainN n u | none => [t]
def chainOf (t : Tg) : List Tg := chainN (deg t) t
theorem chainN_stop {t : Tg} (h : less t = none) : ∀ n, chainN n t = [t]
  | 0 => rfl
  | n + 1 => by unfold chainN; rw [h]
theorem chainN_enough : ∀ (n m : Nat) (t : Tg), deg t ≤ n → deg t ≤ m → chainN n t = chainN m t
  | 0, m, t, hn, _ => by
    have h : less t = none := by
      cases h : less t with
      | none => rfl
      | some u => have := less_deg h; omega
    rw [chainN_stop h, chainN_stop h]
  | n + 1, 0, t, _, hm => by
    have h : less t = none := by
      cases h : less t with
      | none => rfl
      | some u => have := less_deg h; omega
    rw [chainN_stop h, chainN_stop h]
  | n + 1, m + 1, t, hn, hm => by
    unfold chainN
    cases h : less t with
    | none => rfl
    | some u => have := less_deg h; simp only; rw [chainN_enough n m u (by omega) (by omega)]
theorem chainOf_some {t u : Tg} (h : less t = some u) : chainOf t = t :: chainOf u := by
  have := less_deg h
  unfold chainOf
  obtain ⟨k, hk⟩ : ∃ k, deg t = k + 1 := ⟨deg t - 1, by omega⟩
  rw [hk, chainN, h]
  simp only
  rw [chainN_enough k (deg u) u (by omega) (Nat.le_refl _)]
theorem chainOf_none {t : Tg} (h : less t = none) : chainOf t = [t] := chainN_stop h _
theorem chainOf_length (t : Tg) : (chainOf t).length ≤ deg t + 1 := by
  have : ∀ n t, (chainN n t).length ≤ n + 1 := by
    intro n
    induction n with
    | zero => intro t; simp [chainN]
    | succ n ih =>
      intro t
      unfold chainN
      split
      · have := ih ‹_›; simp; omega
      · simp
  exact this _ _

/- ## Cut at one byte -/
def cut1 (c : UInt8) : List UInt8 → List (List UInt8)
  | [] => [[]]
  | b :: l => if b = c then [] :: cut1 c l else (b :: (cut1 c l).headD []) :: (cut1 c l).tail
theorem cut1_ne (c : UInt8) : ∀ l, cut1 c l ≠ []
  | [] => by simp [cut1]
  | b :: l => by unfold cut1; split <;> simp
theorem cut1_cons (c : UInt8) (l : List UInt8) : (cut1 c l).headD [] :: (cut1 c l).tail = cut1 c l := by
  cases h : cut1 c l with
  | nil => exact absurd h (cut1_ne c l)
  | cons x r => rfl
theorem index_one_cons (b c : UInt8) (l : List UInt8) (h : b ≠ c) : Lib.index (b :: l) [c] = if Lib.index l [c] == -1 then -1 else Lib.index l [c] + 1 := by
  have hp : ([c] : List UInt8).isPrefixOf (b :: l) = false := by simp [List.isPrefixOf, Ne.symm h]
  rw [Lib.index, hp]; simp
theorem splitK_one (c : UInt8) : ∀ l : List UInt8, Lib.splitK [c] 0 (l.count c) l = cut1 c l
  | [] => rfl
  | b :: l => by
    by_cases h : b = c
    · subst h
      have hix : Lib.index (b :: l) [b] = 0 := by rw [Lib.index]; simp [List.isPrefixOf]
      rw [List.count_cons_self, Lib.splitK, hix, cut1, if_pos rfl, ← splitK_one b l]
      rfl
    · have ih := splitK_one c l
      rw [List.count_cons_of_ne (by simpa using h), cut1, if_neg h, ← ih]
      cases hk : l.count c with
      | zero => rfl
      | succ k =>
        have hne : ¬ Lib.index l [c] = -1 := fun e => by
          have := Lib.count_miss e
          rw [Lib.count_one] at this; omega
        have hge := Lib.index_ge l [c]
        have e1 : Lib.index (b :: l) [c] = Lib.index l [c] + 1 := by rw [index_one_cons b c l h, if_neg (by simpa using hne)]
        unfold Lib.splitK
        rw [if_neg (by rw [e1]; simp; omega), if_neg (by simpa using hne), e1]
        obtain ⟨i, hi⟩ : ∃ i : Nat, Lib.index l [c] = i := ⟨(Lib.index l [c]).toNat, by omega⟩
        rw [hi]
        simp only [show ((i : Int) + 1).toNat = i + 1 from by omega, Int.toNat_natCast, List.length_singleton, Nat.add_zero, List.take_succ_cons, List.drop_succ_cons, List.headD_cons, List.tail_cons]
theorem splitS_one (s : ByteArray) (c : UInt8) : splitS s ⟨#[c]⟩ = (cut1 c (bts s)).map str := by
  have h := Lib.splitB_data ⟨#[c]⟩ 0 (Lib.countB s ⟨#[c]⟩) s
  have e : Lib.countB s ⟨#[c]⟩ = (bts s).count c := Lib.count_one c _
  have h2 : (splitS s ⟨#[c]⟩).map bts = cut1 c (bts s) := by
    rw [← splitK_one c (bts s), ← e]
    exact h
  rw [← h2, List.map_map]
  exact (List.map_id'' (fun x => str_bts x) _).symm
theorem cut1_mem_ne (c : UInt8) : ∀ (l : List UInt8) x, x ∈ cut1 c l → ∀ b ∈ x, b ≠ c ∧ b ∈ l
  | [], x, h, b, hb => by simp [cut1] at h; subst h; cases hb
  | a :: l, x, h, b, hb => by
    unfold cut1 at h
    split at h
    · rcases List.mem_cons.1 h with rfl | h
      · cases hb
      · have := cut1_mem_ne c l x h b hb
        exact ⟨this.1, List.mem_cons_of_mem _ this.2⟩
    · rename_i hne
      rcases List.mem_cons.1 h with rfl | h
      · rcases List.mem_cons.1 hb with rfl | hb
        · exact ⟨hne, List.mem_cons_self⟩
        · have := cut1_mem_ne c l _ (by rw [← cut1_cons c l]; exact List.mem_cons_self) b hb
          exact ⟨this.1, List.mem_cons_of_mem _ this.2⟩
      · have := cut1_mem_ne c l x (List.mem_of_mem_tail h) b hb
        exact ⟨this.1, List.mem_cons_of_mem _ this.2⟩
theorem join_cut1 (c : UInt8) : ∀ l : List UInt8, Lib.join (cut1 c l) [c] = l
  | [] => by simp [cut1, Lib.join_one]
  | b :: l => by
    have ih := join_cut1 c l
    unfold cut1
    split
    · rename_i h
      subst h
      rw [Lib.join_cons]
      rw [← cut1_cons b l, Lib.join_cons] at ih
      rw [← cut1_cons b l]
      simp only [Lib.joinTail, List.map_cons, List.flatten_cons, List.nil_append, List.append_assoc] at ih ⊢
      rw [ih]; rfl
    · rw [← cut1_cons c l, Lib.join_cons] at ih
      rw [Lib.join_cons, List.cons_append, ih]

/- ## How tags lie -/
def Enc.tag : Enc Tg := ⟨4, 72, fun w lo hi cs t => ∃ v, cs = [.string t.lang, .string t.script, .string t.region, v] ∧ ListOk Enc.str w lo hi v t.vars,
  fun B t => t.lang.size ≤ B ∧ t.script.size ≤ B ∧ t.region.size ≤ B ∧ Enc.str.list.fits B t.vars, fun t => t.lang.size + t.script.size + t.region.size + Enc.str.list.bulk t.vars⟩
theorem Enc.tag_laws : Enc.tag.Laws :=
  ⟨fun ⟨_, h, _⟩ => by cases h; rfl, fun ⟨v, h, k⟩ ha => ⟨v, h, k.keep Enc.str_laws ha⟩, fun ⟨v, h, k⟩ h1 h2 => ⟨v, h, k.mono Enc.str_laws h1 h2⟩⟩
end Go.Proofs.YtiaobgapfoogiaaGreatDoor
/- The tag of a text as the document defines it is the one that the code takes. No program. -/

namespace Go.Proofs.YtiaobgapfoogiaaGreatDoor
open Go.RowKit

def rScript (l : List ByteArray) : ByteArray × List ByteArray :=
  match l with
  | p :: r => if p.size = 4 then (upperB (p.extract 0 1) ++ p.extract 1 p.size, r) else (ByteArray.empty, p :: r)
  | [] => (ByteArray.empty, [])
def rRegion (l : List ByteArray) : ByteArray × List ByteArray :=
  match l with
  | p :: r => if p.size < 4 then (upperB p, r) else (ByteArray.empty, p :: r)
  | [] => (ByteArray.empty, [])
def rTag (s : ByteArray) : Tg :=
  let l := splitS (lowerB s) dash
  let b := rScript (l.drop 1)
  let c := rRegion b.2
  ⟨l.headD ByteArray.empty, b.1, c.1, c.2⟩
def okTag (s : ByteArray) (t : Tg) : Bool := decide (tagFault t = 0) && eqs (lowerB (tagText t)) (lowerB s)
def tagOf (s : ByteArray) : Option Tg := if okTag s (rTag s) then some (rTag s) else none

theorem bts_append (a b : ByteArray) : bts (a ++ b) = bts a ++ bts b := by show (a ++ b).data.toList = _; rw [ByteArray.data_append]; simp [bts]
theorem bts_extract (a : ByteArray) (i j : Nat) : bts (a.extract i j) = ((bts a).take j).drop i := by
  show (a.extract i j).data.toList = _
  rw [ByteArray.data_extract]
  simp [bts, List.take_drop]
  by_cases h : i ≤ j
  · rw [show i + (j - i) = j by omega]
  · rw [show i + (j - i) = i by omega, List.drop_eq_nil_of_le (by simp; omega), List.drop_eq_nil_of_le (by simp; omega)]
theorem bts_mapB (p : UInt8 → Bool) (x : UInt8) (s : ByteArray) : bts (mapB p x s) = (bts s).map fun c => if p c then c ^^^ x else c := bts_str _
theorem mapB_size (p : UInt8 → Bool) (x : UInt8) (s : ByteArray) : (mapB p x s).size = s.size := by rw [← bts_len, bts_mapB, List.length_map, bts_len]
theorem empty_iff (s : ByteArray) : eqs s ByteArray.empty = true ↔ s.size = 0 := by
  rw [eqs_iff]
  constructor
  · rintro rfl; rfl
  · intro h
    refine bts_inj ?_
    have := bts_len s
    rw [h] at this
    rw [List.length_eq_zero_iff.1 this]; rfl
theorem empty_iff' (s : ByteArray) : eqs s ByteArray.empty = false ↔ s.size ≠ 0 := by
  rw [← Bool.not_eq_true, empty_iff]

theorem low_not_high : ∀ c : UInt8, isHigh (if isHigh c then c ^^^ 32 else c) = false := by
  intro c
  have : ∀ n, n < 256 → isHigh (if isHigh (UInt8.ofNat n) then UInt8.ofNat n ^^^ 32 else UInt8.ofNat n) = false := by decide +kernel
  have h := this c.toNat c.toNat_lt
  rwa [UInt8.ofNat_toNat] at h
theorem not_high_lower (s : ByteArray) : ∀ b ∈ bts (lowerB s), isHigh b = false := by
  intro b hb
  unfold lowerB at hb
  rw [bts_mapB, List.mem_map] at hb
  obtain ⟨c, _, rfl⟩ := hb
  exact low_not_high c
theorem not_high_parts (s : ByteArray) : ∀ p ∈ splitS (lowerB s) dash, ∀ b ∈ bts p, isHigh b = false := by
  intro p hp b hb
  have hp' : p ∈ (cut1 45 (bts (lowerB s))).map str := by rw [← splitS_one]; exact hp
  obtain ⟨x, hx, rfl⟩ := List.mem_map.1 hp'
  rw [bts_str] at hb
  exact not_high_lower s b (cut1_mem_ne _ _ x hx b hb).2

theorem script_bad (p : ByteArray) (h4 : p.size = 4) (hno : ∀ b ∈ bts p, isHigh b = false) (hm : made isLow p 4 4 = false) :
    scriptB (upperB (p.extract 0 1) ++ p.extract 1 p.size) = false := by
  have hl := bts_len p
  rw [h4] at hl
  obtain ⟨a, b, c, d, he⟩ : ∃ a b c d, bts p = [a, b, c, d] := by
    match h : bts p, hl with
    | [a, b, c, d], _ => exact ⟨a, b, c, d, rfl⟩
  have e : bts (upperB (p.extract 0 1) ++ p.extract 1 p.size) = [if isLow a then a ^^^ 32 else a, b, c, d] := by
    unfold upperB
    rw [bts_append, bts_mapB, bts_extract, bts_extract, he, h4]; rfl
  have ha : isHigh a = false := hno a (by rw [he]; simp)
  unfold made at hm
  rw [he, h4] at hm
  simp only [List.all_cons, List.all_nil, Bool.and_true, Nat.le_refl, decide_true] at hm
  unfold scriptB
  rw [e]
  by_cases h : isLow a
  · rw [h] at hm
    simp only [Bool.true_and] at hm
    simp [hm]
  · rw [if_neg h]
    simp [ha]
theorem headFault_script {t : Tg} (h : t.script.size ≠ 0) (hb : scriptB t.script = false) : headFault t = true := by
  unfold headFault; rw [(empty_iff' _).2 h, hb]; simp
theorem headFault_region {t : Tg} (h : t.region.size ≠ 0) (hb : regionB t.region = false) : headFault t = true := by
  unfold headFault; rw [(empty_iff' _).2 h, hb]; simp
theorem fault_head {t : Tg} (h : headFault t = true) : tagFault t = 3 := by unfold tagFault; rw [if_pos h]
theorem fault_short {t : Tg} {p : ByteArray} {r : List ByteArray} (hv : t.vars = p :: r) (hp : p.size < 5) : tagFault t = 3 := by
  unfold tagFault
  split
  · rfl
  · have h0 : varAt t.vars 0 = 3 := by
      unfold varAt
      rw [hv, List.getD_cons_zero, if_neg]
      unfold made
      simp; omega
    have h1 := firstN_at (varAt t.vars) 0 (fun q hq => absurd hq (by omega)) (by rw [h0]; decide) t.vars.length (by rw [hv]; simp)
    rw [h0] at h1
    rw [h1]; rfl
theorem okTag_fault {s : ByteArray} {t : Tg} (h : tagFault t = 3) : okTag s t = false := by unfold okTag; rw [h]; rfl

theorem join_length (c : UInt8) : ∀ L : List (List UInt8), L ≠ [] → (Lib.join L [c]).length + 1 = Lib.lens L + L.length
  | x :: r, _ => by
    rw [Lib.join_cons, List.length_append, Lib.joinTail_length]
    simp [Lib.lens]; omega
theorem sizes_filter (l : List ByteArray) : Lib.lens ((l.filter (fun s => !eqs s ByteArray.empty)).map bts) = Lib.lens (l.map bts) := by
  induction l with
  | nil => rfl
  | cons a l ih =>
    by_cases h : eqs a ByteArray.empty = true
    · rw [List.filter_cons_of_neg (by simp [h]), ih]
      have := (empty_iff a).1 h
      have hl := bts_len a
      simp only [Lib.lens, List.map_cons, List.sum_cons]; omega
    · rw [List.filter_cons_of_pos (by simpa using h)]
      simp only [Lib.lens, List.map_cons, List.sum_cons] at ih ⊢
      rw [ih]
/-- a text with an empty part between dashes is no tag's -/
theorem text_short (s : ByteArray) (x q p : ByteArray) (r : List ByteArray) (m : Bool) (scr : ByteArray) (hl : splitS (lowerB s) dash = x :: ((if m then [q] else []) ++ p :: r)) (hp : p.size = 0) (hs : scr.size = if m then q.size else 0) :
    eqs (lowerB (tagText ⟨x, scr, upperB p, r⟩)) (lowerB s) = false := by
  have h1 : ((splitS (lowerB s) dash).map bts) = cut1 45 (bts (lowerB s)) := by
    show (splitS (lowerB s) ⟨#[45]⟩).map bts = _
    rw [splitS_one, List.map_map]
    exact List.map_id'' (fun l => bts_str l) _
  have h2 := join_cut1 45 (bts (lowerB s))
  rw [← h1] at h2
  have h3 := join_length 45 ((splitS (lowerB s) dash).map bts) (by rw [hl]; simp)
  rw [h2, hl] at h3
  rw [eqs_false]
  intro he
  have h4 := congrArg bts he
  have h5 := congrArg List.length h4
  unfold lowerB at h5
  rw [bts_mapB, List.length_map] at h5
  have e1 : bts (tagText ⟨x, scr, upperB p, r⟩) = Lib.join ((parts ⟨x, scr, upperB p, r⟩).map bts) [45] := bts_str _
  rw [e1] at h5
  have hup : (upperB p).size = 0 := by rw [← hp]; exact mapB_size _ _ _
  have e2 := sizes_filter ([x, scr, upperB p] ++ r)
  have e3 : Lib.lens (([x, scr, upperB p] ++ r).map bts) = x.size + scr.size + Lib.lens (r.map bts) := by
    simp only [Lib.lens, List.cons_append, List.nil_append, List.map_cons, List.sum_cons, bts_len, hup]; omega
  have e4 : (parts ⟨x, scr, upperB p, r⟩).length ≤ 1 + (if m then 1 else 0) + r.length := by
    show (([x, scr, upperB p] ++ r).filter (fun s => !eqs s ByteArray.empty)).length ≤ _
    rw [List.filter_append, List.length_append]
    have := List.length_filter_le (fun s => !eqs s ByteArray.empty) r
    have h6 : ([x, scr, upperB p].filter (fun s => !eqs s ByteArray.empty)).length ≤ 1 + (if m then 1 else 0) := by
      have hu : eqs (upperB p) ByteArray.empty = true := (empty_iff _).2 hup
      cases m with
      | true =>
        have : ([x, scr, upperB p].filter (fun s => !eqs s ByteArray.empty)) = [x, scr].filter (fun s => !eqs s ByteArray.empty) := by
          simp [List.filter_cons, hu]
        rw [this]
        exact Nat.le_trans (List.length_filter_le _ _) (by simp)
      | false =>
        have hsc : eqs scr ByteArray.empty = true := (empty_iff _).2 (by simpa using hs)
        have : ([x, scr, upperB p].filter (fun s => !eqs s ByteArray.empty)) = [x].filter (fun s => !eqs s ByteArray.empty) := by
          simp [List.filter_cons, hu, hsc]
        rw [this]
        exact Nat.le_trans (List.length_filter_le _ _) (by simp)
    omega
  have e5 : Lib.lens ((x :: ((if m then [q] else []) ++ p :: r)).map bts) = x.size + (if m then q.size else 0) + Lib.lens (r.map bts) := by
    cases m <;> simp [Lib.lens, bts_len, hp] <;> omega
  have e6 : (x :: ((if m then [q] else []) ++ p :: r)).length = 2 + (if m then 1 else 0) + r.length := by cases m <;> simp <;> omega
  rw [e5, List.length_map, e6, ← hs] at h3
  have hlow : (bts (lowerB s)).length = (bts (mapB isHigh 32 s)).length := rfl
  by_cases hne : parts ⟨x, scr, upperB p, r⟩ = []
  · rw [hne] at h5
    have : (Lib.join (([] : List ByteArray).map bts) [45]).length = 0 := rfl
    rw [this] at h5
    omega
  · have h7 := join_length 45 ((parts ⟨x, scr, upperB p, r⟩).map bts) (by simpa using hne)
    have e7 : Lib.lens ((parts ⟨x, scr, upperB p, r⟩).map bts) = x.size + scr.size + Lib.lens (r.map bts) := by rw [← e3]; exact e2
    rw [e7, List.length_map] at h7
    have e8 : 1 + (if m then 1 else 0) + r.length ≤ 2 + r.length := by cases m <;> simp
    omega

theorem region_short {p : ByteArray} (h : regionB p = true) : p.size < 4 := by
  unfold regionB made at h
  simp at h
  omega
theorem region_step (s : ByteArray) (x q : ByteArray) (l : List ByteArray) (m : Bool) (scr : ByteArray) (hl : splitS (lowerB s) dash = x :: ((if m then [q] else []) ++ l)) (hs : scr.size = if m then q.size else 0) :
    (rRegion l = regionOf l) ∨ (okTag s ⟨x, scr, (rRegion l).1, (rRegion l).2⟩ = false ∧ okTag s ⟨x, scr, (regionOf l).1, (regionOf l).2⟩ = false) := by
  match l with
  | [] => exact .inl rfl
  | p :: r =>
    unfold rRegion regionOf
    by_cases h : regionB (upperB p) = true
    · have h4 := region_short h
      rw [show (upperB p).size = p.size from mapB_size _ _ _] at h4
      exact .inl (by simp only [h, h4, if_true])
    · simp only [h]
      by_cases h4 : p.size < 4
      · right
        simp only [h4, if_true]
        constructor
        · by_cases h0 : p.size = 0
          · unfold okTag
            rw [text_short s x q p r m scr hl h0 hs, Bool.and_false]
          · exact okTag_fault (fault_head (headFault_region (by rw [show (upperB p).size = p.size from mapB_size _ _ _]; exact h0) (by simpa using h)))
        · exact okTag_fault (fault_short rfl (by omega))
      · left
        simp only [h4, if_false]
        rfl
theorem rTag_same (s : ByteArray) : rTag s = rawTag s ∨ (okTag s (rTag s) = false ∧ okTag s (rawTag s) = false) := by
  unfold rTag rawTag
  match hl : splitS (lowerB s) dash with
  | [] => exact .inl rfl
  | [x] => exact .inl rfl
  | x :: p :: r =>
    simp only [List.drop_succ_cons, List.drop_zero, List.headD_cons]
    have hno : ∀ b ∈ bts p, isHigh b = false := not_high_parts s p (by rw [hl]; simp)
    unfold rScript scriptOf
    by_cases hm : made isLow p 4 4 = true
    · have h4 : p.size = 4 := by unfold made at hm; simp at hm; omega
      simp only [hm, h4, if_true]
      rcases region_step s x p r true (upperB (p.extract 0 1) ++ p.extract 1 4) hl (by
        rw [← bts_len, bts_append, List.length_append]
        unfold upperB
        rw [bts_mapB, List.length_map, bts_extract, bts_extract]
        simp [bts_len, h4]) with h | h
      · left; rw [h]
      · right; exact h
    · simp only [hm]
      by_cases h4 : p.size = 4
      · simp only [h4, if_true]
        right
        constructor
        · refine okTag_fault (fault_head (headFault_script ?_ ?_))
          · rw [← bts_len, bts_append, List.length_append]
            simp only [bts_extract, upperB, bts_mapB]
            simp [bts_len, h4]
          · rw [← h4]; exact script_bad p h4 hno (by simpa using hm)
        · refine okTag_fault ?_
          have hr : regionB (upperB p) = false := by
            cases h : regionB (upperB p) with
            | false => rfl
            | true => have := region_short h; rw [show (upperB p).size = p.size from mapB_size _ _ _] at this; omega
          refine fault_short (p := p) (r := r) ?_ (by omega)
          simp [regionOf, hr]
      · simp only [h4, if_false]
        rcases region_step s x p (p :: r) false ByteArray.empty (by rw [hl]; rfl) rfl with h | h
        · left; simp [h]
        · right; simpa using h
theorem tagOf_parse (s : ByteArray) : tagOf s = parseTag s := by
  have e : ∀ t, okTag s t = (decide (tagFault t = 0) && eqs (lowerB (tagText t)) (lowerB s)) := fun _ => rfl
  unfold tagOf parseTag
  rw [← e]
  rcases rTag_same s with h | ⟨h1, h2⟩
  · rw [h]
  · rw [h1, h2]; rfl
end Go.Proofs.YtiaobgapfoogiaaGreatDoor
/- Bundles, plainly: their faults, where a key is; what is nearer counts. No program. -/

namespace Go.Proofs.YtiaobgapfoogiaaGreatDoor
open Go.RowKit

/- ## The first that is something -/
def firstS {α : Type} (f : Nat → Option α) : Nat → Option (Nat × α)
  | 0 => none
  | n + 1 => match firstS f n with | some r => some r | none => (f n).map (n, ·)
theorem firstS_none {α : Type} (f : Nat → Option α) : ∀ n, (∀ q, q < n → f q = none) → firstS f n = none
  | 0, _ => rfl
  | n + 1, h => by unfold firstS; rw [firstS_none f n fun q hq => h q (by omega), h n (by omega)]; rfl
theorem firstS_at {α : Type} (f : Nat → Option α) (j : Nat) (x : α) (h0 : ∀ q, q < j → f q = none) (hj : f j = some x) : ∀ n, j < n → firstS f n = some (j, x)
  | 0, h => absurd h (by omega)
  | n + 1, h => by
    unfold firstS
    by_cases hn : j < n
    · rw [firstS_at f j x h0 hj n hn]
    · obtain rfl : j = n := by omega
      rw [firstS_none f j h0, hj]; rfl
theorem firstS_some {α : Type} {f : Nat → Option α} : ∀ {n j : Nat} {x : α}, firstS f n = some (j, x) → j < n ∧ (∀ q, q < j → f q = none) ∧ f j = some x
  | 0, _, _, h => by cases h
  | n + 1, j, x, h => by
    unfold firstS at h
    cases hf : firstS f n with
    | some r =>
      rw [hf] at h
      injection h with h; subst h
      have := firstS_some hf
      exact ⟨by omega, this.2⟩
    | none =>
      rw [hf] at h
      simp only [Option.map_eq_some_iff] at h
      obtain ⟨y, hy, he⟩ := h
      injection he with e1 e2
      subst e1; subst e2
      refine ⟨by omega, fun q hq => ?_, hy⟩
      clear hy
      have key : ∀ m, firstS f m = none → ∀ q, q < m → f q = none := by
        intro m
        induction m with
        | zero => intro _ q hq; omega
        | succ m ih =>
          intro h q hq
          unfold firstS at h
          cases hm : firstS f m with
          | some r => rw [hm] at h; cases h
          | none =>
            rw [hm] at h
            by_cases e : q = m
            · subst e; simpa using h
            · exact ih hm q (by omega)
      exact key n hf q hq
theorem firstS_none_iff {α : Type} (f : Nat → Option α) (n : Nat) : firstS f n = none ↔ ∀ q, q < n → f q = none := by
  refine ⟨fun h q hq => ?_, firstS_none f n⟩
  cases hq2 : f q with
  | none => rfl
  | some x =>
    exfalso
    have key : ∀ m, q < m → firstS f m ≠ none := by
      intro m
      induction m with
      | zero => intro h; omega
      | succ m ih =>
        intro hm he
        unfold firstS at he
        cases h1 : firstS f m with
        | some r => rw [h1] at he; cases he
        | none =>
          rw [h1] at he
          by_cases e : q = m
          · subst e; rw [hq2] at he; cases he
          · exact ih (by omega) h1
    exact key n hq h
theorem firstS_congr {α : Type} (f g : Nat → Option α) : ∀ n, (∀ q, q < n → f q = g q) → firstS f n = firstS g n
  | 0, _ => rfl
  | n + 1, h => by unfold firstS; rw [firstS_congr f g n fun q hq => h q (by omega), h n (by omega)]
theorem firstS_more {α : Type} (f : Nat → Option α) (n : Nat) (h : f n = none) : firstS f (n + 1) = firstS f n := by
  rw [firstS, h]
  cases firstS f n <;> rfl

/- ## Bundles -/
structure Ent where
  key : ByteArray
  text : ByteArray
structure Bun where
  tag : ByteArray
  ents : List Ent
def noEnt : Ent := ⟨ByteArray.empty, ByteArray.empty⟩
def noBun : Bun := ⟨ByteArray.empty, []⟩
def Enc.ent : Enc Ent := ⟨2, 32, fun _ _ _ cs e => cs = [.string e.key, .string e.text], fun B e => e.key.size ≤ B ∧ e.text.size ≤ B, fun e => e.key.size + e.text.size⟩
theorem Enc.ent_laws : Enc.ent.Laws := ⟨fun h => by cases h; rfl, fun h _ => h, fun h _ _ => h⟩
def Enc.bun : Enc Bun := ⟨2, 40, fun w lo hi cs b => ∃ v, cs = [.string b.tag, v] ∧ ListOk Enc.ent w lo hi v b.ents, fun B b => b.tag.size ≤ B ∧ Enc.ent.list.fits B b.ents, fun b => b.tag.size + Enc.ent.list.bulk b.ents⟩
theorem Enc.bun_laws : Enc.bun.Laws :=
  ⟨fun ⟨_, h, _⟩ => by cases h; rfl, fun ⟨v, h, k⟩ ha => ⟨v, h, k.keep Enc.ent_laws ha⟩, fun ⟨v, h, k⟩ h1 h2 => ⟨v, h, k.mono Enc.ent_laws h1 h2⟩⟩

def isTag (s : ByteArray) : Bool := match parseTag s with | some t => eqs (tagText t) s | none => false
def isKey (c : UInt8) : Bool := isLow c || (isDig c || (decide (c.toNat = 46) || decide (c.toNat = 95)))
def keyOk (s : ByteArray) : Bool := decide (s.size ≠ 0) && (decide (s.size ≤ 40) && (bts s).all isKey)
def entAt (l : List Ent) (j : Nat) : Int :=
  if keyOk (l.getD j noEnt).key then (if (l.take j).any (fun e => eqs e.key (l.getD j noEnt).key) then 5 else if 2000 < (l.getD j noEnt).text.size then 4 else 0) else 3
def bunFault (b : Bun) : Int := if isTag b.tag then (if 100 < b.ents.length then 4 else firstN (entAt b.ents) b.ents.length) else 3
def loadAt (l : List Bun) (j : Nat) : Int :=
  if bunFault (l.getD j noBun) = 0 then (if (l.take j).any (fun b => eqs b.tag (l.getD j noBun).tag) then 5 else 0) else bunFault (l.getD j noBun)
def loadFault (l : List Bun) : Int := firstN (loadAt l) l.length
def entIdx (l : List Ent) (key : ByteArray) : Option Nat := l.findIdx? (fun e => eqs e.key key)
def hitOf (b : Bun) (nm key : ByteArray) : Option ByteArray := if eqs b.tag nm then (b.ents.find? (fun e => eqs e.key key)).map (·.text) else none
def hitAt (l : List Bun) (nm key : ByteArray) (i : Nat) : Option ByteArray := (l[i]?).bind (hitOf · nm key)
def findTag (l : List Bun) (nm key : ByteArray) : Option (Nat × ByteArray) := firstS (hitAt l nm key) l.length
def tagAt (l : List Bun) (c : List Tg) (key : ByteArray) (k : Nat) : Option (Nat × ByteArray) := (c[k]?).bind fun x => findTag l (tagText x) key
def en : ByteArray := ⟨#[101, 110]⟩
def enTg : Tg := ⟨en, ByteArray.empty, ByteArray.empty, []⟩
def chainEn (t : Tg) : List Tg := chainOf t ++ [enTg]
def findChain (l : List Bun) (t : Tg) (key : ByteArray) : Option (Nat × (Nat × ByteArray)) := firstS (tagAt l (chainEn t) key) (chainEn t).length
structure Found where
  err : Int
  at_ : Nat
  text : ByteArray
def findIn (l : List Bun) (name key : ByteArray) : Found :=
  if loadFault l = 0 then
    (if isTag name then
      match parseTag name with
      | some t => (match findChain l t key with | some (_, i, s) => ⟨0, i, s⟩ | none => ⟨2, 0, ByteArray.empty⟩)
      | none => ⟨3, 0, ByteArray.empty⟩
    else ⟨3, 0, ByteArray.empty⟩)
  else ⟨loadFault l, 0, ByteArray.empty⟩
/-- the text of a key in a bundle of just that tag -/
def textIn (l : List Bun) (nm key : ByteArray) : Option ByteArray := (findTag l nm key).map (·.2)

theorem isTag_some {s : ByteArray} (h : isTag s = true) : ∃ t, parseTag s = some t ∧ tagText t = s := by
  unfold isTag at h
  cases hp : parseTag s with
  | none => rw [hp] at h; cases h
  | some t => rw [hp] at h; exact ⟨t, rfl, (eqs_iff _ _).1 h⟩
theorem parse_fault {s : ByteArray} {t : Tg} (h : parseTag s = some t) : tagFault t = 0 := by
  unfold parseTag at h
  split at h
  · rename_i h1
    injection h with h; subst h
    simpa using (Bool.and_eq_true_iff.1 h1).1
  · cases h
theorem chain_head (t : Tg) : ∃ r, chainOf t = t :: r := by
  cases h : less t with
  | none => exact ⟨[], chainOf_none h⟩
  | some u => exact ⟨chainOf u, chainOf_some h⟩

/- ## What is nearer counts -/
theorem near_own (l : List Bun) (tag key : ByteArray) (own : ByteArray) (he : (findIn l tag key).err = 0) (ho : textIn l tag key = some own) :
    (findIn l tag key).text = own ∧ ∃ b, l[(findIn l tag key).at_]? = some b ∧ b.tag = tag := by
  unfold findIn at he ⊢
  by_cases h1 : loadFault l = 0
  · by_cases h2 : isTag tag = true
    · obtain ⟨t, hp, ht⟩ := isTag_some h2
      obtain ⟨r, hr⟩ := chain_head t
      unfold textIn at ho
      rw [Option.map_eq_some_iff] at ho
      obtain ⟨⟨i, s⟩, hf, rfl⟩ := ho
      have h0 : tagAt l (chainEn t) key 0 = some (i, s) := by
        unfold tagAt chainEn
        rw [hr]
        simp [ht, hf]
      have hc : findChain l t key = some (0, i, s) := by
        unfold findChain
        exact firstS_at _ 0 _ (fun q hq => absurd hq (by omega)) h0 _ (by unfold chainEn; simp)
      simp only [h1, h2, hp, hc, if_true]
      refine ⟨trivial, ?_⟩
      obtain ⟨hi, _, hh⟩ := firstS_some hf
      unfold hitAt at hh
      rw [Option.bind_eq_some_iff] at hh
      obtain ⟨b, hb, hh⟩ := hh
      refine ⟨b, hb, ?_⟩
      unfold hitOf at hh
      split at hh
      · rename_i h; exact (eqs_iff _ _).1 h
      · cases hh
    · simp only [h1, h2, if_true] at he
      cases he
  · simp only [h1, if_false] at he
theorem findTag_more (l : List Bun) (m : Bun) (nm key : ByteArray) (h : m.tag ≠ nm) : findTag (l ++ [m]) nm key = findTag l nm key := by
  unfold findTag
  rw [List.length_append, List.length_singleton, firstS_more]
  · exact firstS_congr _ _ _ fun q hq => by unfold hitAt; rw [List.getElem?_append_left hq]
  · unfold hitAt
    rw [List.getElem?_append_right (Nat.le_refl _), Nat.sub_self]
    simp only [List.getElem?_cons_zero, Option.bind_some]
    unfold hitOf
    rw [if_neg]
    rw [Bool.not_eq_true, eqs_false]
    exact h
theorem near_more (l : List Bun) (m : Bun) (tag key : ByteArray) (h1 : (findIn l tag key).err = 0) (h2 : (findIn (l ++ [m]) tag key).err = 0)
    (hen : m.tag ≠ en) (hno : ∀ t, parseTag tag = some t → ∀ x ∈ chainOf t, tagText x ≠ m.tag) :
    findIn (l ++ [m]) tag key = findIn l tag key := by
  unfold findIn at h1 h2 ⊢
  by_cases g1 : loadFault l = 0
  · by_cases g2 : loadFault (l ++ [m]) = 0
    · by_cases g3 : isTag tag = true
      · obtain ⟨t, hp, ht⟩ := isTag_some g3
        have hc : findChain (l ++ [m]) t key = findChain l t key := by
          unfold findChain
          refine firstS_congr _ _ _ fun k hk => ?_
          unfold tagAt
          cases hx : (chainEn t)[k]? with
          | none => rfl
          | some x =>
            simp only [Option.bind_some]
            refine findTag_more l m _ key ?_
            have hmem := List.mem_of_getElem? hx
            unfold chainEn at hmem
            rcases List.mem_append.1 hmem with h | h
            · exact (hno t hp x h).symm
            · obtain rfl := List.mem_singleton.1 h
              have e : tagText enTg = en := by decide +kernel
              rw [e]; exact hen
        simp only [g1, g2, g3, hp, hc, if_true]
      · simp only [g1, g3, if_true] at h1
        cases h1
    · simp only [g2, if_false] at h2
  · simp only [g1, if_false] at h1
end Go.Proofs.YtiaobgapfoogiaaGreatDoor
