/- Tags, plainly: their faults, texts, chains; the tag of a text. No program. -/
import Derived.Test.YtdmjelkjeiinjaaDoorBase
import Derived.Lib.SplitLaws
import Derived.Lib.Join
set_option linter.unusedSimpArgs false
set_option linter.unusedVariables false
namespace Go.Proofs.YtdmjelkjeiinjaaDoor
open Go.RowKit

/- ## Bytes of a string -/
def bts (s : ByteArray) : List UInt8 := s.data.toList
def str (l : List UInt8) : ByteArray := ⟨l.toArray⟩
theorem bts_str (l : List UInt8) : bts (str l) = l := rfl
theorem str_bts (s : ByteArray) : str (bts s) = s := by cases s; simp [str, bts]
theorem bts_len (s : ByteArray) : (bts s).length = s.size := by show s.data.toList.length = s.data.size; simp
theorem str_size (l : List UInt8) : (str l).size = l.length := by show l.toArray.size = _; simp
theorem bts_inj {a b : ByteArray} (h : bts a = bts b) : a = b := by rw [← str_bts a, ← str_bts b, h]
theorem eqs_bts (a b : ByteArray) : eqs a b = (bts a == bts b) := by unfold eqs bts; rw [ByteArray.toList_eq, ByteArray.toList_eq]

/- ## The first that is not nought -/
def firstN (f : Nat → Int) : Nat → Int
  | 0 => 0
  | n + 1 => if firstN f n = 0 then f n else firstN f n
theorem firstN_zero (f : Nat → Int) : ∀ n, (∀ q, q < n → f q = 0) → firstN f n = 0
  | 0, _ => rfl
  | n + 1, h => by unfold firstN; rw [if_pos (firstN_zero f n fun q hq => h q (by omega))]; exact h n (by omega)
theorem firstN_at (f : Nat → Int) (j : Nat) (h0 : ∀ q, q < j → f q = 0) (hj : f j ≠ 0) : ∀ n, j < n → firstN f n = f j
  | 0, h => absurd h (by omega)
  | n + 1, h => by
    unfold firstN
    by_cases hn : j < n
    · rw [firstN_at f j h0 hj n hn, if_neg hj]
    · obtain rfl : j = n := by omega
      rw [if_pos (firstN_zero f j h0)]
theorem firstN_zero_iff (f : Nat → Int) : ∀ n, firstN f n = 0 ↔ ∀ q, q < n → f q = 0
  | 0 => ⟨fun _ q hq => absurd hq (by omega), fun _ => rfl⟩
  | n + 1 => by
    refine ⟨fun h q hq => ?_, firstN_zero f _⟩
    unfold firstN at h
    split at h
    · rename_i h1
      by_cases e : q = n
      · subst e; exact h
      · exact (firstN_zero_iff f n).1 h1 q (by omega)
    · rename_i h1
      exact absurd h h1
theorem firstN_congr (f g : Nat → Int) : ∀ n, (∀ q, q < n → f q = g q) → firstN f n = firstN g n
  | 0, _ => rfl
  | n + 1, h => by unfold firstN; rw [firstN_congr f g n fun q hq => h q (by omega), h n (by omega)]

/- ## Kinds of signs -/
def isLow (c : UInt8) : Bool := decide (97 ≤ c.toNat) && decide (c.toNat ≤ 122)
def isHigh (c : UInt8) : Bool := decide (65 ≤ c.toNat) && decide (c.toNat ≤ 90)
def isDig (c : UInt8) : Bool := decide (48 ≤ c.toNat) && decide (c.toNat ≤ 57)
def isBoth (c : UInt8) : Bool := isLow c || isDig c
def made (p : UInt8 → Bool) (s : ByteArray) (a b : Nat) : Bool := (bts s).all p && (decide (a ≤ s.size) && decide (s.size ≤ b))
def scriptB (s : ByteArray) : Bool := decide (s.size = 4) && (((bts s).take 1).all isHigh && ((bts s).drop 1).all isLow)
def regionB (s : ByteArray) : Bool := made isHigh s 2 2 || made isDig s 3 3

/- ## Tags -/
structure Tg where
  lang : ByteArray
  script : ByteArray
  region : ByteArray
  vars : List ByteArray
def noTg : Tg := ⟨ByteArray.empty, ByteArray.empty, ByteArray.empty, []⟩
def headFault (t : Tg) : Bool := !made isLow t.lang 2 3 || (!eqs t.script ByteArray.empty && !scriptB t.script || !eqs t.region ByteArray.empty && !regionB t.region)
def varAt (l : List ByteArray) (j : Nat) : Int := if made isBoth (l.getD j ByteArray.empty) 5 8 then (if (l.take j).any (eqs · (l.getD j ByteArray.empty)) then 5 else 0) else 3
def tagFault (t : Tg) : Int :=
  if headFault t then 3
  else if firstN (varAt t.vars) t.vars.length = 0 then (if 3 < t.vars.length then 4 else 0)
  else firstN (varAt t.vars) t.vars.length
def parts (t : Tg) : List ByteArray := ([t.lang, t.script, t.region] ++ t.vars).filter (fun s => !eqs s ByteArray.empty)
def joined (l : List ByteArray) (sep : ByteArray) : ByteArray := str (Lib.join (l.map bts) (bts sep))
def dash : ByteArray := ⟨#[45]⟩
def tagText (t : Tg) : ByteArray := joined (parts t) dash
def mapB (p : UInt8 → Bool) (x : UInt8) (s : ByteArray) : ByteArray := str ((bts s).map fun c => if p c then c ^^^ x else c)
def lowerB (s : ByteArray) : ByteArray := mapB isHigh 32 s
def upperB (s : ByteArray) : ByteArray := mapB isLow 32 s
def splitS (s sep : ByteArray) : List ByteArray := Lib.splitB sep 0 (Lib.countB s sep) s

/-- What the parts of a lowered text say, as the code takes them. -/
def scriptOf (l : List ByteArray) : ByteArray × List ByteArray :=
  match l with
  | p :: r => if made isLow p 4 4 then (upperB (p.extract 0 1) ++ p.extract 1 p.size, r) else (ByteArray.empty, p :: r)
  | [] => (ByteArray.empty, [])
def regionOf (l : List ByteArray) : ByteArray × List ByteArray :=
  match l with
  | p :: r => if regionB (upperB p) then (upperB p, r) else (ByteArray.empty, p :: r)
  | [] => (ByteArray.empty, [])
def rawTag (s : ByteArray) : Tg :=
  let l := splitS (lowerB s) dash
  let b := scriptOf (l.drop 1)
  let c := regionOf b.2
  ⟨l.headD ByteArray.empty, b.1, c.1, c.2⟩
def parseTag (s : ByteArray) : Option Tg :=
  if tagFault (rawTag s) = 0 && eqs (lowerB (tagText (rawTag s))) (lowerB s) then some (rawTag s) else none

def less (t : Tg) : Option Tg :=
  if t.vars.length ≠ 0 then some { t with vars := t.vars.take (t.vars.length - 1) }
  else if eqs t.region ByteArray.empty then (if eqs t.script ByteArray.empty then none else some { t with script := ByteArray.empty })
  else some { t with region := ByteArray.empty }
/-- how often a tag can be less -/
def deg (t : Tg) : Nat := t.vars.length + ((if eqs t.region ByteArray.empty then 0 else 1) + (if eqs t.script ByteArray.empty then 0 else 1))
theorem less_deg {t u : Tg} (h : less t = some u) : deg u < deg t := by
  unfold less at h
  split at h
  · injection h with h; subst h
    simp only [deg, List.length_take]; omega
  · split at h
    · split at h
      · cases h
      · injection h with h; subst h
        rename_i h1 h2 h3
        simp only [deg, h3, eqs_self, if_true]
        simp
    · injection h with h; subst h
      rename_i h1 h2
      simp only [deg, h2, eqs_self, if_true]
      simp
def chainN : Nat → Tg → List Tg
  | 0, t => [t]
  | n + 1, t => match less t with | some u => t :: chainN n u | none => [t]
def chainOf (t : Tg) : List Tg := chainN (deg t) t
theorem chainN_stop {t : Tg} (h : less t = none) : ∀ n, chainN n t = [t]
  | 0 => rfl
  | n + 1 => by unfold chainN; rw [h]
theorem chainN_enough : ∀ (n m : Nat) (t : Tg), deg t ≤ n → deg t ≤ m → chainN n t = chainN m t
  | 0, m, t, hn, _ => by
    have h : less t = none := by
      cases h : less t with
      | none => rfl
      | some u => have := less_deg h; omega
    rw [chainN_stop h, chainN_stop h]
  | n + 1, 0, t, _, hm => by
    have h : less t = none := by
      cases h : less t with
      | none => rfl
      | some u => have := less_deg h; omega
    rw [chainN_stop h, chainN_stop h]
  | n + 1, m + 1, t, hn, hm => by
    unfold chainN
    cases h : less t with
    | none => rfl
    | some u => have := less_deg h; simp only; rw [chainN_enough n m u (by omega) (by omega)]
theorem chainOf_some {t u : Tg} (h : less t = some u) : chainOf t = t :: chainOf u := by
  have := less_deg h
  unfold chainOf
  obtain ⟨k, hk⟩ : ∃ k, deg t = k + 1 := ⟨deg t - 1, by omega⟩
  rw [hk, chainN, h]
  simp only
  rw [chainN_enough k (deg u) u (by omega) (Nat.le_refl _)]
theorem chainOf_none {t : Tg} (h : less t = none) : chainOf t = [t] := chainN_stop h _
theorem chainOf_length (t : Tg) : (chainOf t).length ≤ deg t + 1 := by
  have : ∀ n t, (chainN n t).length ≤ n + 1 := by
    intro n
    induction n with
    | zero => intro t; simp [chainN]
    | succ n ih =>
      intro t
      unfold chainN
      split
      · have := ih ‹_›; simp; omega
      · simp
  exact this _ _

/- ## Cut at one byte -/
def cut1 (c : UInt8) : List UInt8 → List (List UInt8)
  | [] => [[]]
  | b :: l => if b = c then [] :: cut1 c l else (b :: (cut1 c l).headD []) :: (cut1 c l).tail
theorem cut1_ne (c : UInt8) : ∀ l, cut1 c l ≠ []
  | [] => by simp [cut1]
  | b :: l => by unfold cut1; split <;> simp
theorem cut1_cons (c : UInt8) (l : List UInt8) : (cut1 c l).headD [] :: (cut1 c l).tail = cut1 c l := by
  cases h : cut1 c l with
  | nil => exact absurd h (cut1_ne c l)
  | cons x r => rfl
theorem index_one_cons (b c : UInt8) (l : List UInt8) (h : b ≠ c) : Lib.index (b :: l) [c] = if Lib.index l [c] == -1 then -1 else Lib.index l [c] + 1 := by
  have hp : ([c] : List UInt8).isPrefixOf (b :: l) = false := by simp [List.isPrefixOf, Ne.symm h]
  rw [Lib.index, hp]; simp
theorem splitK_one (c : UInt8) : ∀ l : List UInt8, Lib.splitK [c] 0 (l.count c) l = cut1 c l
  | [] => rfl
  | b :: l => by
    by_cases h : b = c
    · subst h
      have hix : Lib.index (b :: l) [b] = 0 := by rw [Lib.index]; simp [List.isPrefixOf]
      rw [List.count_cons_self, Lib.splitK, hix, cut1, if_pos rfl, ← splitK_one b l]
      rfl
    · have ih := splitK_one c l
      rw [List.count_cons_of_ne (by simpa using h), cut1, if_neg h, ← ih]
      cases hk : l.count c with
      | zero => rfl
      | succ k =>
        have hne : ¬ Lib.index l [c] = -1 := fun e => by
          have := Lib.count_miss e
          rw [Lib.count_one] at this; omega
        have hge := Lib.index_ge l [c]
        have e1 : Lib.index (b :: l) [c] = Lib.index l [c] + 1 := by rw [index_one_cons b c l h, if_neg (by simpa using hne)]
        unfold Lib.splitK
        rw [if_neg (by rw [e1]; simp; omega), if_neg (by simpa using hne), e1]
        obtain ⟨i, hi⟩ : ∃ i : Nat, Lib.index l [c] = i := ⟨(Lib.index l [c]).toNat, by omega⟩
        rw [hi]
        simp only [show ((i : Int) + 1).toNat = i + 1 from by omega, Int.toNat_natCast, List.length_singleton, Nat.add_zero, List.take_succ_cons, List.drop_succ_cons, List.headD_cons, List.tail_cons]
theorem splitS_one (s : ByteArray) (c : UInt8) : splitS s ⟨#[c]⟩ = (cut1 c (bts s)).map str := by
  have h := Lib.splitB_data ⟨#[c]⟩ 0 (Lib.countB s ⟨#[c]⟩) s
  have e : Lib.countB s ⟨#[c]⟩ = (bts s).count c := Lib.count_one c _
  have h2 : (splitS s ⟨#[c]⟩).map bts = cut1 c (bts s) := by
    rw [← splitK_one c (bts s), ← e]
    exact h
  rw [← h2, List.map_map]
  exact (List.map_id'' (fun x => str_bts x) _).symm
theorem cut1_mem_ne (c : UInt8) : ∀ (l : List UInt8) x, x ∈ cut1 c l → ∀ b ∈ x, b ≠ c ∧ b ∈ l
  | [], x, h, b, hb => by simp [cut1] at h; subst h; cases hb
  | a :: l, x, h, b, hb => by
    unfold cut1 at h
    split at h
    · rcases List.mem_cons.1 h with rfl | h
      · cases hb
      · have := cut1_mem_ne c l x h b hb
        exact ⟨this.1, List.mem_cons_of_mem _ this.2⟩
    · rename_i hne
      rcases List.mem_cons.1 h with rfl | h
      · rcases List.mem_cons.1 hb with rfl | hb
        · exact ⟨hne, List.mem_cons_self⟩
        · have := cut1_mem_ne c l _ (by rw [← cut1_cons c l]; exact List.mem_cons_self) b hb
          exact ⟨this.1, List.mem_cons_of_mem _ this.2⟩
      · have := cut1_mem_ne c l x (List.mem_of_mem_tail h) b hb
        exact ⟨this.1, List.mem_cons_of_mem _ this.2⟩
theorem join_cut1 (c : UInt8) : ∀ l : List UInt8, Lib.join (cut1 c l) [c] = l
  | [] => by simp [cut1, Lib.join_one]
  | b :: l => by
    have ih := join_cut1 c l
    unfold cut1
    split
    · rename_i h
      subst h
      rw [Lib.join_cons]
      rw [← cut1_cons b l, Lib.join_cons] at ih
      rw [← cut1_cons b l]
      simp only [Lib.joinTail, List.map_cons, List.flatten_cons, List.nil_append, List.append_assoc] at ih ⊢
      rw [ih]; rfl
    · rw [← cut1_cons c l, Lib.join_cons] at ih
      rw [Lib.join_cons, List.cons_append, ih]

/- ## How tags lie -/
def Enc.tag : Enc Tg := ⟨4, 72, fun w lo hi cs t => ∃ v, cs = [.string t.lang, .string t.script, .string t.region, v] ∧ ListOk Enc.str w lo hi v t.vars,
  fun B t => t.lang.size ≤ B ∧ t.script.size ≤ B ∧ t.region.size ≤ B ∧ Enc.str.list.fits B t.vars, fun t => t.lang.size + t.script.size + t.region.size + Enc.str.list.bulk t.vars⟩
theorem Enc.tag_laws : Enc.tag.Laws :=
  ⟨fun ⟨_, h, _⟩ => by cases h; rfl, fun ⟨v, h, k⟩ ha => ⟨v, h, k.keep Enc.str_laws ha⟩, fun ⟨v, h, k⟩ h1 h2 => ⟨v, h, k.mono Enc.str_laws h1 h2⟩⟩
end Go.Proofs.YtdmjelkjeiinjaaDoor
