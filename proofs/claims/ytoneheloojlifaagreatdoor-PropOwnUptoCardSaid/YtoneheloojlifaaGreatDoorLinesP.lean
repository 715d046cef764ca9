/- Bundles as lines, plainly: escapes, lines, there and back. No program. -/
import Derived.Test.YtoneheloojlifaaGreatDoorDiffP
import Derived.Test.YtoneheloojlifaaGreatDoorRefE
import Derived.Test.YtoneheloojlifaaGreatDoorPropP
namespace Go.Proofs.YtoneheloojlifaaGreatDoor
open Go.RowKit

/- ## Escapes -/
def esc1 (c : UInt8) : List UInt8 := if c = 92 then [92, 92] else if c = 10 then [92, 110] else if c = 13 then [92, 114] else [c]
def escL (l : List UInt8) : List UInt8 := l.flatMap esc1
theorem escL_cons (c : UInt8) (l : List UInt8) : escL (c :: l) = esc1 c ++ escL l := rfl
theorem escL_append (a b : List UInt8) : escL (a ++ b) = escL a ++ escL b := List.flatMap_append
theorem esc1_no10 (c : UInt8) : ∀ b ∈ esc1 c, b ≠ 10 := by
  intro b hb
  unfold esc1 at hb
  split at hb
  · simp at hb; subst hb; decide
  · split at hb
    · simp at hb; rcases hb with rfl | rfl <;> decide
    · split at hb
      · simp at hb; rcases hb with rfl | rfl <;> decide
      · simp at hb; subst hb; assumption
theorem escL_no10 (l : List UInt8) : ∀ b ∈ escL l, b ≠ 10 := by
  intro b hb
  obtain ⟨c, _, h⟩ := List.mem_flatMap.1 hb
  exact esc1_no10 c b h
theorem escL_len (l : List UInt8) : (escL l).length ≤ 2 * l.length := by
  induction l with
  | nil => exact Nat.le_refl _
  | cons c l ih =>
    rw [escL_cons, List.length_append, List.length_cons]
    have : (esc1 c).length ≤ 2 := by unfold esc1; split <;> (try split) <;> (try split) <;> simp
    omega
/-- what a letter behind a stroke stands for -/
def unesc (d : UInt8) : UInt8 := if d = 110 then 10 else if d = 114 then 13 else 92
def bareL : List UInt8 → List UInt8
  | [] => []
  | [c] => [c]
  | c :: d :: r => if c = 92 then unesc d :: bareL r else c :: bareL (d :: r)
theorem bareL_cons {c : UInt8} (hc : c ≠ 92) (l : List UInt8) : bareL (c :: l) = c :: bareL l := by
  cases l with
  | nil => rfl
  | cons d r => rw [bareL, if_neg hc]
theorem bareL_two (d : UInt8) (r : List UInt8) : bareL (92 :: d :: r) = unesc d :: bareL r := by
  rw [bareL, if_pos rfl]
theorem bareL_esc : ∀ l, bareL (escL l) = l
  | [] => rfl
  | c :: l => by
    rw [escL_cons]
    unfold esc1
    split
    · rename_i h; subst h
      show bareL (92 :: 92 :: escL l) = _
      rw [bareL_two, bareL_esc l]; rfl
    · split
      · rename_i h; subst h
        show bareL (92 :: 110 :: escL l) = _
        rw [bareL_two, bareL_esc l]; rfl
      · split
        · rename_i h; subst h
          show bareL (92 :: 114 :: escL l) = _
          rw [bareL_two, bareL_esc l]; rfl
        · rename_i h _ _
          show bareL (c :: escL l) = _
          rw [bareL_cons h, bareL_esc l]
/-- the strict one: nothing else may stand behind a stroke -/
def unescR (d : UInt8) : Option UInt8 := if d = 110 then some 10 else if d = 114 then some 13 else if d = 92 then some 92 else none
def bareR : List UInt8 → Option (List UInt8)
  | [] => some []
  | [c] => if c = 92 then none else some [c]
  | c :: d :: r => if c = 92 then (match unescR d with | some x => (bareR r).map (x :: ·) | none => none) else (bareR (d :: r)).map (c :: ·)
theorem bareR_cons {c : UInt8} (hc : c ≠ 92) (l : List UInt8) : bareR (c :: l) = (bareR l).map (c :: ·) := by
  cases l with
  | nil => simp [bareR, hc]
  | cons d r => rw [bareR, if_neg hc]
theorem bareR_two (d : UInt8) (r : List UInt8) : bareR (92 :: d :: r) = (match unescR d with | some x => (bareR r).map (x :: ·) | none => none) := by
  rw [bareR, if_pos rfl]
theorem unescR_eq {d x : UInt8} (h : unescR d = some x) : unesc d = x := by
  unfold unescR at h
  unfold unesc
  split at h
  · rename_i e; rw [if_pos e]; exact Option.some.inj h
  · rename_i e
    rw [if_neg e]
    split at h
    · rename_i e2; rw [if_pos e2]; exact Option.some.inj h
    · rename_i e2
      rw [if_neg e2]
      split at h
      · exact Option.some.inj h
      · cases h
theorem bareR_some : ∀ (n : Nat) (l out : List UInt8), l.length ≤ n → bareR l = some out → out = bareL l
  | _, [], out, _, h => by rw [bareR] at h; exact (Option.some.inj h).symm
  | 0, c :: l, _, hn, _ => by simp at hn
  | n + 1, [c], out, _, h => by
    rw [bareR] at h
    split at h
    · cases h
    · exact (Option.some.inj h).symm
  | n + 1, c :: d :: r, out, hn, h => by
    by_cases hc : c = 92
    · subst hc
      rw [bareR_two] at h
      cases hu : unescR d with
      | none => rw [hu] at h; cases h
      | some x =>
        rw [hu] at h
        simp only [Option.map_eq_some_iff] at h
        obtain ⟨y, hy, rfl⟩ := h
        rw [bareL_two, unescR_eq hu, bareR_some n r y (by simp at hn; omega) hy]
    · rw [bareR_cons hc] at h
      simp only [Option.map_eq_some_iff] at h
      obtain ⟨y, hy, rfl⟩ := h
      rw [bareL_cons hc, bareR_some n (d :: r) y (by simpa using hn) hy]
theorem bareR_esc : ∀ l, bareR (escL l) = some l
  | [] => rfl
  | c :: l => by
    rw [escL_cons]
    unfold esc1
    split
    · rename_i h; subst h
      show bareR (92 :: 92 :: escL l) = _
      rw [bareR_two, bareR_esc l]; rfl
    · split
      · rename_i h; subst h
        show bareR (92 :: 110 :: escL l) = _
        rw [bareR_two, bareR_esc l]; rfl
      · split
        · rename_i h; subst h
          show bareR (92 :: 114 :: escL l) = _
          rw [bareR_two, bareR_esc l]; rfl
        · rename_i h _ _
          show bareR (c :: escL l) = _
          rw [bareR_cons h, bareR_esc l]; rfl
/-- what the strict one tells, with the test that follows -/
theorem bareR_is (l : List UInt8) : (∃ out, bareR l = some out ∧ escL out = l) ↔ escL (bareL l) = l := by
  constructor
  · rintro ⟨out, h1, h2⟩
    rw [bareR_some _ l out (Nat.le_refl _) h1] at h2; exact h2
  · intro h
    refine ⟨bareL l, ?_, h⟩
    have := bareR_esc (bareL l)
    rwa [h] at this

/- ## Lines -/
def lineL (e : Ent) : List UInt8 := bts e.key ++ 61 :: escL (bts e.text)
def nlL (p : List UInt8) : List UInt8 := p ++ [10]
def linesL (b : Bun) : List UInt8 := nlL (64 :: bts b.tag) ++ (b.ents.map lineL).flatMap nlL
theorem cut_nl : ∀ (ls : List (List UInt8)) (r : List UInt8), (∀ p ∈ ls, ∀ c ∈ p, c ≠ 10) → cut1 10 (ls.flatMap nlL ++ r) = ls ++ cut1 10 r
  | [], _, _ => rfl
  | p :: ls, r, h => by
    have e : (p :: ls).flatMap nlL ++ r = p ++ 10 :: (ls.flatMap nlL ++ r) := by simp [nlL]
    rw [e, cut1_at 10 _ p (h p List.mem_cons_self), cut_nl ls r fun q hq => h q (List.mem_cons_of_mem _ hq)]; rfl
theorem cut_back : ∀ (l : List UInt8), ∃ ls r, cut1 10 l = ls ++ [r] ∧ l = ls.flatMap nlL ++ r ∧ (∀ p ∈ ls, ∀ c ∈ p, c ≠ 10) ∧ ∀ c ∈ r, c ≠ 10
  | [] => ⟨[], [], rfl, rfl, by simp, by simp⟩
  | c :: l => by
    obtain ⟨ls, r, h1, h2, h3, h4⟩ := cut_back l
    by_cases hc : c = 10
    · subst hc
      refine ⟨[] :: ls, r, by rw [cut1, if_pos rfl, h1]; rfl, by rw [h2]; simp [nlL], fun p hp => ?_, h4⟩
      rcases List.mem_cons.1 hp with rfl | hp
      · simp
      · exact h3 p hp
    · cases ls with
      | nil =>
        refine ⟨[], c :: r, by rw [cut1, if_neg hc, h1]; rfl, by rw [h2]; rfl, by simp, fun d hd => ?_⟩
        rcases List.mem_cons.1 hd with rfl | hd
        · exact hc
        · exact h4 d hd
      | cons p ls =>
        refine ⟨(c :: p) :: ls, r, by rw [cut1, if_neg hc, h1]; rfl, by rw [h2]; simp [nlL], fun q hq => ?_, h4⟩
        rcases List.mem_cons.1 hq with rfl | hq
        · intro d hd
          rcases List.mem_cons.1 hd with rfl | hd
          · exact hc
          · exact h3 p List.mem_cons_self d hd
        · exact h3 q (List.mem_cons_of_mem _ hq)

/- ## The signs of tags and keys -/
def okC (c : UInt8) : Bool := isLow c || (isHigh c || (isDig c || decide (c.toNat = 45)))
theorem okC_all : ∀ n, n < 256 → okC (UInt8.ofNat n) = true → UInt8.ofNat n ≠ 10 ∧ UInt8.ofNat n ≠ 64 := by decide +kernel
theorem okC_ne {c : UInt8} (h : okC c = true) : c ≠ 10 ∧ c ≠ 64 := by
  have := okC_all c.toNat c.toNat_lt
  rw [UInt8.ofNat_toNat] at this
  exact this h
theorem isKey_all : ∀ n, n < 256 → isKey (UInt8.ofNat n) = true → UInt8.ofNat n ≠ 10 ∧ UInt8.ofNat n ≠ 61 ∧ UInt8.ofNat n ≠ 33 := by decide +kernel
theorem isKey_ne {c : UInt8} (h : isKey c = true) : c ≠ 10 ∧ c ≠ 61 ∧ c ≠ 33 := by
  have := isKey_all c.toNat c.toNat_lt
  rw [UInt8.ofNat_toNat] at this
  exact this h
theorem okC_low {c : UInt8} (h : isLow c = true) : okC c = true := by simp [okC, h]
theorem okC_high {c : UInt8} (h : isHigh c = true) : okC c = true := by simp [okC, h]
theorem okC_dig {c : UInt8} (h : isDig c = true) : okC c = true := by simp [okC, h]
theorem made_all {p : UInt8 → Bool} {s : ByteArray} {a b : Nat} (h : made p s a b = true) : ∀ c ∈ bts s, p c = true := by
  simp only [made, Bool.and_eq_true] at h
  exact List.all_eq_true.1 h.1
theorem script_ok {s : ByteArray} (h : scriptB s = true) : ∀ c ∈ bts s, okC c = true := by
  simp only [scriptB, Bool.and_eq_true] at h
  intro c hc
  rw [← List.take_append_drop 1 (bts s)] at hc
  rcases List.mem_append.1 hc with hc | hc
  · exact okC_high (List.all_eq_true.1 h.2.1 c hc)
  · exact okC_low (List.all_eq_true.1 h.2.2 c hc)
theorem region_ok {s : ByteArray} (h : regionB s = true) : ∀ c ∈ bts s, okC c = true := by
  simp only [regionB, Bool.or_eq_true] at h
  intro c hc
  rcases h with h | h
  · exact okC_high (made_all h c hc)
  · exact okC_dig (made_all h c hc)
theorem eqs_empty {s : ByteArray} (h : eqs s ByteArray.empty = true) : bts s = [] := by
  rw [eqs_bts, beq_iff_eq] at h; rw [h]; rfl
theorem tag_parts {t : Tg} (h : tagFault t = 0) : ∀ s ∈ [t.lang, t.script, t.region] ++ t.vars, ∀ c ∈ bts s, okC c = true := by
  unfold tagFault at h
  cases hh : headFault t with
  | true => rw [hh] at h; simp at h
  | false =>
    rw [hh] at h
    simp only [Bool.false_eq_true, if_false] at h
    have hv : firstN (varAt t.vars) t.vars.length = 0 := by
      by_cases e : firstN (varAt t.vars) t.vars.length = 0
      · exact e
      · rw [if_neg e] at h; exact h
    rw [firstN_zero_iff] at hv
    simp only [headFault, Bool.or_eq_false_iff, Bool.not_eq_false', Bool.and_eq_false_iff, Bool.not_eq_false] at hh
    obtain ⟨h1, h2, h3⟩ := hh
    intro s hs c hc
    simp only [List.cons_append, List.nil_append, List.mem_cons] at hs
    rcases hs with rfl | rfl | rfl | hs
    · exact okC_low (made_all (by simpa using h1) c hc)
    · rcases h2 with h2 | h2
      · rw [eqs_empty (by simpa using h2)] at hc; cases hc
      · exact script_ok (by simpa using h2) c hc
    · rcases h3 with h3 | h3
      · rw [eqs_empty (by simpa using h3)] at hc; cases hc
      · exact region_ok (by simpa using h3) c hc
    · obtain ⟨j, hj, rfl⟩ := List.mem_iff_getElem.1 hs
      have hj2 := hv j hj
      have e : t.vars.getD j ByteArray.empty = t.vars[j] := by rw [List.getD_eq_getElem?_getD, List.getElem?_eq_getElem hj]; rfl
      unfold varAt at hj2
      rw [e] at hj2
      cases hm : made isBoth t.vars[j] 5 8 with
      | false => rw [hm] at hj2; simp at hj2
      | true =>
        have := made_all hm c hc
        simp only [isBoth, Bool.or_eq_true] at this
        rcases this with h | h
        · exact okC_low h
        · exact okC_dig h
theorem join_mem : ∀ (L : List (List UInt8)) (sep : List UInt8) (c : UInt8), c ∈ Lib.join L sep → (∃ x ∈ L, c ∈ x) ∨ c ∈ sep
  | [], _, _, h => by rw [Lib.join_nil] at h; cases h
  | x :: r, sep, c, h => by
    rw [Lib.join_cons] at h
    rcases List.mem_append.1 h with h | h
    · exact .inl ⟨x, List.mem_cons_self, h⟩
    · unfold Lib.joinTail at h
      obtain ⟨y, hy, hc⟩ := List.mem_flatten.1 h
      obtain ⟨z, hz, rfl⟩ := List.mem_map.1 hy
      rcases List.mem_append.1 hc with hc | hc
      · exact .inr hc
      · exact .inl ⟨z, List.mem_cons_of_mem _ hz, hc⟩
theorem isTag_ok {s : ByteArray} (h : isTag s = true) : ∀ c ∈ bts s, okC c = true := by
  unfold isTag at h
  cases hp : parseTag s with
  | none => rw [hp] at h; cases h
  | some t =>
    rw [hp] at h
    have ht : bts (tagText t) = bts s := by
      have h' : eqs (tagText t) s = true := h
      rw [eqs_bts, beq_iff_eq] at h'; exact h'
    have hf : tagFault t = 0 := by
      unfold parseTag at hp
      split at hp
      · rename_i hc
        rw [← Option.some.inj hp]
        simp only [Bool.and_eq_true, decide_eq_true_eq] at hc
        exact hc.1
      · cases hp
    intro c hc
    rw [← ht] at hc
    unfold tagText joined at hc
    rw [bts_str] at hc
    rcases join_mem _ _ _ hc with ⟨x, hx, h2⟩ | h2
    · obtain ⟨y, hy, rfl⟩ := List.mem_map.1 hx
      exact tag_parts hf y ((List.mem_filter.1 hy).1) c h2
    · have : c = 45 := by simpa [dash, bts] using h2
      subst this; decide
theorem keyOk_all {s : ByteArray} (h : keyOk s = true) : bts s ≠ [] ∧ ∀ c ∈ bts s, isKey c = true := by
  simp only [keyOk, Bool.and_eq_true, decide_eq_true_eq] at h
  refine ⟨fun e => h.1 ?_, List.all_eq_true.1 h.2.2⟩
  rw [← bts_len, e]; rfl
theorem line_no10 {e : Ent} (h : keyOk e.key = true) : ∀ c ∈ lineL e, c ≠ 10 := by
  intro c hc
  unfold lineL at hc
  rcases List.mem_append.1 hc with hc | hc
  · exact (isKey_ne ((keyOk_all h).2 c hc)).1
  · rcases List.mem_cons.1 hc with rfl | hc
    · decide
    · exact escL_no10 _ c hc

/- ## A bundle's lines, with some that are left out -/
def skipL (p : List UInt8) : Bool := match p with | [] => true | c :: _ => decide (c = 33)
def keyL (p : List UInt8) : List UInt8 := p.takeWhile (fun c => decide (c ≠ 61))
def valL (p : List UInt8) : List UInt8 := (p.dropWhile (fun c => decide (c ≠ 61))).drop 1
def entQ (p : List UInt8) : Ent := ⟨str (keyL p), str (bareL (valL p))⟩
structure IsOf (s : List UInt8) (b : Bun) (ls : List (List UInt8)) : Prop where
  right : Right b
  eq : s = nlL (64 :: bts b.tag) ++ ls.flatMap nlL
  no10 : ∀ p ∈ ls, ∀ c ∈ p, c ≠ 10
  ents : ls.filter (fun p => !skipL p) = b.ents.map lineL
theorem skip_line {e : Ent} (h : keyOk e.key = true) : skipL (lineL e) = false := by
  obtain ⟨h1, h2⟩ := keyOk_all h
  unfold lineL
  cases hk : bts e.key with
  | nil => exact absurd hk h1
  | cons c r =>
    have := (isKey_ne (h2 c (by rw [hk]; exact List.mem_cons_self))).2.2
    simpa [skipL] using this
theorem key_cut (k r : List UInt8) (h : ∀ c ∈ k, c ≠ 61) : keyL (k ++ 61 :: r) = k ∧ valL (k ++ 61 :: r) = r := by
  unfold keyL valL
  induction k with
  | nil => simp
  | cons c k ih =>
    have hc := h c List.mem_cons_self
    obtain ⟨h1, h2⟩ := ih fun x hx => h x (List.mem_cons_of_mem _ hx)
    constructor
    · rw [List.cons_append, List.takeWhile_cons, if_pos (by simpa using hc), h1]
    · rw [List.cons_append, List.dropWhile_cons, if_pos (by simpa using hc), h2]
theorem entQ_line {e : Ent} (h : keyOk e.key = true) : entQ (lineL e) = e := by
  obtain ⟨h1, h2⟩ := key_cut (bts e.key) (escL (bts e.text)) fun c hc => (isKey_ne ((keyOk_all h).2 c hc)).2.1
  unfold entQ lineL
  rw [h1, h2, bareL_esc, str_bts, str_bts]
theorem entQ_map {l : List Ent} (h : ∀ e ∈ l, keyOk e.key = true) : (l.map lineL).map entQ = l := by
  rw [List.map_map]
  conv => rhs; rw [← List.map_id l]
  exact List.map_congr_left fun e he => entQ_line (h e he)
theorem Right.tag10 {b : Bun} (h : Right b) : ∀ c ∈ (64 :: bts b.tag : List UInt8), c ≠ 10 := by
  intro c hc
  rcases List.mem_cons.1 hc with rfl | hc
  · decide
  · exact (okC_ne (isTag_ok h.tag c hc)).1
theorem IsOf.cut {s : List UInt8} {b : Bun} {ls : List (List UInt8)} (h : IsOf s b ls) : cut1 10 s = (64 :: bts b.tag) :: (ls ++ [[]]) := by
  have e : s = ((64 :: bts b.tag) :: ls).flatMap nlL ++ [] := by rw [h.eq]; simp
  rw [e, cut_nl _ _ fun p hp => by
    rcases List.mem_cons.1 hp with rfl | hp
    · exact h.right.tag10
    · exact h.no10 p hp]
  rfl
theorem IsOf.same {s : List UInt8} {b b' : Bun} {ls ls' : List (List UInt8)} (h : IsOf s b ls) (h' : IsOf s b' ls') : b = b' ∧ ls = ls' := by
  have e := h.cut.symm.trans h'.cut
  injection e with e1 e2
  injection e1 with _ e1
  have e3 := List.append_cancel_right e2
  have e4 : b.ents = b'.ents := by
    have := h.ents.symm.trans ((by rw [e3]) : _ = _)
    rw [h'.ents] at this
    rw [← entQ_map fun e he => (h.right.each e he).1, this, entQ_map fun e he => (h'.right.each e he).1]
  have e5 : b.tag = b'.tag := bts_inj e1
  obtain ⟨t, es⟩ := b
  obtain ⟨t', es'⟩ := b'
  dsimp only at e4 e5
  subst e4; subst e5
  exact ⟨rfl, e3⟩
/-- a right bundle's lines are its -/
theorem IsOf.lines {b : Bun} (h : Right b) : IsOf (linesL b) b (b.ents.map lineL) :=
  ⟨h, rfl, fun p hp => by
    obtain ⟨e, he, rfl⟩ := List.mem_map.1 hp
    exact line_no10 (h.each e he).1, by
    rw [List.filter_eq_self]
    intro p hp
    obtain ⟨e, he, rfl⟩ := List.mem_map.1 hp
    rw [skip_line (h.each e he).1]; rfl⟩

/- ## What the code reads -/
def atNl : List UInt8 := [64, 10]
/-- the tag of the first piece, with its end of line where it has one -/
def tagP (p : List UInt8) : ByteArray := str (Lib.trimS p atNl)
theorem trim_tag {t : ByteArray} (h : isTag t = true) : tagP (nlL (64 :: bts t)) = t := by
  have hall := fun c hc => okC_ne (isTag_ok h c hc)
  have hno : ∀ c ∈ bts t, atNl.contains c = false := fun c hc => by
    obtain ⟨h1, h2⟩ := hall c hc
    simp [atNl, h1, h2]
  unfold tagP nlL Lib.trimS Lib.trimLeftS Lib.trimRightS
  have e1 : ((64 :: bts t) ++ [10]).reverse = 10 :: ((bts t).reverse ++ [64]) := by simp
  have drop_no : ∀ (l r : List UInt8), (∀ c ∈ l, atNl.contains c = false) → l ≠ [] → (l ++ r).dropWhile (atNl.contains ·) = l ++ r := by
    intro l r hl hne
    cases l with
    | nil => exact absurd rfl hne
    | cons c l => rw [List.cons_append, List.dropWhile_cons, if_neg (by rw [hl c List.mem_cons_self]; decide)]
  rw [e1, List.dropWhile_cons, if_pos (by decide)]
  by_cases hn : bts t = []
  · rw [hn]
    have : t = ByteArray.empty := by apply bts_inj; rw [hn]; rfl
    rw [this]; rfl
  · rw [drop_no _ _ (fun c hc => hno c (List.mem_reverse.1 hc)) (by simpa using hn), List.reverse_append, List.reverse_reverse]
    show str (List.dropWhile _ (64 :: bts t)) = t
    rw [List.dropWhile_cons, if_pos (by decide)]
    have := drop_no (bts t) [] hno hn
    rw [List.append_nil] at this
    rw [this, str_bts]
/-- pieces: the first one, those between, the last one -/
structure Pcs (s : List UInt8) (p0 : List UInt8) (mid : List (List UInt8)) (last : List UInt8) : Prop where
  eq : s = nlL p0 ++ (mid.flatMap nlL ++ last)
  p10 : ∀ c ∈ p0, c ≠ 10
  m10 : ∀ p ∈ mid, ∀ c ∈ p, c ≠ 10
  l10 : ∀ c ∈ last, c ≠ 10
theorem Pcs.cut {s p0 last : List UInt8} {mid : List (List UInt8)} (h : Pcs s p0 mid last) : cut1 10 s = p0 :: (mid ++ [last]) := by
  have e : s = (p0 :: mid).flatMap nlL ++ last := by rw [h.eq]; simp
  rw [e, cut_nl _ _ fun p hp => by
    rcases List.mem_cons.1 hp with rfl | hp
    · exact h.p10
    · exact h.m10 p hp, cut1_noc 10 last h.l10]
  rfl
theorem pcs_or (s : List UInt8) : (∀ c ∈ s, c ≠ 10) ∨ ∃ p0 mid last, Pcs s p0 mid last := by
  obtain ⟨ls, r, _, h2, h3, h4⟩ := cut_back s
  cases ls with
  | nil => left; rw [h2]; exact h4
  | cons p ls => exact .inr ⟨p, ls, r, by rw [h2]; simp, h3 p List.mem_cons_self, fun q hq => h3 q (List.mem_cons_of_mem _ hq), h4⟩
/-- the entries, and what is kept -/
def entsP (mid : List (List UInt8)) (last : List UInt8) : List Ent := ((mid.filter fun p => !skipL p) ++ (if last = [] then [] else [last])).map entQ
def keptP (p0 : List UInt8) (mid : List (List UInt8)) (last : List UInt8) : List UInt8 := nlL p0 ++ ((mid.filter fun p => !skipL p).flatMap nlL ++ last)
theorem parse_yes {s p0 last : List UInt8} {mid : List (List UInt8)} (h : Pcs s p0 mid last) (hr : Right ⟨tagP (nlL p0), entsP mid last⟩) (he : linesL ⟨tagP (nlL p0), entsP mid last⟩ = keptP p0 mid last) : IsOf s ⟨tagP (nlL p0), entsP mid last⟩ mid ∧ last = [] := by
  have h1 := (IsOf.lines hr).cut
  have h2 : Pcs (keptP p0 mid last) p0 (mid.filter fun p => !skipL p) last := ⟨rfl, h.p10, fun p hp => h.m10 p ((List.mem_filter.1 hp).1), h.l10⟩
  have h3 := h2.cut
  rw [← he, h1] at h3
  injection h3 with e1 e2
  obtain ⟨e3, e4⟩ := List.append_inj' e2 rfl
  injection e4 with e4
  refine ⟨⟨hr, ?_, h.m10, e3.symm⟩, e4.symm⟩
  rw [h.eq, ← e4, List.append_nil]
  exact congrArg (fun x => nlL x ++ mid.flatMap nlL) e1.symm
theorem parse_back {s p0 last : List UInt8} {mid ls : List (List UInt8)} {b : Bun} (h : Pcs s p0 mid last) (hs : IsOf s b ls) : ⟨tagP (nlL p0), entsP mid last⟩ = b ∧ linesL b = keptP p0 mid last ∧ last = [] ∧ ls = mid ∧ p0 = 64 :: bts b.tag := by
  have h3 := h.cut
  rw [hs.cut] at h3
  injection h3 with e1 e2
  obtain ⟨e3, e4⟩ := List.append_inj' e2 rfl
  injection e4 with e4
  subst e3; subst e4; subst e1
  have e5 : entsP ls [] = b.ents := by
    unfold entsP
    rw [if_pos rfl, List.append_nil, hs.ents, entQ_map fun e he => (hs.right.each e he).1]
  refine ⟨?_, ?_, rfl, rfl, rfl⟩
  · rw [e5, trim_tag hs.right.tag]
  · unfold linesL keptP
    rw [hs.ents, List.append_nil]
theorem IsOf.nl {s : List UInt8} {b : Bun} {ls : List (List UInt8)} (h : IsOf s b ls) : ¬ ∀ c ∈ s, c ≠ 10 := fun hn => by
  refine hn 10 ?_ rfl
  rw [h.eq]; simp [nlL]
/-- a line that is left out, wherever it stands behind the first one -/
theorem IsOf.more {b : Bun} {A B : List (List UInt8)} {m : List UInt8} (h : IsOf (nlL (64 :: bts b.tag) ++ (A ++ B).flatMap nlL) b (A ++ B)) (hm : ∀ c ∈ m, c ≠ 10) (hs : skipL m = true) :
    IsOf (nlL (64 :: bts b.tag) ++ (A ++ m :: B).flatMap nlL) b (A ++ m :: B) :=
  ⟨h.right, rfl, fun p hp => by
    rcases List.mem_append.1 hp with hp | hp
    · exact h.no10 p (List.mem_append_left _ hp)
    · rcases List.mem_cons.1 hp with rfl | hp
      · exact hm
      · exact h.no10 p (List.mem_append_right _ hp), by
    rw [← h.ents, List.filter_append, List.filter_append, List.filter_cons_of_neg (by rw [hs]; decide)]⟩
/- ## What the document reads -/
def entR (p : List UInt8) : Option Ent := if 61 ∈ p then (if escL (bareL (valL p)) = valL p then some (entQ p) else none) else none
def entsR : List (List UInt8) → Option (List Ent)
  | [] => some []
  | p :: r => if skipL p then entsR r else match entR p with | some e => (entsR r).map (e :: ·) | none => none
theorem key_back {p : List UInt8} (h : 61 ∈ p) : keyL p ++ 61 :: valL p = p := by
  unfold keyL valL
  induction p with
  | nil => cases h
  | cons c p ih =>
    by_cases hc : c = 61
    · subst hc; simp
    · rw [List.takeWhile_cons, if_pos (by simpa using hc), List.dropWhile_cons, if_pos (by simpa using hc)]
      rcases List.mem_cons.1 h with e | h
      · exact absurd e.symm hc
      · rw [List.cons_append, ih h]
theorem entR_some {p : List UInt8} {e : Ent} (h : entR p = some e) : lineL e = p ∧ e = entQ p := by
  unfold entR at h
  split at h
  · rename_i h1
    split at h
    · rename_i h2
      have := Option.some.inj h
      subst this
      refine ⟨?_, rfl⟩
      show keyL p ++ 61 :: escL (bareL (valL p)) = p
      rw [h2, key_back h1]
    · cases h
  · cases h
theorem entsR_some : ∀ {mid : List (List UInt8)} {l : List Ent}, entsR mid = some l → mid.filter (fun p => !skipL p) = l.map lineL ∧ l = entsP mid []
  | [], l, h => by cases h; exact ⟨rfl, rfl⟩
  | p :: r, l, h => by
    unfold entsR at h
    by_cases hs : skipL p = true
    · rw [if_pos hs] at h
      obtain ⟨h1, h2⟩ := entsR_some h
      have e : (p :: r).filter (fun p => !skipL p) = r.filter fun p => !skipL p := List.filter_cons_of_neg (by rw [hs]; decide)
      refine ⟨e.trans h1, ?_⟩
      unfold entsP at h2 ⊢
      rw [e]; exact h2
    · rw [if_neg hs] at h
      have e : (p :: r).filter (fun p => !skipL p) = p :: r.filter fun p => !skipL p := List.filter_cons_of_pos (by simp at hs; rw [hs]; rfl)
      cases hp : entR p with
      | none => rw [hp] at h; cases h
      | some e' =>
        rw [hp] at h
        simp only [Option.map_eq_some_iff] at h
        obtain ⟨l', hl', rfl⟩ := h
        obtain ⟨h1, h2⟩ := entsR_some hl'
        obtain ⟨h3, h4⟩ := entR_some hp
        refine ⟨by rw [e, h1, List.map_cons, h3], ?_⟩
        unfold entsP at h2 ⊢
        rw [e, h4]
        simp only [if_true, List.append_nil, List.map_cons] at h2 ⊢
        rw [← h2]
theorem entsR_line : ∀ {mid : List (List UInt8)} {l : List Ent}, (∀ e ∈ l, keyOk e.key = true) → mid.filter (fun p => !skipL p) = l.map lineL → entsR mid = some l
  | [], l, _, h => by
    cases l with
    | nil => rfl
    | cons a l => cases h
  | p :: r, l, hk, h => by
    unfold entsR
    by_cases hs : skipL p = true
    · rw [if_pos hs]
      rw [List.filter_cons_of_neg (by rw [hs]; decide)] at h
      exact entsR_line hk h
    · rw [if_neg hs]
      rw [List.filter_cons_of_pos (by simp at hs; rw [hs]; rfl)] at h
      cases l with
      | nil => cases h
      | cons e l =>
        injection h with h1 h2
        rw [entsR_line (fun x hx => hk x (List.mem_cons_of_mem _ hx)) h2]
        have h3 := hk e List.mem_cons_self
        have h4 := key_cut (bts e.key) (escL (bts e.text)) fun c hc => (isKey_ne ((keyOk_all h3).2 c hc)).2.1
        have h5 : valL p = escL (bts e.text) := by rw [h1]; exact h4.2
        have h6 : entR p = some e := by
          unfold entR
          rw [if_pos (by rw [h1]; unfold lineL; simp), if_pos (by rw [h5, bareL_esc]), h1, entQ_line h3]
        rw [h6]; rfl
/-- what the document answers -/
def bundleR (s : List UInt8) : Option Bun := match cut1 10 s with
  | (64 :: t) :: r => if r = [] then none else if r.getLast? = some [] then (match entsR r.dropLast with | some l => if bunFault ⟨str t, l⟩ = 0 then some ⟨str t, l⟩ else none | none => none) else none
  | _ => none
theorem bundleR_iff (s : List UInt8) (b : Bun) : bundleR s = some b ↔ ∃ ls, IsOf s b ls := by
  constructor
  · intro h
    rcases pcs_or s with hn | ⟨p0, mid, last, hp⟩
    · unfold bundleR at h
      rw [cut1_noc 10 s hn] at h
      cases s with
      | nil => cases h
      | cons c r =>
        by_cases hc : c = 64
        · subst hc; cases h
        · split at h
          · rename_i heq
            injection heq with heq _
            injection heq with heq _
            exact absurd heq hc
          · cases h
    · unfold bundleR at h
      rw [hp.cut] at h
      cases p0 with
      | nil => cases h
      | cons c t =>
        by_cases hc : c = 64
        · subst hc
          simp only [List.append_eq_nil_iff, List.cons_ne_nil, and_false, if_false, List.getLast?_append, List.getLast?_singleton, Option.some_or, Option.some.injEq, List.dropLast_concat] at h
          split at h
          · rename_i hl
            subst hl
            cases he : entsR mid with
            | none => rw [he] at h; cases h
            | some l =>
              rw [he] at h
              simp only at h
              split at h
              · rename_i hb
                have := Option.some.inj h
                subst this
                obtain ⟨h1, _⟩ := entsR_some he
                refine ⟨mid, (right_iff _).1 hb, ?_, hp.m10, h1⟩
                rw [hp.eq, List.append_nil]; rfl
              · cases h
          · cases h
        · split at h
          · rename_i heq
            injection heq with heq _
            injection heq with heq _
            exact absurd heq hc
          · cases h
  · rintro ⟨ls, h⟩
    unfold bundleR
    rw [h.cut]
    simp only [List.append_eq_nil_iff, List.cons_ne_nil, and_false, if_false, List.getLast?_append, List.getLast?_singleton, Option.some_or, if_true, List.dropLast_concat]
    rw [entsR_line (fun e he => (h.right.each e he).1) h.ents]
    have e : (⟨str (bts b.tag), b.ents⟩ : Bun) = b := by rw [str_bts]
    simp only [e]
    rw [if_pos ((right_iff _).2 h.right)]
end Go.Proofs.YtoneheloojlifaaGreatDoor
