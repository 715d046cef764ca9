/- The walk of package tag: Parse. -/
import Derived.Test.YtiaobgapfoogiaaGreatDoorText
import Derived.Test.YtiaobgapfoogiaaGreatDoorMapped
import Derived.Deep.DeepCutAuto
import Derived.Deep.RegionHeld3
set_option linter.unusedSimpArgs false
set_option linter.unusedVariables false
namespace Go.Proofs.YtiaobgapfoogiaaGreatDoor
open Go.RowKit

/-- The variable bytealg.MaxLen holds an integer. -/
def MaxVar (w : World) : Prop := ∃ m : Int, w.cell? ⟨3, 0, none⟩ = some (.int .i64 m)
theorem MaxVar.lt {w : World} (h : MaxVar w) : 3 < w.heap.size := by
  obtain ⟨m, hm⟩ := h
  rcases Nat.lt_or_ge 3 w.heap.size with hlt | hge
  · exact hlt
  · unfold World.cell? at hm; rw [Array.getElem?_eq_none hge] at hm; cases hm
theorem MaxVar.below {w w' : World} (h : MaxVar w) (hb : Below w.heap.size w w') : MaxVar w' := by
  have hlt := h.lt
  obtain ⟨m, hm⟩ := h
  exact ⟨m, (hb.cell (p := ⟨3, 0, none⟩) hlt).trans hm⟩

/-- What Parse holds between its steps. -/
structure Parts (w wr : World) (h1 : Nat) (A : Value) (l sc rg : ByteArray) (rest : List ByteArray) : Prop where
  below : Below w.heap.size w wr
  box : Blk wr h1 72 #[.string l, .string sc, .string rg, .slice none 0 0]
  res : Blk wr w.heap.size 72 #[.string ⟨#[]⟩, .string ⟨#[]⟩, .string ⟨#[]⟩, .slice none 0 0]
  list : ListOk Enc.str wr w.heap.size h1 A rest
  base : w.heap.size < h1
  sizes : ∀ p ∈ rest, p.size ≤ 4294967281
theorem below_of_drew {B : Nat} {w w' : World} (h : Below B w.drew w') : Below B w w' := ⟨h.os, h.tape, h.output, h.size, h.block⟩
section
variable {w wr w3 : World} {h1 : Nat} {A : Value} {l sc rg q : ByteArray} {rest r : List ByteArray}
theorem Parts.of_set (h : Parts w wr h1 A l sc rg rest) (hb : Below wr.heap.size wr w3) (i : Nat) (u : Value) (sc' rg' : ByteArray) (hc : (#[.string l, .string sc, .string rg, .slice none 0 0] : Array Value).setIfInBounds i u = #[.string l, .string sc', .string rg', .slice none 0 0]) :
    Parts w (w3.setCell ⟨h1, i, none⟩ u) h1 A l sc' rg' rest :=
  have hlt := h.box.lt
  have hb1 := h.base
  ⟨(h.below.trans (hb.mono h.below.size)).setCell (Nat.le_of_lt h.base) _, by
    have := (h.box.below hb hlt).set_ i u
    rw [hc] at this; exact this, (h.res.below hb (by omega)).far (by show w.heap.size ≠ h1; omega) _,
    h.list.keep Enc.str_laws (Alk.trans (Alk.mono (Alk.of_below hb) (Nat.zero_le _) (Nat.le_of_lt hlt)) (fun p hp hq => World.cell?_setCell_other _ _ _ _ (by intro e; rw [← e] at hq; exact absurd hq (Nat.lt_irrefl _)))), h.base, h.sizes⟩
theorem Parts.moved (h : Parts w wr h1 A l sc rg rest) (hb : Below wr.heap.size wr w3) : Parts w w3 h1 A l sc rg rest :=
  have hlt := h.box.lt
  have hb1 := h.base
  ⟨h.below.trans (hb.mono h.below.size), h.box.below hb hlt, h.res.below hb (by omega), h.list.keep Enc.str_laws (Alk.mono (Alk.of_below hb) (Nat.zero_le _) (Nat.le_of_lt hlt)), h.base, h.sizes⟩
theorem Parts.tail0 (h : Parts w wr h1 A l sc rg rest) (A' : Option Addr) (c' : Nat) : Parts w wr h1 (.slice A' 0 c') l sc rg [] :=
  ⟨h.below, h.box, h.res, ListOk.nil _ _, h.base, fun p hp => by cases hp⟩
theorem Parts.tail {b o n c : Nat} (h : Parts w wr h1 (.slice (some ⟨b, o, none⟩) n c) l sc rg (q :: r)) (c' : Nat) (hc' : r.length ≤ c') : Parts w wr h1 (.slice (some ⟨b, o + 1, none⟩) r.length c') l sc rg r :=
  ⟨h.below, h.box, h.res, h.list.drop 1 (by simp) c' (by simpa using hc'), h.base, fun p hp => h.sizes p (List.mem_cons_of_mem _ hp)⟩
end
theorem cut1_size (c : UInt8) : ∀ (l : List UInt8) x, x ∈ cut1 c l → x.length ≤ l.length
  | [], x, h => by simp [cut1] at h; subst h; simp
  | a :: l, x, h => by
    unfold cut1 at h
    split at h
    · rcases List.mem_cons.1 h with rfl | h
      · simp
      · have := cut1_size c l x h; simp; omega
    · rcases List.mem_cons.1 h with rfl | h
      · have := cut1_size c l _ (by rw [← cut1_cons c l]; exact List.mem_cons_self)
        rw [List.length_cons, List.length_cons]; omega
      · have := cut1_size c l x (List.mem_of_mem_tail h); simp; omega
theorem splitS_sizes (s : ByteArray) : ∀ p ∈ splitS s dash, p.size ≤ s.size := by
  intro p hp
  have e : dash = ⟨#[45]⟩ := rfl
  rw [e, splitS_one] at hp
  obtain ⟨x, hx, rfl⟩ := List.mem_map.1 hp
  have := cut1_size 45 _ x hx
  rw [str_size, ← bts_len]; exact this
theorem cut1_length (c : UInt8) : ∀ l : List UInt8, (cut1 c l).length = l.count c + 1
  | [] => rfl
  | b :: l => by
    have ih := cut1_length c l
    unfold cut1
    split
    · rename_i h; subst h; rw [List.length_cons, ih, List.count_cons_self]
    · rename_i h
      rw [List.count_cons_of_ne (by simpa using h), ← ih]
      have := congrArg List.length (cut1_cons c l)
      rw [List.length_cons] at this ⊢
      exact this
theorem countB_one (s : ByteArray) : Lib.countB s dash = (bts s).count 45 := Lib.count_one 45 _
theorem splitS_length (s : ByteArray) : (splitS s dash).length = Lib.countB s dash + 1 := by
  have e : dash = ⟨#[45]⟩ := rfl
  rw [countB_one, e, splitS_one, List.length_map, cut1_length]

structure Done (w wr : World) (h1 : Nat) (l sc rg : ByteArray) (v : Value) (rest : List ByteArray) : Prop where
  below : Below w.heap.size w wr
  box : Blk wr h1 72 #[.string l, .string sc, .string rg, v]
  res : Blk wr w.heap.size 72 #[.string ⟨#[]⟩, .string ⟨#[]⟩, .string ⟨#[]⟩, .slice none 0 0]
  base : w.heap.size < h1
  list : ListOk Enc.str wr (h1 + 1) wr.heap.size v rest
  sizes : ∀ p ∈ rest, p.size ≤ 4294967281
theorem Parts.done {w wr w3 : World} {h1 : Nat} {A v : Value} {l sc rg : ByteArray} {rest : List ByteArray} (h : Parts w wr h1 A l sc rg rest) (hb : Below wr.heap.size wr w3) (hv : ListOk Enc.str w3 wr.heap.size w3.heap.size v rest) : Done w (w3.setCell ⟨h1, 3, none⟩ v) h1 l sc rg v rest :=
  have hlt := h.box.lt
  have hb1 := h.base
  ⟨(h.below.trans (hb.mono h.below.size)).setCell (Nat.le_of_lt h.base) _, by
    have := (h.box.below hb hlt).set_ 3 v
    simpa using this, (h.res.below hb (by omega)).far (by show w.heap.size ≠ h1; omega) _, h.base,
    ((hv.mono Enc.str_laws (Nat.le_refl _) (by simp)).keep Enc.str_laws (fun p hp hq => World.cell?_setCell_other _ _ _ _ (by intro e; rw [← e] at hp; dsimp only at hp; omega))).mono Enc.str_laws (by omega) (Nat.le_refl _), h.sizes⟩
theorem Done.bare {w wr : World} {h1 : Nat} {v : Value} {l sc rg : ByteArray} (h : Done w wr h1 l sc rg v []) : Done w (wr.setCell ⟨h1, 3, none⟩ (.slice none 0 0)) h1 l sc rg (.slice none 0 0) [] :=
  have hb1 := h.base
  ⟨h.below.setCell (Nat.le_of_lt h.base) _, by
    have := h.box.set_ 3 (.slice none 0 0)
    simpa using this, h.res.far (by show w.heap.size ≠ h1; omega) _, h.base, ListOk.nil _ _, h.sizes⟩
theorem Done.moved {w wr w3 : World} {h1 : Nat} {v : Value} {l sc rg : ByteArray} {rest : List ByteArray} (h : Done w wr h1 l sc rg v rest) (hb : Below wr.heap.size wr w3) : Done w w3 h1 l sc rg v rest :=
  have hlt := h.box.lt
  have hb1 := h.base
  ⟨h.below.trans (hb.mono h.below.size), h.box.below hb hlt, h.res.below hb (by omega), h.base, (h.list.below Enc.str_laws hb).mono Enc.str_laws (Nat.le_refl _) hb.size, h.sizes⟩
theorem join_size (l : List (List UInt8)) (h : ∀ x ∈ l, x.length ≤ 8) : (Lib.join l [45]).length ≤ 9 * l.length := by
  cases l with
  | nil => exact Nat.zero_le _
  | cons x r =>
    rw [Lib.join_cons]
    have : ∀ r : List (List UInt8), (∀ x ∈ r, x.length ≤ 8) → (Lib.joinTail [45] r).length ≤ 9 * r.length := by
      intro r
      induction r with
      | nil => intro _; exact Nat.zero_le _
      | cons y r ih =>
        intro hr
        have h1 := ih fun z hz => hr z (List.mem_cons_of_mem _ hz)
        have h2 := hr y List.mem_cons_self
        simp only [Lib.joinTail, List.map_cons, List.flatten_cons, List.length_append, List.length_cons, List.length_nil] at h1 ⊢
        omega
    have h1 := this r fun z hz => h z (List.mem_cons_of_mem _ hz)
    have h2 := h x List.mem_cons_self
    rw [List.length_append, List.length_cons]; omega
theorem made_size {p : UInt8 → Bool} {s : ByteArray} {a b : Nat} (h : made p s a b = true) : s.size ≤ b := by
  unfold made at h
  simp only [Bool.and_eq_true, decide_eq_true_eq] at h
  exact h.2.2
theorem tag_sizes {t : Tg} (h : tagFault t = 0) : t.lang.size ≤ 8 ∧ t.script.size ≤ 8 ∧ t.region.size ≤ 8 ∧ t.vars.length ≤ 3 ∧ ∀ v ∈ t.vars, v.size ≤ 8 := by
  unfold tagFault at h
  split at h
  · cases h
  · rename_i hh
    split at h
    · rename_i hf
      split at h
      · cases h
      · rename_i h3
        have hall := (firstN_zero_iff _ _).1 hf
        have hh' : headFault t = false := by simpa using hh
        unfold headFault at hh'
        simp only [Bool.or_eq_false_iff, Bool.not_eq_false', Bool.and_eq_false_iff] at hh'
        obtain ⟨g1, g2, g3⟩ := hh'
        refine ⟨Nat.le_trans (made_size g1) (by omega), ?_, ?_, by omega, fun v hv => ?_⟩
        · rcases g2 with g2 | g2
          · have := (eqs_iff _ _).1 g2; rw [this]; exact Nat.zero_le _
          · unfold scriptB at g2
            simp only [Bool.and_eq_true, decide_eq_true_eq] at g2
            omega
        · rcases g3 with g3 | g3
          · have := (eqs_iff _ _).1 g3; rw [this]; exact Nat.zero_le _
          · unfold regionB at g3
            rcases (Bool.or_eq_true _ _ ▸ g3) with g3 | g3
            · have := made_size g3; omega
            · have := made_size g3; omega
        · obtain ⟨q, hq, rfl⟩ := List.getElem_of_mem hv
          have := hall q hq
          unfold varAt at this
          have hgd : t.vars.getD q ByteArray.empty = t.vars[q] := by rw [List.getD_eq_getElem?_getD, List.getElem?_eq_getElem hq]; rfl
          rw [hgd] at this
          split at this
          · rename_i hm; exact made_size hm
          · cases this
    · contradiction
theorem tagText_size {t : Tg} (h : tagFault t = 0) : (tagText t).size ≤ 54 := by
  obtain ⟨h1, h2, h3, h4, h5⟩ := tag_sizes h
  have hl : (parts t).length ≤ 6 := by
    refine Nat.le_trans (List.length_filter_le _ _) ?_
    simp; omega
  have := join_size ((parts t).map bts) (fun x hx => by
    obtain ⟨p, hp, rfl⟩ := List.mem_map.1 hx
    rw [bts_len]
    have hm := (List.mem_filter.1 hp).1
    simp only [List.cons_append, List.nil_append, List.mem_cons] at hm
    rcases hm with rfl | rfl | rfl | hm
    · exact h1
    · exact h2
    · exact h3
    · exact h5 p hm)
  have e : (tagText t).size = (Lib.join ((parts t).map bts) [45]).length := str_size _
  rw [e]
  rw [List.length_map] at this
  omega
theorem scriptOf_len (l : List ByteArray) : (scriptOf l).2.length ≤ l.length := by
  cases l with
  | nil => exact Nat.le_refl _
  | cons p r => unfold scriptOf; dsimp only; split <;> simp
theorem regionOf_len (l : List ByteArray) : (regionOf l).2.length ≤ l.length := by
  cases l with
  | nil => exact Nat.le_refl _
  | cons p r => unfold regionOf; dsimp only; split <;> simp
theorem scriptOf_size (l : List ByteArray) : (scriptOf l).1.size ≤ 4 := by
  cases l with
  | nil => exact Nat.zero_le _
  | cons p r =>
    unfold scriptOf; dsimp only; split
    · rename_i h
      have := made_size h
      rw [ByteArray.size_append, ByteArray.size_extract]
      have e : (upperB (p.extract 0 1)).size = (p.extract 0 1).size := mapB_size _ _ _
      rw [e, ByteArray.size_extract]; omega
    · exact Nat.zero_le _
theorem regionOf_size (l : List ByteArray) : (regionOf l).1.size ≤ 3 := by
  cases l with
  | nil => exact Nat.zero_le _
  | cons p r =>
    unfold regionOf; dsimp only; split
    · rename_i h
      unfold regionB at h
      rcases (Bool.or_eq_true _ _ ▸ h) with h | h
      · have := made_size h; dsimp only; omega
      · have := made_size h; dsimp only; omega
    · exact Nat.zero_le _
def scriptYes : List ByteArray → Bool
  | [] => false
  | p :: _ => made isLow p 4 4
def regionYes : List ByteArray → Bool
  | [] => false
  | p :: _ => regionB (upperB p)
set_option maxHeartbeats 1600000 in
theorem parse_any (s : ByteArray) (w : World) (hm : MaxVar w) (hs : s.size < 4294967281) :
    Calls Tryz.prog 58 #[.string s] w fun e w' => Below w.heap.size w w' ∧
      ((parseTag s = none ∧ e = .returned (.tuple #[.agg #[.string ⟨#[]⟩, .string ⟨#[]⟩, .string ⟨#[]⟩, .slice none 0 0], errV 3])) ∨
        ∃ t v, parseTag s = some t ∧ e = .returned (.tuple #[.agg #[.string t.lang, .string t.script, .string t.region, v], .nilIface]) ∧ ListOk Enc.str w' w.heap.size w'.heap.size v t.vars) := by
  have hl : (lowerB s).size = s.size := mapB_size _ _ _
  have HLow := Lib.hid (fun W => lower_any s W (by omega))
  have HSplit : Hid (∀ W, Below w.heap.size w W → Calls Tryz.prog 75 #[.string (lowerB s), .string dash] W fun e w' => e = .returned (.slice (some ⟨W.heap.size, 0, none⟩) (splitS (lowerB s) dash).length (splitS (lowerB s) dash).length) ∧ w' = W.alloc (.cells ((splitS (lowerB s) dash).map Value.string).toArray 9)) := fun W hW => by
    obtain ⟨m, hm'⟩ := hm.below hW
    rw [splitS_length]
    exact Tryz.strings_Split (lowerB s) dash m W (by omega) hm' (by decide)
  have hd : ∃ p r, splitS (lowerB s) dash = p :: r := by
    have e : dash = ⟨#[45]⟩ := rfl
    rw [e, splitS_one]
    cases h : cut1 45 (bts (lowerB s)) with
    | nil => exact absurd h (cut1_ne _ _)
    | cons a r => exact ⟨_, _, rfl⟩
  have hsz := splitS_sizes (lowerB s)
  obtain ⟨p0, r0, hpr⟩ := hd
  have hr0 : r0.length ≤ 4294967281 := by
    have h1 := splitS_length (lowerB s)
    have h2 : (bts (lowerB s)).count 45 ≤ (bts (lowerB s)).length := List.count_le_length
    rw [bts_len] at h2
    rw [hpr, countB_one, List.length_cons] at h1
    omega
  rw [hpr] at HSplit hsz
  have HRaw : Hid (rawTag s = ⟨p0, (scriptOf r0).1, (regionOf (scriptOf r0).2).1, (regionOf (scriptOf r0).2).2⟩) := by
    show rawTag s = _
    unfold rawTag
    simp only [hpr, List.drop_succ_cons, List.drop_zero, List.headD_cons]
  have HPar : Hid (parseTag s = if tagFault (rawTag s) = 0 && eqs (lowerB (tagText (rawTag s))) (lowerB s) then some (rawTag s) else none) := rfl
  rw [hl] at hsz
  clear hl hm
  have HSz := Lib.hid hsz
  clear hsz hpr
  generalize lowerB s = ls at HLow HSplit HPar
  simp only [List.length_cons, List.map_cons] at HSplit
  go_enter Tryz.func58, Tryz.ntmps58
  go_upto_region 4 with (first
    | (go_at_call 76; refine (HLow.out _).mono ?_; rintro e w1 ⟨rfl, hb1⟩; have HB1 := Lib.hid hb1; clear hb1)
    | (go_at_call 75; refine (HSplit.out _ (((Below.refl _ _).alloc (Nat.le_refl _) _).trans (HB1.out.mono (by simp)))).mono ?_; rintro e w2 ⟨rfl, rfl⟩))
  have hs1 := HB1.out.size
  simp only [World.size_alloc] at hs1
  obtain ⟨wr, hwr⟩ : ∃ wr, wr = (w1.alloc (.cells (Value.string p0 :: List.map Value.string r0).toArray 9)).alloc (.cells #[.string p0, .string ⟨#[]⟩, .string ⟨#[]⟩, .slice none 0 0] 72) := ⟨_, rfl⟩
  obtain ⟨A, hA⟩ : ∃ A, A = (if r0 = [] then some (⟨w1.heap.size, 0, none⟩ : Addr) else some ⟨w1.heap.size, 1, none⟩) := ⟨_, rfl⟩
  have hP : Parts w wr (w1.heap.size + 1) (.slice A r0.length r0.length) p0 ByteArray.empty ByteArray.empty r0 := by
    have mS : Blk wr w1.heap.size 9 (Value.string p0 :: List.map Value.string r0).toArray := by rw [hwr]; exact (Blk.new _ _ _).alloc _
    refine ⟨?_, ?_, ?_, ⟨A, r0.length, rfl, Nat.le_refl _, fun q hq => ?_⟩, by omega, fun p hp => Nat.le_trans (HSz.out p (List.mem_cons_of_mem _ hp)) (by omega)⟩
    · rw [hwr]
      exact ((((Below.refl _ _).alloc (Nat.le_refl _) _).trans (HB1.out.mono (by simp))).alloc (by omega) _).alloc (by simp; omega) _
    · rw [hwr]
      have := Blk.new (w1.alloc (.cells (Value.string p0 :: List.map Value.string r0).toArray 9)) 72 #[.string p0, .string ⟨#[]⟩, .string ⟨#[]⟩, .slice none 0 0]
      rw [World.size_alloc] at this
      exact this
    · rw [hwr]
      exact (((Blk.new w _ _).below HB1.out (by simp)).alloc _).alloc _
    · have hne : r0 ≠ [] := fun e => by subst e; simp at hq
      rw [if_neg hne] at hA
      refine ⟨w1.heap.size, 1, [.string r0[q]], hA, by omega, by omega, fun j u hj => ?_, rfl⟩
      cases j with
      | zero =>
        injection hj with hj
        subst hj
        rw [mS.cell]
        show (Value.string p0 :: List.map Value.string r0).toArray[1 + q * 1 + 0]? = _
        rw [show 1 + q * 1 + 0 = q + 1 from by omega]
        simp [List.getElem?_eq_getElem hq]
      | succ j => cases hj
  rw [← hwr, ← hA]
  have hp0 : p0.size ≤ 4294967281 := Nat.le_trans (HSz.out p0 List.mem_cons_self) (by omega)
  clear hwr hA HB1 HSplit HSz
  obtain ⟨h1, eh1⟩ : ∃ h1, h1 = w1.heap.size + 1 := ⟨_, rfl⟩
  obtain ⟨n0, en0⟩ : ∃ n0, n0 = r0.length := ⟨_, rfl⟩
  rw [← eh1] at hP ⊢
  rw [← en0] at hP ⊢
  have EN := Lib.hid en0
  clear eh1 en0 hs1
  go_cut [23] (fun c wx => c = .bool (scriptYes r0) ∧ wx = wr)
  case first =>
    have HP := Lib.hid hP
    clear hP HLow
    cases r0 with
    | nil =>
      obtain rfl : n0 = 0 := EN.out
      go_wp2_with fail
      go_meet
      case rel => exact ⟨rfl, rfl⟩
    | cons q r =>
      obtain ⟨b, o, rfl, g1, g2, g3⟩ := HP.out.list.strAt 0 (by simp)
      have hq : q.size ≤ 4294967281 := HP.out.sizes q (List.mem_cons_self)
      have HM := Lib.hid (made_low q 4 4 wr (by omega) (by omega) (by omega))
      have HY : Hid (scriptYes (q :: r) = made isLow q 4 4) := rfl
      have hn0 : n0 = r.length + 1 := EN.out
      subst hn0
      generalize made isLow q 4 4 = m at HM HY
      simp at g3
      go_wp2_with fail
      refine HM.out.mono ?_
      rintro e w3 ⟨rfl, rfl⟩
      go_wp2_with fail
      go_meet
      case rel => exact ⟨by rw [HY.out], rfl⟩
  case rest =>
    obtain ⟨rfl, rfl⟩ := hcut
    go_upto_if 23 with fail
    go_cut [4] (fun A' wx => (∃ A0, A' = .slice A0 (scriptOf r0).2.length (scriptOf r0).2.length) ∧ Parts w wx h1 A' p0 (scriptOf r0).1 ByteArray.empty (scriptOf r0).2)
    case first =>
      have HP := Lib.hid hP
      clear hP HLow
      by_cases hy : scriptYes r0 = true
      · obtain ⟨q, r, rfl⟩ : ∃ q r, r0 = q :: r := by
          cases r0 with
          | nil => cases hy
          | cons q r => exact ⟨q, r, rfl⟩
        obtain ⟨b, o, rfl, g1, g2, g3⟩ := HP.out.list.strAt 0 (by simp)
        have hm : made isLow q 4 4 = true := hy
        have HSc : Hid (scriptOf (q :: r) = (upperB (q.extract 0 1) ++ q.extract 1 q.size, r)) := by
          show scriptOf (q :: r) = _
          unfold scriptOf
          simp only
          rw [if_pos hm]
        have hq4 : q.size = 4 := by
          have := hm
          unfold made at this
          simp only [Bool.and_eq_true, decide_eq_true_eq] at this
          omega
        have HU := Lib.hid (fun W => upper_any (q.extract 0 1) W (by rw [ByteArray.size_extract]; omega))
        have hx1 : (upperB (q.extract 0 1)).size = 1 := by
          show (mapB _ _ _).size = 1
          rw [mapB_size, ByteArray.size_extract]; omega
        have hx2 : (q.extract 1 q.size).size = 3 := by rw [ByteArray.size_extract]; omega
        generalize upperB (q.extract 0 1) = X at HU HSc hx1
        have hn0 : n0 = r.length + 1 := EN.out
        subst hn0
        simp at g3
        have hlt := HP.out.box.lt
        have hbb := HP.out.base
        rw [hy]
        have HM := Lib.hid hm
        clear hy hm
        have k1 := HP.out.box.cell 1
        have k2 := HP.out.box.frozen 1
        simp at k1
        go_wp2_with fail
        go_region_held3 (fun w' => w'.cell? ⟨b, o, none⟩ = some (.string q)) (first | go_keep | exact g4 | exact (World.cell?_setCell_other _ _ _ _ (by intro h; injection h with h; omega)).trans g4)
          (first
            | (go_at_call 79
               refine (HU.out _).mono ?_
               rintro e w3 ⟨rfl, hb3⟩
               have g4 : w3.cell? ⟨b, o, none⟩ = some (.string q) := (hb3.cell (p := ⟨b, o, none⟩) (by show b < wc.heap.size; omega)).trans g3
               have k3 : w3.cell? ⟨h1, 1, none⟩ = some (.string ⟨#[]⟩) := (hb3.cell (p := ⟨h1, 1, none⟩) (by show h1 < wc.heap.size; omega)).trans k1
               have k4 : w3.frozen? ⟨h1, 1, none⟩ = false := (hb3.frozen (p := ⟨h1, 1, none⟩) (by show h1 < wc.heap.size; omega)).trans k2))
 
        have hb3' := below_of_drew hb3
        have e14 : q.extract 1 q.size = q.extract 1 4 := by rw [hq4]
        have HP3 := Lib.hid ((HP.out.of_set hb3' 1 (.string (X ++ q.extract 1 4)) (X ++ q.extract 1 4) ByteArray.empty rfl))
        rw [e14] at HSc
        clear hb3 hb3' g4 k3 k4 g3 k1 k2 e14 HP
        rcases r with _ | ⟨r1, rs⟩
        · simp only [List.length_nil]
          go_wp2_with fail
          go_meet
          case rel => rw [HSc.out]; exact ⟨⟨_, rfl⟩, HP3.out.tail0 _ _⟩
        · go_wp2_with fail
          go_meet
          case rel => rw [HSc.out]; exact ⟨⟨_, rfl⟩, HP3.out.tail _ (by simp)⟩
      · have hy' : scriptYes r0 = false := by simpa using hy
        have HSc : Hid (scriptOf r0 = (ByteArray.empty, r0)) := by
          show scriptOf r0 = _
          cases r0 with
          | nil => rfl
          | cons q r =>
            unfold scriptOf
            simp only
            exact if_neg hy
        rw [hy']
        clear hy hy'
        go_wp2_with fail
        go_meet
        case rel => rw [HSc.out, ← EN.out]; exact ⟨⟨_, rfl⟩, HP.out⟩
    case rest =>
      clear hP
      have hrl := scriptOf_len r0
      obtain ⟨sc, rest, hsc⟩ : ∃ sc rest, scriptOf r0 = (sc, rest) := ⟨_, _, rfl⟩
      have hss := scriptOf_size r0
      rw [hsc] at hcut HRaw hrl hss
      dsimp only at hrl
      dsimp only at hcut HRaw
      clear hsc EN
      obtain ⟨⟨A, rfl⟩, hcut⟩ := hcut
      have HP := Lib.hid hcut
      clear hcut
      go_upto_region 7 with fail
      go_cut [46] (fun b wx => b = .bool (regionYes rest) ∧ Parts w wx h1 (.slice A rest.length rest.length) p0 sc ByteArray.empty rest)
      case first =>
        cases rest with
        | nil =>
          simp only [List.length_nil]
          go_wp2_with fail
          go_meet
          case rel => exact ⟨rfl, HP.out⟩
        | cons q r =>
          obtain ⟨b, o, rfl, g1, g2, g3⟩ := HP.out.list.strAt 0 (by simp)
          have hq : q.size ≤ 4294967281 := HP.out.sizes q (List.mem_cons_self)
          have HU := Lib.hid (fun W => upper_any q W (by omega))
          have hus : (upperB q).size ≤ 9223372036854775807 := by
            have : (upperB q).size = q.size := mapB_size _ _ _
            omega
          have HR := Lib.hid (fun W => region_any (upperB q) W hus)
          have HY : Hid (regionYes (q :: r) = regionB (upperB q)) := rfl
          generalize upperB q = X at HU HR HY
          generalize regionB X = m at HR HY
          simp at g3
          clear hus
          go_wp2_with fail
          refine (HU.out _).mono ?_
          rintro e w3 ⟨rfl, hb3⟩
          have HP3 := Lib.hid (HP.out.moved hb3)
          clear hb3 g3
          go_wp2_with fail
          refine (HR.out _).mono ?_
          rintro e w4 ⟨rfl, rfl⟩
          go_wp2_with fail
          go_meet
          case rel => exact ⟨by rw [HY.out], HP3.out⟩
      case rest =>
        obtain ⟨rfl, hP⟩ := hcut
        clear HP
        have HP := Lib.hid hP
        clear hP
        go_upto_if 46 with fail
        go_cut [4] (fun A' wx => (∃ A0, A' = .slice A0 (regionOf rest).2.length (regionOf rest).2.length) ∧ Parts w wx h1 A' p0 sc (regionOf rest).1 (regionOf rest).2)
        case first =>
          by_cases hy : regionYes rest = true
          · obtain ⟨q, r, rfl⟩ : ∃ q r, rest = q :: r := by
              cases rest with
              | nil => cases hy
              | cons q r => exact ⟨q, r, rfl⟩
            obtain ⟨b, o, rfl, g1, g2, g3⟩ := HP.out.list.strAt 0 (by simp)
            have hm : regionB (upperB q) = true := hy
            have HSc : Hid (regionOf (q :: r) = (upperB q, r)) := by
              show regionOf (q :: r) = _
              unfold regionOf
              exact if_pos hm
            have hq : q.size ≤ 4294967281 := HP.out.sizes q (List.mem_cons_self)
            have HU := Lib.hid (fun W => upper_any q W (by omega))
            rw [hy]
            clear hy hm
            generalize upperB q = X at HU HSc
            simp at g3
            have hlt := HP.out.box.lt
            have k1 := HP.out.box.cell 2
            have k2 := HP.out.box.frozen 2
            simp at k1
            go_wp2_with fail
            refine (HU.out _).mono ?_
            rintro e w3 ⟨rfl, hb3⟩
            have k3 : w3.cell? ⟨h1, 2, none⟩ = some (.string ⟨#[]⟩) := (hb3.cell (p := ⟨h1, 2, none⟩) hlt).trans k1
            have k4 : w3.frozen? ⟨h1, 2, none⟩ = false := (hb3.frozen (p := ⟨h1, 2, none⟩) hlt).trans k2
            have HP3 := Lib.hid ((HP.out.of_set hb3 2 (.string X) sc X rfl))
            clear hb3 k1 k2 g3 HP
            rcases r with _ | ⟨r1, rs⟩
            · simp only [List.length_nil]
              go_wp2_with fail
              go_meet
              case rel => rw [HSc.out]; exact ⟨⟨_, rfl⟩, HP3.out.tail0 _ _⟩
            · go_wp2_with fail
              go_meet
              case rel => rw [HSc.out]; exact ⟨⟨_, rfl⟩, HP3.out.tail _ (by simp)⟩
          · have hy' : regionYes rest = false := by simpa using hy
            have HSc : Hid (regionOf rest = (ByteArray.empty, rest)) := by
              show regionOf rest = _
              cases rest with
              | nil => rfl
              | cons q r =>
                unfold regionOf
                exact if_neg hy
            rw [hy']
            clear hy hy'
            go_wp2_with fail
            go_meet
            case rel => rw [HSc.out]; exact ⟨⟨_, rfl⟩, HP.out⟩
        case rest =>
          clear HP
          obtain ⟨rg, vs, hrg⟩ : ∃ rg vs, regionOf rest = (rg, vs) := ⟨_, _, rfl⟩
          have hvl := regionOf_len rest
          have hrs := regionOf_size rest
          rw [hrg] at hcut HRaw hvl hrs
          dsimp only at hcut HRaw hvl
          clear hrg
          obtain ⟨⟨A, rfl⟩, hP⟩ := hcut
          have hn : vs.length ≤ 4294967281 := by omega
          have HP := Lib.hid hP
          clear hP
          go_upto_region 10 with fail
          go_cut [55] (fun v wx => Done w wx h1 p0 sc rg v vs)
          case first =>
            have hlt := HP.out.box.lt
            have k1 := HP.out.box.cell 3
            have k2 := HP.out.box.frozen 3
            simp at k1
            by_cases hz : vs = []
            · subst hz
              simp only [List.length_nil]
              cases A with
              | none =>
                have HK := Lib.hid (Tryz.slices_Clone_string_nil 0 0 wc)
                go_wp2_with fail
                refine HK.out.mono ?_
                rintro e w3 ⟨rfl, rfl⟩
                go_wp2_with fail
                go_meet
                case rel => exact HP.out.done (Below.refl _ _) (ListOk.nil _ _)
              | some a =>
                have HK := Lib.hid (Tryz.slices_Clone_string_zero a 0 wc)
                go_wp2_with fail
                refine HK.out.mono ?_
                rintro e w3 ⟨v, rfl, hv, _, hb3⟩
                obtain ⟨A3, c3, rfl, _⟩ := own_slice hv
                have k3 := (hb3.cell (p := ⟨h1, 3, none⟩) hlt).trans k1
                have k4 := (hb3.frozen (p := ⟨h1, 3, none⟩) hlt).trans k2
                have HP3 := Lib.hid (HP.out.done (v := .slice A3 0 c3) hb3 (ListOk.nil _ _))
                clear hv hb3 k1 k2
                go_wp2_with fail
                go_meet
                case rel => exact HP3.out
            · have hpos : 0 < vs.length := List.length_pos_iff.2 hz
              obtain ⟨b, o, rfl, g1, g2, g3⟩ := HP.out.list.strAt 0 hpos
              have HK := Lib.hid (Tryz.slices_Clone_string b o vs.length vs.length vs wc (Nat.le_refl _) (by omega) (fun j hj => by
                obtain ⟨b', o', he, _, _, hcell⟩ := HP.out.list.strAt j hj
                injection he with he
                injection he with e1 e2
                subst e1; subst e2
                rw [hcell, List.getD_eq_getElem?_getD, List.getElem?_eq_getElem hj]; rfl))
              clear g3
              go_wp2_with fail
              refine HK.out.mono ?_
              rintro e w3 ⟨v, rfl, hv, _, hb3⟩
              rw [List.take_length] at hv
              obtain ⟨A3, c3, rfl, _⟩ := own_slice hv
              have k3 := (hb3.cell (p := ⟨h1, 3, none⟩) hlt).trans k1
              have k4 := (hb3.frozen (p := ⟨h1, 3, none⟩) hlt).trans k2
              have HP3 := Lib.hid (HP.out.done hb3 (ListOk.strs_of_own (lo := wc.heap.size) (hi := w3.heap.size) hv (Nat.le_refl _) (Nat.le_refl _)))
              clear hv hb3 k1 k2 hpos hz
              go_wp2_with fail
              go_meet
              case rel => exact HP3.out
          case rest =>
            clear HP
            have HD := Lib.hid hcut
            clear hcut
            go_upto_if 59 with fail
            go_cut [] (fun wx => ∃ v, Done w wx h1 p0 sc rg v vs)
            case first =>
              cases hz : vs with
              | nil =>
                subst hz
                simp only [List.length_nil]
                have k1 := HD.out.box.cell 3
                have k2 := HD.out.box.frozen 3
                simp at k1
                go_wp2_with fail
                go_meet
                case rel => exact ⟨_, HD.out.bare⟩
              | cons q r =>
                subst hz
                go_wp2_with fail
                go_meet
                case rel => exact ⟨_, HD.out⟩
            case rest =>
              clear HD
              obtain ⟨v, hD⟩ := hcut
              have HD := Lib.hid hD
              clear hD
              obtain ⟨A3, c3, rfl, _⟩ := HD.out.list.form
              dsimp only at hss hrs
              have hin : TagIn wc (⟨p0, sc, rg, vs⟩, .slice A3 vs.length c3) := ⟨⟨_, HD.out.list⟩, by dsimp only; omega, fun x hx => Nat.le_trans (HD.out.sizes x hx) (by omega), by dsimp only; omega, by dsimp only; omega, by dsimp only; omega⟩
              have HIn := Lib.hid hin
              have HC := Lib.hid (check_in hin)
              dsimp only at HC
              rw [HRaw.out] at HPar
              clear hin HRaw
              have k0 := HD.out.box.cell 0
              have k1 := HD.out.box.cell 1
              have k2 := HD.out.box.cell 2
              have k3 := HD.out.box.cell 3
              simp at k0 k1 k2 k3
              by_cases hf : tagFault ⟨p0, sc, rg, vs⟩ = 0
              · have HX : Hid (∀ W, Below wc.heap.size wc W → Calls Tryz.prog 59 #[.agg #[.string p0, .string sc, .string rg, .slice A3 vs.length c3]] W fun e w' => e = .returned (.string (tagText ⟨p0, sc, rg, vs⟩)) ∧ Below W.heap.size W w') := fun W hW => text_any _ W (HIn.out.below hW) (by have := (tag_sizes hf).2.2.2.1; dsimp only at this ⊢; omega) (by have := tagText_size hf; dsimp only; omega)
                have HY := Lib.hid (fun W => lower_any (tagText ⟨p0, sc, rg, vs⟩) W (by have := tagText_size hf; omega))
                rw [hf, errV_zero] at HC
                rw [hf] at HPar
                clear hf
                generalize tagText ⟨p0, sc, rg, vs⟩ = X at HX HY HPar
                generalize lowerB X = Y at HY HPar
                go_wp2_with fail
                refine HC.out.mono ?_
                rintro e w3 ⟨rfl, hb3⟩
                have HD3 := Lib.hid (HD.out.moved hb3)
                have m := HD3.out.box
                have q0 := m.cell 0
                have q1 := m.cell 1
                have q2 := m.cell 2
                have q3 := m.cell 3
                simp at q0 q1 q2 q3
                have HB3 := Lib.hid hb3
                clear m hb3 k0 k1 k2 k3
                go_wp2_with fail
                refine (HX.out _ HB3.out).mono ?_
                rintro e w4 ⟨rfl, hb4⟩
                have HD4 := Lib.hid (HD3.out.moved hb4)
                clear hb4 q0 q1 q2 q3 HD3
                go_wp2_with fail
                refine (HY.out _).mono ?_
                rintro e w5 ⟨rfl, hb5⟩
                have HD5 := Lib.hid (HD4.out.moved hb5)
                clear hb5 HD4
                go_wp2_with fail
                refine (HLow.out _).mono ?_
                rintro e w6 ⟨rfl, hb6⟩
                have HD6 := Lib.hid (HD5.out.moved hb6)
                clear hb6 HD5
                have m := HD6.out.res
                have d0 := m.cell 0
                have d1 := m.cell 1
                have d2 := m.cell 2
                have d3 := m.cell 3
                have f0 := m.frozen 0
                have f1 := m.frozen 1
                have f2 := m.frozen 2
                have f3 := m.frozen 3
                have m2 := HD6.out.box
                have q0 := m2.cell 0
                have q1 := m2.cell 1
                have q2 := m2.cell 2
                have q3 := m2.cell 3
                simp at d0 d1 d2 d3 q0 q1 q2 q3
                clear m m2
                by_cases he : (Y.toList == ls.toList) = true
                · have HN : Hid (parseTag s = some ⟨p0, sc, rg, vs⟩) := by
                    have h2 := HPar.out
                    have e1 : eqs Y ls = true := he
                    rw [e1] at h2
                    exact h2
                  clear HPar
                  go_wp2_with fail
                  refine bodyPost_ret (v := .tuple #[.agg #[.string p0, .string sc, .string rg, .slice A3 vs.length c3], .nilIface]) ?_ rfl ?_
                  · simp [results, Tryz.results58, go_sem, d0, d1, d2, d3]
                    try rfl
                  · refine ⟨by repeat' (first | exact HD6.out.below | (refine Below.setCell ?_ (by simp) _)), .inr ⟨_, _, HN.out, rfl, ?_⟩⟩
                    have hl6 := HD6.out.list
                    have hb6 := HD6.out.base
                    refine ListOk.mono (lo := h1 + 1) (hi := w6.heap.size) Enc.str_laws (hl6.keep Enc.str_laws fun p hp hq => ?_) (by omega) (by simp)
                    rw [World.cell?_setCell_other _ _ _ _ (by intro e; rw [← e] at hp; dsimp only at hp; omega), World.cell?_setCell_other _ _ _ _ (by intro e; rw [← e] at hp; dsimp only at hp; omega), World.cell?_setCell_other _ _ _ _ (by intro e; rw [← e] at hp; dsimp only at hp; omega), World.cell?_setCell_other _ _ _ _ (by intro e; rw [← e] at hp; dsimp only at hp; omega)]
                · have he' : (Y.toList == ls.toList) = false := by simpa using he
                  have HN : Hid (parseTag s = none) := by
                    have h2 := HPar.out
                    have e1 : eqs Y ls = false := he'
                    rw [e1] at h2
                    exact h2
                  clear HPar he
                  go_wp2_with fail
                  refine bodyPost_ret (v := .tuple #[.agg #[.string ⟨#[]⟩, .string ⟨#[]⟩, .string ⟨#[]⟩, .slice none 0 0], .iface 38 (.int .i64 3)]) ?_ rfl ?_
                  · simp [results, Tryz.results58, go_sem, d0, d1, d2, d3]
                    try rfl
                  · exact ⟨by repeat' (first | exact HD6.out.below | (refine Below.setCell ?_ (by simp) _)), .inl ⟨HN.out, rfl⟩⟩
              · rw [errV_ne hf] at HC
                have HN : Hid (parseTag s = none) := by
                  have h2 := HPar.out
                  rw [decide_eq_false hf] at h2
                  exact h2
                clear hf HPar
                generalize tagFault ⟨p0, sc, rg, vs⟩ = f at HC
                go_wp2_with fail
                refine HC.out.mono ?_
                rintro e w3 ⟨rfl, hb3⟩
                have HD3 := Lib.hid (HD.out.moved hb3)
                have m := HD3.out.res
                have d0 := m.cell 0
                have d1 := m.cell 1
                have d2 := m.cell 2
                have d3 := m.cell 3
                have f0 := m.frozen 0
                have f1 := m.frozen 1
                have f2 := m.frozen 2
                have f3 := m.frozen 3
                simp at d0 d1 d2 d3
                clear m hb3 k0 k1 k2 k3
                go_wp2_with fail
                refine bodyPost_ret (v := .tuple #[.agg #[.string ⟨#[]⟩, .string ⟨#[]⟩, .string ⟨#[]⟩, .slice none 0 0], .iface 38 (.int .i64 3)]) ?_ rfl ?_
                · simp [results, Tryz.results58, go_sem, d0, d1, d2, d3]
                  try rfl
                · exact ⟨by repeat' (first | exact HD3.out.below | (refine Below.setCell ?_ (by simp) _)), .inl ⟨HN.out, rfl⟩⟩
end Go.Proofs.YtiaobgapfoogiaaGreatDoor
