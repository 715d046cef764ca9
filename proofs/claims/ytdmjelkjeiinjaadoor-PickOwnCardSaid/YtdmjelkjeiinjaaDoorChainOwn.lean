/- The walk of linguisterlaw5.ChainOwn. -/
import Derived.Test.YtdmjelkjeiinjaaDoorOwnTags
import Derived.Test.YtdmjelkjeiinjaaDoorParse
set_option linter.unusedSimpArgs false
set_option linter.unusedVariables false
namespace Go.Proofs.YtdmjelkjeiinjaaDoor
open Go.RowKit

def enus : ByteArray := ⟨#[101, 110, 45, 117, 115]⟩
def us : ByteArray := ⟨#[85, 83]⟩
theorem enus_parse : (parseTag enus).map (fun t => (t.region.toList, t.vars.length)) = some (us.toList, 0) := by decide +kernel
theorem enus_any (w : World) (hm : MaxVar w) :
    Calls Tryd.prog 9 #[.string enus] w fun e w' => Below w.heap.size w w' ∧ ∃ l s r A c, (r.toList == us.toList) = true ∧ e = .returned (.tuple #[.agg #[.string l, .string s, .string r, .slice A 0 c], .nilIface]) := by
  refine (parse_any enus w hm (by decide +kernel)).mono ?_
  rintro e w' ⟨hb, hh⟩
  refine ⟨hb, ?_⟩
  rcases hh with ⟨h1, _⟩ | ⟨t, v, h1, rfl, hl⟩
  · have := enus_parse; rw [h1] at this; cases this
  · have := enus_parse
    rw [h1] at this
    simp only [Option.map_some, Option.some.injEq, Prod.mk.injEq] at this
    obtain ⟨A, c, rfl, _⟩ := hl.form
    exact ⟨t.lang, t.script, t.region, A, c, by rw [this.1]; simp, by rw [this.2]⟩

/-- The blocks of the variants of the first i tags. -/
def Wrote (ps : List (Tg × Value)) (i : Nat) (g : Nat) : Prop := ∃ (q : Nat) (h : q < ps.length), q < i ∧ 0 < ps[q].1.vars.length ∧ ps[q].2.ownBlock = some g
theorem Wrote.mono {ps : List (Tg × Value)} {i j g : Nat} (h : Wrote ps i g) (hij : i ≤ j) : Wrote ps j g := let ⟨q, hq, h1, h2⟩ := h; ⟨q, hq, by omega, h2⟩
theorem Wrote.ge {base : Nat} {w : World} {u : Value} {ps : List (Tg × Value)} (h : Rowed base w u ps) {i g : Nat} (hw : Wrote ps i g) : base ≤ g ∧ g < w.heap.size := by
  obtain ⟨q, hq, _, _, hg⟩ := hw
  exact own_lt (h.vars _ (List.getElem_mem hq)) hg
theorem Wrote.not_row {base : Nat} {w : World} {u : Value} {ps : List (Tg × Value)} (h : Rowed base w u ps) {i g : Nat} (hg : u.ownBlock = some g) : ¬ Wrote ps i g := by
  rintro ⟨q, hq, _, _, hg'⟩
  exact own_types (h.vars _ (List.getElem_mem hq)) h.own (by decide) hg' hg
theorem Wrote.not_later {base : Nat} {w : World} {u : Value} {ps : List (Tg × Value)} (h : Rowed base w u ps) {i k g : Nat} (hk : k < ps.length) (hik : i ≤ k) (hn : 0 < ps[k].1.vars.length) (hg : ps[k].2.ownBlock = some g) : ¬ Wrote ps i g := by
  rintro ⟨q, hq, hqi, _, hg'⟩
  exact (List.pairwise_iff_getElem.1 h.apart q k hq hk (by omega)) hn g hg' hg
theorem rowed_cells {base : Nat} {w : World} {u : Value} {ps : List (Tg × Value)} (h : Rowed base w u ps) {g n cap : Nat} (hu : u = .slice (some ⟨g, 0, none⟩) n cap) (k : Nat) (hk : k < ps.length) : CellsAt w g (k * 4) (tagCells ps[k]) := by
  have ho := h.own
  obtain ⟨_, ⟨h2, _⟩ | ⟨g', cap', cur, hv', hb, hh, hc1, hm, hcs, ht⟩⟩ := ho
  · rw [h2] at hu; cases hu
  · rw [hu] at hv'
    injection hv' with e1 e2 e3
    injection e1 with e1
    injection e1 with e1
    subst e1
    intro j x hj
    rw [cell_of_row w g _ cur 24 (0, 0) hh]
    have hj' : j < 4 := by
      rcases Nat.lt_or_ge j 4 with h | h
      · exact h
      · rw [List.getElem?_eq_none (by simpa [tagCells] using h)] at hj; cases hj
    have h3 : (flatT ps)[k * 4 + j]? = some x := by
      rw [← hj, ← flatT_at ps k hk, List.getElem?_take, if_pos hj', List.getElem?_drop]
    rw [← ht, List.getElem?_take] at h3
    split at h3
    · simpa using h3
    · cases h3
theorem chainN_vars : ∀ (n : Nat) (t u : Tg), u ∈ chainN n t → u.vars.length ≤ t.vars.length
  | 0, t, u, h => by rw [List.mem_singleton.1 h]; exact Nat.le_refl _
  | n + 1, t, u, h => by
    unfold chainN at h
    split at h
    · rename_i x hx
      rcases List.mem_cons.1 h with rfl | h
      · exact Nat.le_refl _
      · refine Nat.le_trans (chainN_vars n x u h) ?_
        unfold less at hx
        split at hx
        · injection hx with hx; rw [← hx]; simp
        · split at hx
          · split at hx
            · cases hx
            · injection hx with hx; rw [← hx]; exact Nat.le_refl _
          · injection hx with hx; rw [← hx]; exact Nat.le_refl _
    · rw [List.mem_singleton.1 h]; exact Nat.le_refl _
theorem chain_small {t : Tg} (h : tagFault t = 0) : (chainOf t).length ≤ 6 ∧ ∀ u ∈ chainOf t, u.vars.length ≤ 3 := by
  have h3 := (tag_sizes h).2.2.2.1
  refine ⟨Nat.le_trans (chainOf_length t) ?_, fun u hu => Nat.le_trans (chainN_vars _ t u hu) h3⟩
  unfold deg
  split <;> split <;> omega
def RowHas (w : World) (g n : Nat) : Prop := ∃ cur : Array Value, w.heap[g]? = some (.cells cur 9 (0, 0)) ∧ n ≤ cur.size
theorem RowHas.cell {w : World} {g n : Nat} (h : RowHas w g n) (q : Nat) (hq : q < n) : (∃ u, w.cell? ⟨g, q, none⟩ = some u) ∧ w.frozen? ⟨g, q, none⟩ = false := by
  obtain ⟨cur, hh, hc⟩ := h
  refine ⟨⟨cur[q], ?_⟩, by simp [World.frozen?, hh]⟩
  rw [cell_of_row w g _ cur 9 (0, 0) hh]
  exact Array.getElem?_eq_getElem (by omega)
theorem RowHas.set {w : World} {g n : Nat} (h : RowHas w g n) (q : Nat) (u : Value) : RowHas (w.setCell ⟨g, q, none⟩ u) g n := by
  obtain ⟨cur, hh, hc⟩ := h
  exact ⟨cur.setIfInBounds q u, Blk.set_ (t := 9) (cs := cur) hh q u, by simpa using hc⟩
theorem RowHas.of_var {base : Nat} {w : World} {p : Tg × Value} (h : VarRow base w p) {g : Nat} (hg : p.2.ownBlock = some g) : RowHas w g p.1.vars.length := by
  obtain ⟨_, ⟨h2, _⟩ | ⟨g', cap', cur, hv', hb, hh, hc1, hm, hcs, ht⟩⟩ := h
  · rw [h2] at hg; cases hg
  · rw [hv'] at hg; injection hg with hg
    dsimp only at hg
    subst hg
    exact ⟨cur, hh, by omega⟩
/-- What is left of the list behind the first k tags reads as it did. -/
theorem rowed_drop {base : Nat} {w wr : World} {u : Value} {ps : List (Tg × Value)} (h : Rowed base w u ps) {i : Nat} (hf : Fr w wr (Wrote ps i)) (k : Nat) (hik : i ≤ k) {g n cap : Nat} (hu : u = .slice (some ⟨g, 0, none⟩) n cap) (A' : Option Addr) (c' : Nat) (hc' : ps.length - k ≤ c') (hA : k < ps.length → A' = some ⟨g, k * 4, none⟩) :
    ListOk Enc.tag wr 0 wr.heap.size (.slice A' (ps.length - k) c') ((ps.drop k).map Prod.fst) := by
  have hl : ((ps.drop k).map Prod.fst).length = ps.length - k := by simp
  have hgb := own_lt h.own (g := g) (by rw [hu]; rfl)
  refine ⟨A', c', by rw [hl], by omega, fun q hq => ?_⟩
  have hkq : k + q < ps.length := by omega
  have hrow := h.list (Nat.le_refl _) (Nat.le_refl _)
  rw [hu] at hrow
  obtain ⟨b, o, V, e, _, _, x0, x1, x2, x3, _⟩ := hrow.tagAt (k + q) (by simpa using hkq)
  injection e with e
  injection e with e1 e2
  subst e1; subst e2
  have hv := h.vars _ (List.getElem_mem hkq)
  have hcell := rowed_cells h hu (k + q) hkq
  refine ⟨g, k * 4, tagCells ps[k + q], hA (by omega), Nat.zero_le _, Nat.lt_of_lt_of_le hgb.2 hf.size, ?_, ?_⟩
  · rw [show Enc.tag.sz = 4 from rfl, ← Nat.add_mul]
    intro j x hj
    rw [hf.cell (p := ⟨g, (k + q) * 4 + j, none⟩) hgb.2 (Wrote.not_row h (by rw [hu]; rfl))]
    exact hcell j x hj
  · have e2 : ((ps.drop k).map Prod.fst)[q] = ps[k + q].1 := by simp
    rw [e2]
    refine ⟨ps[k + q].2, rfl, ?_⟩
    by_cases hz : 0 < ps[k + q].1.vars.length
    · have hv2 : VarRow base wr ps[k + q] := own_keep hv fun g' hg' hlt => hf.block g' hlt (Wrote.not_later h hkq (by omega) hz hg')
      exact hv2.list (Nat.zero_le _) (Nat.le_refl _)
    · obtain ⟨A, c, hs, _⟩ := own_slice hv
      rw [hs]
      have h0 : ps[k + q].1.vars = [] := List.length_eq_zero_iff.1 (by omega)
      rw [h0]
      exact ListOk.nil _ _

/-- what Chain gives, whether the tag is right or not -/
def Chain2 (w w' : World) (t : Tg) (u : Value) (f : Int) (l : List Tg) : Prop :=
  (f ≠ 0 ∧ u = .slice none 0 0 ∧ l = []) ∨ (f = 0 ∧ l = chainOf t ∧ ∃ ps, ps.map Prod.fst = l ∧ Rowed w.heap.size w' u ps)
theorem chain_both (p : Tg × Value) (w : World) (h : TagIn w p) :
    Calls Tryd.prog 8 #[.agg #[.string p.1.lang, .string p.1.script, .string p.1.region, p.2]] w fun e w' => Below w.heap.size w w' ∧ ∃ u ps, e = .returned (.tuple #[u, errV (tagFault p.1)]) ∧ ps.map Prod.fst = (if tagFault p.1 = 0 then chainOf p.1 else []) ∧ Rowed w.heap.size w' u ps := by
  by_cases hf : tagFault p.1 = 0
  · refine (chain_ok p w h hf).mono ?_
    rintro e w' ⟨hb, u, rfl, ps, h1, h2⟩
    exact ⟨hb, u, ps, by rw [hf]; rfl, by rw [if_pos hf]; exact h1, h2⟩
  · refine (chain_bad p w h hf).mono ?_
    rintro e w' ⟨rfl, hb⟩
    exact ⟨hb, _, [], rfl, by rw [if_neg hf]; rfl, Rowed.nil⟩
def errB (f : Int) : Bool := decide (f = 0)

set_option maxHeartbeats 3200000 in
set_option maxRecDepth 100000 in
theorem chainOwn_any (p : Tg × Value) (x : ByteArray) (w : World) (h : TagIn w p) (hn : p.1.vars.length * 16 ≤ 140737488355328) (hm : MaxVar w) :
    Calls Tryd.prog 3 #[.agg #[.string p.1.lang, .string p.1.script, .string p.1.region, p.2], .string x] w fun e w' => e = .returned (.bool true) ∧ Below w.heap.size w w' := by
  have HT := Lib.hid h
  have HM := Lib.hid hm
  obtain ⟨t, v⟩ := p
  obtain ⟨lo, hl⟩ := h.lo
  dsimp only at hl hn ⊢
  obtain ⟨A, c, rfl, hc⟩ := hl.form
  clear h hm
  have HTags : Hid (∀ W b, Below w.heap.size w W → Blk W b 24 #[.string t.lang, .string t.script, .string t.region, .slice A t.vars.length c] → Calls Tryd.prog 7 #[.slice (some ⟨b, 0, none⟩) 1 1] W fun e w' => Below W.heap.size W w' ∧ ∃ u, e = .returned u ∧ TagRow W.heap.size w' u [t]) := fun W b hW hb =>
    tags_any [t] _ 0 W ⟨some ⟨b, 0, none⟩, 1, rfl, Nat.le_refl _, fun i hi => by
      have hi0 : i = 0 := by simpa using hi
      subst hi0
      refine ⟨b, 0, [.string t.lang, .string t.script, .string t.region, .slice A t.vars.length c], rfl, Nat.zero_le _, hb.lt, fun j u hj => ?_, .slice A t.vars.length c, rfl, ?_⟩
      · rw [show 0 + 0 * Enc.tag.sz + j = j from by omega, hb.cell j]; simpa using hj
      · exact (hl.below Enc.str_laws hW).mono Enc.str_laws (Nat.zero_le _) hW.size⟩ (by simp) (fun x hx => by rw [List.mem_singleton.1 hx]; exact hn)
  clear hl
  go_enter Tryd.func3, Tryd.ntmps3
  go_wp2_with fail
  have hb0 : Below w.heap.size w ((w.alloc (.cells #[.string t.lang, .string t.script, .string t.region, .slice A t.vars.length c] 24)).alloc (.cells #[.string t.lang, .string t.script, .string t.region, .slice A t.vars.length c] 24)) := ((Below.refl _ _).alloc (Nat.le_refl _) _).alloc (by simp) _
  have hm0 : Blk ((w.alloc (.cells #[.string t.lang, .string t.script, .string t.region, .slice A t.vars.length c] 24)).alloc (.cells #[.string t.lang, .string t.script, .string t.region, .slice A t.vars.length c] 24)) w.heap.size 24 #[.string t.lang, .string t.script, .string t.region, .slice A t.vars.length c] := (Blk.new _ _ _).alloc _
  have hm1 : Blk ((w.alloc (.cells #[.string t.lang, .string t.script, .string t.region, .slice A t.vars.length c] 24)).alloc (.cells #[.string t.lang, .string t.script, .string t.region, .slice A t.vars.length c] 24)) (w.heap.size + 1) 24 #[.string t.lang, .string t.script, .string t.region, .slice A t.vars.length c] := by
    have := Blk.new (w.alloc (.cells #[.string t.lang, .string t.script, .string t.region, .slice A t.vars.length c] 24)) 24 #[.string t.lang, .string t.script, .string t.region, .slice A t.vars.length c]
    rw [World.size_alloc] at this; exact this
  have hTg := HTags.out _ _ hb0 hm1
  clear hm1 HTags
  obtain ⟨tl, ts, tr, tv⟩ := t
  dsimp only at hTg hm0 hb0 hn hc ⊢
  generalize (w.alloc (.cells #[.string tl, .string ts, .string tr, .slice A tv.length c] 24)).alloc (.cells #[.string tl, .string ts, .string tr, .slice A tv.length c] 24) = W0 at hTg hm0 hb0 ⊢
  refine hTg.mono ?_
  rintro e w1 ⟨hb1, u1, rfl, hu1⟩
  have hbw1 : Below w.heap.size w w1 := hb0.trans (hb1.mono hb0.size)
  have hM1 := hm0.below hb1 hm0.lt
  have hul := hu1.list (lo := W0.heap.size) (hi := w1.heap.size) (Nat.le_refl _) (Nat.le_refl _)
  have hW0 := hm0.lt
  obtain ⟨A1, c1, rfl, hc1⟩ := hul.form
  obtain ⟨b1, o1, V1, rfl, p1, p2, x0, x1, x2, x3, xl⟩ := hul.tagAt 0 (by simp)
  simp only [Nat.zero_mul, Nat.add_zero, List.getElem_cons_zero, List.length_singleton] at x0 x1 x2 x3 xl ⊢
  obtain ⟨A2, c2, rfl, hc2⟩ := xl.form
  have HB1 := Lib.hid hbw1
  have HM1 := Lib.hid hM1
  have HXL := Lib.hid xl
  clear hTg hb0 hm0 hb1 hbw1 hM1 hu1 hul xl
  have hw1 : w.heap.size < w1.heap.size := HM1.out.lt
  go_wp2_with fail
  have hWa : (w1.alloc (.cells #[.string tl, .string ts, .string tr, .slice A2 tv.length c2] 24)).heap.size = w1.heap.size + 1 := by simp
  have hIna : TagIn (w1.alloc (.cells #[.string tl, .string ts, .string tr, .slice A2 tv.length c2] 24)) (⟨tl, ts, tr, tv⟩, .slice A2 tv.length c2) :=
    ⟨⟨_, (HXL.out.below Enc.str_laws ((Below.refl _ _).alloc (Nat.le_refl _) _)).mono Enc.str_laws (Nat.le_refl _) (by simp)⟩, HT.out.len, HT.out.vars, HT.out.lang, HT.out.script, HT.out.region⟩
  have hC1 := chain_both _ _ hIna
  have mOa : Blk (w1.alloc (.cells #[.string tl, .string ts, .string tr, .slice A2 tv.length c2] 24)) w1.heap.size 24 #[.string tl, .string ts, .string tr, .slice A2 tv.length c2] := Blk.new _ _ _
  have mTa : Blk (w1.alloc (.cells #[.string tl, .string ts, .string tr, .slice A2 tv.length c2] 24)) w.heap.size 24 #[.string tl, .string ts, .string tr, .slice A tv.length c] := HM1.out.alloc _
  have hXa : ListOk Enc.str (w1.alloc (.cells #[.string tl, .string ts, .string tr, .slice A2 tv.length c2] 24)) W0.heap.size w1.heap.size (.slice A2 tv.length c2) tv := HXL.out.below Enc.str_laws ((Below.refl _ _).alloc (Nat.le_refl _) _)
  have hba : Below w.heap.size w (w1.alloc (.cells #[.string tl, .string ts, .string tr, .slice A2 tv.length c2] 24)) := HB1.out.alloc (by omega) _
  clear hIna HXL HM1 HB1 x0 x1 x2 x3
  dsimp only at hC1
  generalize w1.alloc (.cells #[.string tl, .string ts, .string tr, .slice A2 tv.length c2] 24) = Wa at *
  refine hC1.mono ?_
  rintro e w2 ⟨hb2, u2, ps2, rfl, hs2, hr2⟩
  have m2 := mTa.below hb2 mTa.lt
  have mO2 := mOa.below hb2 mOa.lt
  have hbw2 := hba.trans (hb2.mono hba.size)
  have hX2 := hXa.keep Enc.str_laws (Alk.mono (Alk.of_below hb2) (Nat.zero_le _) (by omega))
  have hT2 := HT.out.below hbw2
  have hC2 := chain_both _ _ hT2
  dsimp only at hC2
  have k0 := m2.cell 0
  have k1 := m2.cell 1
  have k2 := m2.cell 2
  have k3 := m2.cell 3
  simp at k0 k1 k2 k3
  have HWr : Hid (∀ i g, Wrote ps2 i g → Wa.heap.size ≤ g ∧ g < w2.heap.size) := Lib.hid fun i g hg => hg.ge hr2
  have HH2 := Lib.hid (And.intro hs2 (And.intro hr2 (And.intro mO2 (And.intro hbw2 (And.intro hX2 m2)))))
  have HC2 := Lib.hid hC2
  have hsz2 := hb2.size
  clear hC1 hs2 hr2 mO2 hbw2 hX2 m2 hT2 hC2 hb2 mOa mTa hXa hba
  go_wp2_with fail
  refine HC2.out.mono ?_
  rintro e w3 ⟨hb3, u3, ps3, rfl, hs3, hr3⟩
  obtain ⟨hs2, hr2, mO2, hbw2, hX2, m2⟩ := HH2.out
  have hbw3 : Below w.heap.size w w3 := hbw2.trans (hb3.mono hbw2.size)
  have hX3 := hX2.keep Enc.str_laws (Alk.mono (Alk.of_below hb3) (Nat.zero_le _) (by omega))
  have HP := Lib.hid (enus_any w3 (HM.out.below hbw3))
  have HH3 := Lib.hid (And.intro hs3 (And.intro hr3 (And.intro (hr2.below hb3 (Nat.le_refl _)) (And.intro (mO2.below hb3 mO2.lt) (And.intro hbw3 (And.intro hX3 (m2.below hb3 m2.lt)))))))
  have hsz3 := hb3.size
  have HS2 := Lib.hid hs2
  clear HH2 hs2 hr2 mO2 hbw2 hX2 m2 hs3 hr3 hbw3 hX3 hb3 HC2 k0 k1 k2 k3
  go_wp2_with fail
  refine HP.out.mono ?_
  clear HP
  rintro e w4 ⟨hb4, yl, ys, yr, yA, yc, hus, rfl⟩
  have HB4 := Lib.hid hb4
  clear hb4
  go_upto_region 5 with fail
  obtain ⟨W4, hW4⟩ : ∃ W4, W4 = w4.alloc (.cells #[.string yl, .string ys, .string yr, .slice yA 0 yc] 24) := ⟨_, rfl⟩
  have y2 : W4.cell? ⟨w4.heap.size, 2, none⟩ = some (.string yr) := by
    rw [hW4, (Blk.new w4 24 #[.string yl, .string ys, .string yr, .slice yA 0 yc]).cell 2]; rfl
  have hb34 : Below w3.heap.size w3 W4 := by rw [hW4]; exact HB4.out.alloc HB4.out.size _
  rw [← hW4]
  clear hW4 HB4
  go_cut [7, 9, 48] (fun _ _ b wx => b = .bool false ∧ ∃ n, wx = W4.drewN n)
  case first =>
    have hus' : (yr.toList == [85, 83]) = true := by
      have : us.toList = [85, 83] := by decide +kernel
      rw [← this]; exact hus
    by_cases hf : tagFault ⟨tl, ts, tr, tv⟩ = 0
    · rw [hf, errV_zero]
      clear HH3 HS2 hb34
      go_quiet (fail)
      go_wp2
      go_meet
      case rel => exact ⟨rfl, _, rfl⟩
    · rw [errV_ne hf]
      clear HH3 HS2 hb34
      go_quiet (fail)
      go_wp2
      go_meet
      case rel => exact ⟨rfl, _, rfl⟩
  case rest =>
    obtain ⟨rfl, nd, rfl⟩ := hcut
    obtain ⟨hs3, hr3, hr2, mO, hbw3, hX3, m3⟩ := HH3.out
    have hs2 := HS2.out
    have hbL : Below w3.heap.size w3 (W4.drewN nd) := below_drawn hb34 nd
    have hsm : ps2.length ≤ 6 ∧ (∀ u ∈ ps2.map Prod.fst, u.vars.length ≤ 3) := by
      have hlen : ps2.length = (ps2.map Prod.fst).length := by simp
      rw [hlen, hs2]
      split
      · rename_i hf; exact chain_small hf
      · exact ⟨by simp, fun u hu => by cases hu⟩
    have h23 : ps2.map Prod.fst = ps3.map Prod.fst := hs2.trans hs3.symm
    have hl23 : ps3.length = ps2.length := by have := congrArg List.length h23; simpa using this.symm
    have hr2L := hr2.below hbL (Nat.le_refl _)
    have hr3L := hr3.below hbL (Nat.le_refl _)
    have mOL := mO.below hbL mO.lt
    have m3L := m3.below hbL m3.lt
    have hbwL : Below w.heap.size w (W4.drewN nd) := hbw3.trans (hbL.mono hbw3.size)
    have hXL := hX3.keep Enc.str_laws (Alk.mono (Alk.of_below hbL) (Nat.zero_le _) (by omega : w1.heap.size ≤ w3.heap.size))
    have hsL := hbL.size
    clear hs2 hs3 hr3 hr2 mO hbw3 hX3 m3 HH3 HS2 hbL hb34 y2
    generalize W4.drewN nd = WL at *
    obtain ⟨A5, c5, hu2, hc5⟩ := own_slice hr2L.own
    obtain ⟨A6, c6, hu3, hc6⟩ := own_slice hr3L.own
    subst hu2
    subst hu3
    have HR2 := Lib.hid hr2L
    have HR3 := Lib.hid hr3L
    have HO := Lib.hid mOL
    have HM3 := Lib.hid m3L
    have HBL := Lib.hid hbwL
    have HXL := Lib.hid hXL
    have H23 := Lib.hid h23
    have HSm := Lib.hid hsm
    have hps : ps2.length ≤ 6 := hsm.1
    clear hr2L hr3L mOL m3L hbwL hXL h23 hsm
    rw [hl23] at hc6 ⊢
    go_wp2_with fail
    go_loopw [12, 13, 14] (fun i _ _ wr => ∃ j : Nat, j ≤ ps2.length ∧ i = .int .i64 j ∧ Fr WL wr (Wrote ps2 j)) (fun i _ _ _ => ps2.length - (intOf i).toNat)
    case atStart => exact ⟨0, Nat.zero_le _, rfl, Fr.refl _ _⟩
    case round =>
      obtain ⟨j, hj, rfl, hF⟩ := hrel
      have HF := Lib.hid hF
      clear hF
      by_cases hlt : j < ps2.length
      · obtain ⟨g, cap', he, hg1, hg2⟩ := own_form HR2.out.own (by omega)
        injection he with he1 he2 he3
        subst he1
        subst he3
        have hpj := HR2.out.vars _ (List.getElem_mem hlt)
        obtain ⟨Av, cv, hV, hcv⟩ := own_slice hpj
        have hcells := rowed_cells HR2.out rfl j hlt
        have hx0 : WL.cell? ⟨g, j * 4 + 3, none⟩ = some (.slice Av ps2[j].1.vars.length cv) := by
          rw [← hV]; exact hcells 3 _ rfl
        have hngw : ∀ i, ¬ Wrote ps2 i g := fun i => Wrote.not_row HR2.out rfl
        have hnv3 : ps2[j].1.vars.length ≤ 3 := HSm.out.2 _ (List.mem_map_of_mem (List.getElem_mem hlt))
        have hrow0 : ∀ g', Av = some ⟨g', 0, none⟩ → 0 < ps2[j].1.vars.length → RowHas wr g' ps2[j].1.vars.length ∧ Wrote ps2 (j + 1) g' := fun g' hg' h0 => by
          have hob : ps2[j].2.ownBlock = some g' := by rw [hV, hg']; rfl
          obtain ⟨cur, hh, hcc⟩ := RowHas.of_var hpj hob
          exact ⟨⟨cur, (HF.out.block g' (own_lt hpj hob).2 (Wrote.not_later HR2.out hlt (Nat.le_refl _) h0 hob)).trans hh, hcc⟩, j, hlt, by omega, h0, hob⟩
        have hform : 0 < ps2[j].1.vars.length → ∃ g', Av = some ⟨g', 0, none⟩ := fun h0 => by
          obtain ⟨g', c', he, _, _⟩ := own_form hpj h0
          rw [hV] at he
          injection he with he
          exact ⟨g', he⟩
        have HRow := Lib.hid hrow0
        have HForm := Lib.hid hform
        have HNg := Lib.hid hngw
        have HX0 := Lib.hid hx0
        clear hpj hV hcells hx0 hngw hrow0 hform
        obtain ⟨nv, hnv⟩ : ∃ nv, nv = ps2[j].1.vars.length := ⟨_, rfl⟩
        rw [← hnv] at HRow HForm HX0 hcv hnv3
        clear hnv
        obtain ⟨wo, rfl⟩ : ∃ wo : World, wo = wr := ⟨_, rfl⟩
        go_wp2_with fail
        go_loopw [13] (fun jj wr' => ∃ q : Nat, q ≤ nv ∧ jj = .int .i64 q ∧ Fr WL wr' (Wrote ps2 (j + 1)) ∧ ∀ g', Av = some ⟨g', 0, none⟩ → 0 < nv → RowHas wr' g' nv) (fun jj _ => nv - (intOf jj).toNat)
        case atStart => exact ⟨0, Nat.zero_le _, rfl, HF.out.mono fun k hk => hk.mono (by omega), fun g' hg' h0 => (HRow.out g' hg' h0).1⟩
        case round =>
          obtain ⟨q, hq, rfl, hF2, hR2⟩ := hrel
          have hx3 : wr.cell? ⟨g, j * 4 + 3, none⟩ = some (.slice Av nv cv) := (hF2.cell (p := ⟨g, j * 4 + 3, none⟩) hg2 (HNg.out _)).trans HX0.out
          by_cases hq2 : q < nv
          · obtain ⟨vb, rfl⟩ := HForm.out (by omega)
            have hrw := hR2 vb rfl (by omega)
            obtain ⟨⟨uu, hu1⟩, hu2⟩ := hrw.cell q hq2
            have hset : Fr WL (wr.setCell ⟨vb, q, none⟩ (.string x)) (Wrote ps2 (j + 1)) := hF2.setCell (.inl (HRow.out vb rfl (by omega)).2) _
            have HSet := Lib.hid hset
            have HRw := Lib.hid hrw
            clear hset hrw hF2 hR2
            go_wp2_with fail
            refine ⟨⟨q + 1, by omega, by go_num, HSet.out, fun g' hg' _ => ?_⟩, by simp [intOf]; omega⟩
            injection hg' with hg'
            injection hg' with hg'
            subst hg'
            exact HRw.out.set q _
          · obtain rfl : q = nv := by omega
            have HF2 := Lib.hid hF2
            have hp3 : 0 < ps3.length := by omega
            obtain ⟨g6, cap6, he6, hg61, hg62⟩ := own_form HR3.out.own hp3
            injection he6 with he61 _ he63
            subst he61
            subst he63
            have HSt : Hid (∀ W A' A'' c' c'', Below wr.heap.size wr W → (j + 1 < ps2.length → A' = some ⟨g, (j + 1) * 4, none⟩) → (j + 1 < ps2.length → A'' = some ⟨g6, (j + 1) * 4, none⟩) → ps2.length - (j + 1) ≤ c' → ps2.length - (j + 1) ≤ c'' →
                Calls Tryd.prog 10 #[.slice A' (ps2.length - (j + 1)) c', .slice A'' (ps2.length - (j + 1)) c''] W fun e w' => e = .returned (.bool true) ∧ Below W.heap.size W w') := fun W A' A'' c' c'' hW hA' hA'' hc' hc'' => by
              have hfW : Fr WL W (Wrote ps2 (j + 1)) := HF2.out.then_below hW
              have l1 := rowed_drop HR2.out hfW (j + 1) (Nat.le_refl _) rfl A' c' hc' hA'
              have hr3W : Rowed w2.heap.size W (.slice (some ⟨g6, 0, none⟩) ps3.length c6) ps3 := HR3.out.keep fun g hg hgl => hfW.block g hgl fun hw => by
                have := (HWr.out _ _ hw).2; omega
              have l2 := rowed_drop hr3W (i := 0) (Fr.refl W _) (j + 1) (Nat.zero_le _) rfl A'' c'' (by omega) (fun h => hA'' (by omega))
              have e2 : (ps3.drop (j + 1)).map Prod.fst = (ps2.drop (j + 1)).map Prod.fst := by rw [List.map_drop, List.map_drop, H23.out]
              rw [e2, hl23] at l2
              exact stags_same _ _ _ 0 W.heap.size 0 W.heap.size W l1 l2 (Nat.le_refl _) (Nat.le_refl _) (by simp; omega) (fun t ht => by
                have := HSm.out.2 t (by
                  rw [List.map_drop] at ht
                  exact List.mem_of_mem_drop ht)
                omega)
            clear hF2 hR2
            go_wp2_with fail
            have i0 : (0 : Int) ≤ (j : Int) + 1 := by omega
            have i1 : (j : Int) + 1 ≤ (ps2.length : Int) := by omega
            have i2 : ((j : Int) + 1).toNat = j + 1 := by omega
            have i3 : IntKind.i64.wrap ((j : Int) + 1) = (j : Int) + 1 := by rw [IntKind.wrap_i64]; omega
            clear hx3
            by_cases k5 : c5 = j + 1
            · have hz : ps2.length - (j + 1) = 0 := by omega
              rw [hz] at HSt
              have t5 := eq_true k5
              clear k5
              by_cases k6 : c6 = j + 1
              · have t6 := eq_true k6
                clear k6
                go_region_held3 (fun _ => True) (trivial)
                  (first
                    | (go_at_call 10
                       refine (HSt.out _ _ _ _ _ (Below.refl _ _).drew (fun h => by first | rfl | omega) (fun h => by first | rfl | omega) (by omega) (by omega)).mono ?_
                       rintro e w5 ⟨rfl, hb5⟩))
                have HF5 := Lib.hid (HF2.out.then_below (below_undrew hb5))
                clear hb5 HF2 HSt
                go_wp2_with fail
                exact ⟨⟨j + 1, by omega, by go_num, HF5.out⟩, by simp [intOf]; omega⟩
              · go_region_held3 (fun _ => True) (trivial)
                  (first
                    | (go_at_call 10
                       refine (HSt.out _ _ _ _ _ (Below.refl _ _).drew (fun h => by first | rfl | omega) (fun h => by first | rfl | omega) (by omega) (by omega)).mono ?_
                       rintro e w5 ⟨rfl, hb5⟩))
                have HF5 := Lib.hid (HF2.out.then_below (below_undrew hb5))
                clear hb5 HF2 HSt
                go_wp2_with fail
                exact ⟨⟨j + 1, by omega, by go_num, HF5.out⟩, by simp [intOf]; omega⟩
            · by_cases k6 : c6 = j + 1
              · have hz : ps2.length - (j + 1) = 0 := by omega
                rw [hz] at HSt
                have t6 := eq_true k6
                clear k6
                go_region_held3 (fun _ => True) (trivial)
                  (first
                    | (go_at_call 10
                       refine (HSt.out _ _ _ _ _ (Below.refl _ _).drew (fun h => by first | rfl | omega) (fun h => by first | rfl | omega) (by omega) (by omega)).mono ?_
                       rintro e w5 ⟨rfl, hb5⟩))
                have HF5 := Lib.hid (HF2.out.then_below (below_undrew hb5))
                clear hb5 HF2 HSt
                go_wp2_with fail
                exact ⟨⟨j + 1, by omega, by go_num, HF5.out⟩, by simp [intOf]; omega⟩
              · go_region_held3 (fun _ => True) (trivial)
                  (first
                    | (go_at_call 10
                       refine (HSt.out _ _ _ _ _ (Below.refl _ _).drew (fun h => by first | rfl | omega) (fun h => by first | rfl | omega) (by omega) (by omega)).mono ?_
                       rintro e w5 ⟨rfl, hb5⟩))
                have HF5 := Lib.hid (HF2.out.then_below (below_undrew hb5))
                clear hb5 HF2 HSt
                go_wp2_with fail
                exact ⟨⟨j + 1, by omega, by go_num, HF5.out⟩, by simp [intOf]; omega⟩
      · obtain rfl : j = ps2.length := by omega
        have hw1n : ¬ Wrote ps2 ps2.length w1.heap.size := fun hw => by have := (HWr.out _ _ hw).1; omega
        have hwn : ¬ Wrote ps2 ps2.length w.heap.size := fun hw => by have := (HWr.out _ _ hw).1; omega
        have mo := HO.out.fr HF.out hw1n
        have mt := HM3.out.fr HF.out hwn
        have hxl : ListOk Enc.str wr W0.heap.size w1.heap.size (.slice A2 tv.length c2) tv := HXL.out.keep Enc.str_laws (Alk.of_fr HF.out (by omega) fun k _ hk hw => by have := (HWr.out _ _ hw).1; omega)
        have hbwr : Below w.heap.size w wr := HF.out.below HBL.out HBL.out.size (fun k hk => by have := (HWr.out _ _ hk).1; omega)
        have hst := stag_same ⟨tl, ts, tr, tv⟩ (.slice A2 tv.length c2) (.slice A tv.length c) W0.heap.size w1.heap.size (Classical.choose HT.out.lo) w.heap.size wr hxl ((Classical.choose_spec HT.out.lo).below Enc.str_laws hbwr) (by have := HF.out.size; omega) hbwr.size (by dsimp only; omega)
        have HST := Lib.hid hst
        have HBW := Lib.hid hbwr
        have k0 := mo.cell 0
        have k1 := mo.cell 1
        have k2 := mo.cell 2
        have k3 := mo.cell 3
        have l0 := mt.cell 0
        have l1 := mt.cell 1
        have l2 := mt.cell 2
        have l3 := mt.cell 3
        simp at k0 k1 k2 k3 l0 l1 l2 l3
        clear hst hbwr hxl mo mt hw1n hwn HF
        go_wp2_with fail
        refine HST.out.mono ?_
        rintro e w5 ⟨rfl, hb5⟩
        have HB5 := Lib.hid (HBW.out.trans (hb5.mono HBW.out.size))
        clear hb5
        go_wp2_with fail
        go_ret
        exact ⟨rfl, HB5.out⟩
end Go.Proofs.YtdmjelkjeiinjaaDoor
