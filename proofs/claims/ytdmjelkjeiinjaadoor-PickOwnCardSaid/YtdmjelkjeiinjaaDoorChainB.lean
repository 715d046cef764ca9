/- The walk of package chain: Chain. -/
import Derived.Test.YtdmjelkjeiinjaaDoorChainW
import Derived.Test.YtdmjelkjeiinjaaDoorAppend
set_option linter.unusedSimpArgs false
set_option linter.unusedVariables false
namespace Go.Proofs.YtdmjelkjeiinjaaDoor
open Go.RowKit

theorem info_tag : (Tryd.prog.info? 24).map (fun i => (i.zero, i.size, i.bytes)) = some (some (.agg #[.string ⟨#[]⟩, .string ⟨#[]⟩, .string ⟨#[]⟩, .slice none 0 0]), 4, 72) := by kernel_rfl
/-- What is asked of a tag that is handed in. -/
structure TagIn (w : World) (p : Tg × Value) : Prop where
  lo : ∃ lo, ListOk Enc.str w lo w.heap.size p.2 p.1.vars
  len : p.1.vars.length ≤ 140737488355328
  vars : ∀ s ∈ p.1.vars, s.size ≤ 9223372036854775807
  lang : p.1.lang.size ≤ 9223372036854775807
  script : p.1.script.size ≤ 9223372036854775807
  region : p.1.region.size ≤ 9223372036854775807
theorem TagIn.below {w w' : World} {p : Tg × Value} (h : TagIn w p) (hb : Below w.heap.size w w') : TagIn w' p :=
  ⟨let ⟨lo, hl⟩ := h.lo; ⟨lo, (hl.below Enc.str_laws hb).mono Enc.str_laws (Nat.le_refl _) hb.size⟩, h.len, h.vars, h.lang, h.script, h.region⟩
theorem check_in {w : World} {p : Tg × Value} (h : TagIn w p) :
    Calls Tryd.prog 23 #[.agg #[.string p.1.lang, .string p.1.script, .string p.1.region, p.2]] w fun e w' => e = .returned (errV (tagFault p.1)) ∧ Below w.heap.size w w' := by
  obtain ⟨lo, hl⟩ := h.lo
  exact check_any p.1 p.2 w lo hl h.len h.vars h.lang h.script h.region

set_option maxHeartbeats 800000 in
theorem chain_bad (p : Tg × Value) (w : World) (h : TagIn w p) (hf : tagFault p.1 ≠ 0) :
    Calls Tryd.prog 8 #[.agg #[.string p.1.lang, .string p.1.script, .string p.1.region, p.2]] w fun e w' => e = .returned (.tuple #[.slice none 0 0, errV (tagFault p.1)]) ∧ Below w.heap.size w w' := by
  have HC : Hid (∀ W, Below w.heap.size w W → Calls Tryd.prog 23 #[.agg #[.string p.1.lang, .string p.1.script, .string p.1.region, p.2]] W fun e w' => e = .returned (errV (tagFault p.1)) ∧ Below W.heap.size W w') := fun W hW => check_in (h.below hW)
  rw [errV_ne hf] at HC ⊢
  generalize tagFault p.1 = f at *
  obtain ⟨⟨l, s, r, vs⟩, v⟩ := p
  obtain ⟨lo, hl⟩ := h.lo
  dsimp only at hl HC ⊢
  obtain ⟨A, c, rfl, hc⟩ := hl.form
  clear hl
  go_enter Tryd.func8, Tryd.ntmps8
  go_wp2_with fail
  refine (HC.out _ ((Below.refl _ _).alloc (Nat.le_refl _) _)).mono ?_
  rintro e w1 ⟨rfl, hb⟩
  have HB : Hid (Below w.heap.size w w1) := ((Below.refl _ _).alloc (Nat.le_refl _) _).trans (hb.mono (by simp))
  clear hb
  go_wp2_with fail
  go_ret2
  exact ⟨rfl, HB.out⟩

theorem flatT_snoc (ps : List (Tg × Value)) (q : Tg × Value) : flatT (ps ++ [q]) = flatT ps ++ tagCells q := by simp [flatT]
theorem Rowed.push {base : Nat} {W w' : World} {o v' : Value} {ps : List (Tg × Value)} {q : Tg × Value} (h : Rowed base W o ps) (hq : VarRow base W q) (hap : ∀ p ∈ ps, Apart p q) (hg : W.grownBy w' o.ownBlock)
    (hown : w'.ownsRow base 24 4 v' (ps.length + 1) (flatT ps ++ tagCells q)) : Rowed base w' v' (ps ++ [q]) := by
  have keep : ∀ p, VarRow base W p → VarRow base w' p := fun p hp => own_keep hp fun g hpg hlt => hg.block g hlt fun e => own_types hp h.own (by decide) hpg e.symm
  refine ⟨?_, fun p hp => ?_, ?_⟩
  · rw [flatT_snoc]
    have e : (ps ++ [q]).length = ps.length + 1 := by simp
    rw [e]; exact hown
  · rcases List.mem_append.1 hp with hp | hp
    · exact keep p (h.vars p hp)
    · rw [List.mem_singleton.1 hp]; exact keep q hq
  · refine List.pairwise_append.2 ⟨h.apart, List.pairwise_singleton _ _, fun a ha b hb => ?_⟩
    rw [List.mem_singleton.1 hb]; exact hap a ha
theorem less_step {base : Nat} {W w' : World} {o : Value} {t : Tg} {ps : List (Tg × Value)} {p q : Tg × Value} {b : Bool} (h : Rowed base W o ps) (hp : VarRow base W p) (hbase : base ≤ W.heap.size)
    (hb : Below W.heap.size W w') (hl : Lessed W w' p q b) (ps0 : List (Tg × Value)) (hps : ps = ps0 ++ [p]) (hc : chainOf t = ps0.map Prod.fst ++ chainOf p.1) :
    Rowed base w' o ps ∧ chainOf t = ps.map Prod.fst ++ (if b then chainOf q.1 else []) ∧ VarRow base w' q ∧ (b = true → ∀ x ∈ ps, Apart x q) ∧ (b = true → deg q.1 < deg p.1) ∧ q.1.vars.length ≤ p.1.vars.length := by
  refine ⟨h.below hb (Nat.le_refl _), ?_⟩
  have hp' : VarRow base w' p := own_below hp hb (Nat.le_refl _)
  rcases hl with ⟨hn, rfl, rfl⟩ | ⟨u, hu, rfl, rfl, hv⟩
  · refine ⟨?_, hp', fun h => (by cases h), fun h => (by cases h), Nat.le_refl _⟩
    rw [hc, hps, chainOf_none hn]; simp
  · refine ⟨?_, ?_, fun _ x hx => ?_, fun _ => less_deg hu, ?_⟩
    · rw [hc, hps, chainOf_some hu]; simp
    · rcases hv with hv | ⟨h1, h2, h3⟩
      · exact own_mono hv hbase
      · unfold VarRow at hp' ⊢
        rw [h1, h3]; rw [h2] at hp'; exact hp'
    · rcases hv with hv | ⟨h1, h2, h3⟩
      · intro _ g hg hg'
        have h1 := (own_lt hv hg').1
        have h2 := (own_lt (h.vars x hx) hg).2
        omega
      · intro h0; rw [h3] at h0; exact absurd h0 (by simp)
    · unfold less at hu
      split at hu
      · injection hu with hu; rw [← hu]; simp
      · split at hu
        · split at hu
          · cases hu
          · injection hu with hu; rw [← hu]; exact Nat.le_refl _
        · injection hu with hu; rw [← hu]; exact Nat.le_refl _
def lenV : Value → Nat
  | .slice _ n _ => n
  | _ => 0
/-- What holds at the head of Chain's loop. -/
structure Chained (w wr : World) (t : Tg) (ps : List (Tg × Value)) (q : Tg × Value) (b : Bool) (o : Value) (nb : Nat) : Prop where
  below : Below w.heap.size w wr
  rowed : Rowed w.heap.size wr o ps
  box : Blk wr nb 24 #[.string q.1.lang, .string q.1.script, .string q.1.region, q.2]
  old : ∀ g, o.ownBlock = some g → g < nb
  base : w.heap.size ≤ nb
  sum : chainOf t = ps.map Prod.fst ++ (if b then chainOf q.1 else [])
  qv : VarRow w.heap.size wr q
  ap : b = true → ∀ x ∈ ps, Apart x q
  len : q.1.vars.length ≤ 3
  deg : ps.length + (if b then deg q.1 + 1 else 0) ≤ 6
set_option maxHeartbeats 1600000 in
theorem chain_ok (p : Tg × Value) (w : World) (h : TagIn w p) (hf : tagFault p.1 = 0) :
    Calls Tryd.prog 8 #[.agg #[.string p.1.lang, .string p.1.script, .string p.1.region, p.2]] w fun e w' => Below w.heap.size w w' ∧ ∃ u, e = .returned (.tuple #[u, .nilIface]) ∧ TagRow w.heap.size w' u (chainOf p.1) := by
  have HC : Hid (∀ W, Below w.heap.size w W → Calls Tryd.prog 23 #[.agg #[.string p.1.lang, .string p.1.script, .string p.1.region, p.2]] W fun e w' => e = .returned .nilIface ∧ Below W.heap.size W w') := fun W hW => by
    have := check_in (h.below hW)
    rw [hf] at this; exact this
  have HL : Hid (p.1.vars.length ≤ 3) := by
    by_cases h3 : p.1.vars.length ≤ 3
    · exact h3
    · exfalso
      unfold tagFault at hf
      split at hf
      · cases hf
      · split at hf
        · rw [if_pos (by omega)] at hf; cases hf
        · contradiction
  clear hf
  obtain ⟨⟨l, s, r, vs⟩, v⟩ := p
  obtain ⟨lo, hl⟩ := h.lo
  clear h
  dsimp only at hl HC HL ⊢
  obtain ⟨A, c, rfl, hc⟩ := hl.form
  have HN : Hid (∀ W, Below w.heap.size w W → (vs.length = 0 ∨ ∃ b o, A = some ⟨b, o, none⟩ ∧ ∀ j u, (vs.map Value.string)[j]? = some u → W.cell? ⟨b, o + j, none⟩ = some u)) := fun W hW => news_strs (hl.below Enc.str_laws hW)
  clear hl
  go_enter Tryd.func8, Tryd.ntmps8
  go_wp2_with fail
  refine (HC.out _ ((Below.refl _ _).alloc (Nat.le_refl _) _)).mono ?_
  rintro e w1 ⟨rfl, hb⟩
  have HB : Hid (Below w.heap.size w w1) := ((Below.refl _ _).alloc (Nat.le_refl _) _).trans (hb.mono (by simp))
  have m0 : Blk w1 w.heap.size 24 #[.string l, .string s, .string r, .slice A vs.length c] := (Blk.new _ _ _).below hb (by simp)
  have hsz := hb.size
  simp only [World.size_alloc] at hsz
  clear hb HC
  have c0 := m0.cell 0
  have c1 := m0.cell 1
  have c2 := m0.cell 2
  have c3 := m0.cell 3
  have f3 := m0.frozen 3
  have M0 := Lib.hid m0
  clear m0
  simp at c0 c1 c2 c3
  go_wp2_with (at_builtin; refine wpList_append_any rfl _ _ 22 rfl (w.heap.size + 1) 9 Tryd.underlying22 info_string rfl (by decide) [] rfl own_nil (vs.map .string) rfl (by simp) (HN.out _ HB.out) (strs_oneCell _) (by have := HL.out; unfold maxLen; omega) (by have := HL.out; omega) hsz ?_)
  intro v1 w2 hown hgrow hblk
  obtain ⟨A1, cap1, rfl, hcap1⟩ := own_slice hown
  have hgrow' : w1.grownBy w2 none := hgrow
  have hsz2 := hgrow'.size
  have hsize1 : w.heap.size < w1.heap.size := hsz
  have hlt2 : w.heap.size < w2.heap.size := by omega
  have m2 : Blk w2 w.heap.size 24 #[.string l, .string s, .string r, .slice A vs.length c] := (hgrow'.block _ hsize1 (by simp)).trans M0.out
  have HB2 : Hid (Below w.heap.size w w2) := HB.out.grown hgrow (by omega) (by simp [Value.ownBlock])
  have OW := Lib.hid hown
  clear HB M0 c0 c1 c2 c3 f3 HN hown hgrow hgrow' hblk hsz
  have c0 := m2.cell 0
  have c1 := m2.cell 1
  have c2 := m2.cell 2
  have c3 := m2.cell 3
  have f3 := m2.frozen 3
  simp at c0 c1 c2 c3
  clear m2
  go_wp2_with fail
  obtain ⟨W3, hW3⟩ : ∃ W3, W3 = (w2.setCell ⟨w.heap.size, 3, none⟩ (.slice A1 vs.length cap1)).alloc (.cells #[.string l, .string s, .string r, .slice A1 vs.length cap1] 24) := ⟨_, rfl⟩
  have hv3 : VarRow w.heap.size W3 (⟨l, s, r, vs⟩, .slice A1 vs.length cap1) := by
    rw [hW3]
    refine own_mono (own_keep OW.out fun g hg hlt => ?_) (base' := w.heap.size) (by omega)
    have := (own_lt OW.out hg).1
    rw [Below.heap_alloc _ _ _ (by simp; omega), Below.heap_setCell _ _ _ _ (by simp; omega)]
  have hr3 : Rowed w.heap.size W3 (.slice (some ⟨w2.heap.size, 0, none⟩) 1 1) [(⟨l, s, r, vs⟩, .slice A1 vs.length cap1)] := by
    refine ⟨⟨rfl, .inr ⟨w2.heap.size, 1, #[.string l, .string s, .string r, .slice A1 vs.length cap1], rfl, by omega, ?_, by simp, by unfold maxLen; omega, rfl, rfl⟩⟩, fun p hp => ?_, List.pairwise_singleton _ _⟩
    · rw [hW3]; simpa using heap_alloc_new (w2.setCell ⟨w.heap.size, 3, none⟩ (.slice A1 vs.length cap1)) (.cells #[.string l, .string s, .string r, .slice A1 vs.length cap1] 24)
    · rw [List.mem_singleton.1 hp]; exact hv3
  have hb3 : Below w.heap.size w W3 := by
    rw [hW3]
    exact (HB2.out.setCell (by simp) _).alloc (by simp; omega) _
  have hs3 : w2.heap.size < W3.heap.size := by rw [hW3]; simp
  rw [← hW3]
  clear hW3
  have hlo3 : w.heap.size ≤ W3.heap.size := by omega
  have HL3 := less_any (⟨l, s, r, vs⟩, .slice A1 vs.length cap1) W3 w.heap.size (hv3.list (Nat.le_refl _) (Nat.le_refl _)) (by have := HL.out; dsimp only; omega)
  refine HL3.mono ?_
  rintro e w4 ⟨hb4, q, b, rfl, hl⟩
  have hstep := less_step (t := ⟨l, s, r, vs⟩) hr3 hv3 hlo3 hb4 hl [] rfl rfl
  have hd : deg ⟨l, s, r, vs⟩ ≤ 5 := by
    have := HL.out
    simp only [deg]; split <;> split <;> omega
  have hs4 := hb4.size
  obtain ⟨g1, g2, g3, g4, g5, g6⟩ := hstep
  obtain ⟨⟨ql, qs, qr, qv⟩, qV⟩ := q
  obtain ⟨A2, cap2, hq2, _⟩ := own_slice g3
  dsimp only at hq2
  subst hq2
  have H4 : Hid (∀ wr nb, Below w4.heap.size w4 wr → nb = w4.heap.size → Blk wr nb 24 #[.string ql, .string qs, .string qr, .slice A2 qv.length cap2] → Chained w wr ⟨l, s, r, vs⟩ [(⟨l, s, r, vs⟩, .slice A1 vs.length cap1)] (⟨ql, qs, qr, qv⟩, .slice A2 qv.length cap2) b (.slice (some ⟨w2.heap.size, 0, none⟩) 1 1) nb) := fun wr nb hwr hnb hbx =>
    ⟨hb3.trans ((hb4.mono hlo3).trans (hwr.mono (by omega))), g1.below hwr (Nat.le_refl _), hbx, fun g hg => by simp [Value.ownBlock] at hg; omega, by omega, g2, own_below g3 hwr (Nat.le_refl _), g4, by have := HL.out; dsimp only at g6 ⊢; omega, by
      cases b with
      | true => have := g5 rfl; dsimp only at this; simp only [if_true, List.length_singleton]; omega
      | false => simp⟩
  clear hr3 hv3 hb3 hb4 hl HL3 g1 g2 g3 g4 g5 g6 HB2 OW hs4 hs3 hlo3 hd c0 c1 c2 c3 f3 hsz2 hsize1 hlt2
  dsimp only at H4 ⊢
  go_wp2_with fail
  go_loopw [5, 6, 7] (fun o nx f wr => ∃ ps q b nb, nx = .pointer (some ⟨nb, 0, none⟩) ∧ f = .bool b ∧ Chained w wr ⟨l, s, r, vs⟩ ps q b o nb) (fun o _ _ _ => 7 - lenV o)
  case atStart => exact ⟨_, _, b, _, rfl, rfl, H4.out _ _ ((Below.refl _ _).alloc (Nat.le_refl _) _) rfl (Blk.new _ _ _)⟩
  case round =>
    obtain ⟨ps, ⟨⟨ql, qs, qr, qv⟩, qV⟩, b, nb, rfl, rfl, H⟩ := hrel
    cases b with
    | false =>
      have HH := Lib.hid H
      clear H H4
      go_wp2_with fail
      go_ret2
      exact ⟨HH.out.below, _, rfl, _, by rw [HH.out.sum]; simp, HH.out.rowed⟩
    | true =>
      obtain ⟨A2, cap2, hq2, _⟩ := own_slice H.qv
      obtain ⟨B2, capo, ho2, hco⟩ := own_slice H.rowed.own
      dsimp only at hq2
      subst hq2
      subst ho2
      have m := H.box
      dsimp only at m
      have c0 := m.cell 0
      have c1 := m.cell 1
      have c2 := m.cell 2
      have c3 := m.cell 3
      have hlt := m.lt
      simp at c0 c1 c2 c3
      clear m
      have HH := Lib.hid H
      clear H H4
      have hnews : ∀ j u, ([Value.string ql, .string qs, .string qr, .slice A2 qv.length cap2] : List Value)[j]? = some u → (wr.alloc (.cells #[.string ql, .string qs, .string qr, .slice A2 qv.length cap2] 24)).cell? ⟨wr.heap.size, 0 + j, none⟩ = some u := fun j u hj => by
        rw [Nat.zero_add, (Blk.new wr 24 #[.string ql, .string qs, .string qr, .slice A2 qv.length cap2]).cell j]
        simpa using hj
      have hro := own_keep (w' := wr.alloc (.cells #[.string ql, .string qs, .string qr, .slice A2 qv.length cap2] 24)) HH.out.rowed.own (fun g _ hg => Below.heap_alloc _ _ _ hg)
      have hps : ps.length ≤ 5 := by have := HH.out.deg; simp only [if_true] at this; omega
      have hbs : w.heap.size ≤ wr.heap.size := HH.out.below.size
      go_wp2_with (at_builtin; refine wpList_append_any rfl _ _ 25 rfl w.heap.size 24 Tryd.underlying25 info_tag rfl (by decide) (flatT ps) rfl hro [.string ql, .string qs, .string qr, .slice A2 qv.length cap2] rfl rfl (.inr ⟨_, _, rfl, hnews⟩) (by simp [Value.oneCell']) (by unfold maxLen; omega) (by omega) (by simp; omega) ?_)
      intro vo w5 hown hgrow _
      obtain ⟨B3, cap3, rfl, _⟩ := own_slice hown
      have hr1 : Rowed w.heap.size (wr.alloc (.cells #[.string ql, .string qs, .string qr, .slice A2 qv.length cap2] 24)) (.slice B2 ps.length capo) ps := HH.out.rowed.keep fun g _ hg => Below.heap_alloc _ _ _ hg
      have hq1 : VarRow w.heap.size (wr.alloc (.cells #[.string ql, .string qs, .string qr, .slice A2 qv.length cap2] 24)) (⟨ql, qs, qr, qv⟩, .slice A2 qv.length cap2) := own_keep HH.out.qv fun g _ hg => Below.heap_alloc _ _ _ hg
      have hr5 := Rowed.push hr1 hq1 (HH.out.ap rfl) hgrow hown
      have hsz5 := hgrow.size
      simp only [World.size_alloc] at hsz5
      have hb5 : Below w.heap.size w w5 := (HH.out.below.alloc hbs _).grown hgrow (by simp; omega) (fun k hk => (own_lt HH.out.rowed.own hk).1)
      have m5 : Blk w5 nb 24 #[.string ql, .string qs, .string qr, .slice A2 qv.length cap2] := (hgrow.block nb (by simp; omega) (fun e => by have := HH.out.old nb e.symm; omega)).trans (HH.out.box.alloc _)
      have hq5 : VarRow w.heap.size w5 (⟨ql, qs, qr, qv⟩, .slice A2 qv.length cap2) := hr5.vars _ (by simp)
      have hold : ∀ g, (Value.slice B3 (ps.length + 1) cap3).ownBlock = some g → g < w5.heap.size := fun g hg => (own_lt hown hg).2
      have hbase5 : w.heap.size ≤ w5.heap.size := by omega
      have hsum : chainOf ⟨l, s, r, vs⟩ = ps.map Prod.fst ++ chainOf ⟨ql, qs, qr, qv⟩ := by have := HH.out.sum; simpa using this
      have hdeg := HH.out.deg
      have hlen := HH.out.len
      simp only [if_true] at hdeg hlen
      have H5 : Hid (∀ w6 q b, Below (w5.heap.size + 1) (w5.alloc (.cells #[.string ql, .string qs, .string qr, .slice A2 qv.length cap2] 24)) w6 → Lessed (w5.alloc (.cells #[.string ql, .string qs, .string qr, .slice A2 qv.length cap2] 24)) w6 (⟨ql, qs, qr, qv⟩, .slice A2 qv.length cap2) q b →
          (∃ A c, q.2 = .slice A q.1.vars.length c) ∧ ∀ wr', Below w5.heap.size w6 wr' → (∀ g, w5.heap.size < g → g < w6.heap.size → wr'.heap[g]? = w6.heap[g]?) → Blk wr' w5.heap.size 24 #[.string q.1.lang, .string q.1.script, .string q.1.region, q.2] →
            Chained w wr' ⟨l, s, r, vs⟩ (ps ++ [(⟨ql, qs, qr, qv⟩, .slice A2 qv.length cap2)]) q b (.slice B3 (ps.length + 1) cap3) w5.heap.size) := fun w6 q b hb6 hl => by
        have e6 : (w5.alloc (.cells #[.string ql, .string qs, .string qr, .slice A2 qv.length cap2] 24)).heap.size = w5.heap.size + 1 := by simp
        have hst := less_step (t := ⟨l, s, r, vs⟩) (hr5.keep fun g _ hg => Below.heap_alloc w5 (.cells #[.string ql, .string qs, .string qr, .slice A2 qv.length cap2] 24) _ hg) (own_keep hq5 fun g _ hg => Below.heap_alloc w5 (.cells #[.string ql, .string qs, .string qr, .slice A2 qv.length cap2] 24) _ hg) (by omega) (by rw [e6]; exact hb6) hl ps rfl hsum
        obtain ⟨g1, g2, g3, g4, g5, g6⟩ := hst
        refine ⟨let ⟨A, c, h, _⟩ := own_slice g3; ⟨A, c, h⟩, fun wr' hbr hkeep hbx => ?_⟩
        have keep : ∀ g, g ≠ w5.heap.size → g < w6.heap.size → wr'.heap[g]? = w6.heap[g]? := fun g hg hlt => by
          rcases Nat.lt_or_ge g w5.heap.size with h | h
          · exact hbr.block g h
          · exact hkeep g (by omega) hlt
        have hne : ∀ {base : Nat} {e : TypeId} {size : Nat} {v : Value} {n : Nat} {xs : List Value}, w6.ownsRow base e size v n xs → e ≠ 24 → ∀ g, v.ownBlock = some g → g ≠ w5.heap.size := by
          intro base e size v n xs ho he g hg hgw
          subst hgw
          obtain ⟨_, ⟨h2, _⟩ | ⟨g1, cap, cur, hv, hb, hh, r⟩⟩ := ho
          · rw [h2] at hg; cases hg
          · rw [hv] at hg; injection hg with hg
            dsimp only at hg
            subst hg
            have h2 : w6.heap[w5.heap.size]? = _ := (hb6.block w5.heap.size (by omega)).trans (heap_alloc_new w5 _)
            rw [h2] at hh; injection hh with hh; injection hh with _ hh
            exact he hh.symm
        refine ⟨hb5.trans (((Below.refl _ _).alloc (Nat.le_refl _) _).mono hbase5 |>.trans ((hb6.mono (by omega)).trans (hbr.mono hbase5))), ⟨own_keep g1.own fun g hg hlt => keep g (by have := hold g hg; omega) hlt, fun p hp => own_keep (g1.vars p hp) fun g hg hlt => keep g (hne (g1.vars p hp) (by decide) g hg) hlt, g1.apart⟩, hbx, hold, hbase5, g2, own_keep g3 fun g hg hlt => keep g (hne g3 (by decide) g hg) hlt, g4, by dsimp only at g6; omega, ?_⟩
        cases b with
        | true => have := g5 rfl; dsimp only at this; simp only [if_true, List.length_append, List.length_singleton]; omega
        | false => simp; omega
      have hL5 : ∀ W, W = w5.alloc (.cells #[.string ql, .string qs, .string qr, .slice A2 qv.length cap2] 24) → ListOk Enc.str W w.heap.size W.heap.size (.slice A2 qv.length cap2) qv := fun W hW => by
        subst hW
        exact VarRow.list (base := w.heap.size) (p := (⟨ql, qs, qr, qv⟩, .slice A2 qv.length cap2)) (own_keep hq5 fun g _ hg => Below.heap_alloc _ _ _ hg) (Nat.le_refl _) (Nat.le_refl _)
      have HL5 := Lib.hid hL5
      have hlt5 : nb < w5.heap.size := by omega
      clear hr1 hq1 hr5 hown hgrow hq5 hL5 hro hnews hold hsum hdeg HH hb5 c0 c1 c2 c3
      have c0 := m5.cell 0
      have c1 := m5.cell 1
      have c2 := m5.cell 2
      have c3 := m5.cell 3
      simp at c0 c1 c2 c3
      clear m5
      go_wp2_with fail
      have HL6 := less_any (⟨ql, qs, qr, qv⟩, .slice A2 qv.length cap2) (w5.alloc (.cells #[.string ql, .string qs, .string qr, .slice A2 qv.length cap2] 24)) w.heap.size (HL5.out _ rfl) (by dsimp only; omega)
      refine HL6.mono ?_
      clear HL6 HL5
      rintro e w6 ⟨hb6, ⟨⟨ql', qs', qr', qv'⟩, qV'⟩, b', rfl, hl⟩
      obtain ⟨⟨A6, c6, hq6⟩, HC6⟩ := H5.out w6 _ b' (by simpa using hb6) hl
      dsimp only at hq6
      subst hq6
      have H6 := Lib.hid HC6
      have m6 : Blk w6 w5.heap.size 24 #[.string ql, .string qs, .string qr, .slice A2 qv.length cap2] := (Blk.new _ _ _).below hb6 (by simp)
      clear H5 hl HC6 hb6 c0 c1 c2 c3
      have d0 := m6.cell 0
      have d1 := m6.cell 1
      have d2 := m6.cell 2
      have d3 := m6.cell 3
      have f0 := m6.frozen 0
      have f1 := m6.frozen 1
      have f2 := m6.frozen 2
      have f3 := m6.frozen 3
      simp at d0 d1 d2 d3
      have M6 := Lib.hid m6
      clear m6
      go_wp2_with fail
      go_roundw
      case rel =>
        refine ⟨_, _, b', _, rfl, rfl, H6.out _ ?_ ?_ ?_⟩
        · repeat' (first | exact Below.refl _ _ | (refine Below.setCell ?_ (by simp) _))
        · intro g hg hlt
          repeat rw [Below.heap_setCell _ _ _ _ (by simp; omega)]
        · have := (((M6.out.set_ 0 (.string ql')).set_ 1 (.string qs')).set_ 2 (.string qr')).set_ 3 (.slice A6 qv'.length c6)
          simpa using this
      case measure => simp [lenV]; omega
end Go.Proofs.YtdmjelkjeiinjaaDoor
