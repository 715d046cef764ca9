/- The walk of linguisterlaw4.FindNear. -/
import Derived.Test.YtdmjelkjeiinjaaDoorRefH
import Derived.Test.YtdmjelkjeiinjaaDoorSmall
import Derived.Test.YtdmjelkjeiinjaaDoorBunRow
import Derived.Deep.DeepCutAuto
set_option linter.unusedSimpArgs false
set_option linter.unusedVariables false
namespace Go.Proofs.YtdmjelkjeiinjaaDoor
open Go.RowKit

theorem flatB_length (l : List (Bun × Value)) : (flatB l).length = l.length * 2 := by
  induction l with
  | nil => rfl
  | cons p l ih => show (bunCells p ++ flatB l).length = _; rw [List.length_append, ih]; simp [bunCells]; omega
theorem buns_ps {w : World} {A : Option Addr} {n c : Nat} {l : List Bun} (h : BunsIn w (.slice A n c) l) :
    ∃ ps : List (Bun × Value), ps.map Prod.fst = l ∧ (∀ p ∈ ps, BunIn w p.1 p.2 ∧ p.2.oneCell' = true) ∧ (l.length = 0 ∨ ∃ b o, A = some ⟨b, o, none⟩ ∧ b < w.heap.size ∧ ∀ j u, (flatB ps)[j]? = some u → w.cell? ⟨b, o + j, none⟩ = some u) := by
  obtain ⟨vs, hvl, hvs⟩ := choose_list (α := Value) l.length (fun i V => ∀ (hi : i < l.length), ∃ b o, A = some ⟨b, o, none⟩ ∧ b < w.heap.size ∧ w.cell? ⟨b, o + i * 2, none⟩ = some (.string l[i].tag) ∧ w.cell? ⟨b, o + i * 2 + 1, none⟩ = some V ∧ BunIn w l[i] V) (fun i hi => by
    obtain ⟨b, o, V, he, hb, x0, x1, hin⟩ := h.bunAt i hi
    exact ⟨V, fun _ => ⟨b, o, he, hb, x0, x1, hin⟩⟩)
  have hzl : (l.zip vs).length = l.length := by simp [hvl]
  have hat : ∀ i (hi : i < l.length), ∃ hv : i < vs.length, (l.zip vs)[i]'(by omega) = (l[i], vs[i]) ∧ ∃ b o, A = some ⟨b, o, none⟩ ∧ b < w.heap.size ∧ w.cell? ⟨b, o + i * 2, none⟩ = some (.string l[i].tag) ∧ w.cell? ⟨b, o + i * 2 + 1, none⟩ = some vs[i] ∧ BunIn w l[i] vs[i] := fun i hi => by
    have hv : i < vs.length := by omega
    exact ⟨hv, by simp, hvs i hv hi⟩
  refine ⟨l.zip vs, List.map_fst_zip (by omega), fun p hp => ?_, ?_⟩
  · obtain ⟨i, hi, rfl⟩ := List.getElem_of_mem hp
    obtain ⟨hv, e, b, o, _, _, _, _, hin⟩ := hat i (by omega)
    rw [e]
    refine ⟨hin, ?_⟩
    obtain ⟨_, _, hv', _⟩ := (Classical.choose_spec hin.lo).form
    show vs[i].oneCell' = true
    rw [hv']; rfl
  · rcases Nat.eq_zero_or_pos l.length with h0 | h0
    · exact .inl h0
    · obtain ⟨_, _, b, o, hA, hb, _⟩ := hat 0 h0
      refine .inr ⟨b, o, hA, hb, fun j u hj => ?_⟩
      have hjl : j / 2 < l.length := by
        have := (List.getElem?_eq_some_iff.1 hj).1
        have e : (flatB (l.zip vs)).length = (l.zip vs).length * 2 := flatB_length _
        omega
      obtain ⟨hv, e, b', o', hA', _, x0, x1, _⟩ := hat (j / 2) hjl
      rw [hA] at hA'
      injection hA' with hA'
      injection hA' with e1 e2
      subst e1; subst e2
      have hf := flatB_at (l.zip vs) (j / 2) (by omega)
      rw [e] at hf
      have hg : (((flatB (l.zip vs)).drop (j / 2 * 2)).take 2)[j % 2]? = some u := by
        rw [List.getElem?_take, if_pos (by omega), List.getElem?_drop, show j / 2 * 2 + j % 2 = j from by omega]; exact hj
      rw [hf] at hg
      rcases Nat.mod_two_eq_zero_or_one j with h2 | h2
      · rw [h2] at hg
        have : u = .string l[j / 2].tag := by simpa [bunCells] using hg.symm
        rw [this, ← x0]; congr 2; omega
      · rw [h2] at hg
        have : u = vs[j / 2] := by simpa [bunCells] using hg.symm
        rw [this, ← x1]; congr 2; omega
theorem flatB_one (ps : List (Bun × Value)) (h : ∀ p ∈ ps, p.2.oneCell' = true) : ∀ u ∈ flatB ps, u.oneCell' = true := by
  intro u hu
  obtain ⟨p, hp, hm⟩ := List.mem_flatMap.1 hu
  simp only [bunCells, List.mem_cons, List.not_mem_nil, or_false] at hm
  rcases hm with rfl | rfl
  · rfl
  · exact h p hp
theorem own_empty {w : World} {g base : Nat} (h : Blk w g 46 #[]) (hb : base ≤ g) : w.ownsRow base 46 2 (.slice (some ⟨g, 0, none⟩) 0 0) 0 [] :=
  ⟨rfl, .inr ⟨g, 0, #[], rfl, hb, h, Nat.le_refl _, by unfold maxLen; omega, rfl, rfl⟩⟩
theorem news_blk {w : World} {g : Nat} {t : TypeId} {cs : List Value} (h : Blk w g t cs.toArray) : ∀ j u, cs[j]? = some u → w.cell? ⟨g, 0 + j, none⟩ = some u := fun j u hj => by
  rw [Nat.zero_add, h.cell j]; simpa using hj
theorem Blk.new1 (w : World) (o : Obj) (t : TypeId) (cs : Array Value) : Blk ((w.alloc o).alloc (.cells cs t)) (w.heap.size + 1) t cs := by
  have := Blk.new (w.alloc o) t cs
  rwa [World.size_alloc] at this
theorem blk_grown {w w' : World} {g : Nat} {t : TypeId} {cs : Array Value} {row : Option Nat} (h : Blk w g t cs) (hg : w.grownBy w' row) (hne : some g ≠ row) : Blk w' g t cs := (hg.block g h.lt hne).trans h
/-- What lies in a row of bundles of the call's own, over older parts. -/
theorem buns_own {w0 w : World} {v : Value} {ps : List (Bun × Value)} (hown : w.ownsRow w0.heap.size 46 2 v ps.length (flatB ps)) (hb : Below w0.heap.size w0 w) (hin : ∀ p ∈ ps, BunIn w0 p.1 p.2) (hn : ps.length * 40 ≤ 140737488355328) :
    BunsIn w v (ps.map Prod.fst) := by
  refine ⟨⟨0, ?_⟩, by simpa using hn, fun b hbm => ?_⟩
  · have e1 : ps.length = (ps.map Prod.fst).length := by simp
    rw [e1] at hown
    refine ListOk.of_own (E := Enc.bun) hown (Nat.zero_le _) (Nat.le_refl _) fun i hl => ?_
    have hl' : i < ps.length := by simpa using hl
    refine ⟨ps[i].2, ?_, ?_⟩
    · rw [show Enc.bun.sz = 2 from rfl, flatB_at ps i hl']; simp [bunCells]
    · rw [List.getElem_map]
      obtain ⟨lo, hlo⟩ := ((hin _ (List.getElem_mem hl')).below hb).lo
      exact hlo.mono Enc.ent_laws (Nat.zero_le _) (Nat.le_refl _)
  · obtain ⟨p, hp, rfl⟩ := List.mem_map.1 hbm
    have h := hin p hp
    exact ⟨h.tag, h.len, h.each⟩
/-- What R.ChainOf's loop has seen. -/
def nearB (mt : ByteArray) (C : List Tg) (k : Nat) : Bool := eqs mt en || (C.take k).any (fun x => eqs (tagText x) mt)
theorem nearB_succ (mt : ByteArray) (C : List Tg) (k : Nat) (hk : k < C.length) : nearB mt C (k + 1) = (nearB mt C k || eqs (tagText C[k]) mt) := by
  unfold nearB
  rw [List.take_succ_eq_append_getElem hk, List.any_append]
  simp [Bool.or_assoc]
theorem nearB_all {mt : ByteArray} {C : List Tg} (h : nearB mt C C.length = false) : mt ≠ en ∧ ∀ x ∈ C, tagText x ≠ mt := by
  unfold nearB at h
  rw [List.take_length, Bool.or_eq_false_iff, List.any_eq_false] at h
  exact ⟨(eqs_false _ _).1 h.1, fun x hx => (eqs_false _ _).1 (by simpa using h.2 x hx)⟩

set_option maxHeartbeats 6400000 in
set_option maxRecDepth 100000 in
theorem findNear_any (l : List Bun) (vl : Value) (tag key : ByteArray) (more : Bun) (vm : Value) (w : World) (h : BunsIn w vl l) (hmo : BunIn w more vm) (hn : tag.size < 4294967281) (hll : l.length ≤ 1048576) (hm : MaxVar w) :
    Calls Tryd.prog 5 #[vl, .string tag, .string key, .agg #[.string more.tag, vm]] w fun e w' => e = .returned (.bool true) ∧ Below w.heap.size w w' := by
  have HL := Lib.hid h
  have HM := Lib.hid hm
  have HMo := Lib.hid hmo
  have HSm : Hid (∀ W, Calls Tryd.prog 16 #[] W fun e w' => Below W.heap.size W w' ∧ ∃ A c, e = .returned (.agg #[.string en, .slice A 1 c]) ∧ ListOk Enc.ent w' W.heap.size w'.heap.size (.slice A 1 c) [⟨hiK, helloT⟩]) := Lib.hid small_any
  have HFin : Hid (∀ W, Below w.heap.size w W → Calls Tryd.prog 15 #[vl, .string tag, .string key] W fun e w' => Below W.heap.size W w' ∧ e = .returned (.tuple #[.int .i64 (findIn l tag key).at_, .string (findIn l tag key).text, errV (findIn l tag key).err])) := Lib.hid fun W hW => find_any l vl tag key W (HL.out.below hW) hn (HM.out.below hW)
  have HF2 : Hid (∀ W v2, Below w.heap.size w W → BunsIn W v2 (l ++ [more]) → Calls Tryd.prog 15 #[v2, .string tag, .string key] W fun e w' => Below W.heap.size W w' ∧ e = .returned (.tuple #[.int .i64 (findIn (l ++ [more]) tag key).at_, .string (findIn (l ++ [more]) tag key).text, errV (findIn (l ++ [more]) tag key).err])) := Lib.hid fun W v2 hW hv => find_any (l ++ [more]) v2 tag key W hv hn (HM.out.below hW)
  have HTi : Hid (∀ W, Below w.heap.size w W → Calls Tryd.prog 17 #[vl, .string tag, .string key] W fun e w' => e = TextRes (textIn l tag key) ∧ W = w') := Lib.hid fun W hW => textin_any l vl tag key W (HL.out.below hW)
  have HTof : Hid (∀ W, Calls Tryd.prog 18 #[.string tag] W fun e w' => Below W.heap.size W w' ∧
      ((parseTag tag = none ∧ e = .returned (.tuple #[.agg #[.string ⟨#[]⟩, .string ⟨#[]⟩, .string ⟨#[]⟩, .slice none 0 0], .bool false])) ∨
        ∃ t v, parseTag tag = some t ∧ e = .returned (.tuple #[.agg #[.string t.lang, .string t.script, .string t.region, v], .bool true]) ∧ ListOk Enc.str w' W.heap.size w'.heap.size v t.vars)) := Lib.hid fun W => rtagof_any tag W hn
  have HOwn : Hid (∀ own, (findIn l tag key).err = 0 → textIn l tag key = some own → (findIn l tag key).text = own ∧ ∃ b, l[(findIn l tag key).at_]? = some b ∧ b.tag = tag) := Lib.hid fun own h1 h2 => near_own l tag key own h1 h2
  have HMore : Hid ((findIn l tag key).err = 0 → (findIn (l ++ [more]) tag key).err = 0 → more.tag ≠ en → (∀ t, parseTag tag = some t → ∀ x ∈ chainOf t, tagText x ≠ more.tag) → findIn (l ++ [more]) tag key = findIn l tag key) := Lib.hid fun h1 h2 h3 h4 => near_more l more tag key h1 h2 h3 h4
  have HErr : Hid ((findIn l tag key).err = 0 → ∃ t, parseTag tag = some t ∧ tagFault t = 0) := Lib.hid fun h => by
    have ht : isTag tag = true := by
      cases hi : isTag tag with
      | true => rfl
      | false =>
        exfalso
        by_cases hL : loadFault l = 0
        · have := foundB (l := l) (name := tag) (key := key) hL hi
          rw [this] at h; cases h
        · have := foundA (l := l) (name := tag) (key := key) hL
          rw [this] at h; exact hL h
    obtain ⟨t, h1, _⟩ := isTag_some ht
    exact ⟨t, h1, parse_fault h1⟩
  obtain ⟨lo, hlo⟩ := h.lo
  obtain ⟨A, c, rfl, hlc⟩ := hlo.form
  obtain ⟨lom, hlom⟩ := hmo.lo
  obtain ⟨Am, cm, rfl, _⟩ := hlom.form
  generalize hR1 : findIn l tag key = R1 at *
  generalize hR2 : findIn (l ++ [more]) tag key = R2 at *
  generalize textIn l tag key = TI at *
  clear hR1 hR2 h hm hmo hlo hlom hn
  obtain ⟨mt, ml⟩ := more
  dsimp only at HMore ⊢
  obtain ⟨e1, a1, t1⟩ := R1
  obtain ⟨e2, a2, t2⟩ := R2
  dsimp only at HFin HF2 HOwn HErr
  go_enter Tryd.func5, Tryd.ntmps5
  go_wp2_with fail
  have HBm : Hid (Below w.heap.size w (w.alloc (.cells #[.string mt, .slice Am ml.length cm] 46))) := Lib.hid ((Below.refl _ _).alloc (Nat.le_refl _) _)
  have HMb : Hid (Blk (w.alloc (.cells #[.string mt, .slice Am ml.length cm] 46)) w.heap.size 46 #[.string mt, .slice Am ml.length cm]) := Lib.hid (Blk.new _ _ _)
  have hwl : w.heap.size < (w.alloc (.cells #[.string mt, .slice Am ml.length cm] 46)).heap.size := by simp
  refine (HSm.out _).mono ?_
  clear HSm
  rintro e w1 ⟨hb1, A1, c1, rfl, hl1⟩
  have HMb1 := Lib.hid (HMb.out.below hb1 hwl)
  have HS1 := Lib.hid (smallIn hl1)
  have HB1 := Lib.hid (HBm.out.trans (hb1.mono HBm.out.size))
  have hs1 := HB1.out.size
  have HBa : Hid (Below w.heap.size w (w1.alloc (.cells #[.string en, .slice A1 1 c1] 46))) := Lib.hid (HB1.out.alloc HB1.out.size _)
  have HF1 := Lib.hid (find_any [smallBun] _ deT hiK _ HS1.out (by decide +kernel) (HM.out.below HBa.out))
  have HMb2 := Lib.hid (HMb1.out.alloc (.cells #[.string en, .slice A1 1 c1] 46))
  rw [small_err, small_at, small_txt, errV_zero] at HF1
  clear hb1 hl1 HS1 HMb HBm hwl
  go_wp2_with fail
  refine HF1.out.mono ?_
  clear HF1
  rintro e w2 ⟨hb2, rfl⟩
  have HMb3 := Lib.hid (HMb2.out.below hb2 HMb2.out.lt)
  have HB2 := Lib.hid (HBa.out.trans (hb2.mono HBa.out.size))
  have hs2 := HB2.out.size
  clear hb2 HB1 HBa HMb1 HMb2 hs1
  have hhello : (helloT.toList == [104, 101, 108, 108, 111, 32, 123, 110, 97, 109, 101, 125]) = true := by decide +kernel
  go_wp2_with fail
  refine (HFin.out _ HB2.out).mono ?_
  clear HFin
  rintro e w3 ⟨hb3, rfl⟩
  have HMb4 := Lib.hid (HMb3.out.below hb3 HMb3.out.lt)
  have HB3 := Lib.hid (HB2.out.trans (hb3.mono hs2))
  have hs3 := HB3.out.size
  clear hb3 HB2 HMb3 hs2 hhello
  obtain ⟨ps, hps, hpin, hnews⟩ := buns_ps (HL.out.below HB3.out)
  have hpl : ps.length = l.length := by rw [← hps, List.length_map]
  have HPin := Lib.hid hpin
  have HPs := Lib.hid hps
  have HNews : Hid (∀ W, Below w3.heap.size w3 W → l.length = 0 ∨ ∃ b o, A = some ⟨b, o, none⟩ ∧ ∀ j u, (flatB ps)[j]? = some u → W.cell? ⟨b, o + j, none⟩ = some u) := Lib.hid fun W hW => by
    rcases hnews with h | ⟨b, o, hA, hb, hc⟩
    · exact .inl h
    · exact .inr ⟨b, o, hA, fun j u hj => (hW.cell (p := ⟨b, o + j, none⟩) hb).trans (hc j u hj)⟩
  have HPl := Lib.hid hpl
  have HO1 := Lib.hid (flatB_one ps fun p hp => (hpin p hp).2)
  have hfl : (flatB ps).length = l.length * 2 := by rw [flatB_length, hpl]
  have HFl := Lib.hid hfl
  have HMw := Lib.hid (HMo.out.below HB3.out)
  obtain ⟨W0, eW0⟩ : ∃ W0 : World, W0 = w3 := ⟨_, rfl⟩
  rw [← eW0] at HB3 HMb4 HNews HPin HMw hs3 ⊢
  clear hpin hps hnews hpl hfl eW0
  go_upto_region 5 with fail
  go_cut [15, 16, 17] (fun j t e wx => j = .int .i64 a2 ∧ t = .string t2 ∧ e = errV e2 ∧ Below W0.heap.size W0 wx)
  case first =>
    have k0 := HMb4.out.cell 0
    have k1 := HMb4.out.cell 1
    simp at k0 k1
    have hbl := HMb4.out.lt
    have hnn : l.length + 1 ≤ 1048577 := by omega
    have KS : Hid (∀ w', Below W0.heap.size W0 w' → Below W0.heap.size W0 w' ∧ w'.cell? ⟨w.heap.size, 0, none⟩ = some (.string mt) ∧ w'.cell? ⟨w.heap.size, 1, none⟩ = some (.slice Am ml.length cm)) := Lib.hid fun w' hw => ⟨hw, (hw.cell (p := ⟨w.heap.size, 0, none⟩) hbl).trans k0, (hw.cell (p := ⟨w.heap.size, 1, none⟩) hbl).trans k1⟩
    have HPi := Lib.hid (fun p hp => (HPin.out p hp).1)
    go_region_held3 (fun w' => Below W0.heap.size W0 w' ∧ w'.cell? ⟨w.heap.size, 0, none⟩ = some (.string mt) ∧ w'.cell? ⟨w.heap.size, 1, none⟩ = some (.slice Am ml.length cm))
      (first
        | exact KS.out _ hbx
        | exact KS.out _ (hbx.alloc hbx.size _)
        | exact KS.out _ (Below.refl _ _).drew
        | exact KS.out _ ((Below.refl _ _).alloc (Nat.le_refl _) _).drew
        | exact KS.out _ (((Below.refl _ _).alloc (Nat.le_refl _) _).alloc (by simp) _).drew)
      (first
        | (refine step_append_any (by rfl) _ _ 43 (by rfl) W0.heap.size 46 Tryd.underlying43 info_bun rfl (by decide) [] (by rfl) (by first | exact own_empty (Blk.new _ _ _).drew (Nat.le_refl _) | exact own_empty ((Blk.new _ _ _).alloc _).drew (Nat.le_refl _) | exact own_empty (Blk.new1 _ _ _ _).drew (Nat.le_succ _)) (flatB ps) (by rfl) HFl.out (HNews.out _ (by first | exact ((Below.refl _ _).alloc (Nat.le_refl _) _).drew | exact (((Below.refl _ _).alloc (Nat.le_refl _) _).alloc (by simp) _).drew)) HO1.out (by unfold maxLen; omega) (by omega) (by first | exact (((Below.refl _ _).alloc (Nat.le_refl _) _).drew).size | exact ((((Below.refl _ _).alloc (Nat.le_refl _) _).alloc (by simp) _).drew).size) ?_
           intro v1 w4 hown1 hgrow1
           rw [Nat.zero_add, List.nil_append] at hown1
           have hbx : Below W0.heap.size W0 w4 := by
             refine Below.grown (by first | exact ((Below.refl _ _).alloc (Nat.le_refl _) _).drew | exact (((Below.refl _ _).alloc (Nat.le_refl _) _).alloc (by simp) _).drew) hgrow1 (by first | exact (((Below.refl _ _).alloc (Nat.le_refl _) _).drew).size | exact ((((Below.refl _ _).alloc (Nat.le_refl _) _).alloc (by simp) _).drew).size) (by intro k hk; injection hk with hk; first | exact Nat.le_of_eq hk | exact Nat.le_trans (Nat.le_succ _) (Nat.le_of_eq hk))
           (first | have HGa : Hid (Blk w4 (W0.heap.size + 1) 46 #[.string mt, .slice Am ml.length cm]) := Lib.hid (blk_grown (Blk.new1 W0 _ _ _).drew hgrow1 (fun h => absurd (Option.some.inj h) (Nat.succ_ne_self _))) | skip)
           (first | have HGb : Hid (Blk w4 W0.heap.size 46 #[.string mt, .slice Am ml.length cm]) := Lib.hid (blk_grown ((Blk.new W0 _ _).alloc _).drew hgrow1 (fun h => absurd (Option.some.inj h) (Nat.succ_ne_self _).symm)) | skip)
           obtain ⟨Av, cv, rfl, _⟩ := own_slice hown1
           have HOr := Lib.hid hown1
           clear hown1 hgrow1)
        | (refine step_append_any (by rfl) _ _ 43 (by rfl) W0.heap.size 46 Tryd.underlying43 info_bun rfl (by decide) (flatB ps) (by rfl) (by first | exact HOr.out | exact own_below HOr.out ((Below.refl _ _).alloc (Nat.le_refl _) _) (Nat.le_refl _)) [.string mt, .slice Am ml.length cm] (by rfl) rfl (.inr ⟨_, _, rfl, by first | exact news_blk HGa.out | exact news_blk HGb.out | exact news_blk (Blk.new _ _ _)⟩) (by simp [Value.oneCell']) (by unfold maxLen; omega) (by omega) (by first | exact hbx.size | exact (hbx.alloc hbx.size _).size) ?_
           intro v2 w6 hown2 hgrow2
           have hbx : Below W0.heap.size W0 w6 := by
             refine Below.grown (by first | exact hbx | exact hbx.alloc hbx.size _) hgrow2 (by first | exact hbx.size | exact (hbx.alloc hbx.size _).size) (fun k hk => (own_lt HOr.out hk).1)
           have HBu : Hid (BunsIn w6 v2 (l ++ [⟨mt, ml⟩])) := Lib.hid (by
             have e1 : flatB ps ++ [.string mt, .slice Am ml.length cm] = flatB (ps ++ [(⟨mt, ml⟩, .slice Am ml.length cm)]) := by
               show _ = (ps ++ [((⟨mt, ml⟩ : Bun), Value.slice Am ml.length cm)]).flatMap bunCells
               rw [List.flatMap_append]; rfl
             have e2 : (ps ++ [((⟨mt, ml⟩ : Bun), Value.slice Am ml.length cm)]).map Prod.fst = l ++ [⟨mt, ml⟩] := by rw [List.map_append, HPs.out]; rfl
             have e3 : l.length + 1 = (ps ++ [((⟨mt, ml⟩ : Bun), Value.slice Am ml.length cm)]).length := by rw [List.length_append, HPl.out]; rfl
             rw [e1, e3] at hown2
             rw [← e2]
             refine buns_own hown2 hbx (fun p hp => ?_) (by rw [← e3]; omega)
             rcases List.mem_append.1 hp with h | h
             · exact HPi.out p h
             · rw [List.mem_singleton.1 h]; exact HMw.out)
           obtain ⟨Aw, cw, rfl, _⟩ := own_slice hown2
           clear hown2 hgrow2)
        | (go_at_call 15
           refine (HF2.out _ _ (HB3.out.trans (hbx.mono hs3)) HBu.out).mono ?_
           rintro e w7 ⟨hb7, rfl⟩
           have hbx : Below W0.heap.size W0 w7 := hbx.trans (hb7.mono hbx.size)
           clear hb7)
        | fail)
    all_goals
      have HBx := Lib.hid hbx
      clear k0 k1
      go_wp2_with fail
      go_meet
      case rel => exact ⟨rfl, rfl, rfl, HBx.out⟩
  case rest =>
    obtain ⟨rfl, rfl, rfl, hbx⟩ := hcut
    have HMb5 := Lib.hid (HMb4.out.below hbx HMb4.out.lt)
    have HBx := Lib.hid (HB3.out.trans (hbx.mono hs3))
    have hsx := HBx.out.size
    clear hbx HB3 HMb4 HNews HPin HMw hs3 HF2 HFl HO1 HPl HPs
    by_cases hE1 : e1 = 0
    · subst hE1
      obtain ⟨t, ht, hf⟩ := HErr.out rfl
      have HOwn' := Lib.hid (fun own => HOwn.out own rfl)
      have HMore' := Lib.hid (HMore.out rfl)
      clear HErr HOwn HMore
      rw [errV_zero]
      go_wp2_with fail
      refine (HTi.out _ HBx.out).mono ?_
      clear HTi
      cases TI
      case' none =>
        rintro e w8 ⟨he, rfl⟩
        obtain rfl : e = .returned (.tuple #[.string ⟨#[]⟩, .bool false]) := he
        clear HOwn'
      case' some own =>
        rintro e w8 ⟨he, rfl⟩
        obtain rfl : e = .returned (.tuple #[.string own, .bool true]) := he
        obtain ⟨rfl, b, hbs, hbt⟩ := HOwn'.out own rfl
        obtain ⟨hal, hbe⟩ := List.getElem?_eq_some_iff.1 hbs
        obtain ⟨b0, o0, V0, rfl, _, y0, _, _⟩ := (HL.out.below HBx.out).bunAt a1 hal
        rw [hbe, hbt] at y0
        have i1 : (0 : Int) ≤ (a1 : Int) := Int.natCast_nonneg a1
        have i2 : (a1 : Int) < (l.length : Int) := by omega
        have hss : (t1.toList != t1.toList) = false := by simp
        have htt : (tag.toList != tag.toList) = false := by simp
        clear HOwn' hbs hbt hbe
      all_goals
        by_cases hE2 : e2 = 0
        · subst hE2
          rw [errV_zero]
          have HM2 := Lib.hid (HMore'.out rfl)
          clear HMore'
          go_wp2_with fail
          (try clear y0 i1 i2 hss htt)
          refine (HTof.out _).mono ?_
          clear HTof
          rintro e w9 ⟨hb9, ⟨hnn, _⟩ | ⟨t', v, ht', rfl, hvl⟩⟩
          · rw [ht] at hnn; cases hnn
          · obtain rfl : t = t' := by rw [ht] at ht'; injection ht'
            have HB9 := Lib.hid (HBx.out.trans (hb9.mono hsx))
            have HMb9 := Lib.hid (HMb5.out.below hb9 HMb5.out.lt)
            have hs9 := HB9.out.size
            have hsm := small_of hf
            have hdg : deg t ≤ 100 := by have := hsm.len; unfold deg; split <;> split <;> omega
            have hc6 := chain_six hsm
            have HSm : Hid (∀ x ∈ chainOf t, Small x) := Lib.hid (small_chain hsm)
            have HC : Hid (∀ W, Below w9.heap.size w9 W → Calls Tryd.prog 19 #[.agg #[.string t.lang, .string t.script, .string t.region, v]] W fun e w' => Below W.heap.size W w' ∧ ∃ u ps, e = .returned u ∧ ps.map Prod.fst = chainOf t ∧ w'.ownsRow W.heap.size 24 4 u ps.length (flatT ps) ∧ ∀ p ∈ ps, ListOk Enc.str W wc.heap.size w9.heap.size p.2 p.1.vars) := Lib.hid fun W hW =>
              rchain_any 100 t v W wc.heap.size w9.heap.size hdg (Nat.le_refl _) hW.size (hvl.below Enc.str_laws hW)
            have HM3 : Hid (mt ≠ en → (∀ x ∈ chainOf t, tagText x ≠ mt) → (⟨0, a2, t2⟩ : Found) = ⟨0, a1, t1⟩) := Lib.hid fun h1 h2 => HM2.out h1 (fun t' ht2 => by rw [ht] at ht2; injection ht2 with ht2; subst ht2; exact h2)
            obtain ⟨A7, c7, rfl, _⟩ := hvl.form
            generalize chainOf t = C at *
            obtain ⟨tl, ts, tr, tv⟩ := t
            dsimp only at HC ⊢
            clear hb9 hvl ht hf hsm hdg HM2
            go_wp2_with fail
            refine (HC.out _ ((Below.refl _ _).alloc (Nat.le_refl _) _)).mono ?_
            clear HC
            rintro e w10 ⟨hb10, u, ps2, rfl, hps2, hown, hvs⟩
            have hb10w : Below w9.heap.size w9 w10 := ((Below.refl w9.heap.size w9).alloc (Nat.le_refl _) _).trans (hb10.mono (by simp))
            simp only [World.size_alloc] at hown
            have hlC : ListOk Enc.tag w10 0 w10.heap.size u C := by
              rw [← hps2]
              refine chainTags hown (lo := wc.heap.size) (hi := w9.heap.size) (fun p hp => (hvs p hp).keep Enc.str_laws (Alk.mono (Alk.of_below hb10) (Nat.le_refl _) (by simp))) (Nat.zero_le _) (Nat.zero_le _) hb10w.size (Nat.le_refl _)
            obtain ⟨B8, d8, rfl, _⟩ := hlC.form
            have HLC := Lib.hid hlC
            have HB10 := Lib.hid (HB9.out.trans (hb10w.mono hs9))
            have HMbx := Lib.hid (HMb9.out.below hb10w HMb9.out.lt)
            have hs10 := HB10.out.size
            have k0 := HMbx.out.cell 0
            simp at k0
            have HN0 : Hid ((mt.toList == [101, 110]) = nearB mt C 0) := Lib.hid (by unfold nearB eqs; rw [show en.toList = [101, 110] from by decide +kernel]; simp)
            clear hb10 hb10w hown hvs hps2 hlC HB9 HMb9 HMb5
            go_wp2_with fail
            go_loopw [23, 24] (fun x i wr => ∃ k : Nat, k ≤ C.length ∧ i = .int .i64 k ∧ x = .bool (nearB mt C k) ∧ Below w10.heap.size w10 wr) (fun _ i _ => C.length - (intOf i).toNat)
            case atStart => exact ⟨0, Nat.zero_le _, rfl, by rw [← HN0.out], Below.refl _ _⟩
            case round =>
              obtain ⟨k, hk, rfl, rfl, hbr⟩ := hrel
              have HBr := Lib.hid hbr
              have hbs := hbr.size
              clear hbr
              by_cases hkl : k < C.length
              · obtain ⟨b8, o8, V8, rfl, _, p8, x0, x1, x2, x3, xl8⟩ := (HLC.out.below Enc.tag_laws HBr.out).tagAt k hkl
                have hsx8 := HSm.out _ (List.getElem_mem hkl)
                have HSu := Lib.hid (nearB_succ mt C k hkl)
                have kr0 : wr.cell? ⟨w.heap.size, 0, none⟩ = some (.string mt) := (HBr.out.cell (p := ⟨w.heap.size, 0, none⟩) HMbx.out.lt).trans k0
                have hk0 : (0 : Int) ≤ (k : Int) := Int.natCast_nonneg k
                have hk1 : (k : Int) < (C.length : Int) := by omega
                cases hnb : nearB mt C k with
                | true =>
                  rw [hnb, Bool.true_or] at HSu
                  clear hnb
                  go_wp2_with fail
                  go_quiet (fail)
                  go_wp2_with fail
                  go_roundw
                  case rel => exact ⟨k + 1, by omega, by go_num, by rw [HSu.out], by first | exact below_drewN HBr.out _ | exact HBr.out.drew⟩
                  case measure => simp [intOf]; omega
                | false =>
                  rw [hnb, Bool.false_or] at HSu
                  clear hnb
                  generalize C[k] = X at *
                  obtain ⟨A9, c9, rfl, _⟩ := xl8.form
                  have HTx : Hid (∀ W, Below wr.heap.size wr W → Calls Tryd.prog 20 #[.agg #[.string X.lang, .string X.script, .string X.region, .slice A9 X.vars.length c9]] W fun e w' => e = .returned (.string (tagText X)) ∧ Below W.heap.size W w') := Lib.hid fun W hW =>
                    rtext_any X _ W 0 ((xl8.keep Enc.str_laws (Alk.mono (Alk.of_below hW) (Nat.zero_le _) hbs)).mono Enc.str_laws (Nat.le_refl _) (by have := hW.size; omega)) (by have := hsx8.len; omega) (by have := small_text hsx8; omega)
                  generalize tagText X = TX at *
                  obtain ⟨xl, xs, xr, xv⟩ := X
                  dsimp only at x0 x1 x2 x3 HTx
                  have h8l : b8 < wr.heap.size := by omega
                  have hbl : w.heap.size < wr.heap.size := Nat.lt_of_lt_of_le HMbx.out.lt hbs
                  have HE : Hid (eqs TX mt = (TX.toList == mt.toList)) := Lib.hid rfl
                  clear xl8 hsx8
                  go_wp2_with fail
                  go_region_held3 (fun w' => w'.cell? ⟨w.heap.size, 0, none⟩ = some (.string mt) ∧ w'.cell? ⟨b8, o8 + k * 4, none⟩ = some (.string xl) ∧ w'.cell? ⟨b8, o8 + k * 4 + 1, none⟩ = some (.string xs) ∧ w'.cell? ⟨b8, o8 + k * 4 + 2, none⟩ = some (.string xr) ∧ w'.cell? ⟨b8, o8 + k * 4 + 3, none⟩ = some (.slice A9 xv.length c9)) (first | exact ⟨kr0, x0, x1, x2, x3⟩ | exact hS5)
                    (first
                      | (go_at_call 20
                         refine (HTx.out _ (Below.refl _ _).drew).mono ?_
                         rintro e w5 ⟨rfl, hb5⟩
                         have hb5' := below_undrew hb5
                         have hS5 : w5.cell? ⟨w.heap.size, 0, none⟩ = some (.string mt) ∧ w5.cell? ⟨b8, o8 + k * 4, none⟩ = some (.string xl) ∧ w5.cell? ⟨b8, o8 + k * 4 + 1, none⟩ = some (.string xs) ∧ w5.cell? ⟨b8, o8 + k * 4 + 2, none⟩ = some (.string xr) ∧ w5.cell? ⟨b8, o8 + k * 4 + 3, none⟩ = some (.slice A9 xv.length c9) := ⟨(hb5'.cell (p := ⟨w.heap.size, 0, none⟩) hbl).trans kr0, (hb5'.cell (p := ⟨b8, o8 + k * 4, none⟩) h8l).trans x0, (hb5'.cell (p := ⟨b8, o8 + k * 4 + 1, none⟩) h8l).trans x1, (hb5'.cell (p := ⟨b8, o8 + k * 4 + 2, none⟩) h8l).trans x2, (hb5'.cell (p := ⟨b8, o8 + k * 4 + 3, none⟩) h8l).trans x3⟩
                         have HB5 := Lib.hid hb5'
                         clear hb5 hb5')
                      | fail)
                  clear hS5 kr0 x0 x1 x2 x3
                  go_wp2_with fail
                  go_roundw
                  case rel => exact ⟨k + 1, by omega, by go_num, by rw [HSu.out, HE.out], HBr.out.trans (HB5.out.mono hbs)⟩
                  case measure => simp [intOf]; omega
              · obtain rfl : k = C.length := by omega
                have HAl := Lib.hid (nearB_all (mt := mt) (C := C))
                cases hnb : nearB mt C C.length with
                | true =>
                  go_wp2_with fail
                  go_ret
                  exact ⟨rfl, HB10.out.trans (HBr.out.mono hs10)⟩
                | false =>
                  obtain ⟨h1, h2⟩ := HAl.out hnb
                  have hR := HM3.out h1 h2
                  injection hR with _ h3 h4
                  subst h3; subst h4
                  have hss : (t2.toList == t2.toList) = true := by simp
                  go_wp2_with fail
                  go_ret
                  exact ⟨rfl, HB10.out.trans (HBr.out.mono hs10)⟩
        · have HE := Lib.hid (errV_ne hE2)
          rw [errV_ne hE2]
          clear hE2 HMore'
          go_wp2_with fail
          go_ret
          exact ⟨rfl, HBx.out⟩
    · have HE := Lib.hid (errV_ne hE1)
      rw [errV_ne hE1]
      have HTi' := Lib.hid (HTi.out _ HBx.out)
      clear HErr HOwn HMore HTi hE1
      go_wp2_with fail
      refine HTi'.out.mono ?_
      clear HTi'
      cases TI
      all_goals
        rintro e w8 ⟨he, rfl⟩
        first | obtain rfl : e = .returned (.tuple #[.string ⟨#[]⟩, .bool false]) := he | (obtain rfl : e = _ := he; unfold TextRes; dsimp only)
        go_wp2_with fail
        go_ret
        exact ⟨rfl, HBx.out⟩
end Go.Proofs.YtdmjelkjeiinjaaDoor
