/- The walk of package pick: names; of package chain: Within. -/
import Derived.Test.YtdmjelkjeiinjaaDoorOwnTags
import Derived.Test.YtdmjelkjeiinjaaDoorParse
set_option linter.unusedSimpArgs false
set_option linter.unusedVariables false
namespace Go.Proofs.YtdmjelkjeiinjaaDoor
open Go.RowKit

/-- What is asked of a list of tags that is handed in. -/
structure TagsIn (w : World) (v : Value) (l : List Tg) : Prop where
  lo : ∃ lo, ListOk Enc.tag w lo w.heap.size v l
  len : l.length * 72 ≤ 140737488355328
  each : ∀ t ∈ l, t.vars.length * 16 ≤ 140737488355328 ∧ (∀ s ∈ t.vars, s.size ≤ 9223372036854775807) ∧ t.lang.size ≤ 9223372036854775807 ∧ t.script.size ≤ 9223372036854775807 ∧ t.region.size ≤ 9223372036854775807
theorem TagsIn.below {w w' : World} {v : Value} {l : List Tg} (h : TagsIn w v l) (hb : Below w.heap.size w w') : TagsIn w' v l :=
  ⟨let ⟨lo, hl⟩ := h.lo; ⟨lo, (hl.below Enc.tag_laws hb).mono Enc.tag_laws (Nat.le_refl _) hb.size⟩, h.len, h.each⟩
theorem TagsIn.tagAt {w : World} {A : Option Addr} {n c : Nat} {l : List Tg} (h : TagsIn w (.slice A n c) l) (i : Nat) (hl : i < l.length) :
    ∃ b o V, A = some ⟨b, o, none⟩ ∧ b < w.heap.size ∧ w.cell? ⟨b, o + i * 4, none⟩ = some (.string l[i].lang) ∧ w.cell? ⟨b, o + i * 4 + 1, none⟩ = some (.string l[i].script) ∧ w.cell? ⟨b, o + i * 4 + 2, none⟩ = some (.string l[i].region) ∧ w.cell? ⟨b, o + i * 4 + 3, none⟩ = some V ∧ TagIn w (l[i], V) := by
  obtain ⟨lo, hlo⟩ := h.lo
  obtain ⟨b, o, V, hA, _, h2, x0, x1, x2, x3, xl⟩ := hlo.tagAt i hl
  have he := h.each _ (List.getElem_mem hl)
  exact ⟨b, o, V, hA, h2, x0, x1, x2, x3, ⟨lo, xl⟩, by dsimp only; omega, he.2.1, he.2.2.1, he.2.2.2.1, he.2.2.2.2⟩
theorem text_ok (p : Tg × Value) (w : World) (h : TagIn w p) (hf : tagFault p.1 = 0) :
    Calls Tryd.prog 32 #[.agg #[.string p.1.lang, .string p.1.script, .string p.1.region, p.2]] w fun e w' => e = .returned (.string (tagText p.1)) ∧ Below w.heap.size w w' :=
  text_any p w h (by have := (tag_sizes hf).2.2.2.1; omega) (by have := tagText_size hf; omega)

def namesF (l : List Tg) : Int := firstN (fun q => tagFault (l.getD q noTg)) l.length
theorem getD_tag {l : List Tg} {q : Nat} (h : q < l.length) : l.getD q noTg = l[q] := by rw [List.getD_eq_getElem?_getD, List.getElem?_eq_getElem h]; rfl
theorem namesF_bad {l : List Tg} (j : Nat) (hj : j < l.length) (h0 : ∀ q (h : q < l.length), q < j → tagFault l[q] = 0) (h : tagFault l[j] ≠ 0) : namesF l = tagFault l[j] := by
  have := firstN_at (fun q => tagFault (l.getD q noTg)) j (fun q hq => by rw [getD_tag (by omega)]; exact h0 q (by omega) hq) (by rw [getD_tag hj]; exact h) l.length hj
  rw [getD_tag hj] at this; exact this
theorem namesF_zero {l : List Tg} (h0 : ∀ q (h : q < l.length), tagFault l[q] = 0) : namesF l = 0 :=
  firstN_zero _ _ fun q hq => by rw [getD_tag hq]; exact h0 q hq
theorem namesF_all {l : List Tg} (h : namesF l = 0) : ∀ t ∈ l, tagFault t = 0 := by
  intro t ht
  obtain ⟨q, hq, rfl⟩ := List.getElem_of_mem ht
  have := (firstN_zero_iff _ _).1 h q hq
  rw [getD_tag hq] at this; exact this

set_option maxHeartbeats 1600000 in
theorem names_any (l : List Tg) (v : Value) (w : World) (h : TagsIn w v l) :
    Calls Tryd.prog 34 #[v] w fun e w' => Below w.heap.size w w' ∧ ((namesF l ≠ 0 ∧ e = .returned (.tuple #[.slice none 0 0, errV (namesF l)])) ∨
      (namesF l = 0 ∧ ∃ u, e = .returned (.tuple #[u, .nilIface]) ∧ w'.ownsRow w.heap.size 9 1 u l.length ((l.map tagText).map .string))) := by
  have HH := Lib.hid h
  obtain ⟨lo, hlo⟩ := h.lo
  obtain ⟨A, c, rfl, _⟩ := hlo.form
  have hlen := h.len
  clear h hlo
  go_enter Tryd.func34, Tryd.ntmps34
  go_wp2_with fail
  go_loopw [4, 6, 7, 10] (fun o _ _ i wr => ∃ j : Nat, j ≤ l.length ∧ i = .int .i64 j ∧ (∀ q (h : q < l.length), q < j → tagFault l[q] = 0) ∧ wr.ownsRow w.heap.size 9 1 o j (((l.take j).map tagText).map .string) ∧ Below w.heap.size w wr) (fun _ _ _ i _ => l.length - (intOf i).toNat)
  case atStart => exact ⟨0, Nat.zero_le _, rfl, fun _ _ h => absurd h (by omega), own_nil, Below.refl _ _⟩
  case round =>
    obtain ⟨j, hj, rfl, hno0, hown, hb⟩ := hrel
    have HNo := Lib.hid hno0
    clear hno0
    obtain ⟨B, cc, rfl, _⟩ := own_slice hown
    have hbs := hb.size
    have HO := Lib.hid hown
    have HB := Lib.hid hb
    clear hown hb
    by_cases hlt : j < l.length
    · obtain ⟨b, o, V, rfl, hbl, x0, x1, x2, x3, hin⟩ := (HH.out.below HB.out).tagAt j hlt
      have HIn := Lib.hid hin
      have htk : Hid (l.take (j + 1) = l.take j ++ [l[j]]) := Lib.hid (by rw [List.take_add_one, List.getElem?_eq_getElem hlt]; rfl)
      have HBad : Hid (tagFault l[j] ≠ 0 → namesF l = tagFault l[j]) := Lib.hid (namesF_bad j hlt HNo.out)
      have HNext : Hid (tagFault l[j] = 0 → ∀ q (h : q < l.length), q < j + 1 → tagFault l[q] = 0) := Lib.hid fun h0 q hq hq2 => by
        rcases Nat.lt_or_eq_of_le (Nat.le_of_lt_succ hq2) with h | h
        · exact HNo.out q hq h
        · subst h; exact h0
      generalize l[j] = t at *
      obtain ⟨A1, c1, hV, _⟩ := (Classical.choose_spec HIn.out.lo).form
      dsimp only at hV
      subst hV
      obtain ⟨tl, ts, tr, tv⟩ := t
      have HC : Hid (∀ W, Below wr.heap.size wr W → Calls Tryd.prog 23 #[.agg #[.string tl, .string ts, .string tr, .slice A1 tv.length c1]] W fun e w' => e = .returned (errV (tagFault ⟨tl, ts, tr, tv⟩)) ∧ Below W.heap.size W w') := fun W hW => check_in (HIn.out.below hW)
      dsimp only at x0 x1 x2 x3
      clear hin
      by_cases hf : tagFault ⟨tl, ts, tr, tv⟩ = 0
      · have HX : Hid (∀ W, Below wr.heap.size wr W → Calls Tryd.prog 32 #[.agg #[.string tl, .string ts, .string tr, .slice A1 tv.length c1]] W fun e w' => e = .returned (.string (tagText ⟨tl, ts, tr, tv⟩)) ∧ Below W.heap.size W w') := fun W hW => text_ok _ W (HIn.out.below hW) hf
        have HNx := Lib.hid (HNext.out hf)
        rw [hf, errV_zero] at HC
        obtain ⟨X, eX⟩ : ∃ X, X = tagText ⟨tl, ts, tr, tv⟩ := ⟨_, rfl⟩
        have htk2 : Hid ((l.take (j + 1)).map tagText = (l.take j).map tagText ++ [X]) := Lib.hid (by rw [htk.out, List.map_append, eX]; rfl)
        rw [← eX] at HX
        clear hf HBad HNext eX htk
        go_wp2_with fail
        refine (HC.out _ ((Below.refl _ _).alloc (Nat.le_refl _) _)).mono ?_
        rintro e w1 ⟨rfl, hb1⟩
        have hb1w : Below wr.heap.size wr w1 := ((Below.refl _ _).alloc (Nat.le_refl _) _).trans (hb1.mono (by simp))
        have m := (Blk.new wr 24 #[.string tl, .string ts, .string tr, .slice A1 tv.length c1]).below hb1 (by simp)
        have k0 := m.cell 0
        have k1 := m.cell 1
        have k2 := m.cell 2
        have k3 := m.cell 3
        simp at k0 k1 k2 k3
        have HB1 := Lib.hid hb1w
        clear m hb1 hb1w
        go_wp2_with fail
        refine (HX.out _ HB1.out).mono ?_
        rintro e w2 ⟨rfl, hb2⟩
        have HB2 := Lib.hid (HB1.out.trans (hb2.mono HB1.out.size))
        clear hb2 HB1 k0 k1 k2 k3 x0 x1 x2 x3
        have hs2 := HB2.out.size
        have HO2 := Lib.hid (own_below HO.out HB2.out (Nat.le_refl _))
        have hnX : ∀ q u, ([Value.string X] : List Value)[q]? = some u → (w2.alloc (.cells #[.string X] 9)).cell? ⟨w2.heap.size, 0 + q, none⟩ = some u := fun q u hq => by
          rw [Nat.zero_add, (Blk.new w2 9 #[.string X]).cell q]; simpa using hq
        have hoX := own_keep (w' := w2.alloc (.cells #[.string X] 9)) HO2.out (fun g _ hg => Below.heap_alloc _ _ _ hg)
        have HnX := Lib.hid hnX
        have HoX := Lib.hid hoX
        clear hnX hoX HO HO2
        go_wp2_with (at_builtin; refine wpList_append_any rfl _ _ 22 rfl w.heap.size 9 Tryd.underlying22 info_string rfl (by decide) (((l.take j).map tagText).map .string) rfl HoX.out [.string X] rfl rfl (.inr ⟨_, _, rfl, HnX.out⟩) (by simp [Value.oneCell']) (by unfold maxLen; omega) (by omega) (by simp; omega) ?_)
        intro v3 w3 hown3 hgrow3 _
        have HO3 : Hid (w3.ownsRow w.heap.size 9 1 v3 (j + 1) (((l.take (j + 1)).map tagText).map .string)) := Lib.hid (by rw [htk2.out]; simpa using hown3)
        have HB3 := Lib.hid (((HB.out.trans (HB2.out.mono hbs)).alloc (by omega) _).grown hgrow3 (by simp; omega) (fun k hk => (own_lt HoX.out hk).1))
        clear hown3 hgrow3 HnX HoX htk2 HB2
        go_wp2_with fail
        go_roundw
        case rel => exact ⟨j + 1, by omega, by go_num, HNx.out, HO3.out, HB3.out⟩
        case measure => simp [intOf]; omega
      · have HB2 := Lib.hid (HBad.out hf)
        rw [errV_ne hf] at HC
        have HNe : Hid (namesF l ≠ 0) := Lib.hid (by rw [HB2.out]; exact hf)
        have HE : Hid (errV (namesF l) = .iface 71 (.int .i64 (tagFault ⟨tl, ts, tr, tv⟩))) := Lib.hid (by rw [HB2.out, errV_ne hf])
        clear hf HBad HNext HB2
        generalize tagFault ⟨tl, ts, tr, tv⟩ = f at *
        go_wp2_with fail
        refine (HC.out _ ((Below.refl _ _).alloc (Nat.le_refl _) _)).mono ?_
        rintro e w1 ⟨rfl, hb1⟩
        have HB1 := Lib.hid (HB.out.trans ((((Below.refl wr.heap.size wr).alloc (Nat.le_refl _) _).trans (hb1.mono (by simp))).mono hbs))
        clear hb1
        go_wp2_with fail
        go_ret2
        exact ⟨HB1.out, .inl ⟨HNe.out, by rw [HE.out]; rfl⟩⟩
    · obtain rfl : j = l.length := by omega
      have HZ := Lib.hid (namesF_zero fun q hq => HNo.out q hq hq)
      go_wp2_with fail
      go_ret2
      refine ⟨HB.out, .inr ⟨HZ.out, _, rfl, ?_⟩⟩
      have := HO.out
      rw [List.take_length] at this
      exact this
end Go.Proofs.YtdmjelkjeiinjaaDoor
