/- The walk of linguisterlaw5: tags (a copy of a list of tags, each with variants of its own). -/
import Derived.Test.YtdmjelkjeiinjaaDoorSame
set_option linter.unusedSimpArgs false
set_option linter.unusedVariables false
namespace Go.Proofs.YtdmjelkjeiinjaaDoor
open Go.RowKit

structure Copied (w wr : World) (l : List Tg) (ps : List (Tg × Value)) (o : Value) (j : Nat) : Prop where
  below : Below w.heap.size w wr
  rowed : Rowed w.heap.size wr o ps
  sum : ps.map Prod.fst = l.take j
theorem Rowed.nil {base : Nat} {w : World} : Rowed base w (.slice none 0 0) [] := ⟨own_nil, fun p hp => (by cases hp), List.Pairwise.nil⟩

set_option maxHeartbeats 1600000 in
theorem tags_any (l : List Tg) (v : Value) (lo : Nat) (w : World) (hv : ListOk Enc.tag w lo w.heap.size v l) (hn : l.length * 72 ≤ 140737488355328) (hvs : ∀ t ∈ l, t.vars.length * 16 ≤ 140737488355328) :
    Calls Tryd.prog 7 #[v] w fun e w' => Below w.heap.size w w' ∧ ∃ u, e = .returned u ∧ TagRow w.heap.size w' u l := by
  obtain ⟨A, c, rfl, _⟩ := hv.form
  have HV : Hid (∀ W, Below w.heap.size w W → ListOk Enc.tag W lo w.heap.size (.slice A l.length c) l) := fun W hW => hv.keep Enc.tag_laws (Alk.mono (Alk.of_below hW) (Nat.zero_le _) (Nat.le_refl _))
  have HVS := Lib.hid hvs
  clear hv hvs
  go_enter Tryd.func7, Tryd.ntmps7
  go_wp2_with fail
  go_loopw [3, 4, 5] (fun o i _ wr => ∃ (j : Nat) (ps : List (Tg × Value)), j ≤ l.length ∧ i = .int .i64 j ∧ Copied w wr l ps o j) (fun _ i _ _ => l.length - (intOf i).toNat)
  case atStart => exact ⟨0, [], Nat.zero_le _, rfl, Below.refl _ _, Rowed.nil, rfl⟩
  case round =>
    obtain ⟨j, ps, hj, rfl, hC⟩ := hrel
    obtain ⟨B2, capo, ho2, hco⟩ := own_slice hC.rowed.own
    subst ho2
    have hpl : ps.length = j := by
      have := congrArg List.length hC.sum
      simpa [Nat.min_eq_left hj] using this
    subst hpl
    by_cases hlt : ps.length < l.length
    · obtain ⟨b1, o1, V1, rfl, p1, p2, x0, x1, x2, x3, xl⟩ := (HV.out _ hC.below).tagAt ps.length hlt
      have hbs := hC.below.size
      have HC := Lib.hid hC
      have hvl : l[ps.length].vars.length * 16 ≤ 140737488355328 := HVS.out _ (List.getElem_mem hlt)
      have htk : Hid (l.take (ps.length + 1) = l.take ps.length ++ [l[ps.length]]) := Lib.hid (by rw [List.take_add_one, List.getElem?_eq_getElem hlt]; rfl)
      generalize l[ps.length] = t at *
      obtain ⟨tl, ts, tr, tv⟩ := t
      dsimp only at x0 x1 x2 x3 xl hvl
      obtain ⟨A1, c1, rfl, _⟩ := xl.form
      have HN : Hid (∀ W, Below wr.heap.size wr W → (tv.length = 0 ∨ ∃ b o, A1 = some ⟨b, o, none⟩ ∧ ∀ j u, (tv.map Value.string)[j]? = some u → W.cell? ⟨b, o + j, none⟩ = some u)) := fun W hW => news_strs (xl.keep Enc.str_laws (Alk.mono (Alk.of_below hW) (Nat.zero_le _) hbs))
      clear xl hC
      have hb1 : b1 < wr.heap.size := by omega
      have hM : Hid (∀ W : World, W.heap.size = wr.heap.size + 1 + 1 → (W.heap[wr.heap.size + 1]? = some (.cells #[] 9 (0, 0))) → W.ownsRow (wr.heap.size + 1) 9 1 (.slice (some ⟨wr.heap.size + 1, 0, none⟩) 0 0) 0 []) := fun W _ hW => ⟨rfl, .inr ⟨wr.heap.size + 1, 0, #[], rfl, Nat.le_refl _, hW, by omega, by unfold maxLen; omega, rfl, rfl⟩⟩
      go_wp2_with (at_builtin; refine wpList_append_any rfl _ _ 22 rfl (wr.heap.size + 1) 9 Tryd.underlying22 info_string rfl (by decide) [] rfl (hM.out _ (by simp) (by simpa using heap_alloc_new (wr.alloc (.cells #[.string tl, .string ts, .string tr, .slice A1 tv.length c1] 24)) (.cells #[] 9))) (tv.map .string) rfl (by simp) (HN.out _ (((Below.refl _ _).alloc (Nat.le_refl _) _).alloc (by simp) _)) (strs_oneCell _) (by unfold maxLen; omega) (by omega) (by simp) ?_)
      intro v1 w2 hown hgrow _
      obtain ⟨A2, c2, rfl, _⟩ := own_slice hown
      have hsz2 := hgrow.size
      simp only [World.size_alloc] at hsz2
      have hlt2 : wr.heap.size < w2.heap.size := by omega
      have m2 : Blk w2 wr.heap.size 24 #[.string tl, .string ts, .string tr, .slice A1 tv.length c1] := (hgrow.block _ (by simp; omega) (fun e => by simp [Value.ownBlock] at e)).trans ((Blk.new _ _ _).alloc _)
      have hb2 : Below wr.heap.size wr w2 := (((Below.refl _ _).alloc (Nat.le_refl _) _).alloc (by simp) _).grown hgrow (by simp; omega) (fun k hk => by simp [Value.ownBlock] at hk; omega)
      obtain ⟨X, hX⟩ : ∃ X, X = (w2.setCell ⟨wr.heap.size, 3, none⟩ (.slice A2 tv.length c2)).alloc (.cells #[.string tl, .string ts, .string tr, .slice A2 tv.length c2] 24) := ⟨_, rfl⟩
      have hbX : Below wr.heap.size wr X := by
        rw [hX]; exact (hb2.setCell (Nat.le_refl _) _).alloc (by simp; omega) _
      have hvX : VarRow (wr.heap.size + 1) X (⟨tl, ts, tr, tv⟩, .slice A2 tv.length c2) := by
        rw [hX]
        refine own_keep hown fun g hg hlt => ?_
        have := (own_lt hown hg).1
        rw [Below.heap_alloc _ _ _ (by simp; omega), Below.heap_setCell _ _ _ _ (by simp; omega)]
      have hrX : Rowed w.heap.size X (.slice B2 ps.length capo) ps := HC.out.rowed.below hbX (Nat.le_refl _)
      have hap : ∀ p ∈ ps, Apart p (⟨tl, ts, tr, tv⟩, .slice A2 tv.length c2) := fun p hp _ g hg hg' => by
        have h1 := (own_lt hvX hg').1
        have h2 := (own_lt (HC.out.rowed.vars p hp) hg).2
        omega
      have hnX : ∀ j u, ([Value.string tl, .string ts, .string tr, .slice A2 tv.length c2] : List Value)[j]? = some u → X.cell? ⟨w2.heap.size, 0 + j, none⟩ = some u := fun j u hj => by
        rw [hX, Nat.zero_add]
        have := (Blk.new (w2.setCell ⟨wr.heap.size, 3, none⟩ (.slice A2 tv.length c2)) 24 #[.string tl, .string ts, .string tr, .slice A2 tv.length c2]).cell j
        rw [World.size_setCell] at this
        rw [this]; simpa using hj
      have hsX : w.heap.size ≤ X.heap.size := by have := hbX.size; omega
      have k0 := m2.cell 0
      have k1 := m2.cell 1
      have k2 := m2.cell 2
      have k3 := m2.cell 3
      have kf := m2.frozen 3
      simp at k0 k1 k2 k3
      have HX := Lib.hid hX
      have HbX := Lib.hid hbX
      have HvX := Lib.hid hvX
      have HrX := Lib.hid hrX
      have Hap := Lib.hid hap
      have HnX := Lib.hid hnX
      clear hown hgrow m2 hb2 hX hbX hvX hrX hap hnX hM HN x0 x1 x2 x3
      go_wp2_with (at_builtin; rw [← HX.out]; refine wpList_append_any rfl _ _ 25 rfl w.heap.size 24 Tryd.underlying25 info_tag rfl (by decide) (flatT ps) rfl HrX.out.own [.string tl, .string ts, .string tr, .slice A2 tv.length c2] rfl rfl (.inr ⟨_, _, rfl, HnX.out⟩) (by simp [Value.oneCell']) (by unfold maxLen; omega) (by omega) hsX ?_)
      intro v3 w3 hown hgrow _
      obtain ⟨A3, c3, rfl, _⟩ := own_slice hown
      have hr3 := Rowed.push HrX.out (own_mono HvX.out (by omega)) Hap.out hgrow hown
      have hb3 : Below w.heap.size w w3 := (HC.out.below.trans (HbX.out.mono hbs)).grown hgrow hsX (fun k hk => (own_lt HrX.out.own hk).1)
      have HR3 : Hid (Copied w w3 l (ps ++ [(⟨tl, ts, tr, tv⟩, .slice A2 tv.length c2)]) (.slice A3 (ps.length + 1) c3) (ps.length + 1)) := ⟨hb3, hr3, by rw [htk.out, ← HC.out.sum]; simp⟩
      clear hown hgrow hr3 hb3 HX HbX HvX HrX Hap HnX k0 k1 k2 k3 kf HC htk
      go_wp2_with fail
      go_roundw
      case rel => exact ⟨ps.length + 1, _, by omega, by go_num, HR3.out⟩
      case measure => simp [intOf]; omega
    · have HB := Lib.hid hC
      clear hC
      go_wp2_with fail
      go_ret
      refine ⟨HB.out.below, _, rfl, ps, ?_, HB.out.rowed⟩
      rw [HB.out.sum, List.take_of_length_le (by omega)]
end Go.Proofs.YtdmjelkjeiinjaaDoor
