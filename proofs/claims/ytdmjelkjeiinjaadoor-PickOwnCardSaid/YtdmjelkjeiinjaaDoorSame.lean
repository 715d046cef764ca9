/- Two lists of tags that are the same are told so (S.Tag, S.Tags). -/
import Derived.Test.YtdmjelkjeiinjaaDoorChainB
import Derived.Test.YtdmjelkjeiinjaaDoorLists
import Derived.Deep.RegionHeld3
set_option linter.unusedSimpArgs false
set_option linter.unusedVariables false
namespace Go.Proofs.YtdmjelkjeiinjaaDoor
open Go.RowKit

theorem ListOk.tagAt {w : World} {lo hi : Nat} {A : Option Addr} {n c : Nat} {l : List Tg} (h : ListOk Enc.tag w lo hi (.slice A n c) l) (i : Nat) (hl : i < l.length) :
    ∃ b o V, A = some ⟨b, o, none⟩ ∧ lo ≤ b ∧ b < hi ∧ w.cell? ⟨b, o + i * 4, none⟩ = some (.string l[i].lang) ∧ w.cell? ⟨b, o + i * 4 + 1, none⟩ = some (.string l[i].script) ∧ w.cell? ⟨b, o + i * 4 + 2, none⟩ = some (.string l[i].region) ∧ w.cell? ⟨b, o + i * 4 + 3, none⟩ = some V ∧ ListOk Enc.str w lo hi V l[i].vars := by
  obtain ⟨A', c', hv, _, hi⟩ := h
  obtain ⟨b, o, cs, hA, h1, h2, h3, V, h4, h5⟩ := hi i hl
  injection hv with hv1
  refine ⟨b, o, V, hv1.trans hA, h1, h2, ?_, ?_, ?_, ?_, h5⟩
  · exact h3 0 _ (by rw [h4]; rfl)
  · exact h3 1 _ (by rw [h4]; rfl)
  · exact h3 2 _ (by rw [h4]; rfl)
  · exact h3 3 _ (by rw [h4]; rfl)

theorem below_drawn {B : Nat} {w w' : World} (h : Below B w w') (n : Nat) : Below B w (w'.drewN n) := ⟨h.os, h.tape, h.output, h.size, h.block⟩
theorem below_undrew {B : Nat} {w w' : World} (h : Below B w.drew w') : Below B w w' := ⟨h.os, h.tape, h.output, h.size, h.block⟩
set_option maxHeartbeats 800000 in
theorem stag_same (t : Tg) (u v : Value) (lo hi lo' hi' : Nat) (w : World) (hu : ListOk Enc.str w lo hi u t.vars) (hv : ListOk Enc.str w lo' hi' v t.vars) (h1 : hi ≤ w.heap.size) (h2 : hi' ≤ w.heap.size) (hn : t.vars.length ≤ 140737488355328) :
    Calls Tryd.prog 11 #[.agg #[.string t.lang, .string t.script, .string t.region, u], .agg #[.string t.lang, .string t.script, .string t.region, v]] w fun e w' => e = .returned (.bool true) ∧ Below w.heap.size w w' := by
  obtain ⟨l, s, r, vs⟩ := t
  dsimp only at hu hv hn ⊢
  have HT : Hid (∀ W, Below w.heap.size w W → Calls Tryd.prog 33 #[u, v] W fun e w' => e = .returned (.bool true) ∧ ∃ n, w' = W.drewN n) := fun W hW => by
    have h := texts_any u v vs vs lo hi lo' hi' W (hu.keep Enc.str_laws (Alk.mono (Alk.of_below hW) (Nat.zero_le _) h1)) (hv.keep Enc.str_laws (Alk.mono (Alk.of_below hW) (Nat.zero_le _) h2)) hn hn
    rwa [decide_eq_true rfl] at h
  obtain ⟨A, c, rfl, _⟩ := hu.form
  obtain ⟨B, d, rfl, _⟩ := hv.form
  clear hu hv
  go_enter Tryd.func11, Tryd.ntmps11
  go_wp2_with fail
  refine (HT.out _ (((Below.refl _ _).alloc (Nat.le_refl _) _).alloc (by simp) _)).mono ?_
  rintro e w1 ⟨rfl, n, rfl⟩
  have hl : (l.toList == l.toList) = true := by simp
  go_wp2_with fail
  go_ret
  exact ⟨rfl, below_drawn (((Below.refl _ _).alloc (Nat.le_refl _) _).alloc (by simp) _) n⟩

set_option maxHeartbeats 1600000 in
theorem stags_same (l : List Tg) (u v : Value) (lo hi lo' hi' : Nat) (w : World) (hu : ListOk Enc.tag w lo hi u l) (hv : ListOk Enc.tag w lo' hi' v l) (h1 : hi ≤ w.heap.size) (h2 : hi' ≤ w.heap.size) (hn : l.length ≤ 140737488355328) (hvs : ∀ t ∈ l, t.vars.length ≤ 140737488355328) :
    Calls Tryd.prog 10 #[u, v] w fun e w' => e = .returned (.bool true) ∧ Below w.heap.size w w' := by
  obtain ⟨A, c, rfl, _⟩ := hu.form
  obtain ⟨B, d, rfl, _⟩ := hv.form
  have HU : Hid (∀ W, Below w.heap.size w W → ListOk Enc.tag W lo hi (.slice A l.length c) l) := fun W hW => hu.keep Enc.tag_laws (Alk.mono (Alk.of_below hW) (Nat.zero_le _) h1)
  have HV : Hid (∀ W, Below w.heap.size w W → ListOk Enc.tag W lo' hi' (.slice B l.length d) l) := fun W hW => hv.keep Enc.tag_laws (Alk.mono (Alk.of_below hW) (Nat.zero_le _) h2)
  have HVS := Lib.hid hvs
  clear hu hv hvs
  go_enter Tryd.func10, Tryd.ntmps10
  go_wp2_with fail
  go_loopw [5, 6] (fun i _ wr => ∃ j : Nat, j ≤ l.length ∧ i = .int .i64 j ∧ Below w.heap.size w wr) (fun i _ _ => l.length - (intOf i).toNat)
  case atStart => exact ⟨0, Nat.zero_le _, rfl, Below.refl _ _⟩
  case round =>
    obtain ⟨j, hj, rfl, hb⟩ := hrel
    by_cases hlt : j < l.length
    · obtain ⟨b1, o1, V1, rfl, p1, p2, x0, x1, x2, x3, xl⟩ := (HU.out _ hb).tagAt j hlt
      obtain ⟨b2, o2, V2, rfl, p3, p4, y0, y1, y2, y3, yl⟩ := (HV.out _ hb).tagAt j hlt
      have hbs := hb.size
      have HB := Lib.hid hb
      have hvl : l[j].vars.length ≤ 140737488355328 := HVS.out _ (List.getElem_mem hlt)
      generalize l[j] = t at *
      obtain ⟨tl, ts, tr, tv⟩ := t
      dsimp only at x0 x1 x2 x3 xl y0 y1 y2 y3 yl hvl
      have HS : Hid (∀ W, Below wr.heap.size wr W → Calls Tryd.prog 11 #[.agg #[.string tl, .string ts, .string tr, V1], .agg #[.string tl, .string ts, .string tr, V2]] W fun e w' => e = .returned (.bool true) ∧ Below W.heap.size W w') := fun W hW =>
        stag_same ⟨tl, ts, tr, tv⟩ V1 V2 lo hi lo' hi' W (xl.keep Enc.str_laws (Alk.mono (Alk.of_below hW) (Nat.zero_le _) (by omega))) (yl.keep Enc.str_laws (Alk.mono (Alk.of_below hW) (Nat.zero_le _) (by omega))) (Nat.le_trans h1 (Nat.le_trans hbs hW.size)) (Nat.le_trans h2 (Nat.le_trans hbs hW.size)) hvl
      obtain ⟨A1, c1, rfl, _⟩ := xl.form
      obtain ⟨A2, c2, rfl, _⟩ := yl.form
      clear xl yl hb
      go_wp2_with fail
      go_region_held3 (fun w' => w'.cell? ⟨b1, o1 + j * 4, none⟩ = some (.string tl) ∧ w'.cell? ⟨b1, o1 + j * 4 + 1, none⟩ = some (.string ts) ∧ w'.cell? ⟨b1, o1 + j * 4 + 2, none⟩ = some (.string tr) ∧ w'.cell? ⟨b1, o1 + j * 4 + 3, none⟩ = some (.slice A1 tv.length c1) ∧
          w'.cell? ⟨b2, o2 + j * 4, none⟩ = some (.string tl) ∧ w'.cell? ⟨b2, o2 + j * 4 + 1, none⟩ = some (.string ts) ∧ w'.cell? ⟨b2, o2 + j * 4 + 2, none⟩ = some (.string tr) ∧ w'.cell? ⟨b2, o2 + j * 4 + 3, none⟩ = some (.slice A2 tv.length c2)) (first | exact ⟨x0, x1, x2, x3, y0, y1, y2, y3⟩ | exact hs2)
        (first
          | (go_at_call 11
             refine (HS.out _ (Below.refl _ _).drew).mono ?_
             rintro e w2 ⟨rfl, hb2⟩
             have hs2 : w2.cell? ⟨b1, o1 + j * 4, none⟩ = some (.string tl) ∧ w2.cell? ⟨b1, o1 + j * 4 + 1, none⟩ = some (.string ts) ∧ w2.cell? ⟨b1, o1 + j * 4 + 2, none⟩ = some (.string tr) ∧ w2.cell? ⟨b1, o1 + j * 4 + 3, none⟩ = some (.slice A1 tv.length c1) ∧
                 w2.cell? ⟨b2, o2 + j * 4, none⟩ = some (.string tl) ∧ w2.cell? ⟨b2, o2 + j * 4 + 1, none⟩ = some (.string ts) ∧ w2.cell? ⟨b2, o2 + j * 4 + 2, none⟩ = some (.string tr) ∧ w2.cell? ⟨b2, o2 + j * 4 + 3, none⟩ = some (.slice A2 tv.length c2) :=
               ⟨(hb2.cell (by show b1 < wr.heap.size; omega)).trans x0, (hb2.cell (by show b1 < wr.heap.size; omega)).trans x1, (hb2.cell (by show b1 < wr.heap.size; omega)).trans x2, (hb2.cell (by show b1 < wr.heap.size; omega)).trans x3, (hb2.cell (by show b2 < wr.heap.size; omega)).trans y0, (hb2.cell (by show b2 < wr.heap.size; omega)).trans y1, (hb2.cell (by show b2 < wr.heap.size; omega)).trans y2, (hb2.cell (by show b2 < wr.heap.size; omega)).trans y3⟩))
      have HB2 : Hid (Below w.heap.size w w2) := HB.out.trans ((below_undrew hb2).mono hbs)
      clear hs2 x0 x1 x2 x3 y0 y1 y2 y3
      go_wp2_with fail
      go_roundw
      case rel => exact ⟨j + 1, by omega, by go_num, HB2.out⟩
      case measure => simp [intOf]; omega
    · have HB := Lib.hid hb
      clear hb
      go_wp2_with fail
      go_ret
      exact ⟨rfl, HB.out⟩
end Go.Proofs.YtdmjelkjeiinjaaDoor
