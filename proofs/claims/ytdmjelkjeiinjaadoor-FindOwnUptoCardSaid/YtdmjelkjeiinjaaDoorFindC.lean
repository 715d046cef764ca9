/- The walk of package find: is a bundle's tag among those ahead of it. -/
import Derived.Test.YtdmjelkjeiinjaaDoorPropC
import Derived.Test.YtdmjelkjeiinjaaDoorPick
import Derived.Shelf.SlicesQ.IndexFunc
set_option linter.unusedSimpArgs false
set_option linter.unusedVariables false
namespace Go.Proofs.YtdmjelkjeiinjaaDoor
open Go.RowKit

def cf_ren : Go.Shelf.Ren := ⟨fun | 8 => 39 | 6 => 62 | n => n, fun | 22 => 43 | 23 => 46 | 25 => 81 | 4 => 4 | 3 => 3 | 0 => 0 | n => n, fun | n => n⟩
theorem cf_lays : Go.Proofs.SlLaysH0.n8 Tryd.prog cf_ren := {
  mixed := by kernel_rfl
  f6 := ⟨ "slices.IndexFunc[[]linguister/api.Bundle,linguister/api.Bundle]", by decide, Tryd.func62.trans (congrArg some (by kernel_rfl))⟩
  f8 := ⟨ "slices.ContainsFunc[[]linguister/api.Bundle,linguister/api.Bundle]", by decide, Tryd.func39.trans (congrArg some (by kernel_rfl))⟩
  t0 := Tryd.underlying0
  a0 := Tryd.isAgg0
  z0 := Tryd.sizeOf0
  v0 := Tryd.zeroValue0
  t3 := Tryd.underlying3
  a3 := Tryd.isAgg3
  z3 := Tryd.sizeOf3
  v3 := Tryd.zeroValue3
  t4 := Tryd.underlying4
  a4 := Tryd.isAgg4
  z4 := Tryd.sizeOf4
  v4 := Tryd.zeroValue4
  t22 := Tryd.underlying43
  a22 := Tryd.isAgg43
  z22 := Tryd.sizeOf43
  v22 := Tryd.zeroValue43
  t25 := Tryd.underlying81
  a25 := Tryd.isAgg81
  z25 := Tryd.sizeOf81
  v25 := Tryd.zeroValue81 }

theorem inClosure_any (bt tg : ByteArray) (v V : Value) (b : Nat) (W : World) (hc : W.cell? ⟨b, 0, none⟩ = some (.string tg)) (hb : b < W.heap.size) :
    Calls Tryd.prog 40 #[.agg #[.string bt, v], .pointer (some ⟨b, 0, none⟩)] W fun e w' => e = .returned (.bool (eqs bt tg)) ∧ Below W.heap.size W w' := by
  have h : Hid (eqs bt tg = (bt.toList == tg.toList)) := Lib.hid rfl
  go_enter Tryd.func40, Tryd.ntmps40
  go_wp2_with fail
  all_goals
    go_ret
    exact ⟨ret_bool (by rw [h.out]), (Below.refl _ _).alloc (Nat.le_refl _) _⟩
theorem enters_inClosure : ∀ args w, (callFunc 40 args).run Tryd.prog w = .ok (.enter 40 args) w := enters_of Tryd.func40 (by kernel_rfl) rfl

/-- What is asked of a list of bundles that is handed in. -/
structure BunsIn (w : World) (v : Value) (l : List Bun) : Prop where
  lo : ∃ lo, ListOk Enc.bun w lo w.heap.size v l
  len : l.length * 40 ≤ 140737488355328
  each : ∀ b ∈ l, b.tag.size < 4294967281 ∧ b.ents.length ≤ 4398046511104 ∧ ∀ e ∈ b.ents, e.key.size ≤ 9223372036854775807 ∧ e.text.size ≤ 9223372036854775807
theorem BunsIn.below {w w' : World} {v : Value} {l : List Bun} (h : BunsIn w v l) (hb : Below w.heap.size w w') : BunsIn w' v l :=
  ⟨let ⟨lo, hl⟩ := h.lo; ⟨lo, (hl.below Enc.bun_laws hb).mono Enc.bun_laws (Nat.le_refl _) hb.size⟩, h.len, h.each⟩
theorem BunsIn.bunAt {w : World} {A : Option Addr} {n c : Nat} {l : List Bun} (h : BunsIn w (.slice A n c) l) (i : Nat) (hl : i < l.length) :
    ∃ b o V, A = some ⟨b, o, none⟩ ∧ b < w.heap.size ∧ w.cell? ⟨b, o + i * 2, none⟩ = some (.string l[i].tag) ∧ w.cell? ⟨b, o + i * 2 + 1, none⟩ = some V ∧ BunIn w l[i] V := by
  obtain ⟨lo, A', c', hv, _, hi⟩ := h.lo
  obtain ⟨b, o, cs, hA, h1, h2, h3, V, h4, h5⟩ := hi i hl
  injection hv with hv1
  have he := h.each _ (List.getElem_mem hl)
  refine ⟨b, o, V, hv1.trans hA, h2, ?_, ?_, ⟨⟨lo, h5⟩, he.1, he.2.1, he.2.2⟩⟩
  · exact h3 0 _ (by rw [h4]; rfl)
  · exact h3 1 _ (by rw [h4]; rfl)
/-- slices.ContainsFunc over the first j bundles: is one of just that tag? -/
theorem contains_any (l : List Bun) (A : Option Addr) (n c : Nat) (w : World) (h : BunsIn w (.slice A n c) l) (j : Nat) (hj : j < l.length) (tg : ByteArray) (bb : Nat) (hc : w.cell? ⟨bb, 0, none⟩ = some (.string tg)) (hbb : bb < w.heap.size) :
    Calls Tryd.prog 39 #[.slice A j c, .func (.func 40) #[] #[.pointer (some ⟨bb, 0, none⟩)]] w fun e w' => e = .returned (.bool ((l.take j).any (fun b => eqs b.tag tg))) ∧ Below w.heap.size w w' := by
  have hlen := h.len
  obtain ⟨b, o, V0, rfl, hb, _⟩ := h.bunAt j hj
  obtain ⟨vs, hvl, hvs⟩ := choose_list (α := Value) l.length (fun i V => ∀ (hi : i < l.length), w.cell? ⟨b, o + i * 2, none⟩ = some (.string l[i].tag) ∧ w.cell? ⟨b, o + i * 2 + 1, none⟩ = some V) (fun i hi => by
    obtain ⟨b', o', V, he, _, x0, x1, _⟩ := h.bunAt i hi
    injection he with he
    injection he with e1 e2
    subst e1; subst e2
    exact ⟨V, fun _ => ⟨x0, x1⟩⟩)
  have hz : ((l.map Bun.tag).zip vs).length = l.length := by simp [hvl]
  have hcon := AnyQ.slices_ContainsFunc (α := ByteArray × Value) cf_lays 2 Tryd.isAgg46 Tryd.sizeOf46 (fun p => [.string p.1, p.2]) (fun _ => rfl) (fun p => eqs p.1 tg) 40 #[.pointer (some ⟨bb, 0, none⟩)] enters_inClosure b o j c ((l.map Bun.tag).zip vs) w
    (fun W x hW => (inClosure_any x.1 tg x.2 x.2 bb W ((hW.cell (p := ⟨bb, 0, none⟩) hbb).trans hc) (Nat.lt_of_lt_of_le hbb hW.size)).mono fun e w' h => ⟨h.1, hW.trans (h.2.mono hW.size)⟩)
    (by rw [hz]; omega) (by omega) hb (fun q hq i v hi => by
      have hql : q < l.length := by rw [hz] at hq; exact hq
      have hx : ((l.map Bun.tag).zip vs)[q]! = (l[q].tag, vs[q]) := by rw [getElem!_pos _ q hq]; simp
      rw [hx] at hi
      obtain ⟨y0, y1⟩ := hvs q (by omega) hql
      match i, hi with
      | 0, hi => injection hi with hi; rw [← hi]; exact y0
      | 1, hi => injection hi with hi; rw [← hi]; exact y1
      | i + 2, hi => cases hi)
  have ha : ((((l.map Bun.tag).zip vs).take j).any fun p => eqs p.1 tg) = (l.take j).any (fun b => eqs b.tag tg) := by
    have e1 : (((l.map Bun.tag).zip vs).take j).map Prod.fst = (l.take j).map Bun.tag := by
      rw [List.map_take, List.map_fst_zip (by simp [hvl]), List.map_take]
    have e2 : ((((l.map Bun.tag).zip vs).take j).any fun p => eqs p.1 tg) = ((((l.map Bun.tag).zip vs).take j).map Prod.fst).any (eqs · tg) := by rw [List.any_map]; rfl
    rw [e2, e1, List.any_map]; rfl
  rw [ha] at hcon
  exact hcon
end Go.Proofs.YtdmjelkjeiinjaaDoor
