/- The walk of package find: is a bundle's tag among those ahead of it. -/
import Derived.Test.YtdmjelkjeiinjaaGreatDoorPropC
import Derived.Test.YtdmjelkjeiinjaaGreatDoorPick
import Derived.Shelf.SlicesQ.IndexFunc
namespace Go.Proofs.YtdmjelkjeiinjaaGreatDoor
open Go.RowKit

def cf_ren : Go.Shelf.Ren := ⟨fun | 8 => 13 | 6 => 28 | n => n, fun | 22 => 22 | 23 => 29 | 25 => 47 | 4 => 4 | 3 => 3 | 0 => 0 | n => n, fun | n => n⟩
theorem cf_lays : Go.Proofs.SlLaysH0.n8 Tryz.prog cf_ren := {
  mixed := by kernel_rfl
  f6 := ⟨"slices.IndexFunc[[]linguister/api.Bundle,linguister/api.Bundle]", by decide, Tryz.func28.trans (congrArg some (by kernel_rfl))⟩
  f8 := ⟨"slices.ContainsFunc[[]linguister/api.Bundle,linguister/api.Bundle]", by decide, Tryz.func13.trans (congrArg some (by kernel_rfl))⟩
  t0 := Tryz.underlying0
  a0 := Tryz.isAgg0
  z0 := Tryz.sizeOf0
  v0 := Tryz.zeroValue0
  t3 := Tryz.underlying3
  a3 := Tryz.isAgg3
  z3 := Tryz.sizeOf3
  v3 := Tryz.zeroValue3
  t4 := Tryz.underlying4
  a4 := Tryz.isAgg4
  z4 := Tryz.sizeOf4
  v4 := Tryz.zeroValue4
  t22 := Tryz.underlying22
  a22 := Tryz.isAgg22
  z22 := Tryz.sizeOf22
  v22 := Tryz.zeroValue22
  t25 := Tryz.underlying47
  a25 := Tryz.isAgg47
  z25 := Tryz.sizeOf47
  v25 := Tryz.zeroValue47 }

theorem inClosure_any (bt tg : ByteArray) (v V : Value) (b : Nat) (W : World) (hc : W.cell? ⟨b, 0, none⟩ = some (.string tg)) (hb : b < W.heap.size) :
    Calls Tryz.prog 14 #[.agg #[.string bt, v], .pointer (some ⟨b, 0, none⟩)] W fun e w' => e = .returned (.bool (eqs bt tg)) ∧ Below W.heap.size W w' := by
  have h : Hid (eqs bt tg = (bt.toList == tg.toList)) := Lib.hid rfl
  go_enter Tryz.func14, Tryz.ntmps14
  go_wp2_with fail
  all_goals
    go_ret
    exact ⟨ret_bool (by rw [h.out]), (Below.refl _ _).alloc (Nat.le_refl _) _⟩
theorem enters_inClosure : ∀ args w, (callFunc 14 args).run Tryz.prog w = .ok (.enter 14 args) w := enters_of Tryz.func14 (by kernel_rfl) rfl

/-- What is asked of a list of bundles that is handed in. -/
structure BunsIn (w : World) (v : Value) (l : List Bun) : Prop where
  lo : ∃ lo, ListOk Enc.bun w lo w.heap.size v l
  len : l.length * 40 ≤ 140737488355328
  each : ∀ b ∈ l, b.tag.size < 4294967281 ∧ b.ents.length ≤ 4398046511104 ∧ ∀ e ∈ b.ents, e.key.size ≤ 9223372036854775807 ∧ e.text.size ≤ 9223372036854775807
theorem BunsIn.below {w w' : World} {v : Value} {l : List Bun} (h : BunsIn w v l) (hb : Below w.heap.size w w') : BunsIn w' v l :=
  ⟨let ⟨lo, hl⟩ := h.lo; ⟨lo, (hl.below Enc.bun_laws hb).mono Enc.bun_laws (Nat.le_refl _) hb.size⟩, h.len, h.each⟩
theorem BunsIn.bunAt {w : World} {A : Option Addr} {n c : Nat} {l : List Bun} (h : BunsIn w (.slice A n c) l) (i : Nat) (hl : i < l.length) :
    ∃ b o V, A = some ⟨b, o, none⟩ ∧ b < w.heap.size ∧ w.cell? ⟨b, o + i * 2, none⟩ = some (.string l[i].tag) ∧ w.cell? ⟨b, o + i * 2 + 1, none⟩ = some V ∧ BunIn w l[i] V := by
  obtain ⟨lo, A', c', hv, _, hi⟩ := h.lo
  obtain ⟨b, o, cs, hA, h1, h2, h3, V, h4, h5⟩ := hi i hl
  injection hv with hv1
  have he := h.each _ (List.getElem_mem hl)
  refine ⟨b, o, V, hv1.trans hA, h2, ?_, ?_, ⟨⟨lo, h5⟩, he.1, he.2.1, he.2.2⟩⟩
  · exact h3 0 _ (by rw [h4]; rfl)
  · exact h3 1 _ (by rw [h4]; rfl)
/-- slices.ContainsFunc over the first j bundles: is one of just that tag? -/
theorem contains_any (l : List Bun) (A : Option Addr) (n c : Nat) (w : World) (h : BunsIn w (.slice A n c) l) (j : Nat) (hj : j < l.length) (tg : ByteArray) (bb : Nat) (hc : w.cell? ⟨bb, 0, none⟩ = some (.string tg)) (hbb : bb < w.heap.size) :
    Calls Tryz.prog 13 #[.slice A j c, .func (.func 14) #[] #[.pointer (some ⟨bb, 0, none⟩)]] w fun e w' => e = .returned (.bool ((l.take j).any (fun b => eqs b.tag tg))) ∧ Below w.heap.size w w' := by
  have hlen := h.len
  obtain ⟨b, o, V0, rfl, hb, _⟩ := h.bunAt j hj
  obtain ⟨vs, hvl, hvs⟩ := choose_list (α := Value) l.length (fun i V => ∀ (hi : i < l.length), w.cell? ⟨b, o + i * 2, none⟩ = some (.string l[i].tag) ∧ w.cell? ⟨b, o + i * 2 + 1, none⟩ = some V) (fun i hi => by
    obtain ⟨b', o', V, he, _, x0, x1, _⟩ := h.bunAt i hi
    injection he with he
    injection he with e1 e2
    subst e1; subst e2
    exact ⟨V, fun _ => ⟨x0, x1⟩⟩)
  have hz : ((l.map Bun.tag).zip vs).length = l.length := by simp [hvl]
  have hcon := AnyQ.slices_ContainsFunc (α := ByteArray × Value) cf_lays 2 Tryz.isAgg29 Tryz.sizeOf29 (fun p => [.string p.1, p.2]) (fun _ => rfl) (fun p => eqs p.1 tg) 14 #[.pointer (some ⟨bb, 0, none⟩)] enters_inClosure b o j c ((l.map Bun.tag).zip vs) w
    (fun W x hW => (inClosure_any x.1 tg x.2 x.2 bb W ((hW.cell (p := ⟨bb, 0, none⟩) hbb).trans hc) (Nat.lt_of_lt_of_le hbb hW.size)).mono fun e w' h => ⟨h.1, hW.trans (h.2.mono hW.size)⟩)
    (by rw [hz]; omega) (by omega) hb (fun q hq i v hi => by
      have hql : q < l.length := by rw [hz] at hq; exact hq
      have hx : ((l.map Bun.tag).zip vs)[q]! = (l[q].tag, vs[q]) := by rw [getElem!_pos _ q hq]; simp
      rw [hx] at hi
      obtain ⟨y0, y1⟩ := hvs q (by omega) hql
      match i, hi with
      | 0, hi => injection hi with hi; rw [← hi]; exact y0
      | 1, hi => injection hi with hi; rw [← hi]; exact y1
      | i + 2, hi => cases hi)
  have ha : ((((l.map Bun.tag).zip vs).take j).any fun p => eqs p.1 tg) = (l.take j).any (fun b => eqs b.tag tg) := by
    have e1 : (((l.map Bun.tag).zip vs).take j).map Prod.fst = (l.take j).map Bun.tag := by
      rw [List.map_take, List.map_fst_zip (by simp [hvl]), List.map_take]
    have e2 : ((((l.map Bun.tag).zip vs).take j).any fun p => eqs p.1 tg) = ((((l.map Bun.tag).zip vs).take j).map Prod.fst).any (eqs · tg) := by rw [List.any_map]; rfl
    rw [e2, e1, List.any_map]; rfl
  rw [ha] at hcon
  exact hcon
end Go.Proofs.YtdmjelkjeiinjaaGreatDoor
