/- The walk of package chain: less. (begun) -/
import Derived.Test.YtdmjelkjeiinjaaDoorTagC
import Derived.Test.YtdmjelkjeiinjaaDoorTagRow
set_option linter.unusedSimpArgs false
set_option linter.unusedVariables false
namespace Go.Proofs.YtdmjelkjeiinjaaDoor
open Go.RowKit

set_option maxHeartbeats 800000 in
theorem less_none (l : ByteArray) (A : Option Addr) (c : Nat) (w : World) :
    Calls Tryd.prog 24 #[.agg #[.string l, .string ByteArray.empty, .string ByteArray.empty, .slice A 0 c]] w fun e w' =>
      e = .returned (.tuple #[.agg #[.string l, .string ByteArray.empty, .string ByteArray.empty, .slice A 0 c], .bool false]) ∧ Below w.heap.size w w' := by
  have hs : ByteArray.empty.toList = [] := by decide +kernel
  go_enter Tryd.func24, Tryd.ntmps24
  go_wp2_with fail
  refine bodyPost_ret (v := .tuple #[.agg #[.string l, .string ByteArray.empty, .string ByteArray.empty, .slice A 0 c], .bool false]) ?_ rfl ?_
  · simp [results, Tryd.results24, go_sem]
  · exact ⟨rfl, by repeat' (first | exact Below.refl _ _ | (refine Below.setCell ?_ (by simp; try omega) _) | (refine Below.alloc ?_ (by simp; try omega) _))⟩
set_option maxHeartbeats 800000 in
theorem less_script (l s : ByteArray) (A : Option Addr) (c : Nat) (w : World) (hs : (!s.toList.isEmpty) = true) :
    Calls Tryd.prog 24 #[.agg #[.string l, .string s, .string ByteArray.empty, .slice A 0 c]] w fun e w' =>
      e = .returned (.tuple #[.agg #[.string l, .string ByteArray.empty, .string ByteArray.empty, .slice A 0 c], .bool true]) ∧ Below w.heap.size w w' := by
  have h0 : ByteArray.empty.toList = [] := by decide +kernel
  go_enter Tryd.func24, Tryd.ntmps24
  go_wp2_with fail
  refine bodyPost_ret (v := .tuple #[.agg #[.string l, .string ByteArray.empty, .string ByteArray.empty, .slice A 0 c], .bool true]) ?_ rfl ?_
  · simp [results, Tryd.results24, go_sem]; rfl
  · exact ⟨rfl, by repeat' (first | exact Below.refl _ _ | (refine Below.setCell ?_ (by simp; try omega) _) | (refine Below.alloc ?_ (by simp; try omega) _))⟩
set_option maxHeartbeats 800000 in
theorem less_region (l s r : ByteArray) (A : Option Addr) (c : Nat) (w : World) (hr : (!r.toList.isEmpty) = true) :
    Calls Tryd.prog 24 #[.agg #[.string l, .string s, .string r, .slice A 0 c]] w fun e w' =>
      e = .returned (.tuple #[.agg #[.string l, .string s, .string ByteArray.empty, .slice A 0 c], .bool true]) ∧ Below w.heap.size w w' := by
  go_enter Tryd.func24, Tryd.ntmps24
  go_wp2_with fail
  refine bodyPost_ret (v := .tuple #[.agg #[.string l, .string s, .string ByteArray.empty, .slice A 0 c], .bool true]) ?_ rfl ?_
  · simp [results, Tryd.results24, go_sem]; rfl
  · exact ⟨rfl, by repeat' (first | exact Below.refl _ _ | (refine Below.setCell ?_ (by simp; try omega) _) | (refine Below.alloc ?_ (by simp; try omega) _))⟩

theorem info_string : (Tryd.prog.info? 9).map (fun i => (i.zero, i.size, i.bytes)) = some (some (.string ByteArray.empty), 1, 16) := by kernel_rfl
set_option maxHeartbeats 1600000 in
theorem less_vars (l s r : ByteArray) (vs : List ByteArray) (k : Nat) (hk : vs.length = k + 1) (b o c : Nat) (hc : vs.length ≤ c) (w : World) (hb : b < w.heap.size) (hcell : ∀ q (h : q < vs.length), w.cell? ⟨b, o + q, none⟩ = some (.string vs[q])) (hn : vs.length ≤ 1000000) :
    Calls Tryd.prog 24 #[.agg #[.string l, .string s, .string r, .slice (some ⟨b, o, none⟩) vs.length c]] w fun e w' => ∃ v,
      e = .returned (.tuple #[.agg #[.string l, .string s, .string r, v], .bool true]) ∧ w'.ownsRow w.heap.size 9 1 v k ((vs.take k).map .string) ∧ Below w.heap.size w w' := by
  rw [hk]
  have HK := Lib.hid hk
  rw [hk] at hc hn
  clear hk
  go_enter Tryd.func24, Tryd.ntmps24
  obtain ⟨i0, hi, hz0, hz1, hz2⟩ := info_parts info_string
  have HC := Lib.hid hcell
  clear hcell
  go_wp2_with (at_builtin; refine wpList_append_own _ rfl _ _ 22 rfl (w.heap.size + 1 + 1) 9 i0 (.string ByteArray.empty) 1 16 Tryd.underlying22 hi hz0 hz1 hz2 rfl (by decide) (.slice (some ⟨w.heap.size + 1 + 1, 0, none⟩) 0 0) 0 [] rfl ?h0 ⟨b, o, none⟩ k c ((vs.take k).map .string) rfl (by have := HK.out; simp; omega) ?h1 ?h2 ?h3 ?h4 ?h5 ?_)
  case h0 =>
    have hm := World.ownsRow_made (e := 9) (size := 1) (base := w.heap.size + 1 + 1) ((w.alloc (.cells #[.string l, .string s, .string r, .slice (some ⟨b, o, none⟩) (k + 1) c] 24)).alloc (.cells #[.string ⟨#[]⟩, .string ⟨#[]⟩, .string ⟨#[]⟩, .slice none 0 0] 24)) #[] 0 (by simp) (by decide) rfl
    simpa using hm
  case h1 =>
    intro j u hj
    rw [List.getElem?_map, List.getElem?_take] at hj
    split at hj
    · rename_i hjk
      have hjl : j < vs.length := by have := HK.out; omega
      rw [List.getElem?_eq_getElem hjl] at hj
      simp only [Option.map_some, Option.some.injEq] at hj
      subst hj
      have e : ((⟨b, o, none⟩ : Addr).add j) = ⟨b, o + j, none⟩ := by
        unfold Addr.add
        by_cases h0 : j = 0
        · rw [if_pos h0, h0]; rfl
        · rw [if_neg h0]
      rw [e, World.cell?_alloc_lt _ _ _ (by simp; omega), World.cell?_alloc_lt _ _ _ (by simp; omega), World.cell?_alloc_lt _ _ _ hb]
      exact HC.out j hjl
    · cases hj
  case h2 =>
    intro u hu
    obtain ⟨y, _, rfl⟩ := List.mem_map.1 hu
    rfl
  case h3 => unfold maxLen; omega
  case h4 => omega
  case h5 => simp
  intro v w1 hown hgrow _
  clear HC
  have hsz := hgrow.size
  simp only [World.size_alloc] at hsz
  have hbelow : Below w.heap.size w w1 := ((((Below.refl _ _).alloc (Nat.le_refl _) _).alloc (by simp; try omega) _).alloc (by simp; try omega) _).grown hgrow (by simp; try omega) (fun q hq => by simp [Value.ownBlock] at hq; omega)
  have m0 : Blk w1 w.heap.size 24 #[.string l, .string s, .string r, .slice (some ⟨b, o, none⟩) (k + 1) c] := (hgrow.block _ (by simp; try omega) (fun e => by simp [Value.ownBlock] at e; try omega)).trans (((Blk.new w _ _).alloc _).alloc _)
  have m1 : Blk w1 (w.heap.size + 1) 24 #[.string ⟨#[]⟩, .string ⟨#[]⟩, .string ⟨#[]⟩, .slice none 0 0] := (hgrow.block _ (by simp; try omega) (fun e => by simp [Value.ownBlock] at e; try omega)).trans ((by simpa using Blk.new (w.alloc _) 24 #[.string ⟨#[]⟩, .string ⟨#[]⟩, .string ⟨#[]⟩, .slice none 0 0] : Blk _ _ _ _).alloc _)
  have hv : ∀ g, v.ownBlock = some g → w.heap.size + 1 < g := fun g hg => (own_lt hown hg).1
  have hown' : w1.ownsRow w.heap.size 9 1 v k ((vs.take k).map .string) := by
    have := own_mono hown (base' := w.heap.size) (by omega)
    simpa using this
  obtain ⟨A, cap, rfl, hcap⟩ := own_slice hown'
  clear hown hgrow
  have HV := Lib.hid hv
  have HO := Lib.hid hown'
  have HB := Lib.hid hbelow
  clear hv hown' hbelow hi hz0 hz1 hz2
  have c0 := m0.cell 0
  have c1 := m0.cell 1
  have c2 := m0.cell 2
  have c3 := m0.cell 3
  have d0 := m1.cell 0
  have d1 := m1.cell 1
  have d2 := m1.cell 2
  have d3 := m1.cell 3
  have f0 := m0.frozen 3
  have f1 := m1.frozen 0
  have f2 := m1.frozen 1
  have f3 := m1.frozen 2
  have f4 := m1.frozen 3
  clear m0 m1
  simp at c0 c1 c2 c3 d0 d1 d2 d3
  go_wp2_with fail
  refine bodyPost_ret (v := .tuple #[.agg #[.string l, .string s, .string r, .slice A k cap], .bool true]) ?_ rfl ?_
  · simp [results, Tryd.results24, go_sem, d0, d1, d2, d3, f1, f2, f3, f4, c0, c1, c2]
    try rfl
  · refine ⟨_, rfl, ?_, ?_⟩
    · refine own_keep HO.out fun g hg _ => ?_
      have := HV.out g hg
      repeat rw [Below.heap_setCell _ _ _ _ (by simp; omega)]
    · repeat' (first | exact HB.out | (refine Below.setCell ?_ (by simp; try omega) _))

/-- What less gives of a tag. -/
def Lessed (w w' : World) (p q : Tg × Value) (b : Bool) : Prop :=
  (less p.1 = none ∧ b = false ∧ q = p) ∨
  ∃ u, less p.1 = some u ∧ b = true ∧ q.1 = u ∧ (w'.ownsRow w.heap.size 9 1 q.2 u.vars.length (u.vars.map .string) ∨ (q.2 = p.2 ∧ p.1.vars = [] ∧ u.vars = []))
theorem empty_of {s : ByteArray} (h : s.toList = []) : s = ByteArray.empty := (eqs_iff _ _).1 (eqs_nil h).out
theorem less_any (p : Tg × Value) (w : World) (lo : Nat) (hv : ListOk Enc.str w lo w.heap.size p.2 p.1.vars) (hn : p.1.vars.length ≤ 1000000) :
    Calls Tryd.prog 24 #[.agg #[.string p.1.lang, .string p.1.script, .string p.1.region, p.2]] w fun e w' => Below w.heap.size w w' ∧
      ∃ q b, e = .returned (.tuple #[.agg #[.string q.1.lang, .string q.1.script, .string q.1.region, q.2], .bool b]) ∧ Lessed w w' p q b := by
  obtain ⟨⟨l, s, r, vs⟩, v⟩ := p
  dsimp only at hv hn ⊢
  obtain ⟨A, c, rfl, hc⟩ := hv.form
  by_cases hz : vs.length = 0
  · have hnil : vs = [] := List.length_eq_zero_iff.1 hz
    subst hnil
    by_cases hr : r.toList = []
    · obtain rfl := empty_of hr
      by_cases hs : s.toList = []
      · obtain rfl := empty_of hs
        refine (less_none l A c w).mono ?_
        rintro e w' ⟨rfl, hb⟩
        exact ⟨hb, (⟨l, _, _, []⟩, _), false, rfl, .inl ⟨by simp [less, eqs_self], rfl, rfl⟩⟩
      · refine (less_script l s A c w (by simpa using hs)).mono ?_
        rintro e w' ⟨rfl, hb⟩
        have h1 := (eqs_not_nil hs).out
        exact ⟨hb, (⟨l, ByteArray.empty, _, []⟩, _), true, rfl, .inr ⟨⟨l, ByteArray.empty, ByteArray.empty, []⟩, by simp [less, eqs_self, h1], rfl, rfl, .inr ⟨rfl, rfl, rfl⟩⟩⟩
    · refine (less_region l s r A c w (by simpa using hr)).mono ?_
      rintro e w' ⟨rfl, hb⟩
      have h1 := (eqs_not_nil hr).out
      exact ⟨hb, (⟨l, s, ByteArray.empty, []⟩, _), true, rfl, .inr ⟨⟨l, s, ByteArray.empty, []⟩, by simp [less, h1], rfl, rfl, .inr ⟨rfl, rfl, rfl⟩⟩⟩
  · obtain ⟨k, hk⟩ : ∃ k, vs.length = k + 1 := ⟨vs.length - 1, by omega⟩
    obtain ⟨b, o, rfl, hlo, hhi, _⟩ := hv.strAt 0 (by omega)
    refine (less_vars l s r vs k hk b o c hc w hhi (fun q h => ?_) hn).mono ?_
    · obtain ⟨b', o', he, _, _, hcell⟩ := hv.strAt q h
      injection he with he
      injection he with e1 e2
      subst e1; subst e2
      exact hcell
    · rintro e w' ⟨v, rfl, hown, hb⟩
      have hl : (vs.take k).length = k := by simp; omega
      refine ⟨hb, (⟨l, s, r, vs.take k⟩, v), true, rfl, .inr ⟨⟨l, s, r, vs.take k⟩, ?_, rfl, rfl, .inl ?_⟩⟩
      · unfold less
        simp only [hk]
        rw [if_pos (by omega)]
        simp
      · show w'.ownsRow _ _ _ _ (vs.take k).length _
        rw [hl]; exact hown
end Go.Proofs.YtdmjelkjeiinjaaDoor
