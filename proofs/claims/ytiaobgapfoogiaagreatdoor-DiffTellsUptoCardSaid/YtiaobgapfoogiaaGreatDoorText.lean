/- The walk of package tag: the text of a tag (slices.DeleteFunc, slices.Grow, slices.Concat, Text). -/
import Derived.Test.YtiaobgapfoogiaaGreatDoorChainB
import Derived.Test.YtiaobgapfoogiaaGreatDoorShelf
import Derived.Shelf.SlicesE.DeleteFunc
import Derived.Lib.OwnBridge
import Derived.Lib.AppendZeros
set_option linter.unusedSimpArgs false
set_option linter.unusedVariables false
namespace Go.Proofs.YtiaobgapfoogiaaGreatDoor
open Go.RowKit Go.Lib Go.Sort

def del_ren : Go.Shelf.Ren := ⟨fun | 10 => 85 | 6 => 110 | n => n, fun | 22 => 26 | 23 => 9 | 25 => 64 | 4 => 4 | 3 => 3 | 0 => 0 | n => n, fun | n => n⟩
theorem del_lays : Go.Proofs.SlLaysH.n10 Tryz.prog del_ren := {
  mixed := by kernel_rfl
  f6 := ⟨ "slices.IndexFunc[[]string,string]", by decide, Tryz.func110.trans (congrArg some (by kernel_rfl))⟩
  f10 := ⟨ "slices.DeleteFunc[[]string,string]", by decide, Tryz.func85.trans (congrArg some (by kernel_rfl))⟩
  t0 := Tryz.underlying0
  a0 := Tryz.isAgg0
  z0 := Tryz.sizeOf0
  v0 := Tryz.zeroValue0
  t3 := Tryz.underlying3
  a3 := Tryz.isAgg3
  z3 := Tryz.sizeOf3
  v3 := Tryz.zeroValue3
  t4 := Tryz.underlying4
  a4 := Tryz.isAgg4
  z4 := Tryz.sizeOf4
  v4 := Tryz.zeroValue4
  t22 := Tryz.underlying26
  a22 := Tryz.isAgg26
  z22 := Tryz.sizeOf26
  v22 := Tryz.zeroValue26
  a23 := Tryz.isAgg9
  z23 := Tryz.sizeOf9
  t25 := Tryz.underlying64
  a25 := Tryz.isAgg64
  z25 := Tryz.sizeOf64
  v25 := Tryz.zeroValue64 }

theorem bare_any (s : ByteArray) (w : World) : Calls Tryz.prog 86 #[.string s] w fun e w' => e = .returned (.bool (eqs s ByteArray.empty)) ∧ w' = w := by
  have h : Hid (eqs s ByteArray.empty = (s.toList == ByteArray.empty.toList)) := rfl
  have e0 : ByteArray.empty.toList = [] := by decide +kernel
  rw [e0] at h
  go_enter Tryz.func86, Tryz.ntmps86
  go_wp2
  all_goals
    go_ret
    exact ⟨ret_bool (by rw [h.out]; simp_all), rfl⟩
theorem enters_bare : ∀ args w, (callFunc 86 args).run Tryz.prog w = .ok (.enter 86 args) w := enters_of Tryz.func86 (by kernel_rfl) rfl
theorem oneCell_string : OneCell (α := ByteArray) Value.string := fun _ => rfl
def full (l : List ByteArray) : List ByteArray := l.filter fun x => !eqs x ByteArray.empty
theorem not_nil {w : World} {base : Nat} {e : TypeId} {size : Nat} {v : Value} {n : Nat} {xs : List Value} (h : w.ownsRow base e size v n xs) (hn : 0 < n) : v ≠ .slice none 0 0 := by
  obtain ⟨g, cap, rfl, _⟩ := own_form h hn
  intro he; cases he
theorem delete_any (l : List ByteArray) (base : Nat) (v : Value) (w : World) (hown : w.ownsRow base 9 1 v l.length (l.map .string)) (hl : 0 < l.length) (hn : l.length ≤ 1000003) :
    Calls Tryz.prog 85 #[v, .func (.func 86) #[] #[]] w fun e w' => ∃ v', e = .returned v' ∧ w'.ownsRow base 9 1 v' (full l).length ((full l).map .string) ∧ Below base w w' := by
  obtain ⟨g, cap, rfl, hg, hlt, hcap, _, _, hH⟩ := holds_of_ownsRow (enc := Value.string) (zs := l) hown (not_nil hown hl)
  have hp : PredAt Tryz.prog 86 #[] Value.string (fun x => eqs x ByteArray.empty) w := fun W x _ => (bare_any x W).mono fun e w' h => ⟨h.1, 0, h.2⟩
  have hpo : PredOver Tryz.prog 86 #[] Value.string (fun x => eqs x ByteArray.empty) g 0 l.toArray.size w := fun n os dk x _ => (bare_any x _).mono fun e w' h => ⟨h.1, 0, h.2⟩
  have h := AnyE.slices_DeleteFunc del_lays Value.string oneCell_string (fun x => eqs x ByteArray.empty) 86 #[] enters_bare ByteArray.empty Tryz.zeroValue9 g 0 cap l.toArray w hp hpo hH (by simp; omega) (by simpa using hcap)
  have e1 : (l.toArray.toList.filter fun x => !eqs x ByteArray.empty) = full l := rfl
  rw [e1] at h
  have hfl : (full l).length ≤ l.length := List.length_filter_le _ _
  have hsz : l.toArray.size = l.length := by simp
  rw [hsz] at h
  refine h.mono ?_
  rintro e w' ⟨rfl, q, rfl⟩
  refine ⟨_, rfl, ?_, below_putRow (Below.refl _ _) hg⟩
  have := ownsRow_putRow (q := q) (k := (full l).length) (ys := full l ++ List.replicate (l.length - (full l).length) ByteArray.empty) hown (by simp; omega) hfl
  rw [List.take_left' rfl] at this
  exact this

set_option maxHeartbeats 800000 in
set_option maxRecDepth 100000 in
theorem grow_any (n : Nat) (w : World) (h0 : 0 < n) (hn : n ≤ 1000003) :
    Calls Tryz.prog 106 #[.slice none 0 0, .int .i64 n] w fun e w' => ∃ v, e = .returned v ∧ w'.ownsRow w.heap.size 9 1 v 0 [] ∧ Below w.heap.size w w' := by
  obtain ⟨i, hi, hz0, hz1, hz2⟩ := info_parts info_string
  have hb := run_append_nil_zeros (P := Tryz.prog) w 26 3 26 9 i (.string ByteArray.empty) .i64 .i64 Tryz.underlying26 Tryz.underlying3 hi hz0 n h0 (by omega) (by omega) (by rw [hz2]; omega)
  have hge := grownCap_ge w n 0 9
  have hle := grownCap_le_maxLen w n 0 9 (by unfold maxLen; omega)
  unfold maxLen at hle
  clear hi hz0 hz1 hz2
  generalize grownCap w n 0 9 = G at hb hge hle
  have HB := Lib.hid hb
  clear hb
  go_enter Tryz.func106, Tryz.ntmps106
  go_wp2_with (at_builtin; refine Lib.wpList_append_run _ rfl _ _ 26 3 rfl (.slice none 0 0) (.int .i64 n) rfl rfl _ _ HB.out ?_)
  go_ret
  refine ⟨_, rfl, ⟨rfl, .inr ⟨w.heap.size, G, _, rfl, Nat.le_refl _, heap_alloc_new w _, by omega, by unfold maxLen; omega, ?_, rfl⟩⟩, ((Below.refl _ _).alloc (Nat.le_refl _) _).drew⟩
  simp [Builtin.zeroCells]
  omega

/-- what Concat has put together ahead of list j -/
def got2 (a b : List ByteArray) (j : Nat) : List ByteArray := if j = 0 then [] else if j = 1 then a else a ++ b
set_option maxHeartbeats 1600000 in
theorem concat_any (a b : List ByteArray) (A B : Option Addr) (ca cb bk : Nat) (w : World) (hbk : bk < w.heap.size) (h0 : w.cell? ⟨bk, 0, none⟩ = some (.slice A a.length ca)) (h1 : w.cell? ⟨bk, 1, none⟩ = some (.slice B b.length cb))
    (hA : ∀ W, Below w.heap.size w W → (a.length = 0 ∨ ∃ b o, A = some ⟨b, o, none⟩ ∧ ∀ j u, (a.map Value.string)[j]? = some u → W.cell? ⟨b, o + j, none⟩ = some u))
    (hB : ∀ W, Below w.heap.size w W → (b.length = 0 ∨ ∃ b' o, B = some ⟨b', o, none⟩ ∧ ∀ j u, (b.map Value.string)[j]? = some u → W.cell? ⟨b', o + j, none⟩ = some u))
    (ha0 : 0 < a.length) (ha : a.length ≤ 3) (hb : b.length ≤ 1000000) :
    Calls Tryz.prog 83 #[.slice (some ⟨bk, 0, none⟩) 2 2] w fun e w' => ∃ v, e = .returned v ∧ w'.ownsRow w.heap.size 9 1 v (a ++ b).length ((a ++ b).map .string) ∧ Below w.heap.size w w' := by
  have HA := Lib.hid hA
  have HB := Lib.hid hB
  clear hA hB
  have C0 : Hid (∀ W, Below w.heap.size w W → W.cell? ⟨bk, 0, none⟩ = some (.slice A a.length ca)) := fun W hW => (hW.cell (p := ⟨bk, 0, none⟩) hbk).trans h0
  have C1 : Hid (∀ W, Below w.heap.size w W → W.cell? ⟨bk, 1, none⟩ = some (.slice B b.length cb)) := fun W hW => (hW.cell (p := ⟨bk, 1, none⟩) hbk).trans h1
  have HG0 := grow_any (a.length + b.length) w (by omega) (by omega)
  rw [Int.natCast_add] at HG0
  have HG := Lib.hid HG0
  clear HG0
  go_enter Tryz.func83, Tryz.ntmps83
  go_wp2
  go_loop [3, 5, 11] (fun s _ i => ∃ j : Nat, j ≤ 2 ∧ i = .int .i64 j ∧ s = .int .i64 ((got2 a b j).length : Nat)) (fun _ _ i => 2 - (intOf i).toNat)
  case atStart => exact ⟨0, by omega, rfl, rfl⟩
  case round =>
    obtain ⟨j, hj, rfl, rfl⟩ := hrel
    by_cases j0 : j = 0
    · subst j0
      simp only [got2, if_true, List.length_nil]
      go_wp2
      go_round
      case rel => exact ⟨1, by omega, rfl, by simp⟩
      case measure => simp [intOf]
    · by_cases j1 : j = 1
      · subst j1
        simp only [got2, if_true, if_neg j0]
        go_wp2
        go_round
        case rel => exact ⟨2, by omega, rfl, by simp⟩
        case measure => simp [intOf]
      · obtain rfl : j = 2 := by omega
        simp only [got2, if_neg j0, if_neg j1, List.length_append]
        go_wp2_with fail
        refine HG.out.mono ?_
        rintro e w1 ⟨v, rfl, hv, hb1⟩
        have HV := Lib.hid hv
        have HB1 := Lib.hid hb1
        clear hv hb1 HG
        go_wp2_with fail
        go_loopw [6, 8, 27] (fun v _ i wr => ∃ j : Nat, j ≤ 2 ∧ i = .int .i64 j ∧ wr.ownsRow w.heap.size 9 1 v (got2 a b j).length ((got2 a b j).map .string) ∧ Below w.heap.size w wr) (fun _ _ i _ => 2 - (intOf i).toNat)
        case atStart => exact ⟨0, by omega, rfl, HV.out, HB1.out⟩
        case round =>
          clear HV HB1
          obtain ⟨j, hj, rfl, hv, hb1⟩ := hrel
          have d0 := C0.out _ hb1
          have d1 := C1.out _ hb1
          have hbs := hb1.size
          have HB1 := Lib.hid hb1
          clear hb1
          by_cases k0 : j = 0
          · subst k0
            simp only [got2, if_true, List.length_nil, List.map_nil] at hv
            have HV := Lib.hid hv
            clear hv
            go_wp2_with (at_builtin; refine wpList_append_any rfl _ _ 26 rfl w.heap.size 9 Tryz.underlying26 info_string rfl (by decide) [] rfl HV.out (a.map .string) rfl (by simp) (HA.out _ HB1.out) (strs_oneCell _) (by unfold maxLen; omega) (by omega) hbs ?_)
            intro v2 w2 hown hgrow _
            have HO : Hid (w2.ownsRow w.heap.size 9 1 v2 a.length (a.map .string)) := Lib.hid (by simpa using hown)
            have HB2 : Hid (Below w.heap.size w w2) := HB1.out.grown hgrow hbs (fun k hk => (own_lt HV.out hk).1)
            clear hown hgrow HB1 HV
            go_wp2_with fail
            go_roundw
            case rel => exact ⟨1, by omega, rfl, by simpa [got2] using HO.out, HB2.out⟩
            case measure => simp [intOf]
          · by_cases k1 : j = 1
            · subst k1
              simp only [got2, if_true, if_neg k0] at hv
              have HV := Lib.hid hv
              clear hv
              go_wp2_with (at_builtin; refine wpList_append_any rfl _ _ 26 rfl w.heap.size 9 Tryz.underlying26 info_string rfl (by decide) (a.map .string) rfl HV.out (b.map .string) rfl (by simp) (HB.out _ HB1.out) (strs_oneCell _) (by unfold maxLen; omega) (by omega) hbs ?_)
              intro v2 w2 hown hgrow _
              have HO : Hid (w2.ownsRow w.heap.size 9 1 v2 (a ++ b).length ((a ++ b).map .string)) := Lib.hid (by simpa using hown)
              have HB2 : Hid (Below w.heap.size w w2) := HB1.out.grown hgrow hbs (fun k hk => (own_lt HV.out hk).1)
              clear hown hgrow HB1 HV
              go_wp2_with fail
              go_roundw
              case rel => exact ⟨2, by omega, rfl, by simpa [got2] using HO.out, HB2.out⟩
              case measure => simp [intOf]
            · obtain rfl : j = 2 := by omega
              have HO : Hid (wr.ownsRow w.heap.size 9 1 u6 (a ++ b).length ((a ++ b).map .string)) := Lib.hid (by simpa [got2] using hv)
              clear hv
              go_wp2_with fail
              go_ret
              exact ⟨_, rfl, HO.out, HB1.out⟩

set_option maxHeartbeats 1600000 in
theorem text_any (p : Tg × Value) (w : World) (h : TagIn w p) (hn : p.1.vars.length ≤ 1000000) (hj : (tagText p.1).size ≤ 140737488355328) :
    Calls Tryz.prog 59 #[.agg #[.string p.1.lang, .string p.1.script, .string p.1.region, p.2]] w fun e w' => e = .returned (.string (tagText p.1)) ∧ Below w.heap.size w w' := by
  have HT : Hid (tagText p.1 = ⟨(Lib.join ((full ([p.1.lang, p.1.script, p.1.region] ++ p.1.vars)).map (·.data.toList)) dash.data.toList).toArray⟩) := rfl
  have HJ : Hid ((Lib.join ((full ([p.1.lang, p.1.script, p.1.region] ++ p.1.vars)).map (·.data.toList)) dash.data.toList).length ≤ 140737488355328) := by
    have : (tagText p.1).size = (Lib.join ((full ([p.1.lang, p.1.script, p.1.region] ++ p.1.vars)).map (·.data.toList)) dash.data.toList).length := str_size _
    rw [← this]; exact hj
  clear hj
  obtain ⟨⟨l, s, r, vs⟩, v⟩ := p
  obtain ⟨lo, hl⟩ := h.lo
  clear h
  dsimp only at hl HT HJ hn ⊢
  obtain ⟨A, c, rfl, hc⟩ := hl.form
  have HN : Hid (∀ W, Below w.heap.size w W → (vs.length = 0 ∨ ∃ b o, A = some ⟨b, o, none⟩ ∧ ∀ j u, (vs.map Value.string)[j]? = some u → W.cell? ⟨b, o + j, none⟩ = some u)) := fun W hW => news_strs (hl.below Enc.str_laws hW)
  clear hl
  generalize tagText ⟨l, s, r, vs⟩ = out at HT ⊢
  go_enter Tryz.func59, Tryz.ntmps59
  go_wp2_with fail
  obtain ⟨W3, hW3⟩ : ∃ W3, W3 = ((w.alloc (.cells #[.string l, .string s, .string r, .slice A vs.length c] 72)).alloc (.cells #[.string l, .string s, .string r] 9)).alloc (.cells #[.slice (some ⟨w.heap.size + 1, 0, none⟩) 3 3, .slice A vs.length c] 26) := ⟨_, rfl⟩
  have hb3 : Below w.heap.size w W3 := by
    rw [hW3]
    exact (((Below.refl _ _).alloc (Nat.le_refl _) _).alloc (by simp) _).alloc (by simp; omega) _
  have hs3 : W3.heap.size = w.heap.size + 1 + 1 + 1 := by rw [hW3]; simp
  have m1 : Blk W3 (w.heap.size + 1) 9 #[.string l, .string s, .string r] := by
    rw [hW3]
    have := (Blk.new (w.alloc (.cells #[.string l, .string s, .string r, .slice A vs.length c] 72)) 9 #[.string l, .string s, .string r]).alloc (.cells #[.slice (some ⟨w.heap.size + 1, 0, none⟩) 3 3, .slice A vs.length c] 26)
    simpa using this
  have m2 : Blk W3 (w.heap.size + 1 + 1) 26 #[.slice (some ⟨w.heap.size + 1, 0, none⟩) 3 3, .slice A vs.length c] := by
    rw [hW3]
    have := Blk.new ((w.alloc (.cells #[.string l, .string s, .string r, .slice A vs.length c] 72)).alloc (.cells #[.string l, .string s, .string r] 9)) 26 #[.slice (some ⟨w.heap.size + 1, 0, none⟩) 3 3, .slice A vs.length c]
    simpa using this
  rw [← hW3]
  clear hW3
  have HC := concat_any [l, s, r] vs (some ⟨w.heap.size + 1, 0, none⟩) A 3 c (w.heap.size + 1 + 1) W3 (by omega) (by simpa using m2.cell 0) (by simpa using m2.cell 1)
    (fun W hW => .inr ⟨_, _, rfl, fun j u hj => by
      rw [(m1.below hW (by omega)).cell (0 + j)]
      simpa using hj⟩) (fun W hW => HN.out W (hb3.trans (hW.mono (by omega)))) (by simp) (by simp) hn
  refine HC.mono ?_
  clear HC m1 m2 HN
  rintro e w4 ⟨v4, rfl, hv4, hb4⟩
  have HD : Hid (∀ W, W = w4 → Calls Tryz.prog 85 #[v4, .func (.func 86) #[] #[]] W fun e w' => ∃ v', e = .returned v' ∧ w'.ownsRow W3.heap.size 9 1 v' (full ([l, s, r] ++ vs)).length ((full ([l, s, r] ++ vs)).map .string) ∧ Below W3.heap.size W w') := fun W hW => by
    subst hW
    exact delete_any ([l, s, r] ++ vs) W3.heap.size v4 _ hv4 (by simp) (by simp; omega)
  have HB4 : Hid (Below w.heap.size w w4) := hb3.trans (hb4.mono (by omega))
  clear hv4 hb4 hb3
  have hful : (full ([l, s, r] ++ vs)).length ≤ 1000003 := Nat.le_trans (List.length_filter_le _ _) (by simp; omega)
  generalize full ([l, s, r] ++ vs) = fl at HT HJ HD hful
  go_wp2_with fail
  refine (HD.out _ rfl).mono ?_
  rintro e w5 ⟨v5, rfl, hv5, hb5⟩
  have HB5 : Hid (Below w.heap.size w w5) := HB4.out.trans (hb5.mono (by omega))
  clear hb5 HD HB4
  have hl5 := ListOk.strs_of_own (lo := 0) (hi := w5.heap.size) hv5 (Nat.zero_le _) (Nat.le_refl _)
  obtain ⟨A5, c5, rfl, hc5⟩ := own_slice hv5
  clear hv5
  by_cases hz : fl.length = 0
  · have hnil : fl = [] := List.length_eq_zero_iff.1 hz
    subst hnil
    have HJ0 := Lib.hid (Tryz.strings_Join_none A5 c5 dash w5)
    have hT : Hid (out = ⟨#[]⟩) := HT.out.trans rfl
    clear HT HJ hl5
    simp only [List.length_nil]
    go_wp2_with fail
    refine HJ0.out.mono ?_
    rintro e w6 ⟨rfl, rfl⟩
    go_wp2_with fail
    go_ret
    exact ⟨by rw [hT.out]; rfl, HB5.out⟩
  · obtain ⟨b5, o5, rfl, _, hb5, _⟩ := hl5.strAt 0 (by omega)
    have HJ0 := Lib.hid (Tryz.strings_Join b5 o5 c5 fl dash w5 (fun j x hj => by
      obtain ⟨hjl, rfl⟩ := List.getElem?_eq_some_iff.1 hj
      obtain ⟨b', o', he, _, _, hcell⟩ := hl5.strAt j hjl
      injection he with he
      injection he with e1 e2
      subst e1; subst e2
      exact hcell) hb5 (by omega) hc5 HJ.out)
    rw [← HT.out] at HJ0
    clear HT HJ hl5
    go_wp2_with fail
    refine HJ0.out.mono ?_
    rintro e w6 ⟨rfl, hb6⟩
    have HB6 : Hid (Below w.heap.size w w6) := HB5.out.trans (hb6.mono HB5.out.size)
    clear hb6
    go_wp2_with fail
    go_ret
    exact ⟨rfl, HB6.out⟩
end Go.Proofs.YtiaobgapfoogiaaGreatDoor
