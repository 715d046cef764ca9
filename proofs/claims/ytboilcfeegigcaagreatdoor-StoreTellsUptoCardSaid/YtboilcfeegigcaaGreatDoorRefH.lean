/- The walk of the document's package: TextIn, LoadFault, FindIn. -/
import Derived.Test.YtboilcfeegigcaaGreatDoorRefG
import Derived.Test.YtboilcfeegigcaaGreatDoorRefF
import Derived.Test.YtboilcfeegigcaaGreatDoorFind
import Derived.Deep.DrawnRows
namespace Go.Proofs.YtboilcfeegigcaaGreatDoor
open Go.RowKit

theorem hit_idx {l : List Bun} {nm key : ByteArray} (i : Nat) (hi : i < l.length) : hitAt l nm key i = if eqs l[i].tag nm then (entIdx l[i].ents key).bind (fun k => l[i].ents[k]?.map (·.text)) else none := by
  rw [hitAt_is i hi]
  congr 1
  unfold entIdx
  generalize l[i].ents = es
  induction es with
  | nil => rfl
  | cons a r ih =>
    rw [List.find?_cons, List.findIdx?_cons]
    cases h : eqs a.key key with
    | true => rfl
    | false =>
      simp only [Bool.false_eq_true, if_false]
      rw [ih]
      cases r.findIdx? (fun e => eqs e.key key) with
      | none => rfl
      | some k => rfl
theorem entIdx_lt {l : List Ent} {key : ByteArray} {k : Nat} (h : entIdx l key = some k) : k < l.length := by
  unfold entIdx at h
  rw [List.findIdx?_eq_some_iff_getElem] at h
  exact h.1

/-- What TextIn answers. -/
def TextRes (o : Option ByteArray) : Ending := match o with | some s => .returned (.tuple #[.string s, .bool true]) | none => .returned (.tuple #[.string ⟨#[]⟩, .bool false])
set_option maxHeartbeats 1600000 in
theorem textin_any (l : List Bun) (vl : Value) (nm key : ByteArray) (w : World) (h : BunsIn w vl l) :
    Calls Tryz.prog 11 #[vl, .string nm, .string key] w fun e w' => e = TextRes (textIn l nm key) ∧ w = w' := by
  have HL := Lib.hid h
  have hlen : l.length * 40 ≤ 140737488355328 := h.len
  obtain ⟨lo, hlo⟩ := h.lo
  obtain ⟨A, c, rfl, hlc⟩ := hlo.form
  have HR : Hid (textIn l nm key = (findTag l nm key).map (·.2)) := Lib.hid rfl
  generalize textIn l nm key = R at *
  clear h hlo
  go_enter Tryz.func11, Tryz.ntmps11
  go_wp2_with fail
  go_loop [8, 9] (fun i _ => ∃ j : Nat, j ≤ l.length ∧ i = .int .i64 j ∧ (∀ q, q < j → hitAt l nm key q = none)) (fun i _ => l.length - (intOf i).toNat)
  case atStart => exact ⟨0, Nat.zero_le _, rfl, fun _ h => absurd h (by omega)⟩
  case round =>
    obtain ⟨j, hj, rfl, hno⟩ := hrel
    have HNo := Lib.hid hno
    clear hno
    by_cases hlt : j < l.length
    · obtain ⟨b, o, V, rfl, hbl, x0, x1, hin⟩ := HL.out.bunAt j hlt
      have HIx := Lib.hid (hit_idx (nm := nm) (key := key) j hlt)
      obtain ⟨lo2, hel⟩ := hin.lo
      have hen := hin.len
      obtain ⟨A4, c4, rfl, hc4⟩ := hel.form
      have HE := Lib.hid (entat_any _ _ key _ _ w hel (by omega))
      have HEl := Lib.hid hel
      have HLt : Hid (∀ k, entIdx l[j].ents key = some k → k < l[j].ents.length) := Lib.hid fun k hk => entIdx_lt hk
      clear hin hel
      generalize l[j] = B at *
      obtain ⟨bt, es⟩ := B
      dsimp only at x0 x1 HE HEl HIx HLt hen hc4
      generalize entIdx es key = ix at *
      have hz0 : Hid ((ix = none → idxI ix = -1) ∧ ∀ k, ix = some k → idxI ix = (k : Int)) := Lib.hid ⟨fun h => by rw [h]; rfl, fun k h => by rw [h]; rfl⟩
      generalize idxI ix = z at *
      go_wp2_with fail
      refine HE.out.mono ?_
      rintro e w1 ⟨rfl, rfl⟩
      clear HE
      cases hk : (bt.toList == nm.toList) with
      | false =>
        have HK : Hid (hitAt l nm key j = none) := Lib.hid (by
          rw [HIx.out, if_neg]
          show ¬ eqs bt nm = true
          unfold eqs; rw [hk]; simp)
        go_wp2_with fail
        go_round
        case rel => exact ⟨j + 1, by omega, by go_num, fun q hq => by
          rcases Nat.lt_or_eq_of_le (Nat.le_of_lt_succ hq) with h | h
          · exact HNo.out q h
          · subst h; exact HK.out⟩
        case measure => simp [intOf]; omega
      | true =>
        have hkk : eqs bt nm = true := hk
        cases ix with
        | none =>
          have hz : z = -1 := hz0.out.1 rfl
          subst hz
          have HK : Hid (hitAt l nm key j = none) := Lib.hid (by rw [HIx.out, if_pos hkk]; rfl)
          go_wp2_with fail
          go_round
          case rel => exact ⟨j + 1, by omega, by go_num, fun q hq => by
            rcases Nat.lt_or_eq_of_le (Nat.le_of_lt_succ hq) with h | h
            · exact HNo.out q h
            · subst h; exact HK.out⟩
          case measure => simp [intOf]; omega
        | some k =>
          have hz : z = (k : Int) := hz0.out.2 k rfl
          subst hz
          have hkl := HLt.out k rfl
          obtain ⟨b5, o5, rfl, _, _, y0, y1⟩ := HEl.out.entAt k hkl
          have HK : Hid (R = some es[k].text) := Lib.hid (by
            have h1 : hitAt l nm key j = some es[k].text := by
              rw [HIx.out, if_pos hkk]
              show (es[k]?).map _ = _
              rw [List.getElem?_eq_getElem hkl]; rfl
            have h2 : findTag l nm key = some (j, es[k].text) := firstS_at _ j _ HNo.out h1 _ hlt
            rw [HR.out, h2]; rfl)
          generalize es[k] = en at *
          obtain ⟨ek, et⟩ := en
          dsimp only at y0 y1 HK
          have hk0 : (0 : Int) ≤ (k : Int) := Int.natCast_nonneg k
          have hk1 : (k : Int) < (es.length : Int) := by omega
          go_wp2_with fail
          go_ret2
          exact ⟨by rw [HK.out]; rfl, rfl⟩
    · obtain rfl : j = l.length := by omega
      have HK : Hid (R = none) := Lib.hid (by
        have h2 : findTag l nm key = none := firstS_none _ _ HNo.out
        rw [HR.out, h2]; rfl)
      go_wp2_with fail
      go_ret2
      exact ⟨by rw [HK.out]; rfl, rfl⟩
theorem any_take_no {l : List Bun} {p : Bun → Bool} (j : Nat) (h : ∀ q (h : q < l.length), q < j → p l[q] = false) : (l.take j).any p = false := any_of_no _ _ fun q hq => by
  rw [List.length_take] at hq
  rw [List.getElem_take]
  exact h q (by omega) (by omega)
theorem any_take_yes {l : List Bun} {p : Bun → Bool} (j q : Nat) (hq : q < l.length) (hqj : q < j) (h : p l[q] = true) : (l.take j).any p = true :=
  any_of_at _ _ q (by rw [List.length_take]; omega) (by rw [List.getElem_take]; exact h)
set_option maxHeartbeats 1600000 in
set_option maxRecDepth 100000 in
theorem qloadfault_any (l : List Bun) (vl : Value) (w : World) (h : BunsIn w vl l) :
    Calls Tryz.prog 14 #[vl] w fun e w' => e = .returned (.int .i64 (loadFault l)) ∧ Below w.heap.size w w' := by
  have HL := Lib.hid h
  have hlen : l.length * 40 ≤ 140737488355328 := h.len
  obtain ⟨lo, hlo⟩ := h.lo
  obtain ⟨A, c, rfl, hlc⟩ := hlo.form
  have HBad : Hid (∀ j, j < l.length → (∀ q, q < j → loadAt l q = 0) → loadAt l j ≠ 0 → loadFault l = loadAt l j) := Lib.hid fun j hj h0 h => firstN_at _ j h0 h _ hj
  have HGood : Hid ((∀ q, q < l.length → loadAt l q = 0) → loadFault l = 0) := Lib.hid fun h => firstN_zero _ _ h
  generalize loadFault l = F at *
  clear h hlo
  go_enter Tryz.func14, Tryz.ntmps14
  go_wp2_with fail
  go_loopw [3, 4] (fun i _ wr => ∃ j : Nat, j ≤ l.length ∧ i = .int .i64 j ∧ (∀ q, q < j → loadAt l q = 0) ∧ Below w.heap.size w wr) (fun i _ _ => l.length - (intOf i).toNat)
  case atStart => exact ⟨0, Nat.zero_le _, rfl, fun _ h => absurd h (by omega), Below.refl _ _⟩
  case round =>
    obtain ⟨j, hj, rfl, hno, hbr⟩ := hrel
    have HNo := Lib.hid hno
    have HBr := Lib.hid hbr
    have hbs := hbr.size
    clear hno hbr
    by_cases hlt : j < l.length
    · obtain ⟨b, o, V, rfl, hbl, x0, x1, hin⟩ := (HL.out.below HBr.out).bunAt j hlt
      have HIn := Lib.hid hin
      have HLd := Lib.hid (loadAt_is j hlt)
      have HRj := Lib.hid (HBad.out j hlt HNo.out)
      have HCk : Hid (∀ W, Below wr.heap.size wr W → Calls Tryz.prog 26 #[.agg #[.string l[j].tag, V]] W fun e w' => e = .returned (.int .i64 (bunFault l[j])) ∧ Below W.heap.size W w') := Lib.hid fun W hW => qbunfault_any l[j] V W (HIn.out.below hW)
      have HTags : Hid (∀ q (h : q < l.length), wr.cell? ⟨b, o + q * 2, none⟩ = some (.string l[q].tag)) := Lib.hid fun q hq => by
        obtain ⟨b', o', V', he, _, y0, _, _⟩ := (HL.out.below HBr.out).bunAt q hq
        injection he with he
        injection he with e1 e2
        subst e1; subst e2
        exact y0
      have HNoT : Hid ((∀ q (h : q < l.length), q < j → eqs l[q].tag l[j].tag = false) → (l.take j).any (fun b => eqs b.tag l[j].tag) = false) := Lib.hid fun h => any_take_no j h
      have HYesT : Hid (∀ q (h : q < l.length), q < j → eqs l[q].tag l[j].tag = true → (l.take j).any (fun b => eqs b.tag l[j].tag) = true) := Lib.hid fun q h1 h2 h => any_take_yes j q h1 h2 h
      obtain ⟨A4, c4, hV, _⟩ := (Classical.choose_spec hin.lo).form
      subst hV
      generalize (l.take j).any (fun b => eqs b.tag l[j].tag) = dup at *
      generalize hB : l[j] = B at *
      clear hin HIn
      obtain ⟨bt, bl⟩ := B
      dsimp only at x0 x1 HCk HLd HNoT HYesT
      generalize bunFault ⟨bt, bl⟩ = bf at *
      go_wp2_with fail
      refine (HCk.out _ (Below.refl _ _)).mono ?_
      rintro e w1 ⟨rfl, hb1⟩
      have HB1 := Lib.hid hb1
      have hs1 := hb1.size
      have x0' : w1.cell? ⟨b, o + j * 2, none⟩ = some (.string bt) := (hb1.cell (p := ⟨b, o + j * 2, none⟩) hbl).trans x0
      have x1' : w1.cell? ⟨b, o + j * 2 + 1, none⟩ = some (.slice A4 bl.length c4) := (hb1.cell (p := ⟨b, o + j * 2 + 1, none⟩) hbl).trans x1
      clear hb1 x0 x1
      by_cases hf : bf = 0
      · rw [if_pos hf] at HLd
        subst hf
        clear HCk
        go_wp2_with fail
        obtain ⟨wo, rfl⟩ : ∃ wo : World, wo = wr := ⟨_, rfl⟩
        go_loopw [4] (fun k wr => ∃ q : Nat, q ≤ j ∧ k = .int .i64 q ∧ (∀ p (h : p < l.length), p < q → eqs l[p].tag bt = false) ∧ ∃ n, wr = w1.drewN n) (fun k _ => j - (intOf k).toNat)
        case atStart => exact ⟨0, Nat.zero_le _, rfl, fun _ _ h => absurd h (by omega), 0, rfl⟩
        case round =>
          obtain ⟨q, hq, rfl, hnq, n, rfl⟩ := hrel
          have HNq := Lib.hid hnq
          clear hnq
          by_cases hqj : q < j
          · have hql : q < l.length := by omega
            have y0 : w1.cell? ⟨b, o + q * 2, none⟩ = some (.string l[q].tag) := (HB1.out.cell (p := ⟨b, o + q * 2, none⟩) hbl).trans (HTags.out q hql)
            have i1 : (0 : Int) ≤ (q : Int) := Int.natCast_nonneg q
            have i2 : (q : Int) < (l.length : Int) := by omega
            have i3 : (0 : Int) ≤ (j : Int) := Int.natCast_nonneg j
            have i4 : (j : Int) < (l.length : Int) := by omega
            have HYq := Lib.hid (HYesT.out q hql hqj)
            cases he : (l[q].tag.toList == bt.toList) with
            | true =>
              have HD : Hid (dup = true) := Lib.hid (HYq.out he)
              have HR := Lib.hid (HRj.out (by rw [HLd.out, HD.out]; decide))
              rw [HLd.out, HD.out] at HR
              go_wp2_with fail
              go_quiet (fail)
              go_wp2_with fail
              go_ret
              exact ⟨by rw [HR.out]; rfl, by first | exact below_drewN (HBr.out.trans (HB1.out.mono hbs)) _ | exact below_drewN (below_drewN (HBr.out.trans (HB1.out.mono hbs)) _) _⟩
            | false =>
              have HE := Lib.hid he
              go_wp2_with fail
              go_quiet (fail)
              go_wp2_with fail
              go_roundw
              case rel => exact ⟨q + 1, by omega, by go_num, step_no l (fun x => eqs x.tag bt) q HNq.out (fun _ => HE.out), _, by first | rfl | rw [World.drewN_drewN]⟩
              case measure => simp [intOf]; omega
          · obtain rfl : q = j := by omega
            have HD : Hid (dup = false) := Lib.hid (HNoT.out HNq.out)
            go_wp2_with fail
            exact ⟨⟨q + 1, by omega, by go_num, fun p hp => by
              rcases Nat.lt_or_eq_of_le (Nat.le_of_lt_succ hp) with h | h
              · exact HNo.out p h
              · subst h; rw [HLd.out, HD.out]; rfl, below_drewN (HBr.out.trans (HB1.out.mono hbs)) _⟩, by simp [intOf]; omega⟩
      · rw [if_neg hf] at HLd
        have HR := Lib.hid (HRj.out (by rw [HLd.out]; exact hf))
        rw [HLd.out] at HR
        have HC2 := Lib.hid (HCk.out w1 HB1.out)
        clear HLd HRj HCk
        go_wp2_with fail
        refine HC2.out.mono ?_
        rintro e w2 ⟨rfl, hb2⟩
        have HB2 := Lib.hid hb2
        clear hb2
        go_wp2_with fail
        go_ret
        exact ⟨by rw [HR.out]; rfl, HBr.out.trans ((HB1.out.trans (HB2.out.mono hs1)).mono hbs)⟩
    · obtain rfl : j = l.length := by omega
      have HR := Lib.hid (HGood.out HNo.out)
      go_wp2_with fail
      go_ret
      exact ⟨by rw [HR.out]; rfl, HBr.out⟩
/-- The place that FindIn tells. -/
def findI (l : List Bun) (t : Tg) (key : ByteArray) : Int := match findChain l t key with | some (_, i, _) => (i : Int) | none => -1
structure SeeksI (l : List Bun) (key : ByteArray) (C : List Tg) (F : Int) : Prop where
  hit : ∀ k (hk : k < C.length), (∀ q, q < k → tagAt l C key q = none) → ∀ i, i < l.length → (∀ q, q < i → hitAt l (tagText C[k]) key q = none) → ∀ s, hitAt l (tagText C[k]) key i = some s → F = i
  miss : ∀ k (hk : k < C.length), (∀ q, q < l.length → hitAt l (tagText C[k]) key q = none) → tagAt l C key k = none
  none : (∀ k, k < C.length → tagAt l C key k = none) → F = -1
theorem seeksI_chain (l : List Bun) (t : Tg) (key : ByteArray) : SeeksI l key (chainEn t) (findI l t key) := by
  refine ⟨fun k hk h0 i hi h1 s hs => ?_, fun k hk h0 => ?_, fun h => ?_⟩
  · have h2 : tagAt l (chainEn t) key k = some (i, s) := by
      rw [tagAt_is k hk]
      exact firstS_at _ i s h1 hs _ hi
    have h3 : findChain l t key = some (k, i, s) := firstS_at _ k _ h0 h2 _ hk
    unfold findI; rw [h3]
  · rw [tagAt_is k hk]
    exact firstS_none _ _ h0
  · have h3 : findChain l t key = Option.none := firstS_none _ _ h
    unfold findI; rw [h3]
theorem chainTags {w' : World} {base lo hi lo' hi' : Nat} {u : Value} {ps : List (Tg × Value)} (hown : w'.ownsRow base 84 4 u ps.length (flatT ps)) (hvs : ∀ p ∈ ps, ListOk Enc.str w' lo hi p.2 p.1.vars) (h1 : lo' ≤ base) (h2 : lo' ≤ lo) (h3 : hi ≤ hi') (h4 : w'.heap.size ≤ hi') :
    ListOk Enc.tag w' lo' hi' u (ps.map Prod.fst) := by
  have e1 : ps.length = (ps.map Prod.fst).length := by simp
  rw [e1] at hown
  refine ListOk.of_own (E := Enc.tag) hown h1 h4 fun i hl => ?_
  have hl' : i < ps.length := by simpa using hl
  refine ⟨ps[i].2, ?_, ?_⟩
  · rw [show Enc.tag.sz = 4 from rfl, flatT_at ps i hl']; simp [tagCells]
  rw [List.getElem_map]
  exact (hvs _ (List.getElem_mem hl')).mono Enc.str_laws h2 h3

end Go.Proofs.YtboilcfeegigcaaGreatDoor
