/- The walk of the document's package: TextIn, LoadFault, FindIn. -/
import Derived.Test.YtdmjelkjeiinjaaGreatDoorRefG
import Derived.Test.YtdmjelkjeiinjaaGreatDoorRefF
import Derived.Test.YtdmjelkjeiinjaaGreatDoorFind
import Derived.Deep.DrawnRows
namespace Go.Proofs.YtdmjelkjeiinjaaGreatDoor
open Go.RowKit

theorem hit_idx {l : List Bun} {nm key : ByteArray} (i : Nat) (hi : i < l.length) : hitAt l nm key i = if eqs l[i].tag nm then (entIdx l[i].ents key).bind (fun k => l[i].ents[k]?.map (·.text)) else none := by
  rw [hitAt_is i hi]
  congr 1
  unfold entIdx
  generalize l[i].ents = es
  induction es with
  | nil => rfl
  | cons a r ih =>
    rw [List.find?_cons, List.findIdx?_cons]
    cases h : eqs a.key key with
    | true => rfl
    | false =>
      simp only [Bool.false_eq_true, if_false]
      rw [ih]
      cases r.findIdx? (fun e => eqs e.key key) with
      | none => rfl
      | some k => rfl
theorem entIdx_lt {l : List Ent} {key : ByteArray} {k : Nat} (h : entIdx l key = some k) : k < l.length := by
  unfold entIdx at h
  rw [List.findIdx?_eq_some_iff_getElem] at h
  exact h.1

/-- What TextIn answers. -/
def TextRes (o : Option ByteArray) : Ending := match o with | some s => .returned (.tuple #[.string s, .bool true]) | none => .returned (.tuple #[.string ⟨#[]⟩, .bool false])
theorem any_take_no {l : List Bun} {p : Bun → Bool} (j : Nat) (h : ∀ q (h : q < l.length), q < j → p l[q] = false) : (l.take j).any p = false := any_of_no _ _ fun q hq => by
  rw [List.length_take] at hq
  rw [List.getElem_take]
  exact h q (by omega) (by omega)
theorem any_take_yes {l : List Bun} {p : Bun → Bool} (j q : Nat) (hq : q < l.length) (hqj : q < j) (h : p l[q] = true) : (l.take j).any p = true :=
  any_of_at _ _ q (by rw [List.length_take]; omega) (by rw [List.getElem_take]; exact h)
set_option maxHeartbeats 1600000 in
set_option maxRecDepth 100000 in
theorem qloadfault_any (l : List Bun) (vl : Value) (w : World) (h : BunsIn w vl l) :
    Calls Tryz.prog 6 #[vl] w fun e w' => e = .returned (.int .i64 (loadFault l)) ∧ Below w.heap.size w w' := by
  have HL := Lib.hid h
  have hlen : l.length * 40 ≤ 140737488355328 := h.len
  obtain ⟨lo, hlo⟩ := h.lo
  obtain ⟨A, c, rfl, hlc⟩ := hlo.form
  have HBad : Hid (∀ j, j < l.length → (∀ q, q < j → loadAt l q = 0) → loadAt l j ≠ 0 → loadFault l = loadAt l j) := Lib.hid fun j hj h0 h => firstN_at _ j h0 h _ hj
  have HGood : Hid ((∀ q, q < l.length → loadAt l q = 0) → loadFault l = 0) := Lib.hid fun h => firstN_zero _ _ h
  generalize loadFault l = F at *
  clear h hlo
  go_enter Tryz.func6, Tryz.ntmps6
  go_wp2_with fail
  go_loopw [3, 4] (fun i _ wr => ∃ j : Nat, j ≤ l.length ∧ i = .int .i64 j ∧ (∀ q, q < j → loadAt l q = 0) ∧ Below w.heap.size w wr) (fun i _ _ => l.length - (intOf i).toNat)
  case atStart => exact ⟨0, Nat.zero_le _, rfl, fun _ h => absurd h (by omega), Below.refl _ _⟩
  case round =>
    obtain ⟨j, hj, rfl, hno, hbr⟩ := hrel
    have HNo := Lib.hid hno
    have HBr := Lib.hid hbr
    have hbs := hbr.size
    clear hno hbr
    by_cases hlt : j < l.length
    · obtain ⟨b, o, V, rfl, hbl, x0, x1, hin⟩ := (HL.out.below HBr.out).bunAt j hlt
      have HIn := Lib.hid hin
      have HLd := Lib.hid (loadAt_is j hlt)
      have HRj := Lib.hid (HBad.out j hlt HNo.out)
      have HCk : Hid (∀ W, Below wr.heap.size wr W → Calls Tryz.prog 19 #[.agg #[.string l[j].tag, V]] W fun e w' => e = .returned (.int .i64 (bunFault l[j])) ∧ Below W.heap.size W w') := Lib.hid fun W hW => qbunfault_any l[j] V W (HIn.out.below hW)
      have HTags : Hid (∀ q (h : q < l.length), wr.cell? ⟨b, o + q * 2, none⟩ = some (.string l[q].tag)) := Lib.hid fun q hq => by
        obtain ⟨b', o', V', he, _, y0, _, _⟩ := (HL.out.below HBr.out).bunAt q hq
        injection he with he
        injection he with e1 e2
        subst e1; subst e2
        exact y0
      have HNoT : Hid ((∀ q (h : q < l.length), q < j → eqs l[q].tag l[j].tag = false) → (l.take j).any (fun b => eqs b.tag l[j].tag) = false) := Lib.hid fun h => any_take_no j h
      have HYesT : Hid (∀ q (h : q < l.length), q < j → eqs l[q].tag l[j].tag = true → (l.take j).any (fun b => eqs b.tag l[j].tag) = true) := Lib.hid fun q h1 h2 h => any_take_yes j q h1 h2 h
      obtain ⟨A4, c4, hV, _⟩ := (Classical.choose_spec hin.lo).form
      subst hV
      generalize (l.take j).any (fun b => eqs b.tag l[j].tag) = dup at *
      generalize hB : l[j] = B at *
      clear hin HIn
      obtain ⟨bt, bl⟩ := B
      dsimp only at x0 x1 HCk HLd HNoT HYesT
      generalize bunFault ⟨bt, bl⟩ = bf at *
      go_wp2_with fail
      refine (HCk.out _ (Below.refl _ _)).mono ?_
      rintro e w1 ⟨rfl, hb1⟩
      have HB1 := Lib.hid hb1
      have hs1 := hb1.size
      have x0' : w1.cell? ⟨b, o + j * 2, none⟩ = some (.string bt) := (hb1.cell (p := ⟨b, o + j * 2, none⟩) hbl).trans x0
      have x1' : w1.cell? ⟨b, o + j * 2 + 1, none⟩ = some (.slice A4 bl.length c4) := (hb1.cell (p := ⟨b, o + j * 2 + 1, none⟩) hbl).trans x1
      clear hb1 x0 x1
      by_cases hf : bf = 0
      · rw [if_pos hf] at HLd
        subst hf
        clear HCk
        go_wp2_with fail
        obtain ⟨wo, rfl⟩ : ∃ wo : World, wo = wr := ⟨_, rfl⟩
        go_loopw [4] (fun k wr => ∃ q : Nat, q ≤ j ∧ k = .int .i64 q ∧ (∀ p (h : p < l.length), p < q → eqs l[p].tag bt = false) ∧ ∃ n, wr = w1.drewN n) (fun k _ => j - (intOf k).toNat)
        case atStart => exact ⟨0, Nat.zero_le _, rfl, fun _ _ h => absurd h (by omega), 0, rfl⟩
        case round =>
          obtain ⟨q, hq, rfl, hnq, n, rfl⟩ := hrel
          have HNq := Lib.hid hnq
          clear hnq
          by_cases hqj : q < j
          · have hql : q < l.length := by omega
            have y0 : w1.cell? ⟨b, o + q * 2, none⟩ = some (.string l[q].tag) := (HB1.out.cell (p := ⟨b, o + q * 2, none⟩) hbl).trans (HTags.out q hql)
            have i1 : (0 : Int) ≤ (q : Int) := Int.natCast_nonneg q
            have i2 : (q : Int) < (l.length : Int) := by omega
            have i3 : (0 : Int) ≤ (j : Int) := Int.natCast_nonneg j
            have i4 : (j : Int) < (l.length : Int) := by omega
            have HYq := Lib.hid (HYesT.out q hql hqj)
            cases he : (l[q].tag.toList == bt.toList) with
            | true =>
              have HD : Hid (dup = true) := Lib.hid (HYq.out he)
              have HR := Lib.hid (HRj.out (by rw [HLd.out, HD.out]; decide))
              rw [HLd.out, HD.out] at HR
              go_wp2_with fail
              go_quiet (fail)
              go_wp2_with fail
              go_ret
              exact ⟨by rw [HR.out]; rfl, by first | exact below_drewN (HBr.out.trans (HB1.out.mono hbs)) _ | exact below_drewN (below_drewN (HBr.out.trans (HB1.out.mono hbs)) _) _⟩
            | false =>
              have HE := Lib.hid he
              go_wp2_with fail
              go_quiet (fail)
              go_wp2_with fail
              go_roundw
              case rel => exact ⟨q + 1, by omega, by go_num, step_no l (fun x => eqs x.tag bt) q HNq.out (fun _ => HE.out), _, by first | rfl | rw [World.drewN_drewN]⟩
              case measure => simp [intOf]; omega
          · obtain rfl : q = j := by omega
            have HD : Hid (dup = false) := Lib.hid (HNoT.out HNq.out)
            go_wp2_with fail
            exact ⟨⟨q + 1, by omega, by go_num, fun p hp => by
              rcases Nat.lt_or_eq_of_le (Nat.le_of_lt_succ hp) with h | h
              · exact HNo.out p h
              · subst h; rw [HLd.out, HD.out]; rfl, below_drewN (HBr.out.trans (HB1.out.mono hbs)) _⟩, by simp [intOf]; omega⟩
      · rw [if_neg hf] at HLd
        have HR := Lib.hid (HRj.out (by rw [HLd.out]; exact hf))
        rw [HLd.out] at HR
        have HC2 := Lib.hid (HCk.out w1 HB1.out)
        clear HLd HRj HCk
        go_wp2_with fail
        refine HC2.out.mono ?_
        rintro e w2 ⟨rfl, hb2⟩
        have HB2 := Lib.hid hb2
        clear hb2
        go_wp2_with fail
        go_ret
        exact ⟨by rw [HR.out]; rfl, HBr.out.trans ((HB1.out.trans (HB2.out.mono hs1)).mono hbs)⟩
    · obtain rfl : j = l.length := by omega
      have HR := Lib.hid (HGood.out HNo.out)
      go_wp2_with fail
      go_ret
      exact ⟨by rw [HR.out]; rfl, HBr.out⟩
/-- The place that FindIn tells. -/
def findI (l : List Bun) (t : Tg) (key : ByteArray) : Int := match findChain l t key with | some (_, i, _) => (i : Int) | none => -1
structure SeeksI (l : List Bun) (key : ByteArray) (C : List Tg) (F : Int) : Prop where
  hit : ∀ k (hk : k < C.length), (∀ q, q < k → tagAt l C key q = none) → ∀ i, i < l.length → (∀ q, q < i → hitAt l (tagText C[k]) key q = none) → ∀ s, hitAt l (tagText C[k]) key i = some s → F = i
  miss : ∀ k (hk : k < C.length), (∀ q, q < l.length → hitAt l (tagText C[k]) key q = none) → tagAt l C key k = none
  none : (∀ k, k < C.length → tagAt l C key k = none) → F = -1
theorem seeksI_chain (l : List Bun) (t : Tg) (key : ByteArray) : SeeksI l key (chainEn t) (findI l t key) := by
  refine ⟨fun k hk h0 i hi h1 s hs => ?_, fun k hk h0 => ?_, fun h => ?_⟩
  · have h2 : tagAt l (chainEn t) key k = some (i, s) := by
      rw [tagAt_is k hk]
      exact firstS_at _ i s h1 hs _ hi
    have h3 : findChain l t key = some (k, i, s) := firstS_at _ k _ h0 h2 _ hk
    unfold findI; rw [h3]
  · rw [tagAt_is k hk]
    exact firstS_none _ _ h0
  · have h3 : findChain l t key = Option.none := firstS_none _ _ h
    unfold findI; rw [h3]
theorem chainTags {w' : World} {base lo hi lo' hi' : Nat} {u : Value} {ps : List (Tg × Value)} (hown : w'.ownsRow base 36 4 u ps.length (flatT ps)) (hvs : ∀ p ∈ ps, ListOk Enc.str w' lo hi p.2 p.1.vars) (h1 : lo' ≤ base) (h2 : lo' ≤ lo) (h3 : hi ≤ hi') (h4 : w'.heap.size ≤ hi') :
    ListOk Enc.tag w' lo' hi' u (ps.map Prod.fst) := by
  have e1 : ps.length = (ps.map Prod.fst).length := by simp
  rw [e1] at hown
  refine ListOk.of_own (E := Enc.tag) hown h1 h4 fun i hl => ?_
  have hl' : i < ps.length := by simpa using hl
  refine ⟨ps[i].2, ?_, ?_⟩
  · rw [show Enc.tag.sz = 4 from rfl, flatT_at ps i hl']; simp [tagCells]
  rw [List.getElem_map]
  exact (hvs _ (List.getElem_mem hl')).mono Enc.str_laws h2 h3

set_option maxHeartbeats 3200000 in
set_option maxRecDepth 100000 in
theorem findin_any (l : List Bun) (vl : Value) (t : Tg) (v : Value) (key : ByteArray) (w : World) (lo : Nat) (h : BunsIn w vl l) (hf : tagFault t = 0) (hv : ListOk Enc.str w lo w.heap.size v t.vars) :
    Calls Tryz.prog 9 #[vl, .agg #[.string t.lang, .string t.script, .string t.region, v], .string key] w fun e w' => e = .returned (.int .i64 (findI l t key)) ∧ Below w.heap.size w w' := by
  have HL := Lib.hid h
  have hlen : l.length * 40 ≤ 140737488355328 := h.len
  obtain ⟨lo1, hlo⟩ := h.lo
  obtain ⟨A, c, rfl, hlc⟩ := hlo.form
  have HSk := Lib.hid (seeksI_chain l t key)
  have hsm := small_of hf
  have HSm : Hid (∀ x ∈ chainEn t, Small x) := Lib.hid fun x hx => by
    rcases List.mem_append.1 hx with h | h
    · exact small_chain hsm x h
    · rw [List.mem_singleton.1 h]; exact small_en
  have hc6 := chain_six hsm
  have hdg : deg t ≤ 100 := by have := hsm.len; unfold deg; split <;> split <;> omega
  have HCE : Hid (chainEn t = chainOf t ++ [enTg]) := Lib.hid rfl
  have HC : Hid (∀ W, Below w.heap.size w W → Calls Tryz.prog 25 #[.agg #[.string t.lang, .string t.script, .string t.region, v]] W fun e w' => Below W.heap.size W w' ∧ ∃ u ps, e = .returned u ∧ ps.map Prod.fst = chainOf t ∧ w'.ownsRow W.heap.size 36 4 u ps.length (flatT ps) ∧ ∀ p ∈ ps, ListOk Enc.str W lo w.heap.size p.2 p.1.vars) := Lib.hid fun W hW =>
    rchain_any 100 t v W lo w.heap.size hdg (Nat.le_refl _) hW.size (hv.below Enc.str_laws hW)
  obtain ⟨A7, c7, rfl, _⟩ := hv.form
  generalize chainEn t = CE at *
  generalize chainOf t = CO at HCE hc6 HC
  generalize findI l t key = F at *
  clear h hlo hf hv hsm hdg
  obtain ⟨tl, ts, tr, tv⟩ := t
  dsimp only at HC ⊢
  go_enter Tryz.func9, Tryz.ntmps9
  go_wp2_with fail
  refine (HC.out _ ((Below.refl _ _).alloc (Nat.le_refl _) _)).mono ?_
  clear HC
  rintro e w2 ⟨hb2, u, ps, rfl, hps, hown, hvs⟩
  have hb2w : Below w.heap.size w w2 := ((Below.refl w.heap.size w).alloc (Nat.le_refl _) _).trans (hb2.mono (by simp))
  simp only [World.size_alloc] at hown
  have hbase : w.heap.size + 1 ≤ w2.heap.size := by have := hb2.size; simpa using this
  obtain ⟨B7, d7, rfl, _⟩ := own_slice hown
  have hpl : ps.length ≤ 6 := by have := congrArg List.length hps; simp at this; omega
  have hnX : ∀ q u, ([Value.string ⟨#[101, 110]⟩, .string ⟨#[]⟩, .string ⟨#[]⟩, .slice none 0 0] : List Value)[q]? = some u → (w2.alloc (.cells #[.string ⟨#[101, 110]⟩, .string ⟨#[]⟩, .string ⟨#[]⟩, .slice none 0 0] 36)).cell? ⟨w2.heap.size, 0 + q, none⟩ = some u := fun q u hq => by
    rw [Nat.zero_add, (Blk.new w2 36 #[.string ⟨#[101, 110]⟩, .string ⟨#[]⟩, .string ⟨#[]⟩, .slice none 0 0]).cell q]; simpa using hq
  have hba : Below w2.heap.size w2 (w2.alloc (.cells #[.string ⟨#[101, 110]⟩, .string ⟨#[]⟩, .string ⟨#[]⟩, .slice none 0 0] 36)) := (Below.refl _ _).alloc (Nat.le_refl _) _
  have HO3 := Lib.hid (own_below hown hba (Nat.le_refl _))
  have HnX := Lib.hid hnX
  have HPs := Lib.hid hps
  have HVs : Hid (∀ W, Below w2.heap.size w2 W → ∀ p ∈ ps, ListOk Enc.str W lo w.heap.size p.2 p.1.vars) := Lib.hid fun W hW p hp => (hvs p hp).keep Enc.str_laws ((Alk.of_below (hb2.mono (by simp))).trans ((Alk.of_below hW).mono (Nat.le_refl _) (by omega)))
  have HB2 := Lib.hid hb2w
  have hs2 := hb2w.size
  clear hb2 hb2w hown hvs hps hnX hba
  go_wp2_with (at_builtin; refine wpList_append_any rfl _ _ 50 rfl (w.heap.size + 1) 36 Tryz.underlying50 info_tag rfl (by decide) (flatT ps) rfl HO3.out [.string ⟨#[101, 110]⟩, .string ⟨#[]⟩, .string ⟨#[]⟩, .slice none 0 0] rfl rfl (.inr ⟨_, _, rfl, HnX.out⟩) (by simp [Value.oneCell']) (by unfold maxLen; omega) (by omega) (by simp; omega) ?_)
  intro v4 w4 hown4 hgrow4 _
  have hb4 : Below w2.heap.size w2 (w2.alloc (.cells #[.string ⟨#[101, 110]⟩, .string ⟨#[]⟩, .string ⟨#[]⟩, .slice none 0 0] 36)) := (Below.refl _ _).alloc (Nat.le_refl _) _
  have hb4w : Below w.heap.size w w4 := (HB2.out.trans (hb4.mono hs2)).grown hgrow4 (by simp; omega) (fun k hk => by have := (own_lt HO3.out hk).1; omega)
  have hl4 : ListOk Enc.tag w4 0 w4.heap.size v4 CE := by
    have e0 : flatT ps ++ [.string ⟨#[101, 110]⟩, .string ⟨#[]⟩, .string ⟨#[]⟩, .slice none 0 0] = flatT (ps ++ [(enTg, .slice none 0 0)]) := by
      show _ = (ps ++ [(enTg, Value.slice none 0 0)]).flatMap tagCells
      rw [List.flatMap_append]; rfl
    have e1 : (ps ++ [(enTg, Value.slice none 0 0)]).map Prod.fst = CE := by rw [List.map_append, HPs.out, HCE.out]; rfl
    rw [e0] at hown4
    have h4 : Alk 0 w.heap.size (w2.alloc (.cells #[.string ⟨#[101, 110]⟩, .string ⟨#[]⟩, .string ⟨#[]⟩, .slice none 0 0] 36)) w4 := fun p _ hp => World.cell?_of_block (hgrow4.block _ (by simp; omega) (fun e => by have := (own_lt HO3.out e.symm).1; omega))
    rw [← e1]
    refine chainTags (lo := 0) (hi := w.heap.size) (by simpa using hown4) (fun p hp => ?_) (Nat.zero_le _) (Nat.zero_le _) hb4w.size (Nat.le_refl _)
    rcases List.mem_append.1 hp with h | h
    · exact ((HVs.out _ hb4 p h).mono Enc.str_laws (Nat.zero_le _) (Nat.le_refl _)).keep Enc.str_laws h4
    · rw [List.mem_singleton.1 h]; exact ListOk.nil _ _
  obtain ⟨B8, d8, rfl, _⟩ := hl4.form
  have HL4 := Lib.hid hl4
  have HB4 := Lib.hid hb4w
  have hs4 := hb4w.size
  have hcel : CE.length ≤ 7 := by rw [HCE.out]; simp; omega
  clear hown4 hgrow4 hb4 hb4w hl4 HO3 HnX HPs HVs HCE HB2
  go_wp2_with fail
  go_loopw [8, 9] (fun i _ wr => ∃ k : Nat, k ≤ CE.length ∧ i = .int .i64 k ∧ (∀ q, q < k → tagAt l CE key q = none) ∧ Below w4.heap.size w4 wr) (fun i _ _ => CE.length - (intOf i).toNat)
  case atStart => exact ⟨0, Nat.zero_le _, rfl, fun _ h => absurd h (by omega), Below.refl _ _⟩
  case round =>
    obtain ⟨k, hk, rfl, hno, hbr⟩ := hrel
    have HNo := Lib.hid hno
    have HBr := Lib.hid hbr
    have hbs := hbr.size
    clear hno hbr
    by_cases hkl : k < CE.length
    · obtain ⟨b8, o8, V8, rfl, _, p8, x0, x1, x2, x3, xl8⟩ := (HL4.out.below Enc.tag_laws HBr.out).tagAt k hkl
      have hsx := HSm.out _ (List.getElem_mem hkl)
      have HHit := Lib.hid (HSk.out.hit k hkl HNo.out)
      have HMiss := Lib.hid (HSk.out.miss k hkl)
      generalize CE[k] = X at *
      obtain ⟨A9, c9, rfl, _⟩ := xl8.form
      have HTx : Hid (∀ W, Below wr.heap.size wr W → Calls Tryz.prog 20 #[.agg #[.string X.lang, .string X.script, .string X.region, .slice A9 X.vars.length c9]] W fun e w' => e = .returned (.string (tagText X)) ∧ Below W.heap.size W w') := Lib.hid fun W hW =>
        rtext_any X _ W 0 ((xl8.keep Enc.str_laws (Alk.mono (Alk.of_below hW) (Nat.zero_le _) hbs)).mono Enc.str_laws (Nat.le_refl _) (by have := hW.size; omega)) (by have := hsx.len; omega) (by have := small_text hsx; omega)
      generalize tagText X = TX at *
      obtain ⟨xl, xs, xr, xv⟩ := X
      dsimp only at x0 x1 x2 x3 HTx
      have h8l : b8 < wr.heap.size := by omega
      have hk0 : (0 : Int) ≤ (k : Int) := Int.natCast_nonneg k
      have hk1 : (k : Int) < (CE.length : Int) := by omega
      clear xl8 hsx
      go_wp2_with fail
      obtain ⟨wo, rfl⟩ : ∃ wo : World, wo = wr := ⟨_, rfl⟩
      go_loopw [9] (fun i wr => ∃ j : Nat, j ≤ l.length ∧ i = .int .i64 j ∧ (∀ q, q < j → hitAt l TX key q = none) ∧ Below wo.heap.size wo wr) (fun i _ => l.length - (intOf i).toNat)
      case atStart => exact ⟨0, Nat.zero_le _, rfl, fun _ h => absurd h (by omega), Below.refl _ _⟩
      case round =>
        obtain ⟨j, hj, rfl, hno, hbr⟩ := hrel
        have HNo3 := Lib.hid hno
        have HBr3 := Lib.hid hbr
        have hbs3 := hbr.size
        clear hno hbr
        by_cases hjl : j < l.length
        · have HBw3 := Lib.hid (HB4.out.trans ((HBr.out.trans (HBr3.out.mono hbs)).mono hs4))
          obtain ⟨b, o, V, rfl, hbl, y0, y1, hin⟩ := (HL.out.below HBw3.out).bunAt j hjl
          have HIx := Lib.hid (hit_idx (nm := TX) (key := key) j hjl)
          have HHitj := Lib.hid (HHit.out j hjl HNo3.out)
          obtain ⟨elo, hel⟩ := hin.lo
          have hbll := hin.len
          obtain ⟨A10, c10, rfl, _⟩ := hel.form
          have HEn : Hid (∀ W, Below wr.heap.size wr W → Calls Tryz.prog 10 #[.slice A10 l[j].ents.length c10, .string key] W fun e w' => e = .returned (.int .i64 (idxI (entIdx l[j].ents key))) ∧ W = w') := Lib.hid fun W hW =>
            entat_any _ _ key elo wr.heap.size W (hel.below Enc.ent_laws hW) (by omega)
          have HLt : Hid (∀ k, entIdx l[j].ents key = some k → k < l[j].ents.length) := Lib.hid fun k hk => entIdx_lt hk
          generalize l[j] = B at *
          clear hel hin
          obtain ⟨bt, bl⟩ := B
          dsimp only at y0 y1 HIx HEn HLt hbll
          have z0 : wr.cell? ⟨b8, o8 + k * 4, none⟩ = some (.string xl) := (HBr3.out.cell (p := ⟨b8, o8 + k * 4, none⟩) h8l).trans x0
          have z1 : wr.cell? ⟨b8, o8 + k * 4 + 1, none⟩ = some (.string xs) := (HBr3.out.cell (p := ⟨b8, o8 + k * 4 + 1, none⟩) h8l).trans x1
          have z2 : wr.cell? ⟨b8, o8 + k * 4 + 2, none⟩ = some (.string xr) := (HBr3.out.cell (p := ⟨b8, o8 + k * 4 + 2, none⟩) h8l).trans x2
          have z3 : wr.cell? ⟨b8, o8 + k * 4 + 3, none⟩ = some (.slice A9 xv.length c9) := (HBr3.out.cell (p := ⟨b8, o8 + k * 4 + 3, none⟩) h8l).trans x3
          have hj0 : (0 : Int) ≤ (j : Int) := Int.natCast_nonneg j
          have hj1 : (j : Int) < (l.length : Int) := by omega
          have h8r : b8 < wr.heap.size := by omega
          have HTn := Lib.hid (HTx.out _ HBr3.out.drew)
          have hz0 : Hid ((entIdx bl key = none → idxI (entIdx bl key) = -1) ∧ ∀ k, entIdx bl key = some k → idxI (entIdx bl key) = (k : Int)) := Lib.hid ⟨fun h => by rw [h]; rfl, fun k h => by rw [h]; rfl⟩
          generalize entIdx bl key = ix at *
          generalize idxI ix = z at *
          cases hkk : (bt.toList == TX.toList) with
          | false =>
            have HK : Hid (hitAt l TX key j = none) := Lib.hid (by
              rw [HIx.out, if_neg]
              show ¬ eqs bt TX = true
              unfold eqs; rw [hkk]; simp)
            go_wp2_with fail
            refine wp_region_held_drew (S := fun w' => w'.cell? ⟨b, o + j * 2, none⟩ = some (.string bt) ∧ w'.cell? ⟨b, o + j * 2 + 1, none⟩ = some (.slice A10 bl.length c10) ∧ w'.cell? ⟨b8, o8 + k * 4, none⟩ = some (.string xl) ∧ w'.cell? ⟨b8, o8 + k * 4 + 1, none⟩ = some (.string xs) ∧ w'.cell? ⟨b8, o8 + k * 4 + 2, none⟩ = some (.string xr) ∧ w'.cell? ⟨b8, o8 + k * 4 + 3, none⟩ = some (.slice A9 xv.length c9)) (by kernel_rfl) ?_ (fun hHeld => ?_)
            · exact ⟨y0, y1, z0, z1, z2, z3⟩
            refine wpAnyH_take (i := 0) (v := ?_) (by simp only [List.getElem?_toArray, List.getElem?_cons_succ, List.getElem?_cons_zero]; rfl) (by kernel_rfl) (by kernel_rfl) (by kernel_rfl) (fun _ _ _ h => by exact h) (Or.inl ⟨by rfl, ?_⟩) (by assumption) ?_
            rotate_left
            · intro w hSw; (try dsimp only at hSw); go_simp; (try with_reducible rfl)
            try simp only [Act.put, List.setIfInBounds_toArray, List.set_cons_zero, List.set_cons_succ]
            refine wpAnyH_take (i := 1) (v := ?_) (by simp only [List.getElem?_toArray, List.getElem?_cons_succ, List.getElem?_cons_zero]; rfl) (by kernel_rfl) (by kernel_rfl) (by kernel_rfl) (fun _ _ _ h => by exact h) (Or.inl ⟨by rfl, ?_⟩) (by assumption) ?_
            rotate_left
            · intro w hSw; (try dsimp only at hSw); go_simp; (try with_reducible rfl)
            try simp only [Act.put, List.setIfInBounds_toArray, List.set_cons_zero, List.set_cons_succ]
            refine wpAnyH_take (i := 2) (v := ?_) (by simp only [List.getElem?_toArray, List.getElem?_cons_succ, List.getElem?_cons_zero]; rfl) (by kernel_rfl) (by kernel_rfl) (by kernel_rfl) (fun _ _ _ h => by exact h) (Or.inl ⟨by rfl, ?_⟩) (by assumption) ?_
            rotate_left
            · intro w hSw; (try dsimp only at hSw); go_simp; (try with_reducible rfl)
            try simp only [Act.put, List.setIfInBounds_toArray, List.set_cons_zero, List.set_cons_succ]
            refine wpAnyH_take (i := 3) (v := ?_) (by simp only [List.getElem?_toArray, List.getElem?_cons_succ, List.getElem?_cons_zero]; rfl) (by kernel_rfl) (by kernel_rfl) (by kernel_rfl) (fun _ _ _ h => by exact h) (Or.inl ⟨by rfl, ?_⟩) (by assumption) ?_
            rotate_left
            · intro w hSw; (try dsimp only at hSw); go_simp; (try with_reducible rfl)
            try simp only [Act.put, List.setIfInBounds_toArray, List.set_cons_zero, List.set_cons_succ]
            refine wpAnyH_take (i := 4) (v := ?_) (by simp only [List.getElem?_toArray, List.getElem?_cons_succ, List.getElem?_cons_zero]; rfl) (by kernel_rfl) (by kernel_rfl) (by kernel_rfl) (fun _ _ _ h => by exact h) (Or.inl ⟨by rfl, ?_⟩) (by assumption) ?_
            rotate_left
            · intro w hSw; (try dsimp only at hSw); go_simp; (try with_reducible rfl)
            try simp only [Act.put, List.setIfInBounds_toArray, List.set_cons_zero, List.set_cons_succ]
            refine wpAnyH_take (i := 5) (v := ?_) (by simp only [List.getElem?_toArray, List.getElem?_cons_succ, List.getElem?_cons_zero]; rfl) (by kernel_rfl) (by kernel_rfl) (by kernel_rfl) (fun _ _ _ h => by exact h) (Or.inl ⟨by rfl, ?_⟩) (by assumption) ?_
            rotate_left
            · intro w hSw; (try dsimp only at hSw); go_simp; (try with_reducible rfl)
            try simp only [Act.put, List.setIfInBounds_toArray, List.set_cons_zero, List.set_cons_succ]
            refine wpAnyH_take (i := 6) (v := ?_) (by simp only [List.getElem?_toArray, List.getElem?_cons_succ, List.getElem?_cons_zero]; rfl) (by kernel_rfl) (by kernel_rfl) (by kernel_rfl) (fun _ _ _ h => by exact h) (Or.inl ⟨by rfl, ?_⟩) (by assumption) ?_
            rotate_left
            · intro w hSw; (try dsimp only at hSw); go_simp; (try with_reducible rfl)
            try simp only [Act.put, List.setIfInBounds_toArray, List.set_cons_zero, List.set_cons_succ]
            refine wpAnyH_take (i := 7) (v := ?_) (by simp only [List.getElem?_toArray, List.getElem?_cons_succ, List.getElem?_cons_zero]; rfl) (by kernel_rfl) (by kernel_rfl) (by kernel_rfl) (fun _ _ _ h => by exact h) (Or.inl ⟨by rfl, ?_⟩) (by assumption) ?_
            rotate_left
            · intro w hSw; (try dsimp only at hSw); go_simp; (try with_reducible rfl)
            try simp only [Act.put, List.setIfInBounds_toArray, List.set_cons_zero, List.set_cons_succ]
            refine wpAnyH_take (i := 8) (v := ?_) (by simp only [List.getElem?_toArray, List.getElem?_cons_succ, List.getElem?_cons_zero]; rfl) (by kernel_rfl) (by kernel_rfl) (by kernel_rfl) (fun _ _ _ h => by exact h) (Or.inl ⟨by rfl, ?_⟩) (by assumption) ?_
            rotate_left
            · intro w hSw; (try dsimp only at hSw); go_simp; (try with_reducible rfl)
            try simp only [Act.put, List.setIfInBounds_toArray, List.set_cons_zero, List.set_cons_succ]
            refine wpAnyH_ready (rs := [9]) (by kernel_rfl) (by simp) ?_
            refine AllReadyH.cons (by simp only [List.getElem?_toArray, List.getElem?_cons_succ, List.getElem?_cons_zero]; rfl) (fun K hK => ?_) AllReadyH.nil
            rw [if_pos (by rfl)]
            go_simp
            go_at_call 20
            refine HTn.out.mono ?_
            rintro e w5 ⟨rfl, hb5⟩
            have hb5' := below_undrew hb5
            have HB5 := Lib.hid hb5'
            dsimp only
            refine hK.out _ _ ⟨(hb5'.cell (p := ⟨b, o + j * 2, none⟩) hbl).trans y0, (hb5'.cell (p := ⟨b, o + j * 2 + 1, none⟩) hbl).trans y1, (hb5'.cell (p := ⟨b8, o8 + k * 4, none⟩) h8r).trans z0, (hb5'.cell (p := ⟨b8, o8 + k * 4 + 1, none⟩) h8r).trans z1, (hb5'.cell (p := ⟨b8, o8 + k * 4 + 2, none⟩) h8r).trans z2, (hb5'.cell (p := ⟨b8, o8 + k * 4 + 3, none⟩) h8r).trans z3⟩ (fun hHeld => ?_)
            clear hK K hb5 hb5'
            try simp only [Act.put, List.setIfInBounds_toArray, List.set_cons_zero, List.set_cons_succ]
            refine wpAnyH_take (i := 10) (v := ?_) (by simp only [List.getElem?_toArray, List.getElem?_cons_succ, List.getElem?_cons_zero]; rfl) (by kernel_rfl) (by kernel_rfl) (by kernel_rfl) (fun _ _ _ h => by exact h) (Or.inl ⟨by rfl, ?_⟩) (by assumption) ?_
            rotate_left
            · intro w hSw; (try dsimp only at hSw); go_simp; (try with_reducible rfl)
            try simp only [Act.put, List.setIfInBounds_toArray, List.set_cons_zero, List.set_cons_succ]
            refine wpAnyH_take (i := 11) (v := ?_) (by simp only [List.getElem?_toArray, List.getElem?_cons_succ, List.getElem?_cons_zero]; rfl) (by kernel_rfl) (by kernel_rfl) (by kernel_rfl) (fun _ _ _ h => by exact h) (Or.inl ⟨by rfl, ?_⟩) (by assumption) ?_
            rotate_left
            · intro w hSw; (try dsimp only at hSw); go_simp; (try with_reducible rfl)
            try simp only [Act.put, List.setIfInBounds_toArray, List.set_cons_zero, List.set_cons_succ]
            refine wpAnyH_take (i := 12) (v := undef) (by simp only [List.getElem?_toArray, List.getElem?_cons_succ, List.getElem?_cons_zero]; rfl) (by kernel_rfl) (by kernel_rfl) (by kernel_rfl) (fun _ _ _ h => by exact h) (Or.inr ⟨by rfl, rfl⟩) (by assumption) ?_
            try simp only [Act.put, List.setIfInBounds_toArray, List.set_cons_zero, List.set_cons_succ]
            refine wpAnyH_take (i := 13) (v := undef) (by simp only [List.getElem?_toArray, List.getElem?_cons_succ, List.getElem?_cons_zero]; rfl) (by kernel_rfl) (by kernel_rfl) (by kernel_rfl) (fun _ _ _ h => by exact h) (Or.inr ⟨by rfl, rfl⟩) (by assumption) ?_
            try simp only [Act.put, List.setIfInBounds_toArray, List.set_cons_zero, List.set_cons_succ]
            refine wpAnyH_take (i := 14) (v := undef) (by simp only [List.getElem?_toArray, List.getElem?_cons_succ, List.getElem?_cons_zero]; rfl) (by kernel_rfl) (by kernel_rfl) (by kernel_rfl) (fun _ _ _ h => by exact h) (Or.inr ⟨by rfl, rfl⟩) (by assumption) ?_
            try simp only [Act.put, List.setIfInBounds_toArray, List.set_cons_zero, List.set_cons_succ]
            refine wpAnyH_take (i := 15) (v := undef) (by simp only [List.getElem?_toArray, List.getElem?_cons_succ, List.getElem?_cons_zero]; rfl) (by kernel_rfl) (by kernel_rfl) (by kernel_rfl) (fun _ _ _ h => by exact h) (Or.inr ⟨by rfl, rfl⟩) (by assumption) ?_
            try simp only [Act.put, List.setIfInBounds_toArray, List.set_cons_zero, List.set_cons_succ]
            refine wpAnyH_take (i := 16) (v := undef) (by simp only [List.getElem?_toArray, List.getElem?_cons_succ, List.getElem?_cons_zero]; rfl) (by kernel_rfl) (by kernel_rfl) (by kernel_rfl) (fun _ _ _ h => by exact h) (Or.inr ⟨by rfl, rfl⟩) (by assumption) ?_
            try simp only [Act.put, List.setIfInBounds_toArray, List.set_cons_zero, List.set_cons_succ]
            refine wpAnyH_take (i := 17) (v := undef) (by simp only [List.getElem?_toArray, List.getElem?_cons_succ, List.getElem?_cons_zero]; rfl) (by kernel_rfl) (by kernel_rfl) (by kernel_rfl) (fun _ _ _ h => by exact h) (Or.inr ⟨by rfl, rfl⟩) (by assumption) ?_
            try simp only [Act.put, List.setIfInBounds_toArray, List.set_cons_zero, List.set_cons_succ]
            refine wpAnyH_take (i := 18) (v := undef) (by simp only [List.getElem?_toArray, List.getElem?_cons_succ, List.getElem?_cons_zero]; rfl) (by kernel_rfl) (by kernel_rfl) (by kernel_rfl) (fun _ _ _ h => by exact h) (Or.inr ⟨by rfl, rfl⟩) (by assumption) ?_
            try simp only [Act.put, List.setIfInBounds_toArray, List.set_cons_zero, List.set_cons_succ]
            refine wpAnyH_take (i := 19) (v := undef) (by simp only [List.getElem?_toArray, List.getElem?_cons_succ, List.getElem?_cons_zero]; rfl) (by kernel_rfl) (by kernel_rfl) (by kernel_rfl) (fun _ _ _ h => by exact h) (Or.inr ⟨by rfl, rfl⟩) (by assumption) ?_
            try simp only [Act.put, List.setIfInBounds_toArray, List.set_cons_zero, List.set_cons_succ]
            refine wpAnyH_take (i := 20) (v := ?_) (by simp only [List.getElem?_toArray, List.getElem?_cons_succ, List.getElem?_cons_zero]; rfl) (by kernel_rfl) (by kernel_rfl) (by kernel_rfl) (fun _ _ _ h => by exact h) (Or.inl ⟨by rfl, ?_⟩) (by assumption) ?_
            rotate_left
            · intro w hSw; (try dsimp only at hSw); go_simp; (try with_reducible rfl)
            try simp only [Act.put, List.setIfInBounds_toArray, List.set_cons_zero, List.set_cons_succ]
            refine wpAnyH_done (by kernel_rfl) ?_ _
            clear y0 y1 z0 z1 z2 z3
            go_wp2_with fail
            go_roundw
            case rel => exact ⟨j + 1, by omega, by go_num, fun q hq => by
              rcases Nat.lt_or_eq_of_le (Nat.le_of_lt_succ hq) with h | h
              · exact HNo3.out q h
              · subst h; exact HK.out, HBr3.out.trans (HB5.out.mono hbs3)⟩
            case measure => simp [intOf]; omega
          | true =>
            have hkt : eqs bt TX = true := hkk
            cases ix with
            | none =>
              have hz : z = -1 := hz0.out.1 rfl
              subst hz
              have HK : Hid (hitAt l TX key j = none) := Lib.hid (by rw [HIx.out, if_pos hkt]; rfl)
              go_wp2_with fail
              go_region_held3 (fun w' => w'.cell? ⟨b, o + j * 2, none⟩ = some (.string bt) ∧ w'.cell? ⟨b, o + j * 2 + 1, none⟩ = some (.slice A10 bl.length c10) ∧ w'.cell? ⟨b8, o8 + k * 4, none⟩ = some (.string xl) ∧ w'.cell? ⟨b8, o8 + k * 4 + 1, none⟩ = some (.string xs) ∧ w'.cell? ⟨b8, o8 + k * 4 + 2, none⟩ = some (.string xr) ∧ w'.cell? ⟨b8, o8 + k * 4 + 3, none⟩ = some (.slice A9 xv.length c9)) (first | exact hS5 | exact ⟨y0, y1, z0, z1, z2, z3⟩)
                (first
                  | (go_at_call 20
                     refine HTn.out.mono ?_
                     rintro e w5 ⟨rfl, hb5⟩
                     have hb5' := below_undrew hb5
                     have hS5 : w5.cell? ⟨b, o + j * 2, none⟩ = some (.string bt) ∧ w5.cell? ⟨b, o + j * 2 + 1, none⟩ = some (.slice A10 bl.length c10) ∧ w5.cell? ⟨b8, o8 + k * 4, none⟩ = some (.string xl) ∧ w5.cell? ⟨b8, o8 + k * 4 + 1, none⟩ = some (.string xs) ∧ w5.cell? ⟨b8, o8 + k * 4 + 2, none⟩ = some (.string xr) ∧ w5.cell? ⟨b8, o8 + k * 4 + 3, none⟩ = some (.slice A9 xv.length c9) := ⟨(hb5'.cell (p := ⟨b, o + j * 2, none⟩) hbl).trans y0, (hb5'.cell (p := ⟨b, o + j * 2 + 1, none⟩) hbl).trans y1, (hb5'.cell (p := ⟨b8, o8 + k * 4, none⟩) h8r).trans z0, (hb5'.cell (p := ⟨b8, o8 + k * 4 + 1, none⟩) h8r).trans z1, (hb5'.cell (p := ⟨b8, o8 + k * 4 + 2, none⟩) h8r).trans z2, (hb5'.cell (p := ⟨b8, o8 + k * 4 + 3, none⟩) h8r).trans z3⟩
                     have HB5 := Lib.hid hb5'
                     clear hb5 hb5')
                  | (go_at_call 10
                     refine (HEn.out _ HB5.out).mono ?_
                     rintro e w6 ⟨rfl, rfl⟩)
                  | fail)
              clear hS5 y0 y1 z0 z1 z2 z3
              go_wp2_with fail
              go_roundw
              case rel => exact ⟨j + 1, by omega, by go_num, fun q hq => by
                rcases Nat.lt_or_eq_of_le (Nat.le_of_lt_succ hq) with h | h
                · exact HNo3.out q h
                · subst h; exact HK.out, HBr3.out.trans (HB5.out.mono hbs3)⟩
              case measure => simp [intOf]; omega
            | some k5 =>
              have hz : z = (k5 : Int) := hz0.out.2 k5 rfl
              subst hz
              have hk5 := HLt.out k5 rfl
              have HK : Hid (F = (j : Int)) := Lib.hid (HHitj.out bl[k5].text (by
                rw [HIx.out, if_pos hkt]
                show (bl[k5]?).map _ = _
                rw [List.getElem?_eq_getElem hk5]; rfl))
              go_wp2_with fail
              go_region_held3 (fun w' => w'.cell? ⟨b, o + j * 2, none⟩ = some (.string bt) ∧ w'.cell? ⟨b, o + j * 2 + 1, none⟩ = some (.slice A10 bl.length c10) ∧ w'.cell? ⟨b8, o8 + k * 4, none⟩ = some (.string xl) ∧ w'.cell? ⟨b8, o8 + k * 4 + 1, none⟩ = some (.string xs) ∧ w'.cell? ⟨b8, o8 + k * 4 + 2, none⟩ = some (.string xr) ∧ w'.cell? ⟨b8, o8 + k * 4 + 3, none⟩ = some (.slice A9 xv.length c9)) (first | exact hS5 | exact ⟨y0, y1, z0, z1, z2, z3⟩)
                (first
                  | (go_at_call 20
                     refine HTn.out.mono ?_
                     rintro e w5 ⟨rfl, hb5⟩
                     have hb5' := below_undrew hb5
                     have hS5 : w5.cell? ⟨b, o + j * 2, none⟩ = some (.string bt) ∧ w5.cell? ⟨b, o + j * 2 + 1, none⟩ = some (.slice A10 bl.length c10) ∧ w5.cell? ⟨b8, o8 + k * 4, none⟩ = some (.string xl) ∧ w5.cell? ⟨b8, o8 + k * 4 + 1, none⟩ = some (.string xs) ∧ w5.cell? ⟨b8, o8 + k * 4 + 2, none⟩ = some (.string xr) ∧ w5.cell? ⟨b8, o8 + k * 4 + 3, none⟩ = some (.slice A9 xv.length c9) := ⟨(hb5'.cell (p := ⟨b, o + j * 2, none⟩) hbl).trans y0, (hb5'.cell (p := ⟨b, o + j * 2 + 1, none⟩) hbl).trans y1, (hb5'.cell (p := ⟨b8, o8 + k * 4, none⟩) h8r).trans z0, (hb5'.cell (p := ⟨b8, o8 + k * 4 + 1, none⟩) h8r).trans z1, (hb5'.cell (p := ⟨b8, o8 + k * 4 + 2, none⟩) h8r).trans z2, (hb5'.cell (p := ⟨b8, o8 + k * 4 + 3, none⟩) h8r).trans z3⟩
                     have HB5 := Lib.hid hb5'
                     clear hb5 hb5')
                  | (go_at_call 10
                     refine (HEn.out _ HB5.out).mono ?_
                     rintro e w6 ⟨rfl, rfl⟩)
                  | fail)
              clear hS5 y0 y1 z0 z1 z2 z3
              go_wp2_with fail
              go_ret
              exact ⟨by rw [HK.out]; rfl, HB4.out.trans ((HBr.out.trans ((HBr3.out.trans (HB5.out.mono hbs3)).mono hbs)).mono hs4)⟩
        · obtain rfl : j = l.length := by omega
          have HM := Lib.hid (HMiss.out HNo3.out)
          go_wp2_with fail
          exact ⟨⟨k + 1, by omega, by go_num, fun q hq => by
            rcases Nat.lt_or_eq_of_le (Nat.le_of_lt_succ hq) with h | h
            · exact HNo.out q h
            · subst h; exact HM.out, HBr.out.trans (HBr3.out.mono hbs)⟩, by simp [intOf]; omega⟩
    · obtain rfl : k = CE.length := by omega
      have HR := Lib.hid (HSk.out.none HNo.out)
      go_wp2_with fail
      go_ret
      exact ⟨by rw [HR.out]; rfl, HB4.out.trans (HBr.out.mono hs4)⟩
end Go.Proofs.YtdmjelkjeiinjaaGreatDoor
