/- The walk of package find: In. -/
import Derived.Test.YtdmjelkjeiinjaaDoorFindC
import Derived.Test.YtdmjelkjeiinjaaDoorSame
import Derived.BigQuiet
import Derived.Deep.QuietTactic
import Derived.Deep.RegionHeld3
set_option linter.unusedSimpArgs false
set_option linter.unusedVariables false
namespace Go.Proofs.YtdmjelkjeiinjaaDoor
open Go.RowKit

theorem getD_bun {l : List Bun} {q : Nat} (h : q < l.length) : l.getD q noBun = l[q] := by rw [List.getD_eq_getElem?_getD, List.getElem?_eq_getElem h]; rfl
theorem loadAt_is {l : List Bun} (j : Nat) (hj : j < l.length) : loadAt l j = if bunFault l[j] = 0 then (if (l.take j).any (fun b => eqs b.tag l[j].tag) then 5 else 0) else bunFault l[j] := by
  unfold loadAt; rw [getD_bun hj]
theorem find_load {l : List Bun} (name key : ByteArray) (j : Nat) (hj : j < l.length) (h0 : ∀ q, q < j → loadAt l q = 0) (h : loadAt l j ≠ 0) : findIn l name key = ⟨loadAt l j, 0, ByteArray.empty⟩ := by
  have : loadFault l = loadAt l j := firstN_at _ j h0 h _ hj
  unfold findIn
  rw [this, if_neg h]
theorem find_bare {l : List Bun} (name key : ByteArray) (h0 : ∀ q, q < l.length → loadAt l q = 0) (h : isTag name = false) : findIn l name key = ⟨3, 0, ByteArray.empty⟩ := by
  have : loadFault l = 0 := firstN_zero _ _ h0
  unfold findIn
  rw [if_pos this, h]; rfl
theorem find_chain {l : List Bun} (name key : ByteArray) (h0 : ∀ q, q < l.length → loadAt l q = 0) (h : isTag name = true) {t : Tg} (ht : parseTag name = some t) :
    findIn l name key = match findChain l t key with | some (_, i, s) => ⟨0, i, s⟩ | none => ⟨2, 0, ByteArray.empty⟩ := by
  have : loadFault l = 0 := firstN_zero _ _ h0
  unfold findIn
  rw [if_pos this, if_pos h, ht]
  rfl
theorem tagAt_is {l : List Bun} {c : List Tg} {key : ByteArray} (k : Nat) (hk : k < c.length) : tagAt l c key k = findTag l (tagText c[k]) key := by
  unfold tagAt; rw [List.getElem?_eq_getElem hk]; rfl
theorem hitAt_is {l : List Bun} {nm key : ByteArray} (i : Nat) (hi : i < l.length) : hitAt l nm key i = if eqs l[i].tag nm then (l[i].ents.find? (fun e => eqs e.key key)).map (·.text) else none := by
  unfold hitAt; rw [List.getElem?_eq_getElem hi]; rfl
theorem find_at {l : List Ent} {key : ByteArray} : ∀ (m : Nat) (hm : m < l.length), (∀ q (h : q < l.length), q < m → eqs l[q].key key = false) → eqs l[m].key key = true → l.find? (fun e => eqs e.key key) = some l[m] := by
  induction l with
  | nil => intro m hm; cases hm
  | cons a r ih =>
    intro m hm h0 h1
    cases m with
    | zero => rw [List.find?_cons]; have : eqs a.key key = true := h1; rw [this]; rfl
    | succ m =>
      have ha : eqs a.key key = false := h0 0 (by simp) (by omega)
      rw [List.find?_cons, ha]
      exact ih m (by simpa using hm) (fun q hq hqm => h0 (q + 1) (by simpa using hq) (by omega)) h1
theorem find_no {l : List Ent} {key : ByteArray} (h : ∀ q (h : q < l.length), eqs l[q].key key = false) : l.find? (fun e => eqs e.key key) = none := by
  rw [List.find?_eq_none]
  intro x hx
  obtain ⟨q, hq, rfl⟩ := List.getElem_of_mem hx
  rw [h q hq]; simp
/-- What the search along a chain answers. -/
structure Seeks (l : List Bun) (key : ByteArray) (C : List Tg) (R : Found) : Prop where
  hit : ∀ k (hk : k < C.length), (∀ q, q < k → tagAt l C key q = none) → ∀ i, i < l.length → (∀ q, q < i → hitAt l (tagText C[k]) key q = none) → ∀ s, hitAt l (tagText C[k]) key i = some s → R = ⟨0, i, s⟩
  miss : ∀ k (hk : k < C.length), (∀ q, q < l.length → hitAt l (tagText C[k]) key q = none) → tagAt l C key k = none
  none : (∀ k, k < C.length → tagAt l C key k = none) → R = ⟨2, 0, ByteArray.empty⟩
theorem seeks_chain {l : List Bun} {t : Tg} {key : ByteArray} {R : Found} (hR : R = match findChain l t key with | some (_, i, s) => ⟨0, i, s⟩ | none => ⟨2, 0, ByteArray.empty⟩) : Seeks l key (chainEn t) R := by
  refine ⟨fun k hk h0 i hi h1 s hs => ?_, fun k hk h0 => ?_, fun h => ?_⟩
  · have h2 : tagAt l (chainEn t) key k = some (i, s) := by
      rw [tagAt_is k hk]
      exact firstS_at _ i s h1 hs _ hi
    have h3 : findChain l t key = some (k, i, s) := firstS_at _ k _ h0 h2 _ hk
    rw [hR, h3]
  · rw [tagAt_is k hk]
    exact firstS_none _ _ h0
  · have h3 : findChain l t key = Option.none := firstS_none _ _ h
    rw [hR, h3]
theorem small_en : Small enTg := ⟨by decide +kernel, by decide +kernel, by decide +kernel, by decide +kernel, fun v hv => by cases hv⟩

set_option maxHeartbeats 6400000 in
set_option maxRecDepth 100000 in
theorem find_any (l : List Bun) (vl : Value) (name key : ByteArray) (w : World) (h : BunsIn w vl l) (hn : name.size < 4294967281) (hm : MaxVar w) :
    Calls Tryd.prog 15 #[vl, .string name, .string key] w fun e w' => Below w.heap.size w w' ∧ e = .returned (.tuple #[.int .i64 (findIn l name key).at_, .string (findIn l name key).text, errV (findIn l name key).err]) := by
  have HL := Lib.hid h
  have HM := Lib.hid hm
  have hlen : l.length * 40 ≤ 140737488355328 := h.len
  obtain ⟨lo, hlo⟩ := h.lo
  obtain ⟨A, c, rfl, hlc⟩ := hlo.form
  obtain ⟨R, hR⟩ : ∃ R, R = findIn l name key := ⟨_, rfl⟩
  have HLoad : Hid (∀ j, j < l.length → (∀ q, q < j → loadAt l q = 0) → loadAt l j ≠ 0 → R = ⟨loadAt l j, 0, ByteArray.empty⟩) := Lib.hid fun j hj h0 h => by rw [hR]; exact find_load name key j hj h0 h
  have HBare : Hid ((∀ q, q < l.length → loadAt l q = 0) → isTag name = false → R = ⟨3, 0, ByteArray.empty⟩) := Lib.hid fun h0 h => by rw [hR]; exact find_bare name key h0 h
  have HChain : Hid ((∀ q, q < l.length → loadAt l q = 0) → isTag name = true → ∀ t, parseTag name = some t → R = match findChain l t key with | some (_, i, s) => ⟨0, i, s⟩ | none => ⟨2, 0, ByteArray.empty⟩) := Lib.hid fun h0 h t ht => by rw [hR]; exact find_chain name key h0 h ht
  rw [← hR]
  have HTg : Hid (∀ W, Below w.heap.size w W → Calls Tryd.prog 41 #[.string name] W fun e w' => e = .returned (.bool (isTag name)) ∧ Below W.heap.size W w') := Lib.hid fun W hW => propTag_any name W (hm.below hW) hn
  have HPa : Hid (∀ W, Below w.heap.size w W → Calls Tryd.prog 9 #[.string name] W fun e w' => Below W.heap.size W w' ∧
      ((parseTag name = none ∧ e = .returned (.tuple #[.agg #[.string ⟨#[]⟩, .string ⟨#[]⟩, .string ⟨#[]⟩, .slice none 0 0], errV 3])) ∨
        ∃ t v, parseTag name = some t ∧ e = .returned (.tuple #[.agg #[.string t.lang, .string t.script, .string t.region, v], .nilIface]) ∧ ListOk Enc.str w' W.heap.size w'.heap.size v t.vars)) := Lib.hid fun W hW => parse_any name W (hm.below hW) hn
  have HIs : Hid (isTag name = true → ∃ t, parseTag name = some t ∧ tagFault t = 0) := Lib.hid fun h => let ⟨t, h1, _⟩ := isTag_some h; ⟨t, h1, parse_fault h1⟩
  clear h hm hR hlo hn
  generalize isTag name = it at *
  go_enter Tryd.func15, Tryd.ntmps15
  go_wp2_with fail
  go_loopw [9, 10, 11, 23] (fun _ _ _ i wr => ∃ j : Nat, j ≤ l.length ∧ i = .int .i64 j ∧ (∀ q, q < j → loadAt l q = 0) ∧ Below w.heap.size w wr) (fun _ _ _ i _ => l.length - (intOf i).toNat)
  case atStart => exact ⟨0, Nat.zero_le _, rfl, fun _ h => absurd h (by omega), Below.refl _ _⟩
  case round =>
    obtain ⟨j, hj, rfl, hno, hbr⟩ := hrel
    have HNo := Lib.hid hno
    have HBr := Lib.hid hbr
    have hbs := hbr.size
    clear hno hbr
    by_cases hlt : j < l.length
    · have hbw := HL.out.below HBr.out
      have HBw := Lib.hid hbw
      obtain ⟨b, o, V, rfl, hbl, x0, x1, hin⟩ := hbw.bunAt j hlt
      have HIn := Lib.hid hin
      have HLd := Lib.hid (loadAt_is j hlt)
      have HRj := Lib.hid (HLoad.out j hlt HNo.out)
      have HCf : Hid (∀ W, Below wr.heap.size wr W → W.cell? ⟨wr.heap.size, 0, none⟩ = some (.string l[j].tag) → wr.heap.size < W.heap.size → Calls Tryd.prog 39 #[.slice (some ⟨b, o, none⟩) j c, .func (.func 40) #[] #[.pointer (some ⟨wr.heap.size, 0, none⟩)]] W fun e w' => e = .returned (.bool ((l.take j).any (fun b => eqs b.tag l[j].tag))) ∧ Below W.heap.size W w') := Lib.hid fun W hW hc hlt' =>
        contains_any l _ _ c W (HBw.out.below hW) j hlt l[j].tag wr.heap.size hc hlt'
      have HCk : Hid (∀ W, Below wr.heap.size wr W → Calls Tryd.prog 38 #[.agg #[.string l[j].tag, V]] W fun e w' => e = .returned (errV (bunFault l[j])) ∧ Below W.heap.size W w') := Lib.hid fun W hW => bunCheck_any l[j] V W (HIn.out.below hW) ((HM.out.below HBr.out).below hW)
      obtain ⟨A4, c4, hV, _⟩ := (Classical.choose_spec hin.lo).form
      subst hV
      have hjl : (j : Int) ≤ (l.length : Int) := by omega
      generalize (l.take j).any (fun b => eqs b.tag l[j].tag) = dup at *
      generalize l[j] = B at *
      clear hbw hin HIn
      obtain ⟨bt, bl⟩ := B
      dsimp only at x0 x1 HCf HCk HLd
      generalize bunFault ⟨bt, bl⟩ = bf at *
      go_wp2_with fail
      refine (HCk.out _ ((Below.refl _ _).alloc (Nat.le_refl _) _)).mono ?_
      clear HCk
      rintro e w1 ⟨rfl, hb1⟩
      have hb1w : Below wr.heap.size wr w1 := ((Below.refl wr.heap.size wr).alloc (Nat.le_refl _) _).trans (hb1.mono (by simp))
      have HB1 := Lib.hid hb1w
      have m1 : Blk w1 wr.heap.size 46 #[.string bt, .slice A4 bl.length c4] := (Blk.new _ _ _).below hb1 (by simp)
      have HCf1 := Lib.hid (HCf.out w1 hb1w (by simpa using m1.cell 0) m1.lt)
      have hs1 := hb1w.size
      clear hb1 hb1w m1 HCf x0 x1
      by_cases hf : bf = 0
      · rw [if_pos hf] at HLd
        subst hf
        rw [errV_zero]
        go_wp2_with fail
        refine HCf1.out.mono ?_
        clear HCf1
        rintro e w2 ⟨rfl, hb2⟩
        have HB2 := Lib.hid (HBr.out.trans ((HB1.out.trans (hb2.mono hs1)).mono hbs))
        clear hb2
        cases dup with
        | true =>
          have HR := Lib.hid (HRj.out (by rw [HLd.out]; decide))
          rw [HLd.out] at HR
          go_wp2_with fail
          go_ret3
          exact ⟨HB2.out, by rw [HR.out]; rfl⟩
        | false =>
          go_wp2_with fail
          exact ⟨⟨j + 1, by omega, by go_num, fun q hq => by
            rcases Nat.lt_or_eq_of_le (Nat.le_of_lt_succ hq) with h | h
            · exact HNo.out q h
            · subst h; rw [HLd.out]; rfl, HB2.out⟩, by simp [intOf]; omega⟩
      · rw [if_neg hf] at HLd
        have HR := Lib.hid (HRj.out (by rw [HLd.out]; exact hf))
        rw [HLd.out] at HR
        have HE := Lib.hid (errV_ne hf)
        rw [errV_ne hf]
        clear hf HLd HRj HCf1
        go_wp2_with fail
        go_ret3
        exact ⟨HBr.out.trans (HB1.out.mono hbs), by rw [HR.out, HE.out]; rfl⟩
    · obtain rfl : j = l.length := by omega
      have HBare' := Lib.hid (HBare.out HNo.out)
      have HChain' := Lib.hid (HChain.out HNo.out)
      clear HBare HChain HLoad HNo
      go_wp2_with fail
      refine (HTg.out _ HBr.out).mono ?_
      clear HTg
      rintro e w1 ⟨rfl, hb1⟩
      have HB1 := Lib.hid (HBr.out.trans (hb1.mono hbs))
      have hs1 := HB1.out.size
      clear hb1
      cases it with
      | false =>
        have HR := Lib.hid (HBare'.out rfl)
        go_wp2_with fail
        go_ret3
        exact ⟨HB1.out, by rw [HR.out]; rfl⟩
      | true =>
        have HCh := Lib.hid (HChain'.out rfl)
        obtain ⟨t, ht, hf⟩ := HIs.out rfl
        have HR := Lib.hid (HCh.out t ht)
        clear HCh HChain' HBare' HIs
        go_wp2_with fail
        refine (HPa.out _ HB1.out).mono ?_
        clear HPa
        rintro e w2 ⟨hb2, ⟨hn, _⟩ | ⟨t', v, ht', rfl, hvl⟩⟩
        · rw [ht] at hn; cases hn
        · obtain rfl : t = t' := by rw [ht] at ht'; injection ht'
          have HSk := Lib.hid (seeks_chain HR.out)
          have hsm := small_of hf
          have HSm : Hid (∀ x ∈ chainEn t, Small x) := Lib.hid fun x hx => by
            rcases List.mem_append.1 hx with h | h
            · exact small_chain hsm x h
            · rw [List.mem_singleton.1 h]; exact small_en
          have hc6 := chain_six hsm
          have HCE : Hid (chainEn t = chainOf t ++ [enTg]) := Lib.hid rfl
          have HC : Hid (∀ W, Below w2.heap.size w2 W → Calls Tryd.prog 8 #[.agg #[.string t.lang, .string t.script, .string t.region, v]] W fun e w' => Below W.heap.size W w' ∧ ∃ u, e = .returned (.tuple #[u, .nilIface]) ∧ TagRow W.heap.size w' u (chainOf t)) := Lib.hid fun W hW =>
            chain_ok (t, v) W (small_in hsm ((hvl.below Enc.str_laws hW).mono Enc.str_laws (Nat.le_refl _) hW.size)) hf
          have HB2 := Lib.hid (HB1.out.trans (hb2.mono hs1))
          have hs2 := HB2.out.size
          obtain ⟨A7, c7, rfl, _⟩ := hvl.form
          generalize chainEn t = CE at *
          generalize chainOf t = CO at *
          obtain ⟨tl, ts, tr, tv⟩ := t
          dsimp only at HC ⊢
          clear hb2 hvl ht hf hsm HR
          go_wp2_with fail
          refine (HC.out _ ((Below.refl _ _).alloc (Nat.le_refl _) _)).mono ?_
          clear HC
          rintro e w3 ⟨hb3, u, rfl, ps, hps, hrow⟩
          have hb3w : Below w2.heap.size w2 w3 := ((Below.refl w2.heap.size w2).alloc (Nat.le_refl _) _).trans (hb3.mono (by simp))
          have HB3 := Lib.hid (HB2.out.trans (hb3w.mono hs2))
          have hs3 := HB3.out.size
          simp only [World.size_alloc] at hrow
          have hbase3 : w2.heap.size + 1 ≤ w3.heap.size := by have := hb3.size; simpa using this
          obtain ⟨B7, d7, rfl, _⟩ := own_slice hrow.own
          have hpl : ps.length ≤ 6 := by have := congrArg List.length hps; simp at this; omega
          have hr3 := hrow.keep (w' := w3.alloc (.cells #[.string ⟨#[101, 110]⟩, .string ⟨#[]⟩, .string ⟨#[]⟩, .slice none 0 0] 24)) fun g _ hg => Below.heap_alloc _ _ _ hg
          have hnX : ∀ q u, ([Value.string ⟨#[101, 110]⟩, .string ⟨#[]⟩, .string ⟨#[]⟩, .slice none 0 0] : List Value)[q]? = some u → (w3.alloc (.cells #[.string ⟨#[101, 110]⟩, .string ⟨#[]⟩, .string ⟨#[]⟩, .slice none 0 0] 24)).cell? ⟨w3.heap.size, 0 + q, none⟩ = some u := fun q u hq => by
            rw [Nat.zero_add, (Blk.new w3 24 #[.string ⟨#[101, 110]⟩, .string ⟨#[]⟩, .string ⟨#[]⟩, .slice none 0 0]).cell q]; simpa using hq
          have HR3 := Lib.hid hr3
          have HnX := Lib.hid hnX
          have HPs := Lib.hid hps
          clear hb3 hb3w hrow hr3 hnX hps
          go_wp2_with (at_builtin; refine wpList_append_any rfl _ _ 25 rfl (w2.heap.size + 1) 24 Tryd.underlying25 info_tag rfl (by decide) (flatT ps) rfl HR3.out.own [.string ⟨#[101, 110]⟩, .string ⟨#[]⟩, .string ⟨#[]⟩, .slice none 0 0] rfl rfl (.inr ⟨_, _, rfl, HnX.out⟩) (by simp [Value.oneCell']) (by unfold maxLen; omega) (by omega) (by simp; omega) ?_)
          intro v4 w4 hown hgrow _
          have hq1 : VarRow (w2.heap.size + 1) (w3.alloc (.cells #[.string ⟨#[101, 110]⟩, .string ⟨#[]⟩, .string ⟨#[]⟩, .slice none 0 0] 24)) (enTg, .slice none 0 0) := own_nil
          have hr4 := Rowed.push HR3.out hq1 (fun p _ h => absurd h (by simp [enTg])) hgrow hown
          have hl4 := hr4.list (lo := 0) (hi := w4.heap.size) (Nat.zero_le _) (Nat.le_refl _)
          have hce : (ps ++ [(enTg, Value.slice none 0 0)]).map Prod.fst = CE := by rw [List.map_append, HPs.out, HCE.out]; rfl
          rw [hce] at hl4
          obtain ⟨B8, d8, rfl, _⟩ := hl4.form
          have HL4 := Lib.hid hl4
          have HB4 := Lib.hid ((HB3.out.alloc hs3 _).grown hgrow (by simp; omega) (fun k hk => by have := (own_lt HR3.out.own hk).1; omega))
          have hs4 := HB4.out.size
          have hcel : CE.length ≤ 7 := by rw [HCE.out]; simp; omega
          clear hown hgrow hq1 hr4 hl4 hce HR3 HnX HPs HCE
          go_wp2_with fail
          go_loopw [16, 17, 18, 20, 65] (fun _ _ _ _ i wr => ∃ k : Nat, k ≤ CE.length ∧ i = .int .i64 k ∧ (∀ q, q < k → tagAt l CE key q = none) ∧ Below w4.heap.size w4 wr) (fun _ _ _ _ i _ => CE.length - (intOf i).toNat)
          case atStart => exact ⟨0, Nat.zero_le _, rfl, fun _ h => absurd h (by omega), Below.refl _ _⟩
          case round =>
            obtain ⟨k, hk, rfl, hno, hbr⟩ := hrel
            have HNo2 := Lib.hid hno
            have HBr2 := Lib.hid hbr
            have hbs2 := hbr.size
            clear hno hbr
            by_cases hkl : k < CE.length
            · obtain ⟨b8, o8, V8, rfl, _, p8, x0, x1, x2, x3, xl8⟩ := (HL4.out.below Enc.tag_laws HBr2.out).tagAt k hkl
              have hsx := HSm.out _ (List.getElem_mem hkl)
              have HHit := Lib.hid (HSk.out.hit k hkl HNo2.out)
              have HMiss := Lib.hid (HSk.out.miss k hkl)
              generalize CE[k] = X at *
              obtain ⟨A9, c9, rfl, _⟩ := xl8.form
              have HTx : Hid (∀ W, Below wr.heap.size wr W → Calls Tryd.prog 32 #[.agg #[.string X.lang, .string X.script, .string X.region, .slice A9 X.vars.length c9]] W fun e w' => e = .returned (.string (tagText X)) ∧ Below W.heap.size W w') := Lib.hid fun W hW =>
                text_small (X, .slice A9 X.vars.length c9) W hsx (lo := 0) ((xl8.keep Enc.str_laws (Alk.mono (Alk.of_below hW) (Nat.zero_le _) hbs2)).mono Enc.str_laws (Nat.le_refl _) (by have := hW.size; omega))
              generalize tagText X = TX at *
              obtain ⟨xl, xs, xr, xv⟩ := X
              dsimp only at x0 x1 x2 x3 HTx
              have h8l : b8 < wr.heap.size := by omega
              clear xl8 hsx
              obtain ⟨wo, rfl⟩ : ∃ wo : World, wo = wr := ⟨_, rfl⟩
              go_wp2_with fail
              obtain ⟨wm, hwm⟩ : ∃ wm, wm = wo.alloc (.cells #[.string xl, .string xs, .string xr, .slice A9 xv.length c9] 24) := ⟨_, rfl⟩
              obtain ⟨n16, hn16⟩ : ∃ n16, n16 = wo.heap.size := ⟨_, rfl⟩
              have mm : Blk wm n16 24 #[.string xl, .string xs, .string xr, .slice A9 xv.length c9] := by rw [hwm, hn16]; exact Blk.new _ _ _
              have HBm := Lib.hid (show Below n16 wo wm by rw [hwm, hn16]; exact (Below.refl _ _).alloc (Nat.le_refl _) _)
              have hn16l : n16 < wm.heap.size := mm.lt
              have hn16e : n16 ≤ wo.heap.size := Nat.le_of_eq hn16
              have hn16g : w4.heap.size ≤ n16 := by omega
              rw [← hwm, ← hn16]
              rw [← hn16] at HTx
              have HMm := Lib.hid mm
              have HBmw := Lib.hid (show Below w4.heap.size w4 wm from HBr2.out.trans (HBm.out.mono hn16g))
              have hsm := HBmw.out.size
              clear mm hwm hn16 x0 x1 x2 x3
              go_loopw [17, 18, 20, 71] (fun _ _ _ i wr => ∃ j : Nat, j ≤ l.length ∧ i = .int .i64 j ∧ (∀ q, q < j → hitAt l TX key q = none) ∧ Below wm.heap.size wm wr) (fun _ _ _ i _ => l.length - (intOf i).toNat)
              case atStart => exact ⟨0, Nat.zero_le _, rfl, fun _ h => absurd h (by omega), Below.refl _ _⟩
              case round =>
                obtain ⟨j, hj, rfl, hno, hbr⟩ := hrel
                have HNo3 := Lib.hid hno
                have HBr3 := Lib.hid hbr
                have hbs3 := hbr.size
                clear hno hbr
                by_cases hjl : j < l.length
                · have HBw3 := Lib.hid (HB4.out.trans ((HBmw.out.trans (HBr3.out.mono hsm)).mono hs4))
                  obtain ⟨b, o, V, rfl, hbl, y0, y1, hin⟩ := (HL.out.below HBw3.out).bunAt j hjl
                  have HHj := Lib.hid (hitAt_is (nm := TX) (key := key) j hjl)
                  have HHitj := Lib.hid (HHit.out j hjl HNo3.out)
                  generalize l[j] = B at *
                  obtain ⟨elo, hel⟩ := hin.lo
                  obtain ⟨A10, c10, hV, _⟩ := hel.form
                  subst hV
                  have HEl := Lib.hid hel
                  have hbll := hin.len
                  clear hel
                  obtain ⟨bt, bl⟩ := B
                  dsimp only at y0 y1 HHj HEl hbll
                  clear hin
                  go_wp2_with fail
                  obtain ⟨wn, hwn⟩ : ∃ wn, wn = wr.alloc (.cells #[.string bt, .slice A10 bl.length c10] 46) := ⟨_, rfl⟩
                  obtain ⟨n18, hn18⟩ : ∃ n18, n18 = wr.heap.size := ⟨_, rfl⟩
                  have mn : Blk wn n18 46 #[.string bt, .slice A10 bl.length c10] := by rw [hwn, hn18]; exact Blk.new _ _ _
                  have HBn := Lib.hid (show Below wr.heap.size wr wn by rw [hwn]; exact (Below.refl _ _).alloc (Nat.le_refl _) _)
                  have m16 : Blk wn n16 24 #[.string xl, .string xs, .string xr, .slice A9 xv.length c9] := (HMm.out.below HBr3.out hn16l).below HBn.out (by omega)
                  have hS : wn.cell? ⟨n18, 0, none⟩ = some (.string bt) ∧ wn.cell? ⟨n16, 0, none⟩ = some (.string xl) ∧ wn.cell? ⟨n16, 1, none⟩ = some (.string xs) ∧ wn.cell? ⟨n16, 2, none⟩ = some (.string xr) ∧ wn.cell? ⟨n16, 3, none⟩ = some (.slice A9 xv.length c9) := by
                    have z := mn.cell 0
                    have z0 := m16.cell 0
                    have z1 := m16.cell 1
                    have z2 := m16.cell 2
                    have z3 := m16.cell 3
                    simp at z z0 z1 z2 z3
                    exact ⟨z, z0, z1, z2, z3⟩
                  have hbwn : Below n16 wo wn := HBm.out.trans ((HBr3.out.trans (HBn.out.mono hbs3)).mono (Nat.le_of_lt hn16l))
                  have hn18l := mn.lt
                  have hn16n := m16.lt
                  have hn18g : wr.heap.size ≤ n18 := Nat.le_of_eq hn18.symm
                  have hn18h : n18 ≤ wr.heap.size := Nat.le_of_eq hn18
                  rw [← hwn, ← hn18]
                  have HMn := Lib.hid mn
                  have HTn := Lib.hid (HTx.out _ hbwn.drew)
                  clear mn m16 hwn hn18 y0 y1 hbwn
                  go_region_held3 (fun w' => w'.cell? ⟨n18, 0, none⟩ = some (.string bt) ∧ w'.cell? ⟨n16, 0, none⟩ = some (.string xl) ∧ w'.cell? ⟨n16, 1, none⟩ = some (.string xs) ∧ w'.cell? ⟨n16, 2, none⟩ = some (.string xr) ∧ w'.cell? ⟨n16, 3, none⟩ = some (.slice A9 xv.length c9)) (first | exact hS | exact hS5)
                    (first
                      | (go_at_call 32
                         refine HTn.out.mono ?_
                         rintro e w5 ⟨rfl, hb5⟩
                         have hS5 : w5.cell? ⟨n18, 0, none⟩ = some (.string bt) ∧ w5.cell? ⟨n16, 0, none⟩ = some (.string xl) ∧ w5.cell? ⟨n16, 1, none⟩ = some (.string xs) ∧ w5.cell? ⟨n16, 2, none⟩ = some (.string xr) ∧ w5.cell? ⟨n16, 3, none⟩ = some (.slice A9 xv.length c9) := ⟨(hb5.cell (p := ⟨n18, 0, none⟩) hn18l).trans hS.1, (hb5.cell (p := ⟨n16, 0, none⟩) hn16n).trans hS.2.1, (hb5.cell (p := ⟨n16, 1, none⟩) hn16n).trans hS.2.2.1, (hb5.cell (p := ⟨n16, 2, none⟩) hn16n).trans hS.2.2.2.1, (hb5.cell (p := ⟨n16, 3, none⟩) hn16n).trans hS.2.2.2.2⟩))
                  have HBn5 := Lib.hid (HBn.out.trans ((below_undrew hb5).mono HBn.out.size))
                  have HBm5 := Lib.hid (HBr3.out.trans (HBn5.out.mono hbs3))
                  have mn5 := HMn.out.below (below_undrew hb5) hn18l
                  have z1 := mn5.cell 1
                  simp at z1
                  have hs5 := HBm5.out.size
                  have hs5r := HBn5.out.size
                  clear hS hS5 hb5 HTn mn5
                  obtain ⟨wo5, rfl⟩ : ∃ wo5 : World, wo5 = wr := ⟨_, rfl⟩
                  go_wp2_with fail
                  · have hbt' : (bt.toList == TX.toList) = false := by
                      have h : (!bt.toList == TX.toList) = true := by assumption
                      simpa using h
                    have HHn : Hid (hitAt l TX key j = none) := Lib.hid (by
                      have h1 : eqs bt TX = false := hbt'
                      rw [HHj.out, h1]; rfl)
                    exact ⟨⟨j + 1, by omega, by go_num, fun q hq => by
                      rcases Nat.lt_or_eq_of_le (Nat.le_of_lt_succ hq) with h | h
                      · exact HNo3.out q h
                      · subst h; exact HHn.out, HBm5.out⟩, by simp [intOf]; omega⟩
                  · have hbt : (bt.toList == TX.toList) = true := by
                      have h : (!bt.toList == TX.toList) = false := by assumption
                      simpa using h
                    have HHj2 : Hid (hitAt l TX key j = (bl.find? (fun e => eqs e.key key)).map (·.text)) := Lib.hid (by
                      have h1 : eqs bt TX = true := hbt
                      rw [HHj.out, if_pos h1])
                    clear hbt
                    go_loopw [20, 84] (fun _ i wr => ∃ m : Nat, m ≤ bl.length ∧ i = .int .i64 m ∧ (∀ q (h : q < bl.length), q < m → eqs bl[q].key key = false) ∧ Below w5.heap.size w5 wr) (fun _ i _ => bl.length - (intOf i).toNat)
                    case atStart => exact ⟨0, Nat.zero_le _, rfl, fun _ _ h => absurd h (by omega), Below.refl _ _⟩
                    case round =>
                      obtain ⟨m, hm, rfl, hno, hbr⟩ := hrel
                      have HNo4 := Lib.hid hno
                      have HBr4 := Lib.hid hbr
                      have hbs4 := hbr.size
                      clear hno hbr
                      by_cases hml : m < bl.length
                      · have hel := HEl.out.below Enc.ent_laws (HBn5.out.trans (HBr4.out.mono hs5r))
                        obtain ⟨eb, eo, rfl, _, q2, e0, e1⟩ := hel.entAt m hml
                        have HFa := Lib.hid (find_at (key := key) m hml HNo4.out)
                        have HNx : Hid (eqs bl[m].key key = false → ∀ q (h : q < bl.length), q < m + 1 → eqs bl[q].key key = false) := Lib.hid fun h0 q hq hq2 => by
                          rcases Nat.lt_or_eq_of_le (Nat.le_of_lt_succ hq2) with h | h
                          · exact HNo4.out q hq h
                          · subst h; exact h0
                        generalize bl[m] = E at *
                        obtain ⟨ky, tx⟩ := E
                        dsimp only at e0 e1 HFa HNx
                        have hebl : eb < wr.heap.size := by omega
                        clear hel z1
                        by_cases hke : (ky.toList == key.toList) = true
                        · have HRf := Lib.hid (HHitj.out tx (by rw [HHj2.out, HFa.out hke]; rfl))
                          go_wp2_with fail
                          have HBall : Hid (∀ nq : Nat, Below w.heap.size w ((wr.alloc (.cells #[.string ky, .string tx] 60)).drewN nq)) := Lib.hid fun nq => below_drawn ((HB4.out.trans ((HBmw.out.trans ((HBm5.out.trans (HBr4.out.mono hs5)).mono hsm)).mono hs4)).alloc (by omega) _) nq
                          go_quiet (fail)
                          go_wp2
                          go_ret3
                          exact ⟨HBall.out _, by rw [HRf.out]; rfl⟩
                        · have hke' : (ky.toList == key.toList) = false := by simpa using hke
                          have HNx2 := Lib.hid (HNx.out hke')
                          clear hke HNx HFa
                          go_wp2_with fail
                          exact ⟨⟨m + 1, by omega, by go_num, HNx2.out, HBr4.out.alloc hbs4 _⟩, by simp [intOf]; omega⟩
                      · obtain rfl : m = bl.length := by omega
                        have HHn : Hid (hitAt l TX key j = none) := Lib.hid (by rw [HHj2.out, find_no (fun q h => HNo4.out q h h)]; rfl)
                        have HBx := Lib.hid (HBm5.out.trans (HBr4.out.mono hs5))
                        go_wp2_with fail
                        exact ⟨⟨j + 1, by omega, by go_num, fun q hq => by
                          rcases Nat.lt_or_eq_of_le (Nat.le_of_lt_succ hq) with h | h
                          · exact HNo3.out q h
                          · subst h; exact HHn.out, HBx.out⟩, by simp [intOf]; omega⟩
                · obtain rfl : j = l.length := by omega
                  have HMs := Lib.hid (HMiss.out HNo3.out)
                  have HBx := Lib.hid (HBmw.out.trans (HBr3.out.mono hsm))
                  go_wp2_with fail
                  exact ⟨⟨k + 1, by omega, by go_num, fun q hq => by
                    rcases Nat.lt_or_eq_of_le (Nat.le_of_lt_succ hq) with h | h
                    · exact HNo2.out q h
                    · subst h; exact HMs.out, HBx.out⟩, by simp [intOf]; omega⟩
            · obtain rfl : k = CE.length := by omega
              have HRn := Lib.hid (HSk.out.none HNo2.out)
              go_wp2_with fail
              go_ret3
              exact ⟨HB4.out.trans (HBr2.out.mono hs4), by rw [HRn.out]; rfl⟩
end Go.Proofs.YtdmjelkjeiinjaaDoor
