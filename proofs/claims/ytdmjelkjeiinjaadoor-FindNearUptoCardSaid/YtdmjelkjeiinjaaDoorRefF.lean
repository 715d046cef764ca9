/- The walk of the document's package: ChainOf. -/
import Derived.Test.YtdmjelkjeiinjaaDoorRefE
import Derived.Test.YtdmjelkjeiinjaaDoorBunRow
import Derived.Test.YtdmjelkjeiinjaaDoorChainB
set_option linter.unusedSimpArgs false
set_option linter.unusedVariables false
namespace Go.Proofs.YtdmjelkjeiinjaaDoor
open Go.RowKit

/-- a row of the call's own as the news of an append -/
theorem news_own {w : World} {base : Nat} {e : TypeId} {size : Nat} {A : Option Addr} {n c : Nat} {xs : List Value} (h : w.ownsRow base e size (.slice A n c) n xs) :
    n = 0 ∨ ∃ b o, A = some ⟨b, o, none⟩ ∧ ∀ j u, xs[j]? = some u → w.cell? ⟨b, o + j, none⟩ = some u := by
  obtain ⟨h1, ⟨h2, h3⟩ | ⟨g, cap, cur, hv, hb, hh, hc, _, hz, ht⟩⟩ := h
  · exact .inl h3
  · injection hv with hv
    refine .inr ⟨g, 0, hv, fun j u hj => ?_⟩
    rw [Nat.zero_add, cell_of_row w g j cur e (0, 0) hh]
    have hj' : j < xs.length := by
      rcases Nat.lt_or_ge j xs.length with h | h
      · exact h
      · rw [List.getElem?_eq_none h] at hj; cases hj
    rw [← ht, List.getElem?_take, if_pos (by omega), Array.getElem?_toList] at hj
    exact hj
theorem flatT_one (ps : List (Tg × Value)) (h : ∀ p ∈ ps, p.2.oneCell' = true) : ∀ u ∈ flatT ps, u.oneCell' = true := by
  intro u hu
  obtain ⟨p, hp, he⟩ := List.mem_flatMap.1 hu
  simp only [tagCells, List.mem_cons, List.not_mem_nil, or_false] at he
  rcases he with rfl | rfl | rfl | rfl
  · rfl
  · rfl
  · rfl
  · exact h p hp
/-- What ChainOf answers. -/
def ChainRes (t : Tg) (w : World) (lo hi : Nat) (e : Ending) (w' : World) : Prop :=
  Below w.heap.size w w' ∧ ∃ u ps, e = .returned u ∧ ps.map Prod.fst = chainOf t ∧ w'.ownsRow w.heap.size 24 4 u ps.length (flatT ps) ∧ ∀ p ∈ ps, ListOk Enc.str w lo hi p.2 p.1.vars
theorem list_back {w W : World} {lo hi : Nat} {v : Value} {l : List ByteArray} (h : ListOk Enc.str W lo hi v l) (hb : Below w.heap.size w W) (hh : hi ≤ w.heap.size) : ListOk Enc.str w lo hi v l :=
  h.keep Enc.str_laws fun p _ hp => (hb.cell (by omega)).symm
theorem ListOk.oneCell {α : Type} {E : Enc α} {w : World} {lo hi : Nat} {v : Value} {l : List α} (h : ListOk E w lo hi v l) : v.oneCell' = true := by
  obtain ⟨A, c, rfl, _⟩ := h.form
  rfl

theorem less_bare (l : ByteArray) : less ⟨l, ByteArray.empty, ByteArray.empty, []⟩ = none := by
  unfold less
  rw [if_neg (by simp), if_pos (eqs_self _), if_pos (eqs_self _)]
theorem flatT_cons (p : Tg × Value) (ps : List (Tg × Value)) : flatT (p :: ps) = flatT [p] ++ flatT ps := by
  show tagCells p ++ flatT ps = (tagCells p ++ []) ++ flatT ps
  rw [List.append_nil]
theorem chainRes_mk {t u : Tg} {w w4 : World} {lo hi : Nat} {v v4 : Value} {ps : List (Tg × Value)} (hc : chainOf t = t :: chainOf u) (hb : Below w.heap.size w w4) (hps : ps.map Prod.fst = chainOf u)
    (hown : w4.ownsRow w.heap.size 24 4 v4 (1 + ps.length) (flatT [(t, v)] ++ flatT ps)) (hv : ListOk Enc.str w lo hi v t.vars) (hvs : ∀ p ∈ ps, ListOk Enc.str w lo hi p.2 p.1.vars) :
    ChainRes t w lo hi (.returned v4) w4 := by
  refine ⟨hb, v4, (t, v) :: ps, rfl, by rw [List.map_cons, hps, hc], ?_, fun p hp => ?_⟩
  · rw [List.length_cons, Nat.add_comm, flatT_cons]; exact hown
  · rcases List.mem_cons.1 hp with rfl | hp
    · exact hv
    · exact hvs p hp
theorem chainRes_one {t : Tg} {w w4 : World} {lo hi : Nat} {v v4 : Value} (hc : chainOf t = [t]) (hb : Below w.heap.size w w4) (hown : w4.ownsRow w.heap.size 24 4 v4 1 (flatT [(t, v)])) (hv : ListOk Enc.str w lo hi v t.vars) :
    ChainRes t w lo hi (.returned v4) w4 :=
  ⟨hb, v4, [(t, v)], rfl, by rw [hc]; rfl, hown, fun p hp => by rw [List.mem_singleton.1 hp]; exact hv⟩

set_option maxRecDepth 100000 in
set_option maxHeartbeats 3200000 in
theorem rchain_step (t : Tg) (v : Value) (w : World) (lo hi : Nat) (hd : deg t ≤ 100) (hh : hi ≤ w.heap.size) (hv : ListOk Enc.str w lo hi v t.vars)
    (IH : ∀ u V W, less t = some u → hi ≤ W.heap.size → ListOk Enc.str W lo hi V u.vars → Calls Tryd.prog 19 #[.agg #[.string u.lang, .string u.script, .string u.region, V]] W (ChainRes u W lo hi)) :
    Calls Tryd.prog 19 #[.agg #[.string t.lang, .string t.script, .string t.region, v]] w (ChainRes t w lo hi) := by
  obtain ⟨A, c, rfl, hc⟩ := hv.form
  have hlen : t.vars.length ≤ 100 := by unfold deg at hd; omega
  have HIH := Lib.hid IH
  have HV := Lib.hid hv
  have HLen : Hid (∀ u, less t = some u → (chainOf u).length ≤ 101) := Lib.hid fun u hu => by have := less_deg hu; have := chainOf_length u; omega
  obtain ⟨tl, ts, tr, tv⟩ := t
  clear IH hv hd
  dsimp only at HV hlen hc ⊢
  go_enter Tryd.func19, Tryd.ntmps19
  go_upto_region 2 with fail
  obtain ⟨W2, eW2⟩ : ∃ W2, W2 = (w.alloc (.cells #[.string tl, .string ts, .string tr, .slice A tv.length c] 24)).alloc (.cells #[.string tl, .string ts, .string tr, .slice A tv.length c] 24) := ⟨_, rfl⟩
  have hW2 : w.heap.size + 2 ≤ W2.heap.size := by rw [eW2]; simp
  have HB2 : Hid (Below w.heap.size w W2) := Lib.hid (by rw [eW2]; exact ((Below.refl _ _).alloc (Nat.le_refl _) _).alloc (by simp) _)
  have mb : Blk W2 w.heap.size 24 #[.string tl, .string ts, .string tr, .slice A tv.length c] := by rw [eW2]; exact (Blk.new _ _ _).alloc _
  have HOwn : Hid (W2.ownsRow w.heap.size 24 4 (.slice (some ⟨w.heap.size + 1, 0, none⟩) 1 1) 1 (flatT [(⟨tl, ts, tr, tv⟩, .slice A tv.length c)])) := Lib.hid (by
    have h := World.ownsRow_lit (base := w.heap.size) (e := 24) (size := 4) (w.alloc (.cells #[.string tl, .string ts, .string tr, .slice A tv.length c] 24)) #[.string tl, .string ts, .string tr, .slice A tv.length c] 1 (by simp) (by decide) rfl
    rw [size_alloc1] at h
    rw [eW2]; exact h)
  have HOld : Hid (∀ W, Below W2.heap.size W2 W → ListOk Enc.str W lo hi (.slice A tv.length c) tv) := Lib.hid fun W hW => HV.out.keep Enc.str_laws (Alk.of_below (by have := HB2.out.trans (hW.mono HB2.out.size); exact this.mono hh))
  have HBack : Hid (∀ W, Below W2.heap.size W2 W → ∀ V l, ListOk Enc.str W lo hi V l → ListOk Enc.str w lo hi V l) := Lib.hid fun W hW V l h => list_back h (HB2.out.trans (hW.mono HB2.out.size)) hh
  have c0 := mb.cell 0
  have c1 := mb.cell 1
  have c2 := mb.cell 2
  have c3 := mb.cell 3
  simp at c0 c1 c2 c3
  rw [← eW2]
  clear eW2 mb
  by_cases h0 : tv = []
  · have HL0 : Hid (tv.length = 0) := Lib.hid (by rw [h0]; rfl)
    subst h0
    clear HLen
    by_cases hr : tr.toList = []
    · have hre := empty_of hr
      by_cases hs : ts.toList = []
      · have hse := empty_of hs
        have HC : Hid (chainOf ⟨tl, ts, tr, []⟩ = [⟨tl, ts, tr, []⟩]) := Lib.hid (chainOf_none (by rw [hre, hse]; exact less_bare tl))
        clear hre hse HIH
        go_wp2_with fail
        go_ret
        exact chainRes_one HC.out HB2.out HOwn.out HV.out
      · have hl1 : less ⟨tl, ts, tr, []⟩ = some ⟨tl, ByteArray.empty, ByteArray.empty, []⟩ := by
          unfold less
          have e1 : eqs tr ByteArray.empty = true := (eqs_nil hr).out
          have e2 : eqs ts ByteArray.empty = false := (eqs_not_nil hs).out
          rw [if_neg (by simp), if_pos e1, if_neg (by simp [e2]), hre]
        have HC : Hid (chainOf ⟨tl, ts, tr, []⟩ = ⟨tl, ts, tr, []⟩ :: chainOf ⟨tl, ByteArray.empty, ByteArray.empty, []⟩) := Lib.hid (chainOf_some hl1)
        have HC2 : Hid (chainOf ⟨tl, ByteArray.empty, ByteArray.empty, []⟩ = [⟨tl, ByteArray.empty, ByteArray.empty, []⟩]) := Lib.hid (chainOf_none (less_bare tl))
        have HsE : Hid (ts.toList.isEmpty = false) := Lib.hid (by simpa using hs)
        have hsE := HsE.out
        clear hre hl1 HIH
        have hnX : ∀ q u, ([Value.string tl, .string ⟨#[]⟩, .string ⟨#[]⟩, .slice none 0 0] : List Value)[q]? = some u → (W2.alloc (.cells #[.string tl, .string ⟨#[]⟩, .string ⟨#[]⟩, .slice none 0 0] 24)).cell? ⟨W2.heap.size, 0 + q, none⟩ = some u := fun q u hq => by
          rw [Nat.zero_add, (Blk.new W2 24 #[.string tl, .string ⟨#[]⟩, .string ⟨#[]⟩, .slice none 0 0]).cell q]; simpa using hq
        have HnX := Lib.hid hnX
        have HO2 := Lib.hid (own_below HOwn.out ((Below.refl W2.heap.size W2).alloc (Nat.le_refl _) (.cells #[.string tl, .string ⟨#[]⟩, .string ⟨#[]⟩, .slice none 0 0] 24)) (Nat.le_refl _))
        clear hnX
        go_wp2_with (at_builtin; refine wpList_append_any rfl _ _ 25 rfl w.heap.size 24 Tryd.underlying25 info_tag rfl (by decide) (flatT [(⟨tl, ts, tr, []⟩, .slice A [].length c)]) rfl HO2.out [.string tl, .string ⟨#[]⟩, .string ⟨#[]⟩, .slice none 0 0] rfl rfl (.inr ⟨_, _, rfl, HnX.out⟩) (by simp [Value.oneCell']) (by unfold maxLen; omega) (by omega) (by simp; omega) ?_)
        intro v4 w4 hown4 hgrow4 _
        have HB4 : Hid (Below w.heap.size w w4) := Lib.hid ((HB2.out.alloc (by omega) _).grown hgrow4 (by simp; omega) (by intro k hk; simp [Value.ownBlock] at hk; omega))
        have HO4 := Lib.hid hown4
        clear hown4 hgrow4
        go_wp2_with fail
        go_ret
        exact chainRes_mk (ps := [(⟨tl, ByteArray.empty, ByteArray.empty, []⟩, .slice none 0 0)]) HC.out HB4.out (by rw [HC2.out]; rfl) HO4.out HV.out (fun p hp => by rw [List.mem_singleton.1 hp]; exact ListOk.nil _ _)
    · have hl1 : less ⟨tl, ts, tr, []⟩ = some ⟨tl, ts, ByteArray.empty, []⟩ := by
        unfold less
        have e1 : eqs tr ByteArray.empty = false := (eqs_not_nil hr).out
        rw [if_neg (by simp), if_neg (by simp [e1])]
      have HC : Hid (chainOf ⟨tl, ts, tr, []⟩ = ⟨tl, ts, tr, []⟩ :: chainOf ⟨tl, ts, ByteArray.empty, []⟩) := Lib.hid (chainOf_some hl1)
      have hlen2 : (chainOf ⟨tl, ts, ByteArray.empty, []⟩).length ≤ 2 := by
        have := chainOf_length ⟨tl, ts, ByteArray.empty, []⟩
        have h2 : deg ⟨tl, ts, ByteArray.empty, []⟩ ≤ 1 := by simp only [deg, eqs_self, if_true, List.length_nil]; split <;> omega
        omega
      have HI : Hid (∀ W, Below W2.heap.size W2 W → Calls Tryd.prog 19 #[.agg #[.string tl, .string ts, .string ⟨#[]⟩, .slice none 0 0]] W (ChainRes ⟨tl, ts, ByteArray.empty, []⟩ W lo hi)) := Lib.hid fun W hW =>
        HIH.out ⟨tl, ts, ByteArray.empty, []⟩ _ W hl1 (by have := hW.size; omega) (ListOk.nil _ _)
      have HrE : Hid (tr.toList.isEmpty = false) := Lib.hid (by simpa using hr)
      have hrE := HrE.out
      have HLn := Lib.hid hlen2
      clear hl1 HIH hlen2
      go_wp2_with fail
      refine (HI.out _ (Below.refl _ _)).mono ?_
      rintro e w3 ⟨hb3, u, ps, rfl, hps, hown3, hvs3⟩
      obtain ⟨A3, c3', rfl, _⟩ := own_slice hown3
      have hs3 := hb3.size
      have hpl : ps.length ≤ 101 := by
        have := HLn.out
        rw [← hps, List.length_map] at this
        omega
      have HO3 := Lib.hid (own_below HOwn.out hb3 (Nat.le_refl _))
      have HN3 := Lib.hid (news_own hown3)
      have HO1 := Lib.hid (flatT_one ps fun p hp => (hvs3 p hp).oneCell)
      have HVs := Lib.hid hvs3
      have HPs := Lib.hid hps
      have HB3 := Lib.hid hb3
      clear hb3 hown3 hvs3 hps
      go_wp2_with (at_builtin; refine wpList_append_any rfl _ _ 25 rfl w.heap.size 24 Tryd.underlying25 info_tag rfl (by decide) (flatT [(⟨tl, ts, tr, []⟩, .slice A [].length c)]) rfl HO3.out (flatT ps) rfl (flatT_length ps) HN3.out HO1.out (by unfold maxLen; omega) (by omega) (by omega) ?_)
      intro v4 w4 hown4 hgrow4 _
      have HB4 : Hid (Below w.heap.size w w4) := Lib.hid ((HB2.out.trans (HB3.out.mono (by omega))).grown hgrow4 (by omega) (by intro k hk; simp [Value.ownBlock] at hk; omega))
      have HO4 := Lib.hid hown4
      clear hown4 hgrow4
      go_wp2_with fail
      go_ret
      exact chainRes_mk HC.out HB4.out HPs.out HO4.out HV.out (fun p hp => HBack.out _ (Below.refl _ _) _ _ (HVs.out p hp))
  · have hpos : 0 < tv.length := List.length_pos_iff.2 h0
    obtain ⟨k, hk⟩ : ∃ k, tv.length = k + 1 := ⟨tv.length - 1, by omega⟩
    obtain ⟨b, o, rfl, g1, g2, g3⟩ := HV.out.strAt 0 hpos
    have hls : less ⟨tl, ts, tr, tv⟩ = some ⟨tl, ts, tr, tv.take k⟩ := by
      unfold less
      rw [if_pos (by simpa using h0)]
      simp [hk]
    have HSum := Lib.hid (chainOf_some hls)
    have HLn := Lib.hid (HLen.out _ hls)
    have HC : Hid (∀ W, Below W2.heap.size W2 W → Calls Tryd.prog 19 #[.agg #[.string tl, .string ts, .string tr, .slice (some ⟨b, o, none⟩) k c]] W (ChainRes ⟨tl, ts, tr, tv.take k⟩ W lo hi)) := Lib.hid fun W hW =>
      HIH.out ⟨tl, ts, tr, tv.take k⟩ _ W hls (by have := hW.size; omega) ((HOld.out W hW).take k (by omega))
    rw [hk] at c3 hc hlen HV HOwn ⊢
    clear hpos h0 hls HLen HIH g3
    have hwk : IntKind.i64.wrap (k : Int) = k := by rw [IntKind.wrap_i64]; omega
    have hkc : k ≤ c := by omega
    have hk0 : (0 : Int) ≤ (k : Int) := Int.natCast_nonneg k
    have hk1 : (k : Int) ≤ (c : Int) := by omega
    have hlt2 : w.heap.size < W2.heap.size := by omega
    go_wp2_with fail
    go_region_held3 (fun w' => w'.cell? ⟨w.heap.size, 0, none⟩ = some (.string tl) ∧ w'.cell? ⟨w.heap.size, 1, none⟩ = some (.string ts) ∧ w'.cell? ⟨w.heap.size, 2, none⟩ = some (.string tr) ∧ w'.cell? ⟨w.heap.size, 3, none⟩ = some (.slice (some ⟨b, o, none⟩) (k + 1) c))
      (first | exact hS4 | exact hS3 | go_keep)
      (first
        | (refine step_append_any (by rfl) _ _ 25 (by rfl) w.heap.size 24 Tryd.underlying25 info_tag rfl (by decide) (flatT [(⟨tl, ts, tr, tv⟩, .slice (some ⟨b, o, none⟩) (k + 1) c)]) (by rfl) HO3.out (flatT ps) (by rfl) (flatT_length ps) HN3.out HO1.out (by unfold maxLen; omega) (by omega) (by omega) ?_
           intro v4 w4 hown4 hgrow4
           have hS4 : w4.cell? ⟨w.heap.size, 0, none⟩ = some (.string tl) ∧ w4.cell? ⟨w.heap.size, 1, none⟩ = some (.string ts) ∧ w4.cell? ⟨w.heap.size, 2, none⟩ = some (.string tr) ∧ w4.cell? ⟨w.heap.size, 3, none⟩ = some (.slice (some ⟨b, o, none⟩) (k + 1) c) := by
             have e : ∀ i, w4.cell? ⟨w.heap.size, i, none⟩ = w3.cell? ⟨w.heap.size, i, none⟩ := fun i => World.cell?_of_block (hgrow4.block w.heap.size (by omega) (by simp [Value.ownBlock]))
             exact ⟨(e 0).trans hS3.1, (e 1).trans hS3.2.1, (e 2).trans hS3.2.2.1, (e 3).trans hS3.2.2.2⟩)
        | (go_at_call 19
           refine (HC.out _ (Below.refl _ _).drew).mono ?_
           rintro e w3 ⟨hb3, u, ps, rfl, hps, hown3, hvs3⟩
           have hb3' : Below W2.heap.size W2 w3 := below_undrew hb3
           obtain ⟨A3, c3', rfl, _⟩ := own_slice hown3
           have hs3 := hb3'.size
           have hpl : ps.length ≤ 101 := by
             have := HLn.out
             rw [← hps, List.length_map] at this
             exact this
           have hS3 : w3.cell? ⟨w.heap.size, 0, none⟩ = some (.string tl) ∧ w3.cell? ⟨w.heap.size, 1, none⟩ = some (.string ts) ∧ w3.cell? ⟨w.heap.size, 2, none⟩ = some (.string tr) ∧ w3.cell? ⟨w.heap.size, 3, none⟩ = some (.slice (some ⟨b, o, none⟩) (k + 1) c) :=
             ⟨(hb3'.cell (p := ⟨w.heap.size, 0, none⟩) hlt2).trans c0, (hb3'.cell (p := ⟨w.heap.size, 1, none⟩) hlt2).trans c1, (hb3'.cell (p := ⟨w.heap.size, 2, none⟩) hlt2).trans c2, (hb3'.cell (p := ⟨w.heap.size, 3, none⟩) hlt2).trans c3⟩
           have HO3 := Lib.hid (own_below HOwn.out hb3' (Nat.le_refl _))
           have HN3 := Lib.hid (news_own hown3)
           have HO1 := Lib.hid (flatT_one ps fun p hp => (hvs3 p hp).oneCell)
           have HVs := Lib.hid hvs3
           have HPs := Lib.hid hps
           have HB3 := Lib.hid hb3'
           clear hb3 hb3' hown3 hvs3 hps))
    have HB4 : Hid (Below w.heap.size w w4) := Lib.hid ((HB2.out.trans (HB3.out.mono (by omega))).grown hgrow4 (by omega) (by intro k hk; simp [Value.ownBlock] at hk; omega))
    have HO4 := Lib.hid hown4
    clear hown4 hgrow4 hS3 hS4
    go_wp2_with fail
    go_ret
    refine chainRes_mk HSum.out HB4.out HPs.out HO4.out ?_ (fun p hp => HBack.out _ (Below.refl _ _).drew _ _ (HVs.out p hp))
    have := HV.out
    rwa [← hk] at this ⊢
theorem rchain_any : ∀ (n : Nat) (t : Tg) (v : Value) (w : World) (lo hi : Nat), deg t ≤ n → n ≤ 100 → hi ≤ w.heap.size → ListOk Enc.str w lo hi v t.vars →
    Calls Tryd.prog 19 #[.agg #[.string t.lang, .string t.script, .string t.region, v]] w (ChainRes t w lo hi)
  | 0, t, v, w, lo, hi, hd, hn, hh, hv => rchain_step t v w lo hi (by omega) hh hv fun u V W hu _ _ => by have := less_deg hu; omega
  | n + 1, t, v, w, lo, hi, hd, hn, hh, hv => rchain_step t v w lo hi (by omega) hh hv fun u V W hu hW hV => rchain_any n u V W lo hi (by have := less_deg hu; omega) (by omega) hW hV
end Go.Proofs.YtdmjelkjeiinjaaDoor
