/- The walk of the document's package: Joined, Parts, TagText. -/
import Derived.Test.YtdmjelkjeiinjaaDoorRefC
set_option linter.unusedSimpArgs false
set_option linter.unusedVariables false
namespace Go.Proofs.YtdmjelkjeiinjaaDoor
open Go.RowKit

theorem size_alloc1 (w : World) (o : Obj) : (w.alloc o).heap.size = w.heap.size + 1 := by simp
theorem join_take_succ (sep : List UInt8) (xs : List (List UInt8)) (j : Nat) (h0 : 0 < j) (y : List UInt8) (h : xs[j]? = some y) : Lib.join (xs.take (j + 1)) sep = Lib.join (xs.take j) sep ++ sep ++ y := by
  cases xs with
  | nil => simp at h
  | cons x r =>
    obtain ⟨k, rfl⟩ : ∃ k, j = k + 1 := ⟨j - 1, by omega⟩
    rw [List.getElem?_cons_succ] at h
    rw [List.take_succ_cons, List.take_succ_cons, Lib.join_cons, Lib.join_cons, Lib.joinTail_take_succ sep r k y h]
    simp
theorem join_take_le (sep : List UInt8) (xs : List (List UInt8)) (j : Nat) : (Lib.join (xs.take j) sep).length ≤ (Lib.join xs sep).length := by
  cases xs with
  | nil => simp
  | cons x r =>
    cases j with
    | zero => simp [Lib.join_nil]
    | succ k =>
      rw [List.take_succ_cons, Lib.join_cons, Lib.join_cons, List.length_append, List.length_append]
      have := Lib.joinTail_take_le sep r k
      omega
theorem joined_zero (l : List ByteArray) (sep : ByteArray) : joined (l.take 0) sep = ByteArray.empty := rfl
theorem joined_one (l : List ByteArray) (sep : ByteArray) (h : 0 < l.length) : joined (l.take 1) sep = joined (l.take 0) sep ++ l[0] := by
  cases l with
  | nil => simp at h
  | cons x r =>
    apply bts_inj
    rw [bts_append, joined_zero]
    show Lib.join [bts x] (bts sep) = _
    rw [Lib.join_one]; rfl
theorem joined_succ (l : List ByteArray) (sep : ByteArray) (j : Nat) (h0 : 0 < j) (h : j < l.length) : joined (l.take (j + 1)) sep = joined (l.take j) sep ++ sep ++ l[j] := by
  apply bts_inj
  rw [bts_append, bts_append]
  show Lib.join ((l.take (j + 1)).map bts) (bts sep) = Lib.join ((l.take j).map bts) (bts sep) ++ bts sep ++ bts l[j]
  rw [List.map_take, List.map_take]
  exact join_take_succ _ _ j h0 _ (by rw [List.getElem?_map, List.getElem?_eq_getElem h]; rfl)
theorem joined_size (l : List ByteArray) (sep : ByteArray) (j : Nat) : (joined (l.take j) sep).size ≤ (joined l sep).size := by
  unfold joined
  rw [str_size, str_size, List.map_take]
  exact join_take_le _ _ j

set_option maxHeartbeats 800000 in
theorem joined_any (v : Value) (l : List ByteArray) (sep : ByteArray) (lo hi : Nat) (w : World) (hv : ListOk Enc.str w lo hi v l) (hn : l.length ≤ 140737488355328) (hj : (joined l sep).size ≤ 140737488355328) :
    Calls Tryd.prog 47 #[v, .string sep] w fun e w' => e = .returned (.string (joined l sep)) ∧ w = w' := by
  obtain ⟨A, c, rfl, hlc⟩ := hv.form
  have HJ := Lib.hid hj
  clear hj
  go_enter Tryd.func47, Tryd.ntmps47
  go_wp2
  go_loop [5, 6] (fun o i => ∃ j : Nat, j ≤ l.length ∧ i = .int .i64 j ∧ o = .string (joined (l.take j) sep)) (fun _ i => l.length - (intOf i).toNat)
  case atStart => exact ⟨0, Nat.zero_le _, rfl, rfl⟩
  case round =>
    obtain ⟨j, hj, rfl, rfl⟩ := hrel
    by_cases hlt : j < l.length
    · obtain ⟨b, o, rfl, h1, h2, hc⟩ := hv.strAt j hlt
      have HSz := Lib.hid (Nat.le_trans (joined_size l sep (j + 1)) HJ.out)
      by_cases h0 : 0 < j
      · have HS := Lib.hid (joined_succ l sep j h0 hlt)
        rw [HS.out] at HSz
        have hz := HSz.out
        rw [ByteArray.size_append, ByteArray.size_append] at hz
        clear HSz
        generalize l[j] = x at *
        generalize joined (l.take j) sep = y at *
        go_wp2
        go_round
        case rel => exact ⟨j + 1, by omega, by go_num, by rw [HS.out]⟩
        case measure => simp [intOf]; omega
      · obtain rfl : j = 0 := by omega
        have HS := Lib.hid (joined_one l sep hlt)
        rw [HS.out] at HSz
        have hz := HSz.out
        rw [ByteArray.size_append] at hz
        clear HSz
        generalize l[0] = x at *
        generalize joined (l.take 0) sep = y at *
        rw [Nat.add_zero] at hc
        go_wp2
        go_round
        case rel => exact ⟨1, by omega, by go_num, by rw [HS.out]⟩
        case measure => simp [intOf]; omega
    · obtain rfl : j = l.length := by omega
      rw [List.take_length]
      go_wp2
      go_ret
      exact ⟨rfl, rfl⟩

set_option maxRecDepth 100000 in
set_option maxHeartbeats 1600000 in
theorem parts_any (t : Tg) (v : Value) (w : World) (lo : Nat) (hv : ListOk Enc.str w lo w.heap.size v t.vars) (hn : t.vars.length ≤ 4398046511104) :
    Calls Tryd.prog 48 #[.agg #[.string t.lang, .string t.script, .string t.region, v]] w fun e w' => ∃ v, e = .returned v ∧ w'.ownsRow w.heap.size 9 1 v (parts t).length ((parts t).map .string) ∧ Below w.heap.size w w' := by
  obtain ⟨A, c, rfl, hlc⟩ := hv.form
  have HV := Lib.hid hv
  have HPt : Hid (parts t = ([t.lang, t.script, t.region] ++ t.vars).filter (fun s => !eqs s ByteArray.empty)) := rfl
  clear hv
  go_enter Tryd.func48, Tryd.ntmps48
  have hb1 : Below w.heap.size w ((w.alloc (.cells #[.string t.lang, .string t.script, .string t.region, .slice A t.vars.length c] 24)).alloc (.cells #[.string t.lang, .string t.script, .string t.region] 9)) := ((Below.refl _ _).alloc (Nat.le_refl _) _).alloc (by simp) _
  have HNews := Lib.hid (news_strs (HV.out.below Enc.str_laws hb1))
  have HOwn : Hid (((w.alloc (.cells #[.string t.lang, .string t.script, .string t.region, .slice A t.vars.length c] 24)).alloc (.cells #[.string t.lang, .string t.script, .string t.region] 9)).ownsRow w.heap.size 9 1 (.slice (some ⟨w.heap.size + 1, 0, none⟩) 3 3) 3 [.string t.lang, .string t.script, .string t.region]) := Lib.hid (by
    have h := World.ownsRow_lit (base := w.heap.size) (e := 9) (size := 1) (w.alloc (.cells #[.string t.lang, .string t.script, .string t.region, .slice A t.vars.length c] 24)) #[.string t.lang, .string t.script, .string t.region] 3 (by simp) (by decide) rfl
    rwa [size_alloc1] at h)
  have HB1 := Lib.hid hb1
  clear hb1
  go_wp2_with (at_builtin; refine wpList_append_any rfl _ _ 22 rfl w.heap.size 9 Tryd.underlying22 info_string rfl (by decide) _ rfl HOwn.out (t.vars.map .string) rfl (by simp) HNews.out (strs_oneCell _) (by unfold maxLen; omega) (by omega) (by simp; omega) ?_)
  intro v3 w3 hown3 hgrow3 _
  have HO3 : Hid (w3.ownsRow w.heap.size 9 1 v3 ([t.lang, t.script, t.region] ++ t.vars).length (([t.lang, t.script, t.region] ++ t.vars).map .string)) := Lib.hid (by
    have e : ([t.lang, t.script, t.region] ++ t.vars).length = 3 + t.vars.length := by simp; omega
    rw [e]; simpa using hown3)
  have HB3 := Lib.hid (HB1.out.grown hgrow3 (by simp; omega) (own_lt' HOwn.out))
  have hs3 := HB3.out.size
  clear hown3 hgrow3 HOwn HNews HB1 HV
  have hlen : ([t.lang, t.script, t.region] ++ t.vars).length ≤ 4398046511107 := by simp; omega
  generalize ([t.lang, t.script, t.region] ++ t.vars) = L at HO3 HPt hlen
  obtain ⟨A3, c3, rfl, hlc3⟩ := own_slice HO3.out
  have HL3 : Hid (ListOk Enc.str w3 w.heap.size w3.heap.size (.slice A3 L.length c3) L) := Lib.hid (ListOk.strs_of_own HO3.out (Nat.le_refl _) (Nat.le_refl _))
  clear HO3
  go_wp2_with fail
  go_loopw [3, 5] (fun o i wr => ∃ j : Nat, j ≤ L.length ∧ i = .int .i64 j ∧ wr.ownsRow w3.heap.size 9 1 o ((L.take j).filter (fun s => !eqs s ByteArray.empty)).length (((L.take j).filter (fun s => !eqs s ByteArray.empty)).map .string) ∧ Below w3.heap.size w3 wr) (fun _ i _ => L.length - (intOf i).toNat)
  case atStart => exact ⟨0, Nat.zero_le _, rfl, own_nil, Below.refl _ _⟩
  case round =>
    obtain ⟨j, hj, rfl, hown, hb⟩ := hrel
    obtain ⟨B, cc, rfl, _⟩ := own_slice hown
    have hbs := hb.size
    have HO := Lib.hid hown
    have HB := Lib.hid hb
    clear hown hb
    by_cases hlt : j < L.length
    · obtain ⟨b, o, rfl, h1, h2, hc⟩ := (HL3.out.below Enc.str_laws HB.out).strAt j hlt
      have htk : Hid ((L.take (j + 1)).filter (fun s => !eqs s ByteArray.empty) = (L.take j).filter (fun s => !eqs s ByteArray.empty) ++ (if eqs L[j] ByteArray.empty then [] else [L[j]])) := Lib.hid (by
        rw [List.take_add_one, List.getElem?_eq_getElem hlt, List.filter_append]
        congr 1
        show List.filter _ [L[j]] = _
        cases h : eqs L[j] ByteArray.empty <;> simp [h])
      have hfl : ((L.take j).filter (fun s => !eqs s ByteArray.empty)).length ≤ j := Nat.le_trans (List.length_filter_le _ _) (by rw [List.length_take]; omega)
      generalize L[j] = x at *
      generalize ((L.take j).filter (fun s => !eqs s ByteArray.empty)) = R at *
      by_cases hx : x.toList = []
      · have hE := (eqs_nil hx).out
        rw [hE] at htk
        have htk' := Lib.hid htk.out
        clear htk hE
        go_wp2_with fail
        go_roundw
        case rel => exact ⟨j + 1, by omega, by go_num, by rw [htk'.out]; simpa using HO.out, HB.out⟩
        case measure => simp [intOf]; omega
      · have hE := (eqs_not_nil hx).out
        rw [hE] at htk
        have htk' := Lib.hid htk.out
        clear htk hE
        have hxb : x.toList.isEmpty = false := by simpa using hx
        go_wp2_with (at_builtin; refine wpList_append_any rfl _ _ 22 rfl w3.heap.size 9 Tryd.underlying22 info_string rfl (by decide) (R.map .string) rfl (HO.out.alloc _) [.string x] rfl rfl (.inr ⟨_, _, rfl, one_news _ _ _⟩) (by simp [Value.oneCell']) (by unfold maxLen; omega) (by omega) (by simp; omega) ?_)
        intro v4 w4 hown4 hgrow4 _
        have HO4 : Hid (w4.ownsRow w3.heap.size 9 1 v4 (R ++ [x]).length ((R ++ [x]).map .string)) := Lib.hid (by simpa using hown4)
        have HB4 := Lib.hid ((HB.out.alloc (by omega) _).grown hgrow4 (by simp; omega) (own_lt' HO.out))
        clear hown4 hgrow4
        go_wp2_with fail
        go_roundw
        case rel => exact ⟨j + 1, by omega, by go_num, by rw [htk'.out]; exact HO4.out, HB4.out⟩
        case measure => simp [intOf]; omega
    · obtain rfl : j = L.length := by omega
      go_wp2_with fail
      go_ret
      refine ⟨_, rfl, ?_, HB3.out.trans (HB.out.mono hs3)⟩
      have h := HO.out
      rw [HPt.out]
      have e : L.take L.length = L := List.take_length
      rw [e] at h ⊢
      exact own_mono h hs3

set_option maxHeartbeats 800000 in
theorem rtext_any (t : Tg) (v : Value) (w : World) (lo : Nat) (hv : ListOk Enc.str w lo w.heap.size v t.vars) (hn : t.vars.length ≤ 4398046511104) (hj : (tagText t).size ≤ 140737488355328) :
    Calls Tryd.prog 20 #[.agg #[.string t.lang, .string t.script, .string t.region, v]] w fun e w' => e = .returned (.string (tagText t)) ∧ Below w.heap.size w w' := by
  have HP := Lib.hid (fun W (hW : Below w.heap.size w W) => parts_any t v W lo ((hv.below Enc.str_laws hW).mono Enc.str_laws (Nat.le_refl _) hW.size) hn)
  have HJ := Lib.hid hj
  have HPl : Hid ((parts t).length ≤ 4398046511107) := Lib.hid (Nat.le_trans (List.length_filter_le _ _) (by simp; omega))
  clear hv hj
  go_enter Tryd.func20, Tryd.ntmps20
  go_wp2_with fail
  refine (HP.out _ ((Below.refl _ _).alloc (Nat.le_refl _) _)).mono ?_
  rintro e w1 ⟨u, rfl, hown, hb⟩
  have HB := Lib.hid (((Below.refl w.heap.size w).alloc (Nat.le_refl _) _).trans (hb.mono (by simp)))
  obtain ⟨A, c, rfl, _⟩ := own_slice hown
  have HX := Lib.hid (joined_any _ (parts t) dash _ _ w1 (ListOk.strs_of_own hown (Nat.le_refl _) (Nat.le_refl _)) (by have := HPl.out; omega) HJ.out)
  clear hown hb HP HPl
  go_wp2_with fail
  refine HX.out.mono ?_
  rintro e w2 ⟨rfl, rfl⟩
  go_wp2_with fail
  go_ret
  exact ⟨rfl, HB.out⟩
end Go.Proofs.YtdmjelkjeiinjaaDoor
