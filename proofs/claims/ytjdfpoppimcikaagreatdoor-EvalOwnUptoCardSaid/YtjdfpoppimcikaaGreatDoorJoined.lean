/- rule.joined at its three element types. -/
import Derived.Test.YtjdfpoppimcikaaGreatDoorRuleT
import Derived.Test.YtjdfpoppimcikaaGreatDoorAppend
namespace Go.Proofs.YtjdfpoppimcikaaGreatDoor
open Go.RowKit

theorem one_newsJ (w : World) (X : ByteArray) (t : TypeId) : ∀ q u, ([Value.string X] : List Value)[q]? = some u → (w.alloc (.cells #[.string X] t)).cell? ⟨w.heap.size, 0 + q, none⟩ = some u := fun q u hq => by
  rw [Nat.zero_add, (Blk.new w t #[.string X]).cell q]; simpa using hq
theorem own_ltJ {w : World} {base : Nat} {e : TypeId} {size : Nat} {v : Value} {n : Nat} {xs : List Value} (h : w.ownsRow base e size v n xs) : ∀ k, v.ownBlock = some k → base ≤ k := fun _ hk => (own_lt h hk).1
theorem info_strJ : (Tryz.prog.info? 9).map (fun i => (i.zero, i.size, i.bytes)) = some (some (.string ByteArray.empty), 1, 16) := by kernel_rfl
theorem ListOk.pairAt {w : World} {lo hi : Nat} {A : Option Addr} {n c : Nat} {l : List (Int × Int)} (h : ListOk Enc.pair w lo hi (.slice A n c) l) (i : Nat) (hl : i < l.length) :
    ∃ b o, A = some ⟨b, o, none⟩ ∧ lo ≤ b ∧ b < hi ∧ w.cell? ⟨b, o + i * 2, none⟩ = some (.int .i64 l[i].1) ∧ w.cell? ⟨b, o + i * 2 + 1, none⟩ = some (.int .i64 l[i].2) := by
  obtain ⟨A', c', hv, _, hi'⟩ := h
  injection hv with hv1 _ _
  subst hv1
  obtain ⟨b, o, cs, hA, h1, h2, h3, h4⟩ := hi' i hl
  have h4' : cs = [.int .i64 l[i].1, .int .i64 l[i].2] := h4
  subst h4'
  exact ⟨b, o, hA, h1, h2, h3 0 _ rfl, h3 1 _ rfl⟩
theorem ListOk.rlAt {w : World} {lo hi : Nat} {A : Option Addr} {n c : Nat} {l : List Rl} (h : ListOk Enc.rl w lo hi (.slice A n c) l) (i : Nat) (hl : i < l.length) :
    ∃ b o v, A = some ⟨b, o, none⟩ ∧ lo ≤ b ∧ b < hi ∧ w.cell? ⟨b, o + i * 4, none⟩ = some (.int .u8 l[i].op.toNat) ∧ w.cell? ⟨b, o + i * 4 + 1, none⟩ = some (.int .i64 l[i].mod) ∧ w.cell? ⟨b, o + i * 4 + 2, none⟩ = some (.bool l[i].neg) ∧ w.cell? ⟨b, o + i * 4 + 3, none⟩ = some v ∧ ListOk Enc.pair w lo hi v l[i].rng := by
  obtain ⟨A', c', hv, _, hi'⟩ := h
  injection hv with hv1 _ _
  subst hv1
  obtain ⟨b, o, cs, hA, h1, h2, h3, v, h4, h5⟩ := hi' i hl
  subst h4
  exact ⟨b, o, v, hA, h1, h2, h3 0 _ rfl, h3 1 _ rfl, h3 2 _ rfl, h3 3 _ rfl, h5⟩
theorem ListOk.listAt {α : Type} {E : Enc α} {w : World} {lo hi : Nat} {A : Option Addr} {n c : Nat} {l : List (List α)} (h : ListOk (Enc.list E) w lo hi (.slice A n c) l) (i : Nat) (hl : i < l.length) :
    ∃ b o v, A = some ⟨b, o, none⟩ ∧ lo ≤ b ∧ b < hi ∧ w.cell? ⟨b, o + i, none⟩ = some v ∧ ListOk E w lo hi v l[i] := by
  obtain ⟨A', c', hv, _, hi'⟩ := h
  injection hv with hv1 _ _
  subst hv1
  obtain ⟨b, o, cs, hA, h1, h2, h3, v, h4, h5⟩ := hi' i hl
  subst h4
  have e : Enc.sz (Enc.list E) = 1 := rfl
  have := h3 0 _ rfl
  rw [e, Nat.mul_one, Nat.add_zero] at this
  exact ⟨b, o, v, hA, h1, h2, this, h5⟩
def joinT {α : Type} (T : α → List UInt8) (l : List α) (sep : List UInt8) : List UInt8 := Lib.join (l.map T) sep
theorem join_anyJ (v : Value) (ls : List (List UInt8)) (sep : List UInt8) (base : Nat) (w : World) (h : w.ownsRow base 9 1 v ls.length (ls.map fun x => Value.string (str x))) (hn : ls.length ≤ 10000000) (hj : (Lib.join ls sep).length ≤ 1000000000) :
    Calls Tryz.prog 128 #[v, .string (str sep)] w fun e w' => e = .returned (.string (str (Lib.join ls sep))) ∧ Below w.heap.size w w' := by
  have hs : (ls.map str).map (·.data.toList) = ls := by
    rw [List.map_map]
    conv => rhs; rw [← List.map_id ls]
    exact List.map_congr_left fun x _ => bts_str x
  by_cases h0 : ls.length = 0
  · obtain rfl : ls = [] := List.length_eq_zero_iff.1 h0
    obtain ⟨A, c, rfl, _⟩ := own_slice h
    refine (Tryz.strings_Join_none A c (str sep) w).mono ?_
    rintro e w' ⟨rfl, rfl⟩
    exact ⟨rfl, Below.refl _ _⟩
  · have hl := ListOk.strs_of_own (l := ls.map str) (lo := base) (hi := w.heap.size) (by rw [List.length_map, List.map_map]; exact h) (Nat.le_refl _) (Nat.le_refl _)
    obtain ⟨A, c, rfl, hc⟩ := hl.form
    obtain ⟨b, o, rfl, _, hb, _⟩ := hl.strAt 0 (by rw [List.length_map]; omega)
    have h1 := Tryz.strings_Join b o c (ls.map str) (str sep) w (fun j x hx => by
      have hj : j < (ls.map str).length := (List.getElem?_eq_some_iff.1 hx).1
      obtain ⟨b', o', hA, _, _, x0⟩ := hl.strAt j hj
      injection hA with hA
      injection hA with e1 e2
      subst e1; subst e2
      rw [x0]
      rw [List.getElem?_eq_getElem hj] at hx
      injection hx with hx
      rw [hx]) hb (by rw [List.length_map]; omega) hc (by rw [hs]; exact Nat.le_trans hj (by decide))
    rw [hs] at h1
    exact h1
set_option maxHeartbeats 3200000 in
set_option maxRecDepth 100000 in
theorem joinedP_any (l : List (Int × Int)) (v : Value) (sep : List UInt8) (T : (Int × Int) → List UInt8) (lo : Nat) (w : World) (hv : ListOk Enc.pair w lo w.heap.size v l) (hn : l.length ≤ 10000000) (hj : (joinT T l sep).length ≤ 1000000000)
    (HT : Hid (∀ x ∈ l, ∀ W, Below w.heap.size w W → Calls Tryz.prog 180 #[.agg #[.int .i64 x.1, .int .i64 x.2]] W fun e w' => e = .returned (.string (str (T x))) ∧ Below W.heap.size W w')) :
    Calls Tryz.prog 179 #[v, .string (str sep), .func (.func 180) #[] #[]] w fun e w' => e = .returned (.string (str (joinT T l sep))) ∧ Below w.heap.size w w' := by
  obtain ⟨A, c, rfl, hc⟩ := hv.form
  have HV : Hid (∀ W, Below w.heap.size w W → ListOk Enc.pair W lo w.heap.size (.slice A l.length c) l) := Lib.hid fun W hW => hv.below Enc.pair_laws hW
  have HJ := Lib.hid hj
  clear hv hj
  go_enter Tryz.func179, Tryz.ntmps179
  go_wp2_with fail
  go_loopw [7, 9, 12] (fun o _ i wr => ∃ j : Nat, j ≤ l.length ∧ i = .int .i64 (j : Int) ∧ wr.ownsRow w.heap.size 9 1 o ((l.take j).map T).length (((l.take j).map T).map fun x => Value.string (str x)) ∧ Below w.heap.size w wr) (fun _ _ i _ => l.length - (intOf i).toNat)
  case atStart => exact ⟨0, Nat.zero_le _, rfl, own_nil, Below.refl _ _⟩
  case round =>
    obtain ⟨j, hj, rfl, hown, hb⟩ := hrel
    have HO := Lib.hid hown
    have HB := Lib.hid hb
    have hbs := hb.size
    have htl : ((l.take j).map T).length = j := by rw [List.length_map, List.length_take]; omega
    obtain ⟨B, cc, rfl, _⟩ := own_slice hown
    by_cases hlt : j < l.length
    · have hx : l[j] ∈ l := List.getElem_mem hlt
      have htk : (l.take (j + 1)).map T = (l.take j).map T ++ [T l[j]] := by rw [List.take_succ_eq_append_getElem hlt, List.map_append]; rfl
      have HTk := Lib.hid htk
      have HTj := Lib.hid (HT.out l[j] hx)
      rw [htl] at hown ⊢
      have HO := Lib.hid hown
      obtain ⟨b0, o0, rfl, hb1, hb2, x0, x1⟩ := (HV.out _ hb).pairAt j hlt
      generalize l[j] = e at *
      obtain ⟨e0, e1⟩ := e
      dsimp only at x0 x1 HTj HTk
      have HTw := Lib.hid (HTj.out (wr.alloc (.cells #[.int .i64 e0, .int .i64 e1] 257)) (hb.alloc hbs _))
      clear hown hb htk hx
      have i1 : (0 : Int) ≤ (j : Int) := Int.natCast_nonneg j
      have i2 : (j : Int) < (l.length : Int) := by omega
      clear HTj HT
      go_wp2_with fail
      refine HTw.out.mono ?_
      clear HTw
      rintro e w1 ⟨rfl, hb1'⟩
      have HB1 := Lib.hid ((HB.out.alloc hbs _).trans (hb1'.mono (by simp; omega)))
      have HO1 := Lib.hid (own_below HO.out ((Below.refl _ _).alloc (Nat.le_refl _) _ |>.trans (hb1'.mono (by simp))) (Nat.le_refl _))
      have hbs1 := HB1.out.size
      clear hb1'
      go_wp2_with (at_builtin; refine wpList_append_any rfl _ _ 211 rfl w.heap.size 9 Tryz.underlying211 info_strJ rfl (by decide) (((l.take j).map T).map fun x => Value.string (str x)) rfl (HO1.out.alloc _) [.string (str (T (e0, e1)))] rfl rfl (.inr ⟨_, _, rfl, one_newsJ _ _ _⟩) (by simp [Value.oneCell']) (by unfold maxLen; omega) (by omega) (by simp; omega) ?_)
      intro v3 w3 hown3 hgrow3 _
      have hle : ((l.take (j + 1)).map T).length = j + 1 := by rw [List.length_map, List.length_take]; omega
      have HO3 : Hid (w3.ownsRow w.heap.size 9 1 v3 ((l.take (j + 1)).map T).length (((l.take (j + 1)).map T).map fun x => Value.string (str x))) := Lib.hid (by
        rw [hle, HTk.out, List.map_append]
        simpa [List.map_take, Function.comp_def] using hown3)
      have HB3 := Lib.hid ((HB1.out.alloc hbs1 _).grown hgrow3 (by simp; omega) (own_ltJ HO1.out))
      clear hown3 hgrow3 hle
      go_wp2_with fail
      go_roundw
      case rel => exact ⟨j + 1, by omega, by go_num, HO3.out, HB3.out⟩
      case measure => simp [intOf]; omega
    · obtain rfl : j = l.length := by omega
      rw [List.take_length] at HO htl
      have HJo := Lib.hid (join_anyJ _ (l.map T) sep w.heap.size wr HO.out (by rw [List.length_map]; exact hn) HJ.out)
      rw [htl] at HJo
      rw [List.take_length, htl]
      clear hown hb HO htl
      go_wp2_with fail
      refine HJo.out.mono ?_
      clear HJo
      rintro e w2 ⟨rfl, hb2⟩
      have HB2 := Lib.hid (HB.out.trans (hb2.mono HB.out.size))
      clear hb2
      go_wp2_with fail
      go_ret
      exact ⟨rfl, HB2.out⟩
set_option maxHeartbeats 3200000 in
set_option maxRecDepth 100000 in
theorem joinedR_any (l : List Rl) (v : Value) (sep : List UInt8) (T : Rl → List UInt8) (lo : Nat) (w : World) (hv : ListOk Enc.rl w lo w.heap.size v l) (hn : l.length ≤ 10000000) (hj : (joinT T l sep).length ≤ 1000000000)
    (HT : Hid (∀ x ∈ l, ∀ W, Below w.heap.size w W → ∀ V, ListOk Enc.pair W lo W.heap.size V x.rng → Calls Tryz.prog 160 #[.agg #[.int .u8 x.op.toNat, .int .i64 x.mod, .bool x.neg, V]] W fun e w' => e = .returned (.string (str (T x))) ∧ Below W.heap.size W w')) :
    Calls Tryz.prog 159 #[v, .string (str sep), .func (.func 160) #[] #[]] w fun e w' => e = .returned (.string (str (joinT T l sep))) ∧ Below w.heap.size w w' := by
  obtain ⟨A, c, rfl, hc⟩ := hv.form
  have HV : Hid (∀ W, Below w.heap.size w W → ListOk Enc.rl W lo w.heap.size (.slice A l.length c) l) := Lib.hid fun W hW => hv.below Enc.rl_laws hW
  have HJ := Lib.hid hj
  clear hv hj
  go_enter Tryz.func159, Tryz.ntmps159
  go_wp2_with fail
  go_loopw [7, 9, 12] (fun o _ i wr => ∃ j : Nat, j ≤ l.length ∧ i = .int .i64 (j : Int) ∧ wr.ownsRow w.heap.size 9 1 o ((l.take j).map T).length (((l.take j).map T).map fun x => Value.string (str x)) ∧ Below w.heap.size w wr) (fun _ _ i _ => l.length - (intOf i).toNat)
  case atStart => exact ⟨0, Nat.zero_le _, rfl, own_nil, Below.refl _ _⟩
  case round =>
    obtain ⟨j, hj, rfl, hown, hb⟩ := hrel
    have HO := Lib.hid hown
    have HB := Lib.hid hb
    have hbs := hb.size
    have htl : ((l.take j).map T).length = j := by rw [List.length_map, List.length_take]; omega
    obtain ⟨B, cc, rfl, _⟩ := own_slice hown
    by_cases hlt : j < l.length
    · have hx : l[j] ∈ l := List.getElem_mem hlt
      have htk : (l.take (j + 1)).map T = (l.take j).map T ++ [T l[j]] := by rw [List.take_succ_eq_append_getElem hlt, List.map_append]; rfl
      have HTk := Lib.hid htk
      have HTj := Lib.hid (HT.out l[j] hx)
      rw [htl] at hown ⊢
      have HO := Lib.hid hown
      obtain ⟨b0, o0, V, rfl, hb1, hb2, x0, x1, x2, x3, hV⟩ := (HV.out _ hb).rlAt j hlt
      generalize l[j] = e at *
      obtain ⟨e0, e1, e2, e3⟩ := e
      dsimp only at x0 x1 x2 x3 hV HTj HTk
      obtain ⟨VA, Vc, rfl, _⟩ := hV.form
      have HTw := Lib.hid (HTj.out (wr.alloc (.cells #[.int .u8 e0.toNat, .int .i64 e1, .bool e2, .slice VA e3.length Vc] 239)) (hb.alloc hbs _) _ ((hV.keep Enc.pair_laws (Alk.of_below ((Below.refl _ wr).alloc (Nat.le_refl _) _) |>.mono (Nat.zero_le _) hbs)).mono Enc.pair_laws (Nat.le_refl _) (by simp; omega)))
      clear hV
      clear hown hb htk hx
      have i1 : (0 : Int) ≤ (j : Int) := Int.natCast_nonneg j
      have i2 : (j : Int) < (l.length : Int) := by omega
      clear HTj HT
      go_wp2_with fail
      refine HTw.out.mono ?_
      clear HTw
      rintro e w1 ⟨rfl, hb1'⟩
      have HB1 := Lib.hid ((HB.out.alloc hbs _).trans (hb1'.mono (by simp; omega)))
      have HO1 := Lib.hid (own_below HO.out ((Below.refl _ _).alloc (Nat.le_refl _) _ |>.trans (hb1'.mono (by simp))) (Nat.le_refl _))
      have hbs1 := HB1.out.size
      clear hb1'
      go_wp2_with (at_builtin; refine wpList_append_any rfl _ _ 211 rfl w.heap.size 9 Tryz.underlying211 info_strJ rfl (by decide) (((l.take j).map T).map fun x => Value.string (str x)) rfl (HO1.out.alloc _) [.string (str (T ⟨e0, e1, e2, e3⟩))] rfl rfl (.inr ⟨_, _, rfl, one_newsJ _ _ _⟩) (by simp [Value.oneCell']) (by unfold maxLen; omega) (by omega) (by simp; omega) ?_)
      intro v3 w3 hown3 hgrow3 _
      have hle : ((l.take (j + 1)).map T).length = j + 1 := by rw [List.length_map, List.length_take]; omega
      have HO3 : Hid (w3.ownsRow w.heap.size 9 1 v3 ((l.take (j + 1)).map T).length (((l.take (j + 1)).map T).map fun x => Value.string (str x))) := Lib.hid (by
        rw [hle, HTk.out, List.map_append]
        simpa [List.map_take, Function.comp_def] using hown3)
      have HB3 := Lib.hid ((HB1.out.alloc hbs1 _).grown hgrow3 (by simp; omega) (own_ltJ HO1.out))
      clear hown3 hgrow3 hle
      go_wp2_with fail
      go_roundw
      case rel => exact ⟨j + 1, by omega, by go_num, HO3.out, HB3.out⟩
      case measure => simp [intOf]; omega
    · obtain rfl : j = l.length := by omega
      rw [List.take_length] at HO htl
      have HJo := Lib.hid (join_anyJ _ (l.map T) sep w.heap.size wr HO.out (by rw [List.length_map]; exact hn) HJ.out)
      rw [htl] at HJo
      rw [List.take_length, htl]
      clear hown hb HO htl
      go_wp2_with fail
      refine HJo.out.mono ?_
      clear HJo
      rintro e w2 ⟨rfl, hb2⟩
      have HB2 := Lib.hid (HB.out.trans (hb2.mono HB.out.size))
      clear hb2
      go_wp2_with fail
      go_ret
      exact ⟨rfl, HB2.out⟩
set_option maxHeartbeats 3200000 in
set_option maxRecDepth 100000 in
theorem joinedL_any (l : List (List Rl)) (v : Value) (sep : List UInt8) (T : (List Rl) → List UInt8) (lo : Nat) (w : World) (hv : ListOk (Enc.list Enc.rl) w lo w.heap.size v l) (hn : l.length ≤ 10000000) (hj : (joinT T l sep).length ≤ 1000000000)
    (HT : Hid (∀ x ∈ l, ∀ W, Below w.heap.size w W → ∀ V, ListOk Enc.rl W lo W.heap.size V x → Calls Tryz.prog 158 #[V] W fun e w' => e = .returned (.string (str (T x))) ∧ Below W.heap.size W w')) :
    Calls Tryz.prog 157 #[v, .string (str sep), .func (.func 158) #[] #[]] w fun e w' => e = .returned (.string (str (joinT T l sep))) ∧ Below w.heap.size w w' := by
  obtain ⟨A, c, rfl, hc⟩ := hv.form
  have HV : Hid (∀ W, Below w.heap.size w W → ListOk (Enc.list Enc.rl) W lo w.heap.size (.slice A l.length c) l) := Lib.hid fun W hW => hv.below (Enc.list_laws Enc.rl_laws) hW
  have HJ := Lib.hid hj
  clear hv hj
  go_enter Tryz.func157, Tryz.ntmps157
  go_wp2_with fail
  go_loopw [7, 9, 12] (fun o _ i wr => ∃ j : Nat, j ≤ l.length ∧ i = .int .i64 (j : Int) ∧ wr.ownsRow w.heap.size 9 1 o ((l.take j).map T).length (((l.take j).map T).map fun x => Value.string (str x)) ∧ Below w.heap.size w wr) (fun _ _ i _ => l.length - (intOf i).toNat)
  case atStart => exact ⟨0, Nat.zero_le _, rfl, own_nil, Below.refl _ _⟩
  case round =>
    obtain ⟨j, hj, rfl, hown, hb⟩ := hrel
    have HO := Lib.hid hown
    have HB := Lib.hid hb
    have hbs := hb.size
    have htl : ((l.take j).map T).length = j := by rw [List.length_map, List.length_take]; omega
    obtain ⟨B, cc, rfl, _⟩ := own_slice hown
    by_cases hlt : j < l.length
    · have hx : l[j] ∈ l := List.getElem_mem hlt
      have htk : (l.take (j + 1)).map T = (l.take j).map T ++ [T l[j]] := by rw [List.take_succ_eq_append_getElem hlt, List.map_append]; rfl
      have HTk := Lib.hid htk
      have HTj := Lib.hid (HT.out l[j] hx)
      rw [htl] at hown ⊢
      have HO := Lib.hid hown
      obtain ⟨b0, o0, V, rfl, hb1, hb2, x0, hV⟩ := (HV.out _ hb).listAt j hlt
      generalize l[j] = e at *
      obtain ⟨VA, Vc, rfl, _⟩ := hV.form
      have HTw := Lib.hid (HTj.out wr hb _ (hV.mono Enc.rl_laws (Nat.le_refl _) hbs))
      clear hV
      clear hown hb htk hx
      have i1 : (0 : Int) ≤ (j : Int) := Int.natCast_nonneg j
      have i2 : (j : Int) < (l.length : Int) := by omega
      clear HTj HT
      go_wp2_with fail
      refine HTw.out.mono ?_
      clear HTw
      rintro e w1 ⟨rfl, hb1'⟩
      have HB1 := Lib.hid (HB.out.trans (hb1'.mono hbs))
      have HO1 := Lib.hid (own_below HO.out hb1' (Nat.le_refl _))
      have hbs1 := HB1.out.size
      clear hb1'
      go_wp2_with (at_builtin; refine wpList_append_any rfl _ _ 211 rfl w.heap.size 9 Tryz.underlying211 info_strJ rfl (by decide) (((l.take j).map T).map fun x => Value.string (str x)) rfl (HO1.out.alloc _) [.string (str (T e))] rfl rfl (.inr ⟨_, _, rfl, one_newsJ _ _ _⟩) (by simp [Value.oneCell']) (by unfold maxLen; omega) (by omega) (by simp; omega) ?_)
      intro v3 w3 hown3 hgrow3 _
      have hle : ((l.take (j + 1)).map T).length = j + 1 := by rw [List.length_map, List.length_take]; omega
      have HO3 : Hid (w3.ownsRow w.heap.size 9 1 v3 ((l.take (j + 1)).map T).length (((l.take (j + 1)).map T).map fun x => Value.string (str x))) := Lib.hid (by
        rw [hle, HTk.out, List.map_append]
        simpa [List.map_take, Function.comp_def] using hown3)
      have HB3 := Lib.hid ((HB1.out.alloc hbs1 _).grown hgrow3 (by simp; omega) (own_ltJ HO1.out))
      clear hown3 hgrow3 hle
      go_wp2_with fail
      go_roundw
      case rel => exact ⟨j + 1, by omega, by go_num, HO3.out, HB3.out⟩
      case measure => simp [intOf]; omega
    · obtain rfl : j = l.length := by omega
      rw [List.take_length] at HO htl
      have HJo := Lib.hid (join_anyJ _ (l.map T) sep w.heap.size wr HO.out (by rw [List.length_map]; exact hn) HJ.out)
      rw [htl] at HJo
      rw [List.take_length, htl]
      clear hown hb HO htl
      go_wp2_with fail
      refine HJo.out.mono ?_
      clear HJo
      rintro e w2 ⟨rfl, hb2⟩
      have HB2 := Lib.hid (HB.out.trans (hb2.mono HB.out.size))
      clear hb2
      go_wp2_with fail
      go_ret
      exact ⟨rfl, HB2.out⟩
end Go.Proofs.YtjdfpoppimcikaaGreatDoor
