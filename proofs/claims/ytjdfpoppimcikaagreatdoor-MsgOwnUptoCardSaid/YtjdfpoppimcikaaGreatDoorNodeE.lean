/- rule.joined at its three element types. -/
import Derived.Test.YtjdfpoppimcikaaGreatDoorRuleT
import Derived.Test.YtjdfpoppimcikaaGreatDoorAppend
namespace Go.Proofs.YtjdfpoppimcikaaGreatDoor
open Go.RowKit

theorem one_newsJ (w : World) (X : ByteArray) (t : TypeId) : ∀ q u, ([Value.string X] : List Value)[q]? = some u → (w.alloc (.cells #[.string X] t)).cell? ⟨w.heap.size, 0 + q, none⟩ = some u := fun q u hq => by
  rw [Nat.zero_add, (Blk.new w t #[.string X]).cell q]; simpa using hq
theorem own_ltJ {w : World} {base : Nat} {e : TypeId} {size : Nat} {v : Value} {n : Nat} {xs : List Value} (h : w.ownsRow base e size v n xs) : ∀ k, v.ownBlock = some k → base ≤ k := fun _ hk => (own_lt h hk).1
theorem info_strJ : (Tryz.prog.info? 9).map (fun i => (i.zero, i.size, i.bytes)) = some (some (.string ByteArray.empty), 1, 16) := by kernel_rfl
theorem ListOk.pairAt {w : World} {lo hi : Nat} {A : Option Addr} {n c : Nat} {l : List (Int × Int)} (h : ListOk Enc.pair w lo hi (.slice A n c) l) (i : Nat) (hl : i < l.length) :
    ∃ b o, A = some ⟨b, o, none⟩ ∧ lo ≤ b ∧ b < hi ∧ w.cell? ⟨b, o + i * 2, none⟩ = some (.int .i64 l[i].1) ∧ w.cell? ⟨b, o + i * 2 + 1, none⟩ = some (.int .i64 l[i].2) := by
  obtain ⟨A', c', hv, _, hi'⟩ := h
  injection hv with hv1 _ _
  subst hv1
  obtain ⟨b, o, cs, hA, h1, h2, h3, h4⟩ := hi' i hl
  have h4' : cs = [.int .i64 l[i].1, .int .i64 l[i].2] := h4
  subst h4'
  exact ⟨b, o, hA, h1, h2, h3 0 _ rfl, h3 1 _ rfl⟩
theorem ListOk.rlAt {w : World} {lo hi : Nat} {A : Option Addr} {n c : Nat} {l : List Rl} (h : ListOk Enc.rl w lo hi (.slice A n c) l) (i : Nat) (hl : i < l.length) :
    ∃ b o v, A = some ⟨b, o, none⟩ ∧ lo ≤ b ∧ b < hi ∧ w.cell? ⟨b, o + i * 4, none⟩ = some (.int .u8 l[i].op.toNat) ∧ w.cell? ⟨b, o + i * 4 + 1, none⟩ = some (.int .i64 l[i].mod) ∧ w.cell? ⟨b, o + i * 4 + 2, none⟩ = some (.bool l[i].neg) ∧ w.cell? ⟨b, o + i * 4 + 3, none⟩ = some v ∧ ListOk Enc.pair w lo hi v l[i].rng := by
  obtain ⟨A', c', hv, _, hi'⟩ := h
  injection hv with hv1 _ _
  subst hv1
  obtain ⟨b, o, cs, hA, h1, h2, h3, v, h4, h5⟩ := hi' i hl
  subst h4
  exact ⟨b, o, v, hA, h1, h2, h3 0 _ rfl, h3 1 _ rfl, h3 2 _ rfl, h3 3 _ rfl, h5⟩
theorem ListOk.listAt {α : Type} {E : Enc α} {w : World} {lo hi : Nat} {A : Option Addr} {n c : Nat} {l : List (List α)} (h : ListOk (Enc.list E) w lo hi (.slice A n c) l) (i : Nat) (hl : i < l.length) :
    ∃ b o v, A = some ⟨b, o, none⟩ ∧ lo ≤ b ∧ b < hi ∧ w.cell? ⟨b, o + i, none⟩ = some v ∧ ListOk E w lo hi v l[i] := by
  obtain ⟨A', c', hv, _, hi'⟩ := h
  injection hv with hv1 _ _
  subst hv1
  obtain ⟨b, o, cs, hA, h1, h2, h3, v, h4, h5⟩ := hi' i hl
  subst h4
  have e : Enc.sz (Enc.list E) = 1 := rfl
  have := h3 0 _ rfl
  rw [e, Nat.mul_one, Nat.add_zero] at this
  exact ⟨b, o, v, hA, h1, h2, this, h5⟩
def joinT {α : Type} (T : α → List UInt8) (l : List α) (sep : List UInt8) : List UInt8 := Lib.join (l.map T) sep
theorem join_anyJ (v : Value) (ls : List (List UInt8)) (sep : List UInt8) (base : Nat) (w : World) (h : w.ownsRow base 9 1 v ls.length (ls.map fun x => Value.string (str x))) (hn : ls.length ≤ 10000000) (hj : (Lib.join ls sep).length ≤ 1000000000) :
    Calls Tryz.prog 128 #[v, .string (str sep)] w fun e w' => e = .returned (.string (str (Lib.join ls sep))) ∧ Below w.heap.size w w' := by
  have hs : (ls.map str).map (·.data.toList) = ls := by
    rw [List.map_map]
    conv => rhs; rw [← List.map_id ls]
    exact List.map_congr_left fun x _ => bts_str x
  by_cases h0 : ls.length = 0
  · obtain rfl : ls = [] := List.length_eq_zero_iff.1 h0
    obtain ⟨A, c, rfl, _⟩ := own_slice h
    refine (Tryz.strings_Join_none A c (str sep) w).mono ?_
    rintro e w' ⟨rfl, rfl⟩
    exact ⟨rfl, Below.refl _ _⟩
  · have hl := ListOk.strs_of_own (l := ls.map str) (lo := base) (hi := w.heap.size) (by rw [List.length_map, List.map_map]; exact h) (Nat.le_refl _) (Nat.le_refl _)
    obtain ⟨A, c, rfl, hc⟩ := hl.form
    obtain ⟨b, o, rfl, _, hb, _⟩ := hl.strAt 0 (by rw [List.length_map]; omega)
    have h1 := Tryz.strings_Join b o c (ls.map str) (str sep) w (fun j x hx => by
      have hj : j < (ls.map str).length := (List.getElem?_eq_some_iff.1 hx).1
      obtain ⟨b', o', hA, _, _, x0⟩ := hl.strAt j hj
      injection hA with hA
      injection hA with e1 e2
      subst e1; subst e2
      rw [x0]
      rw [List.getElem?_eq_getElem hj] at hx
      injection hx with hx
      rw [hx]) hb (by rw [List.length_map]; omega) hc (by rw [hs]; exact Nat.le_trans hj (by decide))
    rw [hs] at h1
    exact h1
set_option maxHeartbeats 3200000 in
set_option maxRecDepth 100000 in
theorem joinedP_any (l : List (Int × Int)) (v : Value) (sep : List UInt8) (T : (Int × Int) → List UInt8) (lo : Nat) (w : World) (hv : ListOk Enc.pair w lo w.heap.size v l) (hn : l.length ≤ 10000000) (hj : (joinT T l sep).length ≤ 1000000000)
    (HT : Hid (∀ x ∈ l, ∀ W, Below w.heap.size w W → Calls Tryz.prog 180 #[.agg #[.int .i64 x.1, .int .i64 x.2]] W fun e w' => e = .returned (.string (str (T x))) ∧ Below W.heap.size W w')) :
    Calls Tryz.prog 179 #[v, .string (str sep), .func (.func 180) #[] #[]] w fun e w' => e = .returned (.string (str (joinT T l sep))) ∧ Below w.heap.size w w' := by
  obtain ⟨A, c, rfl, hc⟩ := hv.form
  have HV : Hid (∀ W, Below w.heap.size w W → ListOk Enc.pair W lo w.heap.size (.slice A l.length c) l) := Lib.hid fun W hW => hv.below Enc.pair_laws hW
  have HJ := Lib.hid hj
  clear hv hj
  go_enter Tryz.func179, Tryz.ntmps179
  go_wp2_with fail
  go_loopw [7, 9, 12] (fun o _ i wr => ∃ j : Nat, j ≤ l.length ∧ i = .int .i64 (j : Int) ∧ wr.ownsRow w.heap.size 9 1 o ((l.take j).map T).length (((l.take j).map T).map fun x => Value.string (str x)) ∧ Below w.heap.size w wr) (fun _ _ i _ => l.length - (intOf i).toNat)
  case atStart => exact ⟨0, Nat.zero_le _, rfl, own_nil, Below.refl _ _⟩
  case round =>
    obtain ⟨j, hj, rfl, hown, hb⟩ := hrel
    have HO := Lib.hid hown
    have HB := Lib.hid hb
    have hbs := hb.size
    have htl : ((l.take j).map T).length = j := by rw [List.length_map, List.length_take]; omega
    obtain ⟨B, cc, rfl, _⟩ := own_slice hown
    by_cases hlt : j < l.length
    · have hx : l[j] ∈ l := List.getElem_mem hlt
      have htk : (l.take (j + 1)).map T = (l.take j).map T ++ [T l[j]] := by rw [List.take_succ_eq_append_getElem hlt, List.map_append]; rfl
      have HTk := Lib.hid htk
      have HTj := Lib.hid (HT.out l[j] hx)
      rw [htl] at hown ⊢
      have HO := Lib.hid hown
      obtain ⟨b0, o0, rfl, hb1, hb2, x0, x1⟩ := (HV.out _ hb).pairAt j hlt
      generalize l[j] = e at *
      obtain ⟨e0, e1⟩ := e
      dsimp only at x0 x1 HTj HTk
      have HTw := Lib.hid (HTj.out (wr.alloc (.cells #[.int .i64 e0, .int .i64 e1] 257)) (hb.alloc hbs _))
      clear hown hb htk hx
      have i1 : (0 : Int) ≤ (j : Int) := Int.natCast_nonneg j
      have i2 : (j : Int) < (l.length : Int) := by omega
      clear HTj HT
      go_wp2_with fail
      refine HTw.out.mono ?_
      clear HTw
      rintro e w1 ⟨rfl, hb1'⟩
      have HB1 := Lib.hid ((HB.out.alloc hbs _).trans (hb1'.mono (by simp; omega)))
      have HO1 := Lib.hid (own_below HO.out ((Below.refl _ _).alloc (Nat.le_refl _) _ |>.trans (hb1'.mono (by simp))) (Nat.le_refl _))
      have hbs1 := HB1.out.size
      clear hb1'
      go_wp2_with (at_builtin; refine wpList_append_any rfl _ _ 211 rfl w.heap.size 9 Tryz.underlying211 info_strJ rfl (by decide) (((l.take j).map T).map fun x => Value.string (str x)) rfl (HO1.out.alloc _) [.string (str (T (e0, e1)))] rfl rfl (.inr ⟨_, _, rfl, one_newsJ _ _ _⟩) (by simp [Value.oneCell']) (by unfold maxLen; omega) (by omega) (by simp; omega) ?_)
      intro v3 w3 hown3 hgrow3 _
      have hle : ((l.take (j + 1)).map T).length = j + 1 := by rw [List.length_map, List.length_take]; omega
      have HO3 : Hid (w3.ownsRow w.heap.size 9 1 v3 ((l.take (j + 1)).map T).length (((l.take (j + 1)).map T).map fun x => Value.string (str x))) := Lib.hid (by
        rw [hle, HTk.out, List.map_append]
        simpa [List.map_take, Function.comp_def] using hown3)
      have HB3 := Lib.hid ((HB1.out.alloc hbs1 _).grown hgrow3 (by simp; omega) (own_ltJ HO1.out))
      clear hown3 hgrow3 hle
      go_wp2_with fail
      go_roundw
      case rel => exact ⟨j + 1, by omega, by go_num, HO3.out, HB3.out⟩
      case measure => simp [intOf]; omega
    · obtain rfl : j = l.length := by omega
      rw [List.take_length] at HO htl
      have HJo := Lib.hid (join_anyJ _ (l.map T) sep w.heap.size wr HO.out (by rw [List.length_map]; exact hn) HJ.out)
      rw [htl] at HJo
      rw [List.take_length, htl]
      clear hown hb HO htl
      go_wp2_with fail
      refine HJo.out.mono ?_
      clear HJo
      rintro e w2 ⟨rfl, hb2⟩
      have HB2 := Lib.hid (HB.out.trans (hb2.mono HB.out.size))
      clear hb2
      go_wp2_with fail
      go_ret
      exact ⟨rfl, HB2.out⟩
set_option maxHeartbeats 3200000 in
set_option maxRecDepth 100000 in
theorem joinedR_any (l : List Rl) (v : Value) (sep : List UInt8) (T : Rl → List UInt8) (lo : Nat) (w : World) (hv : ListOk Enc.rl w lo w.heap.size v l) (hn : l.length ≤ 10000000) (hj : (joinT T l sep).length ≤ 1000000000)
    (HT : Hid (∀ x ∈ l, ∀ W, Below w.heap.size w W → ∀ V, ListOk Enc.pair W lo W.heap.size V x.rng → Calls Tryz.prog 160 #[.agg #[.int .u8 x.op.toNat, .int .i64 x.mod, .bool x.neg, V]] W fun e w' => e = .returned (.string (str (T x))) ∧ Below W.heap.size W w')) :
    Calls Tryz.prog 159 #[v, .string (str sep), .func (.func 160) #[] #[]] w fun e w' => e = .returned (.string (str (joinT T l sep))) ∧ Below w.heap.size w w' := by
  obtain ⟨A, c, rfl, hc⟩ := hv.form
  have HV : Hid (∀ W, Below w.heap.size w W → ListOk Enc.rl W lo w.heap.size (.slice A l.length c) l) := Lib.hid fun W hW => hv.below Enc.rl_laws hW
  have HJ := Lib.hid hj
  clear hv hj
  go_enter Tryz.func159, Tryz.ntmps159
  go_wp2_with fail
  go_loopw [7, 9, 12] (fun o _ i wr => ∃ j : Nat, j ≤ l.length ∧ i = .int .i64 (j : Int) ∧ wr.ownsRow w.heap.size 9 1 o ((l.take j).map T).length (((l.take j).map T).map fun x => Value.string (str x)) ∧ Below w.heap.size w wr) (fun _ _ i _ => l.length - (intOf i).toNat)
  case atStart => exact ⟨0, Nat.zero_le _, rfl, own_nil, Below.refl _ _⟩
  case round =>
    obtain ⟨j, hj, rfl, hown, hb⟩ := hrel
    have HO := Lib.hid hown
    have HB := Lib.hid hb
    have hbs := hb.size
    have htl : ((l.take j).map T).length = j := by rw [List.length_map, List.length_take]; omega
    obtain ⟨B, cc, rfl, _⟩ := own_slice hown
    by_cases hlt : j < l.length
    · have hx : l[j] ∈ l := List.getElem_mem hlt
      have htk : (l.take (j + 1)).map T = (l.take j).map T ++ [T l[j]] := by rw [List.take_succ_eq_append_getElem hlt, List.map_append]; rfl
      have HTk := Lib.hid htk
      have HTj := Lib.hid (HT.out l[j] hx)
      rw [htl] at hown ⊢
      have HO := Lib.hid hown
      obtain ⟨b0, o0, V, rfl, hb1, hb2, x0, x1, x2, x3, hV⟩ := (HV.out _ hb).rlAt j hlt
      generalize l[j] = e at *
      obtain ⟨e0, e1, e2, e3⟩ := e
      dsimp only at x0 x1 x2 x3 hV HTj HTk
      obtain ⟨VA, Vc, rfl, _⟩ := hV.form
      have HTw := Lib.hid (HTj.out (wr.alloc (.cells #[.int .u8 e0.toNat, .int .i64 e1, .bool e2, .slice VA e3.length Vc] 239)) (hb.alloc hbs _) _ ((hV.keep Enc.pair_laws (Alk.of_below ((Below.refl _ wr).alloc (Nat.le_refl _) _) |>.mono (Nat.zero_le _) hbs)).mono Enc.pair_laws (Nat.le_refl _) (by simp; omega)))
      clear hV
      clear hown hb htk hx
      have i1 : (0 : Int) ≤ (j : Int) := Int.natCast_nonneg j
      have i2 : (j : Int) < (l.length : Int) := by omega
      clear HTj HT
      go_wp2_with fail
      refine HTw.out.mono ?_
      clear HTw
      rintro e w1 ⟨rfl, hb1'⟩
      have HB1 := Lib.hid ((HB.out.alloc hbs _).trans (hb1'.mono (by simp; omega)))
      have HO1 := Lib.hid (own_below HO.out ((Below.refl _ _).alloc (Nat.le_refl _) _ |>.trans (hb1'.mono (by simp))) (Nat.le_refl _))
      have hbs1 := HB1.out.size
      clear hb1'
      go_wp2_with (at_builtin; refine wpList_append_any rfl _ _ 211 rfl w.heap.size 9 Tryz.underlying211 info_strJ rfl (by decide) (((l.take j).map T).map fun x => Value.string (str x)) rfl (HO1.out.alloc _) [.string (str (T ⟨e0, e1, e2, e3⟩))] rfl rfl (.inr ⟨_, _, rfl, one_newsJ _ _ _⟩) (by simp [Value.oneCell']) (by unfold maxLen; omega) (by omega) (by simp; omega) ?_)
      intro v3 w3 hown3 hgrow3 _
      have hle : ((l.take (j + 1)).map T).length = j + 1 := by rw [List.length_map, List.length_take]; omega
      have HO3 : Hid (w3.ownsRow w.heap.size 9 1 v3 ((l.take (j + 1)).map T).length (((l.take (j + 1)).map T).map fun x => Value.string (str x))) := Lib.hid (by
        rw [hle, HTk.out, List.map_append]
        simpa [List.map_take, Function.comp_def] using hown3)
      have HB3 := Lib.hid ((HB1.out.alloc hbs1 _).grown hgrow3 (by simp; omega) (own_ltJ HO1.out))
      clear hown3 hgrow3 hle
      go_wp2_with fail
      go_roundw
      case rel => exact ⟨j + 1, by omega, by go_num, HO3.out, HB3.out⟩
      case measure => simp [intOf]; omega
    · obtain rfl : j = l.length := by omega
      rw [List.take_length] at HO htl
      have HJo := Lib.hid (join_anyJ _ (l.map T) sep w.heap.size wr HO.out (by rw [List.length_map]; exact hn) HJ.out)
      rw [htl] at HJo
      rw [List.take_length, htl]
      clear hown hb HO htl
      go_wp2_with fail
      refine HJo.out.mono ?_
      clear HJo
      rintro e w2 ⟨rfl, hb2⟩
      have HB2 := Lib.hid (HB.out.trans (hb2.mono HB.out.size))
      clear hb2
      go_wp2_with fail
      go_ret
      exact ⟨rfl, HB2.out⟩
set_option maxHeartbeats 3200000 in
set_option maxRecDepth 100000 in
theorem joinedL_any (l : List (List Rl)) (v : Value) (sep : List UInt8) (T : (List Rl) → List UInt8) (lo : Nat) (w : World) (hv : ListOk (Enc.list Enc.rl) w lo w.heap.size v l) (hn : l.length ≤ 10000000) (hj : (joinT T l sep).length ≤ 1000000000)
    (HT : Hid (∀ x ∈ l, ∀ W, Below w.heap.size w W → ∀ V, ListOk Enc.rl W lo W.heap.size V x → Calls Tryz.prog 158 #[V] W fun e w' => e = .returned (.string (str (T x))) ∧ Below W.heap.size W w')) :
    Calls Tryz.prog 157 #[v, .string (str sep), .func (.func 158) #[] #[]] w fun e w' => e = .returned (.string (str (joinT T l sep))) ∧ Below w.heap.size w w' := by
  obtain ⟨A, c, rfl, hc⟩ := hv.form
  have HV : Hid (∀ W, Below w.heap.size w W → ListOk (Enc.list Enc.rl) W lo w.heap.size (.slice A l.length c) l) := Lib.hid fun W hW => hv.below (Enc.list_laws Enc.rl_laws) hW
  have HJ := Lib.hid hj
  clear hv hj
  go_enter Tryz.func157, Tryz.ntmps157
  go_wp2_with fail
  go_loopw [7, 9, 12] (fun o _ i wr => ∃ j : Nat, j ≤ l.length ∧ i = .int .i64 (j : Int) ∧ wr.ownsRow w.heap.size 9 1 o ((l.take j).map T).length (((l.take j).map T).map fun x => Value.string (str x)) ∧ Below w.heap.size w wr) (fun _ _ i _ => l.length - (intOf i).toNat)
  case atStart => exact ⟨0, Nat.zero_le _, rfl, own_nil, Below.refl _ _⟩
  case round =>
    obtain ⟨j, hj, rfl, hown, hb⟩ := hrel
    have HO := Lib.hid hown
    have HB := Lib.hid hb
    have hbs := hb.size
    have htl : ((l.take j).map T).length = j := by rw [List.length_map, List.length_take]; omega
    obtain ⟨B, cc, rfl, _⟩ := own_slice hown
    by_cases hlt : j < l.length
    · have hx : l[j] ∈ l := List.getElem_mem hlt
      have htk : (l.take (j + 1)).map T = (l.take j).map T ++ [T l[j]] := by rw [List.take_succ_eq_append_getElem hlt, List.map_append]; rfl
      have HTk := Lib.hid htk
      have HTj := Lib.hid (HT.out l[j] hx)
      rw [htl] at hown ⊢
      have HO := Lib.hid hown
      obtain ⟨b0, o0, V, rfl, hb1, hb2, x0, hV⟩ := (HV.out _ hb).listAt j hlt
      generalize l[j] = e at *
      obtain ⟨VA, Vc, rfl, _⟩ := hV.form
      have HTw := Lib.hid (HTj.out wr hb _ (hV.mono Enc.rl_laws (Nat.le_refl _) hbs))
      clear hV
      clear hown hb htk hx
      have i1 : (0 : Int) ≤ (j : Int) := Int.natCast_nonneg j
      have i2 : (j : Int) < (l.length : Int) := by omega
      clear HTj HT
      go_wp2_with fail
      refine HTw.out.mono ?_
      clear HTw
      rintro e w1 ⟨rfl, hb1'⟩
      have HB1 := Lib.hid (HB.out.trans (hb1'.mono hbs))
      have HO1 := Lib.hid (own_below HO.out hb1' (Nat.le_refl _))
      have hbs1 := HB1.out.size
      clear hb1'
      go_wp2_with (at_builtin; refine wpList_append_any rfl _ _ 211 rfl w.heap.size 9 Tryz.underlying211 info_strJ rfl (by decide) (((l.take j).map T).map fun x => Value.string (str x)) rfl (HO1.out.alloc _) [.string (str (T e))] rfl rfl (.inr ⟨_, _, rfl, one_newsJ _ _ _⟩) (by simp [Value.oneCell']) (by unfold maxLen; omega) (by omega) (by simp; omega) ?_)
      intro v3 w3 hown3 hgrow3 _
      have hle : ((l.take (j + 1)).map T).length = j + 1 := by rw [List.length_map, List.length_take]; omega
      have HO3 : Hid (w3.ownsRow w.heap.size 9 1 v3 ((l.take (j + 1)).map T).length (((l.take (j + 1)).map T).map fun x => Value.string (str x))) := Lib.hid (by
        rw [hle, HTk.out, List.map_append]
        simpa [List.map_take, Function.comp_def] using hown3)
      have HB3 := Lib.hid ((HB1.out.alloc hbs1 _).grown hgrow3 (by simp; omega) (own_ltJ HO1.out))
      clear hown3 hgrow3 hle
      go_wp2_with fail
      go_roundw
      case rel => exact ⟨j + 1, by omega, by go_num, HO3.out, HB3.out⟩
      case measure => simp [intOf]; omega
    · obtain rfl : j = l.length := by omega
      rw [List.take_length] at HO htl
      have HJo := Lib.hid (join_anyJ _ (l.map T) sep w.heap.size wr HO.out (by rw [List.length_map]; exact hn) HJ.out)
      rw [htl] at HJo
      rw [List.take_length, htl]
      clear hown hb HO htl
      go_wp2_with fail
      refine HJo.out.mono ?_
      clear HJo
      rintro e w2 ⟨rfl, hb2⟩
      have HB2 := Lib.hid (HB.out.trans (hb2.mono HB.out.size))
      clear hb2
      go_wp2_with fail
      go_ret
      exact ⟨rfl, HB2.out⟩
end Go.Proofs.YtjdfpoppimcikaaGreatDoor
/- Arguments opened by induction on how deep they are read; nodes of messages. -/

namespace Go.Proofs.YtjdfpoppimcikaaGreatDoor
open Go.RowKit Go.ChangeShapes Go.WideShapes Go.ChangeAt

/-- as Opens, where it is read to depth f at most -/
def OpensF {α : Type} (P : Program) (E : Enc α) (t : TypeId) (f : Nat) : Prop :=
  ∀ (H : Type) (enc : TypeId × Value → H) (w : World) (sp : Nat → Bool) (held : Bool) (fuel : Nat) (cs : List Value) (x : DataW H × List MemPlace) (hi : Nat), fuel ≤ f →
    DataW.trod enc P w 0 sp held fuel t cs = some x → (∀ p ∈ x.2, p.block < hi) →
    ∃ a, E.ok w 0 hi cs a ∧ (∀ B, (∀ n ∈ x.1.weights P t, n ≤ B) → E.fits B a) ∧ E.bulk a ≤ Rows.uptoBulk x.1
section
variable {P : Program} {t e : TypeId}
theorem opensF_of {α : Type} {E : Enc α} (h : Opens P E t) (f : Nat) : OpensF P E t f := fun _ enc w sp held fuel cs x hi _ => h enc w sp held fuel cs x hi
theorem opens_listF {α : Type} {E : Enc α} {f : Nat} (hE : OpensF P E e f) (ht : P.underlying t = some (.slice e)) (hC : P.cellsOf e = E.sz) (hB' : P.bytesOf e = E.bytes) (hsz : 0 < E.sz) : OpensF P E.list t (f + 1) := by
  intro H enc w sp held fuel cs x hi hfu h hx
  rcases DataW.trod_slice ht h with ⟨rfl, rfl⟩ | ⟨a, len, cap, elems, rest, n, hfe, rfl, rfl, hb, hl, hm, hlen, hel, hsp, hns⟩
  · exact ⟨[], ⟨_, rfl, ListOk.nil 0 none⟩, fun B _ => ⟨by simp, fun a ha => by cases ha⟩, by simp [Enc.list, Rows.uptoBulk]⟩
  · have key : ∀ i, i < len → ∃ y : α, (a.spot = none ∨ 0 < i) ∧ a.block < hi ∧ (∃ cs, CellsAt w a.block (a.off + i * E.sz) cs ∧ E.ok w 0 hi cs y) ∧ ∃ z, elems[i]? = some z ∧ (∀ B, (∀ n ∈ z.1.weights P e, n ≤ B) → E.fits B y) ∧ E.bulk y ≤ Rows.uptoBulk z.1 := by
      intro i hil
      have h1 := hel i hil
      have hz : elems[i]? = some (elems[i]'(by omega)) := List.getElem?_eq_getElem (by omega)
      rw [hz, Option.bind_eq_some_iff] at h1
      obtain ⟨cs, hcs, htr⟩ := h1
      obtain ⟨_, hcl, hat⟩ := World.cells?_some hcs
      have hin : ∀ p ∈ (elems[i]'(by omega)).2, p.block < hi := fun p hp => hx p (by
        simp only [List.mem_append, List.mem_flatMap]
        exact .inr ⟨_, .inl (List.getElem_mem (by omega)), hp⟩)
      obtain ⟨y, hy, hf, hbk⟩ := hE _ enc w sp held n cs _ hi (by omega) htr hin
      rw [hC] at hcl hat
      have h0 := hat 0 hsz
      obtain ⟨u0, hsome⟩ : ∃ u0, w.cell? ((a.add (i * E.sz)).add 0) = some u0 := ⟨_, by rw [h0]; exact List.getElem?_eq_getElem (by omega)⟩
      have hspot : a.spot = none ∨ 0 < i := by
        rcases Nat.eq_zero_or_pos i with h2 | h2
        · rw [h2, Nat.zero_mul] at hsome
          simp only [Addr.add, if_true] at hsome
          left
          unfold World.cell? at hsome
          split at hsome
          · split at hsome
            · cases hsome
            · cases hs : a.spot with
              | none => rfl
              | some q => simp_all
          · cases hsome
        · exact .inr h2
      have hblk : a.block < hi := by
        have := hx (.cell a.block a.off) (by
          simp only [List.mem_append]
          left
          unfold MemPlace.row
          simp only [List.mem_map, List.mem_range]
          exact ⟨0, by rw [hC]; exact Nat.mul_pos (by omega) hsz, by simp⟩)
        exact this
      refine ⟨y, hspot, hblk, ⟨cs, ?_, hy⟩, _, hz, hf, hbk⟩
      intro j u hj
      have hjl : j < E.sz := by rw [← hcl]; exact (List.getElem?_eq_some_iff.1 hj).1
      have h2 := hat j hjl
      rw [hj] at h2
      have hadd : (a.add (i * E.sz)).add j = ⟨a.block, a.off + i * E.sz + j, none⟩ := by
        have hs : i * E.sz = 0 → a.spot = none := fun h => by
          rcases hspot with h3 | h3
          · exact h3
          · have := Nat.mul_pos h3 hsz; omega
        unfold Addr.add
        by_cases g1 : i * E.sz = 0
        · rw [if_pos g1]
          by_cases g2 : j = 0
          · rw [if_pos g2, g1, g2, ← hs g1]; rfl
          · rw [if_neg g2, g1]; rfl
        · rw [if_neg g1]
          by_cases g2 : j = 0
          · rw [if_pos g2, g2]; rfl
          · rw [if_neg g2]
      rw [hadd] at h2
      exact h2
    obtain ⟨l, hll, hR⟩ := choose_list len _ key
    refine ⟨l, ⟨_, rfl, some a, cap, by rw [hll], by omega, fun i hi' => ?_⟩, fun B hB => ⟨?_, fun y hy => ?_⟩, ?_⟩
    · obtain ⟨hspot, hblk, ⟨cs, hc, hok⟩, _⟩ := hR i hi'
      have hs : a.spot = none := by
        obtain ⟨h0, _⟩ := hR 0 (by omega)
        rcases h0 with h0 | h0
        · exact h0
        · omega
      exact ⟨a.block, a.off, cs, by rw [← hs], Nat.zero_le _, hblk, hc, hok⟩
    · have := hB ((elems.length + rest.length) * P.bytesOf e) (by simp [DataW.weights, ht])
      rw [hB'] at this
      refine Nat.le_trans (Nat.mul_le_mul_right _ ?_) this
      omega
    · obtain ⟨i, hi', rfl⟩ := List.getElem_of_mem hy
      obtain ⟨_, _, _, z, hz, hf, _⟩ := hR i hi'
      refine hf B fun n hn => hB n ?_
      simp only [DataW.weights, ht, List.mem_cons, List.mem_append]
      refine .inr (.inl (weightsAll_mem ?_ hn))
      exact List.mem_map.2 ⟨z, List.mem_of_getElem? hz, rfl⟩
    · show (l.map E.bulk).sum + 1 ≤ _
      simp only [Rows.uptoBulk]
      have h1 : (l.map E.bulk).sum ≤ ((elems.map (·.1)).map Rows.uptoBulk).sum := by
        refine sum_le_sum _ _ _ _ (by simp; omega) fun i h1 h2 => ?_
        obtain ⟨_, _, _, z, hz, _, hbk⟩ := hR i h1
        have : (elems.map (·.1))[i] = z.1 := by
          rw [List.getElem_map]
          have := (List.getElem?_eq_some_iff.1 hz).2
          rw [this]
        rw [this]
        exact hbk
      rw [← bulkAll_sum] at h1
      omega
theorem opens_structF2 {α β γ : Type} {A : Enc α} {B : Enc β} {E : Enc γ} {f : Nat} {f0 f1 : Field} (hA : OpensF P A f0.type f) (hB : OpensF P B f1.type f) (ht : P.underlying t = some (.struct #[f0, f1]))
    (o0 : f0.offset = 0) (o1 : f1.offset = A.sz) (c0 : P.cellsOf f0.type = A.sz) (c1 : P.cellsOf f1.type = B.sz) (ct : P.cellsOf t = A.sz + B.sz) (mk : α → β → γ)
    (hok : ∀ w lo hi c d a b, A.ok w lo hi c a → B.ok w lo hi d b → E.ok w lo hi (c ++ d) (mk a b)) (hf : ∀ n a b, A.fits n a → B.fits n b → E.fits n (mk a b))
    (hb : ∀ a b, E.bulk (mk a b) ≤ A.bulk a + B.bulk b) : OpensF P E t (f + 1) := by
  intro H enc w sp held fuel cs x hi hfu h hx
  obtain ⟨xs, n, rfl, rfl, hcl, hxl, hel⟩ := DataW.trod_struct ht h
  have e0 := hel 0 f0 rfl
  have e1 := hel 1 f1 rfl
  have hl2 : xs.length = 2 := hxl
  obtain ⟨y, z, rfl⟩ : ∃ y z, xs = [y, z] := by
    match xs, hl2 with
    | [y, z], _ => exact ⟨y, z, rfl⟩
  rw [o0, c0, List.drop_zero] at e0
  rw [o1, c1] at e1
  obtain ⟨a, ka, fa, ba⟩ := hA _ enc w sp held n _ y hi (by omega) e0 fun p hp => hx p (by simp [hp])
  obtain ⟨b, kb, fb, bb⟩ := hB _ enc w sp held n _ z hi (by omega) e1 fun p hp => hx p (by simp [hp])
  have hc : cs = cs.take A.sz ++ (cs.drop A.sz).take B.sz := by
    rw [List.take_of_length_le (l := cs.drop A.sz) (by rw [List.length_drop]; omega), List.take_append_drop]
  refine ⟨mk a b, by rw [hc]; exact hok _ _ _ _ _ _ _ ka kb, fun n hn => hf _ _ _ (fa n fun m hm => hn m ?_) (fb n fun m hm => hn m ?_), ?_⟩
  · simp only [DataW.weights, ht]
    exact weightsEach_mem 0 f0.type y.1 rfl rfl m hm
  · simp only [DataW.weights, ht]
    exact weightsEach_mem 1 f1.type z.1 rfl rfl m hm
  · have := hb a b
    simp only [Rows.uptoBulk, Rows.uptoBulkAll, List.map_cons, List.map_nil]
    omega
theorem opens_structF4 {α β γ δ ε : Type} {A : Enc α} {B : Enc β} {C : Enc γ} {D : Enc δ} {E : Enc ε} {f : Nat} {f0 f1 f2 f3 : Field} (hA : OpensF P A f0.type f) (hB : OpensF P B f1.type f) (hC : OpensF P C f2.type f) (hD : OpensF P D f3.type f)
    (ht : P.underlying t = some (.struct #[f0, f1, f2, f3]))
    (o0 : f0.offset = 0) (o1 : f1.offset = A.sz) (o2 : f2.offset = A.sz + B.sz) (o3 : f3.offset = A.sz + B.sz + C.sz) (c0 : P.cellsOf f0.type = A.sz) (c1 : P.cellsOf f1.type = B.sz) (c2 : P.cellsOf f2.type = C.sz) (c3 : P.cellsOf f3.type = D.sz)
    (ct : P.cellsOf t = A.sz + B.sz + C.sz + D.sz) (mk : α → β → γ → δ → ε)
    (hok : ∀ w lo hi c d e f a b g k, A.ok w lo hi c a → B.ok w lo hi d b → C.ok w lo hi e g → D.ok w lo hi f k → E.ok w lo hi (c ++ d ++ e ++ f) (mk a b g k))
    (hf : ∀ n a b g k, A.fits n a → B.fits n b → C.fits n g → D.fits n k → E.fits n (mk a b g k))
    (hb : ∀ a b g k, E.bulk (mk a b g k) ≤ A.bulk a + B.bulk b + C.bulk g + D.bulk k) : OpensF P E t (f + 1) := by
  intro H enc w sp held fuel cs x hi hfu h hx
  obtain ⟨xs, n, rfl, rfl, hcl, hxl, hel⟩ := DataW.trod_struct ht h
  have e0 := hel 0 f0 rfl
  have e1 := hel 1 f1 rfl
  have e2 := hel 2 f2 rfl
  have e3 := hel 3 f3 rfl
  have hl2 : xs.length = 4 := hxl
  obtain ⟨y, z, u, v, rfl⟩ : ∃ y z u v, xs = [y, z, u, v] := by
    match xs, hl2 with
    | [y, z, u, v], _ => exact ⟨y, z, u, v, rfl⟩
  rw [o0, c0, List.drop_zero] at e0
  rw [o1, c1] at e1
  rw [o2, c2] at e2
  rw [o3, c3] at e3
  obtain ⟨a, ka, fa, ba⟩ := hA _ enc w sp held n _ y hi (by omega) e0 fun p hp => hx p (by simp [hp])
  obtain ⟨b, kb, fb, bb⟩ := hB _ enc w sp held n _ z hi (by omega) e1 fun p hp => hx p (by simp [hp])
  obtain ⟨g, kg, fg, bg⟩ := hC _ enc w sp held n _ u hi (by omega) e2 fun p hp => hx p (by simp [hp])
  obtain ⟨k, kk, fk, bk⟩ := hD _ enc w sp held n _ v hi (by omega) e3 fun p hp => hx p (by simp [hp])
  have hc : cs = cs.take A.sz ++ (cs.drop A.sz).take B.sz ++ (cs.drop (A.sz + B.sz)).take C.sz ++ (cs.drop (A.sz + B.sz + C.sz)).take D.sz := by
    rw [List.take_of_length_le (l := cs.drop (A.sz + B.sz + C.sz)) (by rw [List.length_drop]; omega)]
    rw [List.append_assoc, ← List.drop_drop (i := C.sz) (j := A.sz + B.sz), List.take_append_drop, List.append_assoc, ← List.drop_drop (i := B.sz) (j := A.sz), List.take_append_drop, List.take_append_drop]
  refine ⟨mk a b g k, by rw [hc]; exact hok _ _ _ _ _ _ _ _ _ _ _ ka kb kg kk, fun n hn => hf _ _ _ _ _ (fa n fun m hm => hn m ?_) (fb n fun m hm => hn m ?_) (fg n fun m hm => hn m ?_) (fk n fun m hm => hn m ?_), ?_⟩
  · simp only [DataW.weights, ht]
    exact weightsEach_mem 0 f0.type y.1 rfl rfl m hm
  · simp only [DataW.weights, ht]
    exact weightsEach_mem 1 f1.type z.1 rfl rfl m hm
  · simp only [DataW.weights, ht]
    exact weightsEach_mem 2 f2.type u.1 rfl rfl m hm
  · simp only [DataW.weights, ht]
    exact weightsEach_mem 3 f3.type v.1 rfl rfl m hm
  · have := hb a b g k
    simp only [Rows.uptoBulk, Rows.uptoBulkAll, List.map_cons, List.map_nil]
    omega
end

/- ## Nodes -/
structure NdF (α : Type) where
  kind : Int
  text : ByteArray
  off : Int
  cases : List (ByteArray × List α)
/-- a node that is no deeper than n -/
def Nd : Nat → Type
  | 0 => Empty
  | n + 1 => NdF (Nd n)
def Enc.cas {α : Type} (E : Enc α) : Enc (ByteArray × List α) :=
  ⟨2, 40, fun w lo hi cs c => ∃ v, cs = [.string c.1, v] ∧ ListOk E w lo hi v c.2, fun B c => c.1.size ≤ B ∧ E.list.fits B c.2, fun c => c.1.size + 1 + E.list.bulk c.2⟩
def Enc.nodeF {α : Type} (E : Enc α) : Enc (NdF α) :=
  ⟨4, 56, fun w lo hi cs x => ∃ v, cs = [.int .i64 x.kind, .string x.text, .int .i64 x.off, v] ∧ ListOk (Enc.cas E) w lo hi v x.cases, fun B x => (Lit.int .i64 x.kind).wf = true ∧ x.text.size ≤ B ∧ (Lit.int .i64 x.off).wf = true ∧ (Enc.cas E).list.fits B x.cases,
    fun x => x.text.size + 1 + (Enc.cas E).list.bulk x.cases⟩
def Enc.none_ : Enc Empty := ⟨4, 56, fun _ _ _ _ _ => False, fun _ _ => True, fun _ => 1⟩
def Enc.node : (n : Nat) → Enc (Nd n)
  | 0 => Enc.none_
  | n + 1 => Enc.nodeF (Enc.node n)
theorem Enc.none_laws : Enc.none_.Laws := ⟨fun h => h.elim, fun h _ => h.elim, fun h _ _ => h.elim⟩
theorem Enc.cas_laws {α : Type} {E : Enc α} (hE : E.Laws) : (Enc.cas E).Laws :=
  ⟨fun ⟨_, h, _⟩ => by cases h; rfl, fun ⟨v, h, k⟩ ha => ⟨v, h, k.keep hE ha⟩, fun ⟨v, h, k⟩ h1 h2 => ⟨v, h, k.mono hE h1 h2⟩⟩
theorem Enc.nodeF_laws {α : Type} {E : Enc α} (hE : E.Laws) : (Enc.nodeF E).Laws :=
  ⟨fun ⟨_, h, _⟩ => by cases h; rfl, fun ⟨v, h, k⟩ ha => ⟨v, h, k.keep (Enc.cas_laws hE) ha⟩, fun ⟨v, h, k⟩ h1 h2 => ⟨v, h, k.mono (Enc.cas_laws hE) h1 h2⟩⟩
theorem Enc.node_laws : (n : Nat) → (Enc.node n).Laws
  | 0 => Enc.none_laws
  | n + 1 => Enc.nodeF_laws (Enc.node_laws n)
theorem Enc.node_sz : (n : Nat) → (Enc.node n).sz = 4
  | 0 => rfl
  | _ + 1 => rfl
theorem Enc.node_bytes : (n : Nat) → (Enc.node n).bytes = 56
  | 0 => rfl
  | _ + 1 => rfl
theorem opens_node : (n : Nat) → OpensF Tryz.prog (Enc.node n) 30 (n * 4)
  | 0 => by
    intro H enc w sp held fuel cs x hi hfu h _
    obtain rfl : fuel = 0 := by omega
    simp [DataW.trod] at h
  | n + 1 => by
    have hb : OpensF Tryz.prog (Enc.node n).list 22 (n * 4 + 1) := opens_listF (opens_node n) Tryz.underlying22 (by rw [Enc.node_sz]; kernel_rfl) (by rw [Enc.node_bytes]; kernel_rfl) (by rw [Enc.node_sz]; decide)
    have hc : OpensF Tryz.prog (Enc.cas (Enc.node n)) 76 (n * 4 + 2) :=
      opens_structF2 (A := Enc.str) (B := (Enc.node n).list) (E := Enc.cas (Enc.node n)) (opensF_of (opens_str Tryz.underlying9) _) hb Tryz.underlying76 rfl rfl (by kernel_rfl) (by kernel_rfl) (by kernel_rfl)
        Prod.mk
        (fun w lo hi c d a b h1 h2 => by
          obtain ⟨v, rfl, hl⟩ := h2
          obtain rfl : c = [.string a] := h1
          exact ⟨v, rfl, hl⟩)
        (fun n a b h1 h2 => ⟨h1, h2⟩) (fun a b => by simp only [Enc.cas, Enc.str]; omega)
    have hl : OpensF Tryz.prog (Enc.cas (Enc.node n)).list 28 (n * 4 + 3) := opens_listF hc Tryz.underlying28 (by kernel_rfl) (by kernel_rfl) (by show 0 < 2; decide)
    rw [show (n + 1) * 4 = n * 4 + 3 + 1 from by omega]
    exact opens_structF4 (f := n * 4 + 3) (A := Enc.int) (B := Enc.str) (C := Enc.int) (D := (Enc.cas (Enc.node n)).list) (E := Enc.node (n + 1)) (opensF_of (opens_int Tryz.underlying3) _) (opensF_of (opens_str Tryz.underlying9) _) (opensF_of (opens_int Tryz.underlying3) _) hl Tryz.underlying30 rfl rfl rfl rfl (by kernel_rfl) (by kernel_rfl) (by kernel_rfl) (by kernel_rfl) (by kernel_rfl)
      NdF.mk
      (fun w lo hi c d e f a b g k h1 h2 h3 h4 => by
        obtain ⟨v, rfl, hl⟩ := h4
        obtain rfl : c = [.int .i64 a] := h1
        obtain rfl : d = [.string b] := h2
        obtain rfl : e = [.int .i64 g] := h3
        exact ⟨v, rfl, hl⟩)
      (fun n a b g k h1 h2 h3 h4 => ⟨h1, h2, h3, h4⟩) (fun a b g k => by simp only [Enc.node, Enc.nodeF, Enc.int, Enc.str]; omega)
set_option maxRecDepth 100000 in
/-- a message as an argument -/
theorem arg_message {H : Type} {enc : TypeId × Value → H} {W : World} {base : Nat} {v : Value} {d : DataW H} {p : List MemPlace} {hi : Nat} (h : DataW.Trod enc Tryz.prog W 0 (fun _ => true) true 22 v d p) (hlt : ∀ x ∈ p, x.block < hi) (hv : Value.okWide Tryz.prog W .any base 22 v) :
    ∃ (n : Nat) (l : List (Nd n)), ListOk (Enc.node n) W 0 hi v l ∧ (∀ B, (∀ k ∈ d.weights Tryz.prog 22, k ≤ B) → (Enc.node n).list.fits B l) ∧ (l.map (Enc.node n).bulk).sum + 1 ≤ Rows.uptoBulk d := by
  obtain ⟨A, c, m, rfl⟩ := okWide_slice Tryz.underlying22 hv
  obtain ⟨fuel, hf⟩ := h
  have ho : OpensF Tryz.prog (Enc.node fuel).list 22 (fuel * 4 + 1) := opens_listF (opens_node fuel) Tryz.underlying22 (by rw [Enc.node_sz]; kernel_rfl) (by rw [Enc.node_bytes]; kernel_rfl) (by rw [Enc.node_sz]; decide)
  obtain ⟨l, ⟨u, hu, hl⟩, hb, hk⟩ := ho _ enc W _ _ fuel _ _ hi (by omega) hf hlt
  have e1 : [Value.slice A c m] = [u] := hu
  injection e1 with e1
  subst e1
  exact ⟨fuel, l, hl, hb, hk⟩
end Go.Proofs.YtjdfpoppimcikaaGreatDoor
