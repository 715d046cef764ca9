/- rule.joined at its three element types. -/
import Derived.Test.YtjdfpoppimcikaaGreatDoorRuleT
import Derived.Test.YtjdfpoppimcikaaGreatDoorMsgD
import Derived.Test.YtjdfpoppimcikaaGreatDoorDecG
import Derived.Test.YtjdfpoppimcikaaGreatDoorQMsgP
import Derived.Laws.IdiomCopy
import Derived.Test.YtjdfpoppimcikaaGreatDoorCpyW
namespace Go.Proofs.YtjdfpoppimcikaaGreatDoor
open Go.RowKit

theorem one_newsJ (w : World) (X : ByteArray) (t : TypeId) : ∀ q u, ([Value.string X] : List Value)[q]? = some u → (w.alloc (.cells #[.string X] t)).cell? ⟨w.heap.size, 0 + q, none⟩ = some u := fun q u hq => by
  rw [Nat.zero_add, (Blk.new w t #[.string X]).cell q]; simpa using hq
theorem own_ltJ {w : World} {base : Nat} {e : TypeId} {size : Nat} {v : Value} {n : Nat} {xs : List Value} (h : w.ownsRow base e size v n xs) : ∀ k, v.ownBlock = some k → base ≤ k := fun _ hk => (own_lt h hk).1
theorem info_strJ : (Tryz.prog.info? 9).map (fun i => (i.zero, i.size, i.bytes)) = some (some (.string ByteArray.empty), 1, 16) := by kernel_rfl
theorem ListOk.pairAt {w : World} {lo hi : Nat} {A : Option Addr} {n c : Nat} {l : List (Int × Int)} (h : ListOk Enc.pair w lo hi (.slice A n c) l) (i : Nat) (hl : i < l.length) :
    ∃ b o, A = some ⟨b, o, none⟩ ∧ lo ≤ b ∧ b < hi ∧ w.cell? ⟨b, o + i * 2, none⟩ = some (.int .i64 l[i].1) ∧ w.cell? ⟨b, o + i * 2 + 1, none⟩ = some (.int .i64 l[i].2) := by
  obtain ⟨A', c', hv, _, hi'⟩ := h
  injection hv with hv1 _ _
  subst hv1
  obtain ⟨b, o, cs, hA, h1, h2, h3, h4⟩ := hi' i hl
  have h4' : cs = [.int .i64 l[i].1, .int .i64 l[i].2] := h4
  subst h4'
  exact ⟨b, o, hA, h1, h2, h3 0 _ rfl, h3 1 _ rfl⟩
theorem ListOk.rlAt {w : World} {lo hi : Nat} {A : Option Addr} {n c : Nat} {l : List Rl} (h : ListOk Enc.rl w lo hi (.slice A n c) l) (i : Nat) (hl : i < l.length) :
    ∃ b o v, A = some ⟨b, o, none⟩ ∧ lo ≤ b ∧ b < hi ∧ w.cell? ⟨b, o + i * 4, none⟩ = some (.int .u8 l[i].op.toNat) ∧ w.cell? ⟨b, o + i * 4 + 1, none⟩ = some (.int .i64 l[i].mod) ∧ w.cell? ⟨b, o + i * 4 + 2, none⟩ = some (.bool l[i].neg) ∧ w.cell? ⟨b, o + i * 4 + 3, none⟩ = some v ∧ ListOk Enc.pair w lo hi v l[i].rng := by
  obtain ⟨A', c', hv, _, hi'⟩ := h
  injection hv with hv1 _ _
  subst hv1
  obtain ⟨b, o, cs, hA, h1, h2, h3, v, h4, h5⟩ := hi' i hl
  subst h4
  exact ⟨b, o, v, hA, h1, h2, h3 0 _ rfl, h3 1 _ rfl, h3 2 _ rfl, h3 3 _ rfl, h5⟩
theorem ListOk.listAt {α : Type} {E : Enc α} {w : World} {lo hi : Nat} {A : Option Addr} {n c : Nat} {l : List (List α)} (h : ListOk (Enc.list E) w lo hi (.slice A n c) l) (i : Nat) (hl : i < l.length) :
    ∃ b o v, A = some ⟨b, o, none⟩ ∧ lo ≤ b ∧ b < hi ∧ w.cell? ⟨b, o + i, none⟩ = some v ∧ ListOk E w lo hi v l[i] := by
  obtain ⟨A', c', hv, _, hi'⟩ := h
  injection hv with hv1 _ _
  subst hv1
  obtain ⟨b, o, cs, hA, h1, h2, h3, v, h4, h5⟩ := hi' i hl
  subst h4
  have e : Enc.sz (Enc.list E) = 1 := rfl
  have := h3 0 _ rfl
  rw [e, Nat.mul_one, Nat.add_zero] at this
  exact ⟨b, o, v, hA, h1, h2, this, h5⟩
def joinT {α : Type} (T : α → List UInt8) (l : List α) (sep : List UInt8) : List UInt8 := Lib.join (l.map T) sep
theorem join_anyJ (v : Value) (ls : List (List UInt8)) (sep : List UInt8) (base : Nat) (w : World) (h : w.ownsRow base 9 1 v ls.length (ls.map fun x => Value.string (str x))) (hn : ls.length ≤ 10000000) (hj : (Lib.join ls sep).length ≤ 1000000000) :
    Calls Tryz.prog 128 #[v, .string (str sep)] w fun e w' => e = .returned (.string (str (Lib.join ls sep))) ∧ Below w.heap.size w w' := by
  have hs : (ls.map str).map (·.data.toList) = ls := by
    rw [List.map_map]
    conv => rhs; rw [← List.map_id ls]
    exact List.map_congr_left fun x _ => bts_str x
  by_cases h0 : ls.length = 0
  · obtain rfl : ls = [] := List.length_eq_zero_iff.1 h0
    obtain ⟨A, c, rfl, _⟩ := own_slice h
    refine (Tryz.strings_Join_none A c (str sep) w).mono ?_
    rintro e w' ⟨rfl, rfl⟩
    exact ⟨rfl, Below.refl _ _⟩
  · have hl := ListOk.strs_of_own (l := ls.map str) (lo := base) (hi := w.heap.size) (by rw [List.length_map, List.map_map]; exact h) (Nat.le_refl _) (Nat.le_refl _)
    obtain ⟨A, c, rfl, hc⟩ := hl.form
    obtain ⟨b, o, rfl, _, hb, _⟩ := hl.strAt 0 (by rw [List.length_map]; omega)
    have h1 := Tryz.strings_Join b o c (ls.map str) (str sep) w (fun j x hx => by
      have hj : j < (ls.map str).length := (List.getElem?_eq_some_iff.1 hx).1
      obtain ⟨b', o', hA, _, _, x0⟩ := hl.strAt j hj
      injection hA with hA
      injection hA with e1 e2
      subst e1; subst e2
      rw [x0]
      rw [List.getElem?_eq_getElem hj] at hx
      injection hx with hx
      rw [hx]) hb (by rw [List.length_map]; omega) hc (by rw [hs]; exact Nat.le_trans hj (by decide))
    rw [hs] at h1
    exact h1
set_option maxHeartbeats 3200000 in
set_option maxRecDepth 100000 in
theorem joinedP_any (l : List (Int × Int)) (v : Value) (sep : List UInt8) (T : (Int × Int) → List UInt8) (lo : Nat) (w : World) (hv : ListOk Enc.pair w lo w.heap.size v l) (hn : l.length ≤ 10000000) (hj : (joinT T l sep).length ≤ 1000000000)
    (HT : Hid (∀ x ∈ l, ∀ W, Below w.heap.size w W → Calls Tryz.prog 180 #[.agg #[.int .i64 x.1, .int .i64 x.2]] W fun e w' => e = .returned (.string (str (T x))) ∧ Below W.heap.size W w')) :
    Calls Tryz.prog 179 #[v, .string (str sep), .func (.func 180) #[] #[]] w fun e w' => e = .returned (.string (str (joinT T l sep))) ∧ Below w.heap.size w w' := by
  obtain ⟨A, c, rfl, hc⟩ := hv.form
  have HV : Hid (∀ W, Below w.heap.size w W → ListOk Enc.pair W lo w.heap.size (.slice A l.length c) l) := Lib.hid fun W hW => hv.below Enc.pair_laws hW
  have HJ := Lib.hid hj
  clear hv hj
  go_enter Tryz.func179, Tryz.ntmps179
  go_wp2_with fail
  go_loopw [7, 9, 12] (fun o _ i wr => ∃ j : Nat, j ≤ l.length ∧ i = .int .i64 (j : Int) ∧ wr.ownsRow w.heap.size 9 1 o ((l.take j).map T).length (((l.take j).map T).map fun x => Value.string (str x)) ∧ Below w.heap.size w wr) (fun _ _ i _ => l.length - (intOf i).toNat)
  case atStart => exact ⟨0, Nat.zero_le _, rfl, own_nil, Below.refl _ _⟩
  case round =>
    obtain ⟨j, hj, rfl, hown, hb⟩ := hrel
    have HO := Lib.hid hown
    have HB := Lib.hid hb
    have hbs := hb.size
    have htl : ((l.take j).map T).length = j := by rw [List.length_map, List.length_take]; omega
    obtain ⟨B, cc, rfl, _⟩ := own_slice hown
    by_cases hlt : j < l.length
    · have hx : l[j] ∈ l := List.getElem_mem hlt
      have htk : (l.take (j + 1)).map T = (l.take j).map T ++ [T l[j]] := by rw [List.take_succ_eq_append_getElem hlt, List.map_append]; rfl
      have HTk := Lib.hid htk
      have HTj := Lib.hid (HT.out l[j] hx)
      rw [htl] at hown ⊢
      have HO := Lib.hid hown
      obtain ⟨b0, o0, rfl, hb1, hb2, x0, x1⟩ := (HV.out _ hb).pairAt j hlt
      generalize l[j] = e at *
      obtain ⟨e0, e1⟩ := e
      dsimp only at x0 x1 HTj HTk
      have HTw := Lib.hid (HTj.out (wr.alloc (.cells #[.int .i64 e0, .int .i64 e1] 257)) (hb.alloc hbs _))
      clear hown hb htk hx
      have i1 : (0 : Int) ≤ (j : Int) := Int.natCast_nonneg j
      have i2 : (j : Int) < (l.length : Int) := by omega
      clear HTj HT
      go_wp2_with fail
      refine HTw.out.mono ?_
      clear HTw
      rintro e w1 ⟨rfl, hb1'⟩
      have HB1 := Lib.hid ((HB.out.alloc hbs _).trans (hb1'.mono (by simp; omega)))
      have HO1 := Lib.hid (own_below HO.out ((Below.refl _ _).alloc (Nat.le_refl _) _ |>.trans (hb1'.mono (by simp))) (Nat.le_refl _))
      have hbs1 := HB1.out.size
      clear hb1'
      go_wp2_with (at_builtin; refine wpList_append_any rfl _ _ 211 rfl w.heap.size 9 Tryz.underlying211 info_strJ rfl (by decide) (((l.take j).map T).map fun x => Value.string (str x)) rfl (HO1.out.alloc _) [.string (str (T (e0, e1)))] rfl rfl (.inr ⟨_, _, rfl, one_newsJ _ _ _⟩) (by simp [Value.oneCell']) (by unfold maxLen; omega) (by omega) (by simp; omega) ?_)
      intro v3 w3 hown3 hgrow3 _
      have hle : ((l.take (j + 1)).map T).length = j + 1 := by rw [List.length_map, List.length_take]; omega
      have HO3 : Hid (w3.ownsRow w.heap.size 9 1 v3 ((l.take (j + 1)).map T).length (((l.take (j + 1)).map T).map fun x => Value.string (str x))) := Lib.hid (by
        rw [hle, HTk.out, List.map_append]
        simpa [List.map_take, Function.comp_def] using hown3)
      have HB3 := Lib.hid ((HB1.out.alloc hbs1 _).grown hgrow3 (by simp; omega) (own_ltJ HO1.out))
      clear hown3 hgrow3 hle
      go_wp2_with fail
      go_roundw
      case rel => exact ⟨j + 1, by omega, by go_num, HO3.out, HB3.out⟩
      case measure => simp [intOf]; omega
    · obtain rfl : j = l.length := by omega
      rw [List.take_length] at HO htl
      have HJo := Lib.hid (join_anyJ _ (l.map T) sep w.heap.size wr HO.out (by rw [List.length_map]; exact hn) HJ.out)
      rw [htl] at HJo
      rw [List.take_length, htl]
      clear hown hb HO htl
      go_wp2_with fail
      refine HJo.out.mono ?_
      clear HJo
      rintro e w2 ⟨rfl, hb2⟩
      have HB2 := Lib.hid (HB.out.trans (hb2.mono HB.out.size))
      clear hb2
      go_wp2_with fail
      go_ret
      exact ⟨rfl, HB2.out⟩
set_option maxHeartbeats 3200000 in
set_option maxRecDepth 100000 in
theorem joinedR_any (l : List Rl) (v : Value) (sep : List UInt8) (T : Rl → List UInt8) (lo : Nat) (w : World) (hv : ListOk Enc.rl w lo w.heap.size v l) (hn : l.length ≤ 10000000) (hj : (joinT T l sep).length ≤ 1000000000)
    (HT : Hid (∀ x ∈ l, ∀ W, Below w.heap.size w W → ∀ V, ListOk Enc.pair W lo W.heap.size V x.rng → Calls Tryz.prog 160 #[.agg #[.int .u8 x.op.toNat, .int .i64 x.mod, .bool x.neg, V]] W fun e w' => e = .returned (.string (str (T x))) ∧ Below W.heap.size W w')) :
    Calls Tryz.prog 159 #[v, .string (str sep), .func (.func 160) #[] #[]] w fun e w' => e = .returned (.string (str (joinT T l sep))) ∧ Below w.heap.size w w' := by
  obtain ⟨A, c, rfl, hc⟩ := hv.form
  have HV : Hid (∀ W, Below w.heap.size w W → ListOk Enc.rl W lo w.heap.size (.slice A l.length c) l) := Lib.hid fun W hW => hv.below Enc.rl_laws hW
  have HJ := Lib.hid hj
  clear hv hj
  go_enter Tryz.func159, Tryz.ntmps159
  go_wp2_with fail
  go_loopw [7, 9, 12] (fun o _ i wr => ∃ j : Nat, j ≤ l.length ∧ i = .int .i64 (j : Int) ∧ wr.ownsRow w.heap.size 9 1 o ((l.take j).map T).length (((l.take j).map T).map fun x => Value.string (str x)) ∧ Below w.heap.size w wr) (fun _ _ i _ => l.length - (intOf i).toNat)
  case atStart => exact ⟨0, Nat.zero_le _, rfl, own_nil, Below.refl _ _⟩
  case round =>
    obtain ⟨j, hj, rfl, hown, hb⟩ := hrel
    have HO := Lib.hid hown
    have HB := Lib.hid hb
    have hbs := hb.size
    have htl : ((l.take j).map T).length = j := by rw [List.length_map, List.length_take]; omega
    obtain ⟨B, cc, rfl, _⟩ := own_slice hown
    by_cases hlt : j < l.length
    · have hx : l[j] ∈ l := List.getElem_mem hlt
      have htk : (l.take (j + 1)).map T = (l.take j).map T ++ [T l[j]] := by rw [List.take_succ_eq_append_getElem hlt, List.map_append]; rfl
      have HTk := Lib.hid htk
      have HTj := Lib.hid (HT.out l[j] hx)
      rw [htl] at hown ⊢
      have HO := Lib.hid hown
      obtain ⟨b0, o0, V, rfl, hb1, hb2, x0, x1, x2, x3, hV⟩ := (HV.out _ hb).rlAt j hlt
      generalize l[j] = e at *
      obtain ⟨e0, e1, e2, e3⟩ := e
      dsimp only at x0 x1 x2 x3 hV HTj HTk
      obtain ⟨VA, Vc, rfl, _⟩ := hV.form
      have HTw := Lib.hid (HTj.out (wr.alloc (.cells #[.int .u8 e0.toNat, .int .i64 e1, .bool e2, .slice VA e3.length Vc] 239)) (hb.alloc hbs _) _ ((hV.keep Enc.pair_laws (Alk.of_below ((Below.refl _ wr).alloc (Nat.le_refl _) _) |>.mono (Nat.zero_le _) hbs)).mono Enc.pair_laws (Nat.le_refl _) (by simp; omega)))
      clear hV
      clear hown hb htk hx
      have i1 : (0 : Int) ≤ (j : Int) := Int.natCast_nonneg j
      have i2 : (j : Int) < (l.length : Int) := by omega
      clear HTj HT
      go_wp2_with fail
      refine HTw.out.mono ?_
      clear HTw
      rintro e w1 ⟨rfl, hb1'⟩
      have HB1 := Lib.hid ((HB.out.alloc hbs _).trans (hb1'.mono (by simp; omega)))
      have HO1 := Lib.hid (own_below HO.out ((Below.refl _ _).alloc (Nat.le_refl _) _ |>.trans (hb1'.mono (by simp))) (Nat.le_refl _))
      have hbs1 := HB1.out.size
      clear hb1'
      go_wp2_with (at_builtin; refine wpList_append_any rfl _ _ 211 rfl w.heap.size 9 Tryz.underlying211 info_strJ rfl (by decide) (((l.take j).map T).map fun x => Value.string (str x)) rfl (HO1.out.alloc _) [.string (str (T ⟨e0, e1, e2, e3⟩))] rfl rfl (.inr ⟨_, _, rfl, one_newsJ _ _ _⟩) (by simp [Value.oneCell']) (by unfold maxLen; omega) (by omega) (by simp; omega) ?_)
      intro v3 w3 hown3 hgrow3 _
      have hle : ((l.take (j + 1)).map T).length = j + 1 := by rw [List.length_map, List.length_take]; omega
      have HO3 : Hid (w3.ownsRow w.heap.size 9 1 v3 ((l.take (j + 1)).map T).length (((l.take (j + 1)).map T).map fun x => Value.string (str x))) := Lib.hid (by
        rw [hle, HTk.out, List.map_append]
        simpa [List.map_take, Function.comp_def] using hown3)
      have HB3 := Lib.hid ((HB1.out.alloc hbs1 _).grown hgrow3 (by simp; omega) (own_ltJ HO1.out))
      clear hown3 hgrow3 hle
      go_wp2_with fail
      go_roundw
      case rel => exact ⟨j + 1, by omega, by go_num, HO3.out, HB3.out⟩
      case measure => simp [intOf]; omega
    · obtain rfl : j = l.length := by omega
      rw [List.take_length] at HO htl
      have HJo := Lib.hid (join_anyJ _ (l.map T) sep w.heap.size wr HO.out (by rw [List.length_map]; exact hn) HJ.out)
      rw [htl] at HJo
      rw [List.take_length, htl]
      clear hown hb HO htl
      go_wp2_with fail
      refine HJo.out.mono ?_
      clear HJo
      rintro e w2 ⟨rfl, hb2⟩
      have HB2 := Lib.hid (HB.out.trans (hb2.mono HB.out.size))
      clear hb2
      go_wp2_with fail
      go_ret
      exact ⟨rfl, HB2.out⟩
set_option maxHeartbeats 3200000 in
set_option maxRecDepth 100000 in
theorem joinedL_any (l : List (List Rl)) (v : Value) (sep : List UInt8) (T : (List Rl) → List UInt8) (lo : Nat) (w : World) (hv : ListOk (Enc.list Enc.rl) w lo w.heap.size v l) (hn : l.length ≤ 10000000) (hj : (joinT T l sep).length ≤ 1000000000)
    (HT : Hid (∀ x ∈ l, ∀ W, Below w.heap.size w W → ∀ V, ListOk Enc.rl W lo W.heap.size V x → Calls Tryz.prog 158 #[V] W fun e w' => e = .returned (.string (str (T x))) ∧ Below W.heap.size W w')) :
    Calls Tryz.prog 157 #[v, .string (str sep), .func (.func 158) #[] #[]] w fun e w' => e = .returned (.string (str (joinT T l sep))) ∧ Below w.heap.size w w' := by
  obtain ⟨A, c, rfl, hc⟩ := hv.form
  have HV : Hid (∀ W, Below w.heap.size w W → ListOk (Enc.list Enc.rl) W lo w.heap.size (.slice A l.length c) l) := Lib.hid fun W hW => hv.below (Enc.list_laws Enc.rl_laws) hW
  have HJ := Lib.hid hj
  clear hv hj
  go_enter Tryz.func157, Tryz.ntmps157
  go_wp2_with fail
  go_loopw [7, 9, 12] (fun o _ i wr => ∃ j : Nat, j ≤ l.length ∧ i = .int .i64 (j : Int) ∧ wr.ownsRow w.heap.size 9 1 o ((l.take j).map T).length (((l.take j).map T).map fun x => Value.string (str x)) ∧ Below w.heap.size w wr) (fun _ _ i _ => l.length - (intOf i).toNat)
  case atStart => exact ⟨0, Nat.zero_le _, rfl, own_nil, Below.refl _ _⟩
  case round =>
    obtain ⟨j, hj, rfl, hown, hb⟩ := hrel
    have HO := Lib.hid hown
    have HB := Lib.hid hb
    have hbs := hb.size
    have htl : ((l.take j).map T).length = j := by rw [List.length_map, List.length_take]; omega
    obtain ⟨B, cc, rfl, _⟩ := own_slice hown
    by_cases hlt : j < l.length
    · have hx : l[j] ∈ l := List.getElem_mem hlt
      have htk : (l.take (j + 1)).map T = (l.take j).map T ++ [T l[j]] := by rw [List.take_succ_eq_append_getElem hlt, List.map_append]; rfl
      have HTk := Lib.hid htk
      have HTj := Lib.hid (HT.out l[j] hx)
      rw [htl] at hown ⊢
      have HO := Lib.hid hown
      obtain ⟨b0, o0, V, rfl, hb1, hb2, x0, hV⟩ := (HV.out _ hb).listAt j hlt
      generalize l[j] = e at *
      obtain ⟨VA, Vc, rfl, _⟩ := hV.form
      have HTw := Lib.hid (HTj.out wr hb _ (hV.mono Enc.rl_laws (Nat.le_refl _) hbs))
      clear hV
      clear hown hb htk hx
      have i1 : (0 : Int) ≤ (j : Int) := Int.natCast_nonneg j
      have i2 : (j : Int) < (l.length : Int) := by omega
      clear HTj HT
      go_wp2_with fail
      refine HTw.out.mono ?_
      clear HTw
      rintro e w1 ⟨rfl, hb1'⟩
      have HB1 := Lib.hid (HB.out.trans (hb1'.mono hbs))
      have HO1 := Lib.hid (own_below HO.out hb1' (Nat.le_refl _))
      have hbs1 := HB1.out.size
      clear hb1'
      go_wp2_with (at_builtin; refine wpList_append_any rfl _ _ 211 rfl w.heap.size 9 Tryz.underlying211 info_strJ rfl (by decide) (((l.take j).map T).map fun x => Value.string (str x)) rfl (HO1.out.alloc _) [.string (str (T e))] rfl rfl (.inr ⟨_, _, rfl, one_newsJ _ _ _⟩) (by simp [Value.oneCell']) (by unfold maxLen; omega) (by omega) (by simp; omega) ?_)
      intro v3 w3 hown3 hgrow3 _
      have hle : ((l.take (j + 1)).map T).length = j + 1 := by rw [List.length_map, List.length_take]; omega
      have HO3 : Hid (w3.ownsRow w.heap.size 9 1 v3 ((l.take (j + 1)).map T).length (((l.take (j + 1)).map T).map fun x => Value.string (str x))) := Lib.hid (by
        rw [hle, HTk.out, List.map_append]
        simpa [List.map_take, Function.comp_def] using hown3)
      have HB3 := Lib.hid ((HB1.out.alloc hbs1 _).grown hgrow3 (by simp; omega) (own_ltJ HO1.out))
      clear hown3 hgrow3 hle
      go_wp2_with fail
      go_roundw
      case rel => exact ⟨j + 1, by omega, by go_num, HO3.out, HB3.out⟩
      case measure => simp [intOf]; omega
    · obtain rfl : j = l.length := by omega
      rw [List.take_length] at HO htl
      have HJo := Lib.hid (join_anyJ _ (l.map T) sep w.heap.size wr HO.out (by rw [List.length_map]; exact hn) HJ.out)
      rw [htl] at HJo
      rw [List.take_length, htl]
      clear hown hb HO htl
      go_wp2_with fail
      refine HJo.out.mono ?_
      clear HJo
      rintro e w2 ⟨rfl, hb2⟩
      have HB2 := Lib.hid (HB.out.trans (hb2.mono HB.out.size))
      clear hb2
      go_wp2_with fail
      go_ret
      exact ⟨rfl, HB2.out⟩
end Go.Proofs.YtjdfpoppimcikaaGreatDoor
/- group.digits, group.check, group.Put at threes. -/

namespace Go.Proofs.YtjdfpoppimcikaaGreatDoor
open Go.RowKit Go.Sort

theorem own_setAll {base g c : Nat} {e : TypeId} : ∀ (vs : List Value) (o n : Nat) (w : World) (xs : List Value), w.ownsRow base e 1 (.slice (some ⟨g, 0, none⟩) n c) n xs → o + vs.length ≤ n →
    (w.setCells g o vs).ownsRow base e 1 (.slice (some ⟨g, 0, none⟩) n c) n (xs.take o ++ vs ++ xs.drop (o + vs.length))
  | [], o, n, w, xs, h, _ => by
    show w.ownsRow _ _ _ _ _ _
    rw [List.append_nil, List.length_nil, Nat.add_zero, List.take_append_drop]
    exact h
  | v :: vs, o, n, w, xs, h, hl => by
    rw [List.length_cons] at hl
    have h1 := own_setN h o v (by omega)
    have hx : xs.length = n := by have := h.1; omega
    have h2 := own_setAll vs (o + 1) n _ _ h1 (by omega)
    have e1 : (xs.set o v).take (o + 1) = xs.take o ++ [v] := by
      rw [List.take_set, List.take_succ_eq_append_getElem (by omega)]
      rw [List.set_append_right _ _ (by rw [List.length_take]; omega), List.length_take, Nat.min_eq_left (by omega), Nat.sub_self]
      rfl
    have e2 : (xs.set o v).drop (o + 1 + vs.length) = xs.drop (o + (v :: vs).length) := by
      rw [List.drop_set_of_lt (by omega), List.length_cons]
      congr 1; omega
    rw [e1, e2] at h2
    have e3 : xs.take o ++ [v] ++ vs = xs.take o ++ (v :: vs) := by simp
    rw [e3] at h2
    exact h2
end Go.Proofs.YtjdfpoppimcikaaGreatDoor
/- Messages in one row: what a row is, plainly; the row that is being made. -/

namespace Go.Proofs.YtjdfpoppimcikaaGreatDoor
open Go.RowKit

/-- a step of a row -/
structure StpV where
  kind : Int
  text : ByteArray
  off : Int
  keys : List ByteArray
  begin : List Nat
  fin : Nat
def stp0 : StpV := ⟨0, ByteArray.empty, 0, [], [], 0⟩
section
variable {β : Type} (f : Nat → List β → List StpV)
def bodF : Nat → List (ByteArray × List β) → List StpV
  | _, [] => []
  | b, c :: r => f b c.2 ++ bodF (b + (f b c.2).length) r
def begF : Nat → List (ByteArray × List β) → List Nat
  | _, [] => []
  | b, c :: r => b :: begF (b + (f b c.2).length) r
def oneF (b : Nat) (x : NdF β) : List StpV :=
  ⟨x.kind, x.text, x.off, (casesR x).map Prod.fst, begF f (b + 1) (casesR x) ++ [b + 1 + (bodF f (b + 1) (casesR x)).length], b + 1 + (bodF f (b + 1) (casesR x)).length⟩ :: bodF f (b + 1) (casesR x)
def rowF : Nat → List (NdF β) → List StpV
  | _, [] => []
  | b, x :: r => oneF f b x ++ rowF (b + (oneF f b x).length) r
theorem bodF_snoc : ∀ (l : List (ByteArray × List β)) (b : Nat) (c : ByteArray × List β), bodF f b (l ++ [c]) = bodF f b l ++ f (b + (bodF f b l).length) c.2
  | [], b, c => by simp [bodF]
  | d :: l, b, c => by
    show f b d.2 ++ bodF f (b + (f b d.2).length) (l ++ [c]) = _
    rw [bodF_snoc l]
    simp [bodF, Nat.add_assoc]
theorem begF_snoc : ∀ (l : List (ByteArray × List β)) (b : Nat) (c : ByteArray × List β), begF f b (l ++ [c]) = begF f b l ++ [b + (bodF f b l).length]
  | [], b, c => by simp [bodF, begF]
  | d :: l, b, c => by
    show b :: begF f (b + (f b d.2).length) (l ++ [c]) = _
    rw [begF_snoc l]
    simp [bodF, begF, Nat.add_assoc]
theorem begF_len : ∀ (l : List (ByteArray × List β)) (b : Nat), (begF f b l).length = l.length
  | [], _ => rfl
  | d :: l, b => by show (begF f _ l).length + 1 = l.length + 1; rw [begF_len l]
theorem rowF_snoc : ∀ (l : List (NdF β)) (b : Nat) (x : NdF β), rowF f b (l ++ [x]) = rowF f b l ++ oneF f (b + (rowF f b l).length) x
  | [], b, x => by simp [rowF]
  | d :: l, b, x => by
    show oneF f b d ++ rowF f (b + (oneF f b d).length) (l ++ [x]) = _
    rw [rowF_snoc l]
    simp [rowF, Nat.add_assoc]
end
def stpN : (n : Nat) → Nat → List (Nd n) → List StpV
  | 0, _, _ => []
  | n + 1, b, m => rowF (stpN n) b (m : List (NdF (Nd n)))

/- ## The row in the world -/
structure SU where
  x : StpV
  v : Value
  u : Value
def SU.row (s : SU) : List Value := [.int .i64 s.x.kind, .string s.x.text, .int .i64 s.x.off, s.v, s.u, .int .i64 s.x.fin]
def flatU (l : List SU) : List Value := l.flatMap SU.row
def keyC (ks : List ByteArray) : List Value := ks.flatMap fun k => [.string k, .slice none 0 0]
def natC (l : List Nat) : List Value := l.map fun n : Nat => Value.int .i64 (n : Int)
theorem flatU_append (l r : List SU) : flatU (l ++ r) = flatU l ++ flatU r := by simp [flatU]
theorem flatU_len : ∀ l : List SU, (flatU l).length = l.length * 6
  | [] => rfl
  | s :: l => by show (SU.row s ++ flatU l).length = _; rw [List.length_append, flatU_len l, List.length_cons]; show 6 + _ = _; omega
theorem keyC_snoc (l : List ByteArray) (k : ByteArray) : keyC (l ++ [k]) = keyC l ++ [.string k, .slice none 0 0] := by simp [keyC]
theorem keyC_len : ∀ l : List ByteArray, (keyC l).length = l.length * 2
  | [] => rfl
  | s :: l => by show ([Value.string s, .slice none 0 0] ++ keyC l).length = _; rw [List.length_append, keyC_len l, List.length_cons (a := s)]; show 2 + _ = _; omega
theorem natC_snoc (l : List Nat) (k : Nat) : natC (l ++ [k]) = natC l ++ [.int .i64 (k : Int)] := by simp [natC]
/-- the row of a value that is none of the parts -/
def apartU (v : Value) (zs : List SU) : Prop := ∀ s ∈ zs, ∀ r, v.ownBlock = some r → s.v.ownBlock ≠ some r ∧ s.u.ownBlock ≠ some r
structure PartU (B : Nat) (W : World) (s : SU) : Prop where
  key : W.ownsRow B 76 2 s.v s.x.keys.length (keyC s.x.keys)
  beg : W.ownsRow B 3 1 s.u s.x.begin.length (natC s.x.begin)
structure SRow (B : Nat) (W : World) (out : Value) (zs : List SU) : Prop where
  row : W.ownsRow B 94 6 out zs.length (flatU zs)
  part : ∀ s ∈ zs, PartU B W s
theorem SRow.nil {B : Nat} {W : World} : SRow B W (.slice none 0 0) [] := ⟨own_nil, fun s hs => nomatch hs⟩
theorem PartU.mono {B B' : Nat} {W : World} {s : SU} (h : PartU B W s) (hb : B' ≤ B) : PartU B' W s := ⟨own_mono h.key hb, own_mono h.beg hb⟩
theorem PartU.keep {B : Nat} {W W' : World} {s : SU} (h : PartU B W s) (k1 : ∀ g, s.v.ownBlock = some g → g < W.heap.size → W'.heap[g]? = W.heap[g]?) (k2 : ∀ g, s.u.ownBlock = some g → g < W.heap.size → W'.heap[g]? = W.heap[g]?) : PartU B W' s :=
  ⟨own_keep h.key k1, own_keep h.beg k2⟩
theorem SRow.below {B : Nat} {W W' : World} {out : Value} {zs : List SU} (h : SRow B W out zs) (hb : Below W.heap.size W W') : SRow B W' out zs :=
  ⟨own_below h.row hb (Nat.le_refl _), fun s hs => (h.part s hs).keep (fun g _ hg => hb.block g hg) (fun g _ hg => hb.block g hg)⟩
/-- a row of another block grows -/
theorem SRow.grown {B b z n : Nat} {t : TypeId} {W W' : World} {out v : Value} {l : List Value} {zs : List SU} (h : SRow B W out zs) (hv : W.ownsRow b t z v n l) (ht : t ≠ 94) (ha : apartU v zs) (hg : W.grownBy W' v.ownBlock) : SRow B W' out zs :=
  ⟨own_keep h.row fun g e hlt => hg.block g hlt fun e2 => own_type hv h.row ht e2.symm e,
   fun s hs => (h.part s hs).keep (fun g e hlt => hg.block g hlt fun e2 => (ha s hs g e2.symm).1 e) (fun g e hlt => hg.block g hlt fun e2 => (ha s hs g e2.symm).2 e)⟩
/-- a step is appended -/
theorem SRow.push {B : Nat} {W W' : World} {out out' : Value} {zs : List SU} {s : SU} (h : SRow B W out zs) (hg : W.grownBy W' out.ownBlock) (hown : W'.ownsRow B 94 6 out' (zs.length + 1) (flatU zs ++ SU.row s)) (hs : PartU B W s) : SRow B W' out' (zs ++ [s]) := by
  have hk : ∀ s, PartU B W s → PartU B W' s := fun s hs => hs.keep (fun g e hlt => hg.block g hlt fun e2 => own_type h.row hs.key (by decide) e2.symm e) (fun g e hlt => hg.block g hlt fun e2 => own_type h.row hs.beg (by decide) e2.symm e)
  refine ⟨?_, fun y hy => ?_⟩
  · rw [flatU_append, List.length_append]
    simpa [flatU] using hown
  · rcases List.mem_append.1 hy with hy | hy
    · exact hk y (h.part y hy)
    · obtain rfl := List.mem_singleton.1 hy
      exact hk _ hs
/-- a cell of another block is set -/
theorem SRow.far {B : Nat} {W : World} {out : Value} {zs : List SU} (h : SRow B W out zs) {g : Nat} {t : TypeId} {cs : Array Value} (hb : Blk W g t cs) (h1 : t ≠ 94) (h2 : t ≠ 76) (h3 : t ≠ 3) (j : Nat) (v : Value) : SRow B (W.setCell ⟨g, j, none⟩ v) out zs := by
  have hne : ∀ {b z n : Nat} {t' : TypeId} {x : Value} {l : List Value}, W.ownsRow b t' z x n l → t ≠ t' → ∀ k, x.ownBlock = some k → k < W.heap.size → (W.setCell ⟨g, j, none⟩ v).heap[k]? = W.heap[k]? := fun {b z n t' x l} hx ht k hk _ => by
    refine Below.heap_setCell _ _ _ _ ?_
    intro e
    have e : k = g := e
    subst e
    obtain ⟨_, ⟨k2, _⟩ | ⟨g', cap, cur, hv, _, hh, _⟩⟩ := hx
    · rw [k2] at hk; cases hk
    · rw [hv] at hk
      injection hk with hk
      have hk : g' = k := hk
      subst hk
      unfold Blk at hb
      rw [hb] at hh
      injection hh with hh
      injection hh with _ hh
      exact ht hh
  exact ⟨own_keep h.row (hne h.row h1), fun s hs => (h.part s hs).keep (hne (h.part s hs).key h2) (hne (h.part s hs).beg h3)⟩
/- ## What an adding leaves -/
structure AdK (B k : Nat) (w w' : World) : Prop where
  below : Below B w w'
  kept : ∀ g, g < w.heap.size → g ≠ k → (∀ cs f, w.heap[g]? ≠ some (.cells cs 94 f)) → w'.heap[g]? = w.heap[g]?
section
variable {B k : Nat} {w w1 w' : World}
theorem AdK.refl (B k : Nat) (w : World) : AdK B k w w := ⟨Below.refl _ _, fun _ _ _ _ => rfl⟩
theorem AdK.trans (h : AdK B k w w1) (h2 : AdK B k w1 w') : AdK B k w w' :=
  ⟨h.below.trans h2.below, fun g hg hk hn => by
    have h3 := h.kept g hg hk hn
    exact (h2.kept g (Nat.lt_of_lt_of_le hg h.below.size) hk (fun cs f => by rw [h3]; exact hn cs f)).trans h3⟩
theorem AdK.of (h : Below w.heap.size w w') (hB : B ≤ w.heap.size) : AdK B k w w' := ⟨h.mono hB, fun g hg _ _ => h.block g hg⟩
theorem AdK.setCell (h : AdK B k w w1) (hB : B ≤ k) (j : Nat) (v : Value) : AdK B k w (w1.setCell ⟨k, j, none⟩ v) :=
  h.trans ⟨(Below.refl _ _).setCell (p := ⟨k, j, none⟩) hB v, fun g _ hk _ => Below.heap_setCell _ _ _ _ hk⟩
theorem AdK.blk (h : AdK B k w w') {g : Nat} {t : TypeId} {cs : Array Value} (hb : Blk w g t cs) (hk : g ≠ k) (ht : t ≠ 94) : Blk w' g t cs :=
  (h.kept g hb.lt hk (fun cs' f e => by
    unfold Blk at hb
    rw [hb] at e
    injection e with e
    injection e with _ e
    exact ht e)).trans hb
theorem AdK.own (h : AdK B k w w') {b z n : Nat} {t : TypeId} {v : Value} {l : List Value} (hv : w.ownsRow b t z v n l) (ht : t ≠ 94) {cs : Array Value} (hk : Blk w k 49 cs) (ht2 : t ≠ 49) : w'.ownsRow b t z v n l :=
  own_keep hv fun g hg hlt => h.kept g hlt (fun e => by
    subst e
    obtain ⟨_, ⟨h2, _⟩ | ⟨g', cap, cur, hv', _, hh, _⟩⟩ := hv
    · rw [h2] at hg; cases hg
    · rw [hv'] at hg
      injection hg with hg
      have hg : g' = g := hg
      subst hg
      unfold Blk at hk
      rw [hk] at hh
      injection hh with hh
      injection hh with _ hh
      exact ht2 hh.symm) (fun cs f e => by
    obtain ⟨_, ⟨h2, _⟩ | ⟨g', cap, cur, hv', _, hh, _⟩⟩ := hv
    · rw [h2] at hg; cases hg
    · rw [hv'] at hg
      injection hg with hg
      have hg : g' = g := hg
      subst hg
      rw [hh] at e
      injection e with e
      injection e with _ e
      exact ht e)
/-- the row of steps grows -/
theorem AdK.grown {v : Value} {n z : Nat} {xs : List Value} (h : AdK B k w w1) (hown : w1.ownsRow B 94 z v n xs) (hg : w1.grownBy w' v.ownBlock) (hB : B ≤ w1.heap.size) : AdK B k w w' :=
  h.trans ⟨(Below.refl B w1).grown hg hB (fun k hk => (own_lt hown hk).1), fun g hgl _ hn => hg.block g hgl (fun e => by
    obtain ⟨_, ⟨h2, _⟩ | ⟨g', cap, cur, hv, _, hh, _⟩⟩ := hown
    · rw [h2] at e; cases e
    · rw [hv] at e
      injection e with e
      subst e
      exact hn _ _ hh)⟩
/-- a younger row grows -/
theorem AdK.young {b : Nat} {row : Option Nat} (h : AdK B k w w1) (hr : ∀ r, row = some r → w.heap.size ≤ r) (hg : w1.grownBy w' row) (hB : B ≤ w.heap.size) : AdK B k w w' :=
  ⟨h.below.grown hg (Nat.le_trans hB h.below.size) (fun r e => Nat.le_trans hB (hr r e)), fun g hgl hk hn => (hg.block g (Nat.lt_of_lt_of_le hgl h.below.size) (fun e => by have := hr g e.symm; omega)).trans (h.kept g hgl hk hn)⟩
end
/-- the code's box and its row -/
def CodeAt (B k : Nat) (W : World) (zs : List SU) : Prop := B ≤ k ∧ ∃ out, Blk W k 49 #[out, .slice none 0 0] ∧ SRow B W out zs
end Go.Proofs.YtjdfpoppimcikaaGreatDoor
