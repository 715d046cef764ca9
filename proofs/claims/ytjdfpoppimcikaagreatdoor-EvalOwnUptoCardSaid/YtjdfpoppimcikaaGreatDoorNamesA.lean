/- names: what is needed of a name; slices.IndexFunc and ContainsFunc over it. -/
import Derived.Test.YtjdfpoppimcikaaGreatDoorMsgG
namespace Go.Proofs.YtjdfpoppimcikaaGreatDoor
open Go.RowKit

structure Ned where
  name : ByteArray
  num : Bool
  text : Bool
def nedV (x : Ned) : List Value := [.string x.name, .bool x.num, .bool x.text]
def flatN (l : List Ned) : List Value := l.flatMap nedV
theorem flatN_snoc (l : List Ned) (x : Ned) : flatN (l ++ [x]) = flatN l ++ nedV x := by simp [flatN]
theorem flatN_at : ∀ (l : List Ned) (i : Nat) (h : i < l.length), ((flatN l).drop (i * 3)).take 3 = nedV l[i]
  | [], i, h => by cases h
  | p :: l, 0, _ => by show ((nedV p ++ flatN l).drop (0 * 3)).take 3 = _; simp [nedV]
  | p :: l, i + 1, h => by
    have ih := flatN_at l i (by simpa using h)
    show ((nedV p ++ flatN l).drop ((i + 1) * 3)).take 3 = _
    rw [show (i + 1) * 3 = (nedV p).length + i * 3 from by simp [nedV]; omega, List.drop_append, List.drop_eq_nil_of_le (Nat.le_add_right _ _), Nat.add_sub_cancel_left]
    exact ih
theorem flatN_set : ∀ (l : List Ned) (i : Nat) (h : i < l.length) (a b : Bool), ((flatN l).set (i * 3 + 1) (.bool a)).set (i * 3 + 2) (.bool b) = flatN (l.set i ⟨l[i].name, a, b⟩)
  | [], i, h, _, _ => by cases h
  | p :: l, 0, _, a, b => by rfl
  | p :: l, i + 1, h, a, b => by
    have ih := flatN_set l i (by simpa using h) a b
    have e1 : (i + 1) * 3 + 1 = (i * 3 + 1) + 1 + 1 + 1 := by omega
    have e2 : (i + 1) * 3 + 2 = (i * 3 + 2) + 1 + 1 + 1 := by omega
    rw [e1, e2]
    show (((nedV p ++ flatN l).set ((i * 3 + 1) + 1 + 1 + 1) (.bool a)).set ((i * 3 + 2) + 1 + 1 + 1) (.bool b)) = nedV p ++ flatN (l.set i ⟨(l[i]'(by simpa using h)).name, a, b⟩)
    rw [← ih]
    rfl
def Enc.ned : Enc Ned := ⟨3, 24, fun _ _ _ cs x => cs = nedV x, fun _ _ => True, fun _ => 1⟩
theorem Enc.ned_laws : Enc.ned.Laws := ⟨fun h => by cases h; rfl, fun h _ => h, fun h _ _ => h⟩
theorem neds_of_own {w : World} {base lo hi : Nat} {v : Value} {l : List Ned} (h : w.ownsRow base 82 3 v l.length (flatN l)) (hb : lo ≤ base) (hs : w.heap.size ≤ hi) : ListOk Enc.ned w lo hi v l :=
  ListOk.of_own (E := Enc.ned) h hb hs fun i hl => flatN_at l i hl
theorem ListOk.nedAt {w : World} {lo hi : Nat} {A : Option Addr} {n c : Nat} {l : List Ned} (h : ListOk Enc.ned w lo hi (.slice A n c) l) (i : Nat) (hl : i < l.length) :
    ∃ b o, A = some ⟨b, o, none⟩ ∧ lo ≤ b ∧ b < hi ∧ w.cell? ⟨b, o + i * 3, none⟩ = some (.string l[i].name) ∧ w.cell? ⟨b, o + i * 3 + 1, none⟩ = some (.bool l[i].num) ∧ w.cell? ⟨b, o + i * 3 + 2, none⟩ = some (.bool l[i].text) := by
  obtain ⟨A', c', hv, _, hi'⟩ := h
  injection hv with hv1 _ _
  subst hv1
  obtain ⟨b, o, cs, hA, h1, h2, h3, h4⟩ := hi' i hl
  have h4' : cs = nedV l[i] := h4
  subst h4'
  exact ⟨b, o, hA, h1, h2, h3 0 _ rfl, h3 1 _ rfl, h3 2 _ rfl⟩
def idxOfN {α : Type} (l : List α) (T : α → Bool) : Int := match l.findIdx? T with | some i => i | none => -1
theorem idxN_hit {α : Type} {l : List α} {T : α → Bool} {j : Nat} (h : j < l.length) (hp : T l[j] = true) (hno : ∀ q (h : q < l.length), q < j → T l[q] = false) : idxOfN l T = j := by
  unfold idxOfN; rw [findIdx_at l T j h hp hno]
theorem idxN_no {α : Type} {l : List α} {T : α → Bool} (hno : ∀ q (h : q < l.length), T l[q] = false) : idxOfN l T = -1 := by
  unfold idxOfN; rw [findIdx_none l T hno]
theorem idxN_any {α : Type} (l : List α) (T : α → Bool) : decide (0 ≤ idxOfN l T) = l.any T := by
  unfold idxOfN
  cases h : l.findIdx? T with
  | none =>
    rw [List.findIdx?_eq_none_iff] at h
    have : l.any T = false := by rw [List.any_eq_false]; intro x hx; simp [h x hx]
    rw [this]; decide
  | some i =>
    rw [List.findIdx?_eq_some_iff_getElem] at h
    obtain ⟨hi, hp, _⟩ := h
    rw [any_of_at l T i hi hp]
    simp
theorem idx_cases {α : Type} (l : List α) (T : α → Bool) : idxOfN l T = -1 ∨ ∃ i, i < l.length ∧ idxOfN l T = (i : Nat) := by
  unfold idxOfN
  cases h : l.findIdx? T with
  | none => exact .inl rfl
  | some i =>
    rw [List.findIdx?_eq_some_iff_getElem] at h
    exact .inr ⟨i, h.1, rfl⟩
set_option maxHeartbeats 3200000 in
set_option maxRecDepth 100000 in
theorem indexA_any (l : List Ned) (v : Value) (q0 : Nat) (T : Ned → Bool) (lo : Nat) (w : World) (hv : ListOk Enc.ned w lo w.heap.size v l) (hn : l.length ≤ 1000000000)
    (HT : Hid (∀ x ∈ l, ∀ W, Below w.heap.size w W → Calls Tryz.prog 114 #[.agg #[.string x.name, .bool x.num, .bool x.text], .pointer (some ⟨q0, 0, none⟩)] W fun e w' => e = .returned (.bool (T x)) ∧ Below W.heap.size W w')) :
    Calls Tryz.prog 77 #[v, .func (.func 114) #[] #[.pointer (some ⟨q0, 0, none⟩)]] w fun e w' => e = .returned (.int .i64 (idxOfN l T)) ∧ Below w.heap.size w w' := by
  obtain ⟨A, c, rfl, hc⟩ := hv.form
  have HV : Hid (∀ W, Below w.heap.size w W → ListOk Enc.ned W lo w.heap.size (.slice A l.length c) l) := Lib.hid fun W hW => hv.below Enc.ned_laws hW
  clear hv
  go_enter Tryz.func77, Tryz.ntmps77
  go_wp2_with fail
  go_loopw [5, 8] (fun _ i wr => ∃ j : Nat, j ≤ l.length ∧ i = .int .i64 (j : Int) ∧ Hid (∀ q (h : q < l.length), q < j → T l[q] = false) ∧ Below w.heap.size w wr) (fun _ i _ => l.length - (intOf i).toNat)
  case atStart => exact ⟨0, Nat.zero_le _, rfl, Lib.hid fun q _ h => absurd h (Nat.not_lt_zero _), Below.refl _ _⟩
  case round =>
    obtain ⟨j, hj, rfl, HNo, hb⟩ := hrel
    have HB := Lib.hid hb
    have hbs := hb.size
    by_cases hlt : j < l.length
    · have hx : l[j] ∈ l := List.getElem_mem hlt
      have HTj := Lib.hid (HT.out l[j] hx)
      obtain ⟨X, hX⟩ : ∃ X, X = T l[j] := ⟨_, rfl⟩
      have HX : Hid (X = T l[j]) := Lib.hid hX
      rw [← hX] at HTj
      have HI1 : Hid (X = true → idxOfN l T = (j : Int)) := Lib.hid fun h => idxN_hit hlt (HX.out.symm.trans h) HNo.out
      have HI2 : Hid (X = false → ∀ q (h : q < l.length), q < j + 1 → T l[q] = false) := Lib.hid fun h => step_no l T j HNo.out fun _ => HX.out.symm.trans h
      clear HX HNo
      obtain ⟨b0, o0, rfl, hb1, hb2, x0, x1, x2⟩ := (HV.out _ hb).nedAt j hlt
      generalize l[j] = e at *
      obtain ⟨e0, e1, e2⟩ := e
      dsimp only at x0 x1 x2 HTj
      have HTw := Lib.hid (HTj.out wr hb)
      clear hb hx hX
      have i1 : (0 : Int) ≤ (j : Int) := Int.natCast_nonneg j
      have i2 : (j : Int) < (l.length : Int) := by omega
      clear HTj HT
      go_wp2_with fail
      refine HTw.out.mono ?_
      clear HTw
      rintro e w1 ⟨rfl, hb1'⟩
      have HB1 := Lib.hid (HB.out.trans (hb1'.mono hbs))
      clear hb1'
      cases X with
      | true =>
        have HI : Hid (idxOfN l T = (j : Int)) := Lib.hid (HI1.out rfl)
        clear HI1 HI2
        go_wp2_with fail
        go_ret
        exact ⟨by rw [HI.out]; rfl, HB1.out⟩
      | false =>
        have HN2 : Hid (∀ q (h : q < l.length), q < j + 1 → T l[q] = false) := Lib.hid (HI2.out rfl)
        clear HI1 HI2
        go_wp2_with fail
        go_roundw
        case rel => exact ⟨j + 1, by omega, by go_num, HN2, HB1.out⟩
        case measure => simp [intOf]; omega
    · obtain rfl : j = l.length := by omega
      have HI : Hid (idxOfN l T = -1) := Lib.hid (idxN_no fun q h => HNo.out q h h)
      clear hb HNo
      go_wp2_with fail
      go_ret
      exact ⟨by rw [HI.out]; rfl, HB.out⟩
set_option maxHeartbeats 3200000 in
set_option maxRecDepth 100000 in
theorem indexO_any (l : List Ned) (v : Value) (T : Ned → Bool) (lo : Nat) (w : World) (hv : ListOk Enc.ned w lo w.heap.size v l) (hn : l.length ≤ 1000000000)
    (HT : Hid (∀ x ∈ l, ∀ W, Below w.heap.size w W → Calls Tryz.prog 46 #[.agg #[.string x.name, .bool x.num, .bool x.text]] W fun e w' => e = .returned (.bool (T x)) ∧ Below W.heap.size W w')) :
    Calls Tryz.prog 77 #[v, .func (.func 46) #[] #[]] w fun e w' => e = .returned (.int .i64 (idxOfN l T)) ∧ Below w.heap.size w w' := by
  obtain ⟨A, c, rfl, hc⟩ := hv.form
  have HV : Hid (∀ W, Below w.heap.size w W → ListOk Enc.ned W lo w.heap.size (.slice A l.length c) l) := Lib.hid fun W hW => hv.below Enc.ned_laws hW
  clear hv
  go_enter Tryz.func77, Tryz.ntmps77
  go_wp2_with fail
  go_loopw [5, 8] (fun _ i wr => ∃ j : Nat, j ≤ l.length ∧ i = .int .i64 (j : Int) ∧ Hid (∀ q (h : q < l.length), q < j → T l[q] = false) ∧ Below w.heap.size w wr) (fun _ i _ => l.length - (intOf i).toNat)
  case atStart => exact ⟨0, Nat.zero_le _, rfl, Lib.hid fun q _ h => absurd h (Nat.not_lt_zero _), Below.refl _ _⟩
  case round =>
    obtain ⟨j, hj, rfl, HNo, hb⟩ := hrel
    have HB := Lib.hid hb
    have hbs := hb.size
    by_cases hlt : j < l.length
    · have hx : l[j] ∈ l := List.getElem_mem hlt
      have HTj := Lib.hid (HT.out l[j] hx)
      obtain ⟨X, hX⟩ : ∃ X, X = T l[j] := ⟨_, rfl⟩
      have HX : Hid (X = T l[j]) := Lib.hid hX
      rw [← hX] at HTj
      have HI1 : Hid (X = true → idxOfN l T = (j : Int)) := Lib.hid fun h => idxN_hit hlt (HX.out.symm.trans h) HNo.out
      have HI2 : Hid (X = false → ∀ q (h : q < l.length), q < j + 1 → T l[q] = false) := Lib.hid fun h => step_no l T j HNo.out fun _ => HX.out.symm.trans h
      clear HX HNo
      obtain ⟨b0, o0, rfl, hb1, hb2, x0, x1, x2⟩ := (HV.out _ hb).nedAt j hlt
      generalize l[j] = e at *
      obtain ⟨e0, e1, e2⟩ := e
      dsimp only at x0 x1 x2 HTj
      have HTw := Lib.hid (HTj.out wr hb)
      clear hb hx hX
      have i1 : (0 : Int) ≤ (j : Int) := Int.natCast_nonneg j
      have i2 : (j : Int) < (l.length : Int) := by omega
      clear HTj HT
      go_wp2_with fail
      refine HTw.out.mono ?_
      clear HTw
      rintro e w1 ⟨rfl, hb1'⟩
      have HB1 := Lib.hid (HB.out.trans (hb1'.mono hbs))
      clear hb1'
      cases X with
      | true =>
        have HI : Hid (idxOfN l T = (j : Int)) := Lib.hid (HI1.out rfl)
        clear HI1 HI2
        go_wp2_with fail
        go_ret
        exact ⟨by rw [HI.out]; rfl, HB1.out⟩
      | false =>
        have HN2 : Hid (∀ q (h : q < l.length), q < j + 1 → T l[q] = false) := Lib.hid (HI2.out rfl)
        clear HI1 HI2
        go_wp2_with fail
        go_roundw
        case rel => exact ⟨j + 1, by omega, by go_num, HN2, HB1.out⟩
        case measure => simp [intOf]; omega
    · obtain rfl : j = l.length := by omega
      have HI : Hid (idxOfN l T = -1) := Lib.hid (idxN_no fun q h => HNo.out q h h)
      clear hb HNo
      go_wp2_with fail
      go_ret
      exact ⟨by rw [HI.out]; rfl, HB.out⟩
set_option maxHeartbeats 1600000 in
theorem addC_any (x : Ned) (q0 : Nat) (t : ByteArray) (w : World) (hq : w.cell? ⟨q0, 1, none⟩ = some (.string t)) :
    Calls Tryz.prog 114 #[.agg #[.string x.name, .bool x.num, .bool x.text], .pointer (some ⟨q0, 0, none⟩)] w fun e w' => e = .returned (.bool (eqs x.name t)) ∧ Below w.heap.size w w' := by
  obtain ⟨n0, n1, n2⟩ := x
  obtain ⟨W1, eW1⟩ : ∃ W1, W1 = w.alloc (.cells #[.string n0, .bool n1, .bool n2] 82) := ⟨_, rfl⟩
  have hb1 : Below w.heap.size w W1 := by rw [eW1]; exact (Below.refl _ _).alloc (Nat.le_refl _) _
  have m1 : Blk W1 w.heap.size 82 #[.string n0, .bool n1, .bool n2] := by rw [eW1]; exact Blk.new _ _ _
  have k0 : W1.cell? ⟨w.heap.size, 0, none⟩ = some (.string n0) := (m1.cell 0).trans rfl
  have kq : W1.cell? ⟨q0, 1, none⟩ = some (.string t) := (hb1.cell (p := ⟨q0, 1, none⟩) (cellLt hq)).trans hq
  have HB1 := Lib.hid hb1
  have HW1 := Lib.hid eW1
  clear hq eW1 m1 hb1
  dsimp only
  go_enter Tryz.func114, Tryz.ntmps114
  go_upto_region 1 with fail
  rw [← HW1.out]
  clear HW1
  go_wp2_with fail
  go_ret
  exact ⟨rfl, HB1.out⟩
set_option maxHeartbeats 1600000 in
theorem ofC_any (x : Ned) (w : World) : Calls Tryz.prog 46 #[.agg #[.string x.name, .bool x.num, .bool x.text]] w fun e w' => e = .returned (.bool (x.num && x.text)) ∧ Below w.heap.size w w' := by
  obtain ⟨n0, n1, n2⟩ := x
  dsimp only
  cases n1 with
  | true =>
    go_enter Tryz.func46, Tryz.ntmps46
    go_wp2_with fail
    go_ret
    exact ⟨by simp, (Below.refl _ _).alloc (Nat.le_refl _) _⟩
  | false =>
    go_enter Tryz.func46, Tryz.ntmps46
    go_wp2_with fail
    go_ret
    exact ⟨by simp, (Below.refl _ _).alloc (Nat.le_refl _) _⟩
set_option maxHeartbeats 1600000 in
theorem containsO_any (l : List Ned) (v : Value) (lo : Nat) (w : World) (hv : ListOk Enc.ned w lo w.heap.size v l) (hn : l.length ≤ 1000000000) :
    Calls Tryz.prog 45 #[v, .func (.func 46) #[] #[]] w fun e w' => e = .returned (.bool (l.any fun x => x.num && x.text)) ∧ Below w.heap.size w w' := by
  have HI := Lib.hid (indexO_any l v (fun x => x.num && x.text) lo w hv hn (Lib.hid fun x _ W _ => ofC_any x W))
  have HE := Lib.hid (idxN_any l fun x => x.num && x.text)
  clear hv
  generalize idxOfN l (fun x => x.num && x.text) = I at *
  generalize l.any (fun x => x.num && x.text) = X at *
  go_enter Tryz.func45, Tryz.ntmps45
  go_wp2_with fail
  refine HI.out.mono ?_
  clear HI
  rintro e w1 ⟨rfl, hb⟩
  have HB := Lib.hid hb
  clear hb
  go_wp2_with fail
  go_ret
  exact ⟨by rw [← HE.out]; rfl, HB.out⟩
end Go.Proofs.YtjdfpoppimcikaaGreatDoor
