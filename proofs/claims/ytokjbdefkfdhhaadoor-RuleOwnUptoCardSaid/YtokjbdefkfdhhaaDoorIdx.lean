/- slices.IndexFunc and slices.ContainsFunc at the types of a rule. -/
import Derived.Test.YtokjbdefkfdhhaaDoorRuleV
namespace Go.Proofs.YtokjbdefkfdhhaaDoor
open Go.RowKit

def idxOf {α : Type} (l : List α) (T : α → Bool) : Int := match l.findIdx? T with | some i => i | none => -1
theorem idx_hit {α : Type} {l : List α} {T : α → Bool} {j : Nat} (h : j < l.length) (hp : T l[j] = true) (hno : ∀ q (h : q < l.length), q < j → T l[q] = false) : idxOf l T = j := by
  unfold idxOf; rw [findIdx_at l T j h hp hno]
theorem idx_no {α : Type} {l : List α} {T : α → Bool} (hno : ∀ q (h : q < l.length), T l[q] = false) : idxOf l T = -1 := by
  unfold idxOf; rw [findIdx_none l T hno]
theorem idx_any {α : Type} (l : List α) (T : α → Bool) : decide (0 ≤ idxOf l T) = l.any T := by
  unfold idxOf
  cases h : l.findIdx? T with
  | none =>
    rw [List.findIdx?_eq_none_iff] at h
    have : l.any T = false := by rw [List.any_eq_false]; intro x hx; simp [h x hx]
    rw [this]; decide
  | some i =>
    rw [List.findIdx?_eq_some_iff_getElem] at h
    obtain ⟨hi, hp, _⟩ := h
    rw [any_of_at l T i hi hp]
    simp
set_option maxHeartbeats 3200000 in
set_option maxRecDepth 100000 in
theorem indexF_any (l : List (Int × Int)) (v : Value) (T : (Int × Int) → Bool) (lo : Nat) (w : World) (hv : ListOk Enc.pair w lo w.heap.size v l) (hn : l.length ≤ 1000000000)
    (HT : Hid (∀ x ∈ l, ∀ W, Below w.heap.size w W → Calls Tryd.prog 37 #[.agg #[.int .i64 x.1, .int .i64 x.2]] W fun e w' => e = .returned (.bool (T x)) ∧ Below W.heap.size W w')) :
    Calls Tryd.prog 42 #[v, .func (.func 37) #[] #[]] w fun e w' => e = .returned (.int .i64 (idxOf l T)) ∧ Below w.heap.size w w' := by
  obtain ⟨A, c, rfl, hc⟩ := hv.form
  have HV : Hid (∀ W, Below w.heap.size w W → ListOk Enc.pair W lo w.heap.size (.slice A l.length c) l) := Lib.hid fun W hW => hv.below Enc.pair_laws hW
  clear hv
  go_enter Tryd.func42, Tryd.ntmps42
  go_wp2_with fail
  go_loopw [5, 8] (fun _ i wr => ∃ j : Nat, j ≤ l.length ∧ i = .int .i64 (j : Int) ∧ Hid (∀ q (h : q < l.length), q < j → T l[q] = false) ∧ Below w.heap.size w wr) (fun _ i _ => l.length - (intOf i).toNat)
  case atStart => exact ⟨0, Nat.zero_le _, rfl, Lib.hid fun q _ h => absurd h (Nat.not_lt_zero _), Below.refl _ _⟩
  case round =>
    obtain ⟨j, hj, rfl, HNo, hb⟩ := hrel
    have HB := Lib.hid hb
    have hbs := hb.size
    by_cases hlt : j < l.length
    · have hx : l[j] ∈ l := List.getElem_mem hlt
      have HTj := Lib.hid (HT.out l[j] hx)
      obtain ⟨X, hX⟩ : ∃ X, X = T l[j] := ⟨_, rfl⟩
      have HX : Hid (X = T l[j]) := Lib.hid hX
      rw [← hX] at HTj
      have HI1 : Hid (X = true → idxOf l T = (j : Int)) := Lib.hid fun h => idx_hit hlt (HX.out.symm.trans h) HNo.out
      have HI2 : Hid (X = false → ∀ q (h : q < l.length), q < j + 1 → T l[q] = false) := Lib.hid fun h => step_no l T j HNo.out fun _ => HX.out.symm.trans h
      clear HX HNo
      obtain ⟨b0, o0, rfl, hb1, hb2, x0, x1⟩ := (HV.out _ hb).pairAt j hlt
      generalize l[j] = e at *
      obtain ⟨e0, e1⟩ := e
      dsimp only at x0 x1 HTj
      have HTw := Lib.hid (HTj.out wr hb)
      clear hb hx hX
      have i1 : (0 : Int) ≤ (j : Int) := Int.natCast_nonneg j
      have i2 : (j : Int) < (l.length : Int) := by omega
      clear HTj HT
      go_wp2_with fail
      refine HTw.out.mono ?_
      clear HTw
      rintro e w1 ⟨rfl, hb1'⟩
      have HB1 := Lib.hid (HB.out.trans (hb1'.mono hbs))
      clear hb1'
      cases X with
      | true =>
        have HI : Hid (idxOf l T = (j : Int)) := Lib.hid (HI1.out rfl)
        clear HI1 HI2
        go_wp2_with fail
        go_ret
        exact ⟨by rw [HI.out]; rfl, HB1.out⟩
      | false =>
        have HN2 : Hid (∀ q (h : q < l.length), q < j + 1 → T l[q] = false) := Lib.hid (HI2.out rfl)
        clear HI1 HI2
        go_wp2_with fail
        go_roundw
        case rel => exact ⟨j + 1, by omega, by go_num, HN2, HB1.out⟩
        case measure => simp [intOf]; omega
    · obtain rfl : j = l.length := by omega
      have HI : Hid (idxOf l T = -1) := Lib.hid (idx_no fun q h => HNo.out q h h)
      clear hb HNo
      go_wp2_with fail
      go_ret
      exact ⟨by rw [HI.out]; rfl, HB.out⟩
set_option maxHeartbeats 1600000 in
theorem containsF_any (l : List (Int × Int)) (v : Value) (T : (Int × Int) → Bool) (lo : Nat) (w : World) (hv : ListOk Enc.pair w lo w.heap.size v l) (hn : l.length ≤ 1000000000)
    (HT : Hid (∀ x ∈ l, ∀ W, Below w.heap.size w W → Calls Tryd.prog 37 #[.agg #[.int .i64 x.1, .int .i64 x.2]] W fun e w' => e = .returned (.bool (T x)) ∧ Below W.heap.size W w')) :
    Calls Tryd.prog 29 #[v, .func (.func 37) #[] #[]] w fun e w' => e = .returned (.bool (l.any T)) ∧ Below w.heap.size w w' := by
  have HI := Lib.hid (indexF_any l v T lo w hv hn HT)
  have HE := Lib.hid (idx_any l T)
  clear HT hv
  generalize idxOf l T = I at *
  generalize l.any T = X at *
  go_enter Tryd.func29, Tryd.ntmps29
  go_wp2_with fail
  refine HI.out.mono ?_
  clear HI
  rintro e w1 ⟨rfl, hb⟩
  have HB := Lib.hid hb
  clear hb
  go_wp2_with fail
  go_ret
  exact ⟨by rw [← HE.out]; rfl, HB.out⟩
set_option maxHeartbeats 3200000 in
set_option maxRecDepth 100000 in
theorem indexH_any (l : List (Int × Int)) (v : Value) (q0 : Nat) (T : (Int × Int) → Bool) (lo : Nat) (w : World) (hv : ListOk Enc.pair w lo w.heap.size v l) (hn : l.length ≤ 1000000000)
    (HT : Hid (∀ x ∈ l, ∀ W, Below w.heap.size w W → Calls Tryd.prog 30 #[.agg #[.int .i64 x.1, .int .i64 x.2], .pointer (some ⟨q0, 0, none⟩)] W fun e w' => e = .returned (.bool (T x)) ∧ Below W.heap.size W w')) :
    Calls Tryd.prog 42 #[v, .func (.func 30) #[] #[.pointer (some ⟨q0, 0, none⟩)]] w fun e w' => e = .returned (.int .i64 (idxOf l T)) ∧ Below w.heap.size w w' := by
  obtain ⟨A, c, rfl, hc⟩ := hv.form
  have HV : Hid (∀ W, Below w.heap.size w W → ListOk Enc.pair W lo w.heap.size (.slice A l.length c) l) := Lib.hid fun W hW => hv.below Enc.pair_laws hW
  clear hv
  go_enter Tryd.func42, Tryd.ntmps42
  go_wp2_with fail
  go_loopw [5, 8] (fun _ i wr => ∃ j : Nat, j ≤ l.length ∧ i = .int .i64 (j : Int) ∧ Hid (∀ q (h : q < l.length), q < j → T l[q] = false) ∧ Below w.heap.size w wr) (fun _ i _ => l.length - (intOf i).toNat)
  case atStart => exact ⟨0, Nat.zero_le _, rfl, Lib.hid fun q _ h => absurd h (Nat.not_lt_zero _), Below.refl _ _⟩
  case round =>
    obtain ⟨j, hj, rfl, HNo, hb⟩ := hrel
    have HB := Lib.hid hb
    have hbs := hb.size
    by_cases hlt : j < l.length
    · have hx : l[j] ∈ l := List.getElem_mem hlt
      have HTj := Lib.hid (HT.out l[j] hx)
      obtain ⟨X, hX⟩ : ∃ X, X = T l[j] := ⟨_, rfl⟩
      have HX : Hid (X = T l[j]) := Lib.hid hX
      rw [← hX] at HTj
      have HI1 : Hid (X = true → idxOf l T = (j : Int)) := Lib.hid fun h => idx_hit hlt (HX.out.symm.trans h) HNo.out
      have HI2 : Hid (X = false → ∀ q (h : q < l.length), q < j + 1 → T l[q] = false) := Lib.hid fun h => step_no l T j HNo.out fun _ => HX.out.symm.trans h
      clear HX HNo
      obtain ⟨b0, o0, rfl, hb1, hb2, x0, x1⟩ := (HV.out _ hb).pairAt j hlt
      generalize l[j] = e at *
      obtain ⟨e0, e1⟩ := e
      dsimp only at x0 x1 HTj
      have HTw := Lib.hid (HTj.out wr hb)
      clear hb hx hX
      have i1 : (0 : Int) ≤ (j : Int) := Int.natCast_nonneg j
      have i2 : (j : Int) < (l.length : Int) := by omega
      clear HTj HT
      go_wp2_with fail
      refine HTw.out.mono ?_
      clear HTw
      rintro e w1 ⟨rfl, hb1'⟩
      have HB1 := Lib.hid (HB.out.trans (hb1'.mono hbs))
      clear hb1'
      cases X with
      | true =>
        have HI : Hid (idxOf l T = (j : Int)) := Lib.hid (HI1.out rfl)
        clear HI1 HI2
        go_wp2_with fail
        go_ret
        exact ⟨by rw [HI.out]; rfl, HB1.out⟩
      | false =>
        have HN2 : Hid (∀ q (h : q < l.length), q < j + 1 → T l[q] = false) := Lib.hid (HI2.out rfl)
        clear HI1 HI2
        go_wp2_with fail
        go_roundw
        case rel => exact ⟨j + 1, by omega, by go_num, HN2, HB1.out⟩
        case measure => simp [intOf]; omega
    · obtain rfl : j = l.length := by omega
      have HI : Hid (idxOf l T = -1) := Lib.hid (idx_no fun q h => HNo.out q h h)
      clear hb HNo
      go_wp2_with fail
      go_ret
      exact ⟨by rw [HI.out]; rfl, HB.out⟩
set_option maxHeartbeats 1600000 in
theorem containsH_any (l : List (Int × Int)) (v : Value) (q0 : Nat) (T : (Int × Int) → Bool) (lo : Nat) (w : World) (hv : ListOk Enc.pair w lo w.heap.size v l) (hn : l.length ≤ 1000000000)
    (HT : Hid (∀ x ∈ l, ∀ W, Below w.heap.size w W → Calls Tryd.prog 30 #[.agg #[.int .i64 x.1, .int .i64 x.2], .pointer (some ⟨q0, 0, none⟩)] W fun e w' => e = .returned (.bool (T x)) ∧ Below W.heap.size W w')) :
    Calls Tryd.prog 29 #[v, .func (.func 30) #[] #[.pointer (some ⟨q0, 0, none⟩)]] w fun e w' => e = .returned (.bool (l.any T)) ∧ Below w.heap.size w w' := by
  have HI := Lib.hid (indexH_any l v q0 T lo w hv hn HT)
  have HE := Lib.hid (idx_any l T)
  clear HT hv
  generalize idxOf l T = I at *
  generalize l.any T = X at *
  go_enter Tryd.func29, Tryd.ntmps29
  go_wp2_with fail
  refine HI.out.mono ?_
  clear HI
  rintro e w1 ⟨rfl, hb⟩
  have HB := Lib.hid hb
  clear hb
  go_wp2_with fail
  go_ret
  exact ⟨by rw [← HE.out]; rfl, HB.out⟩
set_option maxHeartbeats 3200000 in
set_option maxRecDepth 100000 in
theorem indexR_any (l : List Rl) (v : Value) (q0 : Nat) (T : Rl → Bool) (lo : Nat) (w : World) (hv : ListOk Enc.rl w lo w.heap.size v l) (hn : l.length ≤ 1000000000)
    (HT : Hid (∀ x ∈ l, ∀ W, Below w.heap.size w W → ∀ V, ListOk Enc.pair W lo W.heap.size V x.rng → Calls Tryd.prog 17 #[.agg #[.int .u8 x.op.toNat, .int .i64 x.mod, .bool x.neg, V], .pointer (some ⟨q0, 0, none⟩)] W fun e w' => e = .returned (.bool (T x)) ∧ Below W.heap.size W w')) :
    Calls Tryd.prog 28 #[v, .func (.func 17) #[] #[.pointer (some ⟨q0, 0, none⟩)]] w fun e w' => e = .returned (.int .i64 (idxOf l T)) ∧ Below w.heap.size w w' := by
  obtain ⟨A, c, rfl, hc⟩ := hv.form
  have HV : Hid (∀ W, Below w.heap.size w W → ListOk Enc.rl W lo w.heap.size (.slice A l.length c) l) := Lib.hid fun W hW => hv.below Enc.rl_laws hW
  clear hv
  go_enter Tryd.func28, Tryd.ntmps28
  go_wp2_with fail
  go_loopw [5, 8] (fun _ i wr => ∃ j : Nat, j ≤ l.length ∧ i = .int .i64 (j : Int) ∧ Hid (∀ q (h : q < l.length), q < j → T l[q] = false) ∧ Below w.heap.size w wr) (fun _ i _ => l.length - (intOf i).toNat)
  case atStart => exact ⟨0, Nat.zero_le _, rfl, Lib.hid fun q _ h => absurd h (Nat.not_lt_zero _), Below.refl _ _⟩
  case round =>
    obtain ⟨j, hj, rfl, HNo, hb⟩ := hrel
    have HB := Lib.hid hb
    have hbs := hb.size
    by_cases hlt : j < l.length
    · have hx : l[j] ∈ l := List.getElem_mem hlt
      have HTj := Lib.hid (HT.out l[j] hx)
      obtain ⟨X, hX⟩ : ∃ X, X = T l[j] := ⟨_, rfl⟩
      have HX : Hid (X = T l[j]) := Lib.hid hX
      rw [← hX] at HTj
      have HI1 : Hid (X = true → idxOf l T = (j : Int)) := Lib.hid fun h => idx_hit hlt (HX.out.symm.trans h) HNo.out
      have HI2 : Hid (X = false → ∀ q (h : q < l.length), q < j + 1 → T l[q] = false) := Lib.hid fun h => step_no l T j HNo.out fun _ => HX.out.symm.trans h
      clear HX HNo
      obtain ⟨b0, o0, V, rfl, hb1, hb2, x0, x1, x2, x3, hV⟩ := (HV.out _ hb).rlAt j hlt
      generalize l[j] = e at *
      obtain ⟨e0, e1, e2, e3⟩ := e
      dsimp only at x0 x1 x2 x3 hV HTj
      obtain ⟨VA, Vc, rfl, _⟩ := hV.form
      have HTw := Lib.hid (HTj.out wr hb _ (hV.mono Enc.pair_laws (Nat.le_refl _) hbs))
      clear hV
      clear hb hx hX
      have i1 : (0 : Int) ≤ (j : Int) := Int.natCast_nonneg j
      have i2 : (j : Int) < (l.length : Int) := by omega
      clear HTj HT
      go_wp2_with fail
      refine HTw.out.mono ?_
      clear HTw
      rintro e w1 ⟨rfl, hb1'⟩
      have HB1 := Lib.hid (HB.out.trans (hb1'.mono hbs))
      clear hb1'
      cases X with
      | true =>
        have HI : Hid (idxOf l T = (j : Int)) := Lib.hid (HI1.out rfl)
        clear HI1 HI2
        go_wp2_with fail
        go_ret
        exact ⟨by rw [HI.out]; rfl, HB1.out⟩
      | false =>
        have HN2 : Hid (∀ q (h : q < l.length), q < j + 1 → T l[q] = false) := Lib.hid (HI2.out rfl)
        clear HI1 HI2
        go_wp2_with fail
        go_roundw
        case rel => exact ⟨j + 1, by omega, by go_num, HN2, HB1.out⟩
        case measure => simp [intOf]; omega
    · obtain rfl : j = l.length := by omega
      have HI : Hid (idxOf l T = -1) := Lib.hid (idx_no fun q h => HNo.out q h h)
      clear hb HNo
      go_wp2_with fail
      go_ret
      exact ⟨by rw [HI.out]; rfl, HB.out⟩
set_option maxHeartbeats 1600000 in
theorem containsR_any (l : List Rl) (v : Value) (q0 : Nat) (T : Rl → Bool) (lo : Nat) (w : World) (hv : ListOk Enc.rl w lo w.heap.size v l) (hn : l.length ≤ 1000000000)
    (HT : Hid (∀ x ∈ l, ∀ W, Below w.heap.size w W → ∀ V, ListOk Enc.pair W lo W.heap.size V x.rng → Calls Tryd.prog 17 #[.agg #[.int .u8 x.op.toNat, .int .i64 x.mod, .bool x.neg, V], .pointer (some ⟨q0, 0, none⟩)] W fun e w' => e = .returned (.bool (T x)) ∧ Below W.heap.size W w')) :
    Calls Tryd.prog 16 #[v, .func (.func 17) #[] #[.pointer (some ⟨q0, 0, none⟩)]] w fun e w' => e = .returned (.bool (l.any T)) ∧ Below w.heap.size w w' := by
  have HI := Lib.hid (indexR_any l v q0 T lo w hv hn HT)
  have HE := Lib.hid (idx_any l T)
  clear HT hv
  generalize idxOf l T = I at *
  generalize l.any T = X at *
  go_enter Tryd.func16, Tryd.ntmps16
  go_wp2_with fail
  refine HI.out.mono ?_
  clear HI
  rintro e w1 ⟨rfl, hb⟩
  have HB := Lib.hid hb
  clear hb
  go_wp2_with fail
  go_ret
  exact ⟨by rw [← HE.out]; rfl, HB.out⟩
set_option maxHeartbeats 3200000 in
set_option maxRecDepth 100000 in
theorem indexL_any (l : List (List Rl)) (v : Value) (q0 : Nat) (T : (List Rl) → Bool) (lo : Nat) (w : World) (hv : ListOk (Enc.list Enc.rl) w lo w.heap.size v l) (hn : l.length ≤ 1000000000)
    (HT : Hid (∀ x ∈ l, ∀ W, Below w.heap.size w W → ∀ V, ListOk Enc.rl W lo W.heap.size V x → Calls Tryd.prog 15 #[V, .pointer (some ⟨q0, 0, none⟩)] W fun e w' => e = .returned (.bool (T x)) ∧ Below W.heap.size W w')) :
    Calls Tryd.prog 27 #[v, .func (.func 15) #[] #[.pointer (some ⟨q0, 0, none⟩)]] w fun e w' => e = .returned (.int .i64 (idxOf l T)) ∧ Below w.heap.size w w' := by
  obtain ⟨A, c, rfl, hc⟩ := hv.form
  have HV : Hid (∀ W, Below w.heap.size w W → ListOk (Enc.list Enc.rl) W lo w.heap.size (.slice A l.length c) l) := Lib.hid fun W hW => hv.below (Enc.list_laws Enc.rl_laws) hW
  clear hv
  go_enter Tryd.func27, Tryd.ntmps27
  go_wp2_with fail
  go_loopw [5, 8] (fun _ i wr => ∃ j : Nat, j ≤ l.length ∧ i = .int .i64 (j : Int) ∧ Hid (∀ q (h : q < l.length), q < j → T l[q] = false) ∧ Below w.heap.size w wr) (fun _ i _ => l.length - (intOf i).toNat)
  case atStart => exact ⟨0, Nat.zero_le _, rfl, Lib.hid fun q _ h => absurd h (Nat.not_lt_zero _), Below.refl _ _⟩
  case round =>
    obtain ⟨j, hj, rfl, HNo, hb⟩ := hrel
    have HB := Lib.hid hb
    have hbs := hb.size
    by_cases hlt : j < l.length
    · have hx : l[j] ∈ l := List.getElem_mem hlt
      have HTj := Lib.hid (HT.out l[j] hx)
      obtain ⟨X, hX⟩ : ∃ X, X = T l[j] := ⟨_, rfl⟩
      have HX : Hid (X = T l[j]) := Lib.hid hX
      rw [← hX] at HTj
      have HI1 : Hid (X = true → idxOf l T = (j : Int)) := Lib.hid fun h => idx_hit hlt (HX.out.symm.trans h) HNo.out
      have HI2 : Hid (X = false → ∀ q (h : q < l.length), q < j + 1 → T l[q] = false) := Lib.hid fun h => step_no l T j HNo.out fun _ => HX.out.symm.trans h
      clear HX HNo
      obtain ⟨b0, o0, V, rfl, hb1, hb2, x0, hV⟩ := (HV.out _ hb).listAt j hlt
      generalize l[j] = e at *
      obtain ⟨VA, Vc, rfl, _⟩ := hV.form
      have HTw := Lib.hid (HTj.out wr hb _ (hV.mono Enc.rl_laws (Nat.le_refl _) hbs))
      clear hV
      clear hb hx hX
      have i1 : (0 : Int) ≤ (j : Int) := Int.natCast_nonneg j
      have i2 : (j : Int) < (l.length : Int) := by omega
      clear HTj HT
      go_wp2_with fail
      refine HTw.out.mono ?_
      clear HTw
      rintro e w1 ⟨rfl, hb1'⟩
      have HB1 := Lib.hid (HB.out.trans (hb1'.mono hbs))
      clear hb1'
      cases X with
      | true =>
        have HI : Hid (idxOf l T = (j : Int)) := Lib.hid (HI1.out rfl)
        clear HI1 HI2
        go_wp2_with fail
        go_ret
        exact ⟨by rw [HI.out]; rfl, HB1.out⟩
      | false =>
        have HN2 : Hid (∀ q (h : q < l.length), q < j + 1 → T l[q] = false) := Lib.hid (HI2.out rfl)
        clear HI1 HI2
        go_wp2_with fail
        go_roundw
        case rel => exact ⟨j + 1, by omega, by go_num, HN2, HB1.out⟩
        case measure => simp [intOf]; omega
    · obtain rfl : j = l.length := by omega
      have HI : Hid (idxOf l T = -1) := Lib.hid (idx_no fun q h => HNo.out q h h)
      clear hb HNo
      go_wp2_with fail
      go_ret
      exact ⟨by rw [HI.out]; rfl, HB.out⟩
set_option maxHeartbeats 1600000 in
theorem containsL_any (l : List (List Rl)) (v : Value) (q0 : Nat) (T : (List Rl) → Bool) (lo : Nat) (w : World) (hv : ListOk (Enc.list Enc.rl) w lo w.heap.size v l) (hn : l.length ≤ 1000000000)
    (HT : Hid (∀ x ∈ l, ∀ W, Below w.heap.size w W → ∀ V, ListOk Enc.rl W lo W.heap.size V x → Calls Tryd.prog 15 #[V, .pointer (some ⟨q0, 0, none⟩)] W fun e w' => e = .returned (.bool (T x)) ∧ Below W.heap.size W w')) :
    Calls Tryd.prog 14 #[v, .func (.func 15) #[] #[.pointer (some ⟨q0, 0, none⟩)]] w fun e w' => e = .returned (.bool (l.any T)) ∧ Below w.heap.size w w' := by
  have HI := Lib.hid (indexL_any l v q0 T lo w hv hn HT)
  have HE := Lib.hid (idx_any l T)
  clear HT hv
  generalize idxOf l T = I at *
  generalize l.any T = X at *
  go_enter Tryd.func14, Tryd.ntmps14
  go_wp2_with fail
  refine HI.out.mono ?_
  clear HI
  rintro e w1 ⟨rfl, hb⟩
  have HB := Lib.hid hb
  clear hb
  go_wp2_with fail
  go_ret
  exact ⟨by rw [← HE.out]; rfl, HB.out⟩
end Go.Proofs.YtokjbdefkfdhhaaDoor
