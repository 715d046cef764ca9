/- The variables that a saying reads; eval.Numeral. -/
import Derived.Test.YtjdfpoppimcikaaGreatDoorFmtB
import Derived.Test.YtjdfpoppimcikaaGreatDoorRuleV
namespace Go.Proofs.YtjdfpoppimcikaaGreatDoor
open Go.RowKit

def patC : List Value := [.string ⟨#[]⟩, .string ⟨#[]⟩, .int .i64 1, .int .i64 0, .int .i64 3, .int .i64 3, .int .i64 0]
def symC : List Value := [.int .u8 46, .int .u8 44]
def kindC : List ByteArray := [⟨#[122, 101, 114, 111]⟩, ⟨#[111, 110, 101]⟩, ⟨#[116, 119, 111]⟩, ⟨#[102, 101, 119]⟩, ⟨#[109, 97, 110, 121]⟩]
structure EvV (w : World) : Prop where
  mv : MV w
  rv : RV w
  pat : ∀ j (h : j < patC.length), w.cell? ⟨0, j, none⟩ = some patC[j]
  sym : ∀ j (h : j < symC.length), w.cell? ⟨1, j, none⟩ = some symC[j]
  knd : ∀ j (h : j < kindC.length), w.cell? ⟨3, j, none⟩ = some (.string kindC[j])
theorem EvV.below {w w' : World} (h : EvV w) (hb : Below w.heap.size w w') : EvV w' :=
  ⟨h.mv.below hb, h.rv.below hb, fun j hj => (hb.cell (p := ⟨_, j, none⟩) (cellLt (h.pat j hj))).trans (h.pat j hj), fun j hj => (hb.cell (p := ⟨_, j, none⟩) (cellLt (h.sym j hj))).trans (h.sym j hj), fun j hj => (hb.cell (p := ⟨_, j, none⟩) (cellLt (h.knd j hj))).trans (h.knd j hj)⟩
set_option maxHeartbeats 1600000 in
set_option maxRecDepth 100000 in
theorem numeral_any (d : DecV) (w : World) (hv : EvV w) : Calls Tryz.prog 30 #[d.v] w fun e w' => e = .returned (.tuple #[.string (str (numT d)), errD (numE d)]) ∧ Below w.heap.size w w' := by
  have hb1 : Below w.heap.size w (w.alloc (.cells #[.int .i64 d.coef, .int .i64 d.scale] 33)) := (Below.refl _ _).alloc (Nat.le_refl _) _
  have HB1 := Lib.hid hb1
  have hv1 := hv.below hb1
  have HF := Lib.hid (format_any d (w.alloc (.cells #[.int .i64 d.coef, .int .i64 d.scale] 33)) hv1.mv hv1.rv)
  have p0 := hv1.pat 0 (by decide)
  have p1 := hv1.pat 1 (by decide)
  have p2 := hv1.pat 2 (by decide)
  have p3 := hv1.pat 3 (by decide)
  have p4 := hv1.pat 4 (by decide)
  have p5 := hv1.pat 5 (by decide)
  have p6 := hv1.pat 6 (by decide)
  have q0 := hv1.sym 0 (by decide)
  have q1 := hv1.sym 1 (by decide)
  simp only [patC, symC, List.getElem_cons_zero, List.getElem_cons_succ] at p0 p1 p2 p3 p4 p5 p6 q0 q1
  unfold patV symV DecV.v at *
  clear hv hv1 hb1
  generalize str (numT d) = T at *
  have herr : ∃ v, errD (numE d) = v := ⟨_, rfl⟩
  obtain ⟨er, her⟩ := herr
  rw [her] at HF ⊢
  clear her
  go_enter Tryz.func30, Tryz.ntmps30
  go_wp2_with fail
  refine HF.out.mono ?_
  clear HF
  rintro e w2 ⟨rfl, hb2⟩
  have HB2 := Lib.hid (HB1.out.trans (hb2.mono HB1.out.size))
  clear hb2
  go_wp2_with fail
  go_ret2
  exact ⟨rfl, HB2.out⟩
end Go.Proofs.YtjdfpoppimcikaaGreatDoor
/- slices.IndexFunc and slices.ContainsFunc at the types of a rule. -/

namespace Go.Proofs.YtjdfpoppimcikaaGreatDoor
open Go.RowKit

def idxOf {α : Type} (l : List α) (T : α → Bool) : Int := match l.findIdx? T with | some i => i | none => -1
theorem idx_hit {α : Type} {l : List α} {T : α → Bool} {j : Nat} (h : j < l.length) (hp : T l[j] = true) (hno : ∀ q (h : q < l.length), q < j → T l[q] = false) : idxOf l T = j := by
  unfold idxOf; rw [findIdx_at l T j h hp hno]
theorem idx_no {α : Type} {l : List α} {T : α → Bool} (hno : ∀ q (h : q < l.length), T l[q] = false) : idxOf l T = -1 := by
  unfold idxOf; rw [findIdx_none l T hno]
theorem idx_any {α : Type} (l : List α) (T : α → Bool) : decide (0 ≤ idxOf l T) = l.any T := by
  unfold idxOf
  cases h : l.findIdx? T with
  | none =>
    rw [List.findIdx?_eq_none_iff] at h
    have : l.any T = false := by rw [List.any_eq_false]; intro x hx; simp [h x hx]
    rw [this]; decide
  | some i =>
    rw [List.findIdx?_eq_some_iff_getElem] at h
    obtain ⟨hi, hp, _⟩ := h
    rw [any_of_at l T i hi hp]
    simp
set_option maxHeartbeats 3200000 in
set_option maxRecDepth 100000 in
theorem indexF_any (l : List (Int × Int)) (v : Value) (T : (Int × Int) → Bool) (lo : Nat) (w : World) (hv : ListOk Enc.pair w lo w.heap.size v l) (hn : l.length ≤ 1000000000)
    (HT : Hid (∀ x ∈ l, ∀ W, Below w.heap.size w W → Calls Tryz.prog 181 #[.agg #[.int .i64 x.1, .int .i64 x.2]] W fun e w' => e = .returned (.bool (T x)) ∧ Below W.heap.size W w')) :
    Calls Tryz.prog 182 #[v, .func (.func 181) #[] #[]] w fun e w' => e = .returned (.int .i64 (idxOf l T)) ∧ Below w.heap.size w w' := by
  obtain ⟨A, c, rfl, hc⟩ := hv.form
  have HV : Hid (∀ W, Below w.heap.size w W → ListOk Enc.pair W lo w.heap.size (.slice A l.length c) l) := Lib.hid fun W hW => hv.below Enc.pair_laws hW
  clear hv
  go_enter Tryz.func182, Tryz.ntmps182
  go_wp2_with fail
  go_loopw [5, 8] (fun _ i wr => ∃ j : Nat, j ≤ l.length ∧ i = .int .i64 (j : Int) ∧ Hid (∀ q (h : q < l.length), q < j → T l[q] = false) ∧ Below w.heap.size w wr) (fun _ i _ => l.length - (intOf i).toNat)
  case atStart => exact ⟨0, Nat.zero_le _, rfl, Lib.hid fun q _ h => absurd h (Nat.not_lt_zero _), Below.refl _ _⟩
  case round =>
    obtain ⟨j, hj, rfl, HNo, hb⟩ := hrel
    have HB := Lib.hid hb
    have hbs := hb.size
    by_cases hlt : j < l.length
    · have hx : l[j] ∈ l := List.getElem_mem hlt
      have HTj := Lib.hid (HT.out l[j] hx)
      obtain ⟨X, hX⟩ : ∃ X, X = T l[j] := ⟨_, rfl⟩
      have HX : Hid (X = T l[j]) := Lib.hid hX
      rw [← hX] at HTj
      have HI1 : Hid (X = true → idxOf l T = (j : Int)) := Lib.hid fun h => idx_hit hlt (HX.out.symm.trans h) HNo.out
      have HI2 : Hid (X = false → ∀ q (h : q < l.length), q < j + 1 → T l[q] = false) := Lib.hid fun h => step_no l T j HNo.out fun _ => HX.out.symm.trans h
      clear HX HNo
      obtain ⟨b0, o0, rfl, hb1, hb2, x0, x1⟩ := (HV.out _ hb).pairAt j hlt
      generalize l[j] = e at *
      obtain ⟨e0, e1⟩ := e
      dsimp only at x0 x1 HTj
      have HTw := Lib.hid (HTj.out wr hb)
      clear hb hx hX
      have i1 : (0 : Int) ≤ (j : Int) := Int.natCast_nonneg j
      have i2 : (j : Int) < (l.length : Int) := by omega
      clear HTj HT
      go_wp2_with fail
      refine HTw.out.mono ?_
      clear HTw
      rintro e w1 ⟨rfl, hb1'⟩
      have HB1 := Lib.hid (HB.out.trans (hb1'.mono hbs))
      clear hb1'
      cases X with
      | true =>
        have HI : Hid (idxOf l T = (j : Int)) := Lib.hid (HI1.out rfl)
        clear HI1 HI2
        go_wp2_with fail
        go_ret
        exact ⟨by rw [HI.out]; rfl, HB1.out⟩
      | false =>
        have HN2 : Hid (∀ q (h : q < l.length), q < j + 1 → T l[q] = false) := Lib.hid (HI2.out rfl)
        clear HI1 HI2
        go_wp2_with fail
        go_roundw
        case rel => exact ⟨j + 1, by omega, by go_num, HN2, HB1.out⟩
        case measure => simp [intOf]; omega
    · obtain rfl : j = l.length := by omega
      have HI : Hid (idxOf l T = -1) := Lib.hid (idx_no fun q h => HNo.out q h h)
      clear hb HNo
      go_wp2_with fail
      go_ret
      exact ⟨by rw [HI.out]; rfl, HB.out⟩
set_option maxHeartbeats 1600000 in
theorem containsF_any (l : List (Int × Int)) (v : Value) (T : (Int × Int) → Bool) (lo : Nat) (w : World) (hv : ListOk Enc.pair w lo w.heap.size v l) (hn : l.length ≤ 1000000000)
    (HT : Hid (∀ x ∈ l, ∀ W, Below w.heap.size w W → Calls Tryz.prog 181 #[.agg #[.int .i64 x.1, .int .i64 x.2]] W fun e w' => e = .returned (.bool (T x)) ∧ Below W.heap.size W w')) :
    Calls Tryz.prog 164 #[v, .func (.func 181) #[] #[]] w fun e w' => e = .returned (.bool (l.any T)) ∧ Below w.heap.size w w' := by
  have HI := Lib.hid (indexF_any l v T lo w hv hn HT)
  have HE := Lib.hid (idx_any l T)
  clear HT hv
  generalize idxOf l T = I at *
  generalize l.any T = X at *
  go_enter Tryz.func164, Tryz.ntmps164
  go_wp2_with fail
  refine HI.out.mono ?_
  clear HI
  rintro e w1 ⟨rfl, hb⟩
  have HB := Lib.hid hb
  clear hb
  go_wp2_with fail
  go_ret
  exact ⟨by rw [← HE.out]; rfl, HB.out⟩
set_option maxHeartbeats 3200000 in
set_option maxRecDepth 100000 in
theorem indexH_any (l : List (Int × Int)) (v : Value) (q0 : Nat) (T : (Int × Int) → Bool) (lo : Nat) (w : World) (hv : ListOk Enc.pair w lo w.heap.size v l) (hn : l.length ≤ 1000000000)
    (HT : Hid (∀ x ∈ l, ∀ W, Below w.heap.size w W → Calls Tryz.prog 165 #[.agg #[.int .i64 x.1, .int .i64 x.2], .pointer (some ⟨q0, 0, none⟩)] W fun e w' => e = .returned (.bool (T x)) ∧ Below W.heap.size W w')) :
    Calls Tryz.prog 182 #[v, .func (.func 165) #[] #[.pointer (some ⟨q0, 0, none⟩)]] w fun e w' => e = .returned (.int .i64 (idxOf l T)) ∧ Below w.heap.size w w' := by
  obtain ⟨A, c, rfl, hc⟩ := hv.form
  have HV : Hid (∀ W, Below w.heap.size w W → ListOk Enc.pair W lo w.heap.size (.slice A l.length c) l) := Lib.hid fun W hW => hv.below Enc.pair_laws hW
  clear hv
  go_enter Tryz.func182, Tryz.ntmps182
  go_wp2_with fail
  go_loopw [5, 8] (fun _ i wr => ∃ j : Nat, j ≤ l.length ∧ i = .int .i64 (j : Int) ∧ Hid (∀ q (h : q < l.length), q < j → T l[q] = false) ∧ Below w.heap.size w wr) (fun _ i _ => l.length - (intOf i).toNat)
  case atStart => exact ⟨0, Nat.zero_le _, rfl, Lib.hid fun q _ h => absurd h (Nat.not_lt_zero _), Below.refl _ _⟩
  case round =>
    obtain ⟨j, hj, rfl, HNo, hb⟩ := hrel
    have HB := Lib.hid hb
    have hbs := hb.size
    by_cases hlt : j < l.length
    · have hx : l[j] ∈ l := List.getElem_mem hlt
      have HTj := Lib.hid (HT.out l[j] hx)
      obtain ⟨X, hX⟩ : ∃ X, X = T l[j] := ⟨_, rfl⟩
      have HX : Hid (X = T l[j]) := Lib.hid hX
      rw [← hX] at HTj
      have HI1 : Hid (X = true → idxOf l T = (j : Int)) := Lib.hid fun h => idx_hit hlt (HX.out.symm.trans h) HNo.out
      have HI2 : Hid (X = false → ∀ q (h : q < l.length), q < j + 1 → T l[q] = false) := Lib.hid fun h => step_no l T j HNo.out fun _ => HX.out.symm.trans h
      clear HX HNo
      obtain ⟨b0, o0, rfl, hb1, hb2, x0, x1⟩ := (HV.out _ hb).pairAt j hlt
      generalize l[j] = e at *
      obtain ⟨e0, e1⟩ := e
      dsimp only at x0 x1 HTj
      have HTw := Lib.hid (HTj.out wr hb)
      clear hb hx hX
      have i1 : (0 : Int) ≤ (j : Int) := Int.natCast_nonneg j
      have i2 : (j : Int) < (l.length : Int) := by omega
      clear HTj HT
      go_wp2_with fail
      refine HTw.out.mono ?_
      clear HTw
      rintro e w1 ⟨rfl, hb1'⟩
      have HB1 := Lib.hid (HB.out.trans (hb1'.mono hbs))
      clear hb1'
      cases X with
      | true =>
        have HI : Hid (idxOf l T = (j : Int)) := Lib.hid (HI1.out rfl)
        clear HI1 HI2
        go_wp2_with fail
        go_ret
        exact ⟨by rw [HI.out]; rfl, HB1.out⟩
      | false =>
        have HN2 : Hid (∀ q (h : q < l.length), q < j + 1 → T l[q] = false) := Lib.hid (HI2.out rfl)
        clear HI1 HI2
        go_wp2_with fail
        go_roundw
        case rel => exact ⟨j + 1, by omega, by go_num, HN2, HB1.out⟩
        case measure => simp [intOf]; omega
    · obtain rfl : j = l.length := by omega
      have HI : Hid (idxOf l T = -1) := Lib.hid (idx_no fun q h => HNo.out q h h)
      clear hb HNo
      go_wp2_with fail
      go_ret
      exact ⟨by rw [HI.out]; rfl, HB.out⟩
set_option maxHeartbeats 1600000 in
theorem containsH_any (l : List (Int × Int)) (v : Value) (q0 : Nat) (T : (Int × Int) → Bool) (lo : Nat) (w : World) (hv : ListOk Enc.pair w lo w.heap.size v l) (hn : l.length ≤ 1000000000)
    (HT : Hid (∀ x ∈ l, ∀ W, Below w.heap.size w W → Calls Tryz.prog 165 #[.agg #[.int .i64 x.1, .int .i64 x.2], .pointer (some ⟨q0, 0, none⟩)] W fun e w' => e = .returned (.bool (T x)) ∧ Below W.heap.size W w')) :
    Calls Tryz.prog 164 #[v, .func (.func 165) #[] #[.pointer (some ⟨q0, 0, none⟩)]] w fun e w' => e = .returned (.bool (l.any T)) ∧ Below w.heap.size w w' := by
  have HI := Lib.hid (indexH_any l v q0 T lo w hv hn HT)
  have HE := Lib.hid (idx_any l T)
  clear HT hv
  generalize idxOf l T = I at *
  generalize l.any T = X at *
  go_enter Tryz.func164, Tryz.ntmps164
  go_wp2_with fail
  refine HI.out.mono ?_
  clear HI
  rintro e w1 ⟨rfl, hb⟩
  have HB := Lib.hid hb
  clear hb
  go_wp2_with fail
  go_ret
  exact ⟨by rw [← HE.out]; rfl, HB.out⟩
set_option maxHeartbeats 3200000 in
set_option maxRecDepth 100000 in
theorem indexR_any (l : List Rl) (v : Value) (q0 : Nat) (T : Rl → Bool) (lo : Nat) (w : World) (hv : ListOk Enc.rl w lo w.heap.size v l) (hn : l.length ≤ 1000000000)
    (HT : Hid (∀ x ∈ l, ∀ W, Below w.heap.size w W → ∀ V, ListOk Enc.pair W lo W.heap.size V x.rng → Calls Tryz.prog 140 #[.agg #[.int .u8 x.op.toNat, .int .i64 x.mod, .bool x.neg, V], .pointer (some ⟨q0, 0, none⟩)] W fun e w' => e = .returned (.bool (T x)) ∧ Below W.heap.size W w')) :
    Calls Tryz.prog 163 #[v, .func (.func 140) #[] #[.pointer (some ⟨q0, 0, none⟩)]] w fun e w' => e = .returned (.int .i64 (idxOf l T)) ∧ Below w.heap.size w w' := by
  obtain ⟨A, c, rfl, hc⟩ := hv.form
  have HV : Hid (∀ W, Below w.heap.size w W → ListOk Enc.rl W lo w.heap.size (.slice A l.length c) l) := Lib.hid fun W hW => hv.below Enc.rl_laws hW
  clear hv
  go_enter Tryz.func163, Tryz.ntmps163
  go_wp2_with fail
  go_loopw [5, 8] (fun _ i wr => ∃ j : Nat, j ≤ l.length ∧ i = .int .i64 (j : Int) ∧ Hid (∀ q (h : q < l.length), q < j → T l[q] = false) ∧ Below w.heap.size w wr) (fun _ i _ => l.length - (intOf i).toNat)
  case atStart => exact ⟨0, Nat.zero_le _, rfl, Lib.hid fun q _ h => absurd h (Nat.not_lt_zero _), Below.refl _ _⟩
  case round =>
    obtain ⟨j, hj, rfl, HNo, hb⟩ := hrel
    have HB := Lib.hid hb
    have hbs := hb.size
    by_cases hlt : j < l.length
    · have hx : l[j] ∈ l := List.getElem_mem hlt
      have HTj := Lib.hid (HT.out l[j] hx)
      obtain ⟨X, hX⟩ : ∃ X, X = T l[j] := ⟨_, rfl⟩
      have HX : Hid (X = T l[j]) := Lib.hid hX
      rw [← hX] at HTj
      have HI1 : Hid (X = true → idxOf l T = (j : Int)) := Lib.hid fun h => idx_hit hlt (HX.out.symm.trans h) HNo.out
      have HI2 : Hid (X = false → ∀ q (h : q < l.length), q < j + 1 → T l[q] = false) := Lib.hid fun h => step_no l T j HNo.out fun _ => HX.out.symm.trans h
      clear HX HNo
      obtain ⟨b0, o0, V, rfl, hb1, hb2, x0, x1, x2, x3, hV⟩ := (HV.out _ hb).rlAt j hlt
      generalize l[j] = e at *
      obtain ⟨e0, e1, e2, e3⟩ := e
      dsimp only at x0 x1 x2 x3 hV HTj
      obtain ⟨VA, Vc, rfl, _⟩ := hV.form
      have HTw := Lib.hid (HTj.out wr hb _ (hV.mono Enc.pair_laws (Nat.le_refl _) hbs))
      clear hV
      clear hb hx hX
      have i1 : (0 : Int) ≤ (j : Int) := Int.natCast_nonneg j
      have i2 : (j : Int) < (l.length : Int) := by omega
      clear HTj HT
      go_wp2_with fail
      refine HTw.out.mono ?_
      clear HTw
      rintro e w1 ⟨rfl, hb1'⟩
      have HB1 := Lib.hid (HB.out.trans (hb1'.mono hbs))
      clear hb1'
      cases X with
      | true =>
        have HI : Hid (idxOf l T = (j : Int)) := Lib.hid (HI1.out rfl)
        clear HI1 HI2
        go_wp2_with fail
        go_ret
        exact ⟨by rw [HI.out]; rfl, HB1.out⟩
      | false =>
        have HN2 : Hid (∀ q (h : q < l.length), q < j + 1 → T l[q] = false) := Lib.hid (HI2.out rfl)
        clear HI1 HI2
        go_wp2_with fail
        go_roundw
        case rel => exact ⟨j + 1, by omega, by go_num, HN2, HB1.out⟩
        case measure => simp [intOf]; omega
    · obtain rfl : j = l.length := by omega
      have HI : Hid (idxOf l T = -1) := Lib.hid (idx_no fun q h => HNo.out q h h)
      clear hb HNo
      go_wp2_with fail
      go_ret
      exact ⟨by rw [HI.out]; rfl, HB.out⟩
set_option maxHeartbeats 1600000 in
theorem containsR_any (l : List Rl) (v : Value) (q0 : Nat) (T : Rl → Bool) (lo : Nat) (w : World) (hv : ListOk Enc.rl w lo w.heap.size v l) (hn : l.length ≤ 1000000000)
    (HT : Hid (∀ x ∈ l, ∀ W, Below w.heap.size w W → ∀ V, ListOk Enc.pair W lo W.heap.size V x.rng → Calls Tryz.prog 140 #[.agg #[.int .u8 x.op.toNat, .int .i64 x.mod, .bool x.neg, V], .pointer (some ⟨q0, 0, none⟩)] W fun e w' => e = .returned (.bool (T x)) ∧ Below W.heap.size W w')) :
    Calls Tryz.prog 139 #[v, .func (.func 140) #[] #[.pointer (some ⟨q0, 0, none⟩)]] w fun e w' => e = .returned (.bool (l.any T)) ∧ Below w.heap.size w w' := by
  have HI := Lib.hid (indexR_any l v q0 T lo w hv hn HT)
  have HE := Lib.hid (idx_any l T)
  clear HT hv
  generalize idxOf l T = I at *
  generalize l.any T = X at *
  go_enter Tryz.func139, Tryz.ntmps139
  go_wp2_with fail
  refine HI.out.mono ?_
  clear HI
  rintro e w1 ⟨rfl, hb⟩
  have HB := Lib.hid hb
  clear hb
  go_wp2_with fail
  go_ret
  exact ⟨by rw [← HE.out]; rfl, HB.out⟩
set_option maxHeartbeats 3200000 in
set_option maxRecDepth 100000 in
theorem indexL_any (l : List (List Rl)) (v : Value) (q0 : Nat) (T : (List Rl) → Bool) (lo : Nat) (w : World) (hv : ListOk (Enc.list Enc.rl) w lo w.heap.size v l) (hn : l.length ≤ 1000000000)
    (HT : Hid (∀ x ∈ l, ∀ W, Below w.heap.size w W → ∀ V, ListOk Enc.rl W lo W.heap.size V x → Calls Tryz.prog 138 #[V, .pointer (some ⟨q0, 0, none⟩)] W fun e w' => e = .returned (.bool (T x)) ∧ Below W.heap.size W w')) :
    Calls Tryz.prog 162 #[v, .func (.func 138) #[] #[.pointer (some ⟨q0, 0, none⟩)]] w fun e w' => e = .returned (.int .i64 (idxOf l T)) ∧ Below w.heap.size w w' := by
  obtain ⟨A, c, rfl, hc⟩ := hv.form
  have HV : Hid (∀ W, Below w.heap.size w W → ListOk (Enc.list Enc.rl) W lo w.heap.size (.slice A l.length c) l) := Lib.hid fun W hW => hv.below (Enc.list_laws Enc.rl_laws) hW
  clear hv
  go_enter Tryz.func162, Tryz.ntmps162
  go_wp2_with fail
  go_loopw [5, 8] (fun _ i wr => ∃ j : Nat, j ≤ l.length ∧ i = .int .i64 (j : Int) ∧ Hid (∀ q (h : q < l.length), q < j → T l[q] = false) ∧ Below w.heap.size w wr) (fun _ i _ => l.length - (intOf i).toNat)
  case atStart => exact ⟨0, Nat.zero_le _, rfl, Lib.hid fun q _ h => absurd h (Nat.not_lt_zero _), Below.refl _ _⟩
  case round =>
    obtain ⟨j, hj, rfl, HNo, hb⟩ := hrel
    have HB := Lib.hid hb
    have hbs := hb.size
    by_cases hlt : j < l.length
    · have hx : l[j] ∈ l := List.getElem_mem hlt
      have HTj := Lib.hid (HT.out l[j] hx)
      obtain ⟨X, hX⟩ : ∃ X, X = T l[j] := ⟨_, rfl⟩
      have HX : Hid (X = T l[j]) := Lib.hid hX
      rw [← hX] at HTj
      have HI1 : Hid (X = true → idxOf l T = (j : Int)) := Lib.hid fun h => idx_hit hlt (HX.out.symm.trans h) HNo.out
      have HI2 : Hid (X = false → ∀ q (h : q < l.length), q < j + 1 → T l[q] = false) := Lib.hid fun h => step_no l T j HNo.out fun _ => HX.out.symm.trans h
      clear HX HNo
      obtain ⟨b0, o0, V, rfl, hb1, hb2, x0, hV⟩ := (HV.out _ hb).listAt j hlt
      generalize l[j] = e at *
      obtain ⟨VA, Vc, rfl, _⟩ := hV.form
      have HTw := Lib.hid (HTj.out wr hb _ (hV.mono Enc.rl_laws (Nat.le_refl _) hbs))
      clear hV
      clear hb hx hX
      have i1 : (0 : Int) ≤ (j : Int) := Int.natCast_nonneg j
      have i2 : (j : Int) < (l.length : Int) := by omega
      clear HTj HT
      go_wp2_with fail
      refine HTw.out.mono ?_
      clear HTw
      rintro e w1 ⟨rfl, hb1'⟩
      have HB1 := Lib.hid (HB.out.trans (hb1'.mono hbs))
      clear hb1'
      cases X with
      | true =>
        have HI : Hid (idxOf l T = (j : Int)) := Lib.hid (HI1.out rfl)
        clear HI1 HI2
        go_wp2_with fail
        go_ret
        exact ⟨by rw [HI.out]; rfl, HB1.out⟩
      | false =>
        have HN2 : Hid (∀ q (h : q < l.length), q < j + 1 → T l[q] = false) := Lib.hid (HI2.out rfl)
        clear HI1 HI2
        go_wp2_with fail
        go_roundw
        case rel => exact ⟨j + 1, by omega, by go_num, HN2, HB1.out⟩
        case measure => simp [intOf]; omega
    · obtain rfl : j = l.length := by omega
      have HI : Hid (idxOf l T = -1) := Lib.hid (idx_no fun q h => HNo.out q h h)
      clear hb HNo
      go_wp2_with fail
      go_ret
      exact ⟨by rw [HI.out]; rfl, HB.out⟩
set_option maxHeartbeats 1600000 in
theorem containsL_any (l : List (List Rl)) (v : Value) (q0 : Nat) (T : (List Rl) → Bool) (lo : Nat) (w : World) (hv : ListOk (Enc.list Enc.rl) w lo w.heap.size v l) (hn : l.length ≤ 1000000000)
    (HT : Hid (∀ x ∈ l, ∀ W, Below w.heap.size w W → ∀ V, ListOk Enc.rl W lo W.heap.size V x → Calls Tryz.prog 138 #[V, .pointer (some ⟨q0, 0, none⟩)] W fun e w' => e = .returned (.bool (T x)) ∧ Below W.heap.size W w')) :
    Calls Tryz.prog 137 #[v, .func (.func 138) #[] #[.pointer (some ⟨q0, 0, none⟩)]] w fun e w' => e = .returned (.bool (l.any T)) ∧ Below w.heap.size w w' := by
  have HI := Lib.hid (indexL_any l v q0 T lo w hv hn HT)
  have HE := Lib.hid (idx_any l T)
  clear HT hv
  generalize idxOf l T = I at *
  generalize l.any T = X at *
  go_enter Tryz.func137, Tryz.ntmps137
  go_wp2_with fail
  refine HI.out.mono ?_
  clear HI
  rintro e w1 ⟨rfl, hb⟩
  have HB := Lib.hid hb
  clear hb
  go_wp2_with fail
  go_ret
  exact ⟨by rw [← HE.out]; rfl, HB.out⟩
end Go.Proofs.YtjdfpoppimcikaaGreatDoor
