/- rule.Text and rule.Holds. -/
import Derived.Test.YtokjbdefkfdhhaaDoorRuleH
namespace Go.Proofs.YtokjbdefkfdhhaaDoor
open Go.RowKit

/-- a rule as a value, whose lists are not too long -/
structure RuIn (w : World) (lo : Nat) (v : Value) (R : List (List Rl)) : Prop where
  ok : ListOk (Enc.list Enc.rl) w lo w.heap.size v R
  len : R.length ≤ 10000000
  part : ∀ p ∈ R, p.length ≤ 10000000
  rng : ∀ p ∈ R, ∀ r ∈ p, r.rng.length ≤ 1049000
theorem RuIn.below {w w' : World} {lo : Nat} {v : Value} {R : List (List Rl)} (h : RuIn w lo v R) (hb : Below w.heap.size w w') : RuIn w' lo v R :=
  ⟨(h.ok.below (Enc.list_laws Enc.rl_laws) hb).mono (Enc.list_laws Enc.rl_laws) (Nat.le_refl _) hb.size, h.len, h.part, h.rng⟩
theorem checkIn_any {R : List (List Rl)} {v : Value} {lo : Nat} {w : World} (h : RuIn w lo v R) : Calls Tryd.prog 9 #[v] w fun e w' => e = .returned (errR (checkR R)) ∧ Below w.heap.size w w' :=
  check_any R v lo w h.ok h.len h.part fun p hp r hr => Nat.le_trans (h.rng p hp r hr) (by decide)
theorem errR_ne {n : Int} (h : n ≠ 0) : errR n = .iface 43 (.int .i64 n) := if_neg h
theorem errR_zero : errR 0 = .nilIface := rfl
set_option maxHeartbeats 1600000 in
theorem Text_any (R : List (List Rl)) (v : Value) (lo : Nat) (w : World) (h : RuIn w lo v R) (hv : RV w) :
    Calls Tryd.prog 5 #[v] w fun e w' => e = .returned (.tuple #[.string (if checkR R = 0 then str (textR R) else ByteArray.empty), errR (checkR R)]) ∧ Below w.heap.size w w' := by
  have HC := Lib.hid (checkIn_any h)
  by_cases h0 : checkR R = 0
  · have HJ : Hid (∀ W, Below w.heap.size w W → Calls Tryd.prog 10 #[v, .string (str [32, 111, 114, 32]), .func (.func 11) #[] #[]] W fun e w' => e = .returned (.string (str (textR R))) ∧ Below W.heap.size W w') := Lib.hid fun W hW => by
      have hb := h.below hW
      have hl := text_len h0 h.rng
      obtain ⟨_, hf, _⟩ := checkR_zero h0
      refine joinedL_any R v [32, 111, 114, 32] partR lo W hb.ok hb.len hl (Lib.hid fun p hp W' hW' V' hV' => ?_)
      exact textPart_any p V' lo W' (fun r hr => ⟨(hf p hp).2 r hr, Nat.le_trans (h.rng p hp r hr) (by decide)⟩) hV' (h.part p hp) (Nat.le_trans (mem_join_le partR [32, 111, 114, 32] hp) hl) ((hv.below hW).below hW')
    rw [h0, if_pos rfl, errR_zero]
    rw [h0, errR_zero] at HC
    clear h hv h0
    generalize str (textR R) = T at *
    go_enter Tryd.func5, Tryd.ntmps5
    go_wp2_with fail
    refine HC.out.mono ?_
    clear HC
    rintro e w1 ⟨rfl, hb1⟩
    have HB1 := Lib.hid hb1
    have HJ1 := Lib.hid (HJ.out w1 hb1)
    clear hb1 HJ
    go_wp2_with fail
    refine HJ1.out.mono ?_
    clear HJ1
    rintro e w2 ⟨rfl, hb2⟩
    have HB2 := Lib.hid (HB1.out.trans (hb2.mono HB1.out.size))
    clear hb2
    go_wp2_with fail
    go_ret2
    exact ⟨rfl, HB2.out⟩
  · rw [if_neg h0, errR_ne h0]
    rw [errR_ne h0] at HC
    generalize checkR R = n at *
    clear h hv h0
    go_enter Tryd.func5, Tryd.ntmps5
    go_wp2_with fail
    refine HC.out.mono ?_
    clear HC
    rintro e w1 ⟨rfl, hb1⟩
    have HB1 := Lib.hid hb1
    clear hb1
    go_wp2_with fail
    go_ret2
    exact ⟨rfl, HB1.out⟩
set_option maxHeartbeats 1600000 in
theorem Holds_any (R : List (List Rl)) (v : Value) (o : OpV) (lo : Nat) (w : World) (h : RuIn w lo v R) (ho : o.Ok) :
    Calls Tryd.prog 6 #[v, .agg #[.int .i64 o.i, .int .i64 o.v, .int .i64 o.w, .int .i64 o.f, .int .i64 o.t]] w fun e w' => e = .returned (.tuple #[.bool (if checkR R = 0 then holdR o R else false), errR (checkR R)]) ∧ Below w.heap.size w w' := by
  obtain ⟨W1, eW1⟩ : ∃ W1, W1 = w.alloc (.cells #[.int .i64 o.i, .int .i64 o.v, .int .i64 o.w, .int .i64 o.f, .int .i64 o.t] 23) := ⟨_, rfl⟩
  have hb1 : Below w.heap.size w W1 := by rw [eW1]; exact (Below.refl _ _).alloc (Nat.le_refl _) _
  have m1 : Blk W1 w.heap.size 23 #[.int .i64 o.i, .int .i64 o.v, .int .i64 o.w, .int .i64 o.f, .int .i64 o.t] := by rw [eW1]; exact Blk.new _ _ _
  have HC := Lib.hid (checkIn_any (h.below hb1))
  have HB1 := Lib.hid hb1
  have HW1 := Lib.hid eW1
  by_cases h0 : checkR R = 0
  · have HJ : Hid (∀ W, Below W1.heap.size W1 W → Calls Tryd.prog 14 #[v, .func (.func 15) #[] #[.pointer (some ⟨w.heap.size, 0, none⟩)]] W fun e w' => e = .returned (.bool (holdR o R)) ∧ Below W.heap.size W w') := Lib.hid fun W hW => by
      have hb := (h.below hb1).below hW
      have hm := m1.below hW m1.lt
      obtain ⟨_, hf, _⟩ := checkR_zero h0
      refine containsL_any R v w.heap.size (holdP o) lo W hb.ok (by have := hb.len; omega) (Lib.hid fun p hp W' hW' V' hV' => ?_)
      exact holdPart_any p V' o w.heap.size lo W' ho (fun r hr => by
        obtain ⟨f1, f2, _, _, _⟩ := fineR_all ((hf p hp).2 r hr)
        exact ⟨f1, f2, Nat.le_trans (h.rng p hp r hr) (by decide)⟩) hV' (h.part p hp) (hm.below hW' hm.lt)
    rw [h0, if_pos rfl, errR_zero]
    rw [h0, errR_zero] at HC
    clear h ho h0 hb1 m1 eW1
    generalize holdR o R = X at *
    go_enter Tryd.func6, Tryd.ntmps6
    go_upto_region 1 with fail
    rw [← HW1.out]
    clear HW1
    go_wp2_with fail
    refine HC.out.mono ?_
    clear HC
    rintro e w1 ⟨rfl, hb1⟩
    have HB2 := Lib.hid (HB1.out.trans (hb1.mono HB1.out.size))
    have HJ1 := Lib.hid (HJ.out w1 hb1)
    clear hb1 HJ
    go_wp2_with fail
    refine HJ1.out.mono ?_
    clear HJ1
    rintro e w2 ⟨rfl, hb2⟩
    have HB3 := Lib.hid (HB2.out.trans (hb2.mono HB2.out.size))
    clear hb2
    go_wp2_with fail
    go_ret2
    exact ⟨rfl, HB3.out⟩
  · rw [if_neg h0, errR_ne h0]
    rw [errR_ne h0] at HC
    generalize checkR R = n at *
    clear h ho h0 hb1 m1 eW1
    go_enter Tryd.func6, Tryd.ntmps6
    go_upto_region 1 with fail
    rw [← HW1.out]
    clear HW1
    go_wp2_with fail
    refine HC.out.mono ?_
    clear HC
    rintro e w1 ⟨rfl, hb1⟩
    have HB2 := Lib.hid (HB1.out.trans (hb1.mono HB1.out.size))
    clear hb1
    go_wp2_with fail
    go_ret2
    exact ⟨rfl, HB2.out⟩
end Go.Proofs.YtokjbdefkfdhhaaDoor
