/- linguisterref2.KeyFault. -/
import Derived.Test.YtokjbdefkfdhhaaGreatDoorQKey
namespace Go.Proofs.YtokjbdefkfdhhaaGreatDoor
open Go.RowKit

set_option maxRecDepth 100000 in
set_option maxHeartbeats 1600000 in
theorem keyFault_any (kind off : Int) (text k : ByteArray) (A : Option Addr) (n c : Nat) (w : World) (hs : k.size ≤ 1000000000) :
    Calls Tryz.prog 33 #[.agg #[.int .i64 kind, .string text, .int .i64 off, .slice A n c], .string k] w fun e w' => e = .returned (.bool (!keyM kind k)) ∧ Below w.heap.size w w' := by
  obtain ⟨W1, eW1⟩ : ∃ W1, W1 = w.alloc (.cells #[.int .i64 kind, .string text, .int .i64 off, .slice A n c] 30) := ⟨_, rfl⟩
  have hb1 : Below w.heap.size w W1 := by rw [eW1]; exact (Below.refl _ _).alloc (Nat.le_refl _) _
  have m1 : Blk W1 w.heap.size 30 #[.int .i64 kind, .string text, .int .i64 off, .slice A n c] := by rw [eW1]; exact Blk.new _ _ _
  have k0 : W1.cell? ⟨w.heap.size, 0, none⟩ = some (.int .i64 kind) := (m1.cell 0).trans rfl
  have HB1 := Lib.hid hb1
  have HW1 := Lib.hid eW1
  have HM := Lib.hid (keyM_eq kind k)
  by_cases h5 : kind = 5
  · have q5 : (kind == 5) = true := by rw [h5]; rfl
    have HE : Hid ((!keyM kind k) = !nameR k) := Lib.hid (by rw [HM.out, if_pos h5, nameQ_eq])
    have HN := Lib.hid (qname_any k W1 hs)
    generalize nameR k = X at *
    clear h5 eW1 hb1 m1 HM
    go_enter Tryz.func33, Tryz.ntmps33
    go_upto_region 1 with fail
    rw [← HW1.out]
    clear HW1
    go_wp2_with fail
    refine HN.out.mono ?_
    clear HN
    rintro e w2 ⟨rfl, n2, rfl⟩
    have HB2 := Lib.hid (below_drewN HB1.out n2)
    go_wp2_with fail
    go_ret
    exact ⟨by rw [HE.out]; rfl, HB2.out⟩
  · have q5 : (kind == 5) = false := by rw [beq_eq_false_iff_ne]; exact h5
    have HE : Hid ((!keyM kind k) = ((!eqs k otherK && !(kinds5.any (eqs · k))) && decide (exactQ k < 0))) := Lib.hid (by rw [HM.out, if_neg h5])
    have HQ : Hid (eqs k otherK = decide (k.toList = [111, 116, 104, 101, 114])) := Lib.hid (by
      unfold eqs otherK
      rw [ByteArray.toList_eq, ByteArray.toList_eq, Bool.eq_iff_iff, beq_iff_eq, decide_eq_true_eq])
    have HK : Hid (Calls Tryz.prog 46 #[] W1 fun e w' => Below W1.heap.size W1 w' ∧ ∃ v, e = .returned v ∧ ListOk Enc.str w' W1.heap.size w'.heap.size v kinds5) := Lib.hid (kinds_any W1)
    have HI : Hid (∀ v lo hi W, ListOk Enc.str W lo hi v kinds5 → Calls Tryz.prog 34 #[v, .string k] W fun e w' => e = .returned (.bool (kinds5.any (eqs · k))) ∧ W = w') := Lib.hid fun v lo hi W h => in_any v kinds5 k lo hi W h (by decide)
    have HX : Hid (∀ W, Calls Tryz.prog 47 #[.string k] W fun e w' => e = .returned (.int .i64 (exactQ k)) ∧ Below W.heap.size W w') := Lib.hid fun W => qexact_any k W hs
    generalize eqs k otherK = Z at *
    generalize kinds5.any (eqs · k) = X at *
    generalize exactQ k = Y at *
    clear h5 eW1 hb1 m1 HM
    go_enter Tryz.func33, Tryz.ntmps33
    go_upto_region 1 with fail
    rw [← HW1.out]
    clear HW1
    cases Z with
    | true =>
      have HE2 : Hid ((!keyM kind k) = false) := Lib.hid (by rw [HE.out]; rfl)
      have q1 : k.toList = [111, 116, 104, 101, 114] := of_decide_eq_true HQ.out.symm
      clear HQ
      clear HE HX HK HI
      go_wp2_with fail
      go_ret
      exact ⟨by rw [HE2.out]; rfl, HB1.out⟩
    | false =>
      have q1 : ¬ k.toList = [111, 116, 104, 101, 114] := of_decide_eq_false HQ.out.symm
      clear HQ
      go_wp2_with fail
      refine HK.out.mono ?_
      clear HK
      rintro e w2 ⟨hb2, v, rfl, hl⟩
      have HB2 := Lib.hid (HB1.out.trans (hb2.mono HB1.out.size))
      have HI1 := Lib.hid (HI.out v _ _ w2 hl)
      have HX1 := Lib.hid (HX.out w2)
      clear hb2 hl HI HX
      go_wp2_with fail
      refine HI1.out.mono ?_
      clear HI1
      rintro e w3 ⟨rfl, rfl⟩
      cases X with
      | true =>
        have HE2 : Hid ((!keyM kind k) = false) := Lib.hid (by rw [HE.out]; rfl)
        clear HE HX1
        go_wp2_with fail
        go_ret
        exact ⟨by rw [HE2.out]; rfl, HB2.out⟩
      | false =>
        have HE2 : Hid ((!keyM kind k) = decide (Y < 0)) := Lib.hid (by rw [HE.out]; simp)
        clear HE
        go_wp2_with fail
        refine HX1.out.mono ?_
        clear HX1
        rintro e w3 ⟨rfl, hb3⟩
        have HB3 := Lib.hid (HB2.out.trans (hb3.mono HB2.out.size))
        clear hb3
        go_wp2_with fail
        go_ret
        exact ⟨ret_bool (by rw [HE2.out]; simp [q1]), HB3.out⟩
end Go.Proofs.YtokjbdefkfdhhaaGreatDoor
