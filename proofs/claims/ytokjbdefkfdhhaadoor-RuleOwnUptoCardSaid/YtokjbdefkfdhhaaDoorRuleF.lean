/- rule.fine (under way). -/
import Derived.Test.YtokjbdefkfdhhaaDoorRuleR
namespace Go.Proofs.YtokjbdefkfdhhaaDoor
open Go.RowKit

set_option maxHeartbeats 3200000 in
set_option maxRecDepth 100000 in
theorem fine_gen (r : Rl) (V : Value) (lo : Nat) (w : World) (hV : ListOk Enc.pair w lo w.heap.size V r.rng) (hn : r.rng.length ≤ 10000000)
    (HAny : Hid (∀ W, Below w.heap.size w W → Calls Tryd.prog 29 #[V, .func (.func 37) #[] #[]] W fun e w' => e = .returned (.bool (r.rng.any fun p => !rngOk p)) ∧ Below W.heap.size W w')) :
    Calls Tryd.prog 22 #[.agg #[.int .u8 r.op.toNat, .int .i64 r.mod, .bool r.neg, V]] w fun e w' => e = .returned (.bool (fineR r)) ∧ Below w.heap.size w w' := by
  obtain ⟨VA, Vc, rfl, _⟩ := hV.form
  obtain ⟨W1, eW1⟩ : ∃ W1, W1 = w.alloc (.cells #[.int .u8 r.op.toNat, .int .i64 r.mod, .bool r.neg, .slice VA r.rng.length Vc] 36) := ⟨_, rfl⟩
  have hb1 : Below w.heap.size w W1 := by rw [eW1]; exact (Below.refl _ _).alloc (Nat.le_refl _) _
  have m1 : Blk W1 w.heap.size 36 #[.int .u8 r.op.toNat, .int .i64 r.mod, .bool r.neg, .slice VA r.rng.length Vc] := by rw [eW1]; exact Blk.new _ _ _
  have HB1 := Lib.hid hb1
  have M1 := Lib.hid m1
  have HW1 := Lib.hid eW1
  have HC := Lib.hid (containsRune_any r.op W1)
  have k0 : W1.cell? ⟨w.heap.size, 0, none⟩ = some (.int .u8 r.op.toNat) := (m1.cell 0).trans rfl
  have h32 : wrap32 (r.op.toNat : Int) = r.op.toNat := by have := r.op.toNat_lt; unfold wrap32; omega
  clear hV eW1 hb1 m1
  go_enter Tryd.func22, Tryd.ntmps22
  go_upto_region 1 with fail
  rw [← HW1.out]
  clear HW1
  go_wp2_with fail
  refine HC.out.mono ?_
  clear HC
  rintro e w2 ⟨rfl, hb2⟩
  have HB2 := Lib.hid (HB1.out.trans (hb2.mono HB1.out.size))
  have M2 := Lib.hid (M1.out.below hb2 M1.out.lt)
  clear hb2 k0 HB1 M1 h32
  have k1 := (M2.out.cell 1).trans (show _ = some (.int .i64 r.mod) from rfl)
  have k3 := (M2.out.cell 3).trans (show _ = some (.slice VA r.rng.length Vc) from rfl)
  have C := Lib.hid (HAny.out _ HB2.out)
  have hall : (r.rng.any fun p => !rngOk p) = !(r.rng.all rngOk) := by rw [Bool.eq_iff_iff]; simp
  rw [hall] at C
  have HF : Hid (fineR r = (opsR.contains r.op && decide (0 ≤ r.mod) && decide (r.mod ≤ 1000000) && !r.rng.isEmpty && r.rng.all rngOk)) := Lib.hid rfl
  have hem : r.rng.isEmpty = decide (r.rng.length = 0) := by cases r.rng <;> simp
  rw [hem] at HF
  clear HAny M2 hall hem
  generalize r.rng.all rngOk = al at *
  generalize r.rng.length = n at *
  generalize r.mod = m at *
  cases hc : opsR.contains r.op with
  | false =>
    rw [hc] at HF
    go_wp2_with fail
    go_ret
    exact ⟨by rw [HF.out]; rfl, HB2.out⟩
  | true =>
    rw [hc] at HF
    by_cases h1 : m < 0
    · have HF' : fineR r = false := by rw [HF.out]; simp; omega
      have HFF := Lib.hid HF'
      clear HF HF' C
      go_wp2_with fail
      go_ret
      exact ⟨by rw [HFF.out]; rfl, HB2.out⟩
    · by_cases h2 : 1000000 < m
      · have HF' : fineR r = false := by rw [HF.out]; simp; omega
        have HFF := Lib.hid HF'
        clear HF HF' C
        go_wp2_with fail
        go_ret
        exact ⟨by rw [HFF.out]; rfl, HB2.out⟩
      · by_cases h3 : n = 0
        · have HF' : fineR r = false := by rw [HF.out]; simp [h3]
          have HFF := Lib.hid HF'
          subst h3
          clear HF HF' C
          go_wp2_with fail
          go_ret
          exact ⟨by rw [HFF.out]; rfl, HB2.out⟩
        · have hq : ((n : Int) == 0) = false := by rw [beq_eq_false_iff_ne]; omega
          have HF' : fineR r = al := by rw [HF.out]; simp [h3]; omega
          have HFF := Lib.hid HF'
          clear HF HF' h3
          go_wp2_with fail
          refine C.out.mono ?_
          clear C
          rintro e w3 ⟨rfl, hb3⟩
          have HB3 := Lib.hid (HB2.out.trans (hb3.mono HB2.out.size))
          clear hb3
          go_wp2_with fail
          go_ret
          exact ⟨by rw [HFF.out]; simp [ret_bool], HB3.out⟩
end Go.Proofs.YtokjbdefkfdhhaaDoor
