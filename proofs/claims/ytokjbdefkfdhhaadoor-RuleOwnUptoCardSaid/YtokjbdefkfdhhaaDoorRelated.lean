/- A relation as a text. -/
import Derived.Test.YtokjbdefkfdhhaaDoorJoined
namespace Go.Proofs.YtokjbdefkfdhhaaDoor
open Go.RowKit

def headR (r : Rl) : List UInt8 := r.op :: ((if r.mod = 0 then [] else [32, 37, 32] ++ Lib.itoa r.mod) ++ (if r.neg then [32, 33, 61, 32] else [32, 61, 32]))
def relatedR (r : Rl) : List UInt8 := headR r ++ joinT rangedR r.rng [44]
theorem fineR_all {r : Rl} (h : fineR r = true) : r.op ∈ opsR ∧ 0 ≤ r.mod ∧ r.mod ≤ 1000000 ∧ r.rng ≠ [] ∧ ∀ p ∈ r.rng, rngOk p = true := by
  unfold fineR at h
  simp only [Bool.and_eq_true, decide_eq_true_eq, Bool.not_eq_true', List.isEmpty_eq_false_iff, List.all_eq_true, List.contains_iff_mem] at h
  obtain ⟨⟨⟨⟨h1, h2⟩, h3⟩, h4⟩, h5⟩ := h
  exact ⟨h1, h2, h3, h4, h5⟩
theorem enc_op {c : UInt8} (h : c ∈ opsR) : Utf8.encode (c.toNat : Int) = str [c] := by
  unfold opsR at h
  simp at h
  rcases h with h | h | h | h | h | h <;> rw [h] <;> decide +kernel
set_option maxHeartbeats 3200000 in
set_option maxRecDepth 100000 in
theorem related_any (r : Rl) (V : Value) (lo : Nat) (w : World) (hf : fineR r = true) (hV : ListOk Enc.pair w lo w.heap.size V r.rng) (hn : r.rng.length ≤ 10000000) (hj : (joinT rangedR r.rng [44]).length ≤ 1000000000) (hv : RV w) :
    Calls Tryd.prog 13 #[.agg #[.int .u8 r.op.toNat, .int .i64 r.mod, .bool r.neg, V]] w fun e w' => e = .returned (.string (str (relatedR r))) ∧ Below w.heap.size w w' := by
  obtain ⟨f1, f2, f3, f4, f5⟩ := fineR_all hf
  obtain ⟨VA, Vc, rfl, _⟩ := hV.form
  obtain ⟨W1, eW1⟩ : ∃ W1, W1 = w.alloc (.cells #[.int .u8 r.op.toNat, .int .i64 r.mod, .bool r.neg, .slice VA r.rng.length Vc] 36) := ⟨_, rfl⟩
  have hb1 : Below w.heap.size w W1 := by rw [eW1]; exact (Below.refl _ _).alloc (Nat.le_refl _) _
  have m1 : Blk W1 w.heap.size 36 #[.int .u8 r.op.toNat, .int .i64 r.mod, .bool r.neg, .slice VA r.rng.length Vc] := by rw [eW1]; exact Blk.new _ _ _
  have HB1 := Lib.hid hb1
  have M1 := Lib.hid m1
  have HW1 := Lib.hid eW1
  have HI : Hid (∀ W, Below w.heap.size w W → Calls Tryd.prog 24 #[.int .i64 r.mod] W fun e w' => e = .returned (.string (str (Lib.itoa r.mod))) ∧ Below W.heap.size W w') := Lib.hid fun W hW => itoa_any r.mod W f2 f3 (hv.below hW)
  have HJ : Hid (∀ W, Below w.heap.size w W → Calls Tryd.prog 25 #[.slice VA r.rng.length Vc, .string ⟨#[44]⟩, .func (.func 26) #[] #[]] W fun e w' => e = .returned (.string (str (joinT rangedR r.rng [44]))) ∧ Below W.heap.size W w') := Lib.hid fun W hW =>
    joinedP_any r.rng _ [44] rangedR lo W ((hV.below Enc.pair_laws hW).mono Enc.pair_laws (Nat.le_refl _) hW.size) hn (Nat.le_trans hj (by decide)) (Lib.hid fun x hx W' hW' => ranged_any x W' (f5 x hx) ((hv.below hW).below hW'))
  have li := itoa_small r.mod f2 f3
  have si : (str (Lib.itoa r.mod)).size = (Lib.itoa r.mod).length := str_size _
  have sj : (str (joinT rangedR r.rng [44])).size = (joinT rangedR r.rng [44]).length := str_size _
  have k0 : W1.cell? ⟨w.heap.size, 0, none⟩ = some (.int .u8 r.op.toNat) := (m1.cell 0).trans rfl
  have k1 : W1.cell? ⟨w.heap.size, 1, none⟩ = some (.int .i64 r.mod) := (m1.cell 1).trans rfl
  have hop : r.op.toNat < 128 := by
    unfold opsR at f1
    simp at f1
    rcases f1 with h | h | h | h | h | h <;> rw [h] <;> decide
  clear hf hV hv f4 f5 eW1 hb1 m1
  go_enter Tryd.func13, Tryd.ntmps13
  go_upto_region 1 with fail
  rw [← HW1.out]
  clear HW1
  go_upto_region 2 with fail
  rw [enc_op f1]
  have k2 := (M1.out.cell 2).trans (show _ = some (.bool r.neg) from rfl)
  have k3 := (M1.out.cell 3).trans (show _ = some (.slice VA r.rng.length Vc) from rfl)
  obtain ⟨M, hM⟩ : ∃ M : List UInt8, M = if r.mod = 0 then [] else [32, 37, 32] ++ Lib.itoa r.mod := ⟨_, rfl⟩
  have hMl : M.length ≤ 24 := by rw [hM]; split <;> simp; omega
  have HRs : Hid (relatedR r = r.op :: (M ++ (if r.neg then [32, 33, 61, 32] else [32, 61, 32])) ++ joinT rangedR r.rng [44]) := Lib.hid (by rw [hM]; rfl)
  have HM := Lib.hid hM
  clear hM
  obtain ⟨Z, hZ⟩ : ∃ Z, Z = (r.mod != 0) := ⟨_, rfl⟩
  go_upto_if 10 with fail
  rw [← hZ]
  have HZ := Lib.hid hZ
  clear hZ
  go_cut [3] (fun o wx => o = .string (str (r.op :: M)) ∧ Below W1.heap.size W1 wx)
  case first =>
    by_cases h0 : r.mod = 0
    · obtain rfl : Z = false := by rw [HZ.out]; simp [h0]
      have e : M = [] := by rw [HM.out, if_pos h0]
      clear HI HJ h0 k2 k3
      go_wp2_with fail
      go_meet
      case rel => exact ⟨by rw [e], Below.refl _ _⟩
    · obtain rfl : Z = true := by rw [HZ.out]; simp [h0]
      have e : M = [32, 37, 32] ++ Lib.itoa r.mod := by rw [HM.out, if_neg h0]
      have z1 : ¬ (9223372036854775807 < 3 + (Lib.itoa r.mod).length) := by omega
      have z2 : ¬ (9223372036854775807 < 1 + (3 + (Lib.itoa r.mod).length)) := by omega
      have hst : str [r.op] ++ ((⟨#[32, 37, 32]⟩ : ByteArray) ++ str (Lib.itoa r.mod)) = str (r.op :: M) := by rw [e, show (⟨#[32, 37, 32]⟩ : ByteArray) = str [32, 37, 32] from rfl, ← strR_app, ← strR_app]; rfl
      have HS := Lib.hid hst
      have s1 : (str [r.op]).size = 1 := rfl
      have C := Lib.hid (HI.out _ HB1.out)
      generalize Lib.itoa r.mod = im at *
      clear HJ h0 HI hst e k2 k3
      go_wp2_with fail
      refine C.out.mono ?_
      clear C
      rintro e w2 ⟨rfl, hb2⟩
      have HB2 := Lib.hid hb2
      clear hb2
      go_wp2_with fail
      go_meet
      case rel => exact ⟨by rw [HS.out], HB2.out⟩
  case rest =>
    obtain ⟨rfl, hb2⟩ := hcut
    have HB2 := Lib.hid (HB1.out.trans (hb2.mono HB1.out.size))
    have M2 := M1.out.below hb2 M1.out.lt
    have j2 := (M2.cell 2).trans (show _ = some (.bool r.neg) from rfl)
    have j3 := (M2.cell 3).trans (show _ = some (.slice VA r.rng.length Vc) from rfl)
    have C := Lib.hid (HJ.out _ HB2.out)
    have sM : (str (r.op :: M)).size = M.length + 1 := str_size _
    clear hb2 HI HJ k0 k1 k2 k3 M1 M2 HB1 HM HZ f2 f3 li si f1
    generalize joinT rangedR r.rng [44] = J at *
    cases hneg : r.neg with
    | true =>
      rw [hneg] at j2
      rw [hneg, if_pos rfl] at HRs
      have hst : str (r.op :: M) ++ (⟨#[32, 33, 61, 32]⟩ : ByteArray) ++ str J = str (relatedR r) := by rw [HRs.out, show (⟨#[32, 33, 61, 32]⟩ : ByteArray) = str [32, 33, 61, 32] from rfl, ← strR_app, ← strR_app]; rfl
      have HS := Lib.hid hst
      have z1 : ¬ (9223372036854775807 < M.length + 1 + 4) := by omega
      have z2 : ¬ (9223372036854775807 < M.length + 1 + 4 + J.length) := by omega
      clear HRs hst hneg
      go_wp2_with fail
      refine C.out.mono ?_
      clear C
      rintro e w3 ⟨rfl, hb3⟩
      have HB3 := Lib.hid (HB2.out.trans (hb3.mono HB2.out.size))
      clear hb3
      go_wp2_with fail
      go_ret
      exact ⟨by rw [← HS.out]; rfl, HB3.out⟩
    | false =>
      rw [hneg] at j2
      rw [hneg, if_neg (by decide)] at HRs
      have hst : str (r.op :: M) ++ (⟨#[32, 61, 32]⟩ : ByteArray) ++ str J = str (relatedR r) := by rw [HRs.out, show (⟨#[32, 61, 32]⟩ : ByteArray) = str [32, 61, 32] from rfl, ← strR_app, ← strR_app]; rfl
      have HS := Lib.hid hst
      have z1 : ¬ (9223372036854775807 < M.length + 1 + 3) := by omega
      have z2 : ¬ (9223372036854775807 < M.length + 1 + 3 + J.length) := by omega
      clear HRs hst hneg
      go_wp2_with fail
      refine C.out.mono ?_
      clear C
      rintro e w3 ⟨rfl, hb3⟩
      have HB3 := Lib.hid (HB2.out.trans (hb3.mono HB2.out.size))
      clear hb3
      go_wp2_with fail
      go_ret
      exact ⟨by rw [← HS.out]; rfl, HB3.out⟩
end Go.Proofs.YtokjbdefkfdhhaaDoor
