/- strings.ContainsRune at the operands' letters, for every byte. -/
import Derived.WalkMore
import Derived.Deep.QuietTactic
import Derived.Lib.IndexLaws
import Derived.Test.YtokjbdefkfdhhaaDoorRuleX
namespace Go.Proofs.YtokjbdefkfdhhaaDoor
open Go.RowKit

theorem enc_hi (c : UInt8) (h : 128 ≤ c.toNat) : ∃ a b : UInt8, Utf8.encode (c.toNat : Int) = ⟨#[a, b]⟩ ∧ 128 ≤ b.toNat := by
  have hc := c.toNat_lt
  have hv : Utf8.valid (c.toNat : Int) = true := by unfold Utf8.valid; simp; omega
  unfold Utf8.encode
  simp only [hv, if_true, Int.toNat_natCast]
  rw [if_neg (by omega), if_pos (by omega)]
  refine ⟨_, _, rfl, ?_⟩
  rw [UInt8.toNat_ofNat']
  omega
theorem byte_hi (b : UInt8) (h : 128 ≤ b.toNat) : Lib.indexByte [118, 119, 102, 116] b = -1 := by
  have e : ∀ d : UInt8, d.toNat < 128 → (d == b) = false := fun d hd => by
    rw [beq_eq_false_iff_ne]; rintro rfl; omega
  unfold Lib.indexByte
  simp [Lib.indexByte, e 118 (by decide), e 119 (by decide), e 102 (by decide), e 116 (by decide)]
set_option maxHeartbeats 3200000 in
set_option maxRecDepth 100000 in
theorem indexRune_hi (c : UInt8) (hc : 128 ≤ c.toNat) (w : World) :
    Calls Tryd.prog 47 #[.string ⟨#[110, 105, 118, 119, 102, 116]⟩, .int .i32 c.toNat] w fun e w' => e = .returned (.int .i64 (-1)) ∧ ∃ n, w' = w.drewN n := by
  obtain ⟨a, b, he, hb⟩ := enc_hi c hc
  have h0 : (0 : Int) ≤ (c.toNat : Int) := by omega
  have h1 : ¬ ((c.toNat : Int) < 128) := by omega
  have hlt := c.toNat_lt
  have h2 : ((c.toNat : Int) == 65533) = false := by rw [beq_eq_false_iff_ne]; omega
  have hv : Lib.validRune (c.toNat : Int) = true := by unfold Lib.validRune; simp; omega
  have HV := Lib.hid (Tryd.utf8_ValidRune (c.toNat : Int) w)
  rw [hv] at HV
  obtain ⟨R, hR⟩ : ∃ R, R = Utf8.encode (c.toNat : Int) := ⟨_, rfl⟩
  rw [he] at hR
  have hsz : R.size = 2 := by rw [hR]; rfl
  have hr1 : 1 < R.size := by omega
  have hri : (1 : Int) < (R.size : Int) := by omega
  have hRb : R[1] = b := by subst hR; rfl
  have hbn : ((105 : Int) == (R[1].toNat : Int)) = false := by rw [beq_eq_false_iff_ne, hRb]; omega
  have hs1 : 1 < (⟨#[110, 105, 118, 119, 102, 116]⟩ : ByteArray).size := by decide +kernel
  have hs105 : ((⟨#[110, 105, 118, 119, 102, 116]⟩ : ByteArray)[1]'hs1).toNat = 105 := rfl
  have hbn2 : ¬ ((⟨#[110, 105, 118, 119, 102, 116]⟩ : ByteArray)[1]'hs1 = R[1]) := by rw [hRb]; intro h; have := congrArg UInt8.toNat h; rw [hs105] at this; omega
  have hbn3 : ((((⟨#[110, 105, 118, 119, 102, 116]⟩ : ByteArray)[1]'hs1).toNat : Int) == (R[1].toNat : Int)) = false := by rw [hs105]; exact hbn
  have hbb : b.toNat.toUInt8 = b := by simp
  have HIb : Hid (∀ W, Calls Tryd.prog 60 #[.string ((⟨#[110, 105, 118, 119, 102, 116]⟩ : ByteArray).extract 2 6), .int .u8 R[1].toNat] W fun e w' => e = .returned (.int .i64 (-1)) ∧ W = w') := Lib.hid fun W => by
    have h := Tryd.strings_IndexByte ⟨#[118, 119, 102, 116]⟩ (b.toNat : Int) W
    rw [Int.toNat_natCast, hbb, show (⟨#[118, 119, 102, 116]⟩ : ByteArray).data.toList = [118, 119, 102, 116] from rfl, byte_hi b hb] at h
    rw [hRb]
    exact h.mono fun e w' ⟨h1, h2⟩ => ⟨h1, h2.symm⟩
  rw [← hR] at he
  have HE := Lib.hid he
  clear hv he hbb hR hRb
  generalize (c.toNat : Int) = C at *
  go_enter Tryd.func47, Tryd.ntmps47
  go_wp2_with fail
  refine HV.out.mono ?_
  clear HV
  rintro e w1 ⟨rfl, rfl⟩
  have he' := HE.out
  go_wp2_with fail
  go_step3
  go_wp2_with fail
  clear HE he'
  go_loopw [9, 10] (fun i f wr => i = .int .i64 1 ∧ f = .int .i64 0 ∧ wr = w1) (fun _ _ _ => 0)
  case atStart => exact ⟨rfl, rfl, rfl⟩
  case round =>
    obtain ⟨rfl, rfl, rfl⟩ := hrel
    go_wp2_with fail
    go_step3
    go_wp2_with fail
    go_quiet (fail)
    go_wp2_with fail
    go_quiet ((go_at_call 60; first | with_reducible exact quiet_left (HIb.out _) | with_reducible exact quiet_add_left (HIb.out _)))
    go_wp2_with fail
    rw [Exit.noGoto_ret]
    go_wp2
    rw [Exit.noGoto_ret]
    go_wp2
    go_ret
    exact ⟨rfl, _, rfl⟩
theorem containsRune_any (c : UInt8) (w : World) :
    Calls Tryd.prog 36 #[.string ⟨#[110, 105, 118, 119, 102, 116]⟩, .int .i32 c.toNat] w fun e w' => e = .returned (.bool (opsR.contains c)) ∧ Below w.heap.size w w' := by
  by_cases hc : c.toNat < 128
  · refine (Tryd.strings_ContainsRune_ascii ⟨#[110, 105, 118, 119, 102, 116]⟩ (c.toNat : Int) w (by omega) (by omega)).mono ?_
    rintro e w' ⟨rfl, rfl⟩
    refine ⟨?_, Below.refl _ _⟩
    rw [Int.toNat_natCast, show c.toNat.toUInt8 = c by simp, show (⟨#[110, 105, 118, 119, 102, 116]⟩ : ByteArray).data.toList = opsR from rfl]
    congr 2
    by_cases hm : c ∈ opsR
    · rw [List.contains_iff_mem.2 hm]
      refine decide_eq_true ?_
      refine Decidable.byContradiction fun h => ?_
      have h1 : Lib.indexByte opsR c = -1 := by have := Lib.indexByte_ge opsR c; omega
      obtain ⟨k, hk, rfl⟩ := List.getElem_of_mem hm
      exact Lib.indexByte_none h1 k (List.getElem?_eq_getElem hk)
    · rw [show opsR.contains c = false from by rw [← Bool.not_eq_true, List.contains_iff_mem]; exact hm]
      refine decide_eq_false fun h => ?_
      obtain ⟨o, ho⟩ := Int.eq_ofNat_of_zero_le h
      exact hm (List.mem_of_getElem? (Lib.indexByte_some ho).1)
  · have hm : opsR.contains c = false := by
      rw [← Bool.not_eq_true, List.contains_iff_mem]
      intro h
      unfold opsR at h
      simp at h
      rcases h with h | h | h | h | h | h <;> rw [h] at hc <;> exact hc (by decide)
    rw [hm]
    have HI := Lib.hid (indexRune_hi c (by omega) w)
    clear hm hc
    go_enter Tryd.func36, Tryd.ntmps36
    go_wp2_with fail
    refine HI.out.mono ?_
    clear HI
    rintro e w1 ⟨rfl, n, rfl⟩
    go_wp2_with fail
    go_ret
    exact ⟨rfl, below_drewN (Below.refl _ _) n⟩
end Go.Proofs.YtokjbdefkfdhhaaDoor
