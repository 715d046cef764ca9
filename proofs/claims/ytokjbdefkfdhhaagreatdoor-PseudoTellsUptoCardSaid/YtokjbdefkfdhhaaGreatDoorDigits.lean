/- Digits of small numbers. -/
import Derived.Test.YtokjbdefkfdhhaaGreatDoorBase
namespace Go.Proofs.YtokjbdefkfdhhaaGreatDoor
open Go.RowKit

def dig1 (n : Nat) : ByteArray := ⟨#[UInt8.ofNat (48 + n % 10)]⟩
def dig (n : Nat) : ByteArray := if n < 10 then dig1 n else dig1 (n / 10) ++ dig1 n

theorem conv_dig (n : Nat) (w : World) : (convert 67 9 (.slice (some ⟨w.heap.size, 0, none⟩) 1 1)).run Tryz.prog (w.alloc (.cells #[.int .u8 (48 + (n : Int) % 10)] 5)) = .ok (.string (dig1 n)) (w.alloc (.cells #[.int .u8 (48 + (n : Int) % 10)] 5)) := by
  refine run_convert_bytes_back (P := Tryz.prog) _ 67 9 5 ⟨w.heap.size, 0, none⟩ 1 [UInt8.ofNat (48 + n % 10)] Tryz.underlying67 Tryz.underlying5 Tryz.underlying9 ?_
  intro j hj
  have : j = 0 := by simp at hj; omega
  subst this
  have h := (Blk.new w 5 #[.int .u8 (48 + (n : Int) % 10)]).cell 0
  have e : ((UInt8.ofNat (48 + n % 10)).toNat : Int) = 48 + (n : Int) % 10 := by
    rw [UInt8.toNat_ofNat']
    omega
  simp only [List.getElem_cons_zero, e]
  exact h

set_option maxRecDepth 100000 in
set_option maxHeartbeats 400000 in
theorem digits_small (i : Int) (w : World) (h0 : 0 ≤ i) (h : i < 10) :
    Calls Tryz.prog 61 #[.int .i64 i, .int .i64 0] w fun e w' => e = .returned (.string (dig1 i.toNat)) ∧ Below w.heap.size w w' := by
  obtain ⟨n, rfl⟩ := Int.eq_ofNat_of_zero_le h0
  have hcv := conv_dig n w
  have hs : (0 : Int) < ((dig1 n).size : Int) := by show (0 : Int) < ((1 : Nat) : Int); decide
  go_enter Tryz.func61, Tryz.ntmps61
  go_wp2_with fail
  refine wp_loop_rounds 1 ?_
  rw [rounds_succ]
  go_wp2_with fail
  go_ret
  exact ⟨rfl, (Below.refl _ _).alloc (Nat.le_refl _) _⟩

set_option maxRecDepth 100000 in
set_option maxHeartbeats 400000 in
theorem digits_any (i : Int) (w : World) (h0 : 0 ≤ i) (h : i < 100) :
    Calls Tryz.prog 61 #[.int .i64 i, .int .i64 0] w fun e w' => e = .returned (.string (dig i.toNat)) ∧ Below w.heap.size w w' := by
  obtain ⟨n, rfl⟩ := Int.eq_ofNat_of_zero_le h0
  by_cases h1 : n < 10
  · have := digits_small n w h0 (by omega)
    rw [Int.toNat_natCast] at this ⊢
    rw [dig, if_pos h1]
    exact this
  · rw [Int.toNat_natCast, dig, if_neg h1]
    have hcv := conv_dig n w
    have hs : (0 : Int) < ((dig1 (n / 10) ++ dig1 n).size : Int) := by rw [ByteArray.size_append]; show (0 : Int) < ((2 : Nat) : Int); decide
    have hs2 : ¬ (9223372036854775807 < (dig1 (n / 10)).size + (dig1 n).size) := by show ¬ (9223372036854775807 < 2); decide
    have H : Hid (∀ W, Calls Tryz.prog 61 #[.int .i64 ((n : Int) / 10), .int .i64 0] W fun e w' => e = .returned (.string (dig1 (n / 10))) ∧ Below W.heap.size W w') := by
      intro W
      have := digits_small ((n : Int) / 10) W (by omega) (by omega)
      rwa [show ((n : Int) / 10).toNat = n / 10 from by omega] at this
    go_enter Tryz.func61, Tryz.ntmps61
    go_wp2_with fail
    refine (H.out _).mono ?_
    rintro e w1 ⟨rfl, hb⟩
    go_wp2_with fail
    refine wp_loop_rounds 1 ?_
    rw [rounds_succ]
    go_wp2_with fail
    go_ret
    exact ⟨rfl, ((Below.refl _ _).alloc (Nat.le_refl _) _).trans (hb.mono (by simp))⟩
end Go.Proofs.YtokjbdefkfdhhaaGreatDoor
