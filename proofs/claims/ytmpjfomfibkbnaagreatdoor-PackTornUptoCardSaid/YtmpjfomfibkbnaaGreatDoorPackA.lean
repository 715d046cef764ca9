/- linguisterlaw4.packed: what is asked of each law first. -/
import Derived.Test.YtmpjfomfibkbnaaGreatDoorPackN
import Derived.Test.YtmpjfomfibkbnaaGreatDoorPackG
import Derived.Test.YtmpjfomfibkbnaaGreatDoorTold
set_option linter.unusedSimpArgs false
set_option linter.unusedVariables false
namespace Go.Proofs.YtmpjfomfibkbnaaGreatDoor
open Go.RowKit

def enB : ByteArray := ⟨#[101, 110]⟩
theorem en_ok : bunFault ⟨enB, []⟩ = 0 := by kernel_rfl
theorem en_bytes : ∃ l, bytesB ⟨enB, []⟩ = l ∧ l.length = 13 ∧ l[4]? = some 2 := ⟨_, rfl, by kernel_rfl, by kernel_rfl⟩
theorem nine_sum : sumOf [49, 50, 51, 52, 53, 54, 55, 56, 57] = 3421780262 := by kernel_rfl

theorem lit_ok (w : World) (l : List UInt8) (fr : Nat × Nat) : ListOk Enc.byte (w.alloc (.cells (bytesV l).toArray 5 fr)) w.heap.size (w.heap.size + 1) (.slice (some ⟨w.heap.size, 0, none⟩) l.length l.length) l := by
  refine ⟨_, _, rfl, Nat.le_refl _, fun i hi => ⟨w.heap.size, 0, [.int .u8 l[i].toNat], rfl, Nat.le_refl _, Nat.lt_succ_self _, fun j u hj => ?_, rfl⟩⟩
  have hj0 : j = 0 := by
    rcases Nat.eq_zero_or_pos j with h | h
    · exact h
    · rw [List.getElem?_eq_none (by simp; omega)] at hj; cases hj
  subst hj0
  injection hj with hj
  rw [show 0 + i * Enc.byte.sz + 0 = i from by show 0 + i * 1 + 0 = i; omega, World.cell?_alloc_mark, ← hj]
  simp [bytesV, hi]
set_option maxHeartbeats 3200000 in
set_option maxRecDepth 100000 in
theorem packed_any (w : World) (hm : MaxVar w) :
    Calls Tryz.prog 9 #[] w fun e w' => e = .returned (.bool true) ∧ Below w.heap.size w w' := by
  have hin : BunIn w ⟨enB, []⟩ (.slice none 0 0) := ⟨⟨0, ListOk.nil _ _⟩, by decide, by decide, fun e he => (by cases he)⟩
  have HE := Lib.hid (encode_any ⟨enB, []⟩ _ w hin hm)
  clear hin
  go_enter Tryz.func9, Tryz.ntmps9
  go_wp2_with fail
  refine HE.out.mono ?_
  rintro e w1 ⟨hb1, ⟨h0, _⟩ | ⟨_, u, rfl, hu⟩⟩
  · exact absurd en_ok h0
  obtain ⟨l, hle, hl13, hl4⟩ := en_bytes
  rw [hle, hl13] at hu
  obtain ⟨A, c, rfl, hc⟩ := own_slice hu
  obtain ⟨b, o, rfl, _, _, x4⟩ := (bytes_of_own (l := l) (by rw [hl13]; exact hu) (Nat.le_refl w.heap.size) (Nat.le_refl _)).byteAt 4 (by omega)
  have hx4 : l[4] = 2 := by
    rw [List.getElem?_eq_getElem (by omega)] at hl4
    injection hl4
  rw [hx4] at x4
  have HB1 := Lib.hid hb1
  have hconv := Lib.run_convert_bytes_const (P := Tryz.prog) w1 26 5 #[.int .u8 49, .int .u8 50, .int .u8 51, .int .u8 52, .int .u8 53, .int .u8 54, .int .u8 55, .int .u8 56, .int .u8 57] 9 9 Tryz.underlying26 Tryz.underlying5
  have HSu : Hid (Calls Tryz.prog 20 #[.slice (some ⟨w1.heap.size, 0, none⟩) 9 9] (w1.alloc (.cells #[.int .u8 49, .int .u8 50, .int .u8 51, .int .u8 52, .int .u8 53, .int .u8 54, .int .u8 55, .int .u8 56, .int .u8 57] 5 (9, 10))) fun e w' => e = .returned (.int .u32 3421780262) ∧ Below (w1.heap.size + 1) (w1.alloc (.cells #[.int .u8 49, .int .u8 50, .int .u8 51, .int .u8 52, .int .u8 53, .int .u8 54, .int .u8 55, .int .u8 56, .int .u8 57] 5 (9, 10))) w') := Lib.hid (by
    have h0 := lit_ok w1 [49, 50, 51, 52, 53, 54, 55, 56, 57] (9, 10)
    have h1 := sum_any _ _ w1.heap.size (w1.alloc (.cells #[.int .u8 49, .int .u8 50, .int .u8 51, .int .u8 52, .int .u8 53, .int .u8 54, .int .u8 55, .int .u8 56, .int .u8 57] 5 (9, 10))) (h0.mono Enc.byte_laws (Nat.le_refl _) (by simp)) (by decide)
    refine h1.mono ?_
    rintro e w' ⟨rfl, hb⟩
    exact ⟨by rw [nine_sum]; rfl, by simpa using hb⟩)
  have hbA : Below w.heap.size w (w1.alloc (.cells #[.int .u8 49, .int .u8 50, .int .u8 51, .int .u8 52, .int .u8 53, .int .u8 54, .int .u8 55, .int .u8 56, .int .u8 57] 5 (9, 10))) := HB1.out.alloc HB1.out.size _
  have HBA := Lib.hid hbA
  clear hu HE hb1 hbA
  go_wp2_with fail
  refine HSu.out.mono ?_
  clear HSu
  rintro e w2 ⟨rfl, hb2⟩
  have HB2 := Lib.hid (HBA.out.trans (hb2.mono (by have := HB1.out.size; omega)))
  clear hb2
  go_wp2_with fail
  go_ret
  exact ⟨rfl, HB2.out⟩
end Go.Proofs.YtmpjfomfibkbnaaGreatDoor
