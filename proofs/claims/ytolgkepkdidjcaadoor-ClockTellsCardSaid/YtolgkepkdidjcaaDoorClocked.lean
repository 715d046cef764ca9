/- The law's own fact 'clocked'; a cache in the middle of a law. -/
import Derived.Test.YtolgkepkdidjcaaDoorClockP
import Derived.Test.YtolgkepkdidjcaaDoorLists
import Derived.Deep.DeepCutAuto
import Derived.KernelRfl
import Derived.Deep.RegionHeld3
namespace Go.Proofs.YtolgkepkdidjcaaDoor
open Go.RowKit

theorem clocked1 : putR (List.replicate 1 Plc.zero) 0 ⟨#[120]⟩ ⟨#[49]⟩ = ⟨[fresh ⟨#[120]⟩ ⟨#[49]⟩], 0, none⟩ := by kernel_rfl
theorem clocked2 : putR [fresh ⟨#[120]⟩ ⟨#[49]⟩] 0 ⟨#[121]⟩ ⟨#[50]⟩ = ⟨[fresh ⟨#[121]⟩ ⟨#[50]⟩], 0, some ⟨#[120]⟩⟩ := by kernel_rfl
theorem put_clocked1 (bc bp : Nat) (w : World) (hc : Cach w bc bp (List.replicate 1 Plc.zero) 0) :
    Calls Tryd.prog 9 #[.pointer (some ⟨bc, 0, none⟩), .string ⟨#[120]⟩, .string ⟨#[49]⟩] w fun e w' => e = .returned (.tuple #[.string ByteArray.empty, .bool false]) ∧ Cach w' bc bp [fresh ⟨#[120]⟩ ⟨#[49]⟩] 0 ∧ Fr w w' (CS bc bp) := by
  have h := put_any bc bp _ 0 ⟨#[120]⟩ ⟨#[49]⟩ w hc (by simp) (by simp)
  rw [clocked1] at h
  exact h
theorem put_clocked2 (bc bp : Nat) (w : World) (hc : Cach w bc bp [fresh ⟨#[120]⟩ ⟨#[49]⟩] 0) :
    Calls Tryd.prog 9 #[.pointer (some ⟨bc, 0, none⟩), .string ⟨#[121]⟩, .string ⟨#[50]⟩] w fun e w' => e = .returned (.tuple #[.string ⟨#[120]⟩, .bool true]) ∧ Fr w w' (CS bc bp) := by
  have h := put_any bc bp _ 0 ⟨#[121]⟩ ⟨#[50]⟩ w hc (by simp) (by simp)
  rw [clocked2] at h
  exact h.mono fun e w' ⟨h1, _, h2⟩ => ⟨h1, h2⟩

set_option maxHeartbeats 400000 in
theorem clocked_yes (w : World) : Calls Tryd.prog 4 #[] w fun e w' => e = .returned (.bool true) ∧ Below w.heap.size w w' := by
  go_enter Tryd.func4, Tryd.ntmps4
  go_wp2_with fail
  refine (new_yes 1 _ (by omega) (by omega)).mono ?_
  rintro e w1 ⟨bc, bp, rfl, hbc, hbp, hc1, hb1⟩
  go_wp2_with fail
  refine (put_clocked1 bc bp _ hc1).mono ?_
  rintro e w2 ⟨rfl, hc2, hf2⟩
  go_wp2_with fail
  refine (put_clocked2 bc bp _ hc2).mono ?_
  rintro e w3 ⟨rfl, hf3⟩
  go_wp2_with fail
  go_ret
  exact ⟨rfl, (hf2.trans hf3).below hb1 hb1.size (by rintro i (rfl | rfl) <;> assumption)⟩

/-- the round's put -/
structure Goes (w : World) (bc bp n : Nat) (ps : List Plc) (hand : Nat) (wr : World) : Prop where
  len : ps.length = n
  lt : hand < n
  ca : Cach wr bc bp ps hand
  dist : Dist ps
  below : Below w.heap.size w wr

theorem Goes.drewN {w wr : World} {bc bp n hand : Nat} {ps : List Plc} (G : Goes w bc bp n ps hand wr) (k : Nat) : Goes w bc bp n ps hand (wr.drewN k) := ⟨G.len, G.lt, G.ca, G.dist, below_drewN G.below k⟩

end Go.Proofs.YtolgkepkdidjcaaDoor
