/- The whole's small parts for the laws of lines: lined; two bundles that are the same. -/
import Derived.Test.YtoneheloojlifaaGreatDoorQBun
import Derived.Test.YtoneheloojlifaaGreatDoorSmall
import Derived.Test.YtoneheloojlifaaGreatDoorTold
import Derived.Laws.StructEq
namespace Go.Proofs.YtoneheloojlifaaGreatDoor
open Go.RowKit

set_option maxHeartbeats 1600000 in
set_option maxRecDepth 100000 in
theorem sbunS_any (bt : ByteArray) (l : List Ent) (u v : Value) (lo hi lo' hi' : Nat) (w : World) (hu : ListOk Enc.ent w lo hi u l) (hv : ListOk Enc.ent w lo' hi' v l) (h1 : hi ≤ w.heap.size) (h2 : hi' ≤ w.heap.size) (hn : l.length ≤ 4398046511104) :
    Calls Tryz.prog 11 #[.agg #[.string bt, u], .agg #[.string bt, v]] w fun e w' => e = .returned (.bool true) ∧ Below w.heap.size w w' := by
  obtain ⟨A, c, rfl, _⟩ := hu.form
  obtain ⟨B, d, rfl, _⟩ := hv.form
  have HU : Hid (∀ W, Below w.heap.size w W → ListOk Enc.ent W lo hi (.slice A l.length c) l) := Lib.hid fun W hW => hu.keep Enc.ent_laws (Alk.mono (Alk.of_below hW) (Nat.zero_le _) h1)
  have HV : Hid (∀ W, Below w.heap.size w W → ListOk Enc.ent W lo' hi' (.slice B l.length d) l) := Lib.hid fun W hW => hv.keep Enc.ent_laws (Alk.mono (Alk.of_below hW) (Nat.zero_le _) h2)
  clear hu hv
  have hbt : (bt.toList == bt.toList) = true := by simp
  go_enter Tryz.func11, Tryz.ntmps11
  go_wp2_with fail
  obtain ⟨W2, eW2⟩ : ∃ W2, W2 = (w.alloc (.cells #[.string bt, .slice A l.length c] 24)).alloc (.cells #[.string bt, .slice B l.length d] 24) := ⟨_, rfl⟩
  have mb : Blk W2 w.heap.size 24 #[.string bt, .slice A l.length c] := by rw [eW2]; exact (Blk.new _ _ _).alloc _
  have mr : Blk W2 (w.heap.size + 1) 24 #[.string bt, .slice B l.length d] := by
    rw [eW2]
    have := Blk.new (w.alloc (.cells #[.string bt, .slice A l.length c] 24)) 24 #[.string bt, .slice B l.length d]
    rw [World.size_alloc] at this; exact this
  have hb2 : Below w.heap.size w W2 := by rw [eW2]; exact ((Below.refl _ _).alloc (Nat.le_refl _) _).alloc (by simp) _
  have HMb := Lib.hid mb
  have HMr := Lib.hid mr
  have HB2 := Lib.hid hb2
  rw [← eW2]
  clear eW2 mb mr hb2
  go_loopw [5] (fun i wr => ∃ j : Nat, j ≤ l.length ∧ i = .int .i64 j ∧ ∃ n, wr = W2.drewN n) (fun i _ => l.length - (intOf i).toNat)
  case atStart => exact ⟨0, Nat.zero_le _, rfl, 0, rfl⟩
  case round =>
    obtain ⟨j, hj, rfl, n, rfl⟩ := hrel
    have k1 := HMb.out.cell 1
    have k2 := HMr.out.cell 1
    simp at k1 k2
    by_cases hlt : j < l.length
    · obtain ⟨b1, o1, rfl, p1, p2, x0, x1⟩ := (HU.out _ HB2.out).entAt j hlt
      obtain ⟨b2, o2, rfl, p3, p4, y0, y1⟩ := (HV.out _ HB2.out).entAt j hlt
      generalize l[j] = e at *
      obtain ⟨ky, tx⟩ := e
      dsimp only at x0 x1 y0 y1
      have hk : (ky.toList == ky.toList) = true := by simp
      have ht : (tx.toList == tx.toList) = true := by simp
      go_wp2_with fail
      go_quiet (fail)
      go_wp2
      go_roundw
      case rel => exact ⟨j + 1, by omega, by go_num, _, rfl⟩
      case measure => simp [intOf]; omega
    · go_wp2_with fail
      go_ret
      exact ⟨rfl, below_drawn HB2.out n⟩

theorem smallR : Right smallBun := (right_iff _).1 (by decide +kernel)
theorem small_lines : linesL smallBun = [64, 101, 110, 10, 104, 105, 61, 104, 101, 108, 108, 111, 32, 123, 110, 97, 109, 101, 125, 10] := by decide +kernel
set_option maxRecDepth 100000 in
theorem lined_any (w : World) (hm : MaxVar w) : Calls Tryz.prog 7 #[] w fun e w' => e = .returned (.bool true) ∧ Below w.heap.size w w' := by
  have HM := Lib.hid hm
  clear hm
  have hT : TextTold smallBun = .tuple #[.string (linesS smallBun), .nilIface] := if_pos ((right_iff _).2 smallR)
  have HT := Lib.hid hT
  have hE : ((linesS smallBun).toList == [64, 101, 110, 10, 104, 105, 61, 104, 101, 108, 108, 111, 32, 123, 110, 97, 109, 101, 125, 10]) = true := by
    unfold linesS
    rw [str_list, small_lines]; rfl
  clear hT
  go_enter Tryz.func7, Tryz.ntmps7
  go_wp2_with fail
  refine (small_any w).mono ?_
  rintro e w2 ⟨hb2, A, c, rfl, hl⟩
  have hbi : BunIn w2 smallBun (.slice A 1 c) := ⟨⟨_, hl⟩, by decide +kernel, by decide +kernel, fun e he => by
    obtain rfl : e = ⟨hiK, helloT⟩ := by simpa [smallBun] using he
    exact ⟨by decide +kernel, by decide +kernel⟩⟩
  have HTx := Lib.hid (ptext_any smallBun (.slice A 1 c) w2 hbi (HM.out.below hb2))
  have HB2 := Lib.hid hb2
  rw [HT.out] at HTx
  clear hbi hl hb2
  go_wp2_with fail
  refine HTx.out.mono ?_
  clear HTx
  rintro e w3 ⟨rfl, hb3⟩
  have HB3 := Lib.hid (HB2.out.trans (hb3.mono HB2.out.size))
  clear hb3
  go_wp2_with fail
  go_ret
  exact ⟨rfl, HB3.out⟩
end Go.Proofs.YtoneheloojlifaaGreatDoor
