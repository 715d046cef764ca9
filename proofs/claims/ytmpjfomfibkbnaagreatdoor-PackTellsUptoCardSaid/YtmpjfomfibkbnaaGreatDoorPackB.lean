/- linguistersame.Bytes; linguistersame.Bundle at the same. -/
import Derived.Test.YtmpjfomfibkbnaaGreatDoorPackU
import Derived.Laws.StructEq
set_option linter.unusedSimpArgs false
set_option linter.unusedVariables false
namespace Go.Proofs.YtmpjfomfibkbnaaGreatDoor
open Go.RowKit

theorem ents_later {w w' : World} {B : Nat} {v : Value} {l : List Ent} (h : w.ownsRow B 32 2 v l.length (flatE l)) (hb : Below w.heap.size w w') : ListOk Enc.ent w' 0 w.heap.size v l :=
  ((ents_of_own h (Nat.le_refl _) (Nat.le_refl _)).below Enc.ent_laws hb).mono Enc.ent_laws (Nat.zero_le _) (Nat.le_refl _)
set_option maxHeartbeats 1600000 in
set_option maxRecDepth 100000 in
theorem sbun_same (bt : ByteArray) (l : List Ent) (u v : Value) (lo hi lo' hi' : Nat) (w : World) (hu : ListOk Enc.ent w lo hi u l) (hv : ListOk Enc.ent w lo' hi' v l) (h1 : hi ≤ w.heap.size) (h2 : hi' ≤ w.heap.size) (hn : l.length ≤ 4398046511104) :
    Calls Tryz.prog 13 #[.agg #[.string bt, u], .agg #[.string bt, v]] w fun e w' => e = .returned (.bool true) ∧ Below w.heap.size w w' := by
  obtain ⟨A, c, rfl, _⟩ := hu.form
  obtain ⟨B, d, rfl, _⟩ := hv.form
  have HU : Hid (∀ W, Below w.heap.size w W → ListOk Enc.ent W lo hi (.slice A l.length c) l) := Lib.hid fun W hW => hu.keep Enc.ent_laws (Alk.mono (Alk.of_below hW) (Nat.zero_le _) h1)
  have HV : Hid (∀ W, Below w.heap.size w W → ListOk Enc.ent W lo' hi' (.slice B l.length d) l) := Lib.hid fun W hW => hv.keep Enc.ent_laws (Alk.mono (Alk.of_below hW) (Nat.zero_le _) h2)
  clear hu hv
  have hbt : (bt.toList == bt.toList) = true := by simp
  go_enter Tryz.func13, Tryz.ntmps13
  go_wp2_with fail
  obtain ⟨W2, eW2⟩ : ∃ W2, W2 = (w.alloc (.cells #[.string bt, .slice A l.length c] 24)).alloc (.cells #[.string bt, .slice B l.length d] 24) := ⟨_, rfl⟩
  have mb : Blk W2 w.heap.size 24 #[.string bt, .slice A l.length c] := by rw [eW2]; exact (Blk.new _ _ _).alloc _
  have mr : Blk W2 (w.heap.size + 1) 24 #[.string bt, .slice B l.length d] := by
    rw [eW2]
    have := Blk.new (w.alloc (.cells #[.string bt, .slice A l.length c] 24)) 24 #[.string bt, .slice B l.length d]
    rw [World.size_alloc] at this; exact this
  have hb2 : Below w.heap.size w W2 := by rw [eW2]; exact ((Below.refl _ _).alloc (Nat.le_refl _) _).alloc (by simp) _
  have HMb := Lib.hid mb
  have HMr := Lib.hid mr
  have HB2 := Lib.hid hb2
  rw [← eW2]
  clear eW2 mb mr hb2
  go_loopw [5] (fun i wr => ∃ j : Nat, j ≤ l.length ∧ i = .int .i64 j ∧ ∃ n, wr = W2.drewN n) (fun i _ => l.length - (intOf i).toNat)
  case atStart => exact ⟨0, Nat.zero_le _, rfl, 0, rfl⟩
  case round =>
    obtain ⟨j, hj, rfl, n, rfl⟩ := hrel
    have k1 := HMb.out.cell 1
    have k2 := HMr.out.cell 1
    simp at k1 k2
    by_cases hlt : j < l.length
    · obtain ⟨b1, o1, rfl, p1, p2, x0, x1⟩ := (HU.out _ HB2.out).entAt j hlt
      obtain ⟨b2, o2, rfl, p3, p4, y0, y1⟩ := (HV.out _ HB2.out).entAt j hlt
      generalize l[j] = e at *
      obtain ⟨ky, tx⟩ := e
      dsimp only at x0 x1 y0 y1
      have hk : (ky.toList == ky.toList) = true := by simp
      have ht : (tx.toList == tx.toList) = true := by simp
      go_wp2_with fail
      go_quiet (fail)
      go_wp2
      go_roundw
      case rel => exact ⟨j + 1, by omega, by go_num, _, rfl⟩
      case measure => simp [intOf]; omega
    · go_wp2_with fail
      go_ret
      exact ⟨rfl, below_drawn HB2.out n⟩

set_option maxHeartbeats 1600000 in
set_option maxRecDepth 100000 in
theorem sbytes_any (u v : Value) (l m : List UInt8) (lo hi lo' hi' : Nat) (w : World) (hu : ListOk Enc.byte w lo hi u l) (hv : ListOk Enc.byte w lo' hi' v m) (h1 : l.length ≤ 9000000000000000000) (h2 : m.length ≤ 9000000000000000000) :
    Calls Tryz.prog 11 #[u, v] w fun e w' => e = .returned (.bool (decide (l = m))) ∧ Below w.heap.size w w' := by
  obtain ⟨A, c, rfl, _⟩ := hu.form
  obtain ⟨B, d, rfl, _⟩ := hv.form
  have HU := Lib.hid hu
  have HV := Lib.hid hv
  clear hu hv
  by_cases hlen : l.length = m.length
  · have HD : Hid (∀ j, j ≤ l.length → (∀ q (hq : q < l.length), q < j → l[q] = m[q]) → (j = l.length → decide (l = m) = true) ∧ (∀ hj : j < l.length, l[j] ≠ m[j] → decide (l = m) = false)) := Lib.hid fun j hj hall => by
      refine ⟨fun e => decide_eq_true (List.ext_getElem hlen fun i h1 h2 => hall i h1 (by omega)), fun hj' hne => decide_eq_false fun e => ?_⟩
      subst e; exact hne rfl
    generalize hD : decide (l = m) = D at *
    clear hD
    have hl2 : ((l.length : Nat) : Int) = m.length := by omega
    go_enter Tryz.func11, Tryz.ntmps11
    go_wp2_with fail
    go_loopw [5] (fun i wr => ∃ j : Nat, j ≤ l.length ∧ i = .int .i64 j ∧ (∀ q (hq : q < l.length), q < j → l[q] = m[q]) ∧ ∃ n, wr = w.drewN n) (fun i _ => l.length - (intOf i).toNat)
    case atStart => exact ⟨0, Nat.zero_le _, rfl, fun q _ h => absurd h (by omega), 0, rfl⟩
    case round =>
      obtain ⟨j, hj, rfl, hall, n, rfl⟩ := hrel
      obtain ⟨hd1, hd2⟩ := HD.out j hj hall
      have HAll := Lib.hid hall
      clear hall
      by_cases hlt : j < l.length
      · have hltm : j < m.length := by omega
        obtain ⟨b1, o1, rfl, _, _, x0⟩ := HU.out.byteAt j hlt
        obtain ⟨b2, o2, rfl, _, _, y0⟩ := HV.out.byteAt j hltm
        by_cases he : l[j] = m[j]
        · have HN : Hid (∀ q (hq : q < l.length), q < j + 1 → l[q] = m[q]) := Lib.hid fun q hq h => by
            rcases Nat.lt_succ_iff_lt_or_eq.1 h with h | rfl
            · exact HAll.out q hq h
            · exact he
          rw [← he] at y0
          generalize l[j] = x at *
          clear he hd1 hd2
          go_wp2_with fail
          go_quiet (fail)
          go_wp2
          go_roundw
          case rel => exact ⟨j + 1, by omega, by go_num, HN.out, _, rfl⟩
          case measure => simp [intOf]; omega
        · have hdF := hd2 hlt he
          have hne : ((l[j].toNat : Int) == m[j].toNat) = false := by
            rw [beq_eq_false_iff_ne]; intro h; exact he (UInt8.toNat_inj.1 (by omega))
          generalize l[j] = x at *
          generalize m[j] = y at *
          subst hdF
          clear he hd1 hd2
          go_wp2_with fail
          go_quiet (fail)
          go_wp2
          go_ret
          exact ⟨rfl, below_drewN (below_drewN (Below.refl _ _) _) _⟩
      · have hdT := hd1 (by omega)
        subst hdT
        clear hd1 hd2
        go_wp2_with fail
        go_ret
        exact ⟨rfl, below_drewN (Below.refl _ _) _⟩
  · have hD : decide (l = m) = false := decide_eq_false fun e => hlen (by rw [e])
    rw [hD]
    have hli : ¬ ((l.length : Int) = m.length) := by omega
    clear hD
    go_enter Tryz.func11, Tryz.ntmps11
    go_wp2_with fail
    go_ret
    exact ⟨rfl, Below.refl _ _⟩
theorem bulk_bytes (l : List UInt8) : (l.map Enc.byte.bulk).sum = l.length := by
  induction l with
  | nil => rfl
  | cons x r ih => rw [List.map_cons, List.sum_cons, ih, List.length_cons]; show 1 + r.length = _; omega
end Go.Proofs.YtmpjfomfibkbnaaGreatDoor
