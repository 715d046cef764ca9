/- linguisterref1.Digits, NumberOf, Starts; linguisterref2.Name, Exact. -/
import Derived.Test.YtokjbdefkfdhhaaGreatDoorQMsgP
import Derived.Test.YtokjbdefkfdhhaaGreatDoorDigits
namespace Go.Proofs.YtokjbdefkfdhhaaGreatDoor
open Go.RowKit

def digB : Nat → Nat → ByteArray
  | 0, n => dig1 n
  | f + 1, n => if n < 10 then dig1 n else digB f (n / 10) ++ dig1 n
theorem digB_size : ∀ (f n : Nat), 0 < (digB f n).size ∧ (digB f n).size ≤ f + 1
  | 0, n => by show 0 < 1 ∧ 1 ≤ 0 + 1; decide
  | f + 1, n => by
    unfold digB
    split
    · show 0 < 1 ∧ 1 ≤ f + 1 + 1; omega
    · have := digB_size f (n / 10)
      rw [ByteArray.size_append]
      have e : (dig1 n).size = 1 := rfl
      omega
set_option maxRecDepth 100000 in
set_option maxHeartbeats 800000 in
theorem rdigits_any : ∀ (f n : Nat) (w : World), n < 10 ^ (f + 1) → f ≤ 17 → Calls Tryz.prog 61 #[.int .i64 n, .int .i64 0] w fun e w' => e = .returned (.string (digB f n)) ∧ Below w.heap.size w w'
  | 0, n, w, h, _ => by
    have h1 := digits_small (n : Int) w (by omega) (by omega)
    rwa [Int.toNat_natCast] at h1
  | f + 1, n, w, h, hf => by
    by_cases h1 : n < 10
    · have h2 := digits_small (n : Int) w (by omega) (by omega)
      rw [Int.toNat_natCast] at h2
      unfold digB
      rw [if_pos h1]
      exact h2
    · have hcv := conv_dig n w
      have hsz := digB_size f (n / 10)
      have hs : (0 : Int) < ((digB f (n / 10) ++ dig1 n).size : Int) := by rw [ByteArray.size_append]; omega
      have hs2 : ¬ (9223372036854775807 < (digB f (n / 10)).size + (dig1 n).size) := by have e : (dig1 n).size = 1 := rfl; omega
      have hp : n / 10 < 10 ^ (f + 1) := by rw [Nat.pow_succ] at h; omega
      have H : Hid (∀ W, Calls Tryz.prog 61 #[.int .i64 ((n : Int) / 10), .int .i64 0] W fun e w' => e = .returned (.string (digB f (n / 10))) ∧ Below W.heap.size W w') := Lib.hid fun W => by
        have := rdigits_any f (n / 10) W hp (by omega)
        rwa [show (((n / 10 : Nat) : Int)) = (n : Int) / 10 from by omega] at this
      have hq : 10 ^ (f + 1 + 1) ≤ 10 ^ 19 := Nat.pow_le_pow_right (by decide) (by omega)
      have hn : n < 10000000000000000000 := by omega
      have hdg : Hid (digB (f + 1) n = digB f (n / 10) ++ dig1 n) := Lib.hid (by show (if n < 10 then _ else _) = _; rw [if_neg h1])
      rw [hdg.out]
      clear h hdg hq hp hsz
      generalize digB f (n / 10) = D at *
      go_enter Tryz.func61, Tryz.ntmps61
      go_wp2_with fail
      refine (H.out _).mono ?_
      rintro e w1 ⟨rfl, hb⟩
      go_wp2_with fail
      refine wp_loop_rounds 1 ?_
      rw [rounds_succ]
      go_wp2_with fail
      go_ret
      exact ⟨rfl, ((Below.refl _ _).alloc (Nat.le_refl _) _).trans (hb.mono (by simp))⟩
set_option maxRecDepth 100000 in
theorem digB_dg3 : ∀ n : Fin 1000, bts (digB 2 n.val) = dg3 n.val := by decide +kernel
theorem numL_snoc (l : List UInt8) (c : UInt8) : numL (l ++ [c]) = 10 * numL l + (c.toNat - 48) := by unfold numL; rw [List.foldl_append]; rfl
theorem all_snoc (l : List UInt8) (c : UInt8) (h : l.all isDg = true) : (l ++ [c]).all isDg = isDg c := by rw [List.all_append, h]; simp
theorem isDg_not {l : List UInt8} {j : Nat} {c : UInt8} (h : l[j]? = some c) (hc : isDg c = false) : l.all isDg = false := by
  rw [← Bool.not_eq_true, List.all_eq_true]
  intro hx
  have := hx _ (List.mem_of_getElem? h)
  rw [hc] at this; cases this
set_option maxRecDepth 100000 in
set_option maxHeartbeats 1600000 in
theorem number_any (s : ByteArray) (w : World) (hs : s.size ≤ 3) :
    Calls Tryz.prog 57 #[.string s] w fun e w' => e = .returned (.int .i64 (refNum (bts s))) ∧ Below w.heap.size w w' := by
  have hln := bts_len s
  by_cases h0 : s.size = 0
  · have HE : Hid (refNum (bts s) = -1) := Lib.hid (by
      obtain rfl : s = ByteArray.empty := ByteArray.size_eq_zero_iff.1 h0
      rfl)
    have z0 : ((s.size : Int) == 0) = true := by rw [beq_iff_eq]; omega
    clear hln h0 hs
    go_enter Tryz.func57, Tryz.ntmps57
    go_wp2_with fail
    go_ret
    exact ⟨by rw [HE.out]; rfl, Below.refl _ _⟩
  have hne : bts s ≠ [] := fun e => by rw [e] at hln; simp at hln; omega
  have HN1 : Hid ((bts s).all isDg = false → refNum (bts s) = -1) := Lib.hid fun h => by unfold refNum; rw [if_neg hne, if_neg (by rw [h]; decide)]
  have HN2 : Hid ((bts s).all isDg = true → refNum (bts s) = if dg3 (numL (bts s)) = bts s then (numL (bts s) : Int) else -1) := Lib.hid fun h => by unfold refNum; rw [if_neg hne, if_pos h]
  have HAt : Hid (∀ j (h : j < s.size), (bts s)[j]? = some s[j]) := Lib.hid fun j h => by rw [List.getElem?_eq_getElem (by omega), bts_get s j h]
  have z0 : ((s.size : Int) == 0) = false := by rw [beq_eq_false_iff_ne]; omega
  have z1 : ¬ (16 < (s.size : Int)) := by omega
  clear hne
  go_enter Tryz.func57, Tryz.ntmps57
  go_wp2_with fail
  go_loopw [3, 4] (fun n i wr => ∃ j : Nat, j ≤ s.size ∧ i = .int .i64 (j : Int) ∧ n = .int .i64 (numL ((bts s).take j) : Int) ∧ ((bts s).take j).all isDg = true ∧ w = wr) (fun _ i _ => s.size - (intOf i).toNat)
  case atStart => exact ⟨0, Nat.zero_le _, rfl, rfl, rfl, rfl⟩
  case round =>
    obtain ⟨j, hj, rfl, rfl, hal, rfl⟩ := hrel
    by_cases hlt : j < s.size
    · have i1 : (0 : Int) ≤ (j : Int) := Int.natCast_nonneg j
      have i2 : (j : Int) < (s.size : Int) := by omega
      have ht : (bts s).take (j + 1) = (bts s).take j ++ [s[j]] := by rw [List.take_add_one, HAt.out j hlt]; rfl
      have HTk := Lib.hid ht
      have hnl := numL_lt ((bts s).take j) (by rw [List.length_take]; omega) hal
      have HAl := Lib.hid (all_snoc _ s[j] hal)
      have HNo : Hid (isDg s[j] = false → refNum (bts s) = -1) := Lib.hid fun h => HN1.out (isDg_not (HAt.out j hlt) h)
      have HNs := Lib.hid (numL_snoc ((bts s).take j) s[j])
      have hc := s[j].toNat_lt
      have HDg : Hid (isDg s[j] = (decide (48 ≤ s[j].toNat) && decide (s[j].toNat ≤ 57))) := Lib.hid rfl
      clear ht hal hln
      generalize ec : s[j] = c at *
      generalize numL ((bts s).take j) = N at *
      by_cases c1 : c.toNat < 48
      · have HF := Lib.hid (HNo.out (by rw [HDg.out]; simp; omega))
        have q1 : (c.toNat : Int) < 48 := by omega
        clear HNo HDg HAl HNs
        go_wp2_with fail
        go_ret
        exact ⟨by rw [HF.out]; rfl, Below.refl _ _⟩
      · by_cases c2 : 57 < c.toNat
        · have HF := Lib.hid (HNo.out (by rw [HDg.out]; simp; omega))
          have q1 : ¬ ((c.toNat : Int) < 48) := by omega
          have q2 : 57 < (c.toNat : Int) := by omega
          clear HNo HDg HAl HNs
          go_wp2_with fail
          go_ret
          exact ⟨by rw [HF.out]; rfl, Below.refl _ _⟩
        · have q1 : ¬ ((c.toNat : Int) < 48) := by omega
          have q2 : ¬ (57 < (c.toNat : Int)) := by omega
          have HD : Hid (isDg c = true) := Lib.hid (by rw [HDg.out]; simp; omega)
          clear HNo HDg
          go_wp2_with fail
          go_roundw
          case rel => exact ⟨j + 1, by omega, by go_num, by rw [HTk.out, HNs.out]; go_num, by rw [HTk.out, HAl.out]; exact HD.out, by first | rfl | trivial⟩
          case measure => simp [intOf]; omega
    · obtain rfl : j = s.size := by omega
      have et : (bts s).take s.size = bts s := List.take_of_length_le (by omega)
      rw [et] at hal
      have hnl := numL_lt (bts s) (by omega) hal
      have HF := Lib.hid (HN2.out hal)
      rw [et]
      have HDi := Lib.hid (rdigits_any 2 (numL (bts s)) w (by omega) (by decide))
      have hdd := digB_dg3 ⟨numL (bts s), hnl⟩
      dsimp only at hdd
      have HEq : Hid (((digB 2 (numL (bts s))).toList == s.toList) = decide (dg3 (numL (bts s)) = bts s)) := Lib.hid (by
        rw [ByteArray.toList_eq, ByteArray.toList_eq]
        show (bts (digB 2 (numL (bts s))) == bts s) = _
        rw [hdd, Bool.eq_iff_iff, beq_iff_eq, decide_eq_true_eq])
      clear et hal HN1 HN2 HAt hdd hln
      generalize dg3 (numL (bts s)) = D3 at *
      generalize digB 2 (numL (bts s)) = DB at *
      generalize numL (bts s) = N at *
      generalize hq : (DB.toList == s.toList) = Q at *
      go_wp2_with fail
      refine HDi.out.mono ?_
      clear HDi
      rintro e w1 ⟨rfl, hb⟩
      have HB := Lib.hid hb
      clear hb
      cases Q with
      | true =>
        have HR : Hid (refNum (bts s) = (N : Int)) := Lib.hid (by rw [HF.out, if_pos (of_decide_eq_true HEq.out.symm)])
        clear HF HEq
        go_wp2_with fail
        go_ret
        exact ⟨by rw [HR.out]; rfl, HB.out⟩
      | false =>
        have HR : Hid (refNum (bts s) = -1) := Lib.hid (by rw [HF.out, if_neg (of_decide_eq_false HEq.out.symm)])
        clear HF HEq
        go_wp2_with fail
        go_ret
        exact ⟨by rw [HR.out]; rfl, HB.out⟩
end Go.Proofs.YtokjbdefkfdhhaaGreatDoor
