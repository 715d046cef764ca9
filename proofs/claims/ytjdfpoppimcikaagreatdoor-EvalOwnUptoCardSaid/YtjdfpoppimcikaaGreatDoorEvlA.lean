/- msg.Exact, eval.Choice. -/
import Derived.Test.YtjdfpoppimcikaaGreatDoorPluC
import Derived.Test.YtjdfpoppimcikaaGreatDoorMsgD
namespace Go.Proofs.YtjdfpoppimcikaaGreatDoor
open Go.RowKit

theorem exactR_range (s : ByteArray) : -1 ≤ exactR s ∧ exactR s ≤ 999 := by
  unfold exactR
  split
  · exact ⟨by decide, by decide⟩
  · split
    · exact ⟨by decide, by decide⟩
    · split
      · exact ⟨by decide, by decide⟩
      · split
        · exact ⟨by decide, by decide⟩
        · split
          · exact ⟨by omega, by omega⟩
          · exact ⟨by decide, by decide⟩
set_option maxHeartbeats 1600000 in
set_option maxRecDepth 100000 in
theorem Exact_any (s : ByteArray) (w : World) (hs : s.size ≤ 1000000000) (hv : MV w) : Calls Tryz.prog 57 #[.string s] w fun e w' => e = .returned (.tuple #[.int .i64 (exactR s), .bool (decide (0 ≤ exactR s))]) ∧ Below w.heap.size w w' := by
  have H1 : Hid (∀ W, Below w.heap.size w W → Calls Tryz.prog 102 #[.string s] W fun e w' => e = .returned (.int .i64 (exactR s)) ∧ Below W.heap.size W w') := Lib.hid fun W hW => exact_any s W hs (hv.below hW)
  generalize exactR s = x at *
  have H2 := Lib.hid (H1.out w (Below.refl _ _))
  clear hv
  by_cases hx : 0 ≤ x
  · have hd : decide (0 ≤ x) = true := decide_eq_true hx
    go_enter Tryz.func57, Tryz.ntmps57
    go_wp2_with fail
    refine H2.out.mono ?_
    clear H2
    rintro e w1 ⟨rfl, hb1⟩
    have HB1 := Lib.hid hb1
    have H3 := Lib.hid (H1.out w1 hb1)
    clear H1 hb1
    go_wp2_with fail
    refine H3.out.mono ?_
    clear H3
    rintro e w2 ⟨rfl, hb2⟩
    have HB2 := Lib.hid (HB1.out.trans (hb2.mono HB1.out.size))
    clear hb2
    go_wp2_with fail
    go_ret2
    exact ⟨by first | rfl | (rw [hd]; rfl), HB2.out⟩
  · have hd : decide (0 ≤ x) = false := decide_eq_false hx
    go_enter Tryz.func57, Tryz.ntmps57
    go_wp2_with fail
    refine H2.out.mono ?_
    clear H2
    rintro e w1 ⟨rfl, hb1⟩
    have HB1 := Lib.hid hb1
    have H3 := Lib.hid (H1.out w1 hb1)
    clear H1 hb1
    go_wp2_with fail
    refine H3.out.mono ?_
    clear H3
    rintro e w2 ⟨rfl, hb2⟩
    have HB2 := Lib.hid (HB1.out.trans (hb2.mono HB1.out.size))
    clear hb2
    go_wp2_with fail
    go_ret2
    exact ⟨by first | rfl | (rw [hd]; rfl), HB2.out⟩
theorem othB_list : othB.toList = [111, 116, 104, 101, 114] := by rw [ByteArray.toList_eq]; rfl
def choF (s : ByteArray) : List ByteArray → Nat → Nat → Nat
  | [], _, b => b
  | k :: r, i, b => if eqs k s = true then i else choF s r (i + 1) (if eqs k othB = true then i else b)
theorem choF_lt (s : ByteArray) : ∀ (l : List ByteArray) (i b n : Nat), b < n → i + l.length ≤ n → choF s l i b < n
  | [], i, b, n, h, _ => h
  | k :: r, i, b, n, h, hl => by
    rw [List.length_cons] at hl
    unfold choF
    split
    · omega
    · refine choF_lt s r (i + 1) _ n ?_ (by omega)
      split
      · omega
      · exact h
set_option maxHeartbeats 3200000 in
set_option maxRecDepth 100000 in
theorem Choice_any {β : Type} {E : Enc β} (hE : E.Laws) (kind off : Int) (text : ByteArray) (cs : List (ByteArray × List β)) (V : Value) (s : ByteArray) (lo hi : Nat) (w : World) (hV : ListOk (Enc.cas E) w lo hi V cs) (hh : hi ≤ w.heap.size) (hl : cs.length ≤ 10000000) :
    Calls Tryz.prog 33 #[.agg #[.int .i64 kind, .string text, .int .i64 off, V], .string s] w fun e w' => e = .returned (.int .i64 (choF s (cs.map Prod.fst) 0 0 : Nat)) ∧ Below w.heap.size w w' := by
  obtain ⟨A, c, rfl, _⟩ := hV.form
  have HV : Hid (∀ W, Below w.heap.size w W → ListOk (Enc.cas E) W lo hi (.slice A cs.length c) cs) := Lib.hid fun W hW => hV.keep (Enc.cas_laws hE) ((Alk.of_below hW).mono (Nat.zero_le _) hh)
  have HB : Hid (Below w.heap.size w (w.alloc (.cells #[.int .i64 kind, .string text, .int .i64 off, .slice A cs.length c] 30))) := Lib.hid ((Below.refl _ _).alloc (Nat.le_refl _) _)
  have hkl : (cs.map Prod.fst).length = cs.length := List.length_map _
  have HKl := Lib.hid hkl
  obtain ⟨R, hR⟩ : ∃ R, R = choF s (cs.map Prod.fst) 0 0 := ⟨_, rfl⟩
  have HR := Lib.hid hR
  rw [← hR]
  clear hV hkl hR
  go_enter Tryz.func33, Tryz.ntmps33
  go_wp2_with fail
  go_loopw [5, 11] (fun b i wr => ∃ j q : Nat, j ≤ cs.length ∧ b = .int .i64 (q : Int) ∧ i = .int .i64 (j : Int) ∧ Hid (R = choF s ((cs.map Prod.fst).drop j) j q) ∧ Below w.heap.size w wr) (fun _ i _ => cs.length - (intOf i).toNat)
  case atStart => exact ⟨0, 0, Nat.zero_le _, rfl, rfl, HR, HB.out⟩
  case round =>
    clear HB HR
    obtain ⟨j, q, hj, rfl, rfl, HR, hb⟩ := hrel
    have HB := Lib.hid hb
    by_cases hlt : j < cs.length
    · have i1 : (0 : Int) ≤ (j : Int) := Int.natCast_nonneg j
      have i2 : (j : Int) < (cs.length : Int) := by omega
      obtain ⟨b1, o1, U, rfl, _, _, z0, z1, hU⟩ := (HV.out _ hb).casAt j hlt
      obtain ⟨UA, Uc, rfl, _⟩ := hU.form
      have hdr : (cs.map Prod.fst).drop j = cs[j].1 :: (cs.map Prod.fst).drop (j + 1) := by
        rw [List.drop_eq_getElem_cons (by rw [HKl.out]; exact hlt), List.getElem_map]
      rw [hdr] at HR
      have HBa : Hid (Below w.heap.size w (wr.alloc (.cells #[.string cs[j].1, .slice UA cs[j].2.length Uc] 76))) := Lib.hid (hb.alloc hb.size _)
      clear hU hdr hb HV
      generalize cs[j] = cc at *
      obtain ⟨ck, cb⟩ := cc
      dsimp only at z0 z1 HR HBa
      by_cases hk : eqs ck s = true
      · have hk' : (ck.toList == s.toList) = true := hk
        have HE : Hid (R = j) := Lib.hid (HR.out.trans (if_pos hk))
        clear hk HR
        go_wp2_with fail
        go_ret
        exact ⟨by rw [HE.out]; rfl, HBa.out⟩
      · have hk' : (ck.toList == s.toList) = false := by simpa [eqs] using hk
        have HE : Hid (R = choF s ((cs.map Prod.fst).drop (j + 1)) (j + 1) (if eqs ck othB = true then j else q)) := Lib.hid (HR.out.trans (if_neg hk))
        clear hk HR
        by_cases ho : eqs ck othB = true
        · have ho' : (ck.toList == [111, 116, 104, 101, 114]) = true := by
            have := (eqs_iff _ _).1 ho
            rw [this, othB_list]; exact beq_self_eq_true _
          rw [if_pos ho] at HE
          clear ho
          go_wp2_with fail
          go_roundw
          case rel => exact ⟨j + 1, j, by omega, rfl, by go_num, HE, HBa.out⟩
          case measure => simp [intOf]; omega
        · have ho' : (ck.toList == [111, 116, 104, 101, 114]) = false := by
            cases h : (ck.toList == [111, 116, 104, 101, 114]) with
            | false => rfl
            | true =>
              exfalso
              apply ho
              rw [eqs_iff]
              have e1 : ck.toList = othB.toList := by rw [beq_iff_eq] at h; rw [h, othB_list]
              exact (eqs_iff _ _).1 (by unfold eqs; rw [e1]; exact beq_self_eq_true _)
          rw [if_neg ho] at HE
          clear ho
          go_wp2_with fail
          go_roundw
          case rel => exact ⟨j + 1, q, by omega, rfl, by go_num, HE, HBa.out⟩
          case measure => simp [intOf]; omega
    · obtain rfl : j = cs.length := by omega
      have HE : Hid (R = q) := Lib.hid (by rw [HR.out, List.drop_of_length_le (by rw [HKl.out]; exact Nat.le_refl _)]; rfl)
      clear hb HR
      go_wp2_with fail
      go_ret
      exact ⟨by rw [HE.out]; rfl, HB.out⟩
end Go.Proofs.YtjdfpoppimcikaaGreatDoor
