/- The walk of linguisterlaw4.PropLines. -/
import Derived.Test.YtoneheloojlifaaGreatDoorPropBack
namespace Go.Proofs.YtoneheloojlifaaGreatDoor
open Go.RowKit

/- ## The lines, put together again with one more among them -/
theorem join_two (a b : List UInt8) (r : List (List UInt8)) : Lib.join (a :: b :: r) [10] = a ++ 10 :: Lib.join (b :: r) [10] := by
  rw [Lib.join_cons, Lib.join_cons]
  simp [Lib.joinTail]
theorem join_nl : ∀ xs : List (List UInt8), xs ≠ [] → Lib.join xs [10] ++ [10] = xs.flatMap nlL
  | [], h => absurd rfl h
  | [a], _ => by rw [Lib.join_one]; simp [nlL]
  | a :: b :: r, _ => by
    have ih := join_nl (b :: r) (by simp)
    rw [join_two, List.flatMap_cons, ← ih]
    simp [nlL]
theorem join_last : ∀ xs : List (List UInt8), Lib.join (xs ++ [[]]) [10] = xs.flatMap nlL
  | [] => by rw [List.nil_append, Lib.join_one]; rfl
  | [a] => by
    show Lib.join (a :: [] :: []) [10] = _
    rw [join_two, Lib.join_one]; simp [nlL]
  | a :: b :: r => by
    have ih := join_last (b :: r)
    rw [List.cons_append, List.cons_append, join_two, List.flatMap_cons, ← ih, List.cons_append]
    simp [nlL]
theorem bts_join (xs : List (List UInt8)) : joined (xs.map str) ⟨#[10]⟩ = str (Lib.join xs [10]) := by
  unfold joined
  rw [List.map_map]
  have e : xs.map (bts ∘ str) = xs := by
    conv => rhs; rw [← List.map_id xs]
    exact List.map_congr_left fun x _ => bts_str x
  rw [e]; rfl
/-- the text, with one more line -/
def moreL (b : Bun) (k : Nat) (m : List UInt8) : List UInt8 := nlL (64 :: bts b.tag) ++ ((b.ents.map lineL).take k ++ (33 :: m) :: (b.ents.map lineL).drop k).flatMap nlL
theorem more_is {b : Bun} (hR : Right b) (k : Nat) (m : List UInt8) (hm : ∀ c ∈ m, c ≠ 10) : IsOf (moreL b k m) b ((b.ents.map lineL).take k ++ (33 :: m) :: (b.ents.map lineL).drop k) := by
  have h := IsOf.lines hR
  have e : linesL b = nlL (64 :: bts b.tag) ++ ((b.ents.map lineL).take k ++ (b.ents.map lineL).drop k).flatMap nlL := by rw [List.take_append_drop]; rfl
  have h' : IsOf (nlL (64 :: bts b.tag) ++ ((b.ents.map lineL).take k ++ (b.ents.map lineL).drop k).flatMap nlL) b ((b.ents.map lineL).take k ++ (b.ents.map lineL).drop k) := by
    rw [← e, List.take_append_drop]; exact h
  refine IsOf.more h' ?_ rfl
  intro c hc
  rcases List.mem_cons.1 hc with rfl | hc
  · decide
  · exact hm c hc
theorem more_text (b : Bun) (k : Nat) (more : ByteArray) (hk : k ≤ b.ents.length) :
    str (Lib.join (((64 :: bts b.tag) :: (b.ents.map lineL ++ [[]])).take (k + 1)) [10]) ++ ⟨#[10, 33]⟩ ++ more ++ ⟨#[10]⟩ ++ str (Lib.join (((64 :: bts b.tag) :: (b.ents.map lineL ++ [[]])).drop (k + 1)) [10]) = str (moreL b k (bts more)) := by
  have hl : k ≤ (b.ents.map lineL).length := by rw [List.length_map]; exact hk
  apply bts_inj
  rw [List.take_succ_cons, List.drop_succ_cons, List.take_append_of_le_length hl, List.drop_append_of_le_length hl, join_last]
  rw [bts_append, bts_append, bts_append, bts_append, bts_str, bts_str, bts_str]
  have e := join_nl ((64 :: bts b.tag) :: (b.ents.map lineL).take k) (by simp)
  rw [List.flatMap_cons] at e
  unfold moreL
  rw [List.flatMap_append, List.flatMap_cons, ← List.append_assoc (nlL (64 :: bts b.tag)), ← e, show nlL (33 :: bts more) = 33 :: (bts more ++ [10]) from rfl]
  have e1 : bts ⟨#[10, 33]⟩ = [10, 33] := rfl
  have e2 : bts ⟨#[10]⟩ = [10] := rfl
  rw [e1, e2]
  simp
theorem more_len (b : Bun) (k : Nat) (m : List UInt8) : (moreL b k m).length = (linesL b).length + m.length + 2 := by
  have e : (linesL b).length = (nlL (64 :: bts b.tag)).length + (((b.ents.map lineL).take k).flatMap nlL).length + (((b.ents.map lineL).drop k).flatMap nlL).length := by
    unfold linesL
    conv => lhs; rw [← List.take_append_drop k (b.ents.map lineL)]
    rw [List.flatMap_append, List.length_append, List.length_append]; omega
  rw [e]
  unfold moreL
  rw [List.flatMap_append, List.flatMap_cons, List.length_append, List.length_append, List.length_append, show (nlL (33 :: m)).length = m.length + 2 by simp [nlL]]
  omega
theorem cut1_single : ∀ l : List UInt8, ¬ (1 < (cut1 10 l).length) → ∀ c ∈ l, c ≠ 10
  | [], _, c, hc => by cases hc
  | b :: l, h, c, hc => by
    have ih := cut1_single l
    unfold cut1 at h
    by_cases hb : b = 10
    · rw [if_pos hb, List.length_cons] at h
      have := List.length_pos_iff.2 (cut1_ne 10 l)
      omega
    · rw [if_neg hb, List.length_cons, List.length_tail] at h
      rcases List.mem_cons.1 hc with rfl | hc
      · exact hb
      · exact ih (by omega) c hc
theorem join_small (L : List (List UInt8)) (k : Nat) (h0 : 0 < k) (hk : k < L.length) : (Lib.join (L.take k) [10]).length + (Lib.join (L.drop k) [10]).length + 1 = (Lib.join L [10]).length := by
  have h1 := join_length 10 (L.take k) (by intro h; have h' := congrArg List.length h; rw [List.length_take, List.length_nil] at h'; omega)
  have h2 := join_length 10 (L.drop k) (by intro h; have h' := congrArg List.length h; rw [List.length_drop, List.length_nil] at h'; omega)
  have h3 := join_length 10 L (by intro h; rw [h] at hk; simp at hk)
  have e : Lib.lens L = Lib.lens (L.take k) + Lib.lens (L.drop k) := by
    conv => lhs; rw [← List.take_append_drop k L]
    unfold Lib.lens
    rw [List.map_append, List.sum_append]
  have e2 : L.length = (L.take k).length + (L.drop k).length := by rw [List.length_take, List.length_drop]; omega
  omega
/-- Parse of a right bundle's lines with one more line -/
theorem parse_more {b : Bun} (hR : Right b) (k : Nat) (more : ByteArray) (hm10 : ∀ c ∈ bts more, c ≠ 10) (hs : more.size ≤ 90000000) (w : World) (hm : MaxVar w) : Calls Tryz.prog 8 #[.string (str (moreL b k (bts more)))] w fun e w' => Below w.heap.size w w' ∧ ∃ v, e = .returned (.tuple #[.agg #[.string b.tag, v], .nilIface]) ∧ w'.ownsRow w.heap.size 62 2 v b.ents.length (flatE b.ents) := by
  have hl := lines_small hR
  have hl2 : (linesL b).length ≤ 500000 := by unfold linesS at hl; rw [str_size] at hl; exact hl
  refine (pparse_any (str (moreL b k (bts more))) w (by rw [str_size, more_len, bts_len]; omega) hm).mono ?_
  have hi := more_is hR k _ hm10
  rintro e w' ⟨hb, ⟨b2, ls, v, h, rfl, ho⟩ | ⟨hn, _⟩⟩
  · rw [bts_str] at h
    obtain ⟨rfl, _⟩ := hi.same h
    exact ⟨hb, v, rfl, ho⟩
  · exact absurd hi (by have h9 := hn b ((b.ents.map lineL).take k ++ (33 :: bts more) :: (b.ents.map lineL).drop k); rw [bts_str] at h9; exact h9)
set_option maxHeartbeats 6400000 in
set_option maxRecDepth 100000 in
theorem propLines_any (b : Bun) (v : Value) (i : Int) (hi1 : -9223372036854775808 ≤ i) (hi2 : i ≤ 9223372036854775807) (more : ByteArray) (w : World) (h : BunIn w b v) (hs : more.size ≤ 90000000) (hm : MaxVar w) :
    Calls Tryz.prog 4 #[.agg #[.string b.tag, v], .int .i64 i, .string more] w fun e w' => e = .returned (.bool true) ∧ Below w.heap.size w w' := by
  have HMx : Hid (∀ W, Below w.heap.size w W → MaxVar W) := Lib.hid fun W hW => hm.below hW
  obtain ⟨lo, hl⟩ := h.lo
  obtain ⟨A, c, rfl, _⟩ := hl.form
  have HIn : Hid (∀ W, Below w.heap.size w W → BunIn W b (.slice A b.ents.length c)) := Lib.hid fun W hW => h.below hW
  have HLb : Hid (∀ W, Below w.heap.size w W → ListOk Enc.ent W lo w.heap.size (.slice A b.ents.length c) b.ents) := Lib.hid fun W hW => hl.keep Enc.ent_laws (Alk.mono (Alk.of_below hW) (Nat.zero_le _) (Nat.le_refl _))
  obtain ⟨W1, eW1⟩ : ∃ W1, W1 = w.alloc (.cells #[.string b.tag, .slice A b.ents.length c] 24) := ⟨_, rfl⟩
  have m1 : Blk W1 w.heap.size 24 #[.string b.tag, .slice A b.ents.length c] := by rw [eW1]; exact Blk.new _ _ _
  have hb1 : Below w.heap.size w W1 := by rw [eW1]; exact (Below.refl _ _).alloc (Nat.le_refl _) _
  have M1 := Lib.hid m1
  have HB1 := Lib.hid hb1
  have hs1 := m1.lt
  have HLd := Lib.hid (lined_any W1 (hm.below hb1))
  have EW := Lib.hid eW1
  clear h hl hm m1 hb1 eW1
  go_enter Tryz.func4, Tryz.ntmps4
  go_upto_region 1 with fail
  rw [← EW.out]
  clear EW
  go_wp2_with fail
  refine HLd.out.mono ?_
  clear HLd
  rintro e w2 ⟨rfl, hb2⟩
  have M2 := Lib.hid (M1.out.below hb2 hs1)
  have HB2 := Lib.hid (HB1.out.trans (hb2.mono (Nat.le_of_lt hs1)))
  have HTx := Lib.hid (ptext_any b (.slice A b.ents.length c) w2 (HIn.out _ HB2.out) (HMx.out _ HB2.out))
  have k0 := (M2.out.cell 0).trans (show _ = some (.string b.tag) from rfl)
  have k1 := (M2.out.cell 1).trans (show _ = some (.slice A b.ents.length c) from rfl)
  clear hb2 M1 HB1 hs1
  go_wp2_with fail
  refine HTx.out.mono ?_
  clear HTx
  rintro e w3 ⟨rfl, hb3⟩
  have M3 := Lib.hid (M2.out.below hb3 M2.out.lt)
  have HB3 := Lib.hid (HB2.out.trans (hb3.mono HB2.out.size))
  clear hb3 k0 k1 M2 HB2
  by_cases hf : bunFault b = 0
  · have hR : Right b := (right_iff b).1 hf
    have HR := Lib.hid hR
    have hTT : TextTold b = .tuple #[.string (linesS b), .nilIface] := if_pos hf
    have hsm := lines_small hR
    have hn100 := hR.len
    obtain ⟨L, hL⟩ : ∃ L, L = (64 :: bts b.tag) :: (b.ents.map lineL ++ [[]]) := ⟨_, rfl⟩
    have HL := Lib.hid hL
    have hcut : cut1 10 (bts (linesS b)) = L := by rw [hL, bts_lines]; exact (IsOf.lines hR).cut
    have hLl : L.length = b.ents.length + 2 := by rw [hL]; simp
    have hjl : (Lib.join L [10]).length ≤ 500000 := by
      rw [← hcut, join_cut1, bts_len]; exact hsm
    have HCt := Lib.hid (cut_any (linesS b) 10 w3 (by omega))
    rw [splitS_one, hcut] at HCt
    rw [hTT]
    clear hR hTT hf hL hcut
    go_wp2_with fail
    refine HCt.out.mono ?_
    clear HCt
    rintro e w4 ⟨v4, rfl, ho4, hlen4, hb4⟩
    obtain ⟨A4, c4, rfl, hc4⟩ := own_slice ho4
    have hl4 := ListOk.strs_of_own (lo := w3.heap.size) (hi := w4.heap.size) ho4 (Nat.le_refl _) (Nat.le_refl _)
    rw [List.length_map] at hl4 hc4 ho4 hlen4 ⊢
    have HO4 := Lib.hid hl4
    have M4 := Lib.hid (M3.out.below hb4 M3.out.lt)
    have HB4 := Lib.hid (HB3.out.trans (hb4.mono HB3.out.size))
    have k0 := (M4.out.cell 0).trans (show _ = some (.string b.tag) from rfl)
    have k1 := (M4.out.cell 1).trans (show _ = some (.slice A b.ents.length c) from rfl)
    clear ho4 hb4 hl4 M3 HB3
    rw [hLl] at hc4 hlen4 HO4 ⊢
    by_cases hlo : i < 1
    · clear HO4 HL HR HLb
      go_wp2_with fail
      go_ret
      exact ⟨rfl, HB4.out⟩
    · by_cases hhi : (b.ents.length : Int) + 2 ≤ i
      · clear HO4 HL HR HLb
        go_wp2_with fail
        go_ret
        exact ⟨rfl, HB4.out⟩
      · obtain ⟨k, hk⟩ : ∃ k : Nat, i = (k : Int) + 1 := ⟨(i - 1).toNat, by omega⟩
        have hkn : k ≤ b.ents.length := by omega
        have HCm := Lib.hid (cut_any more 10 w4 (by omega))
        rw [splitS_one] at HCm
        obtain ⟨N, hN⟩ : ∃ N, N = (cut1 10 (bts more)).length := ⟨_, rfl⟩
        rw [List.length_map, ← hN] at HCm
        have HN := Lib.hid hN
        clear hN
        go_wp2_with fail
        refine HCm.out.mono ?_
        clear HCm
        rintro e w5 ⟨v5, rfl, ho5, hlen5, hb5⟩
        obtain ⟨A5, c5, rfl, _⟩ := own_slice ho5
        have M5 := Lib.hid (M4.out.below hb5 M4.out.lt)
        have HB5 := Lib.hid (HB4.out.trans (hb5.mono HB4.out.size))
        have HO5 := Lib.hid (HO4.out.below Enc.str_laws hb5)
        clear k0 k1 ho5 hb5 M4 HB4 HO4
        by_cases hN1 : 1 < N
        · have hN1' : (1 : Int) < (N : Int) := by omega
          clear HO5 HL HR HLb
          go_wp2_with fail
          go_ret
          exact ⟨rfl, HB5.out⟩
        · have hN1' : ¬ ((1 : Int) < (N : Int)) := by omega
          have HNo := Lib.hid (cut1_single (bts more) (by rw [← HN.out]; exact hN1))
          obtain ⟨b4, o4, rfl, _⟩ := HO5.out.strAt 0 (by rw [List.length_map]; omega)
          obtain ⟨T1, hT1⟩ : ∃ T1, T1 = str (Lib.join (L.take (k + 1)) [10]) := ⟨_, rfl⟩
          obtain ⟨T2, hT2⟩ : ∃ T2, T2 = str (Lib.join (L.drop (k + 1)) [10]) := ⟨_, rfl⟩
          have hT12 : T1.size + T2.size + 1 = (Lib.join L [10]).length := by rw [hT1, hT2, str_size, str_size]; exact join_small L (k + 1) (by omega) (by omega)
          have HJ1 : Hid (∀ n, Calls Tryz.prog 12 #[.slice (some ⟨b4, o4, none⟩) (k + 1) c4, .string ⟨#[10]⟩] (w5.drewN n) fun e w' => e = .returned (.string T1) ∧ w5.drewN n = w') := Lib.hid fun n => by
            have hv : ListOk Enc.str (w5.drewN n) _ _ _ _ := HO5.out.take (k + 1) (by rw [List.length_map]; omega)
            have h1 := joined_any _ _ ⟨#[10]⟩ _ _ _ hv (by rw [List.length_take, List.length_map]; omega) (by rw [← List.map_take, bts_join, ← hT1]; omega)
            rw [← List.map_take, bts_join, ← hT1] at h1
            exact h1
          have HJ2 : Hid (∀ n, Calls Tryz.prog 12 #[.slice (some ⟨b4, o4 + (k + 1), none⟩) (b.ents.length + 1 - k) (c4 - (k + 1)), .string ⟨#[10]⟩] (w5.drewN n) fun e w' => e = .returned (.string T2) ∧ w5.drewN n = w') := Lib.hid fun n => by
            have hv : ListOk Enc.str (w5.drewN n) _ _ _ _ := HO5.out.drop (k + 1) (by rw [List.length_map]; omega) (c4 - (k + 1)) (by rw [List.length_map]; omega)
            rw [List.length_map, hLl, show b.ents.length + 2 - (k + 1) = b.ents.length + 1 - k by omega, show (k + 1) * Enc.str.sz = k + 1 from Nat.mul_one _] at hv
            have h1 := joined_any _ _ ⟨#[10]⟩ _ _ _ hv (by rw [List.length_drop, List.length_map]; omega) (by rw [← List.map_drop, bts_join, ← hT2]; omega)
            rw [← List.map_drop, bts_join, ← hT2] at h1
            exact h1
          have hTT : T1 ++ ⟨#[10, 33]⟩ ++ more ++ ⟨#[10]⟩ ++ T2 = str (moreL b k (bts more)) := by rw [hT1, hT2, HL.out]; exact more_text b k more hkn
          have HTT := Lib.hid hTT
          clear hT1 hT2 hTT
          have z1 : ¬ (9223372036854775807 < T1.size + 2) := by omega
          have z2 : ¬ (9223372036854775807 < T1.size + 2 + more.size) := by omega
          have z3 : ¬ (9223372036854775807 < T1.size + 2 + more.size + 1) := by omega
          have z4 : ¬ (9223372036854775807 < T1.size + 2 + more.size + 1 + T2.size) := by omega
          have f1 : (0 : Int) ≤ (k : Int) + 1 := by omega
          have f2 : (k : Int) + 1 ≤ (c4 : Int) := by omega
          have f3 : (k : Int) + 1 ≤ (b.ents.length : Int) + 2 := by omega
          go_wp2_with fail
          go_quiet ((go_at_call 12; first | with_reducible exact quiet_left (HJ1.out _) | with_reducible exact quiet_left (HJ2.out _)))
          clear HJ1 HJ2 HO5 z1 z2 z3 z4 f1 f2 f3
          rw [HTT.out]
          have HPm : Hid (∀ n, Calls Tryz.prog 8 #[.string (str (moreL b k (bts more)))] (w5.drewN n) fun e w' => ∃ w6, Below w.heap.size w w6 ∧ Blk w6 w.heap.size 24 #[.string b.tag, .slice A b.ents.length c] ∧ Below w6.heap.size w6 w' ∧ ∃ v, e = .returned (.tuple #[.agg #[.string b.tag, v], .nilIface]) ∧ w'.ownsRow w6.heap.size 62 2 v b.ents.length (flatE b.ents)) := Lib.hid fun n => by
            refine (parse_more HR.out k more HNo.out hs (w5.drewN n) (HMx.out _ (below_drewN HB5.out n))).mono ?_
            rintro e w' ⟨h1, h2⟩
            exact ⟨_, below_drewN HB5.out n, M5.out.drewN n, h1, h2⟩
          go_wp2_with fail
          refine (HPm.out _).mono ?_
          clear HPm
          rintro e w7 ⟨w6, hb6, M6, hb7, v7, rfl, ho7⟩
          have HB6 := Lib.hid hb6
          obtain ⟨A7, c7, rfl, _⟩ := own_slice ho7
          obtain ⟨W8, hW8⟩ : ∃ W8, W8 = w7.alloc (.cells #[.string b.tag, .slice A7 b.ents.length c7] 24) := ⟨_, rfl⟩
          have hb78 : Below w7.heap.size w7 W8 := by rw [hW8]; exact (Below.refl _ _).alloc (Nat.le_refl _) _
          have n8 : Blk W8 w7.heap.size 24 #[.string b.tag, .slice A7 b.ents.length c7] := by rw [hW8]; exact Blk.new _ _ _
          have hb68 : Below w6.heap.size w6 W8 := hb7.trans (hb78.mono hb7.size)
          have m8 := M6.below hb68 M6.lt
          have HB8 := Lib.hid (HB6.out.trans (hb68.mono HB6.out.size))
          have hl8 : ListOk Enc.ent W8 0 w7.heap.size (.slice A7 b.ents.length c7) b.ents := ((ents_of_own ho7 (Nat.le_refl _) (Nat.le_refl _)).below Enc.ent_laws hb78).mono Enc.ent_laws (Nat.zero_le _) (Nat.le_refl _)
          have HSb := Lib.hid (sbunS_any b.tag b.ents (.slice A7 b.ents.length c7) (.slice A b.ents.length c) 0 w7.heap.size lo w.heap.size W8 hl8 (HLb.out W8 HB8.out) hb78.size HB8.out.size (by omega))
          have j0 := (n8.cell 0).trans (show _ = some (.string b.tag) from rfl)
          have j1 := (n8.cell 1).trans (show _ = some (.slice A7 b.ents.length c7) from rfl)
          have k0 := (m8.cell 0).trans (show _ = some (.string b.tag) from rfl)
          have k1 := (m8.cell 1).trans (show _ = some (.slice A b.ents.length c) from rfl)
          have HW8 := Lib.hid hW8
          clear hb7 ho7 hb78 n8 hb68 m8 hl8 M6 hW8 M5 HB5 HB6
          go_upto_region 12 with fail
          rw [← HW8.out]
          clear HW8
          go_wp2_with fail
          refine HSb.out.mono ?_
          clear HSb
          rintro e w9 ⟨rfl, hb9⟩
          have HB9 := Lib.hid (HB8.out.trans (hb9.mono HB8.out.size))
          clear hb9 j0 j1 k0 k1
          go_wp2_with fail
          go_ret
          exact ⟨rfl, HB9.out⟩
  · have hTT : TextTold b = .tuple #[.string ⟨#[]⟩, errV (bunFault b)] := if_neg hf
    rw [hTT, errV_ne hf]
    clear hTT
    go_wp2_with fail
    go_ret
    exact ⟨rfl, HB3.out⟩
end Go.Proofs.YtoneheloojlifaaGreatDoor
