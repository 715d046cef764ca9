/- The walk of linguisterlaw4.PropBack. -/
import Derived.Test.YtoneheloojlifaaGreatDoorLined
import Derived.Test.YtoneheloojlifaaGreatDoorPackP
namespace Go.Proofs.YtoneheloojlifaaGreatDoor
open Go.RowKit

/-- the first j lines, without those that are left out -/
def bareN (L : List (List UInt8)) : Nat → List UInt8
  | 0 => []
  | j + 1 => bareN L j ++ (if j = 0 ∨ skipL (L.getD j []) = false then nlL (L.getD j []) else [])
theorem bareN_mid (L0 : List UInt8) (mid : List (List UInt8)) (last : List UInt8) : ∀ k, k ≤ mid.length → bareN (L0 :: (mid ++ [last])) (k + 1) = nlL L0 ++ ((mid.take k).filter fun p => !skipL p).flatMap nlL
  | 0, _ => by simp [bareN]
  | k + 1, h => by
    have ih := bareN_mid L0 mid last k (by omega)
    have e : (L0 :: (mid ++ [last])).getD (k + 1) [] = mid[k] := by
      rw [List.getD_eq_getElem?_getD, List.getElem?_cons_succ, List.getElem?_append_left (by omega), List.getElem?_eq_getElem (by omega)]; rfl
    have ht : mid.take (k + 1) = mid.take k ++ [mid[k]] := by rw [List.take_add_one, List.getElem?_eq_getElem (by omega)]; rfl
    rw [show bareN (L0 :: (mid ++ [last])) (k + 1 + 1) = bareN (L0 :: (mid ++ [last])) (k + 1) ++ (if k + 1 = 0 ∨ skipL ((L0 :: (mid ++ [last])).getD (k + 1) []) = false then nlL ((L0 :: (mid ++ [last])).getD (k + 1) []) else []) from rfl, ih, e, ht, List.filter_append, List.flatMap_append]
    cases hs : skipL mid[k] <;> simp [hs]
theorem bareN_is {s : List UInt8} {b : Bun} {ls : List (List UInt8)} (h : IsOf s b ls) : bareN (cut1 10 s) ((cut1 10 s).length - 1) = linesL b := by
  rw [h.cut]
  have h1 := bareN_mid (64 :: bts b.tag) ls [] ls.length (Nat.le_refl _)
  rw [List.take_length, h.ents] at h1
  rw [show ((64 :: bts b.tag) :: (ls ++ [[]])).length - 1 = ls.length + 1 by simp, h1]
  rfl
theorem cut1_flat : ∀ l : List UInt8, (cut1 10 l).flatMap nlL = l ++ [10]
  | [] => rfl
  | b :: l => by
    have ih := cut1_flat l
    unfold cut1
    by_cases h : b = 10
    · rw [if_pos h, List.flatMap_cons, ih, h]; rfl
    · rw [if_neg h]
      cases hc : cut1 10 l with
      | nil => exact absurd hc (cut1_ne 10 l)
      | cons x r =>
        rw [hc] at ih
        rw [List.headD_cons, List.tail_cons, List.flatMap_cons]
        rw [List.flatMap_cons] at ih
        show b :: (nlL x ++ r.flatMap nlL) = b :: (l ++ [10])
        rw [ih]
theorem bareN_le (L : List (List UInt8)) : ∀ j, j ≤ L.length → (bareN L j).length ≤ ((L.take j).flatMap nlL).length
  | 0, _ => Nat.zero_le _
  | j + 1, h => by
    have ih := bareN_le L j (by omega)
    have e : L.getD j [] = L[j] := by rw [List.getD_eq_getElem?_getD, List.getElem?_eq_getElem (by omega)]; rfl
    have ht : L.take (j + 1) = L.take j ++ [L[j]] := by rw [List.take_add_one, List.getElem?_eq_getElem (by omega)]; rfl
    rw [show bareN L (j + 1) = bareN L j ++ (if j = 0 ∨ skipL (L.getD j []) = false then nlL (L.getD j []) else []) from rfl, e, ht, List.flatMap_append, List.length_append, List.length_append, show ([L[j]] : List (List UInt8)).flatMap nlL = nlL L[j] from List.append_nil _]
    split
    · omega
    · rw [List.length_nil]; omega
theorem bareN_small (s : List UInt8) (j : Nat) (hj : j ≤ (cut1 10 s).length) : (bareN (cut1 10 s) j).length ≤ s.length + 1 := by
  have h1 := bareN_le (cut1 10 s) j hj
  have h2 : (((cut1 10 s).take j).flatMap nlL).length ≤ ((cut1 10 s).flatMap nlL).length := by
    have e := List.take_append_drop j (cut1 10 s)
    have e2 : (cut1 10 s).flatMap nlL = ((cut1 10 s).take j).flatMap nlL ++ ((cut1 10 s).drop j).flatMap nlL := by rw [← List.flatMap_append, e]
    rw [e2, List.length_append]; omega
  rw [cut1_flat, show (s ++ [10] : List UInt8).length = s.length + 1 from List.length_append] at h2
  omega
theorem bareN_succ (L : List (List UInt8)) (j : Nat) (hj : j < L.length) : bareN L (j + 1) = bareN L j ++ (if j = 0 ∨ skipL L[j] = false then nlL L[j] else []) := by
  have e : L.getD j [] = L[j] := by rw [List.getD_eq_getElem?_getD, List.getElem?_eq_getElem hj]; rfl
  show bareN L j ++ (if j = 0 ∨ skipL (L.getD j []) = false then nlL (L.getD j []) else []) = _
  rw [e]
theorem cat_line (y p : List UInt8) : str y ++ str p ++ ⟨#[10]⟩ = str (y ++ nlL p) := by
  unfold nlL
  rw [str_app, str_app, ByteArray.append_assoc]
  rfl
theorem bts_lines (b : Bun) : bts (linesS b) = linesL b := rfl
theorem lines_small {b : Bun} (hR : Right b) : (linesS b).size ≤ 500000 := by
  have := linesN_bound hR b.ents.length (Nat.le_refl _)
  rw [linesN_all] at this
  have h2 := tag_short hR.tag
  have := hR.len
  omega
/-- Parse of a right bundle's lines -/
theorem parse_own {b : Bun} (hR : Right b) (w : World) (hm : MaxVar w) : Calls Tryz.prog 8 #[.string (linesS b)] w fun e w' => Below w.heap.size w w' ∧ ∃ v, e = .returned (.tuple #[.agg #[.string b.tag, v], .nilIface]) ∧ w'.ownsRow w.heap.size 62 2 v b.ents.length (flatE b.ents) := by
  have hl := lines_small hR
  refine (pparse_any (linesS b) w (by omega) hm).mono ?_
  rintro e w' ⟨hb, ⟨b2, ls, v, h, rfl, ho⟩ | ⟨hn, _⟩⟩
  · rw [bts_lines] at h
    obtain ⟨rfl, _⟩ := (IsOf.lines hR).same h
    exact ⟨hb, v, rfl, ho⟩
  · exact absurd (IsOf.lines hR) (by rw [← bts_lines]; exact hn _ _)
set_option maxHeartbeats 6400000 in
set_option maxRecDepth 100000 in
theorem propBack_any (b : Bun) (v : Value) (s : ByteArray) (w : World) (h : BunIn w b v) (hs : s.size ≤ 100000000) (hm : MaxVar w) :
    Calls Tryz.prog 3 #[.agg #[.string b.tag, v], .string s] w fun e w' => e = .returned (.bool true) ∧ Below w.heap.size w w' := by
  have HMx : Hid (∀ W, Below w.heap.size w W → MaxVar W) := Lib.hid fun W hW => hm.below hW
  obtain ⟨lo, hl⟩ := h.lo
  obtain ⟨A, c, rfl, _⟩ := hl.form
  have HIn : Hid (∀ W, Below w.heap.size w W → BunIn W b (.slice A b.ents.length c)) := Lib.hid fun W hW => h.below hW
  have HLb : Hid (∀ W, Below w.heap.size w W → ListOk Enc.ent W lo w.heap.size (.slice A b.ents.length c) b.ents) := Lib.hid fun W hW => hl.keep Enc.ent_laws (Alk.mono (Alk.of_below hW) (Nat.zero_le _) (Nat.le_refl _))
  obtain ⟨W1, eW1⟩ : ∃ W1, W1 = w.alloc (.cells #[.string b.tag, .slice A b.ents.length c] 24) := ⟨_, rfl⟩
  have m1 : Blk W1 w.heap.size 24 #[.string b.tag, .slice A b.ents.length c] := by rw [eW1]; exact Blk.new _ _ _
  have hb1 : Below w.heap.size w W1 := by rw [eW1]; exact (Below.refl _ _).alloc (Nat.le_refl _) _
  have M1 := Lib.hid m1
  have HB1 := Lib.hid hb1
  have hs1 := m1.lt
  have HLd := Lib.hid (lined_any W1 (hm.below hb1))
  have EW := Lib.hid eW1
  clear h hl hm m1 hb1 eW1
  go_enter Tryz.func3, Tryz.ntmps3
  go_upto_region 1 with fail
  rw [← EW.out]
  clear EW
  go_wp2_with fail
  refine HLd.out.mono ?_
  clear HLd
  rintro e w2 ⟨rfl, hb2⟩
  have M2 := Lib.hid (M1.out.below hb2 hs1)
  have HB2 := Lib.hid (HB1.out.trans (hb2.mono (Nat.le_of_lt hs1)))
  have HPs := Lib.hid (pparse_any s w2 hs (HMx.out _ HB2.out))
  clear hb2 M1 HB1 hs1
  go_wp2_with fail
  refine HPs.out.mono ?_
  clear HPs
  rintro e w3 ⟨hb3, hres⟩
  have M3 := Lib.hid (M2.out.below hb3 M2.out.lt)
  have HB3 := Lib.hid (HB2.out.trans (hb3.mono HB2.out.size))
  have hq3 : w.heap.size < w3.heap.size := M3.out.lt
  clear hb3 M2 HB2
  obtain ⟨TG, V, E, rfl, hE⟩ : ∃ (TG : ByteArray) (V : Value) (E : Int), e = .returned (.tuple #[.agg #[.string TG, V], errV E]) ∧ ((E = 0 ∧ ∃ b2 ls, IsOf (bts s) b2 ls ∧ TG = b2.tag ∧ w3.ownsRow w2.heap.size 62 2 V b2.ents.length (flatE b2.ents)) ∨ (E = 3 ∧ TG = ⟨#[]⟩ ∧ V = .slice none 0 0)) := by
    rcases hres with ⟨b2, ls, V, h, rfl, ho⟩ | ⟨_, rfl⟩
    · exact ⟨_, V, 0, rfl, .inl ⟨rfl, b2, ls, h, rfl, ho⟩⟩
    · exact ⟨_, _, 3, rfl, .inr ⟨rfl, rfl, rfl⟩⟩
  clear hres
  obtain ⟨A3, n3, c3, rfl⟩ : ∃ A3 n3 c3, V = .slice A3 n3 c3 := by
    rcases hE with ⟨_, b2, ls, _, _, ho⟩ | ⟨_, _, rfl⟩
    · obtain ⟨A3, c3, h, _⟩ := own_slice ho
      exact ⟨A3, _, c3, h⟩
    · exact ⟨none, 0, 0, rfl⟩
  obtain ⟨W4, hW4⟩ : ∃ W4, W4 = w3.alloc (.cells #[.string TG, .slice A3 n3 c3] 24) := ⟨_, rfl⟩
  have hb34 : Below w3.heap.size w3 W4 := by rw [hW4]; exact (Below.refl _ _).alloc (Nat.le_refl _) _
  have m4 : Blk W4 w3.heap.size 24 #[.string TG, .slice A3 n3 c3] := by rw [hW4]; exact Blk.new _ _ _
  have N4 := Lib.hid m4
  have M4 := Lib.hid (M3.out.below hb34 M3.out.lt)
  have HB4 := Lib.hid (HB3.out.trans (hb34.mono HB3.out.size))
  obtain ⟨Ev, hEv⟩ : ∃ Ev, Ev = errV E := ⟨_, rfl⟩
  obtain ⟨D, hD⟩ : ∃ D, D = decide (E = 0) := ⟨_, rfl⟩
  have HG : ∀ W : World, Sem.run Tryz.prog (eqGuard BinOp.eql 27 (Operand.tmp 26) (Operand.const Value.nilIface) Ev Value.nilIface) W = .ok () W := fun W => by
    rw [hEv]
    by_cases h : E = 0
    · rw [h, errV_zero]; go_simp
    · rw [errV_ne h]; go_simp
  have HQ : ∀ W : World, Sem.run Tryz.prog (binOp BinOp.eql 27 Ev Value.nilIface) W = .ok (.bool D) W := fun W => by
    rw [hEv, hD]
    by_cases h : E = 0
    · rw [h, errV_zero]; go_simp; try rfl
    · rw [errV_ne h, decide_eq_false h]; go_simp; try rfl
  rw [← hEv]
  have HY : Hid (D = true → ∃ b2 ls, IsOf (bts s) b2 ls ∧ TG = b2.tag ∧ n3 = b2.ents.length ∧ BunIn W4 b2 (.slice A3 n3 c3)) := Lib.hid fun h0 => by
    have hE0 : E = 0 := of_decide_eq_true (by rw [← hD, h0])
    rcases hE with ⟨_, b2, ls, h1, h2, ho⟩ | ⟨h, _⟩
    · have hn : n3 = b2.ents.length := by
        obtain ⟨A', c', h, _⟩ := own_slice ho
        injection h
      refine ⟨b2, ls, h1, h2, hn, ?_⟩
      have hk := tag_short h1.right.tag
      have hl := h1.right.len
      exact ⟨⟨_, ((ents_of_own ho (Nat.le_refl _) (Nat.le_refl _)).below Enc.ent_laws hb34).mono Enc.ent_laws (Nat.le_refl _) hb34.size⟩, by omega, by omega, fun e he => by
        have e1 := keyOk_size (h1.right.each e he).1
        have e2 := (h1.right.each e he).2
        omega⟩
    · omega
  have HW4 := Lib.hid hW4
  clear hE hD hEv hb34 m4 hW4 M3 HB3
  go_upto_if 27 with fail
  rw [← HW4.out]
  clear HW4
  go_cut [8, 9, 10, 11, 12] (fun _ _ _ _ _ wx => Below W4.heap.size W4 wx)
  case first =>
    clear M4 HIn HLb
    cases D with
    | false =>
      go_wp2_with fail
      go_meet
      case rel => exact Below.refl _ _
    | true =>
      obtain ⟨b2, ls, hIs, rfl, rfl, hbi⟩ := HY.out rfl
      have HIs := Lib.hid hIs
      have HBi := Lib.hid hbi
      have HCt := Lib.hid (cut_any s 10 W4 (by omega))
      rw [splitS_one] at HCt
      obtain ⟨L, hL⟩ : ∃ L, L = cut1 10 (bts s) := ⟨_, rfl⟩
      rw [← hL] at HCt
      have HL := Lib.hid hL
      have hLl : L.length = ls.length + 2 := by rw [hL, hIs.cut]; simp
      have hsm : ∀ j, j ≤ L.length → (bareN L j).length ≤ s.size + 1 := fun j hj => by
        have h := bareN_small (bts s) j (by rw [← hL]; exact hj)
        rw [bts_len, ← hL] at h; exact h
      have HSm := Lib.hid hsm
      have HFin : Hid (bareN L (L.length - 1) = linesL b2) := Lib.hid (by rw [hL]; exact bareN_is hIs)
      have hr4 := N4.out.lt
      clear hIs hbi HY HG HQ hL hsm
      go_wp2_with fail
      refine HCt.out.mono ?_
      clear HCt
      rintro e w5 ⟨v5, rfl, hrow, hlen, hb5⟩
      rw [List.length_map] at hlen
      have hl0 : 0 < (L.map str).length := by rw [List.length_map]; omega
      obtain ⟨g, cg, rfl, hg1, hgl, hx0, _⟩ := ownAt1 hrow 0 (.string (L.map str)[0]) (by rw [List.getElem?_map, List.getElem?_eq_getElem hl0]; rfl)
      have HLn : Hid (∀ i (hi : i < L.length), w5.cell? ⟨g, i, none⟩ = some (.string (str L[i]))) := Lib.hid fun i hi => by
        obtain ⟨g', c', hA, _, _, x, _⟩ := ownAt1 hrow i (.string (str L[i])) (by rw [List.getElem?_map, List.getElem?_map, List.getElem?_eq_getElem hi]; rfl)
        injection hA with hA; injection hA with hA; injection hA with hA
        subst hA; exact x
      rw [List.length_map]
      have HB5 := Lib.hid hb5
      have N5 := Lib.hid (N4.out.below hb5 hr4)
      clear hx0
      clear hrow hb5 hl0 N4
      go_wp2_with fail
      go_loopw [9, 10] (fun o ix wr => ∃ j : Nat, j + 1 ≤ L.length ∧ ix = .int .i64 (j : Int) ∧ o = .string (str (bareN L j)) ∧ wr = w5) (fun _ ix _ => L.length - (intOf ix).toNat)
      case atStart => exact ⟨0, by omega, rfl, rfl, rfl⟩
      case round =>
        obtain ⟨j, hj, rfl, rfl, rfl⟩ := hrel
        by_cases hlt : j + 1 < L.length
        · have hx := HLn.out j (by omega)
          have hsc := bareN_succ L j (by omega)
          have hz1 := HSm.out (j + 1) (by omega)
          have hz0 := HSm.out j (by omega)
          have i1 : (j : Int) < (L.length : Int) - 1 := by omega
          have i2 : (j : Int) < (L.length : Int) := by omega
          have HSc := Lib.hid hsc
          generalize L[j] = p at *
          by_cases h0 : j = 0
          · subst h0
            have e1 : bareN L (0 + 1) = nlL p := by rw [HSc.out]; simp [bareN]
            have HE1 := Lib.hid e1
            rw [e1] at hz1
            have n1 : ¬ (9223372036854775807 < p.length) := by unfold nlL at hz1; rw [List.length_append] at hz1; omega
            have n2 : ¬ (9223372036854775807 < p.length + 1) := by unfold nlL at hz1; rw [List.length_append] at hz1; simp at hz1; omega
            have hps := str_size p
            clear e1 hsc hz1 HSc
            have e0 : str (bareN L 0) = ⟨#[]⟩ := rfl
            rw [e0]
            have e2 : (⟨#[]⟩ : ByteArray) ++ str p ++ ⟨#[10]⟩ = str (bareN L (0 + 1)) := by rw [HE1.out]; exact cat_line [] p
            go_wp2_with fail
            exact ⟨⟨1, by omega, rfl, by first | rfl | rw [e2], by first | rfl | trivial⟩, by simp [intOf]; omega⟩
          · have hz : ((j : Int) == 0) = false := by rw [beq_eq_false_iff_ne]; omega
            have hSkip : Hid (skipL p = true → bareN L (j + 1) = bareN L j) := Lib.hid fun h => by rw [HSc.out, if_neg (by rw [h]; simp; exact h0)]; simp
            have hKeep : Hid (skipL p = false → bareN L (j + 1) = bareN L j ++ nlL p) := Lib.hid fun h => by rw [HSc.out, if_pos (.inr h)]
            cases p with
            | nil =>
              have he : (str []).toList.isEmpty = true := by rw [str_empty]; rfl
              have e1 := hSkip.out rfl
              clear hSkip hKeep HSc hsc hz1
              go_wp2_with fail
              exact ⟨⟨j + 1, by omega, by go_num, by rw [e1], by first | rfl | trivial⟩, by simp [intOf]; omega⟩
            | cons a q =>
              have he : (str (a :: q)).toList.isEmpty = false := by rw [str_empty]; rfl
              obtain ⟨S0, hS0⟩ : ∃ S0, S0 = str (a :: q) := ⟨_, rfl⟩
              have hsz : 0 < S0.size := by rw [hS0, str_size]; simp
              have hsz2 : (0 : Int) < (S0.size : Int) := by omega
              have hb : S0[0] = a := by subst hS0; rfl
              rw [← hS0] at hx he
              have HS0 := Lib.hid hS0
              by_cases h33 : a = 33
              · have hb2 : ((S0[0].toNat : Int) == 33) = true := by rw [hb, h33]; rfl
                have e1 := hSkip.out (by unfold skipL; simp [h33])
                clear hSkip hKeep HSc hsc hz1 hS0 hb
                go_wp2_with fail
                exact ⟨⟨j + 1, by omega, by go_num, by rw [e1], by first | rfl | trivial⟩, by simp [intOf]; omega⟩
              · have hb2 : ((S0[0].toNat : Int) == 33) = false := by
                  rw [beq_eq_false_iff_ne, hb]
                  intro h
                  exact h33 ((u8_lit (d := 33) (by decide)).2 (by omega))
                have e1 := hKeep.out (by unfold skipL; simp [h33])
                have e2 : str (bareN L j) ++ S0 ++ ⟨#[10]⟩ = str (bareN L (j + 1)) := by rw [e1, HS0.out]; exact cat_line _ _
                have HE2 := Lib.hid e2
                rw [e1] at hz1
                have hss : S0.size = (a :: q).length := by rw [HS0.out, str_size]
                have hyy : (str (bareN L j)).size = (bareN L j).length := str_size _
                have n1 : ¬ (9223372036854775807 < (bareN L j).length + S0.size) := by unfold nlL at hz1; rw [List.length_append, List.length_append] at hz1; omega
                have n2 : ¬ (9223372036854775807 < (bareN L j).length + S0.size + 1) := by unfold nlL at hz1; rw [List.length_append, List.length_append, List.length_singleton] at hz1; omega
                clear hSkip hKeep HSc hsc hz1 hS0 hb e1 e2 hss
                generalize str (bareN L j) = y at *
                generalize (bareN L j).length = yl at *
                go_wp2_with fail
                exact ⟨⟨j + 1, by omega, by go_num, by rw [HE2.out], by first | rfl | trivial⟩, by simp [intOf]; omega⟩
        · obtain rfl : j = L.length - 1 := by omega
          have i1 : decide (((L.length - 1 : Nat) : Int) < (L.length : Int) - 1) = false := decide_eq_false (by omega)
          have i1' : ¬ (((L.length - 1 : Nat) : Int) < (L.length : Int) - 1) := by omega
          have hTx := ptext_any b2 (.slice A3 b2.ents.length c3) wr (HBi.out.below HB5.out) (HMx.out _ (HB4.out.trans (HB5.out.mono HB4.out.size)))
          have hTT : TextTold b2 = .tuple #[.string (linesS b2), .nilIface] := if_pos ((right_iff b2).2 HIs.out.right)
          rw [hTT] at hTx
          have HTx := Lib.hid hTx
          rw [HFin.out]
          have hEq : ((linesS b2).toList == (str (linesL b2)).toList) = true := by unfold linesS; simp
          have k0 := (N5.out.cell 0).trans (show _ = some (.string b2.tag) from rfl)
          have k1 := (N5.out.cell 1).trans (show _ = some (.slice A3 b2.ents.length c3) from rfl)
          clear hTx hTT HLn HSm HFin HBi
          generalize ((L.length - 1 : Nat) : Int) = jj at *
          go_wp2_with fail
          refine HTx.out.mono ?_
          clear HTx
          rintro e w6 ⟨rfl, hb6⟩
          have HB6 := Lib.hid (HB5.out.trans (hb6.mono HB5.out.size))
          clear hb6 k0 k1
          go_wp2_with fail
          go_meet
          case rel => exact HB6.out
  case rest =>
    have hbc := hcut
    have M5 := Lib.hid (M4.out.below hbc M4.out.lt)
    have HB5 := Lib.hid (HB4.out.trans (hbc.mono HB4.out.size))
    have k0 := (M5.out.cell 0).trans (show _ = some (.string b.tag) from rfl)
    have k1 := (M5.out.cell 1).trans (show _ = some (.slice A b.ents.length c) from rfl)
    have HTx := Lib.hid (ptext_any b (.slice A b.ents.length c) wc (HIn.out _ HB5.out) (HMx.out _ HB5.out))
    clear hcut hbc M4 HB4 HG HQ HY N4
    go_wp2_with fail
    refine HTx.out.mono ?_
    clear HTx
    rintro e w6 ⟨rfl, hb6⟩
    have M6 := Lib.hid (M5.out.below hb6 M5.out.lt)
    have HB6 := Lib.hid (HB5.out.trans (hb6.mono HB5.out.size))
    clear hb6 k0 k1 M5 HB5
    by_cases hf : bunFault b = 0
    · have hR : Right b := (right_iff b).1 hf
      have hTT : TextTold b = .tuple #[.string (linesS b), .nilIface] := if_pos hf
      have HPo := Lib.hid (parse_own hR w6 (HMx.out _ HB6.out))
      have hn100 := hR.len
      rw [hTT]
      clear hR hTT hf
      go_wp2_with fail
      refine HPo.out.mono ?_
      clear HPo
      rintro e w7 ⟨hb7, v7, rfl, ho7⟩
      obtain ⟨A7, c7, rfl, _⟩ := own_slice ho7
      obtain ⟨W8, hW8⟩ : ∃ W8, W8 = w7.alloc (.cells #[.string b.tag, .slice A7 b.ents.length c7] 24) := ⟨_, rfl⟩
      have hb78 : Below w7.heap.size w7 W8 := by rw [hW8]; exact (Below.refl _ _).alloc (Nat.le_refl _) _
      have n8 : Blk W8 w7.heap.size 24 #[.string b.tag, .slice A7 b.ents.length c7] := by rw [hW8]; exact Blk.new _ _ _
      have hb68 : Below w6.heap.size w6 W8 := hb7.trans (hb78.mono hb7.size)
      have m8 := M6.out.below hb68 M6.out.lt
      have HB8 := Lib.hid (HB6.out.trans (hb68.mono HB6.out.size))
      have hl8 : ListOk Enc.ent W8 0 w7.heap.size (.slice A7 b.ents.length c7) b.ents := ((ents_of_own ho7 (Nat.le_refl _) (Nat.le_refl _)).below Enc.ent_laws hb78).mono Enc.ent_laws (Nat.zero_le _) (Nat.le_refl _)
      have HSb := Lib.hid (sbunS_any b.tag b.ents (.slice A7 b.ents.length c7) (.slice A b.ents.length c) 0 w7.heap.size lo w.heap.size W8 hl8 (HLb.out W8 HB8.out) hb78.size HB8.out.size (by omega))
      have j0 := (n8.cell 0).trans (show _ = some (.string b.tag) from rfl)
      have j1 := (n8.cell 1).trans (show _ = some (.slice A7 b.ents.length c7) from rfl)
      have k0 := (m8.cell 0).trans (show _ = some (.string b.tag) from rfl)
      have k1 := (m8.cell 1).trans (show _ = some (.slice A b.ents.length c) from rfl)
      have HW8 := Lib.hid hW8
      clear hb7 ho7 hb78 n8 hb68 m8 hl8 M6 hW8
      go_upto_region 20 with fail
      rw [← HW8.out]
      clear HW8
      go_wp2_with fail
      refine HSb.out.mono ?_
      clear HSb
      rintro e w9 ⟨rfl, hb9⟩
      have HB9 := Lib.hid (HB8.out.trans (hb9.mono HB8.out.size))
      clear hb9 j0 j1 k0 k1
      go_wp2_with fail
      go_ret
      exact ⟨rfl, HB9.out⟩
    · have hTT : TextTold b = .tuple #[.string ⟨#[]⟩, errV (bunFault b)] := if_neg hf
      rw [hTT, errV_ne hf]
      clear hTT
      go_wp2_with fail
      go_ret
      exact ⟨rfl, HB6.out⟩
end Go.Proofs.YtoneheloojlifaaGreatDoor
