/- The walk of linguisterlaw4.DiffThere. -/
import Derived.Test.YtiaobgapfoogiaaGreatDoorDiffers
import Derived.Test.YtiaobgapfoogiaaGreatDoorRefG
import Derived.Laws.StructEq
namespace Go.Proofs.YtiaobgapfoogiaaGreatDoor
open Go.RowKit Go.Maps

theorem less_of_ltK {a b : ByteArray} (h : ltK a b = true) : Op.bytesLess a.toList b.toList = true := by
  rw [ByteArray.toList_eq, ByteArray.toList_eq, bb_less]; exact h
theorem ents_own {w : World} {base : Nat} {v : Value} {l : List Ent} (h : w.ownsRow base 33 2 v l.length (flatE l)) : ListOk Enc.ent w base w.heap.size v l := ents_of_own h (Nat.le_refl _) (Nat.le_refl _)

set_option maxHeartbeats 40000000 in
set_option maxRecDepth 100000 in
theorem diffThere_any (a b : Bun) (u v : Value) (w : World) (ha : BunIn w a u) (hb : BunIn w b v) (hm : MaxVar w) :
    Calls Tryz.prog 3 #[.agg #[.string a.tag, u], .agg #[.string b.tag, v]] w fun e w' => e = .returned (.bool true) ∧ Below w.heap.size w w' := by
  have HA := Lib.hid ha
  have HB := Lib.hid hb
  have HDf : Hid (∀ W, Below w.heap.size w W → Calls Tryz.prog 7 #[] W fun e w' => e = .returned (.bool true) ∧ Below W.heap.size W w') := Lib.hid fun W hW => differs_any W (hm.below hW)
  have HOf : Hid (∀ W, Below w.heap.size w W → Calls Tryz.prog 8 #[.agg #[.string a.tag, u], .agg #[.string b.tag, v]] W (DiffRes a b W)) := Lib.hid fun W hW => diffOf_any a b u v W (ha.below hW) (hb.below hW) (hm.below hW)
  have HRi : Hid (bothFault a b = 0 → Right a ∧ Right b) := Lib.hid fun h => by
    unfold bothFault at h
    split at h
    · rename_i h1; exact ⟨(right_iff a).1 h1, (right_iff b).1 h⟩
    · rename_i h1; exact absurd h h1
  have hlena := ha.len
  have hlenb := hb.len
  obtain ⟨_, hla⟩ := ha.lo
  obtain ⟨_, hlb⟩ := hb.lo
  obtain ⟨A, c, rfl, hcA⟩ := hla.form
  obtain ⟨B, d, rfl, hcB⟩ := hlb.form
  obtain ⟨at_, al⟩ := a
  obtain ⟨bt, bl⟩ := b
  dsimp only at HA HB HOf hlena hlenb hcA hcB ⊢
  clear ha hb hla hlb hm
  go_enter Tryz.func3, Tryz.ntmps3
  go_wp2_with fail
  obtain ⟨W0, eW0⟩ : ∃ W0, W0 = (w.alloc (.cells #[.string at_, .slice A al.length c] 24)).alloc (.cells #[.string bt, .slice B bl.length d] 24) := ⟨_, rfl⟩
  have hb0 : Below w.heap.size w W0 := by rw [eW0]; exact ((Below.refl _ _).alloc (Nat.le_refl _) _).alloc (by simp) _
  have ma0 : Blk W0 w.heap.size 24 #[.string at_, .slice A al.length c] := by rw [eW0]; exact (Blk.new _ _ _).alloc _
  have mb0 : Blk W0 (w.heap.size + 1) 24 #[.string bt, .slice B bl.length d] := by
    rw [eW0]
    have := Blk.new (w.alloc (.cells #[.string at_, .slice A al.length c] 24)) 24 #[.string bt, .slice B bl.length d]
    rw [World.size_alloc] at this
    exact this
  rw [← eW0]
  clear eW0
  have HB0 := Lib.hid hb0
  have HMa := Lib.hid ma0
  have HMb := Lib.hid mb0
  clear hb0 ma0 mb0
  refine (HDf.out _ HB0.out).mono ?_
  clear HDf
  rintro e w1 ⟨rfl, hb1⟩
  have HB1 := Lib.hid (HB0.out.trans (hb1.mono HB0.out.size))
  have HMa1 := Lib.hid (HMa.out.below hb1 HMa.out.lt)
  have HMb1 := Lib.hid (HMb.out.below hb1 HMb.out.lt)
  have hs1 := HB1.out.size
  have k0 := HMa1.out.cell 0
  have k1 := HMa1.out.cell 1
  have k2 := HMb1.out.cell 0
  have k3 := HMb1.out.cell 1
  simp at k0 k1 k2 k3
  clear hb1 HMa HMb HB0
  go_wp2_with fail
  refine (HOf.out _ HB1.out).mono ?_
  clear HOf
  rintro e w2 ⟨hb2, ⟨hf, rfl⟩ | ⟨hf, V, L, rfl, hV, hL⟩⟩
  · have HB2 := Lib.hid (HB1.out.trans (hb2.mono hs1))
    have hs2 := HB2.out.size
    have HE := Lib.hid (errV_ne hf)
    rw [errV_ne hf]
    clear hf hb2 k0 k1 k2 k3
    go_wp2_with fail
    go_ret
    exact ⟨rfl, HB2.out.alloc hs2 _⟩
  · obtain ⟨hra, hrb⟩ := HRi.out hf
    have hua : Uniq al := hra.uniq
    have hub : Uniq bl := hrb.uniq
    have HUa := Lib.hid hua
    have HUb := Lib.hid hub
    have hal : al.length ≤ 100 := hra.len
    have hbl : bl.length ≤ 100 := hrb.len
    have hpl : (diffPut al bl).length ≤ 100 := Nat.le_trans (put_len hub) hbl
    have hgl : (diffGone al bl).length ≤ al.length := out_len hua
    have hcnt := gone_count (a := al) (b := bl) hua
    have HB2 := Lib.hid (HB1.out.trans (hb2.mono hs1))
    have hs2 := HB2.out.size
    have HMa2 := Lib.hid (HMa1.out.below hb2 HMa1.out.lt)
    have HMb2 := Lib.hid (HMb1.out.below hb2 HMb1.out.lt)
    have hlV := ents_own hV
    have hlL := strs_own hL
    obtain ⟨AV, cV, rfl, _⟩ := own_slice hV
    obtain ⟨AL, cL, rfl, _⟩ := own_slice hL
    dsimp only at hlV hlL ⊢
    obtain ⟨W3, eW3⟩ : ∃ W3, W3 = w2.alloc (.cells #[.string bt, .slice AV (diffPut al bl).length cV] 24) := ⟨_, rfl⟩
    have hb3 : Below w2.heap.size w2 W3 := by rw [eW3]; exact (Below.refl _ _).alloc (Nat.le_refl _) _
    have HV3 : Hid (∀ n, ListOk Enc.ent (W3.drewN n) w1.heap.size w2.heap.size (.slice AV (diffPut al bl).length cV) (diffPut al bl)) := Lib.hid fun n => hlV.below Enc.ent_laws (below_drewN hb3 n)
    have HL3 : Hid (ListOk Enc.str W3 w1.heap.size w2.heap.size (.slice AL (diffGone al bl).length cL) (diffGone al bl)) := Lib.hid (hlL.below Enc.str_laws hb3)
    have HB3 := Lib.hid (HB2.out.trans (hb3.mono hs2))
    have HA3 := Lib.hid (fun n => HA.out.below (below_drewN HB3.out n))
    have HBb3 := Lib.hid (fun n => HB.out.below (below_drewN HB3.out n))
    have m1 : W3.cell? ⟨w.heap.size, 1, none⟩ = some (.slice A al.length c) := ((HMa2.out.below hb3 HMa2.out.lt).cell 1).trans (by simp)
    have m2 : W3.cell? ⟨w.heap.size + 1, 1, none⟩ = some (.slice B bl.length d) := ((HMb2.out.below hb3 HMb2.out.lt).cell 1).trans (by simp)
    have m3 : W3.cell? ⟨w2.heap.size, 1, none⟩ = some (.slice AV (diffPut al bl).length cV) := by
      rw [eW3]; exact ((Blk.new w2 24 #[.string bt, .slice AV (diffPut al bl).length cV]).cell 1).trans (by simp)
    have HP3 : Hid (W3 = w2.alloc (.cells #[.string bt, .slice AV (diffPut al bl).length cV] 24)) := Lib.hid eW3
    clear hV hL hlV hlL hb2 hb3 hra hrb hua hub hf k0 k1 k2 k3 HRi
    go_upto_region 5 with fail
    rw [← HP3.out]
    clear HP3 eW3
    go_wp2_with fail
    go_loopw [9, 10, 11] (fun i _ _ wr => ∃ j : Nat, j ≤ (diffPut al bl).length ∧ i = .int .i64 j ∧ ∃ k, wr = W3.drewN k) (fun i _ _ _ => (diffPut al bl).length - (intOf i).toNat)
    case atStart => exact ⟨0, Nat.zero_le _, rfl, 0, rfl⟩
    case round =>
      obtain ⟨j, hj, rfl, n, rfl⟩ := hrel
      by_cases hlt : j < (diffPut al bl).length
      · obtain ⟨pb, po, rfl, _, _, x0, x1⟩ := (show ListOk Enc.ent W3 w1.heap.size w2.heap.size (.slice _ (diffPut al bl).length cV) (diffPut al bl) from HV3.out 0).entAt j hlt
        have hmem : (diffPut al bl)[j] ∈ diffPut al bl := List.getElem_mem hlt
        obtain ⟨⟨y, hy, hyi, hye⟩, hno⟩ := put_there HUa.out HUb.out hmem
        have HPrev : Hid (∀ i, j = i + 1 → W3.cell? ⟨pb, po + i * 2, none⟩ = some (.string ((diffPut al bl).getD i noEnt).key) ∧ Op.bytesLess ((diffPut al bl).getD i noEnt).key.toList (diffPut al bl)[j].key.toList = true) := Lib.hid fun i hi => by
          have hil : i < (diffPut al bl).length := by omega
          have hgd : (diffPut al bl).getD i noEnt = (diffPut al bl)[i] := by rw [List.getD_eq_getElem?_getD, List.getElem?_eq_getElem hil]; rfl
          obtain ⟨pb', po', he, _, _, z0, _⟩ := (show ListOk Enc.ent W3 w1.heap.size w2.heap.size (.slice _ (diffPut al bl).length cV) (diffPut al bl) from HV3.out 0).entAt i hil
          injection he with he
          injection he with h1 h2
          subst h1; subst h2
          rw [hgd]
          refine ⟨z0, less_of_ltK ?_⟩
          have := srt_next (put_srt al bl) (i := i) (by omega)
          have e : (diffPut al bl)[j] = (diffPut al bl)[i + 1] := by congr 1
          rw [e]; exact this
        obtain ⟨elb, hlbn⟩ := (show BunIn W3 ⟨bt, bl⟩ (.slice B bl.length d) from HBb3.out 0).lo
        obtain ⟨yb, yo, rfl, _, _, y0, y1⟩ := hlbn.entAt y hy
        rw [hye] at y0 y1
        have HEb : Hid (∀ k, Calls Tryz.prog 9 #[.slice (some ⟨yb, yo, none⟩) bl.length d, .string (diffPut al bl)[j].key] (W3.drewN k) fun e w' => e = .returned (.int .i64 y) ∧ W3.drewN k = w') := Lib.hid fun k => by
          obtain ⟨lk, hlk⟩ := (HBb3.out k).lo
          have h := entat_any _ _ (diffPut al bl)[j].key _ _ (W3.drewN k) hlk (by show bl.length ≤ _; omega)
          have h2 : idxI (entIdx bl (diffPut al bl)[j].key) = (y : Int) := by rw [hyi]; rfl
          rw [← h2]; exact h
        have HEa : Hid (∀ k, Calls Tryz.prog 9 #[.slice A al.length c, .string (diffPut al bl)[j].key] (W3.drewN k) fun e w' => e = .returned (.int .i64 (idxI (entIdx al (diffPut al bl)[j].key))) ∧ W3.drewN k = w') := Lib.hid fun k => by
          obtain ⟨lk, hlk⟩ := (HA3.out k).lo
          exact entat_any _ _ (diffPut al bl)[j].key _ _ (W3.drewN k) hlk (by show al.length ≤ _; omega)
        have HAe : Hid (∀ x, entIdx al (diffPut al bl)[j].key = some x → ∃ xb xo, A = some ⟨xb, xo, none⟩ ∧ x < al.length ∧ ∃ tx, W3.cell? ⟨xb, xo + x * 2, none⟩ = some (.string (diffPut al bl)[j].key) ∧ W3.cell? ⟨xb, xo + x * 2 + 1, none⟩ = some (.string tx) ∧ tx ≠ (diffPut al bl)[j].text) := Lib.hid fun x hx => by
          obtain ⟨hxl, hxk⟩ := entIdx_key hx
          obtain ⟨lk, hlk⟩ := (show BunIn W3 ⟨at_, al⟩ (.slice A al.length c) from HA3.out 0).lo
          obtain ⟨xb, xo, hA, _, _, q0, q1⟩ := hlk.entAt x hxl
          exact ⟨xb, xo, hA, hxl, al[x].text, by rw [← hxk]; exact q0, q1, hno x hxl hx⟩
        clear hye hyi hno hlbn hmem
        generalize (diffPut al bl)[j] = e at *
        obtain ⟨ky, tx⟩ := e
        dsimp only at x0 x1 y0 y1 HPrev HEb HEa HAe
        have i1 : (0 : Int) ≤ (j : Int) := Int.natCast_nonneg j
        have i2 : (j : Int) < ((diffPut al bl).length : Int) := by omega
        have i3 : (0 : Int) ≤ (y : Int) := Int.natCast_nonneg y
        have i4 : (y : Int) < (bl.length : Int) := by omega
        have hk1 : (ky.toList == ky.toList) = true := by simp
        have ht1 : (tx.toList == tx.toList) = true := by simp
        have hy0 : decide ((y : Int) < 0) = false := decide_eq_false (by omega)
        cases hix : entIdx al ky with
        | none =>
          rw [hix, idxI_none] at HEa
          clear HAe hix
          rcases j with _ | j
          · simp only [Nat.zero_mul, Nat.add_zero] at x0 x1
            simp only [Int.natCast_zero] at i1 i2 ⊢
            go_wp2_with fail
            go_quiet ((go_at_call 9; first | exact quiet_left (HEa.out _) | exact quiet_add_left (HEa.out _)))
            go_wp2_with fail
            go_quiet ((go_at_call 9; first | exact quiet_left (HEb.out _) | exact quiet_add_left (HEb.out _)))
            go_wp2_with fail
            clear HEa HEb HPrev
            go_quiet (fail)
            go_wp2_with fail
            go_roundw
            case rel => exact ⟨0 + 1, by omega, by go_num, _, by first | rfl | (rw [World.drewN_drewN]) | (rw [World.drewN_drewN, World.drewN_drewN])⟩
            case measure => simp [intOf]; omega
          · obtain ⟨p0, p1⟩ := HPrev.out j rfl
            have hwk : IntKind.i64.wrap (j : Int) = j := by rw [IntKind.wrap_i64]; omega
            have i7 : (0 : Int) ≤ (j : Int) := Int.natCast_nonneg j
            have i8 : (j : Int) < ((diffPut al bl).length : Int) := by omega
            have i9 : (0 : Int) < (j : Int) + 1 := by omega
            have hj0 : decide ((0 : Int) < (j : Int) + 1) = true := decide_eq_true i9
            have i10 : (0 : Int) ≤ (j : Int) + 1 := by omega
            have i11 : (j : Int) + 1 < ((diffPut al bl).length : Int) := by omega
            generalize ((diffPut al bl).getD j noEnt).key = kp at *
            go_wp2_with fail
            go_quiet ((go_at_call 9; first | exact quiet_left (HEa.out _) | exact quiet_add_left (HEa.out _)))
            go_wp2_with fail
            go_quiet ((go_at_call 9; first | exact quiet_left (HEb.out _) | exact quiet_add_left (HEb.out _)))
            go_wp2_with fail
            clear HEa HEb HPrev
            go_quiet (fail)
            go_wp2_with fail
            go_roundw
            case rel => exact ⟨j + 1 + 1, by omega, by go_num, _, by first | rfl | (rw [World.drewN_drewN]) | (rw [World.drewN_drewN, World.drewN_drewN])⟩
            case measure => simp [intOf]; omega
        | some x =>
          rw [hix, idxI_some] at HEa
          obtain ⟨xb, xo, rfl, hxl, ta, q0, q1, hta⟩ := HAe.out x hix
          have i5 : (0 : Int) ≤ (x : Int) := Int.natCast_nonneg x
          have i6 : (x : Int) < (al.length : Int) := by omega
          have hx0 : decide ((0 : Int) ≤ (x : Int)) = true := decide_eq_true i5
          have htf : (ta.toList == tx.toList) = false := (eqs_false _ _).2 hta
          clear HAe hix hta
          rcases j with _ | j
          · simp only [Nat.zero_mul, Nat.add_zero] at x0 x1
            simp only [Int.natCast_zero] at i1 i2 ⊢
            go_wp2_with fail
            go_quiet ((go_at_call 9; first | exact quiet_left (HEa.out _) | exact quiet_add_left (HEa.out _)))
            go_wp2_with fail
            go_quiet ((go_at_call 9; first | exact quiet_left (HEb.out _) | exact quiet_add_left (HEb.out _)))
            go_wp2_with fail
            clear HEa HEb HPrev
            go_quiet (fail)
            go_wp2_with fail
            go_roundw
            case rel => exact ⟨0 + 1, by omega, by go_num, _, by first | rfl | (rw [World.drewN_drewN]) | (rw [World.drewN_drewN, World.drewN_drewN])⟩
            case measure => simp [intOf]; omega
          · obtain ⟨p0, p1⟩ := HPrev.out j rfl
            have hwk : IntKind.i64.wrap (j : Int) = j := by rw [IntKind.wrap_i64]; omega
            have i7 : (0 : Int) ≤ (j : Int) := Int.natCast_nonneg j
            have i8 : (j : Int) < ((diffPut al bl).length : Int) := by omega
            have i9 : (0 : Int) < (j : Int) + 1 := by omega
            have hj0 : decide ((0 : Int) < (j : Int) + 1) = true := decide_eq_true i9
            have i10 : (0 : Int) ≤ (j : Int) + 1 := by omega
            have i11 : (j : Int) + 1 < ((diffPut al bl).length : Int) := by omega
            generalize ((diffPut al bl).getD j noEnt).key = kp at *
            go_wp2_with fail
            go_quiet ((go_at_call 9; first | exact quiet_left (HEa.out _) | exact quiet_add_left (HEa.out _)))
            go_wp2_with fail
            go_quiet ((go_at_call 9; first | exact quiet_left (HEb.out _) | exact quiet_add_left (HEb.out _)))
            go_wp2_with fail
            clear HEa HEb HPrev
            go_quiet (fail)
            go_wp2_with fail
            go_roundw
            case rel => exact ⟨j + 1 + 1, by omega, by go_num, _, by first | rfl | (rw [World.drewN_drewN]) | (rw [World.drewN_drewN, World.drewN_drewN])⟩
            case measure => simp [intOf]; omega
      · obtain rfl : j = (diffPut al bl).length := by omega
        clear HV3
        go_wp2_with fail
        go_loopw [12] (fun i wr => ∃ j : Nat, j ≤ (diffGone al bl).length ∧ i = .int .i64 j ∧ ∃ k, wr = W3.drewN k) (fun i _ => (diffGone al bl).length - (intOf i).toNat)
        case atStart => exact ⟨0, Nat.zero_le _, rfl, n, rfl⟩
        case round =>
          obtain ⟨j, hj, rfl, n2, rfl⟩ := hrel
          by_cases hlt2 : j < (diffGone al bl).length
          · obtain ⟨pb, po, rfl, _, _, x0⟩ := HL3.out.strAt j hlt2
            have hmem : (diffGone al bl)[j] ∈ diffGone al bl := List.getElem_mem hlt2
            obtain ⟨⟨x, hx⟩, hno⟩ := gone_there HUa.out hmem
            have HPrev : Hid (∀ i, j = i + 1 → W3.cell? ⟨pb, po + i, none⟩ = some (.string ((diffGone al bl).getD i ByteArray.empty)) ∧ Op.bytesLess ((diffGone al bl).getD i ByteArray.empty).toList (diffGone al bl)[j].toList = true) := Lib.hid fun i hi => by
              have hil : i < (diffGone al bl).length := by omega
              have hgd : (diffGone al bl).getD i ByteArray.empty = (diffGone al bl)[i] := by rw [List.getD_eq_getElem?_getD, List.getElem?_eq_getElem hil]; rfl
              obtain ⟨pb', po', he, _, _, z0⟩ := HL3.out.strAt i hil
              injection he with he
              injection he with h1 h2
              subst h1; subst h2
              rw [hgd]
              refine ⟨z0, less_of_ltK ?_⟩
              have := gone_next (a := al) (b := bl) (i := i) (by omega)
              have e : (diffGone al bl)[j] = (diffGone al bl)[i + 1] := by congr 1
              rw [e]; exact this
            have HEb : Hid (∀ k, Calls Tryz.prog 9 #[.slice B bl.length d, .string (diffGone al bl)[j]] (W3.drewN k) fun e w' => e = .returned (.int .i64 (-1)) ∧ W3.drewN k = w') := Lib.hid fun k => by
              obtain ⟨lk, hlk⟩ := (HBb3.out k).lo
              have h := entat_any _ _ (diffGone al bl)[j] _ _ (W3.drewN k) hlk (by show bl.length ≤ _; omega)
              have h2 : idxI (entIdx bl (diffGone al bl)[j]) = -1 := by rw [hno]; rfl
              rw [← h2]; exact h
            have HEa : Hid (∀ k, Calls Tryz.prog 9 #[.slice A al.length c, .string (diffGone al bl)[j]] (W3.drewN k) fun e w' => e = .returned (.int .i64 x) ∧ W3.drewN k = w') := Lib.hid fun k => by
              obtain ⟨lk, hlk⟩ := (HA3.out k).lo
              have h := entat_any _ _ (diffGone al bl)[j] _ _ (W3.drewN k) hlk (by show al.length ≤ _; omega)
              have h2 : idxI (entIdx al (diffGone al bl)[j]) = (x : Int) := by rw [hx]; rfl
              rw [← h2]; exact h
            clear hx hno hmem
            generalize (diffGone al bl)[j] = ky at *
            have i1 : (0 : Int) ≤ (j : Int) := Int.natCast_nonneg j
            have i2 : (j : Int) < ((diffGone al bl).length : Int) := by omega
            have hx0 : decide ((x : Int) < 0) = false := decide_eq_false (by omega)
            rcases j with _ | j
            · simp only [Nat.add_zero] at x0
              simp only [Int.natCast_zero] at i1 i2 ⊢
              clear HPrev
              go_wp2_with fail
              go_quiet ((go_at_call 9; first | (with_reducible exact quiet_add_left (HEa.out _)) | (with_reducible exact quiet_left (HEa.out _)) | (with_reducible exact quiet_add_left (HEb.out _)) | (with_reducible exact quiet_left (HEb.out _))))
              go_wp2_with fail
              go_roundw
              case rel => exact ⟨0 + 1, by omega, by go_num, _, by first | rfl | (rw [World.drewN_drewN])⟩
              case measure => simp [intOf]; omega
            · obtain ⟨p0, p1⟩ := HPrev.out j rfl
              have hwk : IntKind.i64.wrap (j : Int) = j := by rw [IntKind.wrap_i64]; omega
              have i7 : (0 : Int) ≤ (j : Int) := Int.natCast_nonneg j
              have i8 : (j : Int) < ((diffGone al bl).length : Int) := by omega
              have i9 : (0 : Int) < (j : Int) + 1 := by omega
              have hj0 : decide ((0 : Int) < (j : Int) + 1) = true := decide_eq_true i9
              have i10 : (0 : Int) ≤ (j : Int) + 1 := by omega
              have i11 : (j : Int) + 1 < ((diffGone al bl).length : Int) := by omega
              generalize (diffGone al bl).getD j ByteArray.empty = kp at *
              clear HPrev
              go_wp2_with fail
              go_quiet ((go_at_call 9; first | (with_reducible exact quiet_add_left (HEa.out _)) | (with_reducible exact quiet_left (HEa.out _)) | (with_reducible exact quiet_add_left (HEb.out _)) | (with_reducible exact quiet_left (HEb.out _))))
              go_wp2_with fail
              go_roundw
              case rel => exact ⟨j + 1 + 1, by omega, by go_num, _, by first | rfl | (rw [World.drewN_drewN])⟩
              case measure => simp [intOf]; omega
          · obtain rfl : j = (diffGone al bl).length := by omega
            have hI : (al.length : Int) - ((diffGone al bl).length : Int) ≤ (bl.length : Int) := by omega
            have hI2 : (0 : Int) ≤ (al.length : Int) - ((diffGone al bl).length : Int) := by omega
            go_wp2_with fail
            go_ret
            exact ⟨by simp [hI], below_drewN HB3.out _⟩
end Go.Proofs.YtiaobgapfoogiaaGreatDoor
