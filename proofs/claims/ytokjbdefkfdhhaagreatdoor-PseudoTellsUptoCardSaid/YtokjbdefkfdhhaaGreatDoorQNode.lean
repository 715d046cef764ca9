/- linguisterref2.NodeFault: the walk. -/
import Derived.Test.YtokjbdefkfdhhaaGreatDoorQLarge
import Derived.Test.YtokjbdefkfdhhaaGreatDoorMsgG
import Derived.StillTailTactics
namespace Go.Proofs.YtokjbdefkfdhhaaGreatDoor
open Go.RowKit

def c5 (k : Int) (mark : Bool) : Bool := (decide (k < 1) || decide (6 < k)) || (k == 6 && !mark)
def c7 (k : Int) (t : ByteArray) (last : Option Int) : Bool := k == 1 && (t.toList.isEmpty || (match last with | none => false | some l => l == 1))
def c9 (k : Int) (t : ByteArray) : Bool := (!(k == 1) && !(k == 6)) && !nameR t
def c11 (k o : Int) : Bool := k == 4 && (decide (o < 0) || decide (9 < o))
theorem fineM_c (k : Int) (t : ByteArray) (last : Option Int) (mark : Bool) : fineM k t last mark = !(c5 k mark || c7 k t last || c9 k t) := by
  unfold fineM c5 c7 c9
  by_cases h1 : k = 1
  · subst h1
    rw [if_pos rfl]
    cases t.toList.isEmpty <;> cases mark <;> (rcases last with _ | l) <;> simp <;> rfl
  · rw [if_neg h1]
    by_cases h : k = 2 ∨ k = 3 ∨ k = 4 ∨ k = 5
    · rw [if_pos h]
      rcases h with rfl | rfl | rfl | rfl <;> cases nameR t <;> simp
    · rw [if_neg h]
      by_cases h6 : k = 6
      · subst h6
        cases mark <;> simp
      · have e1 : (k == 6) = false := by rw [beq_eq_false_iff_ne]; exact h6
        have e2 : (decide (k < 1) || decide (6 < k)) = true := by simp; omega
        rw [e1, e2]; simp
theorem c11_iff (k o : Int) : c11 k o = true ↔ k = 4 ∧ (o < 0 ∨ 9 < o) := by unfold c11; simp
theorem lastK_none {β : Type} (m : List (NdF β)) : lastK (m.take 0) = none := rfl
set_option maxHeartbeats 12800000 in
set_option maxRecDepth 100000 in
theorem nodeFault_walk {β : Type} {E : Enc β} (hE : E.Laws) (chk : List β → Bool → Int) (m : List (NdF β)) (v : Value) (mark : Bool) (lo : Nat) (w : World) (hv : ListOk (Enc.nodeF E) w lo w.heap.size v m) (hl : m.length ≤ 10000000)
    (hsm : Hid (∀ x ∈ m, x.text.size ≤ 1000000000 ∧ x.cases.length ≤ 10000000 ∧ ∀ c ∈ x.cases, c.1.size ≤ 1000000000))
    (IH : Hid (∀ x ∈ m, ∀ c ∈ x.cases, ∀ mk W U, Below w.heap.size w W → ListOk E W lo W.heap.size U c.2 → Calls Tryz.prog 19 #[U, .bool mk] W fun e w' => e = .returned (.int .i64 (chk c.2 mk)) ∧ Below W.heap.size W w')) :
    Calls Tryz.prog 19 #[v, .bool mark] w fun e w' => e = .returned (.int .i64 (checkM chk mark none m)) ∧ Below w.heap.size w w' := by
  obtain ⟨A, c, rfl, hcap⟩ := hv.form
  have HV : Hid (∀ W, Below w.heap.size w W → ListOk (Enc.nodeF E) W lo w.heap.size (.slice A m.length c) m) := Lib.hid fun W hW => hv.below (Enc.nodeF_laws hE) hW
  clear hv
  go_enter Tryz.func19, Tryz.ntmps19
  go_wp2_with fail
  go_loopw [5] (fun i wr => ∃ j : Nat, j ≤ m.length ∧ i = .int .i64 (j : Int) ∧ Hid (checkM chk mark none m = checkM chk mark (lastK (m.take j)) (m.drop j)) ∧ Below w.heap.size w wr) (fun i _ => m.length - (intOf i).toNat)
  case atStart => exact ⟨0, Nat.zero_le _, rfl, Lib.hid rfl, Below.refl _ _⟩
  case round =>
    obtain ⟨j, hj, rfl, HNo, hb⟩ := hrel
    obtain ⟨wo, rfl⟩ : ∃ wo : World, wo = wr := ⟨_, rfl⟩
    have HB := Lib.hid hb
    have hbs := hb.size
    by_cases hlt : j < m.length
    · have i1 : (0 : Int) ≤ (j : Int) := Int.natCast_nonneg j
      have i2 : (j : Int) < (m.length : Int) := by omega
      have hmem : m[j] ∈ m := List.getElem_mem hlt
      have HLs := Lib.hid (lastK_succ hlt)
      have HAt : Hid (checkM chk mark none m = if fineM m[j].kind m[j].text (lastK (m.take j)) mark = false then 3 else if m[j].kind = 4 ∧ (m[j].off < 0 ∨ 9 < m[j].off) then 1 else if hasCases m[j].kind = true ∧ casesM chk m[j].kind mark m[j].cases [] ≠ 0 then casesM chk m[j].kind mark m[j].cases [] else checkM chk mark (some m[j].kind) (m.drop (j + 1))) := Lib.hid (by rw [HNo.out, checkM_at chk hlt])
      obtain ⟨b0, o0, V, rfl, _, _, x0, x1, x2, x3, hV⟩ := (HV.out _ hb).nodeAt j hlt
      obtain ⟨VA, Vc, rfl, _⟩ := hV.form
      have hsj := hsm.out _ hmem
      have HVc : Hid (∀ W, Below w.heap.size w W → ListOk (Enc.cas E) W lo w.heap.size (.slice VA m[j].cases.length Vc) m[j].cases) := Lib.hid fun W hW => hV.keep (Enc.cas_laws hE) fun p h1 h2 => (hW.cell h2).trans (HB.out.cell h2).symm
      have HI : Hid (∀ c ∈ m[j].cases, ∀ mk W U, Below w.heap.size w W → ListOk E W lo W.heap.size U c.2 → Calls Tryz.prog 19 #[U, .bool mk] W fun e w' => e = .returned (.int .i64 (chk c.2 mk)) ∧ Below W.heap.size W w') := Lib.hid (IH.out _ hmem)
      have HP : Hid (∀ W, Below w.heap.size w W → 0 < j → ∃ pk, lastK (m.take j) = some pk ∧ W.cell? ⟨b0, o0 + (j - 1) * 4, none⟩ = some (.int .i64 pk)) := Lib.hid fun W hW h0 => by
        have hl1 : j - 1 < m.length := by omega
        obtain ⟨b1, o1, V1, e1, _, _, y0, _⟩ := (HV.out W hW).nodeAt (j - 1) hl1
        injection e1 with e1
        injection e1 with e2 e3
        subst e2; subst e3
        refine ⟨_, ?_, y0⟩
        have := lastK_succ hl1
        rwa [show j - 1 + 1 = j from by omega] at this
      clear hV hmem HNo hb
      have HL0 : Hid (j = 0 → lastK (m.take j) = none) := Lib.hid fun h => by subst h; rfl
      generalize lastK (m.take j) = last at *
      generalize m[j] = x at *
      obtain ⟨y0, y1, y2, y3⟩ := x
      dsimp only at x0 x1 x2 x3 HAt HLs HVc HI hsj
      obtain ⟨hs1, hs2, hs3⟩ := hsj
      have HKs := Lib.hid hs3
      rw [fineM_c] at HAt
      obtain ⟨W2, eW2⟩ : ∃ W2, W2 = wo.alloc (.cells #[.int .i64 y0, .string y1, .int .i64 y2, .slice VA y3.length Vc] 30) := ⟨_, rfl⟩
      have hb2 : Below wo.heap.size wo W2 := by rw [eW2]; exact (Below.refl _ _).alloc (Nat.le_refl _) _
      have M2 : Hid (Blk W2 wo.heap.size 30 #[.int .i64 y0, .string y1, .int .i64 y2, .slice VA y3.length Vc]) := Lib.hid (by rw [eW2]; exact Blk.new _ _ _)
      have a0 : W2.cell? ⟨wo.heap.size, 0, none⟩ = some (.int .i64 y0) := (M2.out.cell 0).trans rfl
      have a1 : W2.cell? ⟨wo.heap.size, 1, none⟩ = some (.string y1) := (M2.out.cell 1).trans rfl
      have a2 : W2.cell? ⟨wo.heap.size, 2, none⟩ = some (.int .i64 y2) := (M2.out.cell 2).trans rfl
      have a3 : W2.cell? ⟨wo.heap.size, 3, none⟩ = some (.slice VA y3.length Vc) := (M2.out.cell 3).trans rfl
      have HB2 := Lib.hid (HB.out.trans (hb2.mono hbs))
      have HZ2 : Hid (W2.heap.size = wo.heap.size + 1) := Lib.hid (by rw [eW2]; simp)
      have HN := Lib.hid (qname_any y1 W2 hs1)
      have HW2 := Lib.hid eW2
      clear eW2 hb2 hs3
      clear IH HV
      go_upto_region 5 with fail
      rw [← HW2.out]
      clear HW2
      go_cut [36] from 20 to 35 (fun b wx => b = .bool (c5 y0 mark) ∧ wx = W2)
      case first =>
        clear HAt HLs HVc HI HN HKs HP HL0 x0 x1 x2 x3
        by_cases q1 : y0 < 1
        · have HE : Hid (c5 y0 mark = true) := Lib.hid (by unfold c5; rw [decide_eq_true q1]; rfl)
          go_wp2_with fail
          go_meet
          case rel => exact ⟨by rw [HE.out], rfl⟩
        · by_cases q2 : 6 < y0
          · have HE : Hid (c5 y0 mark = true) := Lib.hid (by unfold c5; rw [decide_eq_true q2, Bool.or_true]; rfl)
            go_wp2_with fail
            go_meet
            case rel => exact ⟨by rw [HE.out], rfl⟩
          · by_cases q3 : y0 = 6
            · have q4 : (y0 == 6) = true := by rw [q3]; rfl
              have HE : Hid (c5 y0 mark = !mark) := Lib.hid (by unfold c5; rw [decide_eq_false q1, decide_eq_false q2, q4]; rfl)
              clear q3
              go_wp2_with fail
              go_meet
              case rel => exact ⟨by rw [HE.out], rfl⟩
            · have q4 : (y0 == 6) = false := by rw [beq_eq_false_iff_ne]; exact q3
              have HE : Hid (c5 y0 mark = false) := Lib.hid (by unfold c5; rw [decide_eq_false q1, decide_eq_false q2, q4]; rfl)
              go_wp2_with fail
              go_meet
              case rel => exact ⟨by rw [HE.out], rfl⟩
      case rest =>
        obtain ⟨rfl, rfl⟩ := hcut
        cases hc5 : c5 y0 mark with
        | true =>
          have HE : Hid (checkM chk mark none m = 3) := Lib.hid (by rw [HAt.out, hc5, if_pos (by simp)])
          clear HAt HLs HVc HI HN HKs HP HL0 x0 x1 x2 x3 hc5
          go_wp2_with fail
          go_ret
          exact ⟨by rw [HE.out]; rfl, HB2.out⟩
        | false =>
          rw [hc5] at HAt
          clear hc5
          go_upto_region 7 with fail
          go_cut [57] from 37 to 56 (fun b wx => b = .bool (c7 y0 y1 last) ∧ wx = wc)
          case first =>
            clear HAt HLs HVc HI HN HKs x1 x2 x3
            by_cases q1 : y0 = 1
            · have q2 : (y0 == 1) = true := by rw [q1]; rfl
              clear q1
              obtain ⟨T, hT⟩ : ∃ T, y1.toList.isEmpty = T := ⟨_, rfl⟩
              cases T with
              | true =>
                have HE : Hid (c7 y0 y1 last = true) := Lib.hid (by unfold c7; rw [q2, hT]; rfl)
                clear HP
                go_wp2_with fail
                go_meet
                case rel => exact ⟨by rw [HE.out], rfl⟩
              | false =>
                by_cases h0 : j = 0
                · have q3 : ¬ (0 < (j : Int)) := by omega
                  have hl0 := HL0.out h0
                  have HE : Hid (c7 y0 y1 last = false) := Lib.hid (by unfold c7; rw [q2, hT, hl0]; rfl)
                  clear HP hl0 h0
                  go_wp2_with fail
                  go_meet
                  case rel => exact ⟨by rw [HE.out], rfl⟩
                · obtain ⟨p, hp⟩ : ∃ p, j = p + 1 := ⟨j - 1, by omega⟩
                  obtain ⟨pk, hl1, hpc⟩ := HP.out wc HB2.out (by omega)
                  rw [show j - 1 = p from by omega] at hpc
                  have HE : Hid (c7 y0 y1 last = (pk == 1)) := Lib.hid (by unfold c7; rw [q2, hT, hl1]; rfl)
                  have q3 : 0 < (j : Int) := by omega
                  have hsub : (j : Int) - 1 = (p : Int) := by omega
                  have i3 : (0 : Int) ≤ (p : Int) := Int.natCast_nonneg p
                  have i4 : (p : Int) < (m.length : Int) := by omega
                  have hw : wrap64 ((j : Int) - 1) = (p : Int) := by unfold wrap64; omega
                  clear HP hl1 hp h0 HL0
                  go_wp2_with fail
                  go_meet
                  case rel => exact ⟨by rw [HE.out], rfl⟩
            · have q2 : (y0 == 1) = false := by rw [beq_eq_false_iff_ne]; exact q1
              have HE : Hid (c7 y0 y1 last = false) := Lib.hid (by unfold c7; rw [q2]; rfl)
              clear HP q1
              go_wp2_with fail
              go_meet
              case rel => exact ⟨by rw [HE.out], rfl⟩
          case rest =>
            obtain ⟨rfl, rfl⟩ := hcut
            clear HP HL0 x0 x1 x2 x3
            cases hc7 : c7 y0 y1 last with
            | true =>
              have HE : Hid (checkM chk mark none m = 3) := Lib.hid (by rw [HAt.out, hc7, if_pos (by simp)])
              clear HAt HLs HVc HI HN HKs hc7
              go_wp2_with fail
              go_ret
              exact ⟨by rw [HE.out]; rfl, HB2.out⟩
            | false =>
              rw [hc7] at HAt
              clear hc7
              go_upto_region 9 with fail
              go_cut [71] from 58 to 70 (fun b wx => b = .bool (c9 y0 y1) ∧ Below w.heap.size w wx ∧ Blk wx wo.heap.size 30 #[.int .i64 y0, .string y1, .int .i64 y2, .slice VA y3.length Vc] ∧ wx.heap.size = wo.heap.size + 1)
              case first =>
                have hz2 : wc.heap.size = wo.heap.size + 1 := HZ2.out
                clear HAt HLs HVc HI HKs
                by_cases q1 : y0 = 1
                · subst q1
                  have HE : Hid (c9 1 y1 = false) := Lib.hid (by unfold c9; rfl)
                  go_wp2_with fail
                  go_meet
                  case rel => exact ⟨by rw [HE.out], HB2.out, M2.out, hz2⟩
                · have q2 : (y0 == 1) = false := by rw [beq_eq_false_iff_ne]; exact q1
                  by_cases q3 : y0 = 6
                  · subst q3
                    have HE : Hid (c9 6 y1 = false) := Lib.hid (by unfold c9; rfl)
                    go_wp2_with fail
                    go_meet
                    case rel => exact ⟨by rw [HE.out], HB2.out, M2.out, hz2⟩
                  · have q4 : (y0 == 6) = false := by rw [beq_eq_false_iff_ne]; exact q3
                    have HE : Hid (c9 y0 y1 = !nameR y1) := Lib.hid (by unfold c9; rw [q2, q4]; rfl)
                    generalize nameR y1 = NR at *
                    go_wp2_with fail
                    refine HN.out.mono ?_
                    clear HN
                    rintro e w4 ⟨rfl, n4, rfl⟩
                    go_wp2_with fail
                    go_meet
                    case rel => exact ⟨by rw [HE.out]; simp [q1, q3], below_drewN HB2.out n4, M2.out.below (below_drewN (Below.refl _ _) n4) M2.out.lt, hz2⟩
              case rest =>
                obtain ⟨rfl, hb3, hm3, hz3⟩ := hcut
                have HB3 := Lib.hid hb3
                have M3 := Lib.hid hm3
                have HZ3 := Lib.hid hz3
                have d0 := (hm3.cell 0).trans (show _ = some (.int .i64 y0) from rfl)
                have d2 := (hm3.cell 2).trans (show _ = some (.int .i64 y2) from rfl)
                have d3 := (hm3.cell 3).trans (show _ = some (.slice VA y3.length Vc) from rfl)
                clear hb3 hm3 hz3 HN HB2 M2 HZ2 a0 a1 a2 a3
                cases hc9 : c9 y0 y1 with
                | true =>
                  have HE : Hid (checkM chk mark none m = 3) := Lib.hid (by rw [HAt.out, hc9, if_pos (by simp)])
                  clear HAt HLs HVc HI HKs hc9
                  go_wp2_with fail
                  go_ret
                  exact ⟨by rw [HE.out]; rfl, HB3.out⟩
                | false =>
                  have HA2 : Hid (checkM chk mark none m = if c11 y0 y2 = true then 1 else if hasCases y0 = true ∧ casesM chk y0 mark y3 [] ≠ 0 then casesM chk y0 mark y3 [] else checkM chk mark (some y0) (m.drop (j + 1))) := Lib.hid (by
                    rw [HAt.out, hc9, if_neg (by simp)]
                    by_cases h : c11 y0 y2 = true
                    · rw [if_pos h, if_pos ((c11_iff _ _).1 h)]
                    · rw [if_neg h, if_neg (fun k => h ((c11_iff _ _).2 k))])
                  clear hc9 HAt
                  go_upto_region 11 with fail
                  go_cut [84] from 72 to 83 (fun b wx => b = .bool (c11 y0 y2) ∧ wx = wc)
                  case first =>
                    clear HA2 HLs HVc HI HKs
                    by_cases q1 : y0 = 4
                    · have q2 : (y0 == 4) = true := by rw [q1]; rfl
                      clear q1
                      by_cases q3 : y2 < 0
                      · have HE : Hid (c11 y0 y2 = true) := Lib.hid (by unfold c11; rw [q2, decide_eq_true q3]; rfl)
                        go_wp2_with fail
                        go_meet
                        case rel => exact ⟨by rw [HE.out], rfl⟩
                      · have HE : Hid (c11 y0 y2 = decide (9 < y2)) := Lib.hid (by unfold c11; rw [q2, decide_eq_false q3]; rfl)
                        go_wp2_with fail
                        go_meet
                        case rel => exact ⟨by rw [HE.out], rfl⟩
                    · have q2 : (y0 == 4) = false := by rw [beq_eq_false_iff_ne]; exact q1
                      have HE : Hid (c11 y0 y2 = false) := Lib.hid (by unfold c11; rw [q2]; rfl)
                      clear q1
                      go_wp2_with fail
                      go_meet
                      case rel => exact ⟨by rw [HE.out], rfl⟩
                  case rest =>
                    obtain ⟨rfl, rfl⟩ := hcut
                    cases hc11 : c11 y0 y2 with
                    | true =>
                      have HE : Hid (checkM chk mark none m = 1) := Lib.hid (by rw [HA2.out, if_pos hc11])
                      clear HA2 HLs HVc HI HKs hc11
                      go_wp2_with fail
                      go_ret
                      exact ⟨by rw [HE.out]; rfl, HB3.out⟩
                    | false =>
                      have HA3 : Hid (checkM chk mark none m = if hasCases y0 = true ∧ casesM chk y0 mark y3 [] ≠ 0 then casesM chk y0 mark y3 [] else checkM chk mark (some y0) (m.drop (j + 1))) := Lib.hid (by rw [HA2.out, if_neg (by rw [hc11]; decide)])
                      clear hc11 HA2
                      go_upto_region 13 with fail
                      go_cut [92] from 85 to 91 (fun b wx => b = .bool (!hasCases y0) ∧ wx = wc)
                      case first =>
                        clear HA3 HLs HVc HI HKs
                        by_cases q1 : y0 = 4
                        · subst q1
                          go_wp2_with fail
                          go_meet
                          case rel => exact ⟨rfl, rfl⟩
                        · have q2 : (y0 == 4) = false := by rw [beq_eq_false_iff_ne]; exact q1
                          by_cases q3 : y0 = 5
                          · subst q3
                            go_wp2_with fail
                            go_meet
                            case rel => exact ⟨rfl, rfl⟩
                          · have HE : Hid (hasCases y0 = false) := Lib.hid (by unfold hasCases; rw [q2, Bool.false_or, beq_eq_false_iff_ne]; exact q3)
                            go_wp2_with fail
                            go_meet
                            case rel => exact ⟨by rw [HE.out]; simp [q1, q3], rfl⟩
                      case rest =>
                        obtain ⟨rfl, rfl⟩ := hcut
                        cases hhc : hasCases y0 with
                        | false =>
                          have HN : Hid (checkM chk mark none m = checkM chk mark (lastK (m.take (j + 1))) (m.drop (j + 1))) := Lib.hid (by rw [HA3.out, hhc, if_neg (by simp), HLs.out])
                          clear HA3 HLs HVc HI HKs hhc d0 d2 d3
                          go_wp2_with fail
                          go_roundw
                          case rel => exact ⟨j + 1, by omega, by go_num, HN, HB3.out⟩
                          case measure => simp [intOf]; omega
                        | true =>
                          have HA4 : Hid (checkM chk mark none m = if casesM chk y0 mark y3 [] ≠ 0 then casesM chk y0 mark y3 [] else checkM chk mark (some y0) (m.drop (j + 1))) := Lib.hid (by rw [HA3.out, hhc]; simp)
                          clear HA3 hhc d0 d2
                          generalize hcs : y3 = cs at *
                          have hsz3 := HB3.out.size
                          have HzC := HZ3.out
                          go_wp2_with fail
                          go_loopw [7, 8] (fun o i wr => ∃ q : Nat, q ≤ cs.length ∧ i = .int .i64 (q : Int) ∧ wr.ownsRow wc.heap.size 9 1 o ((cs.take q).map (·.1)).length (((cs.take q).map (·.1)).map Value.string) ∧ Hid (casesM chk y0 mark cs [] = casesM chk y0 mark (cs.drop q) ((cs.take q).map (·.1))) ∧ Below wc.heap.size wc wr) (fun _ i _ => cs.length - (intOf i).toNat)
                          case atStart => exact ⟨0, Nat.zero_le _, rfl, own_nil, Lib.hid rfl, Below.refl _ _⟩
                          case round =>
                            obtain ⟨q, hq, rfl, hown, HNq, hbq⟩ := hrel
                            have HO := Lib.hid hown
                            have HBq := Lib.hid hbq
                            have hbsq := hbq.size
                            have htl : ((cs.take q).map (·.1)).length = q := by rw [List.length_map, List.length_take]; omega
                            obtain ⟨OA, Oc, rfl, _⟩ := own_slice hown
                            have Mr := Lib.hid (M3.out.below hbq M3.out.lt)
                            have HBw := Lib.hid (HB3.out.trans (hbq.mono hsz3))
                            by_cases hlq : q < cs.length
                            · have i3 : (0 : Int) ≤ (q : Int) := Int.natCast_nonneg q
                              have i4 : (q : Int) < (cs.length : Int) := by omega
                              have hmq : cs[q] ∈ cs := List.getElem_mem hlq
                              have HTk : Hid ((cs.take (q + 1)).map (·.1) = (cs.take q).map (·.1) ++ [cs[q].1]) := Lib.hid (by rw [List.take_succ_eq_append_getElem hlq, List.map_append]; rfl)
                              have HAq : Hid (casesM chk y0 mark cs [] = if keyM y0 cs[q].1 = false then 3 else if ((cs.take q).map (·.1)).any (eqs · cs[q].1) = true then 5 else if chk cs[q].2 (mark || y0 == 4) ≠ 0 then chk cs[q].2 (mark || y0 == 4) else casesM chk y0 mark (cs.drop (q + 1)) ((cs.take q).map (·.1) ++ [cs[q].1])) := Lib.hid (by rw [HNq.out, casesM_at chk hlq])
                              obtain ⟨b1, o1, U, rfl, _, hb1', z0, z1, hU⟩ := (HVc.out _ HBw.out).casAt q hlq
                              have hks := HKs.out _ hmq
                              obtain ⟨UA, Uc, rfl, _⟩ := hU.form
                              have HCk : Hid (∀ mk W, Below w.heap.size w W → Calls Tryz.prog 19 #[.slice UA cs[q].2.length Uc, .bool mk] W fun e w' => e = .returned (.int .i64 (chk cs[q].2 mk)) ∧ Below W.heap.size W w') := Lib.hid fun mk W hW =>
                                HI.out _ hmq mk W _ hW ((hU.keep hE fun p h1 h2 => (hW.cell h2).trans (HBw.out.cell h2).symm).mono hE (Nat.le_refl _) hW.size)
                              have HZc : Hid (∀ W, Below w.heap.size w W → W.cell? ⟨b1, o1 + q * 2, none⟩ = some (.string cs[q].1) ∧ W.cell? ⟨b1, o1 + q * 2 + 1, none⟩ = some (.slice UA cs[q].2.length Uc)) := Lib.hid fun W hW =>
                                ⟨((hW.cell (p := ⟨b1, _, none⟩) hb1').trans (HBw.out.cell (p := ⟨b1, _, none⟩) hb1').symm).trans z0, ((hW.cell (p := ⟨b1, _, none⟩) hb1').trans (HBw.out.cell (p := ⟨b1, _, none⟩) hb1').symm).trans z1⟩
                              clear hU hmq HNq hbq hown
                              rw [htl]
                              rw [htl] at HO
                              generalize cs[q] = cc at *
                              obtain ⟨ck, cb⟩ := cc
                              dsimp only at z0 z1 hks HCk HTk HAq HZc
                              obtain ⟨S, hS⟩ : ∃ S, S = (cs.take q).map (·.1) := ⟨_, rfl⟩
                              rw [← hS] at HO HTk HAq htl
                              have HSq : Hid (S.length = q) := Lib.hid htl
                              clear hS htl
                              have k0 := (Mr.out.cell 0).trans (show _ = some (.int .i64 y0) from rfl)
                              have k1 := (Mr.out.cell 1).trans (show _ = some (.string y1) from rfl)
                              have k2 := (Mr.out.cell 2).trans (show _ = some (.int .i64 y2) from rfl)
                              have k3 := (Mr.out.cell 3).trans (show _ = some (.slice (some ⟨b1, o1, none⟩) cs.length Vc) from rfl)
                              have HBd := Lib.hid (below_drewN HBq.out 1)
                              have HKy := Lib.hid (keyFault_any y0 y2 y1 ck (some ⟨b1, o1, none⟩) cs.length Vc wr.drew hks)
                              go_upto_region 18 with fail
                              go_still_tail 7, (by kernel_rfl)
                              change wpList _ _ _ _ _ wr.drew
                              go_wp2_with fail
                              refine HKy.out.mono ?_
                              clear HKy
                              rintro e w3 ⟨rfl, hb3⟩
                              have HB4 := Lib.hid (HBd.out.trans (hb3.mono HBd.out.size))
                              have M4 := Lib.hid (M3.out.below HB4.out M3.out.lt)
                              have HB4w := Lib.hid (HB3.out.trans (HB4.out.mono hsz3))
                              have l3 := (M4.out.cell 3).trans (show _ = some (.slice (some ⟨b1, o1, none⟩) cs.length Vc) from rfl)
                              have z0' := (HZc.out _ HB4w.out).1
                              have hO3 := own_below HO.out ((below_drewN (Below.refl wr.heap.size wr) 1).trans hb3) (Nat.le_refl _)
                              clear hb3 k0 k1 k2 k3 z0 z1 HBd
                              generalize keyM y0 ck = KY at *
                              cases KY with
                              | false =>
                                have HE : Hid (checkM chk mark none m = 3) := Lib.hid (by
                                  have h3 : casesM chk y0 mark cs [] = 3 := by rw [HAq.out, if_pos rfl]
                                  rw [HA4.out, h3, if_pos (by decide)])
                                clear HAq HA4 HCk hO3 HLs
                                go_wp2_with fail
                                go_ret
                                exact ⟨by rw [HE.out]; rfl, HB4w.out⟩
                              | true =>
                                have HO3 := Lib.hid hO3
                                have HCt := Lib.hid (in_any (.slice OA q Oc) S ck 0 w3.heap.size w3 (by
                                  have h := HO3.out
                                  have e : q = S.length := HSq.out.symm
                                  rw [e] at h ⊢
                                  exact ListOk.strs_of_own h (Nat.zero_le _) (Nat.le_refl _)) (by have := HSq.out; omega))
                                have HA5 : Hid (casesM chk y0 mark cs [] = if S.any (eqs · ck) = true then 5 else if chk cb (mark || y0 == 4) ≠ 0 then chk cb (mark || y0 == 4) else casesM chk y0 mark (cs.drop (q + 1)) (S ++ [ck])) := Lib.hid (by rw [HAq.out, if_neg (by decide)])
                                generalize S.any (eqs · ck) = SN at *
                                clear HAq hO3
                                go_wp2_with fail
                                refine HCt.out.mono ?_
                                clear HCt
                                rintro e w4 ⟨rfl, rfl⟩
                                cases SN with
                                | true =>
                                  have HE : Hid (checkM chk mark none m = 5) := Lib.hid (by
                                    have h3 : casesM chk y0 mark cs [] = 5 := by rw [HA5.out, if_pos rfl]
                                    rw [HA4.out, h3, if_pos (by decide)])
                                  clear HA5 HA4 HCk HLs
                                  go_wp2_with fail
                                  go_ret
                                  exact ⟨by rw [HE.out]; rfl, HB4w.out⟩
                                | false =>
                                  have HA6 : Hid (casesM chk y0 mark cs [] = if chk cb (mark || y0 == 4) ≠ 0 then chk cb (mark || y0 == 4) else casesM chk y0 mark (cs.drop (q + 1)) (S ++ [ck])) := Lib.hid (by rw [HA5.out, if_neg (by decide)])
                                  clear HA5
                                  have hsz4 := HB4.out.size
                                  go_wp2_with (at_builtin; refine wpList_append_any rfl _ _ 75 rfl wc.heap.size 9 Tryz.underlying75 info_strM rfl (by decide) (S.map Value.string) rfl (HO3.out.alloc _) [.string ck] rfl rfl (.inr ⟨_, _, rfl, one_newsM _ _ _⟩) (by simp [Value.oneCell']) (by unfold maxLen; omega) (by omega) (by simp; omega) ?_)
                                  intro v5 w5 hown5 hgrow5 _
                                  obtain ⟨A5, c5', rfl, _⟩ := own_slice hown5
                                  have hO3l : ∀ r, (Value.slice OA q Oc).ownBlock = some r → wc.heap.size ≤ r := fun r hr => (own_lt HO3.out hr).1
                                  have HB5 : Hid (Below wc.heap.size wc w5) := Lib.hid ((HB4.out.alloc hsz4 _).grown hgrow5 (by simp; omega) hO3l)
                                  have M5 : Hid (Blk w5 wo.heap.size 30 #[.int .i64 y0, .string y1, .int .i64 y2, .slice (some ⟨b1, o1, none⟩) cs.length Vc]) := Lib.hid (M3.out.below HB5.out M3.out.lt)
                                  have HO5 : Hid (w5.ownsRow wc.heap.size 9 1 (.slice A5 (q + 1) c5') (S ++ [ck]).length ((S ++ [ck]).map Value.string)) := Lib.hid (by
                                    rw [List.length_append, HSq.out, List.map_append]
                                    have h := hown5
                                    rw [← HzC] at h
                                    exact h)
                                  have HB5w := Lib.hid (HB3.out.trans (HB5.out.mono hsz3))
                                  have z1' := (HZc.out _ HB5w.out).2
                                  have p0 := (M5.out.cell 0).trans (show _ = some (.int .i64 y0) from rfl)
                                  have p3 := (M5.out.cell 3).trans (show _ = some (.slice (some ⟨b1, o1, none⟩) cs.length Vc) from rfl)
                                  have HB5d := Lib.hid (below_drewN HB5w.out 1)
                                  have HC5 := Lib.hid (HCk.out (mark || y0 == 4) w5.drew HB5d.out)
                                  have hsz5 := HB5.out.size
                                  generalize chk cb (mark || y0 == 4) = e0 at *
                                  clear hown5 hgrow5 HO3 HCk z0' l3 HZc
                                  obtain ⟨K4, hK4⟩ : ∃ K4, K4 = (y0 == 4) := ⟨_, rfl⟩
                                  have hK4' : (y0 == 4) = K4 := hK4.symm
                                  rw [hK4'] at HC5
                                  clear hK4
                                  have HFin : Hid (∀ w6, Below w5.drew.heap.size w5.drew w6 → Below wc.heap.size wc w6 ∧ Below w.heap.size w w6 ∧ w6.ownsRow wc.heap.size 9 1 (.slice A5 (q + 1) c5') (S ++ [ck]).length ((S ++ [ck]).map Value.string)) := Lib.hid fun w6 hb6 => by
                                    have h1 := (below_drewN (Below.refl w5.heap.size w5) 1).trans hb6
                                    exact ⟨HB5.out.trans (h1.mono hsz5), HB5w.out.trans (h1.mono HB5w.out.size), own_below HO5.out h1 (Nat.le_refl _)⟩
                                  go_upto_region 23 with fail
                                  cases mark with
                                  | true =>
                                    rw [Bool.true_or] at HC5
                                    go_still_tail 12, (by kernel_rfl)
                                    change wpList _ _ _ _ _ w5.drew
                                    go_wp2_with fail
                                    refine HC5.out.mono ?_
                                    clear HC5
                                    rintro e w6 ⟨rfl, hb6⟩
                                    obtain ⟨hB6, hB6w, hO6⟩ := HFin.out w6 hb6
                                    have HB6 := Lib.hid hB6
                                    have HB6w := Lib.hid hB6w
                                    have HO6 := Lib.hid hO6
                                    clear hb6 hB6 hB6w hO6 HFin
                                    by_cases he : e0 = 0
                                    · subst he
                                      have HN : Hid (casesM chk y0 true cs [] = casesM chk y0 true (cs.drop (q + 1)) (S ++ [ck])) := Lib.hid (by rw [HA6.out, if_neg (by simp)])
                                      clear HA6 HA4 HLs
                                      go_wp2_with fail
                                      go_roundw
                                      case rel => exact ⟨q + 1, by omega, by go_num, by rw [HTk.out]; exact HO6.out, by rw [HTk.out]; exact HN, HB6.out⟩
                                      case measure => simp [intOf]; omega
                                    · have HE : Hid (checkM chk true none m = e0) := Lib.hid (by
                                        have h3 : casesM chk y0 true cs [] = e0 := by rw [HA6.out, if_pos he]
                                        rw [HA4.out, h3, if_pos he])
                                      clear HA6 HA4 HLs
                                      go_wp2_with fail
                                      go_ret
                                      exact ⟨by rw [HE.out]; rfl, HB6w.out⟩
                                  | false =>
                                    rw [Bool.false_or] at HC5
                                    go_still_tail 12, (by kernel_rfl)
                                    change wpList _ _ _ _ _ w5.drew
                                    go_wp2_with fail
                                    refine HC5.out.mono ?_
                                    clear HC5
                                    rintro e w6 ⟨rfl, hb6⟩
                                    obtain ⟨hB6, hB6w, hO6⟩ := HFin.out w6 hb6
                                    have HB6 := Lib.hid hB6
                                    have HB6w := Lib.hid hB6w
                                    have HO6 := Lib.hid hO6
                                    clear hb6 hB6 hB6w hO6 HFin
                                    by_cases he : e0 = 0
                                    · subst he
                                      have HN : Hid (casesM chk y0 false cs [] = casesM chk y0 false (cs.drop (q + 1)) (S ++ [ck])) := Lib.hid (by rw [HA6.out, if_neg (by simp)])
                                      clear HA6 HA4 HLs
                                      go_wp2_with fail
                                      go_roundw
                                      case rel => exact ⟨q + 1, by omega, by go_num, by rw [HTk.out]; exact HO6.out, by rw [HTk.out]; exact HN, HB6.out⟩
                                      case measure => simp [intOf]; omega
                                    · have HE : Hid (checkM chk false none m = e0) := Lib.hid (by
                                        have h3 : casesM chk y0 false cs [] = e0 := by rw [HA6.out, if_pos he]
                                        rw [HA4.out, h3, if_pos he])
                                      clear HA6 HA4 HLs
                                      go_wp2_with fail
                                      go_ret
                                      exact ⟨by rw [HE.out]; rfl, HB6w.out⟩
                            · obtain rfl : q = cs.length := by omega
                              have HCt := Lib.hid (in_any (.slice OA ((cs.take cs.length).map (·.1)).length Oc) ((cs.take cs.length).map (·.1)) otherB 0 wr.heap.size wr (ListOk.strs_of_own HO.out (Nat.zero_le _) (Nat.le_refl _)) (by rw [htl]; omega))
                              have HN : Hid (casesM chk y0 mark cs [] = if ((cs.take cs.length).map (·.1)).any (eqs · otherB) = true then 0 else 2) := Lib.hid (by rw [HNq.out, List.drop_length]; rfl)
                              have k3 := (Mr.out.cell 3).trans (show _ = some (.slice VA cs.length Vc) from rfl)
                              rw [htl] at HCt ⊢
                              unfold otherB at *
                              generalize ((cs.take cs.length).map (·.1)).any (eqs · (⟨#[111, 116, 104, 101, 114]⟩ : ByteArray)) = X at *
                              clear hbq HNq hown HO
                              go_wp2_with fail
                              refine HCt.out.mono ?_
                              clear HCt
                              rintro e w4 ⟨rfl, rfl⟩
                              cases X with
                              | true =>
                                have HE : Hid (checkM chk mark none m = checkM chk mark (lastK (m.take (j + 1))) (m.drop (j + 1))) := Lib.hid (by
                                  have h3 : casesM chk y0 mark cs [] = 0 := by rw [HN.out, if_pos rfl]
                                  rw [HA4.out, h3, if_neg (by simp), HLs.out])
                                clear HN HA4 HLs k3
                                go_wp2_with fail
                                go_roundw
                                case rel => exact ⟨j + 1, by omega, by go_num, HE, HBw.out⟩
                                case measure => simp [intOf]; omega
                              | false =>
                                have HE : Hid (checkM chk mark none m = 2) := Lib.hid (by
                                  have h3 : casesM chk y0 mark cs [] = 2 := by rw [HN.out, if_neg (by decide)]
                                  rw [HA4.out, h3, if_pos (by decide)])
                                clear HN HA4 HLs k3
                                go_wp2_with fail
                                go_ret
                                exact ⟨by rw [HE.out]; rfl, HBw.out⟩
    · obtain rfl : j = m.length := by omega
      have HE : Hid (checkM chk mark none m = 0) := Lib.hid (by rw [HNo.out, List.drop_length]; cases lastK (m.take m.length) <;> rfl)
      clear hb HNo
      go_wp2_with fail
      go_ret
      exact ⟨by rw [HE.out]; rfl, HB.out⟩
end Go.Proofs.YtokjbdefkfdhhaaGreatDoor
