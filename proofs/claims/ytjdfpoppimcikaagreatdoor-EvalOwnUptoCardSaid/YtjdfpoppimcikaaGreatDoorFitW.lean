/- names.Fits. -/
import Derived.Test.YtjdfpoppimcikaaGreatDoorMapG
import Derived.Test.YtjdfpoppimcikaaGreatDoorDecC
namespace Go.Proofs.YtjdfpoppimcikaaGreatDoor
open Go.RowKit Go.Maps

theorem OwnsV.same {w : World} {b n : Nat} {f g : ByteArray → Option Value} (h : OwnsV w b n f) (e : ∀ s, g s = f s) : OwnsV w b n g := by
  have : g = f := funext e
  rwa [this]
theorem putV_bool (f : KMap) (k : ByteArray) (b : Bool) (s : ByteArray) : (putB f k b s).map Value.bool = putV (fun s => (f s).map Value.bool) k (.bool b) s := by
  unfold putB putV
  split <;> rfl
theorem argE_step (a : ArgV) (r : List ArgV) (f : KMap) : (nameR a.name = false → argE (a :: r) f = 3) ∧ (nameR a.name = true ∧ a.isNum = true ∧ ¬ a.num.ok → argE (a :: r) f = 1) ∧
    (nameR a.name = true ∧ (a.isNum = true → a.num.ok) → (f a.name).isSome = true → argE (a :: r) f = 5) ∧ (nameR a.name = true ∧ (a.isNum = true → a.num.ok) → (f a.name).isSome = false → argE (a :: r) f = argE r (putB f a.name a.isNum)) := by
  have e : argE (a :: r) f = if nameR a.name = false then 3 else if a.isNum = true ∧ ¬ a.num.ok then 1 else if (f a.name).isSome = true then 5 else argE r (putB f a.name a.isNum) := rfl
  refine ⟨fun h => ?_, fun h => ?_, fun h k => ?_, fun h k => ?_⟩
  · rw [e, if_pos h]
  · rw [e, if_neg (by rw [h.1]; decide), if_pos h.2]
  · rw [e, if_neg (by rw [h.1]; decide), if_neg (fun q => q.2 (h.2 q.1)), if_pos k]
  · rw [e, if_neg (by rw [h.1]; decide), if_neg (fun q => q.2 (h.2 q.1)), if_neg (by rw [k]; decide)]
set_option maxHeartbeats 12800000 in
set_option maxRecDepth 100000 in
theorem fits_any (n : Nat) (m : List (Nd n)) (v : Value) (lo : Nat) (args : List ArgV) (vA : Value) (loA : Nat) (w : World) (hm : MsgIn n m) (hc : cntN n m ≤ 10000000) (hv : ListOk (Enc.node n) w lo w.heap.size v m) (hV : MV w)
    (hA : ListOk Enc.argV w loA w.heap.size vA args) (ha : args.length ≤ 1000000) (hs : Hid (∀ a ∈ args, a.name.size ≤ 1000000000)) :
    Calls Tryz.prog 13 #[v, vA] w fun e w' => e = .returned (errV (fitsR n m args)) ∧ Below w.heap.size w w' := by
  obtain ⟨A, c, rfl, _⟩ := hA.form
  have HOf := Lib.hid (of_any n m v lo w hm hc hv hV)
  have HNs := Lib.hid (ofR_names n m hm)
  have hln := ofR_len n m hc
  have HAr : Hid (∀ W, Below w.heap.size w W → ListOk Enc.argV W loA w.heap.size (.slice A args.length c) args) := Lib.hid fun W hW => hA.below Enc.argV_laws hW
  have HF0 : Hid ((ofR n m).1 ≠ 0 → fitsR n m args = (ofR n m).1) := Lib.hid fun h => if_pos h
  have HF1 : Hid ((ofR n m).1 = 0 → argE args (fun _ => none) ≠ 0 → fitsR n m args = argE args (fun _ => none)) := Lib.hid fun h k => (if_neg (by rw [h]; decide)).trans (if_pos k)
  have HF2 : Hid ((ofR n m).1 = 0 → argE args (fun _ => none) = 0 → fitsR n m args = needE (ofR n m).2 (argM args fun _ => none)) := Lib.hid fun h k => (if_neg (by rw [h]; decide)).trans (if_neg (by rw [k]; decide))
  have HVm := Lib.hid hV
  generalize fitsR n m args = fr at *
  generalize ofR n m = R at *
  obtain ⟨f, L⟩ := R
  dsimp only at HOf HNs hln HF0 HF1 HF2
  have hmm := @run_makeMap Tryz.prog
  have HZb : Hid (∀ W, (zeroValue 4).run Tryz.prog W = .ok (.bool false) W) := Lib.hid fun _ => by kernel_rfl
  clear hv hA hm hc hV
  go_enter Tryz.func13, Tryz.ntmps13
  go_wp2_with fail
  refine HOf.out.mono ?_
  clear HOf
  rintro e w2 ⟨hb2, u, rfl, hrow⟩
  obtain ⟨UA, Uc, rfl, _⟩ := own_slice hrow
  by_cases hf : f = 0
  · subst hf
    have HFit : Hid (argE args (fun _ => none) ≠ 0 → fr = argE args (fun _ => none)) := Lib.hid (HF1.out rfl)
    have HFt2 : Hid (argE args (fun _ => none) = 0 → fr = needE L (argM args fun _ => none)) := Lib.hid (HF2.out rfl)
    have HB2 := Lib.hid hb2
    have HRow := Lib.hid hrow
    have hs2 := hb2.size
    have HO0 : Hid (OwnsV (w2.alloc (.map #[] 0)) w2.heap.size 0 (fun s => ((argM ([] : List ArgV) fun _ => none) s).map Value.bool)) := Lib.hid (OwnsV.made w2)
    have HB20 : Hid (Below w2.heap.size w2 (w2.alloc (.map #[] 0))) := Lib.hid ((Below.refl _ _).alloc (Nat.le_refl _) _)
    rw [errV_zero]
    clear HF0 HF1 HF2 hb2 hrow
    obtain ⟨mb, hmbe⟩ : ∃ mb, mb = w2.heap.size := ⟨_, rfl⟩
    have hmb : w2.heap.size ≤ mb := by omega
    rw [← hmbe] at HO0
    have HMe := Lib.hid hmbe
    go_wp2_with fail
    rw [← HMe.out]
    clear hmbe
    go_loopw [28] (fun i wr => ∃ (j cnt : Nat), j ≤ args.length ∧ cnt ≤ j ∧ i = .int .i64 (j : Int) ∧ Hid (argE args (fun _ => none) = argE (args.drop j) (argM (args.take j) fun _ => none)) ∧ OwnsV wr mb cnt (fun s => ((argM (args.take j) fun _ => none) s).map Value.bool) ∧ Below w2.heap.size w2 wr) (fun i _ => args.length - (intOf i).toNat)
    case atStart => exact ⟨0, 0, Nat.zero_le _, Nat.le_refl _, rfl, Lib.hid rfl, HO0.out, HB20.out⟩
    case round =>
      clear HO0 HB20
      obtain ⟨j, cnt, hj, hcnt, rfl, HAe, hown, hb⟩ := hrel
      obtain ⟨wo, rfl⟩ : ∃ wo : World, wo = wr := ⟨_, rfl⟩
      have HO := Lib.hid hown
      have HB := Lib.hid hb
      have HBw := Lib.hid (HB2.out.trans (hb.mono hs2))
      by_cases hlt : j < args.length
      · have i1 : (0 : Int) ≤ (j : Int) := Int.natCast_nonneg j
        have i2 : (j : Int) < (args.length : Int) := by omega
        obtain ⟨b1, o1, rfl, _, _, x0, x1, x2, x3, x4⟩ := (HAr.out _ HBw.out).argVAt j hlt
        have HSn := Lib.hid (argM_snoc args (fun _ => none) j hlt)
        have hsz0 := hs.out _ (List.getElem_mem hlt)
        have hdr : args.drop j = args[j] :: args.drop (j + 1) := List.drop_eq_getElem_cons hlt
        have hst := argE_step args[j] (args.drop (j + 1)) (argM (args.take j) fun _ => none)
        rw [← hdr, ← HAe.out] at hst
        have HStep := Lib.hid hst
        obtain ⟨x, hx⟩ : ∃ x, x = ((argM (args.take j) fun _ => none) args[j].name).isSome := ⟨_, rfl⟩
        have HKe : Hid ((((argM (args.take j) fun _ => none) args[j].name).map Value.bool).isSome = x ∧ ∃ y, (((argM (args.take j) fun _ => none) args[j].name).map Value.bool).getD (.bool false) = .bool y) := Lib.hid (by
          rw [hx]
          cases (argM (args.take j) fun _ => none) args[j].name with
          | none => exact ⟨rfl, false, rfl⟩
          | some b => exact ⟨rfl, b, rfl⟩)
        rw [← hx] at HStep
        obtain ⟨hk1, y, hk2⟩ := HKe.out
        have HKe : Hid ((((argM (args.take j) fun _ => none) args[j].name).map Value.bool).getD (.bool false) = .bool y ∧ (((argM (args.take j) fun _ => none) args[j].name).map Value.bool).isSome = x) := Lib.hid ⟨hk2, hk1⟩
        clear hown hb hdr hst hx hk1 hk2 HAe
        generalize args[j] = a at *
        obtain ⟨nm, isn, ⟨co, sc⟩, tx⟩ := a
        dsimp only at x0 x1 x2 x3 x4 HSn hsz0 HStep HKe
        have hsz : nm.size ≤ maxLen := by unfold maxLen; omega
        obtain ⟨W3, eW3⟩ : ∃ W3, W3 = wo.alloc (.cells #[.string nm, .bool isn, .int .i64 co, .int .i64 sc, .string tx] 35) := ⟨_, rfl⟩
        have mk3 : Blk W3 wo.heap.size 35 #[.string nm, .bool isn, .int .i64 co, .int .i64 sc, .string tx] := by rw [eW3]; exact Blk.new _ _ _
        have hb3 : Below wo.heap.size wo W3 := by rw [eW3]; exact (Below.refl _ _).alloc (Nat.le_refl _) _
        have HN3 := Lib.hid (name_any nm W3)
        have HB3 := Lib.hid hb3
        have MK3 := Lib.hid mk3
        have EW := Lib.hid eW3
        have hmlt := HO.out.lt
        clear eW3 mk3 hb3
        generalize hnr : nameR nm = nr at *
        clear hnr
        go_upto_region 8 with fail
        rw [← EW.out]
        have k0 := (MK3.out.cell 0).trans (show _ = some (.string nm) from rfl)
        clear EW x0 x1 x2 x3 x4
        go_wp2_with fail
        refine HN3.out.mono ?_
        clear HN3 k0
        rintro e w4 ⟨rfl, hb4⟩
        have hb34 : Below wo.heap.size wo w4 := HB3.out.trans (hb4.mono HB3.out.size)
        have HB4 := Lib.hid hb34
        have MK4 := Lib.hid (MK3.out.below hb4 MK3.out.lt)
        have HO4 := Lib.hid (HO.out.below hb34 hmlt)
        have HB24 := Lib.hid (HB.out.trans (hb34.mono HB.out.size))
        have HBw4 := Lib.hid (HB2.out.trans (HB24.out.mono hs2))
        clear hb4 hb34 MK3 HB3
        cases nr with
        | false =>
          have HR : Hid (argE args (fun _ => none) = 3) := Lib.hid (HStep.out.1 rfl)
          clear HStep
          go_wp2_with fail
          go_ret
          exact ⟨by rw [HFit.out (by rw [HR.out]; decide), HR.out]; rfl, HBw4.out⟩
        | true =>
          have d0 := (MK4.out.cell 0).trans (show _ = some (.string nm) from rfl)
          have d1 := (MK4.out.cell 1).trans (show _ = some (.bool isn) from rfl)
          have d2 := (MK4.out.cell 2).trans (show _ = some (.int .i64 co) from rfl)
          have d3 := (MK4.out.cell 3).trans (show _ = some (.int .i64 sc) from rfl)
          cases isn with
          | false =>
            have HOw := HO4
            have HBx := HBw4
            have HB2x := HB24
            have hlk := HOw.out.look_ok (t := 83) (e := 4) Tryz.underlying83 (HZb.out w4) hsz
            rw [HKe.out.1, HKe.out.2] at hlk
            by_cases hin : x = true
            · subst hin
              have HR : Hid (argE args (fun _ => none) = 5) := Lib.hid (HStep.out.2.2.1 ⟨by first | rfl | trivial, fun h => by cases h⟩ (by first | rfl | trivial))
              clear HStep
              go_wp2_with fail
              go_ret
              exact ⟨by rw [HFit.out (by rw [HR.out]; decide), HR.out]; rfl, HBx.out⟩
            · have hxf : x = false := by simpa using hin
              subst hxf
              have HN : Hid (argE args (fun _ => none) = argE (args.drop (j + 1)) (putB (argM (args.take j) fun _ => none) nm false)) := Lib.hid (HStep.out.2.2.2 ⟨by first | rfl | trivial, fun h => by cases h⟩ (by first | rfl | trivial))
              clear HStep hin
              go_wp2_with (at_mapUpdate; refine wpList_update_V rfl _ _ _ 83 4 rfl Tryz.underlying83 mb cnt _ rfl HOw.out (by unfold maxLen; omega) nm (.bool false) rfl rfl hsz ?_)
              intro w7 hown7 hg7
              have HO7 := Lib.hid hown7
              have HB7 := Lib.hid (HB2x.out.grown hg7 HB2x.out.size (fun k e => by cases e; exact hmb))
              clear hown7 hg7 hlk
              go_wp2_with fail
              go_roundw
              case rel =>
                refine ⟨j + 1, cnt + 1, by omega, by omega, by go_num, ?_, ?_, HB7.out⟩
                · rw [HSn.out]; exact HN
                · rw [HSn.out]; exact HO7.out.same (fun s => putV_bool _ _ _ s)
              case measure => simp [intOf]; omega
          | true =>
            have HCk : Hid (Calls Tryz.prog 26 #[.agg #[.int .i64 co, .int .i64 sc]] w4 fun e w' => e = .returned (errD (checkD ⟨co, sc⟩)) ∧ Below w4.heap.size w4 w') := Lib.hid (checkD_any ⟨co, sc⟩ w4)
            go_wp2_with fail
            refine HCk.out.mono ?_
            clear HCk d0 d1 d2 d3
            rintro e w5 ⟨rfl, hb5⟩
            have MK5 := Lib.hid (MK4.out.below hb5 MK4.out.lt)
            have HOw := Lib.hid (HO4.out.below hb5 HO4.out.lt)
            have HB2x := Lib.hid (HB24.out.trans (hb5.mono HB24.out.size))
            have HBx := Lib.hid (HB2.out.trans (HB2x.out.mono hs2))
            have d0 := (MK5.out.cell 0).trans (show _ = some (.string nm) from rfl)
            have d1 := (MK5.out.cell 1).trans (show _ = some (.bool true) from rfl)
            clear hb5 MK4 HO4 HB24 HBw4
            by_cases hok : DecV.ok ⟨co, sc⟩
            · rw [checkD_ok hok, errD_zero]
              have HOk := Lib.hid hok
              clear hok
              have hlk := HOw.out.look_ok (t := 83) (e := 4) Tryz.underlying83 (HZb.out w5) hsz
              rw [HKe.out.1, HKe.out.2] at hlk
              by_cases hin : x = true
              · subst hin
                have HR : Hid (argE args (fun _ => none) = 5) := Lib.hid (HStep.out.2.2.1 ⟨by first | rfl | trivial, fun _ => HOk.out⟩ (by first | rfl | trivial))
                clear HStep
                go_wp2_with fail
                go_ret
                exact ⟨by rw [HFit.out (by rw [HR.out]; decide), HR.out]; rfl, HBx.out⟩
              · have hxf : x = false := by simpa using hin
                subst hxf
                have HN : Hid (argE args (fun _ => none) = argE (args.drop (j + 1)) (putB (argM (args.take j) fun _ => none) nm true)) := Lib.hid (HStep.out.2.2.2 ⟨by first | rfl | trivial, fun _ => HOk.out⟩ (by first | rfl | trivial))
                clear HStep hin
                go_wp2_with (at_mapUpdate; refine wpList_update_V rfl _ _ _ 83 4 rfl Tryz.underlying83 mb cnt _ rfl HOw.out (by unfold maxLen; omega) nm (.bool true) rfl rfl hsz ?_)
                intro w7 hown7 hg7
                have HO7 := Lib.hid hown7
                have HB7 := Lib.hid (HB2x.out.grown hg7 HB2x.out.size (fun k e => by cases e; exact hmb))
                clear hown7 hg7 hlk
                go_wp2_with fail
                go_roundw
                case rel =>
                  refine ⟨j + 1, cnt + 1, by omega, by omega, by go_num, ?_, ?_, HB7.out⟩
                  · rw [HSn.out]; exact HN
                  · rw [HSn.out]; exact HO7.out.same (fun s => putV_bool _ _ _ s)
                case measure => simp [intOf]; omega
            · have HR : Hid (argE args (fun _ => none) = 1) := Lib.hid (HStep.out.2.1 ⟨by first | rfl | trivial, by first | rfl | trivial, hok⟩)
              rw [checkD_no hok, errD_ne (by decide)]
              clear HStep hok
              go_wp2_with fail
              go_ret
              exact ⟨by rw [HFit.out (by rw [HR.out]; decide), HR.out]; rfl, HBx.out⟩
      · obtain rfl : j = args.length := by omega
        have et : args.take args.length = args := List.take_length
        have HA0 : Hid (argE args (fun _ => none) = 0) := Lib.hid (by rw [HAe.out, List.drop_length]; rfl)
        have HFr : Hid (fr = needE L (argM args fun _ => none)) := Lib.hid (HFt2.out HA0.out)
        rw [et] at HO
        generalize argM args (fun _ => none) = F at *
        have hmlt := HO.out.lt
        clear et hown hb HAe HA0 HFit HFt2 hs HAr
        go_wp2_with fail
        go_loopw [62] (fun i wq => ∃ k : Nat, k ≤ L.length ∧ i = .int .i64 (k : Int) ∧ Hid (fr = needE (L.drop k) F) ∧ Below wo.heap.size wo wq) (fun i _ => L.length - (intOf i).toNat)
        case atStart => exact ⟨0, Nat.zero_le _, rfl, HFr, Below.refl _ _⟩
        case round =>
          clear HFr
          obtain ⟨k, hk, rfl, HNe, hbq⟩ := hrel
          have HBq := Lib.hid hbq
          have HB2q := Lib.hid (HB.out.trans (hbq.mono HB.out.size))
          have HBwq := Lib.hid (HB2.out.trans (HB2q.out.mono hs2))
          by_cases hlk : k < L.length
          · have i1 : (0 : Int) ≤ (k : Int) := Int.natCast_nonneg k
            have i2 : (k : Int) < (L.length : Int) := by omega
            obtain ⟨b1, o1, rfl, _, _, x0, x1, x2⟩ := (neds_of_own (lo := 0) (hi := wr.heap.size) (own_below HRow.out HB2q.out (Nat.le_refl _)) (Nat.zero_le _) (Nat.le_refl _)).nedAt k hlk
            have hszn := HNs.out _ (List.getElem_mem hlk)
            have hdr : L.drop k = L[k] :: L.drop (k + 1) := List.drop_eq_getElem_cons hlk
            rw [hdr] at HNe
            have HOq := Lib.hid (HO.out.below hbq hmlt)
            clear hdr hbq
            generalize L[k] = e at *
            obtain ⟨e0, e1, e2⟩ := e
            dsimp only at x0 x1 x2 hszn
            have hlk2 := HOq.out.look_ok (t := 83) (e := 4) (k := e0) Tryz.underlying83 (HZb.out wr) (by unfold maxLen; omega)
            have hlk3 : (Instr.lookup 83 (.map (some mb)) (.string e0) true).run Tryz.prog (wr.alloc (.cells #[.string e0, .bool e1, .bool e2] 82)) = .ok (.tuple #[((F e0).map Value.bool).getD (.bool false), .bool ((F e0).map Value.bool).isSome]) (wr.alloc (.cells #[.string e0, .bool e1, .bool e2] 82)) :=
              (HOq.out.below ((Below.refl wr.heap.size wr).alloc (Nat.le_refl _) _) HOq.out.lt).look_ok (t := 83) (e := 4) (k := e0) Tryz.underlying83 (HZb.out _) (by unfold maxLen; omega)
            have HBa : Hid (Below wo.heap.size wo (wr.alloc (.cells #[.string e0, .bool e1, .bool e2] 82))) := Lib.hid (HBq.out.alloc HBq.out.size _)
            have HBwa : Hid (Below w.heap.size w (wr.alloc (.cells #[.string e0, .bool e1, .bool e2] 82))) := Lib.hid (HBwq.out.alloc HBwq.out.size _)
            have HNe2 : Hid (fr = if (F e0).isSome = false then 2 else if ((e1 && !((F e0).getD false)) || (e2 && (F e0).getD false)) = true then 7 else needE (L.drop (k + 1)) F) := Lib.hid HNe.out
            clear hlk2 HNe HO HOq
            cases hF : F e0 with
            | none =>
              rw [hF] at hlk3 HNe2
              have HE : Hid (fr = 2) := Lib.hid (by rw [HNe2.out]; rfl)
              have hlk4 : (Instr.lookup 83 (.map (some mb)) (.string e0) true).run Tryz.prog (wr.alloc (.cells #[.string e0, .bool e1, .bool e2] 82)) = .ok (.tuple #[.bool false, .bool false]) (wr.alloc (.cells #[.string e0, .bool e1, .bool e2] 82)) := hlk3
              clear hlk3 HNe2 hF
              go_wp2_with fail
              go_ret
              exact ⟨by rw [HE.out]; rfl, HBwa.out⟩
            | some y =>
              rw [hF] at hlk3 HNe2
              have HE : Hid (fr = if ((e1 && !y) || (e2 && y)) = true then 7 else needE (L.drop (k + 1)) F) := Lib.hid HNe2.out
              have hlk4 : (Instr.lookup 83 (.map (some mb)) (.string e0) true).run Tryz.prog (wr.alloc (.cells #[.string e0, .bool e1, .bool e2] 82)) = .ok (.tuple #[.bool y, .bool true]) (wr.alloc (.cells #[.string e0, .bool e1, .bool e2] 82)) := hlk3
              clear hlk3 HNe2 hF
              cases e1 <;> cases e2 <;> cases y
              all_goals first
                | (have HEn : Hid (fr = needE (L.drop (k + 1)) F) := Lib.hid HE.out
                   clear HE
                   go_wp2_with fail
                   go_roundw
                   case rel => exact ⟨k + 1, by omega, by go_num, HEn, HBa.out⟩
                   case measure => simp [intOf]; omega)
                | (have HEn : Hid (fr = 7) := Lib.hid HE.out
                   clear HE
                   go_wp2_with fail
                   go_ret
                   exact ⟨by rw [HEn.out]; rfl, HBwa.out⟩)
          · obtain rfl : k = L.length := by omega
            have HE : Hid (fr = 0) := Lib.hid (by rw [HNe.out, List.drop_length]; rfl)
            clear HNe hbq
            go_wp2_with fail
            go_ret
            exact ⟨by rw [HE.out]; rfl, HBwq.out⟩
  · have HE := Lib.hid (HF0.out hf)
    have HB2 := Lib.hid hb2
    rw [errV_ne hf]
    clear HF0 HF1 HF2 hrow hb2
    go_wp2_with fail
    go_ret
    exact ⟨by rw [HE.out, errV_ne hf]; rfl, HB2.out⟩
end Go.Proofs.YtjdfpoppimcikaaGreatDoor
