/- The reference's PutIn. -/
import Derived.Test.YtolgkepkdidjcaaDoorQPutA
namespace Go.Proofs.YtolgkepkdidjcaaDoor
open Go.RowKit

set_option maxRecDepth 100000 in
set_option maxHeartbeats 1600000 in
theorem putin_any (pb c hand : Nat) (ps : List Plc) (k v : ByteArray) (w : World) (hr : RowP w pb ps) (hc : ps.length ≤ c) (hn : ps.length ≤ 50) (hh : hand < ps.length) :
    Calls Tryd.prog 8 #[.agg #[.slice (some ⟨pb, 0, none⟩) ps.length c, .int .i64 hand], .string k, .string v] w fun e w' => ∃ pb' c', e = .returned (.tuple #[.agg #[.slice (some ⟨pb', 0, none⟩) ps.length c', .int .i64 (putR ps hand k v).hand], .string ((putR ps hand k v).gone.getD ByteArray.empty), .bool (putR ps hand k v).gone.isSome]) ∧ w.heap.size ≤ pb' ∧ ps.length ≤ c' ∧ RowP w' pb' (putR ps hand k v).ps ∧ Below w.heap.size w w' := by
  obtain ⟨R, hR⟩ : ∃ R, R = putR ps hand k v := ⟨_, rfl⟩
  rw [← hR]
  have HR := Lib.hid hR
  clear hR
  obtain ⟨i0, hi0, hz0, hz1, hz2⟩ := info_parts info_qplace
  have hlt := hr.lt
  have hi : 0 < ps.length := by omega
  have hbx : Blk (w.alloc (.cells #[.slice (some ⟨pb, 0, none⟩) ps.length c, .int .i64 hand] 33)) w.heap.size 33 #[.slice (some ⟨pb, 0, none⟩) ps.length c, .int .i64 hand] := Blk.new _ _ _
  have HBX := Lib.hid hbx
  have he2 := Blk.new ((w.alloc (.cells #[.slice (some ⟨pb, 0, none⟩) ps.length c, .int .i64 hand] 33)).alloc (.cells #[.slice none 0 0, .int .i64 0] 33)) 40 #[]
  have he3 := Blk.new (((w.alloc (.cells #[.slice (some ⟨pb, 0, none⟩) ps.length c, .int .i64 hand] 33)).alloc (.cells #[.slice none 0 0, .int .i64 0] 33)).alloc (.cells #[.slice none 0 0, .int .i64 0] 33)) 40 #[]
  have hn2 := Blk.new ((w.alloc (.cells #[.slice (some ⟨pb, 0, none⟩) ps.length c, .int .i64 hand] 33)).alloc (.cells #[.slice none 0 0, .int .i64 0] 33)) 33 #[.slice none 0 0, .int .i64 0]
  have hn3 := Blk.new (((w.alloc (.cells #[.slice (some ⟨pb, 0, none⟩) ps.length c, .int .i64 hand] 33)).alloc (.cells #[.slice none 0 0, .int .i64 0] 33)).alloc (.cells #[] 40)) 33 #[.slice none 0 0, .int .i64 0]
  simp only [World.size_alloc] at he2 he3 hn2 hn3
  have HE2 := Lib.hid he2
  have HE3 := Lib.hid he3
  have HN2 := Lib.hid hn2
  have HN3 := Lib.hid hn3
  clear hbx he2 he3 hn2 hn3
  go_enter Tryd.func8, Tryd.ntmps8
  go_upto_region 1 with fail
  go_cut [9] (fun s9 wx => ∃ gg cap ob, s9 = .pointer (some ⟨ob, 0, none⟩) ∧ Out w (w.heap.size + 1) gg cap ob ps hand wx)
  case first =>
    go_region_law
      ((refine step_append_lies _ (by rfl) _ _ _ (by rfl) w.heap.size 40 i0 _ 4 40 Tryd.underlying31 hi0 hz0 hz1 hz2 rfl (by omega) _ 0 [] (by rfl) (own_empty (g := _) ?_ ?_) ⟨pb, 0, none⟩ ps.length c (cellsOf ps) (by rfl) (by rw [cellsOf_length]) ?_ (cellsOf_one ps) (by omega) (by unfold maxLen; omega) (by omega) ?_ _ rfl ?_
        · repeat' (first | with_reducible exact HE2.out | with_reducible exact HE3.out | with_reducible exact HN2.out | with_reducible exact HN3.out | with_reducible exact HBX.out | with_reducible apply Blk.drew | with_reducible apply Blk.alloc)
        · omega
        · exact RowP.cellsAt (by repeat' (first | with_reducible exact hr | with_reducible apply RowP.drew | with_reducible apply RowP.alloc))
        · simp; omega
        intro gg cap w1 hown1 hgrow hat hglt
        simp only [Nat.zero_add, List.nil_append] at hown1
        have hbw : Below (w.heap.size + 1 + 1) ((w.alloc (.cells #[.slice (some ⟨pb, 0, none⟩) ps.length c, .int .i64 hand] 33)).alloc (.cells #[.slice none 0 0, .int .i64 0] 33)) w1 := by
          refine Below.grown ?_ hgrow (by simp; try omega) (by intro k hk; simp [Value.ownBlock] at hk; omega)
          repeat' (first | with_reducible exact Below.refl _ _ | with_reducible apply Below.drew | (with_reducible refine Below.alloc ?_ ?_ _) | (simp; try omega))
        have hbx1 : Blk w1 w.heap.size 33 #[.slice (some ⟨pb, 0, none⟩) ps.length c, .int .i64 hand] := (HBX.out.alloc _).below hbw (by omega)
        have k0 := hbx1.cell 0
        have k1 := hbx1.cell 1
        have hzz : w.heap.size + 1 < w1.heap.size := by
          have h9 := hbw.size
          simp only [World.size_alloc] at h9
          omega
        have hzy : w.heap.size < w1.heap.size := by omega
        try
          have hA : Blk w1 (w.heap.size + 1 + 1) 33 #[.slice none 0 0, .int .i64 0] := by
            refine Blk.grown ?_ hgrow ?_
            · repeat' (first | with_reducible exact HE2.out | with_reducible exact HE3.out | with_reducible exact HN2.out | with_reducible exact HN3.out | with_reducible exact HBX.out | with_reducible apply Blk.drew | with_reducible apply Blk.alloc)
            · simp only [Value.ownBlock, ne_eq, Option.some.injEq]; omega
          have a0 := hA.cell 0
          have a1 := hA.cell 1
          have a2 := hA.frozen
          have A := Lib.hid hA
        try
          have hA : Blk w1 (w.heap.size + 1 + 1 + 1) 33 #[.slice none 0 0, .int .i64 0] := by
            refine Blk.grown ?_ hgrow ?_
            · repeat' (first | with_reducible exact HE2.out | with_reducible exact HE3.out | with_reducible exact HN2.out | with_reducible exact HN3.out | with_reducible exact HBX.out | with_reducible apply Blk.drew | with_reducible apply Blk.alloc)
            · simp only [Value.ownBlock, ne_eq, Option.some.injEq]; omega
          have a0 := hA.cell 0
          have a1 := hA.cell 1
          have a2 := hA.frozen
          have A := Lib.hid hA))
    all_goals
      go_wp2_with fail
      go_meet
      first
        | exact ⟨gg, cap, _, rfl, out_new (by simp) ((Below.refl _ _).alloc (Nat.le_refl _) _) hbw hown1 (by omega)⟩
        | exact ⟨gg, cap, _, rfl, out_old (by simp) ((Below.refl _ _).alloc (Nat.le_refl _) _) hbw hown1 (by omega) (by omega) A.out⟩
  case rest =>
    obtain ⟨gg, cap, ob, rfl, O⟩ := hcut
    have HB := O.below
    obtain ⟨ra, rb', hres⟩ := O.res
    have q0 := O.out.cell 0
    have q1 := O.out.cell 1
    have qf := O.out.frozen
    have r0 := hres.cell 0
    have r1 := hres.cell 1
    have rf := hres.frozen
    have hne := O.ne
    have hqa := Lib.hid (qat_any gg cap hand ps k wc O.row O.hcap hn)
    clear HBX HE2 HE3 HN2 HN3 hi0 hz0 hz1 hz2
    go_wp2_with fail
    refine hqa.out.mono ?_
    rintro e w2 ⟨rfl, hb2⟩
    have O2 := O.below' hb2
    clear q0 q1 qf r0 r1 rf hres HB
    obtain ⟨ra, rb', hres⟩ := O2.res
    have q0 := O2.out.cell 0
    have q1 := O2.out.cell 1
    have qf := O2.out.frozen
    have r0 := hres.cell 0
    have r1 := hres.cell 1
    have rf := hres.frozen
    have ng := O2.out.ne_row O2.row
    have nr := hres.ne_row O2.row
    clear hqa hb2 O hres
    have last : ∀ (j : Nat) (hj : j < ps.length) (hs : spot ps k = some j), Hid (∀ (x y : Value) (W : World), Out w (w.heap.size + 1) gg cap ob (ps.set j (fresh k v)) hand W → ∃ pb' c', Ending.returned (.tuple #[.agg #[.slice (some ⟨gg, 0, none⟩) ps.length cap, .int .i64 hand], .string ByteArray.empty, .bool false]) = Ending.returned (.tuple #[.agg #[.slice (some ⟨pb', 0, none⟩) ps.length c', .int .i64 R.hand], .string (R.gone.getD ByteArray.empty), .bool R.gone.isSome]) ∧ w.heap.size ≤ pb' ∧ ps.length ≤ c' ∧ RowP ((W.setCell ⟨w.heap.size + 1, 0, none⟩ x).setCell ⟨w.heap.size + 1, 1, none⟩ y) pb' R.ps ∧ Below w.heap.size w ((W.setCell ⟨w.heap.size + 1, 0, none⟩ x).setCell ⟨w.heap.size + 1, 1, none⟩ y)) := by
      intro j hj hs x y W O
      have e := HR.out.trans (putR_at hs)
      rw [e]
      obtain ⟨a, b⟩ := O.last x y
      exact ⟨gg, cap, rfl, O.g0, by have := O.hcap; rw [List.length_set] at this; exact this, a, b⟩
    cases hf : ps.findIdx? (hit k) with
    | some j =>
      have hj := findIdx_lt hf
      have HL := last j hj (by unfold spot; rw [hf]; rfl)
      obtain ⟨c1, c2, c3, c4⟩ := O2.row.row j hj
      have cf := O2.row.frozen
      have H := Lib.hid O2
      clear hf O2 last
      simp only [idx]
      go_wp2_with fail
      refine wp_loop_rounds 1 ?_
      rw [rounds_succ]
      go_wp2_with fail
      refine bodyPost_ret (v := .tuple #[.agg #[.slice (some ⟨gg, 0, none⟩) ps.length cap, .int .i64 hand], .string ByteArray.empty, .bool false]) ?_ rfl ?_
      · simp [results, Tryd.results8, go_sem, r0, r1, rf, nr, ng, hne]
        rfl
      · exact HL.out _ _ _ (H.out.put j hj (fresh k v))
    | none =>
      have HF := Lib.hid hf
      have HL := Lib.hid last
      have HO := Lib.hid O2
      clear hf last O2
      simp only [idx]
      go_wp2_with fail
      go_loop [11, 12] (fun i q => ∃ (j : Nat) (r : Int), i = .int .i64 r ∧ q = .int .i64 j ∧ j ≤ ps.length ∧ ((r = -1 ∧ ∀ q (h : q < ps.length), q < j → idle ps[q] = false) ∨ (∃ s : Nat, r = s ∧ s < ps.length ∧ ps.findIdx? idle = some s))) (fun _ q => ps.length - (intOf q).toNat)
      case atStart => exact ⟨0, -1, rfl, rfl, Nat.zero_le _, .inl ⟨rfl, fun _ _ h => absurd h (by omega)⟩⟩
      case round =>
        obtain ⟨j, r, rfl, rfl, hj, hrel⟩ := hrel
        rcases hrel with ⟨rfl, hno0⟩ | ⟨s, rfl, hs, hfs⟩
        · have hno := Lib.hid hno0
          clear hno0
          by_cases hlt2 : j < ps.length
          · obtain ⟨c1, c2, c3, c4⟩ := HO.out.row.row j hlt2
            cases hu : ps[j].used with
            | false =>
              rw [hu] at c3
              go_wp2_with fail
              go_round
              case rel => exact ⟨j + 1, j, rfl, by go_num, by omega, .inr ⟨j, rfl, hlt2, findIdx_at _ _ j hlt2 (by unfold idle; rw [hu]; rfl) hno.out⟩⟩
              case measure => simp [intOf]; omega
            | true =>
              rw [hu] at c3
              go_wp2_with fail
              go_round
              case rel => exact ⟨j + 1, -1, rfl, by go_num, by omega, .inl ⟨rfl, step_no _ _ j hno.out (fun _ => by unfold idle; rw [hu]; rfl)⟩⟩
              case measure => simp [intOf]; omega
          · have hidle : ps.findIdx? idle = none := findIdx_none _ _ (fun q h => hno.out q h (by omega))
            have hs : spot ps k = none := by unfold spot; rw [HF.out, hidle]; rfl
            have hql := sweep_len (marks ps) ps hand
            have hqh := sweep_hand (marks ps) ps hand hh
            obtain ⟨⟨qs, h'⟩, hq⟩ : ∃ r, sweep (marks ps) ps hand = r := ⟨_, rfl⟩
            rw [hq] at hql hqh
            simp only at hql hqh
            have hq1 : h' < qs.length := by omega
            have e := HR.out.trans (putR_full hs hq hq1)
            have HE := Lib.hid e
            have HQ := Lib.hid hq
            have HQL := Lib.hid hql
            clear hidle hs hq e hql
            go_wp2_with fail
            go_loopg [] (marks ps) (fun g wr => ∃ (ps' : List Plc) (hd f : Nat), marks ps' = g ∧ g ≤ f ∧ ps'.length = ps.length ∧ hd < ps'.length ∧ sweep f ps' hd = (qs, h') ∧ Out w (w.heap.size + 1) gg cap ob ps' hd wr)
            case atStart => exact ⟨ps, hand, marks ps, rfl, Nat.le_refl _, rfl, hh, HQ.out, HO.out⟩
            case round =>
              obtain ⟨ps', hd, f, hg, hfm, hlen, hhd, hsw, O⟩ := hrel
              obtain ⟨ra2, rb2, hres2⟩ := O.res
              have q0' := O.out.cell 0
              have q1' := O.out.cell 1
              have qf' := O.out.frozen
              have r0' := hres2.cell 0
              have r1' := hres2.cell 1
              have rf' := hres2.frozen
              have hhn : hd < ps.length := by omega
              simp only [List.getElem?_toArray, List.getElem?_cons_zero, List.getElem?_cons_succ] at q0' q1' r0' r1'
              rw [hlen] at q0'
              have e1 : ((hd : Int) + 1) % (ps.length : Int) = ((hd + 1) % ps.length : Nat) := by push_cast; rfl
              have E1 := Lib.hid e1
              have HG := Lib.hid hg
              have HW := Lib.hid hsw
              have HN := Lib.hid hlen
              have OO := Lib.hid O
              have hmk : markAt ps' hd = ps'[hd].mark := by unfold markAt; rw [List.getElem?_eq_getElem hhd]
              have HM := Lib.hid hmk
              obtain ⟨c1, c2, c3, c4⟩ := O.row.row hd hhd
              have cf := O.row.frozen
              clear hg hsw e1 hlen hmk q0 q1 qf r0 r1 rf hres2 O
              cases hm : ps'[hd].mark with
              | true =>
                rw [hm] at c4
                have hpos : 0 < gk := by rw [← HG.out]; exact List.countP_pos_iff.2 ⟨_, List.getElem_mem hhd, hm⟩
                go_wp2_with fail
                go_roundg (gk - 1)
                case rel =>
                  have hu : unmark ps' hd = ps'.set hd (PlcMark ps'[hd] false) := by unfold unmark; rw [List.getElem?_eq_getElem hhd]
                  refine ⟨unmark ps' hd, (hd + 1) % ps.length, f - 1, ?_, by omega, by rw [unmark_length]; exact HN.out, by rw [unmark_length]; have := HN.out; rw [this]; exact Nat.mod_lt _ (by omega), ?_, ?_⟩
                  · have := marks_set ps' hd hhd hm
                    rw [hu]; have := HG.out; omega
                  · have := HW.out
                    obtain ⟨f', rfl⟩ : ∃ f', f = f' + 1 := ⟨f - 1, by omega⟩
                    unfold sweep at this
                    rw [HM.out, hm, if_pos rfl, HN.out] at this
                    exact this
                  · rw [E1.out]
                    exact (OO.out.mark0 hhd).setHand _
                case measure => omega
              | false =>
                rw [hm] at c4
                have hst := HW.out
                rw [sweep_stop _ _ _ (HM.out.trans hm)] at hst
                injection hst with e1 e2
                subst e1; subst e2
                have HL2 : Hid (∀ (x y : Value) (W : World), Out w (w.heap.size + 1) gg cap ob (ps'.set hd (fresh k v)) ((hd + 1) % ps.length) W → ∃ pb' c', Ending.returned (.tuple #[.agg #[.slice (some ⟨gg, 0, none⟩) ps.length cap, .int .i64 (((hd + 1) % ps.length : Nat) : Int)], .string ps'[hd].key, .bool true]) = Ending.returned (.tuple #[.agg #[.slice (some ⟨pb', 0, none⟩) ps.length c', .int .i64 R.hand], .string (R.gone.getD ByteArray.empty), .bool R.gone.isSome]) ∧ w.heap.size ≤ pb' ∧ ps.length ≤ c' ∧ RowP ((W.setCell ⟨w.heap.size + 1, 0, none⟩ x).setCell ⟨w.heap.size + 1, 1, none⟩ y) pb' R.ps ∧ Below w.heap.size w ((W.setCell ⟨w.heap.size + 1, 0, none⟩ x).setCell ⟨w.heap.size + 1, 1, none⟩ y)) := by
                  intro x y W O
                  rw [HE.out]
                  obtain ⟨a, b⟩ := O.last x y
                  exact ⟨gg, cap, rfl, O.g0, by have := O.hcap; rw [List.length_set] at this; have := HN.out; omega, a, b⟩
                clear HL HE
                go_wp2_with fail
                rw [E1.out]
                refine bodyPost_ret (v := .tuple #[.agg #[.slice (some ⟨gg, 0, none⟩) ps.length cap, .int .i64 (((hd + 1) % ps.length : Nat) : Int)], .string ps'[hd].key, .bool true]) ?_ rfl ?_
                · simp [results, Tryd.results8, go_sem, r0', r1', rf', nr, ng, hne]
                · have A := OO.out.put hd hhd (fresh k v)
                  simp only [fresh] at A
                  exact HL2.out _ _ _ (A.setHand _)
        · have HLs := Lib.hid ((HL.out s hs (by unfold spot; rw [HF.out, hfs]; rfl)))
          obtain ⟨c1, c2, c3, c4⟩ := HO.out.row.row s hs
          have cf := HO.out.row.frozen
          clear HL hfs
          go_wp2_with fail
          refine bodyPost_ret (v := .tuple #[.agg #[.slice (some ⟨gg, 0, none⟩) ps.length cap, .int .i64 hand], .string ByteArray.empty, .bool false]) ?_ rfl ?_
          · simp [results, Tryd.results8, go_sem, r0, r1, rf, nr, ng, hne]
            rfl
          · exact HLs.out.out _ _ _ (HO.out.put s hs (fresh k v))
end Go.Proofs.YtolgkepkdidjcaaDoor
