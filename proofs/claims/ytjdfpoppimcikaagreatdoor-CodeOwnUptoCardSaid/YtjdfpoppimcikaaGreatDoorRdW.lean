/- lex.Bare. -/
import Derived.Test.YtjdfpoppimcikaaGreatDoorLexW
import Derived.Test.YtjdfpoppimcikaaGreatDoorShelfH
namespace Go.Proofs.YtjdfpoppimcikaaGreatDoor
open Go.RowKit

def barT (o : LexR) (n : Nat) : Value := match o with | none => .tuple #[.string ⟨#[]⟩, .int .i64 0, .iface 67 (.int .i64 3)] | some p => .tuple #[.string (str p.1), .int .i64 ((n - p.2.length : Nat) : Int), .nilIface]
theorem sgnAt_at (mark : Bool) (s : ByteArray) (j : Nat) (h : j < s.size) : sgnAt mark s j = sigL mark s[j] := by
  unfold sgnAt sigH
  rw [drop_at s j h]; rfl
theorem len_drop (s : ByteArray) (j : Nat) : ((bts s).drop j).length = s.size - j := by rw [List.length_drop, bts_len]
set_option maxHeartbeats 6400000 in
set_option maxRecDepth 100000 in
theorem Bare_any (s : ByteArray) (mark : Bool) (w : World) (hs : s.size ≤ 1000000000) :
    Calls Tryz.prog 39 #[.string s, .bool mark] w fun e w' => e = .returned (barT (bareM mark (bts s)) s.size) ∧ Below w.heap.size w w' := by
  obtain ⟨W3, eW3⟩ : ∃ W3, W3 = ((w.alloc (.cells #[.string s] 9)).alloc (.cells #[.bool mark] 4)).alloc (.cells #[.pointer none, .slice none 0 0] 60) := ⟨_, rfl⟩
  have HS0 : Hid (BaSt w s mark [] W3) := Lib.hid (by rw [eW3]; exact BaSt.made w s mark)
  have hmf : ∀ (fn : Fn) (first cap : Array Value) (w : World), (Instr.makeFunc fn first cap).run Tryz.prog w = .ok (.func fn first cap) w := fun _ _ _ _ => rfl
  obtain ⟨Q, hQ⟩ : ∃ Q, Q = bareM mark (bts s) := ⟨_, rfl⟩
  rw [← hQ]
  have HQ := Lib.hid hQ
  have EW := Lib.hid eW3
  clear hQ eW3
  go_enter Tryz.func39, Tryz.ntmps39
  go_wp2_with fail
  rw [← EW.out]
  clear EW
  go_loopw [9, 10, 11, 12] (fun k _ _ _ wr => ∃ (j : Nat) (l : List UInt8) (n : Nat), j ≤ s.size ∧ k = .int .i64 (j : Int) ∧ l.length ≤ j ∧ Hid (Q = (lexL mark (n + 1) ((bts s).drop j)).map (appL l) ∧ s.size - j ≤ n) ∧ BaSt w s mark l wr) (fun k _ _ _ _ => s.size - (intOf k).toNat)
  case atStart => exact ⟨0, [], s.size, Nat.zero_le _, rfl, Nat.le_refl _, Lib.hid ⟨by rw [appL_nil, HQ.out, List.drop_zero]; unfold bareM; rw [bts_len], by omega⟩, HS0.out⟩
  case round =>
    clear HS0 HQ
    obtain ⟨j, l, n, hj, rfl, hl, HI, hS⟩ := hrel
    obtain ⟨wo, rfl⟩ : ∃ wo : World, wo = wr := ⟨_, rfl⟩
    have HS := Lib.hid hS
    have t0 := (hS.txt.cell 0).trans (show _ = some (.string s) from rfl)
    have hws := hS.size
    have HT := Lib.hid (bld_text hS.bld hS.size)
    clear hS
    by_cases hlt : j < s.size
    · have i1 : (0 : Int) ≤ (j : Int) := Int.natCast_nonneg j
      have i2 : (j : Int) < (s.size : Int) := by omega
      have i3 : (j : Int) ≤ (s.size : Int) := by omega
      have hda := drop_at s j hlt
      have hsg := sgnAt_at mark s j hlt
      have HG := Lib.hid (sign_any w wo s mark j hs HS.out.txt HS.out.mrk)
      cases hsj : sgnAt mark s j with
      | true =>
        rw [hsj] at HG
        have HE : Hid (Q = some (l, (bts s).drop j)) := Lib.hid (by
          rw [HI.out.1, hda, lexL_sign (by rw [← hsg, hsj])]
          show some _ = some _
          rw [appL, List.append_nil])
        have HL := Lib.hid (len_drop s j)
        clear HI hda hsg hsj
        go_wp2_with fail
        refine HG.out.mono ?_
        clear HG
        rintro e w1 ⟨rfl, q, rfl⟩
        have hS1 := HS.out.drewN q
        have HT1 := Lib.hid (bld_text hS1.bld hS1.size)
        have HB1 := Lib.hid hS1.below
        clear HT hS1
        go_wp2_with fail
        refine HT1.out.mono ?_
        clear HT1
        rintro e w2 ⟨rfl, hb2⟩
        have HBe := Lib.hid (HB1.out.trans (hb2.mono (by omega)))
        clear hb2
        go_wp2_with fail
        go_ret3
        refine ⟨?_, HBe.out⟩
        rw [HE.out]
        show _ = Ending.returned (.tuple #[.string (str l), .int .i64 ((s.size - ((bts s).drop j).length : Nat) : Int), .nilIface])
        rw [HL.out, show s.size - (s.size - j) = j from by omega]
        rfl
      | false =>
        rw [hsj] at HG
        have hs0 : sigL mark s[j] = false := by rw [← hsg, hsj]
        have h39 := u8_39 s[j]
        have HP : Hid (∀ W, Calls Tryz.prog 67 #[.string (s.extract j s.size), .string ⟨#[39, 39]⟩] W fun e w' => e = .returned (.bool (Lib.hasPrefix ((bts s).drop j) [39, 39])) ∧ w' = W) := Lib.hid fun W => hasPre_any s j W
        have HWr : Hid (∀ (x : UInt8) W, BaSt w s mark l W → Calls Tryz.prog 68 #[.pointer (some ⟨w.heap.size + 2, 0, none⟩), .int .u8 x.toNat] W fun e w' => e = .returned .nilIface ∧ BaSt w s mark (l ++ [x]) w') := Lib.hid fun x W h =>
          (wbyte_any _ _ l x W h.bld (by omega) h.size).mono fun e w' ⟨h1, h2, h3⟩ => ⟨h1, h.on h3 h2⟩
        clear hsg hsj HT
        by_cases hc : s[j] = 39
        · rw [decide_eq_true hc] at h39
          rw [hc] at hda hs0
          rw [hda, two_head] at HP
          by_cases hh : ((bts s).drop (j + 1)).head? = some 39
          · rw [decide_eq_true hh] at HP
            have hlt2 : j + 1 < s.size := by
              refine Decidable.byContradiction fun h => ?_
              rw [List.drop_of_length_le (by rw [bts_len]; omega)] at hh
              cases hh
            have hda2 := drop_at s (j + 1) hlt2
            have hc2 : s[j + 1] = 39 := by rw [hda2] at hh; exact Option.some.inj hh
            have hn1 : 1 ≤ n := by have := HI.out.2; omega
            obtain ⟨n', rfl⟩ : ∃ n', n = n' + 1 := ⟨n - 1, by omega⟩
            have HI2 : Hid (Q = (lexL mark (n' + 1) ((bts s).drop (j + 1 + 1))).map (appL (l ++ [39])) ∧ s.size - (j + 1 + 1) ≤ n') := Lib.hid ⟨by rw [HI.out.1, hda, hda2, hc2, lexL_two hs0, appL_two], by have := HI.out.2; omega⟩
            have HC : Hid (∀ W, BaSt w s mark l W → Calls Tryz.prog 68 #[.pointer (some ⟨w.heap.size + 2, 0, none⟩), .int .u8 39] W fun e w' => e = .returned .nilIface ∧ BaSt w s mark (l ++ [39]) w') := Lib.hid (HWr.out 39)
            have g0 : (j : Int) + 2 ≤ (s.size : Int) := by omega
            clear HWr HI hda hda2 hc hc2 hh hs0
            go_wp2_with fail
            refine HG.out.mono ?_
            clear HG
            rintro e w1 ⟨rfl, q, rfl⟩
            have hS1 := HS.out.drewN q
            have t1 := (hS1.txt.cell 0).trans (show _ = some (.string s) from rfl)
            have HC1 := Lib.hid (HC.out _ hS1)
            have HP1 := Lib.hid (HP.out (wo.drewN q))
            clear hS1 HC HP
            go_wp2_with fail
            refine HP1.out.mono ?_
            clear HP1
            rintro e w2 ⟨rfl, rfl⟩
            go_wp2_with fail
            refine HC1.out.mono ?_
            clear HC1
            rintro e w3 ⟨rfl, hS3⟩
            have HS3 := Lib.hid hS3
            clear hS3 t1
            go_wp2_with fail
            refine ⟨⟨j + 1 + 1, l ++ [39], n', by omega, by go_num, by simp; omega, HI2, HS3.out⟩, by simp [intOf]; omega⟩
          · rw [decide_eq_false hh] at HP
            have HG2 : Hid (∀ W, BaSt w s mark l W → Calls Tryz.prog 65 #[.int .i64 ((j : Int) + 1), .pointer (some ⟨w.heap.size, 0, none⟩), .pointer (some ⟨w.heap.size + 1, 0, none⟩)] W fun e w' => e = .returned (.bool (sgnAt mark s (j + 1))) ∧ ∃ n, w' = W.drewN n) := Lib.hid fun W h => by
              have := sign_any w W s mark (j + 1) hs h.txt h.mrk
              exact this
            cases hs2 : sgnAt mark s (j + 1) with
            | true =>
              rw [hs2] at HG2
              have hlt2 : j + 1 < s.size := by
                refine Decidable.byContradiction fun h => ?_
                unfold sgnAt sigH at hs2
                rw [List.drop_of_length_le (by rw [bts_len]; omega)] at hs2
                cases hs2
              have hn := HI.out.2
              have hHI := HI.out.1
              rw [hda] at hHI
              have HQu : Hid (∀ W, BaSt w s mark l W → Calls Tryz.prog 69 #[.string s, .int .i64 ((j : Int) + 1)] W fun e w' => e = .returned (quoT (quotedL ((bts s).drop (j + 1))) s.size) ∧ BaSt w s mark l w') := Lib.hid fun W h => by
                have h1 := quoted_any s (j + 1) W (by omega) hs
                exact h1.mono fun e w' ⟨p1, p2⟩ => ⟨p1, h.on (p2.mono h.size) (h.bld.below p2)⟩
              have HEx : Hid ((quotedL ((bts s).drop (j + 1)) = none ∧ Q = none) ∨ ∃ t e, quotedL ((bts s).drop (j + 1)) = some (t, (bts s).drop e) ∧ e ≤ s.size ∧ j + 1 < e ∧ l.length + t.length ≤ e ∧ t.length ≤ 1000000000 ∧ ∃ n', Q = (lexL mark (n' + 1) ((bts s).drop e)).map (appL (l ++ t)) ∧ s.size - e ≤ n') := Lib.hid (by
                cases hq : quotedL ((bts s).drop (j + 1)) with
                | none => exact .inl ⟨rfl, by rw [hHI, lexL_bad hs0 hh hs2 hq]; rfl⟩
                | some p =>
                  obtain ⟨t, r⟩ := p
                  have h5 := quotedL_len _ _ t r (Nat.le_refl _) hq
                  have h6 := quotedL_drop _ _ (t, r) (Nat.le_refl _) hq
                  dsimp only at h6
                  rw [len_drop] at h5 h6
                  rw [List.drop_drop] at h6
                  have h7 : j + 1 + (s.size - (j + 1) - r.length) = s.size - r.length := by omega
                  rw [h7] at h6
                  have hn1 : 1 ≤ n := by omega
                  obtain ⟨n', rfl⟩ : ∃ n', n = n' + 1 := ⟨n - 1, by omega⟩
                  refine .inr ⟨t, s.size - r.length, by rw [← h6], by omega, by omega, by omega, by omega, n', ?_, by omega⟩
                  rw [hHI, lexL_good hs0 hh hs2 hq, appL_two]
                  dsimp only
                  rw [← h6])
              clear HI hda hc hh hs0 hs2 hHI HWr
              generalize quotedL ((bts s).drop (j + 1)) = qo at *
              go_wp2_with fail
              refine HG.out.mono ?_
              clear HG
              rintro e w1 ⟨rfl, q, rfl⟩
              have hS1 := HS.out.drewN q
              have t1 := (hS1.txt.cell 0).trans (show _ = some (.string s) from rfl)
              have HP1 := Lib.hid (HP.out (wo.drewN q))
              have HS1 := Lib.hid hS1
              clear hS1 HP
              go_wp2_with fail
              refine HP1.out.mono ?_
              clear HP1
              rintro e w2 ⟨rfl, rfl⟩
              have HG3 := Lib.hid (HG2.out _ HS1.out)
              clear HG2
              go_wp2_with fail
              refine HG3.out.mono ?_
              clear HG3
              rintro e w3 ⟨rfl, q3, rfl⟩
              have hS3 := HS.out.drewN (q + q3)
              have t3 := (hS3.txt.cell 0).trans (show _ = some (.string s) from rfl)
              have HQ3 := Lib.hid (HQu.out _ hS3)
              clear hS3 HQu HS1 t1
              go_wp2_with fail
              refine HQ3.out.mono ?_
              clear HQ3
              rintro e w4 ⟨rfl, hS4⟩
              have HS4 := Lib.hid hS4
              clear hS4 t3
              rcases HEx.out with ⟨rfl, hQn⟩ | ⟨t, ee, rfl, he1, he2, he3, he4, n', hQn, hn2⟩
              · have HQn := Lib.hid hQn
                clear HEx hQn
                unfold quoT
                dsimp only
                go_wp2_with fail
                go_ret3
                exact ⟨by rw [HQn.out]; rfl, HS4.out.below⟩
              · have HQn := Lib.hid (And.intro hQn hn2)
                have HWs : Hid (Calls Tryz.prog 34 #[.pointer (some ⟨w.heap.size + 2, 0, none⟩), .string (str t)] w4 fun e w' => e = .returned (.tuple #[.int .i64 (str t).size, .nilIface]) ∧ BaSt w s mark (l ++ t) w') := Lib.hid
                  ((wstr_any _ _ l (str t) w4 HS4.out.bld (by rw [str_size]; omega) HS4.out.size).mono fun e w' ⟨h1, h2, h3⟩ => ⟨h1, HS4.out.on h3 h2⟩)
                have HLe := Lib.hid (len_drop s ee)
                clear HEx hQn hn2
                unfold quoT
                dsimp only
                rw [HLe.out, show s.size - (s.size - ee) = ee from by omega]
                go_wp2_with fail
                refine HWs.out.mono ?_
                clear HWs
                rintro e w5 ⟨rfl, hS5⟩
                have HS5 := Lib.hid hS5
                clear hS5
                go_wp2_with fail
                refine ⟨⟨ee, l ++ t, n', he1, rfl, by rw [List.length_append]; exact he3, HQn, HS5.out⟩, by simp [intOf]; omega⟩
            | false =>
              rw [hs2] at HG2
              have hn1 : 1 ≤ n := by have := HI.out.2; omega
              obtain ⟨n', rfl⟩ : ∃ n', n = n' + 1 := ⟨n - 1, by omega⟩
              have HI2 : Hid (Q = (lexL mark (n' + 1) ((bts s).drop (j + 1))).map (appL (l ++ [s[j]])) ∧ s.size - (j + 1) ≤ n') := Lib.hid ⟨by rw [HI.out.1, hda, lexL_plain hs0 (fun _ => ⟨hh, hs2⟩), appL_two, hc], by have := HI.out.2; omega⟩
              have HC : Hid (∀ W, BaSt w s mark l W → Calls Tryz.prog 68 #[.pointer (some ⟨w.heap.size + 2, 0, none⟩), .int .u8 s[j].toNat] W fun e w' => e = .returned .nilIface ∧ BaSt w s mark (l ++ [s[j]]) w') := Lib.hid (HWr.out s[j])
              clear HWr HI hda hc hh hs0 hs2
              go_wp2_with fail
              refine HG.out.mono ?_
              clear HG
              rintro e w1 ⟨rfl, q, rfl⟩
              have hS1 := HS.out.drewN q
              have t1 := (hS1.txt.cell 0).trans (show _ = some (.string s) from rfl)
              have HP1 := Lib.hid (HP.out (wo.drewN q))
              have HS1 := Lib.hid hS1
              clear hS1 HP
              go_wp2_with fail
              refine HP1.out.mono ?_
              clear HP1
              rintro e w2 ⟨rfl, rfl⟩
              have HG3 := Lib.hid (HG2.out _ HS1.out)
              clear HG2
              go_wp2_with fail
              refine HG3.out.mono ?_
              clear HG3
              rintro e w3 ⟨rfl, q3, rfl⟩
              have hS3 := HS.out.drewN (q + q3)
              have t3 := (hS3.txt.cell 0).trans (show _ = some (.string s) from rfl)
              have HC3 := Lib.hid (HC.out _ hS3)
              clear hS3 HC HS1 t1
              go_wp2_with fail
              refine HC3.out.mono ?_
              clear HC3
              rintro e w4 ⟨rfl, hS4⟩
              have HS4 := Lib.hid hS4
              clear hS4 t3
              go_wp2_with fail
              refine ⟨⟨j + 1, l ++ [s[j]], n', by omega, by go_num, by simp; omega, HI2, HS4.out⟩, by simp [intOf]; omega⟩
        · rw [decide_eq_false hc] at h39
          rw [hda, two_no hc] at HP
          have hn1 : 1 ≤ n := by have := HI.out.2; omega
          obtain ⟨n', rfl⟩ : ∃ n', n = n' + 1 := ⟨n - 1, by omega⟩
          have HI2 : Hid (Q = (lexL mark (n' + 1) ((bts s).drop (j + 1))).map (appL (l ++ [s[j]])) ∧ s.size - (j + 1) ≤ n') := Lib.hid ⟨by rw [HI.out.1, hda, lexL_plain hs0 (fun e => absurd e hc), appL_two], by have := HI.out.2; omega⟩
          have HC : Hid (∀ W, BaSt w s mark l W → Calls Tryz.prog 68 #[.pointer (some ⟨w.heap.size + 2, 0, none⟩), .int .u8 s[j].toNat] W fun e w' => e = .returned .nilIface ∧ BaSt w s mark (l ++ [s[j]]) w') := Lib.hid (HWr.out s[j])
          clear HWr HI hda hc hs0
          go_wp2_with fail
          refine HG.out.mono ?_
          clear HG
          rintro e w1 ⟨rfl, q, rfl⟩
          have hS1 := HS.out.drewN q
          have t1 := (hS1.txt.cell 0).trans (show _ = some (.string s) from rfl)
          have HP1 := Lib.hid (HP.out (wo.drewN q))
          have HC1 := Lib.hid (HC.out _ hS1)
          clear hS1 HP HC
          go_wp2_with fail
          refine HP1.out.mono ?_
          clear HP1
          rintro e w2 ⟨rfl, rfl⟩
          go_wp2_with fail
          refine HC1.out.mono ?_
          clear HC1
          rintro e w4 ⟨rfl, hS4⟩
          have HS4 := Lib.hid hS4
          clear hS4 t1
          go_wp2_with fail
          refine ⟨⟨j + 1, l ++ [s[j]], n', by omega, by go_num, by simp; omega, HI2, HS4.out⟩, by simp [intOf]; omega⟩
    · obtain rfl : j = s.size := by omega
      have HE : Hid (Q = some (l, [])) := Lib.hid (by
        rw [HI.out.1, List.drop_of_length_le (by rw [bts_len]; exact Nat.le_refl _), lexL_nil]
        show some _ = some _
        rw [appL, List.append_nil])
      have HK : Hid (∀ W, Below (w.heap.size + 2) wo W → W.cell? ⟨w.heap.size, 0, none⟩ = some (.string s)) := Lib.hid fun W hW => (hW.cell (p := ⟨w.heap.size, 0, none⟩) (by show w.heap.size < _; omega)).trans t0
      have HS1 := Lib.hid HS.out.below
      have hSd := HS.out.drewN 1
      have HTd := Lib.hid (bld_text hSd.bld hSd.size)
      clear HI hSd HT
      go_wp2_with fail
      go_region_held3 (fun w' => w'.cell? ⟨w.heap.size, 0, none⟩ = some (.string s))
        (first
          | exact HK.out _ (Below.refl _ _).drew
          | exact HK.out _ hbx
          | fail)
        (first
          | (go_at_call 19
             (refine HTd.out.mono ?_)
             rintro e wx ⟨rfl, hb⟩
             have hbx : Below (w.heap.size + 2) wo wx := Below.trans (Below.refl _ _).drew hb
             clear hb)
          | fail)
      all_goals
        have HBx := Lib.hid (HS1.out.trans (hbx.mono (by omega)))
        clear hbx
        go_wp2_with fail
        go_ret3
        refine ⟨?_, HBx.out⟩
        rw [HE.out]
        rfl
end Go.Proofs.YtjdfpoppimcikaaGreatDoor
/- The reader's cut, need, word. -/

namespace Go.Proofs.YtjdfpoppimcikaaGreatDoor
open Go.RowKit

/-- a reader: what is left, how deep it is -/
def Rdr (W : World) (k : Nat) (l : List UInt8) (d : Int) : Prop := Blk W k 72 #[.string (str l), .int .i64 d]
def formP : List PanicEntry := [{ v := .iface 67 (.int .i64 3), recovered := false }]
/-- only the reader's block has turned -/
abbrev FrK (k : Nat) (w w' : World) : Prop := Fr w w' (· = k)
theorem Rdr.lt {W : World} {k : Nat} {l : List UInt8} {d : Int} (h : Rdr W k l d) : k < W.heap.size := Blk.lt (t := 72) h
theorem Rdr.on {W W' : World} {k : Nat} {l : List UInt8} {d : Int} (h : Rdr W k l d) (hb : Below W.heap.size W W') : Rdr W' k l d := Blk.below (t := 72) h hb h.lt
theorem Rdr.put {W : World} {k : Nat} {l : List UInt8} {d : Int} (h : Rdr W k l d) (r : List UInt8) : Rdr (W.setCell ⟨k, 0, none⟩ (.string (str r))) k r d := Blk.set_ (t := 72) h 0 (.string (str r))
theorem str_data (l : List UInt8) : (str l).data.toList = l := rfl
theorem str_of (l : List UInt8) : (⟨l.toArray⟩ : ByteArray) = str l := rfl
theorem trim_cut {p l r : List UInt8} (h : cutL p l = some r) : Lib.trimPrefix l p = r ∧ Lib.hasPrefix l p = true := by
  unfold cutL at h
  split at h
  · rename_i h1
    injection h with h
    refine ⟨?_, h1⟩
    unfold Lib.trimPrefix
    rw [if_pos h1, h]
  · cases h
theorem trim_no {p l : List UInt8} (h : cutL p l = none) : Lib.hasPrefix l p = false := by
  unfold cutL at h
  split at h
  · cases h
  · rename_i h1; simpa using h1
set_option maxHeartbeats 1600000 in
set_option maxRecDepth 100000 in
theorem cut_any (k : Nat) (l : List UInt8) (d : Int) (head : ByteArray) (w : World) (h : Rdr w k l d) :
    Calls Tryz.prog 40 #[.pointer (some ⟨k, 0, none⟩), .string head] w fun e w' => e = .returned (.bool (cutL (bts head) l).isSome) ∧ Rdr w' k ((cutL (bts head) l).getD l) d ∧ FrK k w w' := by
  have HC := Lib.hid (Tryz.strings_CutPrefix (str l) head w)
  rw [str_data, str_of] at HC
  have c0 := (Blk.cell (t := 72) h 0).trans (show _ = some (.string (str l)) from rfl)
  have f0 := Blk.frozen (t := 72) h 0
  have H := Lib.hid h
  have HH : Hid (head.data.toList = bts head) := Lib.hid rfl
  rw [HH.out] at HC
  cases ho : cutL (bts head) l with
  | some r =>
    obtain ⟨e1, e2⟩ := trim_cut ho
    rw [e1, e2] at HC
    clear h ho e1 e2
    generalize str l = L at *
    go_enter Tryz.func40, Tryz.ntmps40
    go_wp2_with fail
    refine HC.out.mono ?_
    clear HC
    rintro e w1 ⟨rfl, rfl⟩
    go_wp2_with fail
    go_ret
    exact ⟨rfl, H.out.put r, (Fr.refl w1 (· = k)).setCell (p := ⟨k, 0, none⟩) (.inl rfl) _⟩
  | none =>
    have e2 := trim_no ho
    rw [e2] at HC
    generalize str (Lib.trimPrefix l (bts head)) = T0 at *
    clear h ho e2
    go_enter Tryz.func40, Tryz.ntmps40
    go_wp2_with fail
    refine HC.out.mono ?_
    clear HC
    rintro e w1 ⟨rfl, rfl⟩
    go_wp2_with fail
    go_ret
    exact ⟨rfl, H.out, Fr.refl _ _⟩
/-- what need leaves -/
def NeedR (k : Nat) (d : Int) (l : List UInt8) (o : Option (List UInt8)) (w : World) (e : Ending) (w' : World) : Prop :=
  FrK k w w' ∧ match o with
    | none => e = .panicked formP ∧ Rdr w' k l d
    | some r => e = .returned (.tuple #[]) ∧ Rdr w' k r d
set_option maxHeartbeats 1600000 in
set_option maxRecDepth 100000 in
theorem need_any (k : Nat) (l : List UInt8) (d : Int) (head : ByteArray) (w : World) (h : Rdr w k l d) :
    Calls Tryz.prog 73 #[.pointer (some ⟨k, 0, none⟩), .string head] w fun e w' => NeedR k d l (cutL (bts head) l) w e w' := by
  have HC := Lib.hid (cut_any k l d head w h)
  clear h
  cases ho : cutL (bts head) l with
  | some r =>
    rw [ho] at HC
    clear ho
    go_enter Tryz.func73, Tryz.ntmps73
    go_wp2_with fail
    refine HC.out.mono ?_
    clear HC
    rintro e w1 ⟨rfl, hR, hF⟩
    have HR := Lib.hid (And.intro hR hF)
    clear hR hF
    go_wp2_with fail
    go_end0
    exact ⟨HR.out.2, rfl, HR.out.1⟩
  | none =>
    rw [ho] at HC
    clear ho
    go_enter Tryz.func73, Tryz.ntmps73
    go_wp2_with fail
    refine HC.out.mono ?_
    clear HC
    rintro e w1 ⟨rfl, hR, hF⟩
    have HR := Lib.hid (And.intro hR hF)
    clear hR hF
    go_wp2_with fail
    exact ⟨rfl, HR.out.2, rfl, HR.out.1⟩
def WordR (k : Nat) (d : Int) (l : List UInt8) (o : Option (List UInt8 × List UInt8)) (w : World) (e : Ending) (w' : World) : Prop :=
  FrK k w w' ∧ match o with
    | none => e = .panicked formP ∧ Rdr w' k l d
    | some p => e = .returned (.string (str p.1)) ∧ Rdr w' k p.2 d
/-- what strings.IndexAny does at these signs -/
def IdxOk (ends : ByteArray) : Prop := ∀ (l : List UInt8) (W : World), l.length ≤ 1000000000 → Calls Tryz.prog 111 #[.string (str l), .string ends] W fun e w' => e = .returned (.int .i64 (Lib.indexAny l (bts ends))) ∧ Below W.heap.size W w'
theorem idx_two (X : ByteArray) (hX : X.size = 2) (hlo : ∀ x ∈ X.data.toList, x.toNat < 128) : IdxOk X := fun l W hl => by
  have h := indexAny_two (str l) X hX hlo (by rw [str_size]; omega) W
  rw [str_data] at h
  exact h
theorem idx_one : IdxOk ⟨#[32]⟩ := fun l W _ => by
  have h := Tryz.strings_IndexAny_one (str l) ⟨#[32]⟩ W rfl (fun j b hb => by
    have := List.mem_of_getElem? hb
    simp at this
    rw [this]; decide)
  rw [str_data] at h
  exact h.mono fun e w' ⟨h1, h2⟩ => ⟨h1, h2 ▸ Below.refl _ _⟩
theorem idx_ends : IdxOk ⟨#[44, 125]⟩ := idx_two _ rfl (by decide)
theorem idx_off : IdxOk ⟨#[32, 125]⟩ := idx_two _ rfl (by decide)
theorem indexAny_lt {l e : List UInt8} (h : 0 ≤ Lib.indexAny l e) : (Lib.indexAny l e).toNat ≤ l.length := by
  induction l with
  | nil => exact absurd h (by show ¬ (0 : Int) ≤ -1; decide)
  | cons b l ih =>
    unfold Lib.indexAny at h ⊢
    split
    · exact Nat.zero_le _
    · rename_i h1
      rw [if_neg h1] at h
      split
      · rename_i h2; rw [if_pos h2] at h; exact absurd h (by decide)
      · rename_i h2
        rw [if_neg h2] at h
        have h3 := Lib.indexAny_ge e l
        have h4 : Lib.indexAny l e ≠ -1 := fun e1 => h2 (by rw [e1]; rfl)
        have := ih (by omega)
        rw [List.length_cons]
        omega
set_option maxHeartbeats 1600000 in
set_option maxRecDepth 100000 in
theorem word_any (k : Nat) (l : List UInt8) (d : Int) (ends : ByteArray) (w : World) (h : Rdr w k l d) (hl : l.length ≤ 1000000000) (HX : IdxOk ends) :
    Calls Tryz.prog 71 #[.pointer (some ⟨k, 0, none⟩), .string ends] w fun e w' => WordR k d l (wordL (bts ends) l) w e w' := by
  have HC := Lib.hid (HX l w hl)
  have c0 := (Blk.cell (t := 72) h 0).trans (show _ = some (.string (str l)) from rfl)
  have H := Lib.hid h
  have hge := Lib.indexAny_ge (bts ends) l
  have hls := str_size l
  by_cases h0 : 0 ≤ Lib.indexAny l (bts ends)
  · have hlt := indexAny_lt h0
    have HE : Hid (wordL (bts ends) l = some (l.take (Lib.indexAny l (bts ends)).toNat, l.drop (Lib.indexAny l (bts ends)).toNat)) := Lib.hid (if_pos h0)
    obtain ⟨n, hn⟩ := Int.eq_ofNat_of_zero_le h0
    rw [hn] at HC hlt HE
    rw [Int.toNat_natCast] at hlt HE
    have htk : (str l).extract 0 n = str (l.take n) := bts_inj (by rw [bts_extract, bts_str, bts_str, List.drop_zero])
    have hdr : (str l).extract n l.length = str (l.drop n) := bts_inj (by rw [bts_extract, bts_str, bts_str, List.take_length])
    have i1 : (0 : Int) ≤ (n : Int) := Int.natCast_nonneg n
    have i2 : (n : Int) ≤ ((str l).size : Int) := by omega
    have i3 : ¬ ((n : Int) < 0) := by omega
    have i4 : n ≤ (str l).size := by omega
    unfold WordR
    rw [HE.out]
    dsimp only
    generalize str (l.take n) = T1 at *
    clear h h0 hn hge
    have HD := Lib.hid hdr
    have HW : Hid (∀ W, Below w.heap.size w W → FrK k w (W.setCell ⟨k, 0, none⟩ (.string (str (l.drop n)))) ∧ Rdr (W.setCell ⟨k, 0, none⟩ (.string (str (l.drop n)))) k (l.drop n) d) := Lib.hid fun W hW =>
      ⟨(Fr.of_below hW (· = k)).setCell (p := ⟨k, 0, none⟩) (.inl rfl) _, (H.out.on hW).put _⟩
    generalize str (l.drop n) = T2 at *
    go_enter Tryz.func71, Tryz.ntmps71
    go_wp2_with fail
    refine HC.out.mono ?_
    clear HC
    rintro e w1 ⟨rfl, hb⟩
    have h1 := H.out.on hb
    have c1 := (Blk.cell (t := 72) h1 0).trans (show _ = some (.string (str l)) from rfl)
    have f1 := Blk.frozen (t := 72) h1 0
    have HW1 := Lib.hid (HW.out w1 hb)
    clear hb h1 c0
    go_wp2_with fail
    go_ret
    exact ⟨HW1.out.1, rfl, HW1.out.2⟩
  · have HE : Hid (wordL (bts ends) l = none) := Lib.hid (if_neg h0)
    have h1 : Lib.indexAny l (bts ends) = -1 := by omega
    rw [h1] at HC
    rw [HE.out]
    clear h hge h0 h1
    go_enter Tryz.func71, Tryz.ntmps71
    go_wp2_with fail
    refine HC.out.mono ?_
    clear HC
    rintro e w1 ⟨rfl, hb⟩
    have HR := Lib.hid (And.intro (H.out.on hb) (Fr.of_below hb (· = k)))
    clear hb
    go_wp2_with fail
    exact ⟨rfl, HR.out.2, rfl, HR.out.1⟩
end Go.Proofs.YtjdfpoppimcikaaGreatDoor
