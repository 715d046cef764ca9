/- ClockTells' walk. -/
import Derived.Test.YtolgkepkdidjcaaDoorQPut
import Derived.Test.YtolgkepkdidjcaaDoorClear
import Derived.Test.YtolgkepkdidjcaaDoorTold
namespace Go.Proofs.YtolgkepkdidjcaaDoor
open Go.RowKit

/-- The program's cache and the reference's, of one state. -/
structure TSt (w : World) (bc bp mb pb c n : Nat) (ps : List Plc) (hand : Nat) (wr : World) : Prop where
  len : ps.length = n
  lt : hand < n
  ca : Cach wr bc bp ps hand
  dist : Dist ps
  m : Blk wr mb 33 #[.slice (some ⟨pb, 0, none⟩) ps.length c, .int .i64 hand]
  row : RowP wr pb ps
  cap : ps.length ≤ c
  bc0 : w.heap.size ≤ bc
  bp0 : w.heap.size ≤ bp
  mb0 : w.heap.size ≤ mb
  pb0 : w.heap.size ≤ pb
  below : Below w.heap.size w wr
theorem Blk.ne_ {w : World} {g g' : Nat} {t t' : TypeId} {cs cs' : Array Value} (h : Blk w g t cs) (h' : Blk w g' t' cs') (hne : t ≠ t') : g ≠ g' := by
  rintro rfl
  unfold Blk at h h'
  rw [h] at h'
  injection h' with h'
  injection h' with _ ht
  exact hne ht
section
variable {w wr w' : World} {bc bp mb pb c n hand : Nat} {ps : List Plc}
theorem TSt.ne (S : TSt w bc bp mb pb c n ps hand wr) : ¬ CS bc bp mb ∧ ¬ CS bc bp pb := by
  obtain ⟨cur, hb, _⟩ := S.row
  refine ⟨?_, ?_⟩
  · rintro (h | h)
    · exact Blk.ne_ S.m S.ca.1 (by decide) h
    · exact Blk.ne_ S.m S.ca.2 (by decide) h
  · rintro (h | h)
    · exact Blk.ne_ hb S.ca.1 (by decide) h
    · exact Blk.ne_ hb S.ca.2 (by decide) h
theorem TSt.ne2 (S : TSt w bc bp mb pb c n ps hand wr) : mb ≠ pb := by
  obtain ⟨cur, hb, _⟩ := S.row
  exact Blk.ne_ S.m hb (by decide)
theorem TSt.below' (S : TSt w bc bp mb pb c n ps hand wr) (hb : Below wr.heap.size wr w') : TSt w bc bp mb pb c n ps hand w' :=
  ⟨S.len, S.lt, S.ca.below hb S.ca.lt.1 S.ca.lt.2, S.dist, S.m.below hb S.m.lt, S.row.below hb S.row.lt, S.cap, S.bc0, S.bp0, S.mb0, S.pb0, S.below.trans (hb.mono S.below.size)⟩
end

theorem Fr.of_drew {w w' : World} {S : Nat → Prop} (h : Fr w.drew w' S) : Fr w w' S := ⟨h.os, h.tape, h.output, h.size, h.block⟩
theorem Below.of_drew {B : Nat} {w w' : World} (h : Below B w.drew w') : Below B w w' := ⟨h.os, h.tape, h.output, h.size, h.block⟩
theorem far2 {w : World} {g b o : Nat} {x y v : Value} (h : b ≠ g) (hc : w.cell? ⟨b, o, none⟩ = some v) : ((w.setCell ⟨g, 0, none⟩ x).setCell ⟨g, 1, none⟩ y).cell? ⟨b, o, none⟩ = some v := by
  rw [World.cell?_setCell_other _ _ _ _ (by intro e; injection e with e; exact h e.symm), World.cell?_setCell_other _ _ _ _ (by intro e; injection e with e; exact h e.symm)]
  exact hc
/-- what the row 'next, gone, is := PutIn(..)' leaves: two ways, one end -/
theorem next_new {wr w4 : World} {pb' c' n hand : Nat} {qs : List Plc} (hr : RowP w4 pb' qs) (hpb : wr.heap.size ≤ pb') (hb : Below wr.heap.size wr w4) :
    Blk (w4.alloc (.cells #[.slice (some ⟨pb', 0, none⟩) n c', .int .i64 hand] 33)) w4.heap.size 33 #[.slice (some ⟨pb', 0, none⟩) n c', .int .i64 hand] ∧ RowP (w4.alloc (.cells #[.slice (some ⟨pb', 0, none⟩) n c', .int .i64 hand] 33)) pb' qs ∧ wr.heap.size ≤ pb' ∧ wr.heap.size ≤ w4.heap.size ∧ Below wr.heap.size wr (w4.alloc (.cells #[.slice (some ⟨pb', 0, none⟩) n c', .int .i64 hand] 33)) :=
  ⟨Blk.new _ _ _, hr.alloc _, hpb, hb.size, hb.alloc hb.size _⟩
theorem next_old {wr w4 : World} {pb' c' n hand g : Nat} {a b : Value} {qs : List Plc} (hr : RowP w4 pb' qs) (hpb : wr.heap.size ≤ pb') (hb : Below wr.heap.size wr w4) (hA : Blk w4 g 33 #[a, b]) (hg : wr.heap.size ≤ g) :
    Blk ((w4.setCell ⟨g, 0, none⟩ (.slice (some ⟨pb', 0, none⟩) n c')).setCell ⟨g, 1, none⟩ (.int .i64 hand)) g 33 #[.slice (some ⟨pb', 0, none⟩) n c', .int .i64 hand] ∧ RowP ((w4.setCell ⟨g, 0, none⟩ (.slice (some ⟨pb', 0, none⟩) n c')).setCell ⟨g, 1, none⟩ (.int .i64 hand)) pb' qs ∧ wr.heap.size ≤ pb' ∧ wr.heap.size ≤ g ∧ Below wr.heap.size wr ((w4.setCell ⟨g, 0, none⟩ (.slice (some ⟨pb', 0, none⟩) n c')).setCell ⟨g, 1, none⟩ (.int .i64 hand)) := by
  have hne := hA.ne_row hr
  exact ⟨(hA.set_ 0 _).set_ 1 _, (hr.far (p := ⟨g, 0, none⟩) (fun e => hne e.symm) _).far (p := ⟨g, 1, none⟩) (fun e => hne e.symm) _, hpb, hg, (hb.setCell (p := ⟨g, 0, none⟩) hg _).setCell (p := ⟨g, 1, none⟩) hg _⟩
section
variable {w wr w4 w5 : World} {bc bp mb pb c n hand : Nat} {ps : List Plc}
theorem TSt.clear {bp' : Nat} (S : TSt w bc bp mb pb c n ps hand wr) (hbp' : wr.heap.size ≤ bp') (hc4 : Cach w4 bc bp' (List.replicate ps.length Plc.zero) 0) (hf4 : Fr wr w4 (fun k => k = bc)) (hn : 0 < n) :
    TSt w bc bp' mb w4.heap.size n n (List.replicate n Plc.zero) 0 (((w4.setCell ⟨mb, 0, none⟩ (.slice (some ⟨w4.heap.size, 0, none⟩) n n)).setCell ⟨mb, 1, none⟩ (.int .i64 0)).alloc (.cells (cellsOf (List.replicate n Plc.zero)).toArray 40)) := by
  have hm4 := S.m.fr hf4 (fun h => S.ne.1 (.inl h))
  have hl := S.len
  rw [hl] at hc4
  have hf5 : Fr w4 (((w4.setCell ⟨mb, 0, none⟩ (.slice (some ⟨w4.heap.size, 0, none⟩) n n)).setCell ⟨mb, 1, none⟩ (.int .i64 0)).alloc (.cells (cellsOf (List.replicate n Plc.zero)).toArray 40)) (fun k => k = mb) := (((Fr.refl w4 (fun k => k = mb)).setCell (p := ⟨mb, 0, none⟩) (.inl rfl) _).setCell (p := ⟨mb, 1, none⟩) (.inl rfl) _).alloc _
  have h1 : bc ≠ mb := Blk.ne_ hc4.1 hm4 (by decide)
  have h2 : bp' ≠ mb := Blk.ne_ hc4.2 hm4 (by decide)
  have hb := S.below.size
  have hs4 := hf4.size
  have hr : RowP (((w4.setCell ⟨mb, 0, none⟩ (.slice (some ⟨w4.heap.size, 0, none⟩) n n)).setCell ⟨mb, 1, none⟩ (.int .i64 0)).alloc (.cells (cellsOf (List.replicate n Plc.zero)).toArray 40)) w4.heap.size (List.replicate n Plc.zero) := by
    have h := Blk.new ((w4.setCell ⟨mb, 0, none⟩ (.slice (some ⟨w4.heap.size, 0, none⟩) n n)).setCell ⟨mb, 1, none⟩ (.int .i64 0)) 40 (cellsOf (List.replicate n Plc.zero)).toArray
    have e : ((w4.setCell ⟨mb, 0, none⟩ (.slice (some ⟨w4.heap.size, 0, none⟩) n n)).setCell ⟨mb, 1, none⟩ (.int .i64 0)).heap.size = w4.heap.size := by simp [World.setCell]
    rw [e] at h
    exact ⟨_, h, by rw [List.toList_toArray, List.take_of_length_le]; exact Nat.le_of_eq (cellsOf_length _)⟩
  refine ⟨by simp, hn, hc4.fr hf5 h1 h2, Dist.zero n, ?_, hr, by simp, S.bc0, by omega, S.mb0, by omega, ?_⟩
  · have h := ((hm4.set_ 0 (.slice (some ⟨w4.heap.size, 0, none⟩) n n)).set_ 1 (.int .i64 0)).alloc (.cells (cellsOf (List.replicate n Plc.zero)).toArray 40)
    rw [List.length_replicate]
    exact h
  · exact Fr.below (Fr.below S.below hf4 hb (by rintro k rfl; exact S.bc0)) hf5 (by omega) (by rintro k rfl; exact S.mb0)
theorem TSt.next {wx : World} {pb' c' hd : Nat} {qs : List Plc} (S : TSt w bc bp mb pb c n ps hand wr) (hbN : Below wr.heap.size wr wx) (hrN : RowP wx pb' qs) (hc' : ps.length ≤ c') (hpb' : wr.heap.size ≤ pb')
    (hf5 : Fr wx w5 (CS bc bp)) (hc5 : Cach w5 bc bp qs hd) (hq : qs.length = n) (hhd : hd < n) (hdist : Dist qs) :
    TSt w bc bp mb pb' c' n qs hd ((w5.setCell ⟨mb, 0, none⟩ (.slice (some ⟨pb', 0, none⟩) ps.length c')).setCell ⟨mb, 1, none⟩ (.int .i64 hd)) := by
  have Sx := S.below' hbN
  have hm5 := Sx.m.fr hf5 Sx.ne.1
  have hl := S.len
  have hcx := Sx.ca
  have hnpb : ¬ CS bc bp pb' := by
    obtain ⟨cur, hb, _⟩ := hrN
    rintro (h | h)
    · exact Blk.ne_ hb hcx.1 (by decide) h
    · exact Blk.ne_ hb hcx.2 (by decide) h
  have hr5 := hrN.fr hf5 hnpb
  have hf6 : Fr w5 ((w5.setCell ⟨mb, 0, none⟩ (.slice (some ⟨pb', 0, none⟩) ps.length c')).setCell ⟨mb, 1, none⟩ (.int .i64 hd)) (fun k => k = mb) := ((Fr.refl w5 (fun k => k = mb)).setCell (p := ⟨mb, 0, none⟩) (.inl rfl) _).setCell (p := ⟨mb, 1, none⟩) (.inl rfl) _
  have h1 : bc ≠ mb := Blk.ne_ hc5.1 hm5 (by decide)
  have h2 : bp ≠ mb := Blk.ne_ hc5.2 hm5 (by decide)
  have hb := S.below.size
  have hbx := hbN.size
  have hs5 := hf5.size
  refine ⟨hq, hhd, hc5.fr hf6 h1 h2, hdist, ?_, hr5.fr hf6 (fun h => hm5.ne_row hr5 h.symm), by omega, S.bc0, S.bp0, S.mb0, by omega, ?_⟩
  · have h := (hm5.set_ 0 (.slice (some ⟨pb', 0, none⟩) ps.length c')).set_ 1 (.int .i64 hd)
    rw [hq, ← hl]
    exact h
  · exact Fr.below (Fr.below Sx.below hf5 (by omega) (by rintro k (h | h) <;> (have := S.bc0; have := S.bp0; omega))) hf6 (by omega) (by rintro k rfl; exact S.mb0)
theorem TSt.drewN (S : TSt w bc bp mb pb c n ps hand wr) (k : Nat) : TSt w bc bp mb pb c n ps hand (wr.drewN k) :=
  ⟨S.len, S.lt, S.ca, S.dist, S.m, S.row, S.cap, S.bc0, S.bp0, S.mb0, S.pb0, below_drewN S.below k⟩
theorem TSt.asked {q : Nat} (S : TSt w bc bp mb pb c n ps hand wr) (hq : q < ps.length) {qs : List Plc} (hqs : qs = ps.set q (PlcMark ps[q] true)) (hcs : qs.map core = ps.map core)
    (hf5 : Fr (wr.setCell ⟨pb, q * 4 + 3, none⟩ (.bool true)) w5 (CS bc bp)) (hc5 : Cach w5 bc bp qs hand) : TSt w bc bp mb pb c n qs hand w5 := by
  have hf1 : Fr wr (wr.setCell ⟨pb, q * 4 + 3, none⟩ (.bool true)) (fun k => k = pb) := (Fr.refl wr (fun k => k = pb)).setCell (p := ⟨pb, q * 4 + 3, none⟩) (.inl rfl) _
  have hr1 : RowP (wr.setCell ⟨pb, q * 4 + 3, none⟩ (.bool true)) pb qs := by rw [hqs]; exact S.row.set1 q 3 (.bool true) _ hq (by omega) rfl
  have hm1 := S.m.fr hf1 S.ne2
  have hl : qs.length = ps.length := len_core hcs
  have hb := S.below.size
  have hb1 := hf1.size
  refine ⟨by rw [hl]; exact S.len, S.lt, hc5, S.dist.core hcs, by rw [hl]; exact hm1.fr hf5 S.ne.1, hr1.fr hf5 S.ne.2, by rw [hl]; exact S.cap, S.bc0, S.bp0, S.mb0, S.pb0, ?_⟩
  exact Fr.below (Fr.below S.below hf1 hb (by rintro k rfl; exact S.pb0)) hf5 (by omega) (by rintro k (h | h) <;> (have := S.bc0; have := S.bp0; omega))
end

set_option maxRecDepth 100000 in
set_option maxHeartbeats 1600000 in
theorem clockTells_yes (n : Nat) (kv vv : Value) (keys vals : List ByteArray) (w : World) (hE : ErrVar w) (hk : ListOk Enc.str w 0 w.heap.size kv keys) (hv : ListOk Enc.str w 0 w.heap.size vv vals)
    (hkl : keys.length ≤ 140737488355328) (hvl : vals.length ≤ 140737488355328) (h1 : 1 ≤ n) (h2 : n ≤ 50) :
    Calls Tryd.prog 3 #[.int .i64 n, kv, vv] w fun e w' => e = .returned (.bool true) ∧ Below w.heap.size w w' := by
  obtain ⟨KA, kc, rfl, hkc⟩ := hk.form
  obtain ⟨VA, vc, rfl, hvc⟩ := hv.form
  have hmk0 : ∀ W : World, (Instr.makeSlice 31 (.int .i64 (n : Int)) (.int .i64 (n : Int))).run Tryd.prog W = .ok (.slice (some ⟨W.heap.size, 0, none⟩) n n) (W.alloc (.cells (cellsOf (List.replicate n Plc.zero)).toArray 40)) := by
    obtain ⟨i0, hi, hz0, hz1, hz2⟩ := info_parts info_qplace
    intro W
    have := run_make_rowN (P := Tryd.prog) 31 40 i0 _ Tryd.underlying31 hi hz0 .i64 .i64 n n (Nat.le_refl _) (by rw [hz2]; omega) (by omega) W
    rw [hz1] at this
    rw [this, ← made_cells]; rfl
  have HMK := Lib.hid hmk0
  clear hmk0
  have d1 : decide ((n : Int) < 1) = false := decide_eq_false (by omega)
  have d2 : decide ((50 : Int) < (n : Int)) = false := decide_eq_false (by omega)
  go_enter Tryd.func3, Tryd.ntmps3
  go_wp2_with fail
  refine (clocked_yes _).mono ?_
  rintro e w1 ⟨rfl, hb1⟩
  go_wp2_with fail
  refine (new_yes n _ h1 h2).mono ?_
  rintro e w2 ⟨bc, bp, rfl, hbc, hbp, hc2, hb2⟩
  have hB2 : Below w.heap.size w w2 := hb1.trans (hb2.mono hb1.size)
  have hSE := serror_any 0 0 w2 (hE.below hB2 hE.lt)
  rw [errV_zero] at hSE
  have HSE := Lib.hid hSE
  clear hSE
  go_wp2_with fail
  refine HSE.out.mono ?_
  rintro e w3 ⟨rfl, hb3⟩
  have hmk := HMK.out
  simp only [decide_true]
  go_wp2_with fail
  have hz1 := hb1.size
  have hz2 := hb2.size
  have hz3 := hb3.size
  have S0 : TSt w bc bp (w3.heap.size + 1) w3.heap.size n n (List.replicate n Plc.zero) 0 ((w3.alloc (.cells (cellsOf (List.replicate n Plc.zero)).toArray 40)).alloc (.cells #[.slice (some ⟨w3.heap.size, 0, none⟩) n n, .int .i64 0] 33)) := by
    have hb4 : Below w3.heap.size w3 ((w3.alloc (.cells (cellsOf (List.replicate n Plc.zero)).toArray 40)).alloc (.cells #[.slice (some ⟨w3.heap.size, 0, none⟩) n n, .int .i64 0] 33)) := ((Below.refl _ _).alloc (Nat.le_refl _) _).alloc (by simp) _
    have hm := Blk.new (w3.alloc (.cells (cellsOf (List.replicate n Plc.zero)).toArray 40)) 33 #[.slice (some ⟨w3.heap.size, 0, none⟩) n n, .int .i64 0]
    rw [World.size_alloc] at hm
    have hr : RowP (w3.alloc (.cells (cellsOf (List.replicate n Plc.zero)).toArray 40)) w3.heap.size (List.replicate n Plc.zero) := ⟨_, Blk.new w3 _ _, by rw [List.toList_toArray, List.take_of_length_le]; exact Nat.le_of_eq (cellsOf_length _)⟩
    have hc3 := hc2.below hb3 hc2.lt.1 hc2.lt.2
    exact ⟨by simp, by omega, hc3.below hb4 hc3.lt.1 hc3.lt.2, Dist.zero n, by rw [List.length_replicate]; exact hm, hr.alloc _, by simp, by omega, by omega, by omega, by omega, (hB2.trans (hb3.mono (by omega))).trans (hb4.mono (by omega))⟩
  clear hmk hb1 hb2 hb3 hc2 hB2 hbc hbp
  obtain ⟨mb, hmb⟩ : ∃ mb, mb = w3.heap.size + 1 := ⟨_, rfl⟩
  rw [← hmb] at S0 ⊢
  clear hmb
  go_loopw [13] (fun i wr => ∃ (j : Nat) (bp pb c : Nat) (ps : List Plc) (hand : Nat), i = .int .i64 j ∧ j ≤ keys.length ∧ j ≤ vals.length ∧ TSt w bc bp mb pb c n ps hand wr) (fun i _ => keys.length - (intOf i).toNat)
  case atStart => exact ⟨0, _, _, _, _, _, rfl, Nat.zero_le _, Nat.zero_le _, S0⟩
  case round =>
    obtain ⟨j, bp, pb, c, ps, hand, rfl, hj1, hj2, S⟩ := hrel
    clear S0
    by_cases hlt : j < keys.length
    · by_cases hlt2 : j < vals.length
      · obtain ⟨kb, ko, rfl, _, hkb, hkcell⟩ := hk.strAt j hlt
        obtain ⟨vb, vo, rfl, _, hvb, hvcell⟩ := hv.strAt j hlt2
        have kc0 : wr.cell? ⟨kb, ko + j, none⟩ = some (.string keys[j]) := (S.below.cell (by exact hkb)).trans hkcell
        have vc0 : wr.cell? ⟨vb, vo + j, none⟩ = some (.string vals[j]) := (S.below.cell (by exact hvb)).trans hvcell
        clear hkcell hvcell
        have HS := Lib.hid S
        have hn50 : ps.length ≤ 50 := by have := S.len; omega
        have hwz := S.below.size
        clear S
        go_upto_if 74 with fail
        go_cut [] (fun wx => ∃ (bp pb c : Nat) (ps : List Plc) (hand : Nat), TSt w bc bp mb pb c n ps hand wx)
        case first =>
          by_cases hcl : (vals[j].toList == [99, 108, 101, 97, 114]) = true
          · have H := Lib.hid (clear_any bc bp ps hand wr HS.out.ca hn50)
            rw [hcl]
            go_wp2_with fail
            refine H.out.mono ?_
            rintro e w4 ⟨rfl, bp', hbp', hc4, hf4⟩
            have S4 : Hid (Blk w4 mb 33 #[.slice (some ⟨pb, 0, none⟩) ps.length c, .int .i64 hand]) := HS.out.m.fr hf4 (fun h => HS.out.ne.1 (.inl h))
            have m0 := S4.out.cell 0
            have m1 := S4.out.cell 1
            have mf := S4.out.frozen
            have mlt := S4.out.lt
            have hmk := HMK.out
            go_wp2_with fail
            go_meet
            exact ⟨_, _, _, _, _, HS.out.clear hbp' hc4 hf4 (by omega)⟩
          · have hcl' : (vals[j].toList == [99, 108, 101, 97, 114]) = false := by simpa using hcl
            rw [hcl']
            clear hcl
            by_cases hem : vals[j].toList = []
            · have hem1 : (!vals[j].toList.isEmpty) = false := by simp [hem]
              have hem2 : vals[j].toList.isEmpty = true := by simp [hem]
              have HA : Hid (∀ W, RowP W pb ps → Calls Tryd.prog 10 #[.agg #[.slice (some ⟨pb, 0, none⟩) ps.length c, .int .i64 hand], .string keys[j]] W fun e w' => e = .returned (.int .i64 (idx (ps.findIdx? (hit keys[j])))) ∧ Below W.heap.size W w') :=
                fun W hW => qat_any pb c hand ps keys[j] W hW HS.out.cap hn50
              have HG : Hid (∀ W, Cach W bc bp ps hand → Calls Tryd.prog 11 #[.pointer (some ⟨bc, 0, none⟩), .string keys[j]] W fun e w' => e = .returned (.tuple #[.string ((getV ps keys[j]).getD ByteArray.empty), .bool (getV ps keys[j]).isSome]) ∧ Cach w' bc bp (getPs ps keys[j]) hand ∧ Fr W w' (CS bc bp)) :=
                fun W hW => get_any bc bp ps hand keys[j] W hW hn50
              have m0 := HS.out.m.cell 0
              have m1 := HS.out.m.cell 1
              clear hem
              go_wp2_with fail
              go_region_held3 (fun w' => w'.cell? ⟨mb, 0, none⟩ = some (.slice (some ⟨pb, 0, none⟩) ps.length c) ∧ w'.cell? ⟨mb, 1, none⟩ = some (.int .i64 hand) ∧ w'.cell? ⟨kb, ko + j, none⟩ = some (.string keys[j]))
                (first | go_keep | exact ⟨m0', m1', kc'⟩)
                (first
                  | (go_at_call 10
                     refine (HA.out _ HS.out.row.drew).mono ?_
                     rintro e w4 ⟨rfl, hb4⟩
                     have m0' := (hb4.cell (p := ⟨mb, 0, none⟩) HS.out.m.lt).trans m0
                     have m1' := (hb4.cell (p := ⟨mb, 1, none⟩) HS.out.m.lt).trans m1
                     have kc' := (hb4.cell (p := ⟨kb, ko + j, none⟩) (Nat.lt_of_lt_of_le hkb hwz)).trans kc0))
              have S4 := HS.out.below' (Below.of_drew hb4)
              have H4 := Lib.hid S4
              have kc4 : w4.cell? ⟨kb, ko + j, none⟩ = some (.string keys[j]) := (hb4.cell (p := ⟨kb, ko + j, none⟩) (Nat.lt_of_lt_of_le hkb hwz)).trans kc0
              have vc4 : w4.cell? ⟨vb, vo + j, none⟩ = some (.string vals[j]) := (hb4.cell (p := ⟨vb, vo + j, none⟩) (Nat.lt_of_lt_of_le hvb hwz)).trans vc0
              have n0 := S4.m.cell 0
              have n1 := S4.m.cell 1
              have nkb : kb ≠ pb := by have := S4.pb0; omega
              clear S4 m0 m1 kc0 vc0
              cases hf : ps.findIdx? (hit keys[j]) with
              | some q =>
                have hq := findIdx_lt hf
                have e1 : getV ps keys[j] = some ps[q].val := by
                  unfold getV; rw [hf]; simp [List.getElem?_eq_getElem hq]
                have e2 : getPs ps keys[j] = ps.set q (PlcMark ps[q] true) := by
                  unfold getPs; rw [hf]; simp only [List.getElem?_eq_getElem hq]
                have HG2 : Hid (∀ W, Cach W bc bp ps hand → Calls Tryd.prog 11 #[.pointer (some ⟨bc, 0, none⟩), .string keys[j]] W fun e w' => e = .returned (.tuple #[.string ps[q].val, .bool true]) ∧ Cach w' bc bp (getPs ps keys[j]) hand ∧ Fr W w' (CS bc bp)) := by
                  intro W hW
                  have h := HG.out W hW
                  rw [e1] at h
                  exact h
                have E2 := Lib.hid e2
                obtain ⟨r1, r2, r3, r4⟩ := H4.out.row.row q hq
                have rf := H4.out.row.frozen
                have gg1 : (ps[q].val.toList == ps[q].val.toList) = true := eqs_self _
                clear hf e1 e2
                simp only [idx]
                go_wp2_with fail
                refine (HG2.out _ ?_).mono ?_
                · exact H4.out.ca.fr ((Fr.refl w4 (fun k => k = pb)).setCell (p := ⟨pb, q * 4 + 3, none⟩) (.inl rfl) _) (fun h => H4.out.ne.2 (.inl h.symm)) (fun h => H4.out.ne.2 (.inr h.symm))
                rintro e w5 ⟨rfl, hc5, hf5⟩
                go_wp2_with fail
                go_meet
                exact ⟨bp, pb, c, getPs ps keys[j], hand, H4.out.asked hq E2.out (core_get ps keys[j]) hf5 hc5⟩
              | none =>
                have e1 : getV ps keys[j] = none := by unfold getV; rw [hf]
                have e2 : getPs ps keys[j] = ps := by unfold getPs; rw [hf]
                have HG2 : Hid (∀ W, Cach W bc bp ps hand → Calls Tryd.prog 11 #[.pointer (some ⟨bc, 0, none⟩), .string keys[j]] W fun e w' => e = .returned (.tuple #[.string ByteArray.empty, .bool false]) ∧ Below W.heap.size W w') := fun W hW => get_no bc bp ps hand keys[j] W hW hn50 hf
                have hca4 := H4.out.ca
                clear hf e1 e2
                simp only [idx]
                go_wp2_with fail
                refine (HG2.out _ hca4).mono ?_
                rintro e w5 ⟨rfl, hb5⟩
                go_wp2_with fail
                go_meet
                exact ⟨bp, pb, c, ps, hand, H4.out.below' hb5⟩
            · have hem1 : (!vals[j].toList.isEmpty) = true := by simpa using hem
              have hem2 : vals[j].toList.isEmpty = false := by simpa using hem
              obtain ⟨R, hR⟩ : ∃ R, R = putR ps hand keys[j] vals[j] := ⟨_, rfl⟩
              have HPI : Hid (∀ W, RowP W pb ps → Calls Tryd.prog 8 #[.agg #[.slice (some ⟨pb, 0, none⟩) ps.length c, .int .i64 hand], .string keys[j], .string vals[j]] W fun e w' => ∃ pb' c', e = .returned (.tuple #[.agg #[.slice (some ⟨pb', 0, none⟩) ps.length c', .int .i64 R.hand], .string (R.gone.getD ByteArray.empty), .bool R.gone.isSome]) ∧ W.heap.size ≤ pb' ∧ ps.length ≤ c' ∧ RowP w' pb' R.ps ∧ Below W.heap.size W w') := by
                rw [hR]
                exact fun W hW => putin_any pb c hand ps keys[j] vals[j] W hW HS.out.cap hn50 (by rw [HS.out.len]; exact HS.out.lt)
              have HP : Hid (∀ W, Cach W bc bp ps hand → Calls Tryd.prog 9 #[.pointer (some ⟨bc, 0, none⟩), .string keys[j], .string vals[j]] W fun e w' => e = .returned (.tuple #[.string (R.gone.getD ByteArray.empty), .bool R.gone.isSome]) ∧ Cach w' bc bp R.ps R.hand ∧ Fr W w' (CS bc bp)) := by
                rw [hR]
                exact fun W hW => put_any bc bp ps hand _ _ W hW hn50 (by rw [HS.out.len]; exact HS.out.lt)
              have HR := Lib.hid hR
              clear hR
              have m0 := HS.out.m.cell 0
              have m1 := HS.out.m.cell 1
              have hz9 := Blk.new wr 33 #[.slice none 0 0, .int .i64 0]
              have HZ := Lib.hid hz9
              clear hz9
              go_upto_region 19 with fail
              go_cut [14, 15, 16] (fun s14 s15 s16 wx => ∃ nb pb' c', s14 = .pointer (some ⟨nb, 0, none⟩) ∧ s15 = .string (R.gone.getD ByteArray.empty) ∧ s16 = .bool R.gone.isSome ∧ Blk wx nb 33 #[.slice (some ⟨pb', 0, none⟩) ps.length c', .int .i64 R.hand] ∧ RowP wx pb' R.ps ∧ ps.length ≤ c' ∧ wr.heap.size ≤ pb' ∧ wr.heap.size ≤ nb ∧ Below wr.heap.size wr wx)
              case first =>
                go_region_held3 (fun w' => w'.cell? ⟨mb, 0, none⟩ = some (.slice (some ⟨pb, 0, none⟩) ps.length c) ∧ w'.cell? ⟨mb, 1, none⟩ = some (.int .i64 hand) ∧ w'.cell? ⟨kb, ko + j, none⟩ = some (.string keys[j]) ∧ w'.cell? ⟨vb, vo + j, none⟩ = some (.string vals[j]))
                  (first | go_keep | exact ⟨m0', m1', kc', vc'⟩ | exact ⟨far2 (Nat.ne_of_lt HS.out.m.lt) m0', far2 (Nat.ne_of_lt HS.out.m.lt) m1', far2 (Nat.ne_of_lt (Nat.lt_of_lt_of_le hkb hwz)) kc', far2 (Nat.ne_of_lt (Nat.lt_of_lt_of_le hvb hwz)) vc'⟩)
                  (first
                    | (go_at_call 8
                       refine (HPI.out _ ?_).mono ?_
                       · repeat' (first | with_reducible exact HS.out.row | with_reducible apply RowP.drew | with_reducible apply RowP.alloc)
                       rintro e w4 ⟨pb', c', rfl, hpb', hc', hr4, hb4⟩
                       have hbB : Below wr.heap.size wr w4 := by
                         refine Below.trans ?_ (hb4.mono ?_)
                         · repeat' (first | with_reducible exact Below.refl _ _ | with_reducible apply Below.drew | (with_reducible refine Below.alloc ?_ ?_ _) | (simp; done))
                         · simp
                       have hpb2 : wr.heap.size ≤ pb' := by
                         have h9 := hpb'
                         simp only [World.size_alloc, World.size_drew] at h9
                         omega
                       have m0' := (hbB.cell (p := ⟨mb, 0, none⟩) HS.out.m.lt).trans m0
                       have m1' := (hbB.cell (p := ⟨mb, 1, none⟩) HS.out.m.lt).trans m1
                       have kc' := (hbB.cell (p := ⟨kb, ko + j, none⟩) (Nat.lt_of_lt_of_le hkb hwz)).trans kc0
                       have vc' := (hbB.cell (p := ⟨vb, vo + j, none⟩) (Nat.lt_of_lt_of_le hvb hwz)).trans vc0
                       try
                         have hA : Blk w4 wr.heap.size 33 #[.slice none 0 0, .int .i64 0] := by
                           refine Blk.below ?_ hb4 ?_
                           · repeat' (first | with_reducible exact HZ.out | with_reducible apply Blk.drew)
                           · simp
                         have a0 := hA.cell 0
                         have a1 := hA.cell 1
                         have a2 := hA.frozen
                         have A := Lib.hid hA))
                all_goals
                  go_wp2_with fail
                  go_meet
                  first
                    | exact ⟨_, pb', c', rfl, rfl, rfl, (next_new hr4 hpb2 hbB).1, (next_new hr4 hpb2 hbB).2.1, hc', (next_new hr4 hpb2 hbB).2.2⟩
                    | exact ⟨_, pb', c', rfl, rfl, rfl, (next_old hr4 hpb2 hbB A.out (Nat.le_refl _)).1, (next_old hr4 hpb2 hbB A.out (Nat.le_refl _)).2.1, hc', (next_old hr4 hpb2 hbB A.out (Nat.le_refl _)).2.2⟩
              case rest =>
                obtain ⟨nb, pb', c', rfl, rfl, rfl, hN, hrN, hc', hpb', hnb, hbN⟩ := hcut
                have Sx := HS.out.below' hbN
                have hcx := Sx.ca
                have hnn : ¬ CS bc bp nb := by
                  rintro (h | h)
                  · exact Blk.ne_ hN hcx.1 (by decide) h
                  · exact Blk.ne_ hN hcx.2 (by decide) h
                have kc1 := (hbN.cell (p := ⟨kb, ko + j, none⟩) (Nat.lt_of_lt_of_le hkb hwz)).trans kc0
                have vc1 := (hbN.cell (p := ⟨vb, vo + j, none⟩) (Nat.lt_of_lt_of_le hvb hwz)).trans vc0
                have hzN := hbN.size
                have HX := Lib.hid Sx
                have HNN := Lib.hid hN
                clear m0 m1 kc0 vc0 Sx hN HPI HZ
                go_wp2_with fail
                go_region_held3 (fun w' => w'.cell? ⟨kb, ko + j, none⟩ = some (.string keys[j]) ∧ w'.cell? ⟨vb, vo + j, none⟩ = some (.string vals[j]))
                  (first | go_keep | exact ⟨kc', vc'⟩)
                  (first
                    | (go_at_call 9
                       refine (HP.out _ hcx.drew).mono ?_
                       rintro e w5 ⟨rfl, hc5, hf5⟩
                       have kc' := (hf5.cell (p := ⟨kb, ko + j, none⟩) (by show kb < wc.heap.size; omega) (by have := HX.out.bc0; have := HX.out.bp0; rintro (h | h) <;> simp at h <;> omega)).trans kc1
                       have vc' := (hf5.cell (p := ⟨vb, vo + j, none⟩) (by show vb < wc.heap.size; omega) (by have := HX.out.bc0; have := HX.out.bp0; rintro (h | h) <;> simp at h <;> omega)).trans vc1))
                have hN5 := HNN.out.drew.fr hf5 hnn
                have hM5 := HX.out.m.drew.fr hf5 HX.out.ne.1
                have n0 := hN5.cell 0
                have n1 := hN5.cell 1
                have m0 := hM5.cell 0
                have m1 := hM5.cell 1
                have mf := hM5.frozen
                have gg1 : ((R.gone.getD ByteArray.empty).toList == (R.gone.getD ByteArray.empty).toList) = true := eqs_self _
                have gg2 : (R.gone.isSome == R.gone.isSome) = true := by simp
                clear hN5 hM5
                go_wp2_with fail
                go_meet
                exact ⟨bp, pb', c', R.ps, R.hand, HS.out.next hbN hrN hc' hpb' hf5.of_drew hc5 (by rw [HR.out, putR_len]; exact HS.out.len) (by have := putR_hand ps hand keys[j] vals[j] (by rw [HS.out.len]; exact HS.out.lt); rw [HS.out.len] at this; rw [HR.out]; exact this) (by rw [HR.out]; exact HS.out.dist.put hand _ _ (by rw [HS.out.len]; exact HS.out.lt))⟩
        case rest =>
          obtain ⟨bp2, pb2, c2, ps2, hand2, S2⟩ := hcut
          have hl2 : ps2.length ≤ 50 := by have := S2.len; omega
          have HS2 := Lib.hid S2
          have m0 := S2.m.cell 0
          have m1 := S2.m.cell 1
          have hkk := keysOf_len ps2
          have hk50 : (keysOf ps2).length ≤ 140737488355328 := by omega
          clear S2 HMK hkk
          go_wp2_with fail
          go_region_held3 (fun w' => w'.cell? ⟨mb, 0, none⟩ = some (.slice (some ⟨pb2, 0, none⟩) ps2.length c2) ∧ w'.cell? ⟨mb, 1, none⟩ = some (.int .i64 hand2))
            (first | go_keep | exact ⟨m0', m1'⟩ | exact ⟨m0'', m1''⟩)
            (first
              | (go_at_call 13
                 refine (keys_any bc bp2 ps2 hand2 _ HS2.out.ca.drew hl2).mono ?_
                 rintro e w4 ⟨v1, rfl, hown1, hb4⟩
                 have m0' := (hb4.cell (p := ⟨mb, 0, none⟩) HS2.out.m.lt).trans m0
                 have m1' := (hb4.cell (p := ⟨mb, 1, none⟩) HS2.out.m.lt).trans m1)
              | (go_at_call 14
                 refine (qkeys_any pb2 c2 hand2 ps2 _ (HS2.out.row.drew.below hb4 HS2.out.row.lt) HS2.out.cap hl2).mono ?_
                 rintro e w5 ⟨v2, rfl, hown2, hb5⟩
                 have hz4 := hb4.size
                 have m0'' := (hb5.cell (p := ⟨mb, 0, none⟩) (Nat.lt_of_lt_of_le HS2.out.m.lt hz4)).trans m0'
                 have m1'' := (hb5.cell (p := ⟨mb, 1, none⟩) (Nat.lt_of_lt_of_le HS2.out.m.lt hz4)).trans m1')
              | (go_at_call 12
                 refine (texts_any _ _ (keysOf ps2) (keysOf ps2) _ _ _ _ _ ((ListOk.strs_of_own hown1 (Nat.le_refl _) (Nat.le_refl _)).keep Enc.str_laws (Alk.of_below hb5)) (ListOk.strs_of_own hown2 (Nat.le_refl _) (Nat.le_refl _)) hk50 hk50).mono ?_
                 rintro e w6 ⟨rfl, nd, rfl⟩))
          have S6 := Lib.hid (((HS2.out.below' (Below.of_drew hb4)).below' hb5).drewN nd)
          go_wp2_with fail
          go_roundw
          case rel => exact ⟨j + 1, bp2, pb2, c2, ps2, hand2, by go_num, by omega, by omega, S6.out⟩
          case measure => simp [intOf]; omega
      · go_wp2_with fail
        go_ret
        exact ⟨rfl, S.below⟩
    · go_wp2_with fail
      go_ret
      exact ⟨rfl, S.below⟩

set_option maxRecDepth 100000 in
set_option maxHeartbeats 400000 in
theorem clockTells_no (n : Int) (kv vv : Value) (w : World) (hE : ErrVar w) (h : n < 1 ∨ 50 < n) :
    Calls Tryd.prog 3 #[.int .i64 n, kv, vv] w fun e w' => e = .returned (.bool true) ∧ Below w.heap.size w w' := by
  have hz : ∀ w1, Below w.heap.size w w1 → Calls Tryd.prog 6 #[.iface 29 (.int .i64 1), .int .i64 1] w1 fun e w' => e = .returned (.bool true) ∧ Below w1.heap.size w1 w' := fun w1 hb => by
    have := serror_any 1 1 w1 (hE.below hb hE.lt)
    rw [errV_ne (by decide), decide_eq_true rfl] at this
    exact this
  have HZ := Lib.hid hz
  clear hz
  rcases h with h | h
  · go_enter Tryd.func3, Tryd.ntmps3
    go_wp2_with fail
    refine (clocked_yes _).mono ?_
    rintro e w1 ⟨rfl, hb1⟩
    go_wp2_with fail
    refine (new_no n _ (.inl h)).mono ?_
    rintro e w2 ⟨rfl, rfl⟩
    go_wp2_with fail
    refine (HZ.out w2 hb1).mono ?_
    rintro e w3 ⟨rfl, hb3⟩
    go_wp2_with fail
    go_ret
    exact ⟨rfl, hb1.trans (hb3.mono hb1.size)⟩
  · have h0 : ¬ n < 1 := by omega
    go_enter Tryd.func3, Tryd.ntmps3
    go_wp2_with fail
    refine (clocked_yes _).mono ?_
    rintro e w1 ⟨rfl, hb1⟩
    go_wp2_with fail
    refine (new_no n _ (.inr h)).mono ?_
    rintro e w2 ⟨rfl, rfl⟩
    go_wp2_with fail
    refine (HZ.out w2 hb1).mono ?_
    rintro e w3 ⟨rfl, hb3⟩
    go_wp2_with fail
    go_ret
    exact ⟨rfl, hb1.trans (hb3.mono hb1.size)⟩
end Go.Proofs.YtolgkepkdidjcaaDoor
