/- dec.Round to three digits behind the point. -/
import Derived.Test.YtjdfpoppimcikaaGreatDoorDecD
import Derived.Test.YtjdfpoppimcikaaGreatDoorOpen
import Derived.Test.YtjdfpoppimcikaaGreatDoorOpenB
import Derived.Lib.ItoaLen
namespace Go.Proofs.YtjdfpoppimcikaaGreatDoor
open Go.RowKit

def absD (c : Int) : Int := if c < 0 then -c else c
def wholeD (d : DecV) : Int := Int.tdiv (absD d.coef) (P10 (d.scale - 3).toNat)
def restD (d : DecV) : Int := Int.tmod (absD d.coef) (P10 (d.scale - 3).toNat)
def upD (d : DecV) : Int := if nearE (wholeD d) (restD d) (P10 (d.scale - 3).toNat) then wholeD d + 1 else wholeD d
def round3 (d : DecV) : DecV := ⟨if d.coef < 0 then -upD d else upD d, 3⟩
theorem upD_bound (d : DecV) (h : d.ok) (h3 : 3 < d.scale) : 0 ≤ wholeD d ∧ wholeD d ≤ 100000000000000 ∧ 0 ≤ upD d ∧ upD d ≤ 1000000000000000 := by
  unfold DecV.ok at h
  obtain ⟨h0, h1, h2, h4⟩ := h
  have ha : 0 ≤ absD d.coef ∧ absD d.coef ≤ 1000000000000000 := by unfold absD; split <;> omega
  have hp : 10 ≤ P10 (d.scale - 3).toNat := by
    unfold P10
    have : 10 ^ 1 ≤ 10 ^ (d.scale - 3).toNat := Nat.pow_le_pow_right (by decide) (by omega)
    omega
  have hw : 0 ≤ wholeD d ∧ wholeD d ≤ 100000000000000 := by
    unfold wholeD
    rw [Int.tdiv_eq_ediv_of_nonneg ha.1]
    have q1 := Int.ediv_nonneg ha.1 (Int.le_of_lt (P10_pos (d.scale - 3).toNat))
    generalize P10 (d.scale - 3).toNat = u at *
    have q2 := Int.ediv_mul_le (absD d.coef) (by omega : u ≠ 0)
    generalize absD d.coef / u = z at *
    have q3 := Int.mul_le_mul_of_nonneg_left hp q1
    omega
  refine ⟨hw.1, hw.2, ?_, ?_⟩ <;> (unfold upD; split <;> omega)
theorem round3_ok (d : DecV) (h : d.ok) (h3 : 3 < d.scale) : (round3 d).ok := by
  obtain ⟨_, _, q1, q2⟩ := upD_bound d h h3
  unfold round3 DecV.ok
  dsimp only
  refine ⟨by decide, by decide, ?_, ?_⟩ <;> (split <;> omega)
set_option maxHeartbeats 6400000 in
set_option maxRecDepth 100000 in
theorem round_any (d : DecV) (w : World) (hd : d.ok) (h3 : 3 < d.scale) : Calls Tryz.prog 88 #[d.v, .int .i64 3, .int .i64 5] w fun e w' => e = .returned (.tuple #[(round3 d).v, .nilIface]) ∧ Below w.heap.size w w' := by
  have HA : Hid (∀ W, Calls Tryz.prog 26 #[d.v] W fun e w' => e = .returned .nilIface ∧ Below W.heap.size W w') := Lib.hid fun W => by
    have h := checkD_any d W
    rwa [checkD_ok hd] at h
  obtain ⟨q1, q2, q3, q4⟩ := upD_bound d hd h3
  have HR : Hid (round3 d = ⟨if d.coef < 0 then -upD d else upD d, 3⟩) := Lib.hid rfl
  have HU : Hid (upD d = if nearE (wholeD d) (restD d) (P10 (d.scale - 3).toNat) then wholeD d + 1 else wholeD d) := Lib.hid rfl
  have hrest : 0 ≤ restD d ∧ restD d ≤ 1000000000 := by
    unfold restD
    unfold DecV.ok at hd
    have ha : 0 ≤ absD d.coef := by unfold absD; split <;> omega
    rw [Int.tmod_eq_emod_of_nonneg ha]
    have h1 := P10_pos (d.scale - 3).toNat
    have h2 := P10_le (d.scale - 3).toNat (by omega)
    have h3 := Int.emod_nonneg (absD d.coef) (by omega : P10 (d.scale - 3).toNat ≠ 0)
    have h4 := Int.emod_lt_of_pos (absD d.coef) h1
    omega
  have HNe : Hid (∀ W sg, Calls Tryz.prog 123 #[.int .i64 5, .int .i64 (wholeD d), .int .i64 (restD d), .int .i64 (P10 (d.scale - 3).toNat), .int .i64 sg] W fun e w' => e = .returned (.bool (nearE (wholeD d) (restD d) (P10 (d.scale - 3).toNat))) ∧ w' = W) := Lib.hid fun W sg =>
    nearer_any _ _ _ sg W hrest.1 hrest.2
  have HWh : Hid (wholeD d = Int.tdiv (if d.coef < 0 then -d.coef else d.coef) (P10 (d.scale - 3).toNat) ∧ restD d = Int.tmod (if d.coef < 0 then -d.coef else d.coef) (P10 (d.scale - 3).toNat)) := Lib.hid ⟨rfl, rfl⟩
  generalize round3 d = rd at *
  generalize upD d = up at *
  generalize wholeD d = wh at *
  generalize restD d = re at *
  obtain ⟨c, s⟩ := d
  unfold DecV.ok at hd
  obtain ⟨s0, s1, c0, c1⟩ := hd
  dsimp only at s0 s1 c0 c1 h3 HR HU HNe HWh
  obtain ⟨k, hk⟩ : ∃ k : Nat, s - 3 = k := ⟨(s - 3).toNat, by omega⟩
  have hk9 : k ≤ 9 := by omega
  have hek : (s - 3).toNat = k := by omega
  rw [hek] at HU HNe HWh
  have HP : Hid (∀ W, Calls Tryz.prog 96 #[.int .i64 k] W fun e w' => e = .returned (.int .i64 (P10 k)) ∧ w' = W) := Lib.hid fun W => power_any k W hk9
  have hu0 := P10_pos k
  generalize P10 k = u at *
  generalize nearE wh re u = ne at *
  have hun : ¬ (u = 0) := by omega
  have hw1 : wrap64 (s - 3) = k := by rw [hk]; unfold wrap64; omega
  have hw2 : wrap64 (-c) = -c := by unfold wrap64; omega
  have hw3 : wrap64 (wh + 1) = wh + 1 := by unfold wrap64; omega
  have hw6 : wrap64 wh = wh := by unfold wrap64; omega
  have hw4 : wrap64 (-up) = -up := by unfold wrap64; omega
  have hw5 : wrap64 up = up := by unfold wrap64; omega
  have hs3 : ¬ (s ≤ 3) := by omega
  obtain ⟨W2, eW2⟩ : ∃ W2, W2 = (w.alloc (.cells #[.int .i64 c, .int .i64 s] 33)).alloc (.cells #[.int .i64 0, .int .i64 0] 33) := ⟨_, rfl⟩
  have ma : Blk W2 w.heap.size 33 #[.int .i64 c, .int .i64 s] := by rw [eW2]; exact (Blk.new _ _ _).alloc _
  have mr : Blk W2 (w.heap.size + 1) 33 #[.int .i64 0, .int .i64 0] := by
    rw [eW2]
    have := Blk.new (w.alloc (.cells #[.int .i64 c, .int .i64 s] 33)) 33 #[.int .i64 0, .int .i64 0]
    rw [World.size_alloc] at this; exact this
  have hb2 : Below w.heap.size w W2 := by rw [eW2]; exact ((Below.refl _ _).alloc (Nat.le_refl _) _).alloc (by simp) _
  have HB2 := Lib.hid hb2
  have MA := Lib.hid ma
  have MR := Lib.hid mr
  have EW := Lib.hid eW2
  have k0 := (ma.cell 0).trans (show _ = some (.int .i64 c) from rfl)
  have k1 := (ma.cell 1).trans (show _ = some (.int .i64 s) from rfl)
  unfold DecV.v at HA ⊢
  dsimp only at HA
  clear hb2 ma mr eW2 hek hk hk9 s0 s1 c0 c1 q1 q2 q3 q4 hu0 hrest h3
  go_enter Tryz.func88, Tryz.ntmps88
  go_upto_region 1 with fail
  rw [← EW.out]
  clear EW
  go_wp2_with fail
  refine (HA.out W2).mono ?_
  clear HA
  rintro e w3 ⟨rfl, hb3⟩
  have m3 := MA.out.below hb3 MA.out.lt
  have n3 := MR.out.below hb3 MR.out.lt
  have HB3 := Lib.hid (HB2.out.trans (hb3.mono HB2.out.size))
  have d0 := (m3.cell 0).trans (show _ = some (.int .i64 c) from rfl)
  have d1 := (m3.cell 1).trans (show _ = some (.int .i64 s) from rfl)
  have r0 := (n3.cell 0).trans (show _ = some (.int .i64 0) from rfl)
  have r1 := (n3.cell 1).trans (show _ = some (.int .i64 0) from rfl)
  have f0 := n3.frozen 0
  have f1 := n3.frozen 1
  clear m3 n3 hb3 k0 k1 MA MR HB2
  by_cases hc : c < 0
  · have hc2 : ¬ (0 ≤ c) := by omega
    obtain ⟨e1, e2⟩ := HWh.out
    rw [if_pos hc] at e1 e2
    rw [Int.neg_tdiv] at e1
    rw [Int.neg_tmod] at e2
    have E1 := Lib.hid e1.symm
    have E2 := Lib.hid e2.symm
    have HRd : Hid (rd = ⟨-up, 3⟩) := Lib.hid (by rw [HR.out, if_pos hc])
    clear e1 e2 HWh HR
    go_wp2_with fail
    go_quiet (fail)
    go_wp2_with fail
    refine (HP.out _).mono ?_
    clear HP
    rintro e w5 ⟨rfl, hW⟩
    have d0' : w5.cell? ⟨w.heap.size, 0, none⟩ = some (.int .i64 c) := by rw [hW]; exact d0
    have d1' : w5.cell? ⟨w.heap.size, 1, none⟩ = some (.int .i64 s) := by rw [hW]; exact d1
    have r0' : w5.cell? ⟨w.heap.size + 1, 0, none⟩ = some (.int .i64 0) := by rw [hW]; exact r0
    have r1' : w5.cell? ⟨w.heap.size + 1, 1, none⟩ = some (.int .i64 0) := by rw [hW]; exact r1
    have f0' : w5.frozen? ⟨w.heap.size + 1, 0, none⟩ = false := by rw [hW]; exact f0
    have f1' : w5.frozen? ⟨w.heap.size + 1, 1, none⟩ = false := by rw [hW]; exact f1
    have HB5 : Hid (Below w.heap.size w w5) := Lib.hid (by rw [hW]; exact below_drewN HB3.out _)
    clear hW d0 d1 r0 r1 f0 f1 HB3
    go_wp2_with fail
    go_quiet (fail)
    rw [E1.out, E2.out]
    clear E1 E2 hw1 hw2 hw5 hs3 hun hc hc2 d0' d1'
    go_wp2_with fail
    refine (HNe.out _ _).mono ?_
    clear HNe
    rintro e w5 ⟨rfl, rfl⟩
    cases ne with
    | true =>
      obtain rfl : up = wh + 1 := by rw [HU.out, if_pos rfl]
      go_wp2_with fail
      refine bodyPost_ret (v := .tuple #[.agg #[.int .i64 (-(wh + 1)), .int .i64 3], .nilIface]) ?_ rfl ?_
      · simp [results, Tryz.results88, go_sem, r0', r1', f0', f1']
      · exact ⟨by first | (rw [HRd.out]; done) | (rw [HRd.out]; rfl), ((below_drewN HB5.out _).setCell (p := ⟨_, _, none⟩) (by show w.heap.size ≤ w.heap.size + 1; omega) _).setCell (p := ⟨_, _, none⟩) (by show w.heap.size ≤ w.heap.size + 1; omega) _⟩
    | false =>
      obtain rfl : up = wh := by rw [HU.out, if_neg (by decide)]
      go_wp2_with fail
      refine bodyPost_ret (v := .tuple #[.agg #[.int .i64 (-up), .int .i64 3], .nilIface]) ?_ rfl ?_
      · simp [results, Tryz.results88, go_sem, r0', r1', f0', f1']
      · exact ⟨by first | (rw [HRd.out]; done) | (rw [HRd.out]; rfl), ((below_drewN HB5.out _).setCell (p := ⟨_, _, none⟩) (by show w.heap.size ≤ w.heap.size + 1; omega) _).setCell (p := ⟨_, _, none⟩) (by show w.heap.size ≤ w.heap.size + 1; omega) _⟩
  · have hc2 : (0 ≤ c) := by omega
    obtain ⟨e1, e2⟩ := HWh.out
    rw [if_neg hc] at e1 e2
    rw [Int.tmod_eq_emod_of_nonneg hc2] at e2
    have E1 := Lib.hid e1.symm
    have E2 := Lib.hid e2.symm
    have HRd : Hid (rd = ⟨up, 3⟩) := Lib.hid (by rw [HR.out, if_neg hc])
    clear e1 e2 HWh HR
    go_wp2_with fail
    go_quiet (fail)
    go_wp2_with fail
    refine (HP.out _).mono ?_
    clear HP
    rintro e w5 ⟨rfl, hW⟩
    have d0' : w5.cell? ⟨w.heap.size, 0, none⟩ = some (.int .i64 c) := by rw [hW]; exact d0
    have d1' : w5.cell? ⟨w.heap.size, 1, none⟩ = some (.int .i64 s) := by rw [hW]; exact d1
    have r0' : w5.cell? ⟨w.heap.size + 1, 0, none⟩ = some (.int .i64 0) := by rw [hW]; exact r0
    have r1' : w5.cell? ⟨w.heap.size + 1, 1, none⟩ = some (.int .i64 0) := by rw [hW]; exact r1
    have f0' : w5.frozen? ⟨w.heap.size + 1, 0, none⟩ = false := by rw [hW]; exact f0
    have f1' : w5.frozen? ⟨w.heap.size + 1, 1, none⟩ = false := by rw [hW]; exact f1
    have HB5 : Hid (Below w.heap.size w w5) := Lib.hid (by rw [hW]; exact below_drewN HB3.out _)
    clear hW d0 d1 r0 r1 f0 f1 HB3
    go_wp2_with fail
    go_quiet (fail)
    rw [E1.out, E2.out]
    clear E1 E2 hw1 hw2 hw5 hs3 hun hc hc2 d0' d1'
    go_wp2_with fail
    refine (HNe.out _ _).mono ?_
    clear HNe
    rintro e w5 ⟨rfl, rfl⟩
    cases ne with
    | true =>
      obtain rfl : up = wh + 1 := by rw [HU.out, if_pos rfl]
      go_wp2_with fail
      refine bodyPost_ret (v := .tuple #[.agg #[.int .i64 (wh + 1), .int .i64 3], .nilIface]) ?_ rfl ?_
      · simp [results, Tryz.results88, go_sem, r0', r1', f0', f1']
      · exact ⟨by first | (rw [HRd.out]; done) | (rw [HRd.out]; rfl), ((below_drewN HB5.out _).setCell (p := ⟨_, _, none⟩) (by show w.heap.size ≤ w.heap.size + 1; omega) _).setCell (p := ⟨_, _, none⟩) (by show w.heap.size ≤ w.heap.size + 1; omega) _⟩
    | false =>
      obtain rfl : up = wh := by rw [HU.out, if_neg (by decide)]
      go_wp2_with fail
      refine bodyPost_ret (v := .tuple #[.agg #[.int .i64 up, .int .i64 3], .nilIface]) ?_ rfl ?_
      · simp [results, Tryz.results88, go_sem, r0', r1', f0', f1']
      · exact ⟨by first | (rw [HRd.out]; done) | (rw [HRd.out]; rfl), ((below_drewN HB5.out _).setCell (p := ⟨_, _, none⟩) (by show w.heap.size ≤ w.heap.size + 1; omega) _).setCell (p := ⟨_, _, none⟩) (by show w.heap.size ≤ w.heap.size + 1; omega) _⟩
end Go.Proofs.YtjdfpoppimcikaaGreatDoor
/- nout.trimmed to no digits at the least. -/

namespace Go.Proofs.YtjdfpoppimcikaaGreatDoor
open Go.RowKit

def trimF : Nat → Int → Int × Nat
  | 0, c => (c, 0)
  | n + 1, c => if Int.tmod c 10 = 0 then trimF n (Int.tdiv c 10) else (c, n + 1)
def trimD (d : DecV) : DecV := ⟨(trimF d.scale.toNat d.coef).1, (trimF d.scale.toNat d.coef).2⟩
theorem trimF_ok : ∀ (n : Nat) (c : Int), -1000000000000000 ≤ c → c ≤ 1000000000000000 → (trimF n c).2 ≤ n ∧ -1000000000000000 ≤ (trimF n c).1 ∧ (trimF n c).1 ≤ 1000000000000000
  | 0, c, h1, h2 => ⟨Nat.le_refl _, h1, h2⟩
  | n + 1, c, h1, h2 => by
    unfold trimF
    split
    · obtain ⟨b1, b2⟩ := tdiv_bound (u := 10) (by decide) h1 h2
      obtain ⟨q1, q2, q3⟩ := trimF_ok n _ b1 b2
      exact ⟨by omega, q2, q3⟩
    · exact ⟨Nat.le_refl _, h1, h2⟩
theorem trimD_ok (d : DecV) (h : d.ok) : (trimD d).ok := by
  obtain ⟨h0, h1, h2, h3⟩ := h
  obtain ⟨q1, q2, q3⟩ := trimF_ok d.scale.toNat d.coef h2 h3
  unfold trimD DecV.ok
  dsimp only
  exact ⟨by omega, by omega, q2, q3⟩
theorem trimD_step (c : Int) (n : Nat) (h : Int.tmod c 10 = 0) : trimD ⟨c, ((n + 1 : Nat) : Int)⟩ = trimD ⟨Int.tdiv c 10, (n : Int)⟩ := by
  unfold trimD
  dsimp only
  have e1 : (((n + 1 : Nat) : Int)).toNat = n + 1 := by omega
  have e2 : ((n : Int)).toNat = n := by omega
  have e3 : trimF (n + 1) c = trimF n (Int.tdiv c 10) := if_pos h
  rw [e1, e2, e3]
theorem trimD_stop (c s : Int) (hs : 0 ≤ s) (h : s = 0 ∨ Int.tmod c 10 ≠ 0) : trimD ⟨c, s⟩ = ⟨c, s⟩ := by
  obtain ⟨n, rfl⟩ : ∃ n : Nat, s = n := ⟨s.toNat, by omega⟩
  unfold trimD
  dsimp only
  have e2 : ((n : Int)).toNat = n := by omega
  rw [e2]
  cases n with
  | zero => rfl
  | succ n =>
    unfold trimF
    rw [if_neg (by rcases h with h | h; omega; exact h)]
set_option maxHeartbeats 3200000 in
set_option maxRecDepth 100000 in
theorem trimmed_any (d : DecV) (w : World) (hd : d.ok) : Calls Tryz.prog 87 #[d.v, .int .i64 0] w fun e w' => e = .returned (trimD d).v ∧ Below w.heap.size w w' := by
  obtain ⟨W2, eW2⟩ : ∃ W2, W2 = (w.alloc (.cells #[.int .i64 d.coef, .int .i64 d.scale] 33)).alloc (.cells #[.int .i64 0, .int .i64 0] 33) := ⟨_, rfl⟩
  have ma : Blk W2 w.heap.size 33 #[.int .i64 d.coef, .int .i64 d.scale] := by rw [eW2]; exact (Blk.new _ _ _).alloc _
  have mr : Blk W2 (w.heap.size + 1) 33 #[.int .i64 0, .int .i64 0] := by
    rw [eW2]
    have := Blk.new (w.alloc (.cells #[.int .i64 d.coef, .int .i64 d.scale] 33)) 33 #[.int .i64 0, .int .i64 0]
    rw [World.size_alloc] at this; exact this
  have hb2 : Below w.heap.size w W2 := by rw [eW2]; exact ((Below.refl _ _).alloc (Nat.le_refl _) _).alloc (by simp) _
  have HB2 := Lib.hid hb2
  have MA := Lib.hid ma
  have MR := Lib.hid mr
  have EW := Lib.hid eW2
  have HD := Lib.hid hd
  unfold DecV.v
  clear hb2 ma mr eW2 hd
  go_enter Tryz.func87, Tryz.ntmps87
  go_wp2_with fail
  rw [← EW.out]
  clear EW
  go_loopw [] (fun wr => ∃ (c : Int) (n : Nat), -1000000000000000 ≤ c ∧ c ≤ 1000000000000000 ∧ n ≤ 9 ∧ Hid (trimD d = trimD ⟨c, (n : Int)⟩) ∧ Blk wr w.heap.size 33 #[.int .i64 c, .int .i64 (n : Int)] ∧ Blk wr (w.heap.size + 1) 33 #[.int .i64 0, .int .i64 0] ∧ Below w.heap.size w wr) (fun wr => match wr.cell? ⟨w.heap.size, 1, none⟩ with | some v => (intOf v).toNat | none => 0)
  case atStart =>
    obtain ⟨h0, h1, h2, h3⟩ := HD.out
    obtain ⟨n, hn⟩ : ∃ n : Nat, d.scale = n := ⟨d.scale.toNat, by omega⟩
    refine ⟨d.coef, n, h2, h3, by omega, Lib.hid ?_, ?_, MR.out, HB2.out⟩
    · rw [← hn]
    · rw [← hn]; exact MA.out
  case round =>
    obtain ⟨c, n, hc1, hc2, hn, HT, hma, hmr, hb⟩ := hrel
    obtain ⟨b1, b2⟩ := tdiv_bound (b := c) (u := 10) (by decide) hc1 hc2
    have HB := Lib.hid hb
    have HMA := Lib.hid hma
    have HMR := Lib.hid hmr
    have k0 := (hma.cell 0).trans (show _ = some (.int .i64 c) from rfl)
    have k1 := (hma.cell 1).trans (show _ = some (.int .i64 (n : Int)) from rfl)
    have f0 := hma.frozen 0
    have f1 := hma.frozen 1
    have hw1 : wrap64 (Int.tdiv c 10) = Int.tdiv c 10 := by unfold wrap64; omega
    clear hb hma hmr MA MR HB2
    cases n with
    | zero =>
      have HE := Lib.hid (trimD_stop c ((0 : Nat) : Int) (by omega) (.inl rfl))
      have r0 := (HMR.out.cell 0).trans (show _ = some (.int .i64 0) from rfl)
      have r1 := (HMR.out.cell 1).trans (show _ = some (.int .i64 0) from rfl)
      have g0 := HMR.out.frozen 0
      have g1 := HMR.out.frozen 1
      clear hc1 hc2 b1 b2
      go_wp2_with fail
      refine bodyPost_ret (v := .agg #[.int .i64 c, .int .i64 0]) ?_ rfl ?_
      · simp [results, Tryz.results87, go_sem, r0, r1, g0, g1]
      · exact ⟨by first | (rw [HT.out, HE.out]; done) | (rw [HT.out, HE.out]; rfl), (HB.out.setCell (p := ⟨_, _, none⟩) (by show w.heap.size ≤ w.heap.size + 1; omega) _).setCell (p := ⟨_, _, none⟩) (by show w.heap.size ≤ w.heap.size + 1; omega) _⟩
    | succ n =>
      have i1 : (0 : Int) < ((n + 1 : Nat) : Int) := by omega
      have i2 : (0 : Int) < (n : Int) + 1 := by omega
      have hw2 : wrap64 ((n : Int) + 1 - 1) = (n : Int) := by unfold wrap64; omega
      by_cases h0 : Int.tmod c 10 = 0
      · have HS := Lib.hid (trimD_step c n h0)
        have q0 : (Int.tmod c 10 == 0) = true := by rw [beq_iff_eq]; exact h0
        have HC := Lib.hid (And.intro b1 b2)
        clear hc1 hc2 b1 b2 h0
        go_wp2_with fail
        go_roundw
        case rel =>
          exact ⟨Int.tdiv c 10, n, HC.out.1, HC.out.2, by omega, Lib.hid (by rw [HT.out, HS.out]), (HMA.out.set_ 0 _).set_ 1 _, (HMR.out.far (by show w.heap.size + 1 ≠ w.heap.size; omega) _).far (by show w.heap.size + 1 ≠ w.heap.size; omega) _, (HB.out.setCell (p := ⟨_, _, none⟩) (Nat.le_refl _) _).setCell (p := ⟨_, _, none⟩) (Nat.le_refl _) _⟩
        case measure =>
          have e1 := (((HMA.out.set_ 0 (.int .i64 (Int.tdiv c 10))).set_ 1 (.int .i64 (n : Int))).cell 1).trans (show _ = some (.int .i64 (n : Int)) from rfl)
          rw [e1]
          simp only [k1]
          simp [intOf]
      · have HE := Lib.hid (trimD_stop c ((n + 1 : Nat) : Int) (by omega) (.inr h0))
        have q0 : (Int.tmod c 10 == 0) = false := by rw [beq_eq_false_iff_ne]; exact h0
        have r0 := (HMR.out.cell 0).trans (show _ = some (.int .i64 0) from rfl)
        have r1 := (HMR.out.cell 1).trans (show _ = some (.int .i64 0) from rfl)
        have g0 := HMR.out.frozen 0
        have g1 := HMR.out.frozen 1
        clear hc1 hc2 b1 b2 h0
        go_wp2_with fail
        refine bodyPost_ret (v := .agg #[.int .i64 c, .int .i64 ((n + 1 : Nat) : Int)]) ?_ rfl ?_
        · simp [results, Tryz.results87, go_sem, r0, r1, g0, g1]
        · exact ⟨by first | (rw [HT.out, HE.out]; done) | (rw [HT.out, HE.out]; rfl), (HB.out.setCell (p := ⟨_, _, none⟩) (by show w.heap.size ≤ w.heap.size + 1; omega) _).setCell (p := ⟨_, _, none⟩) (by show w.heap.size ≤ w.heap.size + 1; omega) _⟩
end Go.Proofs.YtjdfpoppimcikaaGreatDoor
/- dec.Text. -/

namespace Go.Proofs.YtjdfpoppimcikaaGreatDoor
open Go.RowKit Go.Sort

theorem str_appD (a b : List UInt8) : str (a ++ b) = str a ++ str b := bts_inj (by simp [bts, str, ByteArray.data_append])
theorem extractD (l : List UInt8) (i j : Nat) : (str l).extract i j = str ((l.take j).drop i) := bts_inj (by rw [bts_extract]; rfl)
theorem itoaD_any (n : Int) (w : World) (h0 : -9223372036854775808 ≤ n) (h1 : n ≤ 9223372036854775807) (hv : MV w) : Calls Tryz.prog 53 #[.int .i64 n] w fun e w' => e = .returned (.string (str (Lib.itoa n))) ∧ Below w.heap.size w w' :=
  (Tryz.strconv_Itoa n h0 h1 w hv.tab).mono fun e w' ⟨he, k, os, hw⟩ => ⟨he, by rw [hw]; exact ⟨rfl, rfl, rfl, by simp [grow, World.drewN], fun i hi => heap_grow_old (w.drewN k) os hi⟩⟩
def digD (c : Int) : List UInt8 := Lib.trimPrefix (Lib.itoa c) [45]
theorem digD_len (c : Int) (h0 : -9223372036854775808 ≤ c) (h1 : c ≤ 9223372036854775807) : (digD c).length ≤ 21 := by
  have h := Lib.itoa_length_le c h0 h1
  unfold digD Lib.trimPrefix
  split
  · rw [List.length_drop]; omega
  · exact h
def sgnD (c : Int) : List UInt8 := if c < 0 then [45] else []
def padD (d : DecV) : List UInt8 := Lib.repeatL [48] (d.scale + 1 - (digD d.coef).length).toNat ++ digD d.coef
def textD (d : DecV) : List UInt8 := if d.scale ≤ 0 then sgnD d.coef ++ digD d.coef else sgnD d.coef ++ (padD d).take ((padD d).length - d.scale.toNat) ++ [46] ++ (padD d).drop ((padD d).length - d.scale.toNat)
theorem padD_len (d : DecV) (h : d.ok) : d.scale.toNat < (padD d).length ∧ (padD d).length ≤ 40 := by
  obtain ⟨h0, h1, h2, h3⟩ := h
  have h4 := digD_len d.coef (by omega) (by omega)
  unfold padD
  rw [List.length_append, Lib.repeatL_length, List.length_singleton]
  omega
theorem textD_len (d : DecV) (h : d.ok) : (textD d).length ≤ 50 := by
  have hp := padD_len d h
  obtain ⟨h0, h1, h2, h3⟩ := h
  have h4 := digD_len d.coef (by omega) (by omega)
  have h5 : (sgnD d.coef).length ≤ 1 := by unfold sgnD; split <;> decide
  unfold textD
  split
  · rw [List.length_append]; omega
  · simp only [List.length_append, List.length_take, List.length_drop, List.length_singleton]; omega
set_option maxHeartbeats 3200000 in
set_option maxRecDepth 100000 in
theorem textD_any (d : DecV) (w : World) (hd : d.ok) (hv : MV w) : Calls Tryz.prog 31 #[d.v] w fun e w' => e = .returned (.string (str (textD d))) ∧ Below w.heap.size w w' := by
  have hpl := padD_len d hd
  obtain ⟨h0, h1, h2, h3⟩ := hd
  have hdl := digD_len d.coef (by omega) (by omega)
  have HI : Hid (∀ W, Below w.heap.size w W → Calls Tryz.prog 53 #[.int .i64 d.coef] W fun e w' => e = .returned (.string (str (Lib.itoa d.coef))) ∧ Below W.heap.size W w') := Lib.hid fun W hW => itoaD_any d.coef W (by omega) (by omega) (hv.below hW)
  have HTp : Hid (∀ W, Calls Tryz.prog 52 #[.string (str (Lib.itoa d.coef)), .string ⟨#[45]⟩] W fun e w' => e = .returned (.string (str (digD d.coef))) ∧ w' = W) := Lib.hid fun W => Tryz.strings_TrimPrefix (str (Lib.itoa d.coef)) ⟨#[45]⟩ W
  have HR : Hid (∀ W, Calls Tryz.prog 54 #[.string ⟨#[48]⟩, .int .i64 ((d.scale + 1 - (digD d.coef).length).toNat : Nat)] W fun e w' => e = .returned (.string (str (Lib.repeatL [48] (d.scale + 1 - (digD d.coef).length).toNat))) ∧ Below W.heap.size W w') := Lib.hid fun W =>
    Tryz.strings_Repeat ⟨#[48]⟩ (d.scale + 1 - (digD d.coef).length).toNat W (by omega) (by
      show 1 * _ ≤ _
      omega)
  have HP : Hid (padD d = Lib.repeatL [48] (d.scale + 1 - (digD d.coef).length).toNat ++ digD d.coef) := Lib.hid rfl
  have HT : Hid (textD d = if d.scale ≤ 0 then sgnD d.coef ++ digD d.coef else sgnD d.coef ++ (padD d).take ((padD d).length - d.scale.toNat) ++ [46] ++ (padD d).drop ((padD d).length - d.scale.toNat)) := Lib.hid rfl
  have HSg : Hid (sgnD d.coef = if d.coef < 0 then [45] else []) := Lib.hid rfl
  have hsl : (sgnD d.coef).length ≤ 1 := by unfold sgnD; split <;> decide
  have hmx : max (0 : Int) (d.scale + 1 - ((digD d.coef).length : Int)) = ((d.scale + 1 - (digD d.coef).length).toNat : Nat) := by omega
  have hrl : (Lib.repeatL [48] (d.scale + 1 - (digD d.coef).length).toNat).length ≤ 20 := by rw [Lib.repeatL_length, List.length_singleton]; omega
  generalize Lib.itoa d.coef = it at *
  generalize textD d = td at *
  generalize padD d = pd at *
  generalize digD d.coef = dg at *
  generalize sgnD d.coef = sg at *
  generalize hp : (d.scale + 1 - (dg.length : Int)).toNat = p at *
  generalize Lib.repeatL [48] p = rl at *
  obtain ⟨c, s⟩ := d
  dsimp only at h0 h1 h2 h3 HI HTp HR HP HT HSg hmx hpl
  have HB : Hid (Below w.heap.size w (w.alloc (.cells #[.int .i64 c, .int .i64 s] 33))) := Lib.hid ((Below.refl _ _).alloc (Nat.le_refl _) _)
  have MA : Hid (Blk (w.alloc (.cells #[.int .i64 c, .int .i64 s] 33)) w.heap.size 33 #[.int .i64 c, .int .i64 s]) := Lib.hid (Blk.new _ _ _)
  have HI2 := Lib.hid (HI.out _ HB.out)
  have EX := Lib.hid (extractD (rl ++ dg) 0 ((rl ++ dg).length - s.toNat))
  have EY := Lib.hid (extractD (rl ++ dg) ((rl ++ dg).length - s.toNat) (rl ++ dg).length)
  have EA := Lib.hid (str_appD rl dg)
  clear hv HI hp
  unfold DecV.v
  dsimp only
  generalize eW1 : w.alloc (.cells #[.int .i64 c, .int .i64 s] 33) = W1 at *
  have EW := Lib.hid eW1
  have k0 := (MA.out.cell 0).trans (show _ = some (.int .i64 c) from rfl)
  clear eW1
  go_enter Tryz.func31, Tryz.ntmps31
  go_upto_if 8 with fail
  rw [EW.out]
  go_cut [3] (fun v wx => v = .string (str sg) ∧ wx = W1)
  case first =>
    by_cases hc : c < 0
    · have hc2 : ¬ (0 ≤ c) := by omega
      go_wp2_with fail
      go_meet
      case rel => exact ⟨by rw [HSg.out, if_pos hc]; rfl, rfl⟩
    · have hc2 : 0 ≤ c := by omega
      go_wp2_with fail
      go_meet
      case rel => exact ⟨by rw [HSg.out, if_neg (by omega)]; rfl, rfl⟩
  case rest =>
    obtain ⟨rfl, hwc⟩ := hcut
    subst hwc
    clear EW
    go_wp2_with fail
    refine HI2.out.mono ?_
    clear HI2
    rintro e w2 ⟨rfl, hb2⟩
    have HB2 := Lib.hid (HB.out.trans (hb2.mono HB.out.size))
    have MA2 := Lib.hid (MA.out.below hb2 MA.out.lt)
    have d1 := (MA2.out.cell 1).trans (show _ = some (.int .i64 s) from rfl)
    clear hb2 HB MA k0
    go_wp2_with fail
    refine (HTp.out _).mono ?_
    clear HTp
    rintro e w3 ⟨rfl, rfl⟩
    have hz1 : (str sg).size = sg.length := str_size sg
    have hz2 : (str dg).size = dg.length := str_size dg
    have hz3 : (str rl).size = rl.length := str_size rl
    by_cases hs : s ≤ 0
    · have HE : Hid (str td = str sg ++ str dg) := Lib.hid (by rw [HT.out, if_pos hs, str_appD])
      have q1 : ¬ (9223372036854775807 < (str sg).size + (str dg).size) := by omega
      clear HT HP HR hmx EX EY EA hz1 hz2 hz3
      generalize str sg = SG at *
      generalize str dg = DG at *
      go_wp2_with fail
      go_ret
      exact ⟨by rw [HE.out]; rfl, HB2.out⟩
    · have hpd : pd = rl ++ dg := HP.out
      have hpl2 : pd.length = rl.length + dg.length := by rw [hpd, List.length_append]
      obtain ⟨kk, hkk⟩ : ∃ kk : Nat, kk = pd.length - s.toNat := ⟨_, rfl⟩
      have HE : Hid (str td = str sg ++ (str rl ++ str dg).extract 0 kk ++ (⟨#[46]⟩ : ByteArray) ++ (str rl ++ str dg).extract kk (rl.length + dg.length)) := Lib.hid (by
        rw [HT.out, if_neg hs, ← str_appD, extractD, extractD, ← hkk, str_appD, str_appD, str_appD, hpd, List.drop_zero, List.take_of_length_le (l := rl ++ dg) (i := rl.length + dg.length) (by rw [List.length_append]; exact Nat.le_refl _)]
        rfl)
      have hs2 : 0 < s := by omega
      rw [← hz2] at hmx
      have w1 : wrap64 (s + 1) = s + 1 := by unfold wrap64; omega
      have w2 : wrap64 (s + 1 - ((str dg).size : Int)) = s + 1 - ((str dg).size : Int) := by unfold wrap64; omega
      have w3 : wrap64 (((str rl).size : Int) + ((str dg).size : Int) - s) = (kk : Int) := by unfold wrap64; omega
      have q1 : ¬ (9223372036854775807 < (str rl).size + (str dg).size) := by omega
      have q2 : kk ≤ (str rl).size + (str dg).size := by omega
      have q3 : (0 : Int) ≤ (kk : Int) := Int.natCast_nonneg kk
      have q4 : (kk : Int) ≤ ((str rl).size : Int) + ((str dg).size : Int) := by omega
      have eq5 : rl.length + dg.length = (str rl).size + (str dg).size := by omega
      rw [eq5] at HE
      have hsg : (str sg).size ≤ 1 := by omega
      have hrg : (str rl).size ≤ 20 := by omega
      have hdg : (str dg).size ≤ 21 := by omega
      clear HT HP EX EY EA hz1 hz2 hz3 hpd hpl2 hkk eq5 hpl hsl hrl hdl hs h0 h1 h2 h3 HSg
      generalize str sg = SG at *
      generalize str dg = DG at *
      generalize str rl = RL at *
      go_wp2_with fail
      refine (HR.out _).mono ?_
      clear HR
      rintro e w4 ⟨rfl, hb4⟩
      have HB4 := Lib.hid (HB2.out.trans (hb4.mono HB2.out.size))
      have MA4 := MA2.out.below hb4 MA2.out.lt
      have g1 := (MA4.cell 1).trans (show _ = some (.int .i64 s) from rfl)
      clear hb4 MA4 MA2 d1 hmx w1 w2
      have hx1 : ((RL ++ DG).extract 0 kk).size ≤ 41 := by rw [ByteArray.size_extract, ByteArray.size_append]; omega
      have hx2 : ((RL ++ DG).extract kk (RL.size + DG.size)).size ≤ 41 := by rw [ByteArray.size_extract, ByteArray.size_append]; omega
      go_upto_region 9 with fail
      generalize ex1 : (RL ++ DG).extract 0 kk = X1 at *
      generalize ex2 : (RL ++ DG).extract kk (RL.size + DG.size) = X2 at *
      have r1 : ¬ (9223372036854775807 < SG.size + X1.size) := by omega
      have r2 : ¬ (9223372036854775807 < SG.size + X1.size + 1) := by omega
      have r3 : ¬ (9223372036854775807 < SG.size + X1.size + 1 + X2.size) := by omega
      go_quiet (fail)
      go_wp2_with fail
      go_ret
      exact ⟨by rw [HE.out]; first | rfl | (rw [ex1, ex2]; rfl) | done, below_drewN HB4.out _⟩
end Go.Proofs.YtjdfpoppimcikaaGreatDoor
