/- dec.Round to three digits behind the point. -/
import Derived.Test.YtjdfpoppimcikaaGreatDoorDecD
import Derived.Shelf.Strings.Builder1
import Derived.Shelf.Strings.Builder2
import Derived.Shelf.Strings.OnBuilder
import Derived.Shelf.Strings.Trim
import Derived.Shelf.Small.Utf8
import Derived.Shelf.Small.Strs
import Derived.Shelf.Small.Wraps
import Derived.Shelf.Strings.BuilderF
import Derived.Shelf.Strings.BuilderK
import Derived.Shelf.Strings.Builder2Cap
import Derived.Shelf.Strconv.Atoi
import Derived.Shelf.Strconv.Itoa0
import Derived.Shelf.Strconv.Itoa1
import Derived.Shelf.LaysM
import Derived.Shelf.Strconv.Itoa2
import Derived.Shelf.Strconv.Itoa3
import Derived.Shelf.Strconv.AtoiErrFast
import Derived.Shelf.Strconv.ParseIntEmpty
import Derived.Shelf.Strconv.AtoiFail
import Derived.Shelf.Strconv.Clone
import Derived.Shelf.Strconv.SyntaxError
import Derived.Shelf.LaysC
import Derived.Shelf.Strconv.ToError
import Derived.Shelf.Strconv.Lower
import Derived.Shelf.Strconv.ParseUint10
import Derived.Shelf.Strconv.ParseUint10Empty
import Derived.Shelf.Strconv.ParseUint10Any
import Derived.Shelf.Strconv.ParseInt10
import Derived.Shelf.Strconv.AtoiLong
import Derived.Shelf.Strconv.AtoiInnerAll
import Derived.Shelf.Strconv.RangeError
import Derived.Shelf.Strconv.ToErrorRange
import Derived.Shelf.Strconv.AtoiAll
import Derived.Shelf.Strconv.ErrVarAll
import Derived.Shelf.Strconv.ParseUintEmpty
import Derived.Shelf.Strconv.ParseUint10b64
import Derived.Shelf.Strconv.ParseUint10b32
import Derived.Shelf.Strconv.ParseUint10b16
import Derived.Shelf.Strconv.ParseUint10b8
import Derived.Shelf.Strconv.ParseUint10At
import Derived.Shelf.Strings.Search1
import Derived.Shelf.Strings.Search2
import Derived.Shelf.Strings.Search3
import Derived.Shelf.Strings.Cut
import Derived.Shelf.Strings.Shaped
import Derived.Shelf.Strings.Prefix
import Derived.Shelf.Strings.Runes
import Derived.Shelf.Strings.IndexAny
import Derived.Shelf.Strings.AsciiSet
import Derived.Shelf.Strings.IndexAnyAll
import Derived.Shelf.Bits.Mul64
import Derived.Shelf.Strings.Repeat
import Derived.Shelf.Unicode.DecodeSlow
import Derived.Shelf.Strings.BuilderCap
import Derived.Shelf.Slices.Turned
import Derived.Ground.Names2Prog
import Derived.Shelf.Slices.ReverseS
import Derived.Shelf.Slices.Cells
import Derived.Ground.SlgfProg
import Derived.Shelf.SlicesQ.IndexFunc
import Derived.Test.YtjdfpoppimcikaaGreatDoorProg
import Derived.Shelf.Strings.SlTrimAscii
import Derived.Test.YtjdfpoppimcikaaGreatDoorTagS
namespace Go.Proofs.YtjdfpoppimcikaaGreatDoor
open Go.RowKit

def absD (c : Int) : Int := if c < 0 then -c else c
def wholeD (d : DecV) : Int := Int.tdiv (absD d.coef) (P10 (d.scale - 3).toNat)
def restD (d : DecV) : Int := Int.tmod (absD d.coef) (P10 (d.scale - 3).toNat)
def upD (d : DecV) : Int := if nearE (wholeD d) (restD d) (P10 (d.scale - 3).toNat) then wholeD d + 1 else wholeD d
def round3 (d : DecV) : DecV := ⟨if d.coef < 0 then -upD d else upD d, 3⟩
theorem upD_bound (d : DecV) (h : d.ok) (h3 : 3 < d.scale) : 0 ≤ wholeD d ∧ wholeD d ≤ 100000000000000 ∧ 0 ≤ upD d ∧ upD d ≤ 1000000000000000 := by
  unfold DecV.ok at h
  obtain ⟨h0, h1, h2, h4⟩ := h
  have ha : 0 ≤ absD d.coef ∧ absD d.coef ≤ 1000000000000000 := by unfold absD; split <;> omega
  have hp : 10 ≤ P10 (d.scale - 3).toNat := by
    unfold P10
    have : 10 ^ 1 ≤ 10 ^ (d.scale - 3).toNat := Nat.pow_le_pow_right (by decide) (by omega)
    omega
  have hw : 0 ≤ wholeD d ∧ wholeD d ≤ 100000000000000 := by
    unfold wholeD
    rw [Int.tdiv_eq_ediv_of_nonneg ha.1]
    have q1 := Int.ediv_nonneg ha.1 (Int.le_of_lt (P10_pos (d.scale - 3).toNat))
    generalize P10 (d.scale - 3).toNat = u at *
    have q2 := Int.ediv_mul_le (absD d.coef) (by omega : u ≠ 0)
    generalize absD d.coef / u = z at *
    have q3 := Int.mul_le_mul_of_nonneg_left hp q1
    omega
  refine ⟨hw.1, hw.2, ?_, ?_⟩ <;> (unfold upD; split <;> omega)
theorem round3_ok (d : DecV) (h : d.ok) (h3 : 3 < d.scale) : (round3 d).ok := by
  obtain ⟨_, _, q1, q2⟩ := upD_bound d h h3
  unfold round3 DecV.ok
  dsimp only
  refine ⟨by decide, by decide, ?_, ?_⟩ <;> (split <;> omega)
set_option maxHeartbeats 6400000 in
set_option maxRecDepth 100000 in
theorem round_any (d : DecV) (w : World) (hd : d.ok) (h3 : 3 < d.scale) : Calls Tryz.prog 88 #[d.v, .int .i64 3, .int .i64 5] w fun e w' => e = .returned (.tuple #[(round3 d).v, .nilIface]) ∧ Below w.heap.size w w' := by
  have HA : Hid (∀ W, Calls Tryz.prog 26 #[d.v] W fun e w' => e = .returned .nilIface ∧ Below W.heap.size W w') := Lib.hid fun W => by
    have h := checkD_any d W
    rwa [checkD_ok hd] at h
  obtain ⟨q1, q2, q3, q4⟩ := upD_bound d hd h3
  have HR : Hid (round3 d = ⟨if d.coef < 0 then -upD d else upD d, 3⟩) := Lib.hid rfl
  have HU : Hid (upD d = if nearE (wholeD d) (restD d) (P10 (d.scale - 3).toNat) then wholeD d + 1 else wholeD d) := Lib.hid rfl
  have hrest : 0 ≤ restD d ∧ restD d ≤ 1000000000 := by
    unfold restD
    unfold DecV.ok at hd
    have ha : 0 ≤ absD d.coef := by unfold absD; split <;> omega
    rw [Int.tmod_eq_emod_of_nonneg ha]
    have h1 := P10_pos (d.scale - 3).toNat
    have h2 := P10_le (d.scale - 3).toNat (by omega)
    have h3 := Int.emod_nonneg (absD d.coef) (by omega : P10 (d.scale - 3).toNat ≠ 0)
    have h4 := Int.emod_lt_of_pos (absD d.coef) h1
    omega
  have HNe : Hid (∀ W sg, Calls Tryz.prog 123 #[.int .i64 5, .int .i64 (wholeD d), .int .i64 (restD d), .int .i64 (P10 (d.scale - 3).toNat), .int .i64 sg] W fun e w' => e = .returned (.bool (nearE (wholeD d) (restD d) (P10 (d.scale - 3).toNat))) ∧ w' = W) := Lib.hid fun W sg =>
    nearer_any _ _ _ sg W hrest.1 hrest.2
  have HWh : Hid (wholeD d = Int.tdiv (if d.coef < 0 then -d.coef else d.coef) (P10 (d.scale - 3).toNat) ∧ restD d = Int.tmod (if d.coef < 0 then -d.coef else d.coef) (P10 (d.scale - 3).toNat)) := Lib.hid ⟨rfl, rfl⟩
  generalize round3 d = rd at *
  generalize upD d = up at *
  generalize wholeD d = wh at *
  generalize restD d = re at *
  obtain ⟨c, s⟩ := d
  unfold DecV.ok at hd
  obtain ⟨s0, s1, c0, c1⟩ := hd
  dsimp only at s0 s1 c0 c1 h3 HR HU HNe HWh
  obtain ⟨k, hk⟩ : ∃ k : Nat, s - 3 = k := ⟨(s - 3).toNat, by omega⟩
  have hk9 : k ≤ 9 := by omega
  have hek : (s - 3).toNat = k := by omega
  rw [hek] at HU HNe HWh
  have HP : Hid (∀ W, Calls Tryz.prog 96 #[.int .i64 k] W fun e w' => e = .returned (.int .i64 (P10 k)) ∧ w' = W) := Lib.hid fun W => power_any k W hk9
  have hu0 := P10_pos k
  generalize P10 k = u at *
  generalize nearE wh re u = ne at *
  have hun : ¬ (u = 0) := by omega
  have hw1 : wrap64 (s - 3) = k := by rw [hk]; unfold wrap64; omega
  have hw2 : wrap64 (-c) = -c := by unfold wrap64; omega
  have hw3 : wrap64 (wh + 1) = wh + 1 := by unfold wrap64; omega
  have hw6 : wrap64 wh = wh := by unfold wrap64; omega
  have hw4 : wrap64 (-up) = -up := by unfold wrap64; omega
  have hw5 : wrap64 up = up := by unfold wrap64; omega
  have hs3 : ¬ (s ≤ 3) := by omega
  obtain ⟨W2, eW2⟩ : ∃ W2, W2 = (w.alloc (.cells #[.int .i64 c, .int .i64 s] 33)).alloc (.cells #[.int .i64 0, .int .i64 0] 33) := ⟨_, rfl⟩
  have ma : Blk W2 w.heap.size 33 #[.int .i64 c, .int .i64 s] := by rw [eW2]; exact (Blk.new _ _ _).alloc _
  have mr : Blk W2 (w.heap.size + 1) 33 #[.int .i64 0, .int .i64 0] := by
    rw [eW2]
    have := Blk.new (w.alloc (.cells #[.int .i64 c, .int .i64 s] 33)) 33 #[.int .i64 0, .int .i64 0]
    rw [World.size_alloc] at this; exact this
  have hb2 : Below w.heap.size w W2 := by rw [eW2]; exact ((Below.refl _ _).alloc (Nat.le_refl _) _).alloc (by simp) _
  have HB2 := Lib.hid hb2
  have MA := Lib.hid ma
  have MR := Lib.hid mr
  have EW := Lib.hid eW2
  have k0 := (ma.cell 0).trans (show _ = some (.int .i64 c) from rfl)
  have k1 := (ma.cell 1).trans (show _ = some (.int .i64 s) from rfl)
  unfold DecV.v at HA ⊢
  dsimp only at HA
  clear hb2 ma mr eW2 hek hk hk9 s0 s1 c0 c1 q1 q2 q3 q4 hu0 hrest h3
  go_enter Tryz.func88, Tryz.ntmps88
  go_upto_region 1 with fail
  rw [← EW.out]
  clear EW
  go_wp2_with fail
  refine (HA.out W2).mono ?_
  clear HA
  rintro e w3 ⟨rfl, hb3⟩
  have m3 := MA.out.below hb3 MA.out.lt
  have n3 := MR.out.below hb3 MR.out.lt
  have HB3 := Lib.hid (HB2.out.trans (hb3.mono HB2.out.size))
  have d0 := (m3.cell 0).trans (show _ = some (.int .i64 c) from rfl)
  have d1 := (m3.cell 1).trans (show _ = some (.int .i64 s) from rfl)
  have r0 := (n3.cell 0).trans (show _ = some (.int .i64 0) from rfl)
  have r1 := (n3.cell 1).trans (show _ = some (.int .i64 0) from rfl)
  have f0 := n3.frozen 0
  have f1 := n3.frozen 1
  clear m3 n3 hb3 k0 k1 MA MR HB2
  by_cases hc : c < 0
  · have hc2 : ¬ (0 ≤ c) := by omega
    obtain ⟨e1, e2⟩ := HWh.out
    rw [if_pos hc] at e1 e2
    rw [Int.neg_tdiv] at e1
    rw [Int.neg_tmod] at e2
    have E1 := Lib.hid e1.symm
    have E2 := Lib.hid e2.symm
    have HRd : Hid (rd = ⟨-up, 3⟩) := Lib.hid (by rw [HR.out, if_pos hc])
    clear e1 e2 HWh HR
    go_wp2_with fail
    go_quiet (fail)
    go_wp2_with fail
    refine (HP.out _).mono ?_
    clear HP
    rintro e w5 ⟨rfl, hW⟩
    have d0' : w5.cell? ⟨w.heap.size, 0, none⟩ = some (.int .i64 c) := by rw [hW]; exact d0
    have d1' : w5.cell? ⟨w.heap.size, 1, none⟩ = some (.int .i64 s) := by rw [hW]; exact d1
    have r0' : w5.cell? ⟨w.heap.size + 1, 0, none⟩ = some (.int .i64 0) := by rw [hW]; exact r0
    have r1' : w5.cell? ⟨w.heap.size + 1, 1, none⟩ = some (.int .i64 0) := by rw [hW]; exact r1
    have f0' : w5.frozen? ⟨w.heap.size + 1, 0, none⟩ = false := by rw [hW]; exact f0
    have f1' : w5.frozen? ⟨w.heap.size + 1, 1, none⟩ = false := by rw [hW]; exact f1
    have HB5 : Hid (Below w.heap.size w w5) := Lib.hid (by rw [hW]; exact below_drewN HB3.out _)
    clear hW d0 d1 r0 r1 f0 f1 HB3
    go_wp2_with fail
    go_quiet (fail)
    rw [E1.out, E2.out]
    clear E1 E2 hw1 hw2 hw5 hs3 hun hc hc2 d0' d1'
    go_wp2_with fail
    refine (HNe.out _ _).mono ?_
    clear HNe
    rintro e w5 ⟨rfl, rfl⟩
    cases ne with
    | true =>
      obtain rfl : up = wh + 1 := by rw [HU.out, if_pos rfl]
      go_wp2_with fail
      refine bodyPost_ret (v := .tuple #[.agg #[.int .i64 (-(wh + 1)), .int .i64 3], .nilIface]) ?_ rfl ?_
      · simp [results, Tryz.results88, go_sem, r0', r1', f0', f1']
      · exact ⟨by first | (rw [HRd.out]; done) | (rw [HRd.out]; rfl), ((below_drewN HB5.out _).setCell (p := ⟨_, _, none⟩) (by show w.heap.size ≤ w.heap.size + 1; omega) _).setCell (p := ⟨_, _, none⟩) (by show w.heap.size ≤ w.heap.size + 1; omega) _⟩
    | false =>
      obtain rfl : up = wh := by rw [HU.out, if_neg (by decide)]
      go_wp2_with fail
      refine bodyPost_ret (v := .tuple #[.agg #[.int .i64 (-up), .int .i64 3], .nilIface]) ?_ rfl ?_
      · simp [results, Tryz.results88, go_sem, r0', r1', f0', f1']
      · exact ⟨by first | (rw [HRd.out]; done) | (rw [HRd.out]; rfl), ((below_drewN HB5.out _).setCell (p := ⟨_, _, none⟩) (by show w.heap.size ≤ w.heap.size + 1; omega) _).setCell (p := ⟨_, _, none⟩) (by show w.heap.size ≤ w.heap.size + 1; omega) _⟩
  · have hc2 : (0 ≤ c) := by omega
    obtain ⟨e1, e2⟩ := HWh.out
    rw [if_neg hc] at e1 e2
    rw [Int.tmod_eq_emod_of_nonneg hc2] at e2
    have E1 := Lib.hid e1.symm
    have E2 := Lib.hid e2.symm
    have HRd : Hid (rd = ⟨up, 3⟩) := Lib.hid (by rw [HR.out, if_neg hc])
    clear e1 e2 HWh HR
    go_wp2_with fail
    go_quiet (fail)
    go_wp2_with fail
    refine (HP.out _).mono ?_
    clear HP
    rintro e w5 ⟨rfl, hW⟩
    have d0' : w5.cell? ⟨w.heap.size, 0, none⟩ = some (.int .i64 c) := by rw [hW]; exact d0
    have d1' : w5.cell? ⟨w.heap.size, 1, none⟩ = some (.int .i64 s) := by rw [hW]; exact d1
    have r0' : w5.cell? ⟨w.heap.size + 1, 0, none⟩ = some (.int .i64 0) := by rw [hW]; exact r0
    have r1' : w5.cell? ⟨w.heap.size + 1, 1, none⟩ = some (.int .i64 0) := by rw [hW]; exact r1
    have f0' : w5.frozen? ⟨w.heap.size + 1, 0, none⟩ = false := by rw [hW]; exact f0
    have f1' : w5.frozen? ⟨w.heap.size + 1, 1, none⟩ = false := by rw [hW]; exact f1
    have HB5 : Hid (Below w.heap.size w w5) := Lib.hid (by rw [hW]; exact below_drewN HB3.out _)
    clear hW d0 d1 r0 r1 f0 f1 HB3
    go_wp2_with fail
    go_quiet (fail)
    rw [E1.out, E2.out]
    clear E1 E2 hw1 hw2 hw5 hs3 hun hc hc2 d0' d1'
    go_wp2_with fail
    refine (HNe.out _ _).mono ?_
    clear HNe
    rintro e w5 ⟨rfl, rfl⟩
    cases ne with
    | true =>
      obtain rfl : up = wh + 1 := by rw [HU.out, if_pos rfl]
      go_wp2_with fail
      refine bodyPost_ret (v := .tuple #[.agg #[.int .i64 (wh + 1), .int .i64 3], .nilIface]) ?_ rfl ?_
      · simp [results, Tryz.results88, go_sem, r0', r1', f0', f1']
      · exact ⟨by first | (rw [HRd.out]; done) | (rw [HRd.out]; rfl), ((below_drewN HB5.out _).setCell (p := ⟨_, _, none⟩) (by show w.heap.size ≤ w.heap.size + 1; omega) _).setCell (p := ⟨_, _, none⟩) (by show w.heap.size ≤ w.heap.size + 1; omega) _⟩
    | false =>
      obtain rfl : up = wh := by rw [HU.out, if_neg (by decide)]
      go_wp2_with fail
      refine bodyPost_ret (v := .tuple #[.agg #[.int .i64 up, .int .i64 3], .nilIface]) ?_ rfl ?_
      · simp [results, Tryz.results88, go_sem, r0', r1', f0', f1']
      · exact ⟨by first | (rw [HRd.out]; done) | (rw [HRd.out]; rfl), ((below_drewN HB5.out _).setCell (p := ⟨_, _, none⟩) (by show w.heap.size ≤ w.heap.size + 1; omega) _).setCell (p := ⟨_, _, none⟩) (by show w.heap.size ≤ w.heap.size + 1; omega) _⟩
end Go.Proofs.YtjdfpoppimcikaaGreatDoor
/- nout.trimmed to no digits at the least. -/

namespace Go.Proofs.YtjdfpoppimcikaaGreatDoor
open Go.RowKit

def trimF : Nat → Int → Int × Nat
  | 0, c => (c, 0)
  | n + 1, c => if Int.tmod c 10 = 0 then trimF n (Int.tdiv c 10) else (c, n + 1)
def trimD (d : DecV) : DecV := ⟨(trimF d.scale.toNat d.coef).1, (trimF d.scale.toNat d.coef).2⟩
theorem trimF_ok : ∀ (n : Nat) (c : Int), -1000000000000000 ≤ c → c ≤ 1000000000000000 → (trimF n c).2 ≤ n ∧ -1000000000000000 ≤ (trimF n c).1 ∧ (trimF n c).1 ≤ 1000000000000000
  | 0, c, h1, h2 => ⟨Nat.le_refl _, h1, h2⟩
  | n + 1, c, h1, h2 => by
    unfold trimF
    split
    · obtain ⟨b1, b2⟩ := tdiv_bound (u := 10) (by decide) h1 h2
      obtain ⟨q1, q2, q3⟩ := trimF_ok n _ b1 b2
      exact ⟨by omega, q2, q3⟩
    · exact ⟨Nat.le_refl _, h1, h2⟩
theorem trimD_ok (d : DecV) (h : d.ok) : (trimD d).ok := by
  obtain ⟨h0, h1, h2, h3⟩ := h
  obtain ⟨q1, q2, q3⟩ := trimF_ok d.scale.toNat d.coef h2 h3
  unfold trimD DecV.ok
  dsimp only
  exact ⟨by omega, by omega, q2, q3⟩
theorem trimD_step (c : Int) (n : Nat) (h : Int.tmod c 10 = 0) : trimD ⟨c, ((n + 1 : Nat) : Int)⟩ = trimD ⟨Int.tdiv c 10, (n : Int)⟩ := by
  unfold trimD
  dsimp only
  have e1 : (((n + 1 : Nat) : Int)).toNat = n + 1 := by omega
  have e2 : ((n : Int)).toNat = n := by omega
  have e3 : trimF (n + 1) c = trimF n (Int.tdiv c 10) := if_pos h
  rw [e1, e2, e3]
theorem trimD_stop (c s : Int) (hs : 0 ≤ s) (h : s = 0 ∨ Int.tmod c 10 ≠ 0) : trimD ⟨c, s⟩ = ⟨c, s⟩ := by
  obtain ⟨n, rfl⟩ : ∃ n : Nat, s = n := ⟨s.toNat, by omega⟩
  unfold trimD
  dsimp only
  have e2 : ((n : Int)).toNat = n := by omega
  rw [e2]
  cases n with
  | zero => rfl
  | succ n =>
    unfold trimF
    rw [if_neg (by rcases h with h | h; omega; exact h)]
set_option maxHeartbeats 3200000 in
set_option maxRecDepth 100000 in
theorem trimmed_any (d : DecV) (w : World) (hd : d.ok) : Calls Tryz.prog 87 #[d.v, .int .i64 0] w fun e w' => e = .returned (trimD d).v ∧ Below w.heap.size w w' := by
  obtain ⟨W2, eW2⟩ : ∃ W2, W2 = (w.alloc (.cells #[.int .i64 d.coef, .int .i64 d.scale] 33)).alloc (.cells #[.int .i64 0, .int .i64 0] 33) := ⟨_, rfl⟩
  have ma : Blk W2 w.heap.size 33 #[.int .i64 d.coef, .int .i64 d.scale] := by rw [eW2]; exact (Blk.new _ _ _).alloc _
  have mr : Blk W2 (w.heap.size + 1) 33 #[.int .i64 0, .int .i64 0] := by
    rw [eW2]
    have := Blk.new (w.alloc (.cells #[.int .i64 d.coef, .int .i64 d.scale] 33)) 33 #[.int .i64 0, .int .i64 0]
    rw [World.size_alloc] at this; exact this
  have hb2 : Below w.heap.size w W2 := by rw [eW2]; exact ((Below.refl _ _).alloc (Nat.le_refl _) _).alloc (by simp) _
  have HB2 := Lib.hid hb2
  have MA := Lib.hid ma
  have MR := Lib.hid mr
  have EW := Lib.hid eW2
  have HD := Lib.hid hd
  unfold DecV.v
  clear hb2 ma mr eW2 hd
  go_enter Tryz.func87, Tryz.ntmps87
  go_wp2_with fail
  rw [← EW.out]
  clear EW
  go_loopw [] (fun wr => ∃ (c : Int) (n : Nat), -1000000000000000 ≤ c ∧ c ≤ 1000000000000000 ∧ n ≤ 9 ∧ Hid (trimD d = trimD ⟨c, (n : Int)⟩) ∧ Blk wr w.heap.size 33 #[.int .i64 c, .int .i64 (n : Int)] ∧ Blk wr (w.heap.size + 1) 33 #[.int .i64 0, .int .i64 0] ∧ Below w.heap.size w wr) (fun wr => match wr.cell? ⟨w.heap.size, 1, none⟩ with | some v => (intOf v).toNat | none => 0)
  case atStart =>
    obtain ⟨h0, h1, h2, h3⟩ := HD.out
    obtain ⟨n, hn⟩ : ∃ n : Nat, d.scale = n := ⟨d.scale.toNat, by omega⟩
    refine ⟨d.coef, n, h2, h3, by omega, Lib.hid ?_, ?_, MR.out, HB2.out⟩
    · rw [← hn]
    · rw [← hn]; exact MA.out
  case round =>
    obtain ⟨c, n, hc1, hc2, hn, HT, hma, hmr, hb⟩ := hrel
    obtain ⟨b1, b2⟩ := tdiv_bound (b := c) (u := 10) (by decide) hc1 hc2
    have HB := Lib.hid hb
    have HMA := Lib.hid hma
    have HMR := Lib.hid hmr
    have k0 := (hma.cell 0).trans (show _ = some (.int .i64 c) from rfl)
    have k1 := (hma.cell 1).trans (show _ = some (.int .i64 (n : Int)) from rfl)
    have f0 := hma.frozen 0
    have f1 := hma.frozen 1
    have hw1 : wrap64 (Int.tdiv c 10) = Int.tdiv c 10 := by unfold wrap64; omega
    clear hb hma hmr MA MR HB2
    cases n with
    | zero =>
      have HE := Lib.hid (trimD_stop c ((0 : Nat) : Int) (by omega) (.inl rfl))
      have r0 := (HMR.out.cell 0).trans (show _ = some (.int .i64 0) from rfl)
      have r1 := (HMR.out.cell 1).trans (show _ = some (.int .i64 0) from rfl)
      have g0 := HMR.out.frozen 0
      have g1 := HMR.out.frozen 1
      clear hc1 hc2 b1 b2
      go_wp2_with fail
      refine bodyPost_ret (v := .agg #[.int .i64 c, .int .i64 0]) ?_ rfl ?_
      · simp [results, Tryz.results87, go_sem, r0, r1, g0, g1]
      · exact ⟨by first | (rw [HT.out, HE.out]; done) | (rw [HT.out, HE.out]; rfl), (HB.out.setCell (p := ⟨_, _, none⟩) (by show w.heap.size ≤ w.heap.size + 1; omega) _).setCell (p := ⟨_, _, none⟩) (by show w.heap.size ≤ w.heap.size + 1; omega) _⟩
    | succ n =>
      have i1 : (0 : Int) < ((n + 1 : Nat) : Int) := by omega
      have i2 : (0 : Int) < (n : Int) + 1 := by omega
      have hw2 : wrap64 ((n : Int) + 1 - 1) = (n : Int) := by unfold wrap64; omega
      by_cases h0 : Int.tmod c 10 = 0
      · have HS := Lib.hid (trimD_step c n h0)
        have q0 : (Int.tmod c 10 == 0) = true := by rw [beq_iff_eq]; exact h0
        have HC := Lib.hid (And.intro b1 b2)
        clear hc1 hc2 b1 b2 h0
        go_wp2_with fail
        go_roundw
        case rel =>
          exact ⟨Int.tdiv c 10, n, HC.out.1, HC.out.2, by omega, Lib.hid (by rw [HT.out, HS.out]), (HMA.out.set_ 0 _).set_ 1 _, (HMR.out.far (by show w.heap.size + 1 ≠ w.heap.size; omega) _).far (by show w.heap.size + 1 ≠ w.heap.size; omega) _, (HB.out.setCell (p := ⟨_, _, none⟩) (Nat.le_refl _) _).setCell (p := ⟨_, _, none⟩) (Nat.le_refl _) _⟩
        case measure =>
          have e1 := (((HMA.out.set_ 0 (.int .i64 (Int.tdiv c 10))).set_ 1 (.int .i64 (n : Int))).cell 1).trans (show _ = some (.int .i64 (n : Int)) from rfl)
          rw [e1]
          simp only [k1]
          simp [intOf]
      · have HE := Lib.hid (trimD_stop c ((n + 1 : Nat) : Int) (by omega) (.inr h0))
        have q0 : (Int.tmod c 10 == 0) = false := by rw [beq_eq_false_iff_ne]; exact h0
        have r0 := (HMR.out.cell 0).trans (show _ = some (.int .i64 0) from rfl)
        have r1 := (HMR.out.cell 1).trans (show _ = some (.int .i64 0) from rfl)
        have g0 := HMR.out.frozen 0
        have g1 := HMR.out.frozen 1
        clear hc1 hc2 b1 b2 h0
        go_wp2_with fail
        refine bodyPost_ret (v := .agg #[.int .i64 c, .int .i64 ((n + 1 : Nat) : Int)]) ?_ rfl ?_
        · simp [results, Tryz.results87, go_sem, r0, r1, g0, g1]
        · exact ⟨by first | (rw [HT.out, HE.out]; done) | (rw [HT.out, HE.out]; rfl), (HB.out.setCell (p := ⟨_, _, none⟩) (by show w.heap.size ≤ w.heap.size + 1; omega) _).setCell (p := ⟨_, _, none⟩) (by show w.heap.size ≤ w.heap.size + 1; omega) _⟩
end Go.Proofs.YtjdfpoppimcikaaGreatDoor
/- Contracts of the library's functions, laid at this seat's dump by the shelf's own programs. -/

namespace Go.Proofs
open Go.Shelf
def Tryz.lays160_ren : Go.Shelf.Ren := ⟨fun | 160 => 47 | 232 => 79 | 231 => 78 | 227 => 80 | 234 => 82 | 233 => 81 | 236 => 84 | 235 => 83 | 228 => 115 | 271 => 118 | 151 => 117 | 197 => 116 | 120 => 147 | 152 => 143 | 260 => 146 | 137 => 48 | 119 => 168 | 224 => 169 | 225 => 170 | 217 => 85 | 266 => 119 | n => n, fun | 9 => 9 | 4 => 4 | 3 => 3 | 5 => 5 | 117 => 165 | 116 => 164 | 0 => 0 | 124 => 168 | 21 => 21 | 105 => 216 | 46 => 175 | 119 => 269 | 139 => 272 | 138 => 271 | n => n, fun | 3 => 6 | 4 => 7 | n => n⟩
theorem Tryz.lays160 : Go.Proofs.Lays.n160 Tryz.prog Tryz.lays160_ren := {
  mixed := by kernel_rfl
  f119 := Tryz.func168.trans (congrArg some (by kernel_rfl))
  f120 := Tryz.func147.trans (congrArg some (by kernel_rfl))
  f137 := Tryz.func48.trans (congrArg some (by kernel_rfl))
  f151 := Tryz.func117.trans (congrArg some (by kernel_rfl))
  f152 := Tryz.func143.trans (congrArg some (by kernel_rfl))
  f160 := Tryz.func47.trans (congrArg some (by kernel_rfl))
  f197 := Tryz.func116.trans (congrArg some (by kernel_rfl))
  f217 := Tryz.func85.trans (congrArg some (by kernel_rfl))
  f224 := Tryz.func169.trans (congrArg some (by kernel_rfl))
  f225 := Tryz.func170.trans (congrArg some (by kernel_rfl))
  f227 := Tryz.func80.trans (congrArg some (by kernel_rfl))
  f228 := Tryz.func115.trans (congrArg some (by kernel_rfl))
  f231 := Tryz.func78.trans (congrArg some (by kernel_rfl))
  f232 := Tryz.func79.trans (congrArg some (by kernel_rfl))
  f233 := Tryz.func81.trans (congrArg some (by kernel_rfl))
  f234 := Tryz.func82.trans (congrArg some (by kernel_rfl))
  f235 := Tryz.func83.trans (congrArg some (by kernel_rfl))
  f236 := Tryz.func84.trans (congrArg some (by kernel_rfl))
  f260 := Tryz.func146.trans (congrArg some (by kernel_rfl))
  f266 := Tryz.func119.trans (congrArg some (by kernel_rfl))
  f271 := Tryz.func118.trans (congrArg some (by kernel_rfl))
  t0 := Tryz.underlying0
  a0 := Tryz.isAgg0
  z0 := Tryz.sizeOf0
  v0 := Tryz.zeroValue0
  t3 := Tryz.underlying3
  a3 := Tryz.isAgg3
  z3 := Tryz.sizeOf3
  v3 := Tryz.zeroValue3
  t4 := Tryz.underlying4
  a4 := Tryz.isAgg4
  z4 := Tryz.sizeOf4
  v4 := Tryz.zeroValue4
  t5 := Tryz.underlying5
  a5 := Tryz.isAgg5
  z5 := Tryz.sizeOf5
  v5 := Tryz.zeroValue5
  t9 := Tryz.underlying9
  a9 := Tryz.isAgg9
  z9 := Tryz.sizeOf9
  v9 := Tryz.zeroValue9
  t21 := Tryz.underlying21
  a21 := Tryz.isAgg21
  z21 := Tryz.sizeOf21
  v21 := Tryz.zeroValue21
  t46 := Tryz.underlying175
  a46 := Tryz.isAgg175
  z46 := Tryz.sizeOf175
  v46 := Tryz.zeroValue175
  t105 := Tryz.underlying216
  a105 := Tryz.isAgg216
  z105 := Tryz.sizeOf216
  v105 := Tryz.zeroValue216
  t116 := Tryz.underlying164
  a116 := Tryz.isAgg164
  z116 := Tryz.sizeOf164
  t117 := Tryz.underlying165
  a117 := Tryz.isAgg165
  z117 := Tryz.sizeOf165
  v117 := Tryz.zeroValue165
  t119 := Tryz.underlying269
  a119 := Tryz.isAgg269
  z119 := Tryz.sizeOf269
  t124 := Tryz.underlying168
  a124 := Tryz.isAgg168
  z124 := Tryz.sizeOf168
  v124 := Tryz.zeroValue168
  t138 := Tryz.underlying271
  a138 := Tryz.isAgg271
  z138 := Tryz.sizeOf271
  v138 := Tryz.zeroValue271
  t139 := Tryz.underlying272
  a139 := Tryz.isAgg272
  z139 := Tryz.sizeOf272
  v139 := Tryz.zeroValue272
  g3 := by kernel_rfl
  g4 := by kernel_rfl }
open Go.RowKit in
theorem Tryz.strings_Trim_one (s : ByteArray) (c : UInt8) (hc : c.toNat < 128) (w : World) (hs : s.size ≤ 9223372036854775807) :
    Calls Tryz.prog 47 #[.string s, .string ⟨#[c]⟩] w fun e w' => e = .returned (.string ⟨(Lib.trimB s.data.toList c).toArray⟩) ∧ (w' = w ∨ w' = w.drew) := Any.strings_Trim_one Tryz.lays160 s c hc w hs
end Go.Proofs
/- strings.Trim at a set of ASCII signs, at this seat's dump. -/

namespace Go.Proofs.YtjdfpoppimcikaaGreatDoor
open Go.RowKit

theorem trim_any (s cs : ByteArray) (w : World) (hs : s.size ≤ 9223372036854775807) (hcs : cs.size < 4294967281) (ha : ∀ (j : Nat) b, cs.data.toList[j]? = some b → b.toNat < 128) :
    Calls Tryz.prog 47 #[.string s, .string cs] w fun e w' => e = .returned (.string ⟨(Lib.trimS s.data.toList cs.data.toList).toArray⟩) ∧ Below w.heap.size w w' :=
  Any.strings_Trim_laid Tryz.lays160 (by kernel_rfl) s cs w hs hcs ha
end Go.Proofs.YtjdfpoppimcikaaGreatDoor
