/- dec.Add. -/
import Derived.Test.YtjdfpoppimcikaaGreatDoorDecC
namespace Go.Proofs.YtjdfpoppimcikaaGreatDoor
open Go.RowKit

theorem tdiv_bound {b u M : Int} (hu : 0 < u) (h1 : -M ≤ b) (h2 : b ≤ M) : -M ≤ Int.tdiv b u ∧ Int.tdiv b u ≤ M := by
  rcases Int.le_total 0 b with hb | hb
  · rw [Int.tdiv_eq_ediv_of_nonneg hb]
    have h3 := Int.ediv_le_self u hb
    have h4 := Int.ediv_nonneg hb (Int.le_of_lt hu)
    omega
  · obtain ⟨c, rfl⟩ : ∃ c, b = -c := ⟨-b, by omega⟩
    have hc : 0 ≤ c := by omega
    rw [Int.neg_tdiv, Int.tdiv_eq_ediv_of_nonneg hc]
    have h3 := Int.ediv_le_self u hc
    have h4 := Int.ediv_nonneg hc (Int.le_of_lt hu)
    omega
theorem tmod_bound {b u : Int} (hu : 0 < u) : -u < Int.tmod b u ∧ Int.tmod b u < u := by
  rcases Int.le_total 0 b with hb | hb
  · rw [Int.tmod_eq_emod_of_nonneg hb]
    have h3 := Int.emod_nonneg b (by omega : u ≠ 0)
    have h4 := Int.emod_lt_of_pos b hu
    omega
  · obtain ⟨c, rfl⟩ : ∃ c, b = -c := ⟨-b, by omega⟩
    have hc : 0 ≤ c := by omega
    rw [Int.neg_tmod, Int.tmod_eq_emod_of_nonneg hc]
    have h3 := Int.emod_nonneg c (by omega : u ≠ 0)
    have h4 := Int.emod_lt_of_pos c hu
    omega
theorem mul_bound {s u : Int} (hu : 0 < u) (hu2 : u ≤ 1000000000) (h1 : s ≤ Int.tdiv 2000000000000000 u + 1) (h2 : Int.tdiv (-2000000000000000) u - 1 ≤ s) : -3000000000000000 ≤ s * u ∧ s * u ≤ 3000000000000000 := by
  rw [Int.neg_tdiv] at h2
  rw [Int.tdiv_eq_ediv_of_nonneg (by decide)] at h1 h2
  have h3 := Int.ediv_mul_le 2000000000000000 (by omega : u ≠ 0)
  have h4 := Int.mul_le_mul_of_nonneg_right h1 (Int.le_of_lt hu)
  have h5 := Int.mul_le_mul_of_nonneg_right h2 (Int.le_of_lt hu)
  rw [Int.add_mul, Int.one_mul] at h4
  rw [Int.sub_mul, Int.one_mul, Int.neg_mul] at h5
  omega
def swapD (a b : DecV) : DecV × DecV := if b.scale < a.scale then (b, a) else (a, b)
def sumD (a b : DecV) : Int := a.coef + Int.tdiv b.coef (P10 (b.scale - a.scale).toNat)
def farD (a b : DecV) : Bool := decide (Int.tdiv 2000000000000000 (P10 (b.scale - a.scale).toNat) + 1 < sumD a b) || decide (sumD a b < Int.tdiv (-2000000000000000) (P10 (b.scale - a.scale).toNat) - 1)
def totD (a b : DecV) : Int := sumD a b * P10 (b.scale - a.scale).toNat + Int.tmod b.coef (P10 (b.scale - a.scale).toNat)
def addO (a b : DecV) : Option DecV := if farD a b then none else if totD a b < -1000000000000000 ∨ 1000000000000000 < totD a b then none else some ⟨totD a b, b.scale⟩
def addD (a b : DecV) : Option DecV := if a.ok ∧ b.ok then addO (swapD a b).1 (swapD a b).2 else none
def resD (o : Option DecV) : Value := .tuple #[(o.getD ⟨0, 0⟩).v, errD (if o.isSome then 0 else 1)]
set_option maxHeartbeats 6400000 in
set_option maxRecDepth 100000 in
theorem addD_any (a b : DecV) (w : World) : Calls Tryz.prog 55 #[a.v, b.v] w fun e w' => e = .returned (resD (addD a b)) ∧ Below w.heap.size w w' := by
  have HA : Hid (∀ W, Calls Tryz.prog 26 #[a.v] W fun e w' => e = .returned (errD (checkD a)) ∧ Below W.heap.size W w') := Lib.hid fun W => checkD_any a W
  have HB : Hid (∀ W, Calls Tryz.prog 26 #[b.v] W fun e w' => e = .returned (errD (checkD b)) ∧ Below W.heap.size W w') := Lib.hid fun W => checkD_any b W
  have HNo : Hid (¬ a.ok ∨ ¬ b.ok → addD a b = none) := Lib.hid fun h => if_neg (by rintro ⟨h1, h2⟩; rcases h with h | h; exact h h1; exact h h2)
  have HYes : Hid (a.ok → b.ok → addD a b = addO (swapD a b).1 (swapD a b).2) := Lib.hid fun h1 h2 => if_pos ⟨h1, h2⟩
  have HSw : Hid ((b.scale < a.scale → swapD a b = (b, a)) ∧ (¬ b.scale < a.scale → swapD a b = (a, b))) := Lib.hid ⟨fun h => if_pos h, fun h => if_neg h⟩
  obtain ⟨W2, eW2⟩ : ∃ W2, W2 = ((w.alloc (.cells #[.int .i64 a.coef, .int .i64 a.scale] 33)).alloc (.cells #[.int .i64 b.coef, .int .i64 b.scale] 33)).alloc (.cells #[.int .i64 0, .int .i64 0] 33) := ⟨_, rfl⟩
  have ma : Blk W2 w.heap.size 33 #[.int .i64 a.coef, .int .i64 a.scale] := by rw [eW2]; exact ((Blk.new _ _ _).alloc _).alloc _
  have mb : Blk W2 (w.heap.size + 1) 33 #[.int .i64 b.coef, .int .i64 b.scale] := by
    rw [eW2]
    have := Blk.new (w.alloc (.cells #[.int .i64 a.coef, .int .i64 a.scale] 33)) 33 #[.int .i64 b.coef, .int .i64 b.scale]
    rw [World.size_alloc] at this; exact this.alloc _
  have mr : Blk W2 (w.heap.size + 2) 33 #[.int .i64 0, .int .i64 0] := by
    rw [eW2]
    have := Blk.new ((w.alloc (.cells #[.int .i64 a.coef, .int .i64 a.scale] 33)).alloc (.cells #[.int .i64 b.coef, .int .i64 b.scale] 33)) 33 #[.int .i64 0, .int .i64 0]
    rw [World.size_alloc, World.size_alloc] at this; exact this
  have hb2 : Below w.heap.size w W2 := by rw [eW2]; exact (((Below.refl _ _).alloc (Nat.le_refl _) _).alloc (by simp) _).alloc (by simp; omega) _
  have HB2 := Lib.hid hb2
  have MA := Lib.hid ma
  have MB := Lib.hid mb
  have MR := Lib.hid mr
  have EW := Lib.hid eW2
  have k0 := (ma.cell 0).trans (show _ = some (.int .i64 a.coef) from rfl)
  have k1 := (ma.cell 1).trans (show _ = some (.int .i64 a.scale) from rfl)
  clear hb2 ma mb mr eW2
  unfold DecV.v at HA HB ⊢
  go_enter Tryz.func55, Tryz.ntmps55
  go_upto_region 1 with fail
  rw [← EW.out]
  clear EW
  go_wp2_with fail
  refine (HA.out W2).mono ?_
  clear HA
  rintro e w3 ⟨rfl, hb3⟩
  have HB3 := Lib.hid (HB2.out.trans (hb3.mono HB2.out.size))
  have MA3 := Lib.hid (MA.out.below hb3 MA.out.lt)
  have MB3 := Lib.hid (MB.out.below hb3 MB.out.lt)
  have MR3 := Lib.hid (MR.out.below hb3 MR.out.lt)
  clear MA MB MR k0 k1 hb3
  by_cases ha : a.ok
  · rw [checkD_ok ha, errD_zero]
    have d0 := (MB3.out.cell 0).trans (show _ = some (.int .i64 b.coef) from rfl)
    have d1 := (MB3.out.cell 1).trans (show _ = some (.int .i64 b.scale) from rfl)
    go_wp2_with fail
    refine (HB.out w3).mono ?_
    clear HB d0 d1
    rintro e w4 ⟨rfl, hb4⟩
    have HB4 := Lib.hid (HB3.out.trans (hb4.mono HB3.out.size))
    have MA4 := Lib.hid (MA3.out.below hb4 MA3.out.lt)
    have MB4 := Lib.hid (MB3.out.below hb4 MB3.out.lt)
    have MR4 := Lib.hid (MR3.out.below hb4 MR3.out.lt)
    clear MA3 MB3 MR3 hb4
    by_cases hb : b.ok
    · rw [checkD_ok hb, errD_zero]
      have HY := Lib.hid (HYes.out ha hb)
      have haK := Lib.hid ha
      have hbK := Lib.hid hb
      have k0 := (MA4.out.cell 0).trans (show _ = some (.int .i64 a.coef) from rfl)
      have k1 := (MA4.out.cell 1).trans (show _ = some (.int .i64 a.scale) from rfl)
      have d0 := (MB4.out.cell 0).trans (show _ = some (.int .i64 b.coef) from rfl)
      have d1 := (MB4.out.cell 1).trans (show _ = some (.int .i64 b.scale) from rfl)
      have fa0 := MA4.out.frozen 0
      have fa1 := MA4.out.frozen 1
      have fb0 := MB4.out.frozen 0
      have fb1 := MB4.out.frozen 1
      clear HYes HNo ha hb
      have hOk : Hid ((swapD a b).1.ok ∧ (swapD a b).2.ok ∧ (swapD a b).1.scale ≤ (swapD a b).2.scale) := Lib.hid (by
        unfold swapD
        split
        · exact ⟨hbK.out, haK.out, by dsimp only; omega⟩
        · exact ⟨haK.out, hbK.out, by dsimp only; omega⟩)
      go_upto_if 29 with fail
      go_cut [] (fun wx => Below w.heap.size w wx ∧ Blk wx w.heap.size 33 #[.int .i64 (swapD a b).1.coef, .int .i64 (swapD a b).1.scale] ∧ Blk wx (w.heap.size + 1) 33 #[.int .i64 (swapD a b).2.coef, .int .i64 (swapD a b).2.scale] ∧ Blk wx (w.heap.size + 2) 33 #[.int .i64 0, .int .i64 0])
      case first =>
        clear HY hOk
        by_cases hs : b.scale < a.scale
        · have HE := Lib.hid (HSw.out.1 hs)
          clear HSw
          go_wp2_with fail
          go_meet
          case rel =>
            rw [HE.out]
            have q1 : w.heap.size ≠ w.heap.size + 1 := by omega
            have q2 : w.heap.size + 1 ≠ w.heap.size := by omega
            have q3 : w.heap.size + 2 ≠ w.heap.size := by omega
            have q4 : w.heap.size + 2 ≠ w.heap.size + 1 := by omega
            exact ⟨(((HB4.out.setCell (p := ⟨_, _, none⟩) (Nat.le_refl _) _).setCell (p := ⟨_, _, none⟩) (Nat.le_refl _) _).setCell (p := ⟨_, _, none⟩) (Nat.le_succ _) _).setCell (p := ⟨_, _, none⟩) (Nat.le_succ _) _,
              (((MA4.out.set_ 0 _).set_ 1 _).far q1 _).far q1 _, (((MB4.out.far q2 _).far q2 _).set_ 0 _).set_ 1 _, (((MR4.out.far q3 _).far q3 _).far q4 _).far q4 _⟩
        · have HE := Lib.hid (HSw.out.2 (by first | exact hs | exact Int.not_lt.1 hs))
          clear HSw
          go_wp2_with fail
          go_meet
          case rel =>
            rw [HE.out]
            exact ⟨HB4.out, MA4.out, MB4.out, MR4.out⟩
      case rest =>
        obtain ⟨hbc, hma, hmb, hmr⟩ := hcut
        clear k0 k1 d0 d1 fa0 fa1 fb0 fb1 haK hbK HSw HB4 MA4 MB4 MR4
        generalize swapD a b = pr at *
        obtain ⟨⟨x, s⟩, ⟨y, t⟩⟩ := pr
        dsimp only at hOk hma hmb HY
        obtain ⟨⟨p0, p1, p2, p3⟩, ⟨p4, p5, p6, p7⟩, p8⟩ := hOk.out
        dsimp only at p0 p1 p2 p3 p4 p5 p6 p7 p8
        obtain ⟨k, hk⟩ : ∃ k : Nat, t - s = k := ⟨(t - s).toNat, by omega⟩
        have hk9 : k ≤ 9 := by omega
        have HP : Hid (∀ W, Calls Tryz.prog 96 #[.int .i64 k] W fun e w' => e = .returned (.int .i64 (P10 k)) ∧ w' = W) := Lib.hid fun W => power_any k W hk9
        have hu0 := P10_pos k
        have hu1 := P10_le k hk9
        have hek : (t - s).toNat = k := by omega
        have HF : Hid (addO ⟨x, s⟩ ⟨y, t⟩ = if (decide (Int.tdiv 2000000000000000 (P10 k) + 1 < x + Int.tdiv y (P10 k)) || decide (x + Int.tdiv y (P10 k) < Int.tdiv (-2000000000000000) (P10 k) - 1)) = true then none else
            if (x + Int.tdiv y (P10 k)) * P10 k + Int.tmod y (P10 k) < -1000000000000000 ∨ 1000000000000000 < (x + Int.tdiv y (P10 k)) * P10 k + Int.tmod y (P10 k) then none else some ⟨(x + Int.tdiv y (P10 k)) * P10 k + Int.tmod y (P10 k), t⟩) := Lib.hid (by
          unfold addO farD totD sumD
          dsimp only
          rw [hek])
        rw [Int.neg_tdiv] at HF
        have hw1 : wrap64 (t - s) = k := by rw [hk]; unfold wrap64; omega
        generalize P10 k = u at *
        have hu : (u == (0 : Int)) = false := by rw [beq_eq_false_iff_ne]; omega
        obtain ⟨hd1, hd2⟩ := tdiv_bound (b := y) (M := 1000000000000000) hu0 p6 p7
        obtain ⟨hm1, hm2⟩ := tmod_bound (b := y) hu0
        obtain ⟨he1, he2⟩ := tdiv_bound (b := 2000000000000000) (M := 2000000000000000) hu0 (by decide) (by decide)
        have hmb2 : Int.tdiv 2000000000000000 u + 1 ≥ x + Int.tdiv y u → -Int.tdiv 2000000000000000 u - 1 ≤ x + Int.tdiv y u → -3000000000000000 ≤ (x + Int.tdiv y u) * u ∧ (x + Int.tdiv y u) * u ≤ 3000000000000000 := fun h1 h2 => mul_bound hu0 hu1 h1 (by rw [Int.neg_tdiv]; exact h2)
        have HMb := Lib.hid hmb2
        have k0 := (hma.cell 0).trans (show _ = some (.int .i64 x) from rfl)
        have k1 := (hma.cell 1).trans (show _ = some (.int .i64 s) from rfl)
        have d0 := (hmb.cell 0).trans (show _ = some (.int .i64 y) from rfl)
        have d1 := (hmb.cell 1).trans (show _ = some (.int .i64 t) from rfl)
        have r0 := (hmr.cell 0).trans (show _ = some (.int .i64 0) from rfl)
        have r1 := (hmr.cell 1).trans (show _ = some (.int .i64 0) from rfl)
        have f0 := hmr.frozen 0
        have f1 := hmr.frozen 1
        have HBc := Lib.hid hbc
        clear hbc hma hmb hmr hOk hmb2 hk hek
        have hw2 : wrap64 (Int.tdiv y u) = Int.tdiv y u := by unfold wrap64; omega
        have hw3 : wrap64 (x + Int.tdiv y u) = x + Int.tdiv y u := by unfold wrap64; omega
        have hw4 : wrap64 (Int.tdiv 2000000000000000 u) = Int.tdiv 2000000000000000 u := by unfold wrap64; omega
        have hw5 : wrap64 (Int.tdiv 2000000000000000 u + 1) = Int.tdiv 2000000000000000 u + 1 := by unfold wrap64; omega
        have hw6 : wrap64 (-Int.tdiv 2000000000000000 u) = -Int.tdiv 2000000000000000 u := by unfold wrap64; omega
        have hw7 : wrap64 (-Int.tdiv 2000000000000000 u - 1) = -Int.tdiv 2000000000000000 u - 1 := by unfold wrap64; omega
        have hun : ¬ (u = 0) := by omega
        have HN0 := Lib.hid (And.intro hu0 hu1)
        have HN1 := Lib.hid hd1
        have HN2 := Lib.hid hd2
        have HN3 := Lib.hid hm1
        have HN4 := Lib.hid hm2
        clear p0 p1 p2 p3 p4 p5 p6 p7 p8 hk9 hu0 hu1 hd1 hd2 hm1 hm2 he1 he2
        go_wp2_with fail
        refine (HP.out _).mono ?_
        clear HP
        rintro e w5 ⟨rfl, rfl⟩
        go_wp2_with fail
        go_quiet (fail)
        generalize Int.tdiv y u = dv at *
        generalize Int.tmod y u = md at *
        have HZ0 : Hid (addD a b = none ∨ ¬ (Int.tdiv 2000000000000000 u + 1 < x + dv) ∧ ¬ (x + dv < -Int.tdiv 2000000000000000 u - 1)) := Lib.hid (by
          by_cases q : (decide (Int.tdiv 2000000000000000 u + 1 < x + dv) || decide (x + dv < -Int.tdiv 2000000000000000 u - 1)) = true
          · exact .inl (by rw [HY.out, HF.out, if_pos q])
          · exact .inr (by simpa using q))
        by_cases q1 : Int.tdiv 2000000000000000 u + 1 < x + dv
        · have HZ : Hid (addD a b = none) := Lib.hid (by rw [HY.out, HF.out, if_pos (by rw [decide_eq_true q1]; rfl)])
          clear HZ0 HF HY
          go_wp2_with fail
          refine bodyPost_ret (v := .tuple #[.agg #[.int .i64 0, .int .i64 0], .iface 67 (.int .i64 1)]) ?_ rfl ?_
          · simp [results, Tryz.results55, go_sem, r0, r1, f0, f1]
          · exact ⟨by rw [HZ.out]; rfl, ((below_drewN HBc.out _).setCell (p := ⟨_, _, none⟩) (by show w.heap.size ≤ w.heap.size + 1 + 1; omega) _).setCell (p := ⟨_, _, none⟩) (by show w.heap.size ≤ w.heap.size + 1 + 1; omega) _⟩
        · have q1d : decide (Int.tdiv 2000000000000000 u + 1 < x + dv) = false := decide_eq_false q1
          by_cases q2 : x + dv < -Int.tdiv 2000000000000000 u - 1
          · have HZ : Hid (addD a b = none) := Lib.hid (by rw [HY.out, HF.out, if_pos (by rw [decide_eq_true q2]; exact Bool.or_true _)])
            have q2d : decide (x + dv < -Int.tdiv 2000000000000000 u - 1) = true := decide_eq_true q2
            clear HZ0 HF HY q1 q2
            go_wp2_with fail
            refine bodyPost_ret (v := .tuple #[.agg #[.int .i64 0, .int .i64 0], .iface 67 (.int .i64 1)]) ?_ rfl ?_
            · simp [results, Tryz.results55, go_sem, r0, r1, f0, f1]
            · exact ⟨by rw [HZ.out]; rfl, ((below_drewN HBc.out _).setCell (p := ⟨_, _, none⟩) (by show w.heap.size ≤ w.heap.size + 1 + 1; omega) _).setCell (p := ⟨_, _, none⟩) (by show w.heap.size ≤ w.heap.size + 1 + 1; omega) _⟩
          · have HF2 : Hid (addD a b = if (x + dv) * u + md < -1000000000000000 ∨ 1000000000000000 < (x + dv) * u + md then none else some ⟨(x + dv) * u + md, t⟩) := Lib.hid (by rw [HY.out, HF.out, if_neg (by rw [decide_eq_false q1, decide_eq_false q2]; decide)])
            obtain ⟨g1, g2⟩ := HMb.out (by omega) (by omega)
            have hu9 := HN0.out
            have hm1 := HN3.out
            have hm2 := HN4.out
            have q2d : decide (x + dv < -Int.tdiv 2000000000000000 u - 1) = false := decide_eq_false q2
            clear HF HY HZ0 q1 q2
            generalize hsu : (x + dv) * u = su at *
            have hw8 : wrap64 su = su := by unfold wrap64; omega
            have hw9 : wrap64 (su + md) = su + md := by unfold wrap64; omega
            have hsu2 : wrap64 ((x + dv) * u) = su := by rw [hsu]; exact hw8
            clear hu9 hm1 hm2 g1 g2 hw8 hsu
            by_cases q3 : su + md < -1000000000000000
            · have HZ : Hid (addD a b = none) := Lib.hid (by rw [HF2.out, if_pos (.inl q3)])
              clear HF2
              go_wp2_with fail
              refine bodyPost_ret (v := .tuple #[.agg #[.int .i64 0, .int .i64 0], .iface 67 (.int .i64 1)]) ?_ rfl ?_
              · simp [results, Tryz.results55, go_sem, r0, r1, f0, f1]
              · exact ⟨by rw [HZ.out]; rfl, ((below_drewN HBc.out _).setCell (p := ⟨_, _, none⟩) (by show w.heap.size ≤ w.heap.size + 1 + 1; omega) _).setCell (p := ⟨_, _, none⟩) (by show w.heap.size ≤ w.heap.size + 1 + 1; omega) _⟩
            · by_cases q4 : 1000000000000000 < su + md
              · have HZ : Hid (addD a b = none) := Lib.hid (by rw [HF2.out, if_pos (.inr q4)])
                clear HF2
                go_wp2_with fail
                refine bodyPost_ret (v := .tuple #[.agg #[.int .i64 0, .int .i64 0], .iface 67 (.int .i64 1)]) ?_ rfl ?_
                · simp [results, Tryz.results55, go_sem, r0, r1, f0, f1]
                · exact ⟨by rw [HZ.out]; rfl, ((below_drewN HBc.out _).setCell (p := ⟨_, _, none⟩) (by show w.heap.size ≤ w.heap.size + 1 + 1; omega) _).setCell (p := ⟨_, _, none⟩) (by show w.heap.size ≤ w.heap.size + 1 + 1; omega) _⟩
              · have HZ : Hid (addD a b = some ⟨su + md, t⟩) := Lib.hid (by rw [HF2.out, if_neg (by omega)])
                clear HF2
                go_wp2_with fail
                refine bodyPost_ret (v := .tuple #[.agg #[.int .i64 (su + md), .int .i64 t], .nilIface]) ?_ rfl ?_
                · simp [results, Tryz.results55, go_sem, r0, r1, f0, f1]
                · exact ⟨by rw [HZ.out]; rfl, ((below_drewN HBc.out _).setCell (p := ⟨_, _, none⟩) (by show w.heap.size ≤ w.heap.size + 1 + 1; omega) _).setCell (p := ⟨_, _, none⟩) (by show w.heap.size ≤ w.heap.size + 1 + 1; omega) _⟩
    · rw [checkD_no hb, errD_ne (by decide)]
      have r0 := (MR4.out.cell 0).trans (show _ = some (.int .i64 0) from rfl)
      have r1 := (MR4.out.cell 1).trans (show _ = some (.int .i64 0) from rfl)
      have f0 := MR4.out.frozen 0
      have f1 := MR4.out.frozen 1
      have HE := Lib.hid (HNo.out (.inr hb))
      clear HNo HYes HSw hb
      go_wp2_with fail
      refine bodyPost_ret (v := .tuple #[.agg #[.int .i64 0, .int .i64 0], .iface 67 (.int .i64 1)]) ?_ rfl ?_
      · simp [results, Tryz.results55, go_sem, r0, r1, f0, f1]
      · exact ⟨by rw [HE.out]; rfl, (HB4.out.setCell (p := ⟨_, _, none⟩) (by show w.heap.size ≤ w.heap.size + 1 + 1; omega) _).setCell (p := ⟨_, _, none⟩) (by show w.heap.size ≤ w.heap.size + 1 + 1; omega) _⟩
  · rw [checkD_no ha, errD_ne (by decide)]
    have r0 := (MR3.out.cell 0).trans (show _ = some (.int .i64 0) from rfl)
    have r1 := (MR3.out.cell 1).trans (show _ = some (.int .i64 0) from rfl)
    have f0 := MR3.out.frozen 0
    have f1 := MR3.out.frozen 1
    have HE := Lib.hid (HNo.out (.inl ha))
    clear HNo HYes HSw HB ha
    go_wp2_with fail
    refine bodyPost_ret (v := .tuple #[.agg #[.int .i64 0, .int .i64 0], .iface 67 (.int .i64 1)]) ?_ rfl ?_
    · simp [results, Tryz.results55, go_sem, r0, r1, f0, f1]
    · exact ⟨by rw [HE.out]; rfl, (HB3.out.setCell (p := ⟨_, _, none⟩) (by show w.heap.size ≤ w.heap.size + 1 + 1; omega) _).setCell (p := ⟨_, _, none⟩) (by show w.heap.size ≤ w.heap.size + 1 + 1; omega) _⟩
end Go.Proofs.YtjdfpoppimcikaaGreatDoor
