/- rule.Text and rule.Holds. -/
import Derived.Test.YtjdfpoppimcikaaGreatDoorRuleH
import Derived.Test.YtjdfpoppimcikaaGreatDoorIdx
namespace Go.Proofs.YtjdfpoppimcikaaGreatDoor
open Go.RowKit

/-- a rule as a value, whose lists are not too long -/
structure RuIn (w : World) (lo : Nat) (v : Value) (R : List (List Rl)) : Prop where
  ok : ListOk (Enc.list Enc.rl) w lo w.heap.size v R
  len : R.length ≤ 10000000
  part : ∀ p ∈ R, p.length ≤ 10000000
  rng : ∀ p ∈ R, ∀ r ∈ p, r.rng.length ≤ 1049000
theorem RuIn.below {w w' : World} {lo : Nat} {v : Value} {R : List (List Rl)} (h : RuIn w lo v R) (hb : Below w.heap.size w w') : RuIn w' lo v R :=
  ⟨(h.ok.below (Enc.list_laws Enc.rl_laws) hb).mono (Enc.list_laws Enc.rl_laws) (Nat.le_refl _) hb.size, h.len, h.part, h.rng⟩
theorem checkIn_any {R : List (List Rl)} {v : Value} {lo : Nat} {w : World} (h : RuIn w lo v R) : Calls Tryz.prog 136 #[v] w fun e w' => e = .returned (errR (checkR R)) ∧ Below w.heap.size w w' :=
  rcheck_any R v lo w h.ok h.len h.part fun p hp r hr => Nat.le_trans (h.rng p hp r hr) (by decide)
theorem errR_ne {n : Int} (h : n ≠ 0) : errR n = .iface 67 (.int .i64 n) := if_neg h
theorem errR_zero : errR 0 = .nilIface := rfl
set_option maxHeartbeats 1600000 in
theorem Text_any (R : List (List Rl)) (v : Value) (lo : Nat) (w : World) (h : RuIn w lo v R) (hv : RV w) :
    Calls Tryz.prog 135 #[v] w fun e w' => e = .returned (.tuple #[.string (if checkR R = 0 then str (textR R) else ByteArray.empty), errR (checkR R)]) ∧ Below w.heap.size w w' := by
  have HC := Lib.hid (checkIn_any h)
  by_cases h0 : checkR R = 0
  · have HJ : Hid (∀ W, Below w.heap.size w W → Calls Tryz.prog 157 #[v, .string (str [32, 111, 114, 32]), .func (.func 158) #[] #[]] W fun e w' => e = .returned (.string (str (textR R))) ∧ Below W.heap.size W w') := Lib.hid fun W hW => by
      have hb := h.below hW
      have hl := text_len h0 h.rng
      obtain ⟨_, hf, _⟩ := checkR_zero h0
      refine joinedL_any R v [32, 111, 114, 32] partR lo W hb.ok hb.len hl (Lib.hid fun p hp W' hW' V' hV' => ?_)
      exact textPart_any p V' lo W' (fun r hr => ⟨(hf p hp).2 r hr, Nat.le_trans (h.rng p hp r hr) (by decide)⟩) hV' (h.part p hp) (Nat.le_trans (mem_join_le partR [32, 111, 114, 32] hp) hl) ((hv.below hW).below hW')
    rw [h0, if_pos rfl, errR_zero]
    rw [h0, errR_zero] at HC
    clear h hv h0
    generalize str (textR R) = T at *
    go_enter Tryz.func135, Tryz.ntmps135
    go_wp2_with fail
    refine HC.out.mono ?_
    clear HC
    rintro e w1 ⟨rfl, hb1⟩
    have HB1 := Lib.hid hb1
    have HJ1 := Lib.hid (HJ.out w1 hb1)
    clear hb1 HJ
    go_wp2_with fail
    refine HJ1.out.mono ?_
    clear HJ1
    rintro e w2 ⟨rfl, hb2⟩
    have HB2 := Lib.hid (HB1.out.trans (hb2.mono HB1.out.size))
    clear hb2
    go_wp2_with fail
    go_ret2
    exact ⟨rfl, HB2.out⟩
  · rw [if_neg h0, errR_ne h0]
    rw [errR_ne h0] at HC
    generalize checkR R = n at *
    clear h hv h0
    go_enter Tryz.func135, Tryz.ntmps135
    go_wp2_with fail
    refine HC.out.mono ?_
    clear HC
    rintro e w1 ⟨rfl, hb1⟩
    have HB1 := Lib.hid hb1
    clear hb1
    go_wp2_with fail
    go_ret2
    exact ⟨rfl, HB1.out⟩
set_option maxHeartbeats 1600000 in
theorem Holds_any (R : List (List Rl)) (v : Value) (o : OpV) (lo : Nat) (w : World) (h : RuIn w lo v R) (ho : o.Ok) :
    Calls Tryz.prog 101 #[v, .agg #[.int .i64 o.i, .int .i64 o.v, .int .i64 o.w, .int .i64 o.f, .int .i64 o.t]] w fun e w' => e = .returned (.tuple #[.bool (if checkR R = 0 then holdR o R else false), errR (checkR R)]) ∧ Below w.heap.size w w' := by
  obtain ⟨W1, eW1⟩ : ∃ W1, W1 = w.alloc (.cells #[.int .i64 o.i, .int .i64 o.v, .int .i64 o.w, .int .i64 o.f, .int .i64 o.t] 183) := ⟨_, rfl⟩
  have hb1 : Below w.heap.size w W1 := by rw [eW1]; exact (Below.refl _ _).alloc (Nat.le_refl _) _
  have m1 : Blk W1 w.heap.size 183 #[.int .i64 o.i, .int .i64 o.v, .int .i64 o.w, .int .i64 o.f, .int .i64 o.t] := by rw [eW1]; exact Blk.new _ _ _
  have HC := Lib.hid (checkIn_any (h.below hb1))
  have HB1 := Lib.hid hb1
  have HW1 := Lib.hid eW1
  by_cases h0 : checkR R = 0
  · have HJ : Hid (∀ W, Below W1.heap.size W1 W → Calls Tryz.prog 137 #[v, .func (.func 138) #[] #[.pointer (some ⟨w.heap.size, 0, none⟩)]] W fun e w' => e = .returned (.bool (holdR o R)) ∧ Below W.heap.size W w') := Lib.hid fun W hW => by
      have hb := (h.below hb1).below hW
      have hm := m1.below hW m1.lt
      obtain ⟨_, hf, _⟩ := checkR_zero h0
      refine containsL_any R v w.heap.size (holdP o) lo W hb.ok (by have := hb.len; omega) (Lib.hid fun p hp W' hW' V' hV' => ?_)
      exact holdPart_any p V' o w.heap.size lo W' ho (fun r hr => by
        obtain ⟨f1, f2, _, _, _⟩ := fineR_all ((hf p hp).2 r hr)
        exact ⟨f1, f2, Nat.le_trans (h.rng p hp r hr) (by decide)⟩) hV' (h.part p hp) (hm.below hW' hm.lt)
    rw [h0, if_pos rfl, errR_zero]
    rw [h0, errR_zero] at HC
    clear h ho h0 hb1 m1 eW1
    generalize holdR o R = X at *
    go_enter Tryz.func101, Tryz.ntmps101
    go_upto_region 1 with fail
    rw [← HW1.out]
    clear HW1
    go_wp2_with fail
    refine HC.out.mono ?_
    clear HC
    rintro e w1 ⟨rfl, hb1⟩
    have HB2 := Lib.hid (HB1.out.trans (hb1.mono HB1.out.size))
    have HJ1 := Lib.hid (HJ.out w1 hb1)
    clear hb1 HJ
    go_wp2_with fail
    refine HJ1.out.mono ?_
    clear HJ1
    rintro e w2 ⟨rfl, hb2⟩
    have HB3 := Lib.hid (HB2.out.trans (hb2.mono HB2.out.size))
    clear hb2
    go_wp2_with fail
    go_ret2
    exact ⟨rfl, HB3.out⟩
  · rw [if_neg h0, errR_ne h0]
    rw [errR_ne h0] at HC
    generalize checkR R = n at *
    clear h ho h0 hb1 m1 eW1
    go_enter Tryz.func101, Tryz.ntmps101
    go_upto_region 1 with fail
    rw [← HW1.out]
    clear HW1
    go_wp2_with fail
    refine HC.out.mono ?_
    clear HC
    rintro e w1 ⟨rfl, hb1⟩
    have HB2 := Lib.hid (HB1.out.trans (hb1.mono HB1.out.size))
    clear hb1
    go_wp2_with fail
    go_ret2
    exact ⟨rfl, HB2.out⟩
end Go.Proofs.YtjdfpoppimcikaaGreatDoor
/- ops.Of. -/

namespace Go.Proofs.YtjdfpoppimcikaaGreatDoor
open Go.RowKit

def opsF (d : DecV) : Int := Int.tmod (absD d.coef) (P10 d.scale.toNat)
def opsV (d : DecV) : OpV := ⟨Int.tdiv (absD d.coef) (P10 d.scale.toNat), d.scale, ((trimF d.scale.toNat (opsF d)).2 : Int), opsF d, (trimF d.scale.toNat (opsF d)).1⟩
def opsO (d : DecV) : OpV := if d.ok then opsV d else ⟨0, 0, 0, 0, 0⟩
def OpV.val (o : OpV) : Value := .agg #[.int .i64 o.i, .int .i64 o.v, .int .i64 o.w, .int .i64 o.f, .int .i64 o.t]
def OpV.row (o : OpV) : Array Value := #[.int .i64 o.i, .int .i64 o.v, .int .i64 o.w, .int .i64 o.f, .int .i64 o.t]
theorem ops_bound (d : DecV) (h : d.ok) : 0 ≤ absD d.coef ∧ absD d.coef ≤ 1000000000000000 ∧ 0 ≤ opsF d ∧ opsF d ≤ 1000000000 ∧ 0 ≤ Int.tdiv (absD d.coef) (P10 d.scale.toNat) ∧ Int.tdiv (absD d.coef) (P10 d.scale.toNat) ≤ 1000000000000000 := by
  obtain ⟨h0, h1, h2, h3⟩ := h
  have ha : 0 ≤ absD d.coef ∧ absD d.coef ≤ 1000000000000000 := by unfold absD; split <;> omega
  have p0 := P10_pos d.scale.toNat
  have p1 := P10_le d.scale.toNat (by omega)
  have hf : 0 ≤ opsF d ∧ opsF d ≤ 1000000000 := by
    unfold opsF
    rw [Int.tmod_eq_emod_of_nonneg ha.1]
    have h3 := Int.emod_nonneg (absD d.coef) (by omega : P10 d.scale.toNat ≠ 0)
    have h4 := Int.emod_lt_of_pos (absD d.coef) p0
    omega
  obtain ⟨t1, t2⟩ := tdiv_bound (b := absD d.coef) (M := 1000000000000000) p0 (by omega) ha.2
  refine ⟨ha.1, ha.2, hf.1, hf.2, ?_, t2⟩
  rw [Int.tdiv_eq_ediv_of_nonneg ha.1]
  exact Int.ediv_nonneg ha.1 (Int.le_of_lt p0)
set_option maxHeartbeats 6400000 in
set_option maxRecDepth 100000 in
theorem opsOf_any (d : DecV) (w : World) : Calls Tryz.prog 98 #[d.v] w fun e w' => e = .returned (.tuple #[(opsO d).val, errD (checkD d)]) ∧ Below w.heap.size w w' := by
  have HA : Hid (∀ W, Calls Tryz.prog 26 #[d.v] W fun e w' => e = .returned (errD (checkD d)) ∧ Below W.heap.size W w') := Lib.hid fun W => checkD_any d W
  obtain ⟨W2, eW2⟩ : ∃ W2, W2 = (w.alloc (.cells #[.int .i64 d.coef, .int .i64 d.scale] 33)).alloc (.cells #[.int .i64 0, .int .i64 0, .int .i64 0, .int .i64 0, .int .i64 0] 183) := ⟨_, rfl⟩
  have ma : Blk W2 w.heap.size 33 #[.int .i64 d.coef, .int .i64 d.scale] := by rw [eW2]; exact (Blk.new _ _ _).alloc _
  have mr : Blk W2 (w.heap.size + 1) 183 #[.int .i64 0, .int .i64 0, .int .i64 0, .int .i64 0, .int .i64 0] := by
    rw [eW2]
    have := Blk.new (w.alloc (.cells #[.int .i64 d.coef, .int .i64 d.scale] 33)) 183 #[.int .i64 0, .int .i64 0, .int .i64 0, .int .i64 0, .int .i64 0]
    rw [World.size_alloc] at this; exact this
  have hb2 : Below w.heap.size w W2 := by rw [eW2]; exact ((Below.refl _ _).alloc (Nat.le_refl _) _).alloc (by simp) _
  have HB2 := Lib.hid hb2
  have MA := Lib.hid ma
  have MR := Lib.hid mr
  have EW := Lib.hid eW2
  have k0 := (ma.cell 0).trans (show _ = some (.int .i64 d.coef) from rfl)
  have k1 := (ma.cell 1).trans (show _ = some (.int .i64 d.scale) from rfl)
  unfold DecV.v at HA ⊢
  clear hb2 ma mr eW2
  go_enter Tryz.func98, Tryz.ntmps98
  go_upto_region 1 with fail
  rw [← EW.out]
  clear EW
  go_wp2_with fail
  refine (HA.out W2).mono ?_
  clear HA
  rintro e w3 ⟨rfl, hb3⟩
  have HB3 := Lib.hid (HB2.out.trans (hb3.mono HB2.out.size))
  have MA3 := Lib.hid (MA.out.below hb3 MA.out.lt)
  have MR3 := Lib.hid (MR.out.below hb3 MR.out.lt)
  clear k0 k1 hb3 MA MR HB2
  by_cases hd : d.ok
  · have HO : Hid (opsO d = opsV d ∧ errD (checkD d) = .nilIface) := Lib.hid ⟨if_pos hd, by rw [checkD_ok hd]; rfl⟩
    rw [checkD_ok hd, errD_zero]
    obtain ⟨b0, b1, b2, b3, b4, b5⟩ := ops_bound d hd
    obtain ⟨h0, h1, h2, h3⟩ := hd
    obtain ⟨n, hn⟩ : ∃ n : Nat, d.scale = n := ⟨d.scale.toNat, by omega⟩
    have hn9 : n ≤ 9 := by omega
    have HV : Hid (opsV d = ⟨Int.tdiv (absD d.coef) (P10 n), (n : Int), ((trimF n (Int.tmod (absD d.coef) (P10 n))).2 : Int), Int.tmod (absD d.coef) (P10 n), (trimF n (Int.tmod (absD d.coef) (P10 n))).1⟩) := Lib.hid (by
      unfold opsV opsF
      rw [hn]
      have e : ((n : Int)).toNat = n := by omega
      rw [e])
    have d0 := (MA3.out.cell 0).trans (show _ = some (.int .i64 d.coef) from rfl)
    have d1 := (MA3.out.cell 1).trans (show _ = some (.int .i64 d.scale) from rfl)
    rw [hn] at d1
    rw [hn] at MA3
    have HD : Hid (d.coef = -(-d.coef) ∧ absD d.coef = if d.coef < 0 then -d.coef else d.coef) := Lib.hid ⟨by omega, rfl⟩
    have hmx : max d.coef (-d.coef) = absD d.coef := by unfold absD; split <;> omega
    have hwn : wrap64 (-d.coef) = -d.coef := by unfold wrap64; omega
    have HBd := Lib.hid (And.intro b0 (And.intro b1 (And.intro b4 b5)))
    have hfb : 0 ≤ Int.tmod (absD d.coef) (P10 n) ∧ Int.tmod (absD d.coef) (P10 n) ≤ 1000000000 := by
      have e : ((n : Int)).toNat = n := by omega
      have h := And.intro b2 b3
      unfold opsF at h
      rwa [hn, e] at h
    have htb : 0 ≤ Int.tdiv (absD d.coef) (P10 n) ∧ Int.tdiv (absD d.coef) (P10 n) ≤ 1000000000000000 := by
      have e : ((n : Int)).toNat = n := by omega
      have h := And.intro b4 b5
      rwa [hn, e] at h
    generalize absD d.coef = ab at *
    clear h0 h1 h2 h3 hn b0 b1 b2 b3 b4 b5
    go_wp2_with fail
    go_loopw [5, 16] (fun o i wr => ∃ j : Nat, j ≤ n ∧ i = .int .i64 (j : Int) ∧ o = .int .i64 (P10 j) ∧ wr = w3) (fun _ i _ => n - (intOf i).toNat)
    case atStart => exact ⟨0, Nat.zero_le _, rfl, rfl, rfl⟩
    case round =>
      obtain ⟨j, hj, rfl, rfl, rfl⟩ := hrel
      by_cases hlt : j < n
      · have i1 : (0 : Int) ≤ (j : Int) := Int.natCast_nonneg j
        have i2 : (j : Int) < (n : Int) := by omega
        have hS := Lib.hid (P10_succ j)
        have h1 := P10_le j (by omega)
        have h2 := P10_pos j
        clear hmx hwn hfb htb d0 d1
        generalize P10 j = p at *
        have hw : wrap64 (p * 10) = p * 10 := by unfold wrap64; omega
        go_wp2_with fail
        go_roundw
        case rel => exact ⟨j + 1, by omega, by go_num, by rw [hS.out], by first | rfl | trivial⟩
        case measure => simp [intOf]; omega
      · obtain rfl : j = n := by omega
        have hu0 := P10_pos j
        have HUn : Hid (0 < P10 j) := Lib.hid hu0
        generalize P10 j = u at *
        have hun : ¬ (u = 0) := by omega
        have hwt : wrap64 (Int.tdiv ab u) = Int.tdiv ab u := by unfold wrap64; omega
        have ha0 : (wr.alloc (.cells #[.int .i64 0, .int .i64 0, .int .i64 0, .int .i64 0, .int .i64 0] 183)).drew.cell? ⟨w.heap.size, 1, none⟩ = some (.int .i64 (j : Int)) := ((MA3.out.alloc (.cells #[.int .i64 0, .int .i64 0, .int .i64 0, .int .i64 0, .int .i64 0] 183)).cell 1).trans rfl
        clear hu0 hlt hj
        go_wp2_with fail
        go_region
        go_wp2_with fail
        rw [Int.tmod_eq_emod_of_nonneg HBd.out.1] at HV hfb
        have HFb := Lib.hid hfb
        generalize hii : Int.tdiv ab u = II at *
        generalize hff : ab % u = FF at *
        have MR5 : Hid (Blk (wr.alloc (.cells #[.int .i64 II, .int .i64 (j : Int), .int .i64 (j : Int), .int .i64 FF, .int .i64 FF] 183)).drew (w.heap.size + 1) 183 #[.int .i64 0, .int .i64 0, .int .i64 0, .int .i64 0, .int .i64 0]) := Lib.hid (MR3.out.alloc _)
        have MB5 : Hid (Blk (wr.alloc (.cells #[.int .i64 II, .int .i64 (j : Int), .int .i64 (j : Int), .int .i64 FF, .int .i64 FF] 183)).drew wr.heap.size 183 #[.int .i64 II, .int .i64 (j : Int), .int .i64 (j : Int), .int .i64 FF, .int .i64 FF]) := Lib.hid (Blk.new _ _ _)
        have HB5 : Hid (Below w.heap.size w (wr.alloc (.cells #[.int .i64 II, .int .i64 (j : Int), .int .i64 (j : Int), .int .i64 FF, .int .i64 FF] 183)).drew) := Lib.hid ((HB3.out.alloc HB3.out.size _).drew)
        have hlt1 := MR3.out.lt
        have hsz3 := HB3.out.size
        clear hfb hii hff ha0 hwt hun HUn hmx hwn MA3 MR3 HD HBd htb d0 d1
        go_loopw [] (fun wq => ∃ (c : Int) (m : Nat), Hid (0 ≤ c ∧ c ≤ 1000000000) ∧ m ≤ 9 ∧ Hid (trimF j FF = trimF m c) ∧ Blk wq wr.heap.size 183 #[.int .i64 II, .int .i64 (j : Int), .int .i64 (m : Int), .int .i64 FF, .int .i64 c] ∧ Blk wq (w.heap.size + 1) 183 #[.int .i64 0, .int .i64 0, .int .i64 0, .int .i64 0, .int .i64 0] ∧ Below w.heap.size w wq) (fun wq => match wq.cell? ⟨wr.heap.size, 2, none⟩ with | some v => (intOf v).toNat | none => 0)
        case atStart => exact ⟨FF, j, HFb, hn9, Lib.hid rfl, MB5.out, MR5.out, HB5.out⟩
        case round =>
          clear MR5 MB5 HB5 HB3
          rename_i wq
          obtain ⟨c, m, HCb, hm, HTm, hmb, hmr, hb⟩ := hrel
          have HB := Lib.hid hb
          have HMB := Lib.hid hmb
          have HMR := Lib.hid hmr
          have k2 := (hmb.cell 2).trans (show _ = some (.int .i64 (m : Int)) from rfl)
          have k4 := (hmb.cell 4).trans (show _ = some (.int .i64 c) from rfl)
          have f2 := hmb.frozen 2
          have f4 := hmb.frozen 4
          have k0 := (hmb.cell 0).trans (show _ = some (.int .i64 II) from rfl)
          have k1 := (hmb.cell 1).trans (show _ = some (.int .i64 (j : Int)) from rfl)
          have k3 := (hmb.cell 3).trans (show _ = some (.int .i64 FF) from rfl)
          have hwc : wrap64 (Int.tdiv c 10) = Int.tdiv c 10 := by
            obtain ⟨t1, t2⟩ := tdiv_bound (b := c) (u := 10) (M := 1000000000) (by decide) (by have := HCb.out; omega) HCb.out.2
            unfold wrap64; omega
          clear hb hmb hmr HFb
          cases m with
          | zero =>
            have HE : Hid (trimF 0 c = (c, 0)) := Lib.hid rfl
            have r0 := (HMR.out.cell 0).trans (show _ = some (.int .i64 0) from rfl)
            have r1 := (HMR.out.cell 1).trans (show _ = some (.int .i64 0) from rfl)
            have r2 := (HMR.out.cell 2).trans (show _ = some (.int .i64 0) from rfl)
            have r3 := (HMR.out.cell 3).trans (show _ = some (.int .i64 0) from rfl)
            have r4 := (HMR.out.cell 4).trans (show _ = some (.int .i64 0) from rfl)
            have g0 := HMR.out.frozen 0
            have g1 := HMR.out.frozen 1
            have g2 := HMR.out.frozen 2
            have g3 := HMR.out.frozen 3
            have g4 := HMR.out.frozen 4
            clear HMR HMB hwc f2 f4
            go_wp2_with fail
            refine bodyPost_ret (v := .tuple #[.agg #[.int .i64 II, .int .i64 (j : Int), .int .i64 0, .int .i64 FF, .int .i64 c], .nilIface]) ?_ rfl ?_
            · simp [results, Tryz.results98, go_sem, r0, r1, r2, r3, r4, g0, g1, g2, g3, g4]
            · refine ⟨by rw [HO.out.1, HO.out.2, HV.out, HTm.out, HE.out]; rfl, ?_⟩
              repeat' (first | exact HB.out | refine Below.setCell ?_ (by show w.heap.size ≤ w.heap.size + 1; omega) _)
          | succ m =>
            have i1 : (0 : Int) < (m : Int) + 1 := by omega
            have i2 : (0 : Int) < ((m + 1 : Nat) : Int) := by omega
            have hw2 : wrap64 ((m : Int) + 1 - 1) = (m : Int) := by unfold wrap64; omega
            by_cases h0 : Int.tmod c 10 = 0
            · have q0 : (Int.tmod c 10 == 0) = true := by rw [beq_iff_eq]; exact h0
              have HE : Hid (trimF (m + 1) c = trimF m (Int.tdiv c 10)) := Lib.hid (if_pos h0)
              have HCn : Hid (0 ≤ Int.tdiv c 10 ∧ Int.tdiv c 10 ≤ 1000000000) := Lib.hid (by
                obtain ⟨c0, c1⟩ := HCb.out
                have := (tdiv_bound (b := c) (u := 10) (M := 1000000000) (by decide) (by omega) c1).2
                rw [Int.tdiv_eq_ediv_of_nonneg c0] at this ⊢
                exact ⟨Int.ediv_nonneg c0 (by decide), this⟩)
              clear h0
              go_wp2_with fail
              go_roundw
              case rel =>
                exact ⟨Int.tdiv c 10, m, HCn, by omega, Lib.hid (by rw [HTm.out, HE.out]), (HMB.out.set_ 2 _).set_ 4 _, (HMR.out.far (Nat.ne_of_lt hlt1) _).far (Nat.ne_of_lt hlt1) _, (HB.out.setCell (p := ⟨_, _, none⟩) hsz3 _).setCell (p := ⟨_, _, none⟩) hsz3 _⟩
              case measure =>
                have e1 := (((HMB.out.set_ 2 (.int .i64 (m : Int))).set_ 4 (.int .i64 (Int.tdiv c 10))).cell 2).trans (show _ = some (.int .i64 (m : Int)) from rfl)
                rw [e1]
                simp only [k2]
                simp [intOf]
            · have q0 : (Int.tmod c 10 == 0) = false := by rw [beq_eq_false_iff_ne]; exact h0
              have HE : Hid (trimF (m + 1) c = (c, m + 1)) := Lib.hid (if_neg h0)
              have r0 := (HMR.out.cell 0).trans (show _ = some (.int .i64 0) from rfl)
              have r1 := (HMR.out.cell 1).trans (show _ = some (.int .i64 0) from rfl)
              have r2 := (HMR.out.cell 2).trans (show _ = some (.int .i64 0) from rfl)
              have r3 := (HMR.out.cell 3).trans (show _ = some (.int .i64 0) from rfl)
              have r4 := (HMR.out.cell 4).trans (show _ = some (.int .i64 0) from rfl)
              have g0 := HMR.out.frozen 0
              have g1 := HMR.out.frozen 1
              have g2 := HMR.out.frozen 2
              have g3 := HMR.out.frozen 3
              have g4 := HMR.out.frozen 4
              clear HMR HMB hwc f2 f4 h0
              go_wp2_with fail
              refine bodyPost_ret (v := .tuple #[.agg #[.int .i64 II, .int .i64 (j : Int), .int .i64 ((m + 1 : Nat) : Int), .int .i64 FF, .int .i64 c], .nilIface]) ?_ rfl ?_
              · simp [results, Tryz.results98, go_sem, r0, r1, r2, r3, r4, g0, g1, g2, g3, g4]
              · refine ⟨by rw [HO.out.1, HO.out.2, HV.out, HTm.out, HE.out]; rfl, ?_⟩
                repeat' (first | exact HB.out | refine Below.setCell ?_ (by show w.heap.size ≤ w.heap.size + 1; omega) _)
  · have HO : Hid (opsO d = ⟨0, 0, 0, 0, 0⟩ ∧ errD (checkD d) = .iface 67 (.int .i64 1)) := Lib.hid ⟨if_neg hd, by rw [checkD_no hd]; rfl⟩
    rw [checkD_no hd, errD_ne (by decide)]
    have r0 := (MR3.out.cell 0).trans (show _ = some (.int .i64 0) from rfl)
    have r1 := (MR3.out.cell 1).trans (show _ = some (.int .i64 0) from rfl)
    have r2 := (MR3.out.cell 2).trans (show _ = some (.int .i64 0) from rfl)
    have r3 := (MR3.out.cell 3).trans (show _ = some (.int .i64 0) from rfl)
    have r4 := (MR3.out.cell 4).trans (show _ = some (.int .i64 0) from rfl)
    have f0 := MR3.out.frozen 0
    have f1 := MR3.out.frozen 1
    have f2 := MR3.out.frozen 2
    have f3 := MR3.out.frozen 3
    have f4 := MR3.out.frozen 4
    clear hd
    go_wp2_with fail
    refine bodyPost_ret (v := .tuple #[.agg #[.int .i64 0, .int .i64 0, .int .i64 0, .int .i64 0, .int .i64 0], .iface 67 (.int .i64 1)]) ?_ rfl ?_
    · simp [results, Tryz.results98, go_sem, r0, r1, r2, r3, r4, f0, f1, f2, f3, f4]
    · refine ⟨by rw [HO.out.1, HO.out.2]; rfl, ?_⟩
      repeat' (first | exact HB3.out | refine Below.setCell ?_ (by show w.heap.size ≤ w.heap.size + 1; omega) _)
end Go.Proofs.YtjdfpoppimcikaaGreatDoor
