/- msg.Parse: its closure, its ways out. -/
import Derived.Test.YtjdfpoppimcikaaGreatDoorRdN
import Derived.Test.YtjdfpoppimcikaaGreatDoorMkN
namespace Go.Proofs.YtjdfpoppimcikaaGreatDoor
open Go.RowKit

theorem assert_errP (v : Value) (w : World) : (Instr.typeAssert (.iface 67 v) 20 67 true).run Tryz.prog w = .ok (.tuple #[v, .bool true]) w := by
  simp [Instr.typeAssert, run_underlying Tryz.underlying67]
theorem rep16P : (Array.replicate 16 undef : Array Value) = #[undef, undef, undef, undef, undef, undef, undef, undef, undef, undef, undef, undef, undef, undef, undef, undef] := rfl
set_option maxHeartbeats 1600000 in
set_option maxRecDepth 100000 in
theorem par_idle (po pe : Addr) (w : World) : CallsD Tryz.prog 21 #[.pointer (some po), .pointer (some pe)] .returning w fun e u' w' => e = .returned (.tuple #[]) ∧ u' = .returning ∧ w' = w := by
  refine callsD_of_wpS Tryz.func21 rfl fun c₀ cs hu => ?_
  apply wpS_seq
  apply wpS_region
  simp [wpOpsS, go_sem, recoverD, hu, Tryz.ntmps21, Exit.thenS]
  rw [rep16P]
  simp only [List.setIfInBounds_toArray, List.set_cons_zero, List.set_cons_succ, List.append_toArray, List.cons_append, List.nil_append]
  refine wpS_of_wp ?_
  go_wp2_with fail
  cases c₀
  simp_all [bodyPostS, results, Tryz.results21]
set_option maxHeartbeats 1600000 in
set_option maxRecDepth 100000 in
theorem par_caught (B po pe : Nat) (hB0 : B ≤ po) (hB1 : B ≤ pe) (x : Int) (v z : Value) (older : List PanicEntry) (w : World) (ho : Blk w po 22 #[v]) (he : Blk w pe 25 #[z]) :
    CallsD Tryz.prog 21 #[.pointer (some ⟨po, 0, none⟩), .pointer (some ⟨pe, 0, none⟩)] (.panicking ({ v := .iface 67 (.int .i64 x), recovered := false } :: older)) w fun e u' w' =>
      e = .returned (.tuple #[]) ∧ u' = .panicking ({ v := .iface 67 (.int .i64 x), recovered := true } :: older) ∧ Below B w w' ∧ Blk w' po 22 #[.slice none 0 0] ∧ Blk w' pe 25 #[.iface 67 (.int .i64 x)] := by
  refine callsD_of_wpS Tryz.func21 rfl fun c₀ cs hu => ?_
  apply wpS_seq
  apply wpS_region
  simp [wpOpsS, go_sem, recoverD, hu, Tryz.ntmps21, Exit.thenS]
  rw [rep16P]
  simp only [List.setIfInBounds_toArray, List.set_cons_zero, List.set_cons_succ, List.append_toArray, List.cons_append, List.nil_append]
  have o0 := ho.cell 0
  have o2 := he.cell 0
  have f0 := ho.frozen 0
  have f2 := he.frozen 0
  simp at o0 o2
  have ha := assert_errP (.int .i64 x)
  have hne : ¬ pe = po := by
    rintro rfl
    unfold Blk at ho he
    rw [ho] at he; injection he with he; injection he with _ he
    exact absurd he (by decide)
  have hne' : ¬ po = pe := fun h => hne h.symm
  have HO := Lib.hid ho
  have HE := Lib.hid he
  clear ho he
  refine wpS_of_wp ?_
  go_wp2_with fail
  have h1 := (HO.out.set_ 0 (.slice none 0 0)).far (p := ⟨pe, 0, none⟩) hne' (.iface 67 (.int .i64 x))
  have h2 := (HE.out.far (p := ⟨po, 0, none⟩) hne (.slice none 0 0)).set_ 0 (.iface 67 (.int .i64 x))
  have h3 : Below B w ((w.setCell ⟨po, 0, none⟩ (.slice none 0 0)).setCell ⟨pe, 0, none⟩ (.iface 67 (.int .i64 x))) := ((Below.refl B w).setCell (p := ⟨po, 0, none⟩) hB0 _).setCell (p := ⟨pe, 0, none⟩) hB1 _
  exact ⟨rfl, _, rfl, .tuple #[], by simp [results, Tryz.results21], rfl, rfl, h3, h1, h2⟩
def parD (B : Nat) : List Deferred := [{ target := .fn (.func 21) #[.pointer (some ⟨B, 0, none⟩), .pointer (some ⟨B + 1, 0, none⟩)], args := #[] }]
theorem par_thrown (B : Nat) (x : Int) (tmps : Array Value) (R : Ending → World → Prop) (v z : Value) (w : World) (h2 : tmps.getD 2 undef = .pointer (some ⟨B, 0, none⟩)) (h3 : tmps.getD 3 undef = .pointer (some ⟨B + 1, 0, none⟩))
    (k0 : Blk w B 22 #[v]) (k1 : Blk w (B + 1) 25 #[z]) (hR : ∀ W, Below B w W → R (.returned (.tuple #[.slice none 0 0, .iface 67 (.int .i64 x)])) W) :
    Leaves Tryz.prog Tryz.f9 tmps R (parD B) (.panicking [{ v := .iface 67 (.int .i64 x), recovered := false }]) w := by
  refine leaves_cons (f := 21) (args := #[.pointer (some ⟨B, 0, none⟩), .pointer (some ⟨B + 1, 0, none⟩)]) (by simp) (by simp [go_sem]) ?_
  refine (par_caught B B (B + 1) (Nat.le_refl _) (by omega) x v z [] w k0 k1).mono ?_
  rintro e u' w2 ⟨rfl, rfl, hb2, q0, q1⟩
  have c0 := q0.cell 0
  have c2 := q1.cell 0
  simp at c0 c2
  have HR := Lib.hid (hR w2 hb2)
  clear hR
  simp at h2 h3
  simp [Leaves, settle, results, Tryz.results9, go_sem, h2, h3, c0, c2]
  exact HR.out
theorem par_told (B : Nat) (tmps : Array Value) (R : Ending → World → Prop) (A : Option Addr) (n c : Nat) (z : Value) (w : World) (h2 : tmps.getD 2 undef = .pointer (some ⟨B, 0, none⟩)) (h3 : tmps.getD 3 undef = .pointer (some ⟨B + 1, 0, none⟩))
    (k0 : Blk w B 22 #[.slice A n c]) (k1 : Blk w (B + 1) 25 #[z]) (hR : R (.returned (.tuple #[.slice A n c, z])) w) :
    Leaves Tryz.prog Tryz.f9 tmps R (parD B) .returning w := by
  refine leaves_cons (f := 21) (args := #[.pointer (some ⟨B, 0, none⟩), .pointer (some ⟨B + 1, 0, none⟩)]) (by simp) (by simp [go_sem]) ?_
  refine (par_idle _ _ w).mono ?_
  rintro e u' w2 ⟨rfl, rfl, rfl⟩
  have c0 := k0.cell 0
  have c2 := k1.cell 0
  simp at c0 c2
  have HR := Lib.hid hR
  clear hR
  simp at h2 h3
  simp [Leaves, settle, results, Tryz.results9, go_sem, h2, h3, c0, c2]
  exact HR.out
/-- what Parse tells -/
def ParR (l : List UInt8) (w : World) (e : Ending) (w' : World) : Prop :=
  Below w.heap.size w w' ∧ ∃ v, e = .returned (.tuple #[v, errV (parE l)]) ∧ MkN 7 w.heap.size w'.heap.size w' v (if parE l = 0 then parM l else [])
theorem parR_bad {l : List UInt8} {w w' : World} {x : Int} (hx : parE l = x) (h0 : x ≠ 0) (hb : Below w.heap.size w w') : ParR l w (.returned (.tuple #[.slice none 0 0, .iface 67 (.int .i64 x)])) w' := by
  subst hx
  refine ⟨hb, .slice none 0 0, by rw [errV_ne h0], ?_⟩
  rw [if_neg h0]
  exact RowOk.nil nodC 4 _ _ _ _ _ _
theorem parE_long {l : List UInt8} (h : 2000 < l.length) : parE l = 4 := if_pos h
theorem parE_none {l : List UInt8} (h : ¬ 2000 < l.length) (h1 : readM 7 false l = none) : parE l = 3 := by unfold parE; rw [if_neg h, h1]
theorem parE_rest {l : List UInt8} {m : List (Nd 7)} {c : UInt8} {r : List UInt8} (h : ¬ 2000 < l.length) (h1 : readM 7 false l = some (m, c :: r)) : parE l = 3 := by unfold parE; rw [if_neg h, h1]
theorem parE_read {l : List UInt8} {m : List (Nd 7)} (h : ¬ 2000 < l.length) (h1 : readM 7 false l = some (m, [])) : parE l = (if checkAll 7 m = 0 then 0 else 3) ∧ parM l = m := by
  unfold parE parM; rw [if_neg h, h1]; exact ⟨rfl, rfl⟩
set_option maxHeartbeats 3200000 in
set_option maxRecDepth 100000 in
theorem mParse_any (l : List UInt8) (w : World) (hV : MV w) :
    Calls Tryz.prog 9 #[.string (str l)] w fun e w' => ParR l w e w' := by
  have hmf : ∀ (fn : Fn) (first cap : Array Value) (w : World), (Instr.makeFunc fn first cap).run Tryz.prog w = .ok (.func fn first cap) w := fun _ _ _ _ => rfl
  have hsz := str_size l
  obtain ⟨W1, eW1⟩ : ∃ W1, W1 = (w.alloc (.cells #[.slice none 0 0] 22)).alloc (.cells #[.nilIface] 25) := ⟨_, rfl⟩
  have hb1 : Below w.heap.size w W1 := by rw [eW1]; exact ((Below.refl _ _).alloc (Nat.le_refl _) _).alloc (by simp) _
  have hm1 : Blk W1 w.heap.size 22 #[.slice none 0 0] := by rw [eW1]; exact (Blk.new _ _ _).alloc _
  have he1 : Blk W1 (w.heap.size + 1) 25 #[.nilIface] := by
    rw [eW1]
    have := Blk.new (w.alloc (.cells #[.slice none 0 0] 22)) 25 #[.nilIface]
    rwa [World.size_alloc] at this
  have hz1 : W1.heap.size = w.heap.size + 2 := by rw [eW1]; simp
  have HB1 := Lib.hid hb1
  have HM1 := Lib.hid hm1
  have HE1 := Lib.hid he1
  have EW1 := Lib.hid eW1
  by_cases hl : 2000 < l.length
  · have HP := Lib.hid (parE_long hl)
    have k0 := (hm1.cell 0).trans (show _ = some (.slice none 0 0) from rfl)
    have k1 := (he1.cell 0).trans (show _ = some .nilIface from rfl)
    have f0 := hm1.frozen 0
    have f1 := he1.frozen 0
    have hgt : (2000 : Int) < (l.length : Int) := by omega
    clear hb1 hm1 he1 eW1
    go_enter_defers Tryz.func9, Tryz.ntmps9
    go_upto_region 1 with fail
    rw [← EW1.out]
    clear EW1
    go_wp2_with fail
    have hb2 : Below w.heap.size w ((W1.setCell ⟨w.heap.size, 0, none⟩ (.slice none 0 0)).setCell ⟨w.heap.size + 1, 0, none⟩ (.iface 67 (.int .i64 4))) := (HB1.out.setCell (p := ⟨w.heap.size, 0, none⟩) (Nat.le_refl _) _).setCell (p := ⟨w.heap.size + 1, 0, none⟩) (Nat.le_succ _) _
    refine ⟨.tuple #[.slice none 0 0, .iface 67 (.int .i64 4)], ?_, parR_bad HP.out (by decide) hb2⟩
    simp [results, Tryz.results9, go_sem, k0, k1, f0, f1]
  · have hngt : ¬ ((2000 : Int) < (l.length : Int)) := by omega
    obtain ⟨W2, eW2⟩ : ∃ W2, W2 = W1.alloc (.cells #[.string (str l), .int .i64 0] 72) := ⟨_, rfl⟩
    have hb12 : Below W1.heap.size W1 W2 := by rw [eW2]; exact (Below.refl _ _).alloc (Nat.le_refl _) _
    have hr2 : Rdr W2 (w.heap.size + 2) l 0 := by
      rw [eW2, ← hz1]
      exact Blk.new _ _ _
    have hz2 : W2.heap.size = w.heap.size + 3 := by rw [eW2, World.size_alloc, hz1]
    have HB2 := Lib.hid (hb1.trans (hb12.mono (by omega)))
    have HM2 := Lib.hid (hm1.below hb12 (by omega))
    have HE2 := Lib.hid (he1.below hb12 (by omega))
    have HRd := Lib.hid (rmessage_any 7 0 rfl (w.heap.size + 2) false l W2 hr2 (by omega))
    have EW2 := Lib.hid eW2
    have HMV : Hid (∀ W, Below w.heap.size w W → MV W) := Lib.hid fun W hW => hV.below hW
    have HZ1 := Lib.hid hz1
    clear hb1 hm1 he1 eW1 eW2 hb12 hr2 hV
    go_enter_defers Tryz.func9, Tryz.ntmps9
    go_upto_region 1 with fail
    rw [← EW1.out]
    clear EW1
    go_wp2_with fail
    rw [← EW2.out]
    clear EW2 hz1
    change Calls _ _ _ _ _
    cases ho : readM 7 false l with
    | none =>
      rw [ho] at HRd
      have HP := Lib.hid (parE_none hl ho)
      clear ho
      refine HRd.out.mono ?_
      clear HRd
      rintro e w3 ⟨hF3, rfl, l3, d3, hR3⟩
      have hb3 : Below w.heap.size w w3 := Fr.below HB2.out hF3 (by omega) (fun i e => by have : i = w.heap.size + 2 := e; omega)
      have HB3 := Lib.hid hb3
      have HM3 := Lib.hid (HM2.out.fr hF3 (by show ¬ w.heap.size = w.heap.size + 2; omega))
      have HE3 := Lib.hid (HE2.out.fr hF3 (by show ¬ w.heap.size + 1 = w.heap.size + 2; omega))
      clear hF3 hR3 hb3
      go_wp2_with fail
      exact par_thrown w.heap.size 3 _ _ (.slice none 0 0) .nilIface w3 rfl rfl HM3.out HE3.out fun W hW => parR_bad HP.out (by decide) (HB3.out.trans hW)
    | some p =>
      obtain ⟨m, r⟩ := p
      rw [ho] at HRd
      have hbk := readM_len 7 false l m r ho
      refine HRd.out.mono ?_
      clear HRd
      rintro e w3 ⟨hF3, v, rfl, hR3, hK3⟩
      obtain ⟨A, c, rfl⟩ := hK3.form
      have hb3 : Below w.heap.size w w3 := Fr.below HB2.out hF3 (by omega) (fun i e => by have : i = w.heap.size + 2 := e; omega)
      have hm3 := HM2.out.fr hF3 (by show ¬ w.heap.size = w.heap.size + 2; omega)
      have he3 := HE2.out.fr hF3 (by show ¬ w.heap.size + 1 = w.heap.size + 2; omega)
      have k0 := (hm3.cell 0).trans (show _ = some (.slice none 0 0) from rfl)
      have f0 := hm3.frozen 0
      have hs3 : W2.heap.size ≤ w3.heap.size := hF3.size
      obtain ⟨W4, eW4⟩ : ∃ W4, W4 = w3.setCell ⟨w.heap.size, 0, none⟩ (.slice A m.length c) := ⟨_, rfl⟩
      have hz4 : W4.heap.size = w3.heap.size := by rw [eW4]; simp [World.setCell]
      have hb4 : Below w.heap.size w W4 := by rw [eW4]; exact hb3.setCell (p := ⟨w.heap.size, 0, none⟩) (Nat.le_refl _) _
      have hm4 : Blk W4 w.heap.size 22 #[.slice A m.length c] := by rw [eW4]; exact hm3.set_ 0 _
      have he4 : Blk W4 (w.heap.size + 1) 25 #[.nilIface] := by rw [eW4]; exact he3.far (p := ⟨w.heap.size, 0, none⟩) (by show w.heap.size + 1 ≠ w.heap.size; omega) _
      have hr4 : Rdr W4 (w.heap.size + 2) r 0 := by rw [eW4]; exact Blk.far (t := 72) hR3 (p := ⟨w.heap.size, 0, none⟩) (by show w.heap.size + 2 ≠ w.heap.size; omega) _
      have hk4 : MkN 7 W2.heap.size W4.heap.size W4 (.slice A m.length c) m := by
        rw [hz4, eW4]
        exact (mkN_laws 7).keep hK3 fun g g1 _ => Below.heap_setCell _ _ _ _ (by show g ≠ w.heap.size; omega)
      have r0 := (Blk.cell (t := 72) hr4 0).trans (show _ = some (.string (str r)) from rfl)
      have m0 := (hm4.cell 0).trans (show _ = some (.slice A m.length c) from rfl)
      have m1 := (he4.cell 0).trans (show _ = some .nilIface from rfl)
      have q0 := hm4.frozen 0
      have q1 := he4.frozen 0
      have HB4 := Lib.hid hb4
      have HM4 := Lib.hid hm4
      have HE4 := Lib.hid he4
      have HK4 := Lib.hid hk4
      have EW4 := Lib.hid eW4
      clear hF3 hR3 hK3 hb3 hm3 he3 eW4 hb4 hm4 he4 hr4 hk4 HM2 HE2 HB2 HM1 HE1 HB1
      go_upto_region 6 with fail
      rw [← EW4.out]
      clear EW4 k0 f0
      cases r with
      | cons x r =>
        have HP := Lib.hid (parE_rest hl ho)
        have ht : ((str (x :: r)).toList.isEmpty) = false := by rw [str_tl]; rfl
        have hb5 : Below w.heap.size w ((W4.setCell ⟨w.heap.size, 0, none⟩ (.slice none 0 0)).setCell ⟨w.heap.size + 1, 0, none⟩ (.iface 67 (.int .i64 3))) := (HB4.out.setCell (p := ⟨w.heap.size, 0, none⟩) (Nat.le_refl _) _).setCell (p := ⟨w.heap.size + 1, 0, none⟩) (Nat.le_succ _) _
        have hm5 : Blk ((W4.setCell ⟨w.heap.size, 0, none⟩ (.slice none 0 0)).setCell ⟨w.heap.size + 1, 0, none⟩ (.iface 67 (.int .i64 3))) w.heap.size 22 #[.slice none 0 0] := (HM4.out.set_ 0 _).far (p := ⟨w.heap.size + 1, 0, none⟩) (by show w.heap.size ≠ w.heap.size + 1; omega) _
        have he5 : Blk ((W4.setCell ⟨w.heap.size, 0, none⟩ (.slice none 0 0)).setCell ⟨w.heap.size + 1, 0, none⟩ (.iface 67 (.int .i64 3))) (w.heap.size + 1) 25 #[.iface 67 (.int .i64 3)] := (HE4.out.far (p := ⟨w.heap.size, 0, none⟩) (by show w.heap.size + 1 ≠ w.heap.size; omega) _).set_ 0 _
        have HF := Lib.hid (And.intro hb5 (And.intro hm5 he5))
        clear hb5 hm5 he5 ho
        go_wp2_with fail
        exact par_told w.heap.size _ _ none 0 0 _ _ rfl rfl HF.out.2.1 HF.out.2.2 (parR_bad HP.out (by decide) HF.out.1)
      | nil =>
        obtain ⟨hpe, hpm⟩ := parE_read hl ho
        have HP := Lib.hid hpe
        have HPm := Lib.hid hpm
        have ht : ((str []).toList.isEmpty) = true := by rw [str_tl]; rfl
        have hbs : (m.map (Enc.node 7).bulk).sum ≤ 10000000 := by omega
        have HCk := Lib.hid (Check_any 7 m (.slice A m.length c) W2.heap.size W4 (msgIn_of_bulk 7 m hbs) (HK4.out.list) (HMV.out W4 HB4.out))
        clear ho hpe hpm hbk hbs
        go_wp2_with fail
        refine HCk.out.mono ?_
        clear HCk
        rintro e w5 ⟨rfl, hb5⟩
        have hm5 := HM4.out.below hb5 HM4.out.lt
        have he5 := HE4.out.below hb5 HE4.out.lt
        have k0 := (hm5.cell 0).trans (show _ = some (.slice A m.length c) from rfl)
        have k1 := (he5.cell 0).trans (show _ = some .nilIface from rfl)
        have f0 := hm5.frozen 0
        have f1 := he5.frozen 0
        have HB5 := Lib.hid (HB4.out.trans (hb5.mono HB4.out.size))
        have HK5 : Hid (MkN 7 W2.heap.size w5.heap.size w5 (.slice A m.length c) m) := Lib.hid ((mkN_laws 7).mono ((mkN_laws 7).keep HK4.out fun g _ g2 => hb5.block g g2) (Nat.le_refl _) hb5.size)
        have HM5 := Lib.hid hm5
        have HE5 := Lib.hid he5
        clear hb5 hm5 he5 r0 m0 m1 q0 q1 HK4 HB4 HM4 HE4
        by_cases hck : checkAll 7 m = 0
        · rw [if_pos hck] at HP
          rw [hck, errV_zero]
          have HF : Hid (Below w.heap.size w ((w5.setCell ⟨w.heap.size, 0, none⟩ (.slice A m.length c)).setCell ⟨w.heap.size + 1, 0, none⟩ .nilIface) ∧ Blk ((w5.setCell ⟨w.heap.size, 0, none⟩ (.slice A m.length c)).setCell ⟨w.heap.size + 1, 0, none⟩ .nilIface) w.heap.size 22 #[.slice A m.length c] ∧ Blk ((w5.setCell ⟨w.heap.size, 0, none⟩ (.slice A m.length c)).setCell ⟨w.heap.size + 1, 0, none⟩ .nilIface) (w.heap.size + 1) 25 #[.nilIface]) := Lib.hid
            ⟨(HB5.out.setCell (p := ⟨w.heap.size, 0, none⟩) (Nat.le_refl _) _).setCell (p := ⟨w.heap.size + 1, 0, none⟩) (Nat.le_succ _) _, (HM5.out.set_ 0 _).far (p := ⟨w.heap.size + 1, 0, none⟩) (by show w.heap.size ≠ w.heap.size + 1; omega) _, (HE5.out.far (p := ⟨w.heap.size, 0, none⟩) (by show w.heap.size + 1 ≠ w.heap.size; omega) _).set_ 0 _⟩
          have HKF : Hid (MkN 7 w.heap.size ((w5.setCell ⟨w.heap.size, 0, none⟩ (.slice A m.length c)).setCell ⟨w.heap.size + 1, 0, none⟩ .nilIface).heap.size ((w5.setCell ⟨w.heap.size, 0, none⟩ (.slice A m.length c)).setCell ⟨w.heap.size + 1, 0, none⟩ .nilIface) (.slice A m.length c) m) := Lib.hid (by
            refine (mkN_laws 7).mono ((mkN_laws 7).keep HK5.out fun g g1 _ => ?_) (by omega) (by simp [World.setCell])
            rw [Below.heap_setCell _ _ _ _ (by show g ≠ w.heap.size + 1; omega), Below.heap_setCell _ _ _ _ (by show g ≠ w.heap.size; omega)])
          clear hck
          go_wp2_with fail
          refine par_told w.heap.size _ _ A m.length c .nilIface _ rfl rfl HF.out.2.1 HF.out.2.2 ⟨HF.out.1, _, by rw [HP.out]; rfl, ?_⟩
          rw [if_pos HP.out, HPm.out]
          exact HKF.out
        · rw [if_neg hck] at HP
          rw [errV_ne hck]
          have HF : Hid (Below w.heap.size w ((w5.setCell ⟨w.heap.size, 0, none⟩ (.slice none 0 0)).setCell ⟨w.heap.size + 1, 0, none⟩ (.iface 67 (.int .i64 3))) ∧ Blk ((w5.setCell ⟨w.heap.size, 0, none⟩ (.slice none 0 0)).setCell ⟨w.heap.size + 1, 0, none⟩ (.iface 67 (.int .i64 3))) w.heap.size 22 #[.slice none 0 0] ∧ Blk ((w5.setCell ⟨w.heap.size, 0, none⟩ (.slice none 0 0)).setCell ⟨w.heap.size + 1, 0, none⟩ (.iface 67 (.int .i64 3))) (w.heap.size + 1) 25 #[.iface 67 (.int .i64 3)]) := Lib.hid
            ⟨(HB5.out.setCell (p := ⟨w.heap.size, 0, none⟩) (Nat.le_refl _) _).setCell (p := ⟨w.heap.size + 1, 0, none⟩) (Nat.le_succ _) _, (HM5.out.set_ 0 _).far (p := ⟨w.heap.size + 1, 0, none⟩) (by show w.heap.size ≠ w.heap.size + 1; omega) _, (HE5.out.far (p := ⟨w.heap.size, 0, none⟩) (by show w.heap.size + 1 ≠ w.heap.size; omega) _).set_ 0 _⟩
          clear hck
          go_wp2_with fail
          exact par_told w.heap.size _ _ none 0 0 _ _ rfl rfl HF.out.2.1 HF.out.2.2 (parR_bad HP.out (by decide) HF.out.1)
end Go.Proofs.YtjdfpoppimcikaaGreatDoor
/- linguisterlaw5.wipe: a message that may be written into. -/

namespace Go.Proofs.YtjdfpoppimcikaaGreatDoor
open Go.RowKit

/-- texts and numbers from lo on may have turned, nothing else -/
structure Wp (lo : Nat) (w w' : World) : Prop where
  below : Below lo w w'
  froz : ∀ p : Addr, w'.frozen? p = w.frozen? p
  cell : ∀ p : Addr, w'.cell? p = w.cell? p ∨ (∃ s s', w.cell? p = some (.string s) ∧ w'.cell? p = some (.string s')) ∨ (∃ a b, w.cell? p = some (.int .i64 a) ∧ w'.cell? p = some (.int .i64 b))
section
variable {lo : Nat} {w w1 w' : World}
theorem Wp.refl (lo : Nat) (w : World) : Wp lo w w := ⟨Below.refl _ _, fun _ => rfl, fun _ => .inl rfl⟩
theorem Wp.trans (h : Wp lo w w1) (k : Wp lo w1 w') : Wp lo w w' := by
  refine ⟨h.below.trans k.below, fun p => (k.froz p).trans (h.froz p), fun p => ?_⟩
  rcases h.cell p with h1 | ⟨s, s', h1, h2⟩ | ⟨a, b, h1, h2⟩
  · rcases k.cell p with k1 | ⟨t, t', k1, k2⟩ | ⟨a, b, k1, k2⟩
    · exact .inl (k1.trans h1)
    · exact .inr (.inl ⟨t, t', h1 ▸ k1, k2⟩)
    · exact .inr (.inr ⟨a, b, h1 ▸ k1, k2⟩)
  · rcases k.cell p with k1 | ⟨t, t', k1, k2⟩ | ⟨a, b, k1, k2⟩
    · exact .inr (.inl ⟨s, s', h1, k1.trans h2⟩)
    · exact .inr (.inl ⟨s, t', h1, k2⟩)
    · rw [h2] at k1; cases k1
  · rcases k.cell p with k1 | ⟨t, t', k1, k2⟩ | ⟨a', b', k1, k2⟩
    · exact .inr (.inr ⟨a, b, h1, k1.trans h2⟩)
    · rw [h2] at k1; cases k1
    · exact .inr (.inr ⟨a, b', h1, k2⟩)
theorem Wp.slice (h : Wp lo w w') {p : Addr} {A : Option Addr} {n c : Nat} (hp : w.cell? p = some (.slice A n c)) : w'.cell? p = some (.slice A n c) := by
  rcases h.cell p with h1 | ⟨s, s', h1, h2⟩ | ⟨a, b, h1, h2⟩
  · exact h1.trans hp
  · rw [hp] at h1; cases h1
  · rw [hp] at h1; cases h1
theorem Wp.str (h : Wp lo w w') {p : Addr} {s : ByteArray} (hp : w.cell? p = some (.string s)) : ∃ s', w'.cell? p = some (.string s') := by
  rcases h.cell p with h1 | ⟨s, s', h1, h2⟩ | ⟨a, b, h1, h2⟩
  · exact ⟨_, h1.trans hp⟩
  · exact ⟨_, h2⟩
  · rw [hp] at h1; cases h1
theorem Wp.int (h : Wp lo w w') {p : Addr} {a : Int} (hp : w.cell? p = some (.int .i64 a)) : ∃ a', w'.cell? p = some (.int .i64 a') := by
  rcases h.cell p with h1 | ⟨s, s', h1, h2⟩ | ⟨a, b, h1, h2⟩
  · exact ⟨_, h1.trans hp⟩
  · rw [hp] at h1; cases h1
  · exact ⟨_, h2⟩
theorem Wp.setStr {p : Addr} {s : ByteArray} (hp : w.cell? p = some (.string s)) (hl : lo ≤ p.block) (x : ByteArray) : Wp lo w (w.setCell p (.string x)) := by
  refine ⟨(Below.refl _ _).setCell hl _, fun q => by simp, fun q => ?_⟩
  by_cases h : p = q
  · subst h; exact .inr (.inl ⟨s, x, hp, World.cell?_setCell_same (h := hp) ..⟩)
  · exact .inl (World.cell?_setCell_other (h := h) ..)
theorem Wp.setInt {p : Addr} {a : Int} (hp : w.cell? p = some (.int .i64 a)) (hl : lo ≤ p.block) (b : Int) : Wp lo w (w.setCell p (.int .i64 b)) := by
  refine ⟨(Below.refl _ _).setCell hl _, fun q => by simp, fun q => ?_⟩
  by_cases h : p = q
  · subst h; exact .inr (.inr ⟨a, b, hp, World.cell?_setCell_same (h := hp) ..⟩)
  · exact .inl (World.cell?_setCell_other (h := h) ..)
end
/- ## The shape of a message -/
def ShC (S : World → Value → Prop) (lo : Nat) (W : World) (cv : Value) : Prop :=
  ∃ B len cap, cv = .slice B len cap ∧ len ≤ 10000000 ∧ ∀ q, q < len → ∃ b o s A n c, B = some ⟨b, o, none⟩ ∧ lo ≤ b ∧ W.cell? ⟨b, o + q * 2, none⟩ = some (.string s) ∧ W.frozen? ⟨b, o + q * 2, none⟩ = false ∧ W.cell? ⟨b, o + q * 2 + 1, none⟩ = some (.slice A n c) ∧ S W (.slice A n c)
def ShF (S : World → Value → Prop) (lo : Nat) (W : World) (v : Value) : Prop :=
  ∃ B len cap, v = .slice B len cap ∧ len ≤ 10000000 ∧ ∀ i, i < len → ∃ b o k t A n c, B = some ⟨b, o, none⟩ ∧ lo ≤ b ∧ W.cell? ⟨b, o + i * 4, none⟩ = some (.int .i64 k) ∧ W.frozen? ⟨b, o + i * 4, none⟩ = false ∧ W.cell? ⟨b, o + i * 4 + 1, none⟩ = some (.string t) ∧ W.frozen? ⟨b, o + i * 4 + 1, none⟩ = false ∧ W.cell? ⟨b, o + i * 4 + 3, none⟩ = some (.slice A n c) ∧ ShC S lo W (.slice A n c)
theorem ShC.on {S : World → Value → Prop} {lo : Nat} {w w' : World} (hS : ∀ u, S w u → S w' u) {v : Value} (h : ShC S lo w v) (k : Wp lo w w') : ShC S lo w' v := by
  obtain ⟨B, len, cap, hv, hl, hi⟩ := h
  refine ⟨B, len, cap, hv, hl, fun q hq => ?_⟩
  obtain ⟨b, o, s, A, n, c, h1, h2, h3, h4, h5, h6⟩ := hi q hq
  obtain ⟨s', h3'⟩ := k.str h3
  exact ⟨b, o, s', A, n, c, h1, h2, h3', (k.froz _).trans h4, k.slice h5, hS _ h6⟩
theorem ShF.on {S : World → Value → Prop} {lo : Nat} {w w' : World} (hS : ∀ u, S w u → S w' u) {v : Value} (h : ShF S lo w v) (k : Wp lo w w') : ShF S lo w' v := by
  obtain ⟨B, len, cap, hv, hl, hi⟩ := h
  refine ⟨B, len, cap, hv, hl, fun q hq => ?_⟩
  obtain ⟨b, o, kk, t, A, n, c, h1, h2, h3, h4, h5, h6, h7, h8⟩ := hi q hq
  obtain ⟨k', h3'⟩ := k.int h3
  obtain ⟨t', h5'⟩ := k.str h5
  exact ⟨b, o, k', t', A, n, c, h1, h2, h3', (k.froz _).trans h4, h5', (k.froz _).trans h6, k.slice h7, h8.on hS k⟩
def ShN (lo : Nat) : Nat → World → Value → Prop
  | 0 => fun _ v => ∃ A c, v = .slice A 0 c
  | n + 1 => ShF (ShN lo n) lo
theorem ShN.on {lo : Nat} {w w' : World} (k : Wp lo w w') : (n : Nat) → {v : Value} → ShN lo n w v → ShN lo n w' v
  | 0, _, h => h
  | n + 1, _, h => ShF.on (fun _ hu => ShN.on k n hu) h k
theorem MkN.shape : (n : Nat) → {lo hi : Nat} → {W : World} → {v : Value} → {m : List (Nd n)} → MsgIn n m → MkN n lo hi W v m → ShN lo n W v
  | 0, lo, hi, W, v, m, _, h => by
    obtain ⟨A, c, rfl⟩ := h
    obtain rfl := empty_list m
    exact ⟨A, c, rfl⟩
  | n + 1, lo, hi, W, v, m, hm, h => by
    obtain ⟨A, cap, hv, hc, hi'⟩ := h
    refine ⟨A, _, cap, hv, hm.len, fun i hil => ?_⟩
    obtain ⟨b, o, u, h1, h2, h3, h4, B, cap2, hu, hc2, hi2⟩ := hi' i hil
    have h0 := h4 0 _ rfl
    have h5 := h4 1 _ rfl
    have h6 := h4 3 _ rfl
    subst hu
    have hx : smallF (SmallN n) ((m : List (NdF (Nd n)))[i]) := hm.each _ (List.getElem_mem hil)
    refine ⟨b, o, _, _, B, _, cap2, h1, h2, h0.1, h0.2, h5.1, h5.2, h6.1, B, _, cap2, rfl, hx.2.1, fun q hq => ?_⟩
    obtain ⟨b2, o2, u2, g1, g2, g3, g4, g5⟩ := hi2 q hq
    have g6 := g4 0 _ rfl
    have g7 := g4 1 _ rfl
    obtain ⟨A2, c2, rfl⟩ := MkN.form n g5
    exact ⟨b2, o2, _, A2, _, c2, g1, g2, g6.1, g6.2, g7.1, MkN.shape n (hm.body (List.getElem_mem hil) (List.getElem_mem hq)) g5⟩
set_option maxHeartbeats 3200000 in
set_option maxRecDepth 100000 in
theorem wipe_walk (S : World → Value → Prop) (lo : Nat) (hS : Hid (∀ W W' u, Wp lo W W' → S W u → S W' u)) (v : Value) (x : ByteArray) (w : World) (h : ShF S lo w v)
    (IH : Hid (∀ W u, S W u → Calls Tryz.prog 10 #[u, .string x] W fun e w' => e = .returned (.tuple #[]) ∧ Wp lo W w')) :
    Calls Tryz.prog 10 #[v, .string x] w fun e w' => e = .returned (.tuple #[]) ∧ Wp lo w w' := by
  have HF : Hid (∀ W, Wp lo w W → ShF S lo W v) := Lib.hid fun W hW => h.on (fun u => hS.out w W u hW) hW
  obtain ⟨B, len, cap, rfl, hlen, _⟩ := h
  go_enter Tryz.func10, Tryz.ntmps10
  go_wp2_with fail
  go_loopw [4, 5] (fun i _ wr => ∃ j : Nat, j ≤ len ∧ i = .int .i64 (j : Int) ∧ Wp lo w wr) (fun i _ _ => len - (intOf i).toNat)
  case atStart => exact ⟨0, Nat.zero_le _, rfl, Wp.refl _ _⟩
  case round =>
    obtain ⟨j, hj, rfl, hw⟩ := hrel
    obtain ⟨wo, rfl⟩ : ∃ wo : World, wo = wr := ⟨_, rfl⟩
    have HW := Lib.hid hw
    clear hw
    by_cases hlt : j < len
    · have i1 : (0 : Int) ≤ (j : Int) := Int.natCast_nonneg j
      have i2 : (j : Int) < (len : Int) := by omega
      have HN : Hid (∀ W, Wp lo w W → ∃ b o k t A n c, B = some ⟨b, o, none⟩ ∧ lo ≤ b ∧ W.cell? ⟨b, o + j * 4, none⟩ = some (.int .i64 k) ∧ W.frozen? ⟨b, o + j * 4, none⟩ = false ∧ W.cell? ⟨b, o + j * 4 + 1, none⟩ = some (.string t) ∧ W.frozen? ⟨b, o + j * 4 + 1, none⟩ = false ∧ W.cell? ⟨b, o + j * 4 + 3, none⟩ = some (.slice A n c) ∧ ShC S lo W (.slice A n c)) := Lib.hid fun W hW => by
        obtain ⟨B', l', c', hv, _, hi⟩ := HF.out W hW
        injection hv with hv1 hv2 hv3
        subst hv1; subst hv2
        exact hi j hlt
      obtain ⟨b, o, k0, t0, A, n, c, rfl, hlo, x0, x0f, x1, x1f, x3, hC⟩ := HN.out wo HW.out
      have HC := Lib.hid hC
      have hn : n ≤ 10000000 := by
        obtain ⟨_, _, _, hv, hl, _⟩ := hC
        injection hv with _ hv2 _
        omega
      have HX3 : Hid (∀ W, Wp lo wo W → W.cell? ⟨b, o + j * 4 + 3, none⟩ = some (.slice A n c)) := Lib.hid fun W hW => hW.slice x3
      clear hC x0 x0f x1 x1f x3
      go_wp2_with fail
      go_loopw [5] (fun q wq => ∃ i : Nat, i ≤ n ∧ q = .int .i64 (i : Int) ∧ Wp lo wo wq) (fun q _ => n - (intOf q).toNat)
      case atStart => exact ⟨0, Nat.zero_le _, rfl, Wp.refl _ _⟩
      case round =>
        obtain ⟨i, hi, rfl, hq⟩ := hrel
        have HQ := Lib.hid hq
        have y3 := HX3.out wr hq
        by_cases hlt2 : i < n
        · have i3 : (0 : Int) ≤ (i : Int) := Int.natCast_nonneg i
          have i4 : (i : Int) < (n : Int) := by omega
          have hc := HC.out.on (fun u => hS.out wo wr u hq) hq
          obtain ⟨B', l', c', hv, _, hk⟩ := hc
          injection hv with hv1 hv2 hv3
          subst hv1; subst hv2
          obtain ⟨b2, o2, s2, A2, n2, c2, rfl, g2, g3, g4, g5, g6⟩ := hk i hlt2
          have HI := Lib.hid (IH.out wr _ g6)
          have hg3 := g3
          clear hq hk g6
          go_wp2_with fail
          refine HI.out.mono ?_
          clear HI
          rintro e w5 ⟨rfl, h5⟩
          have z3 := h5.slice y3
          obtain ⟨s3, z0⟩ := h5.str g3
          have zf := (h5.froz ⟨b2, o2 + i * 2, none⟩).trans g4
          have HE := Lib.hid ((HQ.out.trans h5).trans (Wp.setStr (p := ⟨b2, o2 + i * 2, none⟩) z0 g2 x))
          clear h5 y3 g3 g4 g5 hg3
          go_wp2_with fail
          go_roundw
          case rel => exact ⟨i + 1, by omega, by go_num, HE.out⟩
          case measure => simp [intOf]; omega
        · obtain rfl : i = n := by omega
          have hE := HW.out.trans hq
          obtain ⟨b9, o9, k1, t1, A1, n1, c1, hB9, hlo9, e0, e0f, e1, e1f, e3, _⟩ := HN.out wr hE
          injection hB9 with hB9
          injection hB9 with hb9 ho9
          subst hb9; subst ho9
          have hs1 := Wp.setStr (lo := lo) (p := ⟨b, o + j * 4 + 1, none⟩) e1 hlo x
          obtain ⟨k2, e0'⟩ := hs1.int e0
          have e0f' := (hs1.froz ⟨b, o + j * 4, none⟩).trans e0f
          have HE := Lib.hid ((hE.trans hs1).trans (Wp.setInt (lo := lo) (p := ⟨b, o + j * 4, none⟩) e0' hlo 0))
          clear hq hE hs1
          go_wp2_with fail
          go_roundw
          case rel => exact ⟨j + 1, by omega, by go_num, HE.out⟩
          case measure => simp [intOf]; omega
    · obtain rfl : j = len := by omega
      go_wp2_with fail
      go_end0
      exact ⟨rfl, HW.out⟩
theorem wipe_any (lo : Nat) (x : ByteArray) : (n : Nat) → (v : Value) → (w : World) → ShN lo n w v → Calls Tryz.prog 10 #[v, .string x] w fun e w' => e = .returned (.tuple #[]) ∧ Wp lo w w'
  | 0, v, w, h => by
    obtain ⟨A, c, rfl⟩ := h
    exact wipe_walk (fun _ _ => False) lo (Lib.hid fun _ _ _ _ h => h) _ x w ⟨A, 0, c, rfl, Nat.zero_le _, fun i hi => by omega⟩ (Lib.hid fun W u h => h.elim)
  | n + 1, v, w, h => wipe_walk (ShN lo n) lo (Lib.hid fun W W' u hW hu => ShN.on hW n hu) v x w h (Lib.hid fun W u hu => wipe_any lo x n u W hu)
end Go.Proofs.YtjdfpoppimcikaaGreatDoor
