/- msg.Parse: its closure, its ways out. -/
import Derived.Test.YtjdfpoppimcikaaGreatDoorRdN
import Derived.Test.YtjdfpoppimcikaaGreatDoorNamesP
import Derived.Test.YtjdfpoppimcikaaGreatDoorCSay
import Derived.Test.YtjdfpoppimcikaaGreatDoorLexP
import Derived.Test.YtjdfpoppimcikaaGreatDoorMsgE
namespace Go.Proofs.YtjdfpoppimcikaaGreatDoor
open Go.RowKit

theorem assert_errP (v : Value) (w : World) : (Instr.typeAssert (.iface 67 v) 20 67 true).run Tryz.prog w = .ok (.tuple #[v, .bool true]) w := by
  simp [Instr.typeAssert, run_underlying Tryz.underlying67]
theorem rep16P : (Array.replicate 16 undef : Array Value) = #[undef, undef, undef, undef, undef, undef, undef, undef, undef, undef, undef, undef, undef, undef, undef, undef] := rfl
set_option maxHeartbeats 1600000 in
set_option maxRecDepth 100000 in
theorem par_idle (po pe : Addr) (w : World) : CallsD Tryz.prog 21 #[.pointer (some po), .pointer (some pe)] .returning w fun e u' w' => e = .returned (.tuple #[]) ∧ u' = .returning ∧ w' = w := by
  refine callsD_of_wpS Tryz.func21 rfl fun c₀ cs hu => ?_
  apply wpS_seq
  apply wpS_region
  simp [wpOpsS, go_sem, recoverD, hu, Tryz.ntmps21, Exit.thenS]
  rw [rep16P]
  simp only [List.setIfInBounds_toArray, List.set_cons_zero, List.set_cons_succ, List.append_toArray, List.cons_append, List.nil_append]
  refine wpS_of_wp ?_
  go_wp2_with fail
  cases c₀
  simp_all [bodyPostS, results, Tryz.results21]
set_option maxHeartbeats 1600000 in
set_option maxRecDepth 100000 in
theorem par_caught (B po pe : Nat) (hB0 : B ≤ po) (hB1 : B ≤ pe) (x : Int) (v z : Value) (older : List PanicEntry) (w : World) (ho : Blk w po 22 #[v]) (he : Blk w pe 25 #[z]) :
    CallsD Tryz.prog 21 #[.pointer (some ⟨po, 0, none⟩), .pointer (some ⟨pe, 0, none⟩)] (.panicking ({ v := .iface 67 (.int .i64 x), recovered := false } :: older)) w fun e u' w' =>
      e = .returned (.tuple #[]) ∧ u' = .panicking ({ v := .iface 67 (.int .i64 x), recovered := true } :: older) ∧ Below B w w' ∧ Blk w' po 22 #[.slice none 0 0] ∧ Blk w' pe 25 #[.iface 67 (.int .i64 x)] := by
  refine callsD_of_wpS Tryz.func21 rfl fun c₀ cs hu => ?_
  apply wpS_seq
  apply wpS_region
  simp [wpOpsS, go_sem, recoverD, hu, Tryz.ntmps21, Exit.thenS]
  rw [rep16P]
  simp only [List.setIfInBounds_toArray, List.set_cons_zero, List.set_cons_succ, List.append_toArray, List.cons_append, List.nil_append]
  have o0 := ho.cell 0
  have o2 := he.cell 0
  have f0 := ho.frozen 0
  have f2 := he.frozen 0
  simp at o0 o2
  have ha := assert_errP (.int .i64 x)
  have hne : ¬ pe = po := by
    rintro rfl
    unfold Blk at ho he
    rw [ho] at he; injection he with he; injection he with _ he
    exact absurd he (by decide)
  have hne' : ¬ po = pe := fun h => hne h.symm
  have HO := Lib.hid ho
  have HE := Lib.hid he
  clear ho he
  refine wpS_of_wp ?_
  go_wp2_with fail
  have h1 := (HO.out.set_ 0 (.slice none 0 0)).far (p := ⟨pe, 0, none⟩) hne' (.iface 67 (.int .i64 x))
  have h2 := (HE.out.far (p := ⟨po, 0, none⟩) hne (.slice none 0 0)).set_ 0 (.iface 67 (.int .i64 x))
  have h3 : Below B w ((w.setCell ⟨po, 0, none⟩ (.slice none 0 0)).setCell ⟨pe, 0, none⟩ (.iface 67 (.int .i64 x))) := ((Below.refl B w).setCell (p := ⟨po, 0, none⟩) hB0 _).setCell (p := ⟨pe, 0, none⟩) hB1 _
  exact ⟨rfl, _, rfl, .tuple #[], by simp [results, Tryz.results21], rfl, rfl, h3, h1, h2⟩
def parD (B : Nat) : List Deferred := [{ target := .fn (.func 21) #[.pointer (some ⟨B, 0, none⟩), .pointer (some ⟨B + 1, 0, none⟩)], args := #[] }]
theorem par_thrown (B : Nat) (x : Int) (tmps : Array Value) (R : Ending → World → Prop) (v z : Value) (w : World) (h2 : tmps.getD 2 undef = .pointer (some ⟨B, 0, none⟩)) (h3 : tmps.getD 3 undef = .pointer (some ⟨B + 1, 0, none⟩))
    (k0 : Blk w B 22 #[v]) (k1 : Blk w (B + 1) 25 #[z]) (hR : ∀ W, Below B w W → R (.returned (.tuple #[.slice none 0 0, .iface 67 (.int .i64 x)])) W) :
    Leaves Tryz.prog Tryz.f9 tmps R (parD B) (.panicking [{ v := .iface 67 (.int .i64 x), recovered := false }]) w := by
  refine leaves_cons (f := 21) (args := #[.pointer (some ⟨B, 0, none⟩), .pointer (some ⟨B + 1, 0, none⟩)]) (by simp) (by simp [go_sem]) ?_
  refine (par_caught B B (B + 1) (Nat.le_refl _) (by omega) x v z [] w k0 k1).mono ?_
  rintro e u' w2 ⟨rfl, rfl, hb2, q0, q1⟩
  have c0 := q0.cell 0
  have c2 := q1.cell 0
  simp at c0 c2
  have HR := Lib.hid (hR w2 hb2)
  clear hR
  simp at h2 h3
  simp [Leaves, settle, results, Tryz.results9, go_sem, h2, h3, c0, c2]
  exact HR.out
theorem par_told (B : Nat) (tmps : Array Value) (R : Ending → World → Prop) (A : Option Addr) (n c : Nat) (z : Value) (w : World) (h2 : tmps.getD 2 undef = .pointer (some ⟨B, 0, none⟩)) (h3 : tmps.getD 3 undef = .pointer (some ⟨B + 1, 0, none⟩))
    (k0 : Blk w B 22 #[.slice A n c]) (k1 : Blk w (B + 1) 25 #[z]) (hR : R (.returned (.tuple #[.slice A n c, z])) w) :
    Leaves Tryz.prog Tryz.f9 tmps R (parD B) .returning w := by
  refine leaves_cons (f := 21) (args := #[.pointer (some ⟨B, 0, none⟩), .pointer (some ⟨B + 1, 0, none⟩)]) (by simp) (by simp [go_sem]) ?_
  refine (par_idle _ _ w).mono ?_
  rintro e u' w2 ⟨rfl, rfl, rfl⟩
  have c0 := k0.cell 0
  have c2 := k1.cell 0
  simp at c0 c2
  have HR := Lib.hid hR
  clear hR
  simp at h2 h3
  simp [Leaves, settle, results, Tryz.results9, go_sem, h2, h3, c0, c2]
  exact HR.out
/-- what Parse tells -/
def ParR (l : List UInt8) (w : World) (e : Ending) (w' : World) : Prop :=
  Below w.heap.size w w' ∧ ∃ v, e = .returned (.tuple #[v, errV (parE l)]) ∧ MkN 7 w.heap.size w'.heap.size w' v (if parE l = 0 then parM l else [])
theorem parR_bad {l : List UInt8} {w w' : World} {x : Int} (hx : parE l = x) (h0 : x ≠ 0) (hb : Below w.heap.size w w') : ParR l w (.returned (.tuple #[.slice none 0 0, .iface 67 (.int .i64 x)])) w' := by
  subst hx
  refine ⟨hb, .slice none 0 0, by rw [errV_ne h0], ?_⟩
  rw [if_neg h0]
  exact RowOk.nil nodC 4 _ _ _ _ _ _
theorem parE_long {l : List UInt8} (h : 2000 < l.length) : parE l = 4 := if_pos h
theorem parE_none {l : List UInt8} (h : ¬ 2000 < l.length) (h1 : readM 7 false l = none) : parE l = 3 := by unfold parE; rw [if_neg h, h1]
theorem parE_rest {l : List UInt8} {m : List (Nd 7)} {c : UInt8} {r : List UInt8} (h : ¬ 2000 < l.length) (h1 : readM 7 false l = some (m, c :: r)) : parE l = 3 := by unfold parE; rw [if_neg h, h1]
theorem parE_read {l : List UInt8} {m : List (Nd 7)} (h : ¬ 2000 < l.length) (h1 : readM 7 false l = some (m, [])) : parE l = (if checkAll 7 m = 0 then 0 else 3) ∧ parM l = m := by
  unfold parE parM; rw [if_neg h, h1]; exact ⟨rfl, rfl⟩
set_option maxHeartbeats 3200000 in
set_option maxRecDepth 100000 in
theorem mParse_any (l : List UInt8) (w : World) (hV : MV w) :
    Calls Tryz.prog 9 #[.string (str l)] w fun e w' => ParR l w e w' := by
  have hmf : ∀ (fn : Fn) (first cap : Array Value) (w : World), (Instr.makeFunc fn first cap).run Tryz.prog w = .ok (.func fn first cap) w := fun _ _ _ _ => rfl
  have hsz := str_size l
  obtain ⟨W1, eW1⟩ : ∃ W1, W1 = (w.alloc (.cells #[.slice none 0 0] 22)).alloc (.cells #[.nilIface] 25) := ⟨_, rfl⟩
  have hb1 : Below w.heap.size w W1 := by rw [eW1]; exact ((Below.refl _ _).alloc (Nat.le_refl _) _).alloc (by simp) _
  have hm1 : Blk W1 w.heap.size 22 #[.slice none 0 0] := by rw [eW1]; exact (Blk.new _ _ _).alloc _
  have he1 : Blk W1 (w.heap.size + 1) 25 #[.nilIface] := by
    rw [eW1]
    have := Blk.new (w.alloc (.cells #[.slice none 0 0] 22)) 25 #[.nilIface]
    rwa [World.size_alloc] at this
  have hz1 : W1.heap.size = w.heap.size + 2 := by rw [eW1]; simp
  have HB1 := Lib.hid hb1
  have HM1 := Lib.hid hm1
  have HE1 := Lib.hid he1
  have EW1 := Lib.hid eW1
  by_cases hl : 2000 < l.length
  · have HP := Lib.hid (parE_long hl)
    have k0 := (hm1.cell 0).trans (show _ = some (.slice none 0 0) from rfl)
    have k1 := (he1.cell 0).trans (show _ = some .nilIface from rfl)
    have f0 := hm1.frozen 0
    have f1 := he1.frozen 0
    have hgt : (2000 : Int) < (l.length : Int) := by omega
    clear hb1 hm1 he1 eW1
    go_enter_defers Tryz.func9, Tryz.ntmps9
    go_upto_region 1 with fail
    rw [← EW1.out]
    clear EW1
    go_wp2_with fail
    have hb2 : Below w.heap.size w ((W1.setCell ⟨w.heap.size, 0, none⟩ (.slice none 0 0)).setCell ⟨w.heap.size + 1, 0, none⟩ (.iface 67 (.int .i64 4))) := (HB1.out.setCell (p := ⟨w.heap.size, 0, none⟩) (Nat.le_refl _) _).setCell (p := ⟨w.heap.size + 1, 0, none⟩) (Nat.le_succ _) _
    refine ⟨.tuple #[.slice none 0 0, .iface 67 (.int .i64 4)], ?_, parR_bad HP.out (by decide) hb2⟩
    simp [results, Tryz.results9, go_sem, k0, k1, f0, f1]
  · have hngt : ¬ ((2000 : Int) < (l.length : Int)) := by omega
    obtain ⟨W2, eW2⟩ : ∃ W2, W2 = W1.alloc (.cells #[.string (str l), .int .i64 0] 72) := ⟨_, rfl⟩
    have hb12 : Below W1.heap.size W1 W2 := by rw [eW2]; exact (Below.refl _ _).alloc (Nat.le_refl _) _
    have hr2 : Rdr W2 (w.heap.size + 2) l 0 := by
      rw [eW2, ← hz1]
      exact Blk.new _ _ _
    have hz2 : W2.heap.size = w.heap.size + 3 := by rw [eW2, World.size_alloc, hz1]
    have HB2 := Lib.hid (hb1.trans (hb12.mono (by omega)))
    have HM2 := Lib.hid (hm1.below hb12 (by omega))
    have HE2 := Lib.hid (he1.below hb12 (by omega))
    have HRd := Lib.hid (rmessage_any 7 0 rfl (w.heap.size + 2) false l W2 hr2 (by omega))
    have EW2 := Lib.hid eW2
    have HMV : Hid (∀ W, Below w.heap.size w W → MV W) := Lib.hid fun W hW => hV.below hW
    have HZ1 := Lib.hid hz1
    clear hb1 hm1 he1 eW1 eW2 hb12 hr2 hV
    go_enter_defers Tryz.func9, Tryz.ntmps9
    go_upto_region 1 with fail
    rw [← EW1.out]
    clear EW1
    go_wp2_with fail
    rw [← EW2.out]
    clear EW2 hz1
    change Calls _ _ _ _ _
    cases ho : readM 7 false l with
    | none =>
      rw [ho] at HRd
      have HP := Lib.hid (parE_none hl ho)
      clear ho
      refine HRd.out.mono ?_
      clear HRd
      rintro e w3 ⟨hF3, rfl, l3, d3, hR3⟩
      have hb3 : Below w.heap.size w w3 := Fr.below HB2.out hF3 (by omega) (fun i e => by have : i = w.heap.size + 2 := e; omega)
      have HB3 := Lib.hid hb3
      have HM3 := Lib.hid (HM2.out.fr hF3 (by show ¬ w.heap.size = w.heap.size + 2; omega))
      have HE3 := Lib.hid (HE2.out.fr hF3 (by show ¬ w.heap.size + 1 = w.heap.size + 2; omega))
      clear hF3 hR3 hb3
      go_wp2_with fail
      exact par_thrown w.heap.size 3 _ _ (.slice none 0 0) .nilIface w3 rfl rfl HM3.out HE3.out fun W hW => parR_bad HP.out (by decide) (HB3.out.trans hW)
    | some p =>
      obtain ⟨m, r⟩ := p
      rw [ho] at HRd
      have hbk := readM_len 7 false l m r ho
      refine HRd.out.mono ?_
      clear HRd
      rintro e w3 ⟨hF3, v, rfl, hR3, hK3⟩
      obtain ⟨A, c, rfl⟩ := hK3.form
      have hb3 : Below w.heap.size w w3 := Fr.below HB2.out hF3 (by omega) (fun i e => by have : i = w.heap.size + 2 := e; omega)
      have hm3 := HM2.out.fr hF3 (by show ¬ w.heap.size = w.heap.size + 2; omega)
      have he3 := HE2.out.fr hF3 (by show ¬ w.heap.size + 1 = w.heap.size + 2; omega)
      have k0 := (hm3.cell 0).trans (show _ = some (.slice none 0 0) from rfl)
      have f0 := hm3.frozen 0
      have hs3 : W2.heap.size ≤ w3.heap.size := hF3.size
      obtain ⟨W4, eW4⟩ : ∃ W4, W4 = w3.setCell ⟨w.heap.size, 0, none⟩ (.slice A m.length c) := ⟨_, rfl⟩
      have hz4 : W4.heap.size = w3.heap.size := by rw [eW4]; simp [World.setCell]
      have hb4 : Below w.heap.size w W4 := by rw [eW4]; exact hb3.setCell (p := ⟨w.heap.size, 0, none⟩) (Nat.le_refl _) _
      have hm4 : Blk W4 w.heap.size 22 #[.slice A m.length c] := by rw [eW4]; exact hm3.set_ 0 _
      have he4 : Blk W4 (w.heap.size + 1) 25 #[.nilIface] := by rw [eW4]; exact he3.far (p := ⟨w.heap.size, 0, none⟩) (by show w.heap.size + 1 ≠ w.heap.size; omega) _
      have hr4 : Rdr W4 (w.heap.size + 2) r 0 := by rw [eW4]; exact Blk.far (t := 72) hR3 (p := ⟨w.heap.size, 0, none⟩) (by show w.heap.size + 2 ≠ w.heap.size; omega) _
      have hk4 : MkN 7 W2.heap.size W4.heap.size W4 (.slice A m.length c) m := by
        rw [hz4, eW4]
        exact (mkN_laws 7).keep hK3 fun g g1 _ => Below.heap_setCell _ _ _ _ (by show g ≠ w.heap.size; omega)
      have r0 := (Blk.cell (t := 72) hr4 0).trans (show _ = some (.string (str r)) from rfl)
      have m0 := (hm4.cell 0).trans (show _ = some (.slice A m.length c) from rfl)
      have m1 := (he4.cell 0).trans (show _ = some .nilIface from rfl)
      have q0 := hm4.frozen 0
      have q1 := he4.frozen 0
      have HB4 := Lib.hid hb4
      have HM4 := Lib.hid hm4
      have HE4 := Lib.hid he4
      have HK4 := Lib.hid hk4
      have EW4 := Lib.hid eW4
      clear hF3 hR3 hK3 hb3 hm3 he3 eW4 hb4 hm4 he4 hr4 hk4 HM2 HE2 HB2 HM1 HE1 HB1
      go_upto_region 6 with fail
      rw [← EW4.out]
      clear EW4 k0 f0
      cases r with
      | cons x r =>
        have HP := Lib.hid (parE_rest hl ho)
        have ht : ((str (x :: r)).toList.isEmpty) = false := by rw [str_tl]; rfl
        have hb5 : Below w.heap.size w ((W4.setCell ⟨w.heap.size, 0, none⟩ (.slice none 0 0)).setCell ⟨w.heap.size + 1, 0, none⟩ (.iface 67 (.int .i64 3))) := (HB4.out.setCell (p := ⟨w.heap.size, 0, none⟩) (Nat.le_refl _) _).setCell (p := ⟨w.heap.size + 1, 0, none⟩) (Nat.le_succ _) _
        have hm5 : Blk ((W4.setCell ⟨w.heap.size, 0, none⟩ (.slice none 0 0)).setCell ⟨w.heap.size + 1, 0, none⟩ (.iface 67 (.int .i64 3))) w.heap.size 22 #[.slice none 0 0] := (HM4.out.set_ 0 _).far (p := ⟨w.heap.size + 1, 0, none⟩) (by show w.heap.size ≠ w.heap.size + 1; omega) _
        have he5 : Blk ((W4.setCell ⟨w.heap.size, 0, none⟩ (.slice none 0 0)).setCell ⟨w.heap.size + 1, 0, none⟩ (.iface 67 (.int .i64 3))) (w.heap.size + 1) 25 #[.iface 67 (.int .i64 3)] := (HE4.out.far (p := ⟨w.heap.size, 0, none⟩) (by show w.heap.size + 1 ≠ w.heap.size; omega) _).set_ 0 _
        have HF := Lib.hid (And.intro hb5 (And.intro hm5 he5))
        clear hb5 hm5 he5 ho
        go_wp2_with fail
        exact par_told w.heap.size _ _ none 0 0 _ _ rfl rfl HF.out.2.1 HF.out.2.2 (parR_bad HP.out (by decide) HF.out.1)
      | nil =>
        obtain ⟨hpe, hpm⟩ := parE_read hl ho
        have HP := Lib.hid hpe
        have HPm := Lib.hid hpm
        have ht : ((str []).toList.isEmpty) = true := by rw [str_tl]; rfl
        have hbs : (m.map (Enc.node 7).bulk).sum ≤ 10000000 := by omega
        have HCk := Lib.hid (Check_any 7 m (.slice A m.length c) W2.heap.size W4 (msgIn_of_bulk 7 m hbs) (HK4.out.list) (HMV.out W4 HB4.out))
        clear ho hpe hpm hbk hbs
        go_wp2_with fail
        refine HCk.out.mono ?_
        clear HCk
        rintro e w5 ⟨rfl, hb5⟩
        have hm5 := HM4.out.below hb5 HM4.out.lt
        have he5 := HE4.out.below hb5 HE4.out.lt
        have k0 := (hm5.cell 0).trans (show _ = some (.slice A m.length c) from rfl)
        have k1 := (he5.cell 0).trans (show _ = some .nilIface from rfl)
        have f0 := hm5.frozen 0
        have f1 := he5.frozen 0
        have HB5 := Lib.hid (HB4.out.trans (hb5.mono HB4.out.size))
        have HK5 : Hid (MkN 7 W2.heap.size w5.heap.size w5 (.slice A m.length c) m) := Lib.hid ((mkN_laws 7).mono ((mkN_laws 7).keep HK4.out fun g _ g2 => hb5.block g g2) (Nat.le_refl _) hb5.size)
        have HM5 := Lib.hid hm5
        have HE5 := Lib.hid he5
        clear hb5 hm5 he5 r0 m0 m1 q0 q1 HK4 HB4 HM4 HE4
        by_cases hck : checkAll 7 m = 0
        · rw [if_pos hck] at HP
          rw [hck, errV_zero]
          have HF : Hid (Below w.heap.size w ((w5.setCell ⟨w.heap.size, 0, none⟩ (.slice A m.length c)).setCell ⟨w.heap.size + 1, 0, none⟩ .nilIface) ∧ Blk ((w5.setCell ⟨w.heap.size, 0, none⟩ (.slice A m.length c)).setCell ⟨w.heap.size + 1, 0, none⟩ .nilIface) w.heap.size 22 #[.slice A m.length c] ∧ Blk ((w5.setCell ⟨w.heap.size, 0, none⟩ (.slice A m.length c)).setCell ⟨w.heap.size + 1, 0, none⟩ .nilIface) (w.heap.size + 1) 25 #[.nilIface]) := Lib.hid
            ⟨(HB5.out.setCell (p := ⟨w.heap.size, 0, none⟩) (Nat.le_refl _) _).setCell (p := ⟨w.heap.size + 1, 0, none⟩) (Nat.le_succ _) _, (HM5.out.set_ 0 _).far (p := ⟨w.heap.size + 1, 0, none⟩) (by show w.heap.size ≠ w.heap.size + 1; omega) _, (HE5.out.far (p := ⟨w.heap.size, 0, none⟩) (by show w.heap.size + 1 ≠ w.heap.size; omega) _).set_ 0 _⟩
          have HKF : Hid (MkN 7 w.heap.size ((w5.setCell ⟨w.heap.size, 0, none⟩ (.slice A m.length c)).setCell ⟨w.heap.size + 1, 0, none⟩ .nilIface).heap.size ((w5.setCell ⟨w.heap.size, 0, none⟩ (.slice A m.length c)).setCell ⟨w.heap.size + 1, 0, none⟩ .nilIface) (.slice A m.length c) m) := Lib.hid (by
            refine (mkN_laws 7).mono ((mkN_laws 7).keep HK5.out fun g g1 _ => ?_) (by omega) (by simp [World.setCell])
            rw [Below.heap_setCell _ _ _ _ (by show g ≠ w.heap.size + 1; omega), Below.heap_setCell _ _ _ _ (by show g ≠ w.heap.size; omega)])
          clear hck
          go_wp2_with fail
          refine par_told w.heap.size _ _ A m.length c .nilIface _ rfl rfl HF.out.2.1 HF.out.2.2 ⟨HF.out.1, _, by rw [HP.out]; rfl, ?_⟩
          rw [if_pos HP.out, HPm.out]
          exact HKF.out
        · rw [if_neg hck] at HP
          rw [errV_ne hck]
          have HF : Hid (Below w.heap.size w ((w5.setCell ⟨w.heap.size, 0, none⟩ (.slice none 0 0)).setCell ⟨w.heap.size + 1, 0, none⟩ (.iface 67 (.int .i64 3))) ∧ Blk ((w5.setCell ⟨w.heap.size, 0, none⟩ (.slice none 0 0)).setCell ⟨w.heap.size + 1, 0, none⟩ (.iface 67 (.int .i64 3))) w.heap.size 22 #[.slice none 0 0] ∧ Blk ((w5.setCell ⟨w.heap.size, 0, none⟩ (.slice none 0 0)).setCell ⟨w.heap.size + 1, 0, none⟩ (.iface 67 (.int .i64 3))) (w.heap.size + 1) 25 #[.iface 67 (.int .i64 3)]) := Lib.hid
            ⟨(HB5.out.setCell (p := ⟨w.heap.size, 0, none⟩) (Nat.le_refl _) _).setCell (p := ⟨w.heap.size + 1, 0, none⟩) (Nat.le_succ _) _, (HM5.out.set_ 0 _).far (p := ⟨w.heap.size + 1, 0, none⟩) (by show w.heap.size ≠ w.heap.size + 1; omega) _, (HE5.out.far (p := ⟨w.heap.size, 0, none⟩) (by show w.heap.size + 1 ≠ w.heap.size; omega) _).set_ 0 _⟩
          clear hck
          go_wp2_with fail
          exact par_told w.heap.size _ _ none 0 0 _ _ rfl rfl HF.out.2.1 HF.out.2.2 (parR_bad HP.out (by decide) HF.out.1)
end Go.Proofs.YtjdfpoppimcikaaGreatDoor
/- The message that msg.Parse tells: in bounds; where it lies, in whatever world behind. -/

namespace Go.Proofs.YtjdfpoppimcikaaGreatDoor
open Go.RowKit

def factP : List UInt8 := [123, 97, 125]
theorem factP_ok : parE factP = 0 := by decide +kernel
theorem factP_one : (parM factP).length = 1 := by decide +kernel
/-- the message that Parse tells -/
def parG (l : List UInt8) : List (Nd 7) := if parE l = 0 then parM l else []
theorem parG_bulk (l : List UInt8) : ((parG l).map (Enc.node 7).bulk).sum ≤ 6000 := by
  unfold parG
  by_cases h : parE l = 0
  · rw [if_pos h]
    by_cases hl : 2000 < l.length
    · rw [parE_long hl] at h; exact absurd h (by decide)
    · cases ho : readM 7 false l with
      | none => rw [parE_none hl ho] at h; exact absurd h (by decide)
      | some p =>
        obtain ⟨m, r⟩ := p
        cases r with
        | cons x r => rw [parE_rest hl ho] at h; exact absurd h (by decide)
        | nil =>
          rw [(parE_read hl ho).2]
          have := readM_len 7 false l m [] ho
          simp only [List.length_nil] at this
          omega
  · rw [if_neg h]; exact Nat.zero_le _
theorem parG_in (l : List UInt8) : MsgIn 7 (parG l) := msgIn_of_bulk 7 _ (Nat.le_trans (parG_bulk l) (by decide))
theorem parG_cnt (l : List UInt8) : cntN 7 (parG l) ≤ 10000000 := Nat.le_trans (cnt_of_bulk 7 _) (Nat.le_trans (parG_bulk l) (by decide))
theorem bts_back (s : ByteArray) : str (bts s) = s := str_bts s
/-- a message that lies in memory, in whatever world behind -/
theorem mkN_later {n lo hi : Nat} {w W : World} {v : Value} {m : List (Nd n)} (h : MkN n lo hi w v m) (hb : Below hi w W) (hs : hi ≤ w.heap.size) : ListOk (Enc.node n) W 0 W.heap.size v m :=
  (((mkN_laws n).keep h fun g _ g2 => hb.block g g2).list).mono (Enc.node_laws n) (Nat.zero_le _) (Nat.le_trans hs hb.size)
end Go.Proofs.YtjdfpoppimcikaaGreatDoor
/- linguisterlaw5.CodeOwn. -/

namespace Go.Proofs.YtjdfpoppimcikaaGreatDoor
open Go.RowKit

theorem parG_check {l : List UInt8} (h : parE l = 0) : checkAll 7 (parG l) = 0 := by
  unfold parG
  rw [if_pos h]
  by_cases hl : 2000 < l.length
  · rw [parE_long hl] at h; exact absurd h (by decide)
  · cases ho : readM 7 false l with
    | none => rw [parE_none hl ho] at h; exact absurd h (by decide)
    | some p =>
      obtain ⟨m, r⟩ := p
      cases r with
      | cons x r => rw [parE_rest hl ho] at h; exact absurd h (by decide)
      | nil =>
        obtain ⟨h1, h2⟩ := parE_read hl ho
        rw [h2]
        rw [h1] at h
        by_cases hc : checkAll 7 m = 0
        · exact hc
        · rw [if_neg hc] at h
          exact absurd h (by decide)
theorem SRow.later {B : Nat} {W W' : World} {out : Value} {zs : List SU} (h : SRow B W out zs) (hk : ∀ g, B ≤ g → g < W.heap.size → W'.heap[g]? = W.heap[g]?) : SRow B W' out zs :=
  ⟨own_keep h.row fun g hg hlt => hk g (own_lt h.row hg).1 hlt, fun s hs => (h.part s hs).keep (fun g hg hlt => hk g (own_lt (h.part s hs).key hg).1 hlt) (fun g hg hlt => hk g (own_lt (h.part s hs).beg hg).1 hlt)⟩
set_option maxHeartbeats 6400000 in
set_option maxRecDepth 100000 in
theorem codeOwn_any (s lang : ByteArray) (args : List ArgV) (vA : Value) (x : ByteArray) (w : World) (hi : ∀ m : List (Nd 7), (m.map (Enc.node 7).bulk).sum ≤ 1048576 → SayIn 7 m args) (hL : lang.size ≤ maxLen) (hA : ListOk Enc.argV w 0 w.heap.size vA args) (hV : EvV w) (hE : ErrVar w) :
    Calls Tryz.prog 5 #[.string s, .string lang, vA, .string x] w fun e w' => e = .returned (.bool true) ∧ Below w.heap.size w w' := by
  obtain ⟨A, c, rfl, _⟩ := hA.form
  have HP0 : Hid (Calls Tryz.prog 9 #[.string ⟨#[123, 97, 125]⟩] w fun e w' => ParR factP w e w') := Lib.hid (mParse_any factP w hV.mv)
  have HPs : Hid (∀ W, Below w.heap.size w W → Calls Tryz.prog 9 #[.string s] W fun e w' => Below W.heap.size W w' ∧ ∃ v, e = .returned (.tuple #[v, errV (parE (bts s))]) ∧ MkN 7 W.heap.size w'.heap.size w' v (parG (bts s))) := Lib.hid fun W hW => by
    have h1 := mParse_any (bts s) W (hV.below hW).mv
    rw [str_bts] at h1
    exact h1
  have hck : parE (bts s) = 0 → checkAll 7 (parG (bts s)) = 0 := parG_check
  have hno : parE (bts s) ≠ 0 → parG (bts s) = [] := fun h => if_neg h
  obtain ⟨G, hG⟩ : ∃ G, G = parG (bts s) := ⟨_, rfl⟩
  have hbk := parG_bulk (bts s)
  have hin := parG_in (bts s)
  rw [← hG] at HPs hbk hin hck hno
  have hSI := hi G (Nat.le_trans hbk (by decide))
  have hsl := stpN_len 7 0 G
  have HSay : Hid (∀ W v, Below w.heap.size w W → ListOk (Enc.node 7) W 0 W.heap.size v G → Calls Tryz.prog 6 #[v, .string lang, .slice A args.length c] W fun e w' => e = .returned (.tuple #[.string (str (sayS 7 G lang args).1), errD (sayS 7 G lang args).2]) ∧ Below W.heap.size W w') := Lib.hid fun W v hW hv =>
    Say_any 7 G v lang args (.slice A args.length c) 0 0 W hSI hL hv ((hA.below Enc.argV_laws hW).mono Enc.argV_laws (Nat.le_refl _) hW.size) (hV.below hW)
  have HCS : Hid (∀ W lo out U zs, Below w.heap.size w W → zs.map SU.x = stpN 7 0 G → SRow lo W out zs → ListOk (Enc.node 7) W lo W.heap.size U (cpyN 7 G) → Calls Tryz.prog 16 #[.agg #[out, U], .string lang, .slice A args.length c] W fun e w' => e = .returned (.tuple #[.string (str (sayS 7 G lang args).1), errD (sayS 7 G lang args).2]) ∧ Below W.heap.size W w') := Lib.hid fun W lo out U zs hW hz hs hU =>
    cSay_any 7 G out U zs lo lo lang args (.slice A args.length c) 0 W hSI hL hz hs hU ((hA.below Enc.argV_laws hW).mono Enc.argV_laws (Nat.le_refl _) hW.size) (hV.below hW)
  have HCo : Hid (parE (bts s) = 0 → ∀ W v, Below w.heap.size w W → ListOk (Enc.node 7) W 0 W.heap.size v G → Calls Tryz.prog 15 #[v] W fun e w' => Below W.heap.size W w' ∧ ∃ out U zs, e = .returned (.tuple #[.agg #[out, U], .nilIface]) ∧ zs.map SU.x = stpN 7 0 G ∧ SRow W.heap.size w' out zs ∧ ListOk (Enc.node 7) w' W.heap.size w'.heap.size U (cpyN 7 G)) := Lib.hid fun h W v hW hv =>
    compile_ok 7 G v 0 W hin hv (hV.below hW).mv (hck h) (by omega)
  have HWp : Hid (∀ lo hi W v, MkN 7 lo hi W v G → Calls Tryz.prog 10 #[v, .string x] W fun e w' => e = .returned (.tuple #[]) ∧ Wq lo hi W w') := Lib.hid fun lo hi W v h =>
    wipeQ_any lo hi x 7 v W (MkN.shapeQ 7 hin h)
  have HErr : Hid (∀ W, Below w.heap.size w W → ErrVar W) := Lib.hid fun W hW => hE.below hW hE.lt
  have HLn := Lib.hid factP_one
  have HOk := Lib.hid factP_ok
  obtain ⟨pe, hpe⟩ : ∃ pe, pe = parE (bts s) := ⟨_, rfl⟩
  rw [← hpe] at HPs HCo hno
  have HNo := Lib.hid hno
  generalize sayS 7 G lang args = R at *
  obtain ⟨rl, re⟩ := R
  dsimp only at HSay HCS
  clear hpe hG hbk hin hSI hi hV hA hL hck hno hsl hE
  go_enter Tryz.func5, Tryz.ntmps5
  go_wp2_with fail
  refine HP0.out.mono ?_
  clear HP0
  rintro e w1 ⟨hb1, v0, rfl, hk0⟩
  rw [HOk.out, if_pos rfl] at hk0
  obtain ⟨A0, c0, rfl⟩ := hk0.form
  rw [HOk.out, errV_zero, HLn.out]
  have HB1 := Lib.hid hb1
  have HP1 := Lib.hid (HPs.out w1 hb1)
  clear hb1 hk0
  go_wp2_with fail
  refine HP1.out.mono ?_
  clear HP1
  rintro e w2 ⟨hb2, vm, rfl, hm2⟩
  obtain ⟨Am, cm, rfl⟩ := hm2.form
  have HB2 := Lib.hid (HB1.out.trans (hb2.mono HB1.out.size))
  by_cases h0 : pe = 0
  · subst h0
    rw [errV_zero]
    have hl2 := mkN_later hm2 (Below.refl _ _) (Nat.le_refl _)
    have HCm := Lib.hid (HCo.out rfl w2 _ HB2.out hl2)
    have HM2 := Lib.hid hm2
    clear hb2 hm2 hl2 HCo HNo
    go_wp2_with fail
    refine HCm.out.mono ?_
    clear HCm
    rintro e w3 ⟨hb3, out, U, zs, rfl, hz, hs3, hU3⟩
    obtain ⟨Ao, co, rfl, _⟩ := own_slice hs3.row
    obtain ⟨Au, cu, rfl, _⟩ := hU3.form
    obtain ⟨W4, eW4⟩ : ∃ W, W = w3.alloc (.cells #[.slice Ao zs.length co, .slice Au (cpyN 7 G).length cu] 49) := ⟨_, rfl⟩
    have hb4 : Below w3.heap.size w3 W4 := by rw [eW4]; exact (Below.refl _ _).alloc (Nat.le_refl _) _
    have hk4 : Blk W4 w3.heap.size 49 #[.slice Ao zs.length co, .slice Au (cpyN 7 G).length cu] := by rw [eW4]; exact Blk.new w3 _ _
    have HKp : Hid (∀ W, (∀ g, w2.heap.size ≤ g → g < W4.heap.size → W.heap[g]? = W4.heap[g]?) → w3.heap.size ≤ W.heap.size → SRow w2.heap.size W (.slice Ao zs.length co) zs ∧ ListOk (Enc.node 7) W w2.heap.size W.heap.size (.slice Au (cpyN 7 G).length cu) (cpyN 7 G) ∧ Blk W w3.heap.size 49 #[.slice Ao zs.length co, .slice Au (cpyN 7 G).length cu]) := Lib.hid fun W hW hz => by
      have hg : ∀ g, w2.heap.size ≤ g → g < w3.heap.size → W.heap[g]? = w3.heap[g]? := fun g h1 h2 => (hW g h1 (Nat.lt_of_lt_of_le h2 hb4.size)).trans (hb4.block g h2)
      refine ⟨hs3.later hg, (hU3.keep (Enc.node_laws 7) fun p h1 h2 => ?_).mono (Enc.node_laws 7) (Nat.le_refl _) hz, (hW _ hb3.size hk4.lt).trans hk4⟩
      simp only [World.cell?, hg p.block h1 h2]
    have HB4 := Lib.hid (HB2.out.trans ((hb3.trans (hb4.mono hb3.size)).mono HB2.out.size))
    have HB24 := Lib.hid (hb3.trans (hb4.mono hb3.size))
    have hkl4 := hk4.lt
    have hk34 := hb4.size
    have hk23 := hb3.size
    obtain ⟨r4, u4, _⟩ := HKp.out W4 (fun _ _ _ => rfl) hk34
    have HS4 := Lib.hid (HCS.out W4 w2.heap.size _ _ zs HB4.out hz r4 u4)
    have x0 := (hk4.cell 0).trans (show _ = some (.slice Ao zs.length co) from rfl)
    have x1 := (hk4.cell 1).trans (show _ = some (.slice Au (cpyN 7 G).length cu) from rfl)
    have EW4 := Lib.hid eW4
    have HZ := Lib.hid hz
    clear hb3 hs3 hU3 hb4 hk4 r4 u4 eW4 hz
    go_upto_region 8 with fail
    rw [← EW4.out]
    clear EW4
    go_wp2_with fail
    refine HS4.out.mono ?_
    clear HS4
    rintro e w5 ⟨rfl, hb5⟩
    have HB5 := Lib.hid (HB4.out.trans (hb5.mono HB4.out.size))
    have HB25 := Lib.hid (HB24.out.trans (hb5.mono HB24.out.size))
    have HK5 : Hid (∀ g, w2.heap.size ≤ g → g < W4.heap.size → w5.heap[g]? = W4.heap[g]?) := Lib.hid fun g _ h2 => hb5.block g h2
    have hm5 : MkN 7 w1.heap.size w2.heap.size w5 (.slice Am G.length cm) G := (mkN_laws 7).keep HM2.out fun g _ g2 => HB25.out.block g g2
    have HW5 := Lib.hid (HWp.out _ _ _ _ hm5)
    have hz5 := hb5.size
    clear hb5 hm5 x0 x1
    go_wp2_with fail
    refine HW5.out.mono ?_
    clear HW5
    rintro e w6 ⟨rfl, hw6⟩
    have hz6 := hw6.below.size
    have HB6 := Lib.hid (HB5.out.trans (hw6.below.mono HB1.out.size))
    have HK6 : Hid (∀ g, w2.heap.size ≤ g → g < W4.heap.size → w6.heap[g]? = W4.heap[g]?) := Lib.hid fun g h1 h2 => (hw6.far g h1).trans (HK5.out g h1 h2)
    obtain ⟨r6, u6, k6⟩ := HKp.out w6 HK6.out (by omega)
    have HS6 := Lib.hid (HCS.out w6 w2.heap.size _ _ zs HB6.out HZ.out r6 u6)
    have x0 := (k6.cell 0).trans (show _ = some (.slice Ao zs.length co) from rfl)
    have x1 := (k6.cell 1).trans (show _ = some (.slice Au (cpyN 7 G).length cu) from rfl)
    clear hw6 r6 u6 k6 HK5 HK6 HKp
    go_wp2_with fail
    refine HS6.out.mono ?_
    clear HS6
    rintro e w7 ⟨rfl, hb7⟩
    have HB7 := Lib.hid (HB6.out.trans (hb7.mono HB6.out.size))
    have HP7 := Lib.hid (HPs.out w7 HB7.out)
    clear hb7 x0 x1
    go_wp2_with fail
    refine HP7.out.mono ?_
    clear HP7
    rintro e w8 ⟨hb8, vk, rfl, hk8⟩
    obtain ⟨Ak, ck, rfl⟩ := hk8.form
    rw [errV_zero]
    have HB8 := Lib.hid (HB7.out.trans (hb8.mono HB7.out.size))
    have HS8 := Lib.hid (HSay.out w8 _ HB8.out (mkN_later hk8 (Below.refl _ _) (Nat.le_refl _)))
    clear hb8 hk8
    go_wp2_with fail
    refine HS8.out.mono ?_
    clear HS8
    rintro e w9 ⟨rfl, hb9⟩
    have HB9 := Lib.hid (HB8.out.trans (hb9.mono HB8.out.size))
    have ht9 := stold_any re re w9 (HErr.out w9 HB9.out)
    rw [show decide (re = re) = true from decide_eq_true rfl] at ht9
    have HT9 := Lib.hid ht9
    clear hb9 ht9
    go_wp2_with fail
    refine HT9.out.mono ?_
    clear HT9
    rintro e w10 ⟨rfl, hb10⟩
    have HB10 := Lib.hid (HB9.out.trans (hb10.mono HB9.out.size))
    have ht10 := stold_any re re w10 (HErr.out w10 HB10.out)
    rw [show decide (re = re) = true from decide_eq_true rfl] at ht10
    have HT10 := Lib.hid ht10
    clear hb10 ht10
    go_wp2_with fail
    refine HT10.out.mono ?_
    clear HT10
    rintro e w11 ⟨rfl, hb11⟩
    have HB11 := Lib.hid (HB10.out.trans (hb11.mono HB10.out.size))
    clear hb11
    go_wp2_with fail
    go_ret
    exact ⟨by simp, HB11.out⟩
  · have hG := HNo.out h0
    have hG0 : G.length = 0 := by rw [hG]; rfl
    rw [errV_ne h0, hG0]
    have HB2' := HB2
    clear hb2 hm2 hG
    go_wp2_with fail
    go_ret
    exact ⟨by simp, HB2'.out⟩
end Go.Proofs.YtjdfpoppimcikaaGreatDoor
