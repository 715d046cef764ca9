/- linguistersame.Message at two values that read as one message. -/
import Derived.Test.YtokjbdefkfdhhaaGreatDoorMsgD
import Derived.Deep.RegionHeld3
namespace Go.Proofs.YtokjbdefkfdhhaaGreatDoor
open Go.RowKit

theorem below_drawnM {B : Nat} {w w' : World} (h : Below B w w') (n : Nat) : Below B w (w'.drewN n) := ⟨h.os, h.tape, h.output, h.size, h.block⟩
theorem below_undrewM {B : Nat} {w w' : World} (h : Below B w.drew w') : Below B w w' := ⟨h.os, h.tape, h.output, h.size, h.block⟩
set_option maxHeartbeats 12800000 in
set_option maxRecDepth 100000 in
theorem smsg_walk {β : Type} {E : Enc β} (hE : E.Laws) (m : List (NdF β)) (u v : Value) (lo lo' hi hi' : Nat) (w : World) (hu : ListOk (Enc.nodeF E) w lo hi u m) (hv : ListOk (Enc.nodeF E) w lo' hi' v m) (h1 : hi ≤ w.heap.size) (h2 : hi' ≤ w.heap.size)
    (hl : m.length ≤ 10000000) (hcl : Hid (∀ x ∈ m, x.cases.length ≤ 10000000))
    (IH : Hid (∀ x ∈ m, ∀ c ∈ x.cases, ∀ W U V, Below w.heap.size w W → ListOk E W lo hi U c.2 → ListOk E W lo' hi' V c.2 → Calls Tryz.prog 13 #[U, V] W fun e w' => e = .returned (.bool true) ∧ Below W.heap.size W w')) :
    Calls Tryz.prog 13 #[u, v] w fun e w' => e = .returned (.bool true) ∧ Below w.heap.size w w' := by
  obtain ⟨A, c, rfl, _⟩ := hu.form
  obtain ⟨B, d, rfl, _⟩ := hv.form
  have HU : Hid (∀ W, Below w.heap.size w W → ListOk (Enc.nodeF E) W lo hi (.slice A m.length c) m) := Lib.hid fun W hW => hu.keep (Enc.nodeF_laws hE) ((Alk.of_below hW).mono (Nat.zero_le _) h1)
  have HV : Hid (∀ W, Below w.heap.size w W → ListOk (Enc.nodeF E) W lo' hi' (.slice B m.length d) m) := Lib.hid fun W hW => hv.keep (Enc.nodeF_laws hE) ((Alk.of_below hW).mono (Nat.zero_le _) h2)
  clear hu hv
  go_enter Tryz.func13, Tryz.ntmps13
  go_wp2_with fail
  go_loopw [5] (fun i wr => ∃ j : Nat, j ≤ m.length ∧ i = .int .i64 (j : Int) ∧ Below w.heap.size w wr) (fun i _ => m.length - (intOf i).toNat)
  case atStart => exact ⟨0, Nat.zero_le _, rfl, Below.refl _ _⟩
  case round =>
    obtain ⟨j, hj, rfl, hb⟩ := hrel
    obtain ⟨wo, rfl⟩ : ∃ wo : World, wo = wr := ⟨_, rfl⟩
    have HB := Lib.hid hb
    have hbs := hb.size
    by_cases hlt : j < m.length
    · have i1 : (0 : Int) ≤ (j : Int) := Int.natCast_nonneg j
      have i2 : (j : Int) < (m.length : Int) := by omega
      have hmem : m[j] ∈ m := List.getElem_mem hlt
      obtain ⟨b1, o1, V1, rfl, p1, q1, x0, x1, x2, x3, hV1⟩ := (HU.out _ hb).nodeAt j hlt
      obtain ⟨b2, o2, V2, rfl, p2, q2, y0, y1, y2, y3, hV2⟩ := (HV.out _ hb).nodeAt j hlt
      obtain ⟨A1, c1, rfl, _⟩ := hV1.form
      obtain ⟨A2, c2, rfl, _⟩ := hV2.form
      have HC1 : Hid (∀ W, Below w.heap.size w W → W.cell? ⟨b1, o1 + j * 4 + 3, none⟩ = some (.slice A1 m[j].cases.length c1) ∧ ListOk (Enc.cas E) W lo hi (.slice A1 m[j].cases.length c1) m[j].cases) := Lib.hid fun W hW =>
        ⟨(hW.cell (p := ⟨b1, _, none⟩) (by show b1 < _; omega)).trans ((HB.out.cell (p := ⟨b1, _, none⟩) (by show b1 < _; omega)).symm.trans x3), hV1.keep (Enc.cas_laws hE) fun p k1 k2 => (hW.cell (by omega)).trans (HB.out.cell (by omega)).symm⟩
      have HC2 : Hid (∀ W, Below w.heap.size w W → W.cell? ⟨b2, o2 + j * 4 + 3, none⟩ = some (.slice A2 m[j].cases.length c2) ∧ ListOk (Enc.cas E) W lo' hi' (.slice A2 m[j].cases.length c2) m[j].cases) := Lib.hid fun W hW =>
        ⟨(hW.cell (p := ⟨b2, _, none⟩) (by show b2 < _; omega)).trans ((HB.out.cell (p := ⟨b2, _, none⟩) (by show b2 < _; omega)).symm.trans y3), hV2.keep (Enc.cas_laws hE) fun p k1 k2 => (hW.cell (by omega)).trans (HB.out.cell (by omega)).symm⟩
      have HI : Hid (∀ c ∈ m[j].cases, ∀ W U V, Below w.heap.size w W → ListOk E W lo hi U c.2 → ListOk E W lo' hi' V c.2 → Calls Tryz.prog 13 #[U, V] W fun e w' => e = .returned (.bool true) ∧ Below W.heap.size W w') := Lib.hid (IH.out _ hmem)
      have hcj := hcl.out _ hmem
      clear hV1 hV2 hmem IH hcl
      generalize m[j] = x at *
      obtain ⟨k0, k1, k2, k3⟩ := x
      dsimp only at x0 x1 x2 x3 y0 y1 y2 y3 HC1 HC2 HI hcj
      have ht : (k1.toList == k1.toList) = true := by simp
      go_wp2_with fail
      go_quiet (fail)
      go_wp2_with fail
      clear x0 x1 x2 y0 y1 y2 x3 y3 ht
      go_loopw [6] (fun k wq => ∃ q : Nat, q ≤ k3.length ∧ k = .int .i64 (q : Int) ∧ Below w.heap.size w wq) (fun k _ => k3.length - (intOf k).toNat)
      case atStart => exact ⟨0, Nat.zero_le _, rfl, below_drawnM HB.out _⟩
      case round =>
        obtain ⟨q, hq, rfl, hbq⟩ := hrel
        have HBq := Lib.hid hbq
        have hbsq := hbq.size
        by_cases hlq : q < k3.length
        · have i3 : (0 : Int) ≤ (q : Int) := Int.natCast_nonneg q
          have i4 : (q : Int) < (k3.length : Int) := by omega
          have hmq : k3[q] ∈ k3 := List.getElem_mem hlq
          obtain ⟨x3, hW1⟩ := HC1.out _ hbq
          obtain ⟨y3, hW2⟩ := HC2.out _ hbq
          obtain ⟨b3, o3, U1, rfl, r1, r2, z0, z1, hU1⟩ := hW1.casAt q hlq
          obtain ⟨b4, o4, U2, rfl, r3, r4, z2, z3, hU2⟩ := hW2.casAt q hlq
          obtain ⟨A3, c3, rfl, _⟩ := hU1.form
          obtain ⟨A4, c4, rfl, _⟩ := hU2.form
          have HM : Hid (∀ W, Below wr.heap.size wr W → Calls Tryz.prog 13 #[.slice A3 k3[q].2.length c3, .slice A4 k3[q].2.length c4] W fun e w' => e = .returned (.bool true) ∧ Below W.heap.size W w') := Lib.hid fun W hW =>
            HI.out _ hmq W _ _ (HBq.out.trans (hW.mono hbsq)) (hU1.keep hE fun p h3 h4 => hW.cell (by omega)) (hU2.keep hE fun p h3 h4 => hW.cell (by omega))
          have HK : Hid (∀ W, Below wr.heap.size wr W → (W.cell? ⟨b1, o1 + j * 4 + 3, none⟩ = some (.slice (some ⟨b3, o3, none⟩) k3.length c1) ∧ W.cell? ⟨b2, o2 + j * 4 + 3, none⟩ = some (.slice (some ⟨b4, o4, none⟩) k3.length c2) ∧ W.cell? ⟨b3, o3 + q * 2 + 1, none⟩ = some (.slice A3 k3[q].2.length c3) ∧ W.cell? ⟨b4, o4 + q * 2 + 1, none⟩ = some (.slice A4 k3[q].2.length c4)) ∧ W.cell? ⟨b3, o3 + q * 2, none⟩ = some (.string k3[q].1) ∧ W.cell? ⟨b4, o4 + q * 2, none⟩ = some (.string k3[q].1)) := Lib.hid fun W hW =>
            ⟨⟨(hW.cell (p := ⟨b1, _, none⟩) (by show b1 < _; omega)).trans x3, (hW.cell (p := ⟨b2, _, none⟩) (by show b2 < _; omega)).trans y3, (hW.cell (p := ⟨b3, _, none⟩) (by show b3 < _; omega)).trans z1, (hW.cell (p := ⟨b4, _, none⟩) (by show b4 < _; omega)).trans z3⟩, (hW.cell (p := ⟨b3, _, none⟩) (by show b3 < _; omega)).trans z0, (hW.cell (p := ⟨b4, _, none⟩) (by show b4 < _; omega)).trans z2⟩
          clear hU1 hU2 hW1 hW2 hmq hbq HC1 HC2 HI
          generalize k3[q] = cc at *
          obtain ⟨ck, cb⟩ := cc
          dsimp only at z0 z1 z2 z3 HM HK
          have ht : (ck.toList == ck.toList) = true := by simp
          go_wp2_with fail
          go_region_held3 (fun w' => w'.cell? ⟨b1, o1 + j * 4 + 3, none⟩ = some (.slice (some ⟨b3, o3, none⟩) k3.length c1) ∧ w'.cell? ⟨b2, o2 + j * 4 + 3, none⟩ = some (.slice (some ⟨b4, o4, none⟩) k3.length c2) ∧ w'.cell? ⟨b3, o3 + q * 2 + 1, none⟩ = some (.slice A3 cb.length c3) ∧ w'.cell? ⟨b4, o4 + q * 2 + 1, none⟩ = some (.slice A4 cb.length c4)) (first | exact ⟨x3, y3, z1, z3⟩ | exact hS5)
            (first
              | (go_at_call 13
                 refine (HM.out _ (Below.refl _ _).drew).mono ?_
                 rintro e w5 ⟨rfl, hb5⟩
                 have hb6 : Below wr.heap.size wr w5 := below_undrewM hb5
                 have hS5 := (HK.out w5 hb6).1
                 clear hb5))
          have HB5 := Lib.hid hb6
          obtain ⟨⟨g0, g1, _, _⟩, g2, g3⟩ := HK.out _ hb6
          clear x3 y3 z0 z1 z2 z3 hb6 hS5
          go_wp2_with fail
          go_quiet (fail)
          go_wp2_with fail
          go_roundw
          case rel => exact ⟨q + 1, by omega, by go_num, below_drawnM (HBq.out.trans (HB5.out.mono hbsq)) _⟩
          case measure => simp [intOf]; omega
        · obtain rfl : q = k3.length := by omega
          obtain ⟨x3, _⟩ := HC1.out _ hbq
          clear HC1 HC2 HI hbq
          go_wp2_with fail
          go_roundw
          case rel => exact ⟨j + 1, by omega, by go_num, HBq.out⟩
          case measure => simp [intOf]; omega
    · obtain rfl : j = m.length := by omega
      clear hb
      go_wp2_with fail
      go_ret
      exact ⟨rfl, HB.out⟩
/-- no list in it is too long -/
def lenF {β : Type} (S : β → Prop) (x : NdF β) : Prop := x.cases.length ≤ 10000000 ∧ ∀ c ∈ x.cases, c.2.length ≤ 10000000 ∧ ∀ y ∈ c.2, S y
def LenN : (n : Nat) → Nd n → Prop
  | 0, _ => True
  | n + 1, x => lenF (LenN n) x
structure LenIn (n : Nat) (m : List (Nd n)) : Prop where
  len : m.length ≤ 10000000
  each : ∀ x ∈ m, LenN n x
theorem LenIn.body {n : Nat} {m : List (Nd (n + 1))} (h : LenIn (n + 1) m) {x : NdF (Nd n)} (hx : x ∈ (m : List (NdF (Nd n)))) {c : ByteArray × List (Nd n)} (hc : c ∈ x.cases) : LenIn n c.2 := by
  have h1 : lenF (LenN n) x := h.each x hx
  exact ⟨(h1.2 c hc).1, (h1.2 c hc).2⟩
theorem MsgIn.lens : {n : Nat} → {m : List (Nd n)} → MsgIn n m → LenIn n m
  | 0, m, h => ⟨h.len, fun x _ => nomatch (show Empty from x)⟩
  | n + 1, m, h => ⟨h.len, fun x hx => by
    have h1 : smallF (SmallN n) x := h.each x hx
    show lenF (LenN n) x
    exact ⟨h1.2.1, fun c hc => ⟨(h.body hx hc).lens.len, (h.body hx hc).lens.each⟩⟩⟩
theorem smsg_same : (n : Nat) → (m : List (Nd n)) → (u v : Value) → (lo lo' hi hi' : Nat) → (w : World) → LenIn n m → ListOk (Enc.node n) w lo hi u m → ListOk (Enc.node n) w lo' hi' v m → hi ≤ w.heap.size → hi' ≤ w.heap.size →
    Calls Tryz.prog 13 #[u, v] w fun e w' => e = .returned (.bool true) ∧ Below w.heap.size w w'
  | 0, m, u, v, lo, lo', hi, hi', w, hm, hu, hv, h1, h2 => by
    obtain rfl := empty_list m
    obtain ⟨A, c, rfl, _⟩ := hu.form
    obtain ⟨B, d, rfl, _⟩ := hv.form
    exact smsg_walk (E := Enc.none_) Enc.none_laws ([] : List (NdF Empty)) (.slice A 0 c) (.slice B 0 d) lo lo' hi hi' w (ListOk.nil c A) (ListOk.nil d B) h1 h2 (Nat.zero_le _) (Lib.hid fun x hx => by cases hx) (Lib.hid fun x hx => by cases hx)
  | n + 1, m, u, v, lo, lo', hi, hi', w, hm, hu, hv, h1, h2 => by
    refine smsg_walk (E := Enc.node n) (Enc.node_laws n) (m : List (NdF (Nd n))) u v lo lo' hi hi' w hu hv h1 h2 hm.len (Lib.hid fun x hx => ?_) (Lib.hid fun x hx c hc W U V hW hU hV => ?_)
    · have h1 : lenF (LenN n) x := hm.each x hx
      exact h1.1
    · exact smsg_same n c.2 U V lo lo' hi hi' W (hm.body hx hc) hU hV (Nat.le_trans h1 hW.size) (Nat.le_trans h2 hW.size)
end Go.Proofs.YtokjbdefkfdhhaaGreatDoor
