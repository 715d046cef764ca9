/- linguistersame.Message at two values that read as one message. -/
import Derived.Test.YtjdfpoppimcikaaGreatDoorMsgD
import Derived.Deep.RegionHeld3
import Derived.Laws.StructEq
import Derived.Deep.QuietTactic
import Derived.BigQuiet
import Derived.Test.YtjdfpoppimcikaaGreatDoorNamesD
import Derived.Test.YtjdfpoppimcikaaGreatDoorLexW
import Derived.Test.YtjdfpoppimcikaaGreatDoorLexP
import Derived.Test.YtjdfpoppimcikaaGreatDoorNamesA
import Derived.StillTailTactics
import Derived.Test.YtjdfpoppimcikaaGreatDoorGrpB
import Derived.Deep.DeepCutAuto
namespace Go.Proofs.YtjdfpoppimcikaaGreatDoor
open Go.RowKit

theorem below_drawnM {B : Nat} {w w' : World} (h : Below B w w') (n : Nat) : Below B w (w'.drewN n) := ⟨h.os, h.tape, h.output, h.size, h.block⟩
theorem below_undrewM {B : Nat} {w w' : World} (h : Below B w.drew w') : Below B w w' := ⟨h.os, h.tape, h.output, h.size, h.block⟩
set_option maxHeartbeats 12800000 in
set_option maxRecDepth 100000 in
theorem smsg_walk {β : Type} {E : Enc β} (hE : E.Laws) (m : List (NdF β)) (u v : Value) (lo lo' hi hi' : Nat) (w : World) (hu : ListOk (Enc.nodeF E) w lo hi u m) (hv : ListOk (Enc.nodeF E) w lo' hi' v m) (h1 : hi ≤ w.heap.size) (h2 : hi' ≤ w.heap.size)
    (hl : m.length ≤ 10000000) (hcl : Hid (∀ x ∈ m, x.cases.length ≤ 10000000))
    (IH : Hid (∀ x ∈ m, ∀ c ∈ x.cases, ∀ W U V, Below w.heap.size w W → ListOk E W lo hi U c.2 → ListOk E W lo' hi' V c.2 → Calls Tryz.prog 11 #[U, V] W fun e w' => e = .returned (.bool true) ∧ Below W.heap.size W w')) :
    Calls Tryz.prog 11 #[u, v] w fun e w' => e = .returned (.bool true) ∧ Below w.heap.size w w' := by
  obtain ⟨A, c, rfl, _⟩ := hu.form
  obtain ⟨B, d, rfl, _⟩ := hv.form
  have HU : Hid (∀ W, Below w.heap.size w W → ListOk (Enc.nodeF E) W lo hi (.slice A m.length c) m) := Lib.hid fun W hW => hu.keep (Enc.nodeF_laws hE) ((Alk.of_below hW).mono (Nat.zero_le _) h1)
  have HV : Hid (∀ W, Below w.heap.size w W → ListOk (Enc.nodeF E) W lo' hi' (.slice B m.length d) m) := Lib.hid fun W hW => hv.keep (Enc.nodeF_laws hE) ((Alk.of_below hW).mono (Nat.zero_le _) h2)
  clear hu hv
  go_enter Tryz.func11, Tryz.ntmps11
  go_wp2_with fail
  go_loopw [5] (fun i wr => ∃ j : Nat, j ≤ m.length ∧ i = .int .i64 (j : Int) ∧ Below w.heap.size w wr) (fun i _ => m.length - (intOf i).toNat)
  case atStart => exact ⟨0, Nat.zero_le _, rfl, Below.refl _ _⟩
  case round =>
    obtain ⟨j, hj, rfl, hb⟩ := hrel
    obtain ⟨wo, rfl⟩ : ∃ wo : World, wo = wr := ⟨_, rfl⟩
    have HB := Lib.hid hb
    have hbs := hb.size
    by_cases hlt : j < m.length
    · have i1 : (0 : Int) ≤ (j : Int) := Int.natCast_nonneg j
      have i2 : (j : Int) < (m.length : Int) := by omega
      have hmem : m[j] ∈ m := List.getElem_mem hlt
      obtain ⟨b1, o1, V1, rfl, p1, q1, x0, x1, x2, x3, hV1⟩ := (HU.out _ hb).nodeAt j hlt
      obtain ⟨b2, o2, V2, rfl, p2, q2, y0, y1, y2, y3, hV2⟩ := (HV.out _ hb).nodeAt j hlt
      obtain ⟨A1, c1, rfl, _⟩ := hV1.form
      obtain ⟨A2, c2, rfl, _⟩ := hV2.form
      have HC1 : Hid (∀ W, Below w.heap.size w W → W.cell? ⟨b1, o1 + j * 4 + 3, none⟩ = some (.slice A1 m[j].cases.length c1) ∧ ListOk (Enc.cas E) W lo hi (.slice A1 m[j].cases.length c1) m[j].cases) := Lib.hid fun W hW =>
        ⟨(hW.cell (p := ⟨b1, _, none⟩) (by show b1 < _; omega)).trans ((HB.out.cell (p := ⟨b1, _, none⟩) (by show b1 < _; omega)).symm.trans x3), hV1.keep (Enc.cas_laws hE) fun p k1 k2 => (hW.cell (by omega)).trans (HB.out.cell (by omega)).symm⟩
      have HC2 : Hid (∀ W, Below w.heap.size w W → W.cell? ⟨b2, o2 + j * 4 + 3, none⟩ = some (.slice A2 m[j].cases.length c2) ∧ ListOk (Enc.cas E) W lo' hi' (.slice A2 m[j].cases.length c2) m[j].cases) := Lib.hid fun W hW =>
        ⟨(hW.cell (p := ⟨b2, _, none⟩) (by show b2 < _; omega)).trans ((HB.out.cell (p := ⟨b2, _, none⟩) (by show b2 < _; omega)).symm.trans y3), hV2.keep (Enc.cas_laws hE) fun p k1 k2 => (hW.cell (by omega)).trans (HB.out.cell (by omega)).symm⟩
      have HI : Hid (∀ c ∈ m[j].cases, ∀ W U V, Below w.heap.size w W → ListOk E W lo hi U c.2 → ListOk E W lo' hi' V c.2 → Calls Tryz.prog 11 #[U, V] W fun e w' => e = .returned (.bool true) ∧ Below W.heap.size W w') := Lib.hid (IH.out _ hmem)
      have hcj := hcl.out _ hmem
      clear hV1 hV2 hmem IH hcl
      generalize m[j] = x at *
      obtain ⟨k0, k1, k2, k3⟩ := x
      dsimp only at x0 x1 x2 x3 y0 y1 y2 y3 HC1 HC2 HI hcj
      have ht : (k1.toList == k1.toList) = true := by simp
      go_wp2_with fail
      go_quiet (fail)
      go_wp2_with fail
      clear x0 x1 x2 y0 y1 y2 x3 y3 ht
      go_loopw [6] (fun k wq => ∃ q : Nat, q ≤ k3.length ∧ k = .int .i64 (q : Int) ∧ Below w.heap.size w wq) (fun k _ => k3.length - (intOf k).toNat)
      case atStart => exact ⟨0, Nat.zero_le _, rfl, below_drawnM HB.out _⟩
      case round =>
        obtain ⟨q, hq, rfl, hbq⟩ := hrel
        have HBq := Lib.hid hbq
        have hbsq := hbq.size
        by_cases hlq : q < k3.length
        · have i3 : (0 : Int) ≤ (q : Int) := Int.natCast_nonneg q
          have i4 : (q : Int) < (k3.length : Int) := by omega
          have hmq : k3[q] ∈ k3 := List.getElem_mem hlq
          obtain ⟨x3, hW1⟩ := HC1.out _ hbq
          obtain ⟨y3, hW2⟩ := HC2.out _ hbq
          obtain ⟨b3, o3, U1, rfl, r1, r2, z0, z1, hU1⟩ := hW1.casAt q hlq
          obtain ⟨b4, o4, U2, rfl, r3, r4, z2, z3, hU2⟩ := hW2.casAt q hlq
          obtain ⟨A3, c3, rfl, _⟩ := hU1.form
          obtain ⟨A4, c4, rfl, _⟩ := hU2.form
          have HM : Hid (∀ W, Below wr.heap.size wr W → Calls Tryz.prog 11 #[.slice A3 k3[q].2.length c3, .slice A4 k3[q].2.length c4] W fun e w' => e = .returned (.bool true) ∧ Below W.heap.size W w') := Lib.hid fun W hW =>
            HI.out _ hmq W _ _ (HBq.out.trans (hW.mono hbsq)) (hU1.keep hE fun p h3 h4 => hW.cell (by omega)) (hU2.keep hE fun p h3 h4 => hW.cell (by omega))
          have HK : Hid (∀ W, Below wr.heap.size wr W → (W.cell? ⟨b1, o1 + j * 4 + 3, none⟩ = some (.slice (some ⟨b3, o3, none⟩) k3.length c1) ∧ W.cell? ⟨b2, o2 + j * 4 + 3, none⟩ = some (.slice (some ⟨b4, o4, none⟩) k3.length c2) ∧ W.cell? ⟨b3, o3 + q * 2 + 1, none⟩ = some (.slice A3 k3[q].2.length c3) ∧ W.cell? ⟨b4, o4 + q * 2 + 1, none⟩ = some (.slice A4 k3[q].2.length c4)) ∧ W.cell? ⟨b3, o3 + q * 2, none⟩ = some (.string k3[q].1) ∧ W.cell? ⟨b4, o4 + q * 2, none⟩ = some (.string k3[q].1)) := Lib.hid fun W hW =>
            ⟨⟨(hW.cell (p := ⟨b1, _, none⟩) (by show b1 < _; omega)).trans x3, (hW.cell (p := ⟨b2, _, none⟩) (by show b2 < _; omega)).trans y3, (hW.cell (p := ⟨b3, _, none⟩) (by show b3 < _; omega)).trans z1, (hW.cell (p := ⟨b4, _, none⟩) (by show b4 < _; omega)).trans z3⟩, (hW.cell (p := ⟨b3, _, none⟩) (by show b3 < _; omega)).trans z0, (hW.cell (p := ⟨b4, _, none⟩) (by show b4 < _; omega)).trans z2⟩
          clear hU1 hU2 hW1 hW2 hmq hbq HC1 HC2 HI
          generalize k3[q] = cc at *
          obtain ⟨ck, cb⟩ := cc
          dsimp only at z0 z1 z2 z3 HM HK
          have ht : (ck.toList == ck.toList) = true := by simp
          go_wp2_with fail
          go_region_held3 (fun w' => w'.cell? ⟨b1, o1 + j * 4 + 3, none⟩ = some (.slice (some ⟨b3, o3, none⟩) k3.length c1) ∧ w'.cell? ⟨b2, o2 + j * 4 + 3, none⟩ = some (.slice (some ⟨b4, o4, none⟩) k3.length c2) ∧ w'.cell? ⟨b3, o3 + q * 2 + 1, none⟩ = some (.slice A3 cb.length c3) ∧ w'.cell? ⟨b4, o4 + q * 2 + 1, none⟩ = some (.slice A4 cb.length c4)) (first | exact ⟨x3, y3, z1, z3⟩ | exact hS5)
            (first
              | (go_at_call 11
                 refine (HM.out _ (Below.refl _ _).drew).mono ?_
                 rintro e w5 ⟨rfl, hb5⟩
                 have hb6 : Below wr.heap.size wr w5 := below_undrewM hb5
                 have hS5 := (HK.out w5 hb6).1
                 clear hb5))
          have HB5 := Lib.hid hb6
          obtain ⟨⟨g0, g1, _, _⟩, g2, g3⟩ := HK.out _ hb6
          clear x3 y3 z0 z1 z2 z3 hb6 hS5
          go_wp2_with fail
          go_quiet (fail)
          go_wp2_with fail
          go_roundw
          case rel => exact ⟨q + 1, by omega, by go_num, below_drawnM (HBq.out.trans (HB5.out.mono hbsq)) _⟩
          case measure => simp [intOf]; omega
        · obtain rfl : q = k3.length := by omega
          obtain ⟨x3, _⟩ := HC1.out _ hbq
          clear HC1 HC2 HI hbq
          go_wp2_with fail
          go_roundw
          case rel => exact ⟨j + 1, by omega, by go_num, HBq.out⟩
          case measure => simp [intOf]; omega
    · obtain rfl : j = m.length := by omega
      clear hb
      go_wp2_with fail
      go_ret
      exact ⟨rfl, HB.out⟩
/-- no list in it is too long -/
def lenF {β : Type} (S : β → Prop) (x : NdF β) : Prop := x.cases.length ≤ 10000000 ∧ ∀ c ∈ x.cases, c.2.length ≤ 10000000 ∧ ∀ y ∈ c.2, S y
def LenN : (n : Nat) → Nd n → Prop
  | 0, _ => True
  | n + 1, x => lenF (LenN n) x
structure LenIn (n : Nat) (m : List (Nd n)) : Prop where
  len : m.length ≤ 10000000
  each : ∀ x ∈ m, LenN n x
theorem LenIn.body {n : Nat} {m : List (Nd (n + 1))} (h : LenIn (n + 1) m) {x : NdF (Nd n)} (hx : x ∈ (m : List (NdF (Nd n)))) {c : ByteArray × List (Nd n)} (hc : c ∈ x.cases) : LenIn n c.2 := by
  have h1 : lenF (LenN n) x := h.each x hx
  exact ⟨(h1.2 c hc).1, (h1.2 c hc).2⟩
theorem MsgIn.lens : {n : Nat} → {m : List (Nd n)} → MsgIn n m → LenIn n m
  | 0, m, h => ⟨h.len, fun x _ => nomatch (show Empty from x)⟩
  | n + 1, m, h => ⟨h.len, fun x hx => by
    have h1 : smallF (SmallN n) x := h.each x hx
    show lenF (LenN n) x
    exact ⟨h1.2.1, fun c hc => ⟨(h.body hx hc).lens.len, (h.body hx hc).lens.each⟩⟩⟩
theorem smsg_same : (n : Nat) → (m : List (Nd n)) → (u v : Value) → (lo lo' hi hi' : Nat) → (w : World) → LenIn n m → ListOk (Enc.node n) w lo hi u m → ListOk (Enc.node n) w lo' hi' v m → hi ≤ w.heap.size → hi' ≤ w.heap.size →
    Calls Tryz.prog 11 #[u, v] w fun e w' => e = .returned (.bool true) ∧ Below w.heap.size w w'
  | 0, m, u, v, lo, lo', hi, hi', w, hm, hu, hv, h1, h2 => by
    obtain rfl := empty_list m
    obtain ⟨A, c, rfl, _⟩ := hu.form
    obtain ⟨B, d, rfl, _⟩ := hv.form
    exact smsg_walk (E := Enc.none_) Enc.none_laws ([] : List (NdF Empty)) (.slice A 0 c) (.slice B 0 d) lo lo' hi hi' w (ListOk.nil c A) (ListOk.nil d B) h1 h2 (Nat.zero_le _) (Lib.hid fun x hx => by cases hx) (Lib.hid fun x hx => by cases hx)
  | n + 1, m, u, v, lo, lo', hi, hi', w, hm, hu, hv, h1, h2 => by
    refine smsg_walk (E := Enc.node n) (Enc.node_laws n) (m : List (NdF (Nd n))) u v lo lo' hi hi' w hu hv h1 h2 hm.len (Lib.hid fun x hx => ?_) (Lib.hid fun x hx c hc W U V hW hU hV => ?_)
    · have h1 : lenF (LenN n) x := hm.each x hx
      exact h1.1
    · exact smsg_same n c.2 U V lo lo' hi hi' W (hm.body hx hc) hU hV (Nat.le_trans h1 hW.size) (Nat.le_trans h2 hW.size)
end Go.Proofs.YtjdfpoppimcikaaGreatDoor
/- names.Of; linguistersame.Args at the same. -/

namespace Go.Proofs.YtjdfpoppimcikaaGreatDoor
open Go.RowKit

def nedC (x : Ned) : List Value := [.string x.name, .bool x.num, .int .i64 0, .int .i64 0, .string ByteArray.empty]
def flatG (l : List Ned) : List Value := l.flatMap nedC
theorem flatG_snoc (l : List Ned) (x : Ned) : flatG (l ++ [x]) = flatG l ++ nedC x := by simp [flatG]
theorem flatG_length (l : List Ned) : (flatG l).length = l.length * 5 := by
  induction l with
  | nil => rfl
  | cons p l ih => show (nedC p ++ flatG l).length = _; rw [List.length_append, ih]; simp [nedC]; omega
theorem flatG_at : ∀ (l : List Ned) (i : Nat) (h : i < l.length), ((flatG l).drop (i * 5)).take 5 = nedC l[i]
  | [], i, h => by cases h
  | p :: l, 0, _ => by show ((nedC p ++ flatG l).drop (0 * 5)).take 5 = _; simp [nedC]
  | p :: l, i + 1, h => by
    have ih := flatG_at l i (by simpa using h)
    show ((nedC p ++ flatG l).drop ((i + 1) * 5)).take 5 = _
    rw [show (i + 1) * 5 = (nedC p).length + i * 5 from by simp [nedC]; omega, List.drop_append, List.drop_eq_nil_of_le (Nat.le_add_right _ _), Nat.add_sub_cancel_left]
    exact ih
def Enc.argN : Enc Ned := ⟨5, 56, fun _ _ _ cs x => cs = nedC x, fun _ _ => True, fun _ => 1⟩
theorem Enc.argN_laws : Enc.argN.Laws := ⟨fun h => by cases h; rfl, fun h _ => h, fun h _ _ => h⟩
theorem args_of_own {w : World} {base lo hi : Nat} {v : Value} {l : List Ned} (h : w.ownsRow base 35 5 v l.length (flatG l)) (hb : lo ≤ base) (hs : w.heap.size ≤ hi) : ListOk Enc.argN w lo hi v l :=
  ListOk.of_own (E := Enc.argN) h hb hs fun i hl => flatG_at l i hl
theorem ListOk.argAt {w : World} {lo hi : Nat} {A : Option Addr} {n c : Nat} {l : List Ned} (h : ListOk Enc.argN w lo hi (.slice A n c) l) (i : Nat) (hl : i < l.length) :
    ∃ b o, A = some ⟨b, o, none⟩ ∧ lo ≤ b ∧ b < hi ∧ w.cell? ⟨b, o + i * 5, none⟩ = some (.string l[i].name) ∧ w.cell? ⟨b, o + i * 5 + 1, none⟩ = some (.bool l[i].num) ∧ w.cell? ⟨b, o + i * 5 + 2, none⟩ = some (.int .i64 0) ∧ w.cell? ⟨b, o + i * 5 + 3, none⟩ = some (.int .i64 0) ∧ w.cell? ⟨b, o + i * 5 + 4, none⟩ = some (.string ByteArray.empty) := by
  obtain ⟨A', c', hv, _, hi'⟩ := h
  injection hv with hv1 _ _
  subst hv1
  obtain ⟨b, o, cs, hA, h1, h2, h3, h4⟩ := hi' i hl
  have h4' : cs = nedC l[i] := h4
  subst h4'
  exact ⟨b, o, hA, h1, h2, h3 0 _ rfl, h3 1 _ rfl, h3 2 _ rfl, h3 3 _ rfl, h3 4 _ rfl⟩
theorem info_argN : (Tryz.prog.info? 35).map (fun i => (i.zero, i.size, i.bytes)) = some (some (.agg #[.string ByteArray.empty, .bool false, .int .i64 0, .int .i64 0, .string ByteArray.empty]), 5, 56) := by kernel_rfl
theorem five_news (w : World) (a b c d e : Value) (t : TypeId) : ∀ q u, ([a, b, c, d, e] : List Value)[q]? = some u → (w.alloc (.cells #[a, b, c, d, e] t)).cell? ⟨w.heap.size, 0 + q, none⟩ = some u := fun q u hq => by
  rw [Nat.zero_add, (Blk.new w t #[a, b, c, d, e]).cell q]; simpa using hq
set_option maxHeartbeats 3200000 in
set_option maxRecDepth 100000 in
theorem Of_any (n : Nat) (m : List (Nd n)) (v : Value) (lo : Nat) (w : World) (hm : MsgIn n m) (hc : cntN n m ≤ 10000000) (hv : ListOk (Enc.node n) w lo w.heap.size v m) (hV : MV w) :
    Calls Tryz.prog 12 #[v] w fun e w' => Below w.heap.size w w' ∧ ∃ u, e = .returned (.tuple #[u, errV (ofR n m).1]) ∧ w'.ownsRow w.heap.size 35 5 u (ofR n m).2.length (flatG (ofR n m).2) := by
  have HO := Lib.hid (of_any n m v lo w hm hc hv hV)
  have hlen : (ofR n m).2.length ≤ 10000000 := by
    have h := allN_len n m []
    simp at h
    unfold ofR
    split
    · exact Nat.zero_le _
    · split
      · exact Nat.zero_le _
      · show (allN n m []).length ≤ _; omega
  have hnil : (ofR n m).1 ≠ 0 → (ofR n m).2 = [] := by
    unfold ofR
    split
    · exact fun _ => rfl
    · split
      · exact fun _ => rfl
      · exact fun h => absurd rfl h
  generalize ofR n m = R at *
  obtain ⟨f, L⟩ := R
  dsimp only at HO hlen hnil ⊢
  clear hv hV hm hc
  go_enter Tryz.func12, Tryz.ntmps12
  go_wp2_with fail
  refine HO.out.mono ?_
  clear HO
  rintro e w1 ⟨hb1, u, rfl, hr1⟩
  have HB1 := Lib.hid hb1
  obtain ⟨UA, Uc, rfl, _⟩ := own_slice hr1
  by_cases h0 : f = 0
  · subst h0
    rw [errV_zero]
    have HL : Hid (∀ W, Below w1.heap.size w1 W → ListOk Enc.ned W 0 w1.heap.size (.slice UA L.length Uc) L) := Lib.hid fun W hW => (neds_of_own hr1 (Nat.zero_le _) (Nat.le_refl _)).below Enc.ned_laws hW
    have hs1 := hb1.size
    clear hb1 hr1 hnil
    go_wp2_with fail
    go_loopw [6, 8, 19] (fun o _ i wr => ∃ j : Nat, j ≤ L.length ∧ i = .int .i64 (j : Int) ∧ wr.ownsRow w1.heap.size 35 5 o (L.take j).length (flatG (L.take j)) ∧ Below w1.heap.size w1 wr) (fun _ _ i _ => L.length - (intOf i).toNat)
    case atStart => exact ⟨0, Nat.zero_le _, rfl, own_nil, Below.refl _ _⟩
    case round =>
      obtain ⟨j, hj, rfl, hown, hb⟩ := hrel
      have HO := Lib.hid hown
      have HB := Lib.hid hb
      have hbs := hb.size
      have htl : (L.take j).length = j := by rw [List.length_take]; omega
      obtain ⟨OA, Oc, rfl, _⟩ := own_slice hown
      by_cases hlt : j < L.length
      · have i1 : (0 : Int) ≤ (j : Int) := Int.natCast_nonneg j
        have i2 : (j : Int) < (L.length : Int) := by omega
        have HTk : Hid (L.take (j + 1) = L.take j ++ [L[j]]) := Lib.hid (List.take_succ_eq_append_getElem hlt)
        obtain ⟨b0, o0, rfl, _, _, x0, x1, x2⟩ := (HL.out _ hb).nedAt j hlt
        rw [htl] at HO ⊢
        generalize L[j] = x at *
        obtain ⟨y0, y1, y2⟩ := x
        dsimp only at x0 x1 x2
        clear hown hb
        have HN5 : Hid (∀ q u, ([Value.string y0, .bool y1, .int .i64 0, .int .i64 0, .string ⟨#[]⟩] : List Value)[q]? = some u → ((wr.alloc (.cells #[.string y0, .bool y1, .bool y2] 82)).alloc (.cells #[.string y0, .bool y1, .int .i64 0, .int .i64 0, .string ⟨#[]⟩] 35)).cell? ⟨wr.heap.size + 1, 0 + q, none⟩ = some u) := Lib.hid (by
          have h := five_news (wr.alloc (.cells #[.string y0, .bool y1, .bool y2] 82)) (.string y0) (.bool y1) (.int .i64 0) (.int .i64 0) (.string ⟨#[]⟩) 35
          rwa [World.size_alloc] at h)
        go_wp2_with (at_builtin; refine wpList_append_any rfl _ _ 23 rfl w1.heap.size 35 Tryz.underlying23 info_argN rfl (by decide) (flatG (L.take j)) rfl ((HO.out.alloc _).alloc _) [.string y0, .bool y1, .int .i64 0, .int .i64 0, .string ⟨#[]⟩] rfl rfl (.inr ⟨_, _, rfl, HN5.out⟩) (by simp [Value.oneCell']) (by unfold maxLen; omega) (by omega) (by simp; omega) ?_)
        intro v3 w3 hown3 hgrow3 _
        have HB3 := Lib.hid (((HB.out.alloc hbs _).alloc (by simp; omega) _).grown hgrow3 (by simp; omega) (fun r e => (own_lt HO.out e).1))
        have HO3 : Hid (w3.ownsRow w1.heap.size 35 5 v3 (L.take (j + 1)).length (flatG (L.take (j + 1)))) := Lib.hid (by
          rw [HTk.out, List.length_append, flatG_snoc, htl]
          exact hown3)
        clear hown3 hgrow3
        go_wp2_with fail
        go_roundw
        case rel => exact ⟨j + 1, by omega, by go_num, HO3.out, HB3.out⟩
        case measure => simp [intOf]; omega
      · obtain rfl : j = L.length := by omega
        rw [List.take_length] at HO
        have HF := Lib.hid (HB1.out.trans (HB.out.mono hs1))
        have HOf : Hid (wr.ownsRow w.heap.size 35 5 (.slice OA L.length Oc) L.length (flatG L)) := Lib.hid (own_mono HO.out hs1)
        rw [htl]
        clear hown hb HO
        go_wp2_with fail
        go_ret2
        exact ⟨HF.out, _, rfl, HOf.out⟩
  · rw [errV_ne h0]
    have hL := hnil h0
    subst hL
    clear hb1 hr1
    go_wp2_with fail
    go_ret2
    exact ⟨HB1.out, .slice none 0 0, by rw [errV_ne h0]; rfl, own_nil⟩
set_option maxHeartbeats 1600000 in
set_option maxRecDepth 100000 in
theorem args_same (l : List Ned) (u v : Value) (lo lo' : Nat) (w : World) (hu : ListOk Enc.argN w lo w.heap.size u l) (hv : ListOk Enc.argN w lo' w.heap.size v l) (hn : l.length ≤ 10000000) :
    Calls Tryz.prog 7 #[u, v] w fun e w' => e = .returned (.bool true) ∧ Below w.heap.size w w' := by
  obtain ⟨A, c, rfl, _⟩ := hu.form
  obtain ⟨B, d, rfl, _⟩ := hv.form
  have HU := Lib.hid hu
  have HV := Lib.hid hv
  clear hu hv
  go_enter Tryz.func7, Tryz.ntmps7
  go_wp2_with fail
  go_loopw [5] (fun i wr => ∃ j : Nat, j ≤ l.length ∧ i = .int .i64 j ∧ ∃ n, wr = w.drewN n) (fun i _ => l.length - (intOf i).toNat)
  case atStart => exact ⟨0, Nat.zero_le _, rfl, 0, rfl⟩
  case round =>
    obtain ⟨j, hj, rfl, n, rfl⟩ := hrel
    by_cases hlt : j < l.length
    · have i1 : (0 : Int) ≤ (j : Int) := Int.natCast_nonneg j
      have i2 : (j : Int) < (l.length : Int) := by omega
      obtain ⟨b1, o1, rfl, _, _, x0, x1, x2, x3, x4⟩ := HU.out.argAt j hlt
      obtain ⟨b2, o2, rfl, _, _, y0, y1, y2, y3, y4⟩ := HV.out.argAt j hlt
      generalize l[j] = e at *
      obtain ⟨e0, e1, e2⟩ := e
      dsimp only at x0 x1 y0 y1
      have hk : (e0.toList == e0.toList) = true := by simp
      go_wp2_with fail
      go_quiet (fail)
      go_wp2
      go_roundw
      case rel => exact ⟨j + 1, by omega, by go_num, _, rfl⟩
      case measure => simp [intOf]; omega
    · go_wp2_with fail
      go_ret
      exact ⟨rfl, below_drewN (Below.refl _ _) n⟩
end Go.Proofs.YtjdfpoppimcikaaGreatDoor
/- pseudo.doubled, pseudo.Text; linguisterref2.Vowels. -/

namespace Go.Proofs.YtjdfpoppimcikaaGreatDoor
open Go.RowKit

theorem str_app' (a b : List UInt8) : str (a ++ b) = str a ++ str b := bts_inj (by simp [bts, str, ByteArray.data_append])
theorem str_app2' (a b c : List UInt8) : str (a ++ b ++ c) = str a ++ str b ++ str c := by rw [str_app', str_app']
def vowB : ByteArray := ⟨#[97, 101, 105, 111, 117, 65, 69, 73, 79, 85]⟩
def isVow (c : UInt8) : Bool := (bts vowB).contains c
def dblL (l : List UInt8) : List UInt8 := l.flatMap fun c => if isVow c then [c, c] else [c]
theorem dblL_len (l : List UInt8) : (dblL l).length ≤ 2 * l.length := by
  induction l with
  | nil => exact Nat.le_refl _
  | cons a l ih =>
    unfold dblL at *
    rw [List.flatMap_cons, List.length_append, List.length_cons]
    have : (if isVow a then [a, a] else [a]).length ≤ 2 := by split <;> simp
    omega
theorem dblL_snoc (s : ByteArray) (j : Nat) (h : j < s.size) : dblL ((bts s).take (j + 1)) = if isVow s[j] then dblL ((bts s).take j) ++ [s[j]] ++ [s[j]] else dblL ((bts s).take j) ++ [s[j]] := by
  have e : (bts s).take (j + 1) = (bts s).take j ++ [s[j]] := by
    rw [List.take_add_one, List.getElem?_eq_getElem (by rw [bts_len]; exact h), bts_get s j h]; rfl
  rw [e]
  unfold dblL
  rw [List.flatMap_append]
  cases h : isVow s[j] <;> simp [h]
theorem dblL_take (s : ByteArray) (j : Nat) : (dblL ((bts s).take j)).length ≤ 2 * j := by
  have := dblL_len ((bts s).take j)
  have h : ((bts s).take j).length ≤ j := List.length_take_le ..
  omega
set_option maxHeartbeats 1600000 in
set_option maxRecDepth 100000 in
theorem doubled_any (s : ByteArray) (w : World) (hs : s.size ≤ 1000000000) :
    Calls Tryz.prog 49 #[.string s] w fun e w' => e = .returned (.string (str (dblL (bts s)))) ∧ Below w.heap.size w w' := by
  have HN := Lib.hid (bld_new w)
  have HB0 := Lib.hid ((Below.refl w.heap.size w).alloc (Nat.le_refl _) (.cells #[.pointer none, .slice none 0 0] 60))
  go_enter Tryz.func49, Tryz.ntmps49
  go_wp2_with fail
  go_loopw [4, 7] (fun _ i wr => ∃ j : Nat, j ≤ s.size ∧ i = .int .i64 j ∧ Bld w.heap.size w.heap.size (dblL ((bts s).take j)) wr ∧ Below w.heap.size w wr) (fun _ i _ => s.size - (intOf i).toNat)
  case atStart => exact ⟨0, Nat.zero_le _, rfl, HN.out, HB0.out⟩
  case round =>
    clear HN HB0
    obtain ⟨j, hj, rfl, hB, hbr⟩ := hrel
    have HB := Lib.hid hB
    have HBr := Lib.hid hbr
    have hbs := hbr.size
    clear hB hbr
    by_cases hlt : j < s.size
    · have i1 : (0 : Int) ≤ (j : Int) := Int.natCast_nonneg j
      have i2 : (j : Int) < (s.size : Int) := by omega
      have HS := Lib.hid (dblL_snoc s j hlt)
      have hln := dblL_take s j
      have HW1 : Hid (Calls Tryz.prog 68 #[.pointer (some ⟨w.heap.size, 0, none⟩), .int .u8 s[j].toNat] wr fun e w' => e = .returned .nilIface ∧ Bld w.heap.size w.heap.size (dblL ((bts s).take j) ++ [s[j]]) w' ∧ Below w.heap.size wr w') := Lib.hid (wbyte_any _ _ _ _ wr HB.out (by omega) hbs)
      have HW2 : Hid (∀ W, Bld w.heap.size w.heap.size (dblL ((bts s).take j) ++ [s[j]]) W → w.heap.size ≤ W.heap.size → Calls Tryz.prog 68 #[.pointer (some ⟨w.heap.size, 0, none⟩), .int .u8 s[j].toNat] W fun e w' => e = .returned .nilIface ∧ Bld w.heap.size w.heap.size (dblL ((bts s).take j) ++ [s[j]] ++ [s[j]]) w' ∧ Below w.heap.size W w') := Lib.hid fun W h1 h2 => wbyte_any _ _ _ _ W h1 (by rw [List.length_append]; simp; omega) h2
      have HIx : Hid (∀ W, Calls Tryz.prog 48 #[.string vowB, .int .u8 s[j].toNat] W fun e w' => e = .returned (.int .i64 (Lib.indexByte (bts vowB) s[j])) ∧ w' = W) := Lib.hid fun W => by
        have h := Tryz.strings_IndexByte vowB (s[j].toNat : Int) W
        rw [head_byte] at h
        exact h
      have HIv : Hid (isVow s[j] = decide (0 ≤ Lib.indexByte (bts vowB) s[j])) := Lib.hid (idxByte _ _).symm
      generalize Lib.indexByte (bts vowB) s[j] = X at *
      generalize isVow s[j] = VW at *
      generalize dblL ((bts s).take j) = L at *
      generalize ec : s[j] = c at *
      unfold vowB at HIx
      go_wp2_with fail
      refine HW1.out.mono ?_
      clear HW1
      rintro e w1 ⟨rfl, hB1, hb1⟩
      have HB1 := Lib.hid hB1
      have HBr1 := Lib.hid (HBr.out.trans hb1)
      clear hB1 hb1
      go_wp2_with fail
      refine (HIx.out w1).mono ?_
      clear HIx
      rintro e w2 ⟨rfl, rfl⟩
      by_cases hx : 0 ≤ X
      · have HS2 : Hid (dblL ((bts s).take (j + 1)) = L ++ [c] ++ [c]) := Lib.hid (by rw [HS.out, HIv.out, decide_eq_true hx, if_pos rfl])
        have HW3 := Lib.hid (HW2.out w2 HB1.out HBr1.out.size)
        clear HS HIv HW2
        go_wp2_with fail
        refine HW3.out.mono ?_
        clear HW3
        rintro e w3 ⟨rfl, hB3, hb3⟩
        have HB3 := Lib.hid hB3
        have HBr3 := Lib.hid (HBr1.out.trans hb3)
        clear hB3 hb3
        go_wp2_with fail
        go_roundw
        case rel => exact ⟨j + 1, by omega, by go_num, by rw [HS2.out]; exact HB3.out, HBr3.out⟩
        case measure => simp [intOf]; omega
      · have HS2 : Hid (dblL ((bts s).take (j + 1)) = L ++ [c]) := Lib.hid (by rw [HS.out, HIv.out, decide_eq_false hx, if_neg (by decide)])
        clear HS HIv HW2
        go_wp2_with fail
        go_roundw
        case rel => exact ⟨j + 1, by omega, by go_num, by rw [HS2.out]; exact HB1.out, HBr1.out⟩
        case measure => simp [intOf]; omega
    · obtain rfl : j = s.size := by omega
      have et : (bts s).take s.size = bts s := List.take_of_length_le (by rw [bts_len]; exact Nat.le_refl _)
      rw [et] at HB
      have HT := Lib.hid (bld_text HB.out hbs)
      clear HB et
      go_wp2_with fail
      refine HT.out.mono ?_
      clear HT
      rintro e w1 ⟨rfl, hb1⟩
      have HBr1 := Lib.hid (HBr.out.trans hb1)
      clear hb1
      go_wp2_with fail
      go_ret
      exact ⟨rfl, HBr1.out⟩
def textP (s : ByteArray) : ByteArray := (⟨#[91]⟩ : ByteArray) ++ str (dblL (bts s)) ++ (⟨#[93]⟩ : ByteArray)
end Go.Proofs.YtjdfpoppimcikaaGreatDoor
/- Plainly: a message without what is not looked at; what it would look like. -/

namespace Go.Proofs.YtjdfpoppimcikaaGreatDoor
open Go.RowKit

section
variable {β : Type} (g : List β → List β)
def clnX (x : NdF β) : NdF β := ⟨x.kind, if x.kind = 6 then ByteArray.empty else x.text, if x.kind = 4 then x.off else 0, (casesR x).map fun c => (c.1, g c.2)⟩
/-- what is made of a clean node -/
def louX (x : NdF β) : NdF β := ⟨x.kind, if x.kind = 1 then str (dblL (bts x.text)) else x.text, x.off, x.cases.map fun c => (c.1, g c.2)⟩
/-- what is made of a node at once -/
def pseX (x : NdF β) : NdF β := ⟨x.kind, if x.kind = 6 then ByteArray.empty else if x.kind = 1 then str (dblL (bts x.text)) else x.text, if x.kind = 4 then x.off else 0, (casesR x).map fun c => (c.1, g c.2)⟩
theorem casesR_clnX (x : NdF β) : casesR (clnX g x) = (casesR x).map fun c => (c.1, g c.2) := by
  show (if hasCases x.kind then (casesR x).map fun c => (c.1, g c.2) else []) = _
  split
  · rfl
  · rename_i h
    unfold casesR
    rw [if_neg h]; rfl
theorem louX_clnX (p c : List β → List β) (x : NdF β) : louX p (clnX c x) = pseX (fun l => p (c l)) x := by
  unfold louX pseX clnX
  simp only [NdF.mk.injEq, true_and]
  refine ⟨?_, ?_⟩
  · by_cases h1 : x.kind = 1
    · rw [if_pos h1, if_pos h1, if_neg (by omega), if_neg (by omega)]
    · rw [if_neg h1, if_neg h1]
  · rw [List.map_map]; rfl
theorem pseX_clnX (p c : List β → List β) (x : NdF β) : pseX p (clnX c x) = pseX (fun l => p (c l)) x := by
  unfold pseX
  rw [casesR_clnX]
  unfold clnX
  simp only [NdF.mk.injEq, true_and]
  refine ⟨?_, ?_, ?_⟩
  · by_cases h6 : x.kind = 6
    · rw [if_pos h6, if_pos h6]
    · rw [if_neg h6, if_neg h6, if_neg h6]
  · split <;> rfl
  · rw [List.map_map]; rfl
theorem pseX_congr {p q : List β → List β} {x : NdF β} (h : ∀ c ∈ casesR x, p c.2 = q c.2) : pseX p x = pseX q x := by
  unfold pseX
  simp only [NdF.mk.injEq, true_and]
  exact List.map_congr_left fun c hc => by rw [h c hc]
end
def cleanN : (n : Nat) → List (Nd n) → List (Nd n)
  | 0, _ => []
  | n + 1, m => (m : List (NdF (Nd n))).map (clnX (cleanN n))
def psoN : (n : Nat) → List (Nd n) → List (Nd n)
  | 0, _ => []
  | n + 1, m => ((m : List (NdF (Nd n))).map (clnX (cleanN n))).map (louX (psoN n))
def pseN : (n : Nat) → List (Nd n) → List (Nd n)
  | 0, _ => []
  | n + 1, m => (m : List (NdF (Nd n))).map (pseX (pseN n))
theorem mapmap {α β γ : Type} {F : β → γ} {G : α → β} {H : α → γ} (m : List α) (h : ∀ x, F (G x) = H x) : (m.map G).map F = m.map H := by
  rw [List.map_map]
  exact List.map_congr_left fun x _ => h x
theorem pse_same : (n : Nat) → (m : List (Nd n)) → psoN n m = pseN n m ∧ pseN n (cleanN n m) = pseN n m
  | 0, _ => ⟨rfl, rfl⟩
  | n + 1, m => by
    have h1 : ∀ l, psoN n (cleanN n l) = pseN n l := fun l => by rw [(pse_same n _).1, (pse_same n l).2]
    refine ⟨?_, ?_⟩
    · refine mapmap (m : List (NdF (Nd n))) fun x => ?_
      exact (louX_clnX (psoN n) (cleanN n) x).trans (pseX_congr fun c _ => h1 c.2)
    · refine mapmap (m : List (NdF (Nd n))) fun x => ?_
      exact (pseX_clnX (pseN n) (cleanN n) x).trans (pseX_congr fun c _ => (pse_same n c.2).2)
theorem casesR_len {β : Type} (x : NdF β) : (casesR x).length ≤ x.cases.length := by
  unfold casesR
  split
  · exact Nat.le_refl _
  · exact Nat.zero_le _
theorem clean_in : (n : Nat) → (m : List (Nd n)) → MsgIn n m → MsgIn n (cleanN n m)
  | 0, _, _ => ⟨Nat.zero_le _, fun x hx => nomatch hx⟩
  | n + 1, m, h => by
    have hl : ((m : List (NdF (Nd n))).map (clnX (cleanN n))).length = m.length := List.length_map _
    refine ⟨?_, fun x hx => ?_⟩
    · show ((m : List (NdF (Nd n))).map (clnX (cleanN n))).length ≤ _
      rw [hl]; exact h.len
    · obtain ⟨y, hy, rfl⟩ := List.mem_map.1 (show x ∈ (m : List (NdF (Nd n))).map (clnX (cleanN n)) from hx)
      have h1 : smallF (SmallN n) y := h.each y hy
      show smallF (SmallN n) (clnX (cleanN n) y)
      refine ⟨?_, ?_, fun c hc => ?_⟩
      · show (if y.kind = 6 then ByteArray.empty else y.text).size ≤ _
        split
        · exact Nat.zero_le _
        · exact h1.1
      · show ((casesR y).map _).length ≤ _
        rw [List.length_map]
        exact Nat.le_trans (casesR_len y) h1.2.1
      · obtain ⟨d, hd, rfl⟩ := List.mem_map.1 (show c ∈ (casesR y).map (fun c => (c.1, cleanN n c.2)) from hc)
        have h2 := h1.2.2 d (casesR_sub hd)
        have h3 := clean_in n d.2 (h.body hy (casesR_sub hd))
        exact ⟨h2.1, h3.len, h3.each⟩
end Go.Proofs.YtjdfpoppimcikaaGreatDoor
/- linguisterref2.KeyFault. -/

namespace Go.Proofs.YtjdfpoppimcikaaGreatDoor
open Go.RowKit

end Go.Proofs.YtjdfpoppimcikaaGreatDoor
/- linguisterref2.Large: the walk; at any depth. -/

namespace Go.Proofs.YtjdfpoppimcikaaGreatDoor
open Go.RowKit

end Go.Proofs.YtjdfpoppimcikaaGreatDoor
/- linguisterref2.NodeFault: the walk. -/

namespace Go.Proofs.YtjdfpoppimcikaaGreatDoor
open Go.RowKit

def c5 (k : Int) (mark : Bool) : Bool := (decide (k < 1) || decide (6 < k)) || (k == 6 && !mark)
def c7 (k : Int) (t : ByteArray) (last : Option Int) : Bool := k == 1 && (t.toList.isEmpty || (match last with | none => false | some l => l == 1))
def c9 (k : Int) (t : ByteArray) : Bool := (!(k == 1) && !(k == 6)) && !nameR t
def c11 (k o : Int) : Bool := k == 4 && (decide (o < 0) || decide (9 < o))
theorem fineM_c (k : Int) (t : ByteArray) (last : Option Int) (mark : Bool) : fineM k t last mark = !(c5 k mark || c7 k t last || c9 k t) := by
  unfold fineM c5 c7 c9
  by_cases h1 : k = 1
  · subst h1
    rw [if_pos rfl]
    cases t.toList.isEmpty <;> cases mark <;> (rcases last with _ | l) <;> simp <;> rfl
  · rw [if_neg h1]
    by_cases h : k = 2 ∨ k = 3 ∨ k = 4 ∨ k = 5
    · rw [if_pos h]
      rcases h with rfl | rfl | rfl | rfl <;> cases nameR t <;> simp
    · rw [if_neg h]
      by_cases h6 : k = 6
      · subst h6
        cases mark <;> simp
      · have e1 : (k == 6) = false := by rw [beq_eq_false_iff_ne]; exact h6
        have e2 : (decide (k < 1) || decide (6 < k)) = true := by simp; omega
        rw [e1, e2]; simp
theorem c11_iff (k o : Int) : c11 k o = true ↔ k = 4 ∧ (o < 0 ∨ 9 < o) := by unfold c11; simp
theorem lastK_none {β : Type} (m : List (NdF β)) : lastK (m.take 0) = none := rfl
end Go.Proofs.YtjdfpoppimcikaaGreatDoor
/- linguisterref2.NodeFault at any depth; MsgFault: what the code's Check tells. -/

namespace Go.Proofs.YtjdfpoppimcikaaGreatDoor
open Go.RowKit

end Go.Proofs.YtjdfpoppimcikaaGreatDoor
/- linguisterref2.Clean. -/

namespace Go.Proofs.YtjdfpoppimcikaaGreatDoor
open Go.RowKit

theorem info_node : (Tryz.prog.info? 30).map (fun i => (i.zero, i.size, i.bytes)) = some (some (.agg #[.int .i64 0, .string ByteArray.empty, .int .i64 0, .slice none 0 0]), 4, 56) := by kernel_rfl
theorem info_case : (Tryz.prog.info? 76).map (fun i => (i.zero, i.size, i.bytes)) = some (some (.agg #[.string ByteArray.empty, .slice none 0 0]), 2, 40) := by kernel_rfl
theorem two_newsC (W : World) (a b : Value) (t : TypeId) : ∀ q u, ([a, b] : List Value)[q]? = some u → (W.alloc (.cells #[a, b] t)).cell? ⟨W.heap.size, 0 + q, none⟩ = some u := fun q u hq => by
  rw [Nat.zero_add, (Blk.new W t #[a, b]).cell q]; simpa using hq
theorem four_newsC (W : World) (a b c d : Value) (t : TypeId) : ∀ q u, ([a, b, c, d] : List Value)[q]? = some u → (W.alloc (.cells #[a, b, c, d] t)).cell? ⟨W.heap.size, 0 + q, none⟩ = some u := fun q u hq => by
  rw [Nat.zero_add, (Blk.new W t #[a, b, c, d]).cell q]; simpa using hq
end Go.Proofs.YtjdfpoppimcikaaGreatDoor
