/- linguisterlaw5.EvalOwn. -/
import Derived.Test.YtjdfpoppimcikaaGreatDoorSayB
import Derived.Test.YtjdfpoppimcikaaGreatDoorTold
import Derived.Test.YtjdfpoppimcikaaGreatDoorAppend
namespace Go.Proofs.YtjdfpoppimcikaaGreatDoor
open Go.RowKit

def factS : List (Nd 1) := [(⟨1, ⟨#[97]⟩, 0, []⟩ : NdF (Nd 0))]
theorem factS_in : SayIn 1 factS [] := ⟨by decide, by decide, fun a ha => absurd ha (List.not_mem_nil), fun a ha => absurd ha (List.not_mem_nil)⟩
theorem factS_said : sayS 1 factS ⟨#[101, 110]⟩ [] = ([97], 0) := by decide +kernel
theorem factS_ok (w : World) : ListOk (Enc.node 1) (w.alloc (.cells #[.int .i64 1, .string ⟨#[97]⟩, .int .i64 0, .slice none 0 0] 30)) 0 (w.heap.size + 1) (.slice (some ⟨w.heap.size, 0, none⟩) 1 1) factS := by
  refine ⟨some ⟨w.heap.size, 0, none⟩, 1, rfl, Nat.le_refl _, fun i hi => ?_⟩
  obtain rfl : i = 0 := by have : factS.length = 1 := rfl; omega
  refine ⟨w.heap.size, 0, [.int .i64 1, .string ⟨#[97]⟩, .int .i64 0, .slice none 0 0], rfl, Nat.zero_le _, Nat.lt_succ_self _, ?_, ⟨.slice none 0 0, rfl, ListOk.nil 0 none⟩⟩
  intro j u hj
  have h := (Blk.new w 30 #[.int .i64 1, .string ⟨#[97]⟩, .int .i64 0, .slice none 0 0]).cell j
  have e : 0 + 0 * (Enc.node 1).sz + j = j := by omega
  rw [e, h]; simpa using hj
def HasA (W : World) (g n : Nat) : Prop := ∃ cs, Blk W g 35 cs ∧ n ≤ cs.size
theorem hasA_of_own {W : World} {base : Nat} {A : Option Addr} {n c : Nat} {xs : List Value} (h : W.ownsRow base 35 5 (.slice A n c) n xs) (hn : 0 < n) : ∃ g, A = some ⟨g, 0, none⟩ ∧ base ≤ g ∧ g < W.heap.size ∧ HasA W g (n * 5) := by
  obtain ⟨_, ⟨_, h0⟩ | ⟨g, cap, cur, hv, hb, hh, hc, hm, hcs, ht⟩⟩ := h
  · omega
  · injection hv with hv1 _ hv3
    have : n * 5 ≤ cap * 5 := Nat.mul_le_mul_right _ hc
    exact ⟨g, hv1, hb, Blk.lt (t := 35) (cs := cur) hh, cur, hh, by omega⟩
set_option maxHeartbeats 6400000 in
set_option maxRecDepth 100000 in
theorem evalOwn_any (n : Nat) (m : List (Nd n)) (v : Value) (lang : ByteArray) (args : List ArgV) (vA : Value) (x : ByteArray) (w : World) (hi : SayIn n m args) (hL : lang.size ≤ maxLen) (hv : ListOk (Enc.node n) w 0 w.heap.size v m) (hA : ListOk Enc.argV w 0 w.heap.size vA args) (hV : EvV w) (hE : ErrVar w) :
    Calls Tryz.prog 3 #[v, .string lang, vA, .string x] w fun e w' => e = .returned (.bool true) ∧ Below w.heap.size w w' := by
  obtain ⟨A, c, rfl, _⟩ := hA.form
  obtain ⟨Av, cv, rfl, _⟩ := hv.form
  obtain ⟨W1, eW1⟩ : ∃ W1, W1 = w.alloc (.cells #[.int .i64 1, .string ⟨#[97]⟩, .int .i64 0, .slice none 0 0] 30) := ⟨_, rfl⟩
  have hb1 : Below w.heap.size w W1 := by rw [eW1]; exact (Below.refl _ _).alloc (Nat.le_refl _) _
  have hs1 : W1.heap.size = w.heap.size + 1 := by rw [eW1]; simp
  have HF := Lib.hid (Say_any 1 factS (.slice (some ⟨w.heap.size, 0, none⟩) 1 1) ⟨#[101, 110]⟩ [] (.slice none 0 0) 0 0 W1 factS_in (by decide) (by rw [hs1, eW1]; exact factS_ok w) (ListOk.nil 0 none) (hV.below hb1))
  rw [factS_said] at HF
  have HSy : Hid (∀ W u lo, Below w.heap.size w W → ListOk Enc.argV W lo W.heap.size u args → Calls Tryz.prog 6 #[.slice Av m.length cv, .string lang, u] W fun e w' => e = .returned (.tuple #[.string (str (sayS n m lang args).1), errD (sayS n m lang args).2]) ∧ Below W.heap.size W w') := Lib.hid fun W u lo hW hu =>
    Say_any n m (.slice Av m.length cv) lang args u 0 lo W hi hL ((hv.below (Enc.node_laws n) hW).mono (Enc.node_laws n) (Nat.le_refl _) hW.size) hu (hV.below hW)
  have HAr : Hid (∀ W, Below w.heap.size w W → ListOk Enc.argV W 0 W.heap.size (.slice A args.length c) args) := Lib.hid fun W hW => (hA.below Enc.argV_laws hW).mono Enc.argV_laws (Nat.le_refl _) hW.size
  have HErr : Hid (∀ W, Below w.heap.size w W → ErrVar W) := Lib.hid fun W hW => hE.below hW hE.lt
  have hlen := hi.len
  generalize sayS n m lang args = R at *
  obtain ⟨rl, re⟩ := R
  dsimp only at HSy HF
  have HB1 := Lib.hid hb1
  have HW1 := Lib.hid eW1
  rw [errD_zero] at HF
  clear hv hV hA hi hE eW1 hb1 hL
  go_enter Tryz.func3, Tryz.ntmps3
  go_wp2_with fail
  rw [← HW1.out]
  clear HW1
  refine HF.out.mono ?_
  clear HF
  rintro e w2 ⟨rfl, hb2⟩
  have HB2 := Lib.hid (HB1.out.trans (hb2.mono (by omega)))
  have hA2 := HAr.out w2 HB2.out
  have HNews : Hid (args.length = 0 ∨ ∃ b o, A = some ⟨b, o, none⟩ ∧ ∀ j u, (flatA args)[j]? = some u → (w2.alloc (.cells #[] 35)).cell? ⟨b, o + j, none⟩ = some u) := Lib.hid (by
    rcases hA2.flatA with h0 | ⟨b, o, h1, _, h3, h4⟩
    · exact .inl h0
    · refine .inr ⟨b, o, h1, fun j u hj => ?_⟩
      have hb : Below w2.heap.size w2 (w2.alloc (.cells #[] 35)) := (Below.refl _ _).alloc (Nat.le_refl _) _
      exact (hb.cell (p := ⟨b, o + j, none⟩) h3).trans (h4 j u hj))
  have HOe : Hid ((w2.alloc (.cells #[] 35)).ownsRow w2.heap.size 35 5 (.slice (some ⟨w2.heap.size, 0, none⟩) 0 0) 0 []) := Lib.hid ⟨rfl, .inr ⟨w2.heap.size, 0, #[], rfl, Nat.le_refl _, Blk.new w2 35 #[], by omega, by unfold maxLen; omega, rfl, rfl⟩⟩
  have HOne : Hid (∀ u ∈ flatA args, u.oneCell' = true) := Lib.hid (flatA_one args)
  clear hb2 HB1 hA2
  go_wp2_with (at_builtin; refine wpList_append_any rfl _ _ 23 rfl w2.heap.size 35 Tryz.underlying23 info_argV rfl (by decide) [] rfl HOe.out (flatA args) rfl (flatA_length args) HNews.out HOne.out (by unfold maxLen; omega) (by omega) (by simp) ?_)
  intro v4 w4 hown4 hgrow4 _
  try rw [Nat.zero_add] at hown4
  try rw [List.nil_append] at hown4
  have HB24 : Hid (Below w2.heap.size w2 w4) := Lib.hid (((Below.refl w2.heap.size w2).alloc (Nat.le_refl _) _).grown hgrow4 (by simp) (fun r e => by cases e; exact Nat.le_refl _))
  have HB4 := Lib.hid (HB2.out.trans (HB24.out.mono HB2.out.size))
  have R4 := Lib.hid hown4
  obtain ⟨A4, c4, rfl, _⟩ := own_slice hown4
  have HA4 := Lib.hid (argsV_of_own (lo := 0) (hi := w4.heap.size) hown4 (Nat.zero_le _) (Nat.le_refl _))
  have HS4 := Lib.hid (HSy.out w4 _ 0 HB4.out HA4.out)
  clear hown4 hgrow4 HNews HOe HOne
  go_wp2_with fail
  refine HS4.out.mono ?_
  clear HS4
  rintro e w5 ⟨rfl, hb5⟩
  have HB5 := Lib.hid (HB4.out.trans (hb5.mono HB4.out.size))
  have R5 := Lib.hid (own_below R4.out hb5 (Nat.le_refl _))
  have HAr5 := Lib.hid (argsV_same args (.slice A4 args.length c4) (.slice A args.length c) 0 0 w5 (argsV_of_own R5.out (Nat.zero_le _) (Nat.le_refl _)) (HAr.out w5 HB5.out) (by omega))
  clear hb5 R4 HA4
  go_wp2_with fail
  refine HAr5.out.mono ?_
  clear HAr5
  rintro e w6 ⟨rfl, hb6⟩
  have HB6 := Lib.hid (HB5.out.trans (hb6.mono HB5.out.size))
  have R6 := own_below R5.out hb6 (Nat.le_refl _)
  have hs2 := HB2.out.size
  have HSh : Hid (0 < args.length → ∃ g, A4 = some ⟨g, 0, none⟩ ∧ w2.heap.size ≤ g ∧ g < w6.heap.size ∧ HasA w6 g (args.length * 5)) := Lib.hid fun h0 => hasA_of_own R6 h0
  clear hb6 R5 R6
  go_wp2_with fail
  go_loopw [15] (fun i wr => ∃ j : Nat, j ≤ args.length ∧ i = .int .i64 (j : Int) ∧ Below w.heap.size w wr ∧ (0 < args.length → ∃ g, A4 = some ⟨g, 0, none⟩ ∧ w2.heap.size ≤ g ∧ g < w6.heap.size ∧ HasA wr g (args.length * 5))) (fun i _ => args.length - (intOf i).toNat)
  case atStart => exact ⟨0, Nat.zero_le _, rfl, HB6.out, HSh.out⟩
  case round =>
    obtain ⟨j, hj, rfl, hb, hsh⟩ := hrel
    by_cases hlt : j < args.length
    · have i1 : (0 : Int) ≤ (j : Int) := Int.natCast_nonneg j
      have i2 : (j : Int) < (args.length : Int) := by omega
      obtain ⟨g, rfl, hg1, hg2, cs, hgb, hgc⟩ := hsh (by omega)
      have hx : ∀ q, q < 5 → ∃ y, wr.cell? ⟨g, j * 5 + q, none⟩ = some y := fun q hq => ⟨cs[j * 5 + q]'(by omega), (hgb.cell (j * 5 + q)).trans (Array.getElem?_eq_getElem (by omega))⟩
      obtain ⟨y0, hy0⟩ := hx 0 (by omega)
      obtain ⟨y1, hy1⟩ := hx 1 (by omega)
      obtain ⟨y2, hy2⟩ := hx 2 (by omega)
      obtain ⟨y3, hy3⟩ := hx 3 (by omega)
      obtain ⟨y4, hy4⟩ := hx 4 (by omega)
      rw [Nat.add_zero] at hy0
      have f0 := hgb.frozen (j * 5)
      have f1 := hgb.frozen (j * 5 + 1)
      have f2 := hgb.frozen (j * 5 + 2)
      have f3 := hgb.frozen (j * 5 + 3)
      have f4 := hgb.frozen (j * 5 + 4)
      have HGb := Lib.hid hgb
      have HB := Lib.hid hb
      clear hb hsh hgb hx HSh
      go_wp2_with fail
      go_roundw
      case rel =>
        refine ⟨j + 1, by omega, by go_num, ?_, fun _ => ⟨g, rfl, hg1, hg2, ?_⟩⟩
        · repeat' (with_reducible first | exact HB.out | refine Below.setCell ?_ (by show w.heap.size ≤ g; omega) _)
        · exact ⟨_, ((((HGb.out.set_ (j * 5) _).set_ (j * 5 + 1) _).set_ (j * 5 + 2) _).set_ (j * 5 + 3) _).set_ (j * 5 + 4) _, by simpa using hgc⟩
      case measure => simp [intOf]; omega
    · obtain rfl : j = args.length := by omega
      have hce : ¬ ((args.length : Int) < (args.length : Int)) := by omega
      have HB := Lib.hid hb
      have HS7 := Lib.hid (HSy.out wr (.slice A args.length c) 0 hb (HAr.out wr hb))
      clear hb hsh HSh HSy
      go_wp2_with fail
      refine HS7.out.mono ?_
      clear HS7
      rintro e w7 ⟨rfl, hb7⟩
      have HB7 := Lib.hid (HB.out.trans (hb7.mono HB.out.size))
      have hto := stold_any re re w7 (HErr.out w7 HB7.out)
      rw [show decide (re = re) = true from decide_eq_true rfl] at hto
      have HTo := Lib.hid hto
      clear hto hb7 HErr
      have h97 : (str [97]).toList = [97] := by decide +kernel
      have hkk : ((str rl).toList == (str rl).toList) = true := by simp
      generalize str rl = rs at *
      rw [errDV] at HTo
      go_wp2_with fail
      refine HTo.out.mono ?_
      clear HTo
      rintro e w8 ⟨rfl, hb8⟩
      have HB8 := Lib.hid (HB7.out.trans (hb8.mono HB7.out.size))
      clear hb8
      go_wp2_with fail
      go_ret
      exact ⟨rfl, HB8.out⟩
end Go.Proofs.YtjdfpoppimcikaaGreatDoor
