/- linguisterlaw5.NamesOwn. -/
import Derived.Test.YtokjbdefkfdhhaaGreatDoorNamesE
namespace Go.Proofs.YtokjbdefkfdhhaaGreatDoor
open Go.RowKit

def factM : List (Nd 1) := [(⟨2, ⟨#[97]⟩, 0, []⟩ : NdF (Nd 0))]
theorem fact_zero : (ofR 1 factM).1 = 0 := by decide +kernel
theorem fact_one : (ofR 1 factM).2.length = 1 := by decide +kernel
theorem fact_in : MsgIn 1 factM := ⟨by decide, fun x hx => by
  obtain rfl := List.mem_singleton.1 hx
  exact ⟨by decide, by decide, fun c hc => by cases hc⟩⟩
theorem fact_cnt : cntN 1 factM ≤ 10000000 := by decide +kernel
theorem fact_ok (w : World) : ListOk (Enc.node 1) (w.alloc (.cells #[.int .i64 2, .string ⟨#[97]⟩, .int .i64 0, .slice none 0 0] 30)) 0 (w.heap.size + 1) (.slice (some ⟨w.heap.size, 0, none⟩) 1 1) factM := by
  refine ⟨some ⟨w.heap.size, 0, none⟩, 1, rfl, Nat.le_refl _, fun i hi => ?_⟩
  obtain rfl : i = 0 := by have : factM.length = 1 := rfl; omega
  refine ⟨w.heap.size, 0, [.int .i64 2, .string ⟨#[97]⟩, .int .i64 0, .slice none 0 0], rfl, Nat.zero_le _, Nat.lt_succ_self _, ?_, ⟨.slice none 0 0, rfl, ListOk.nil 0 none⟩⟩
  intro j u hj
  have h := (Blk.new w 30 #[.int .i64 2, .string ⟨#[97]⟩, .int .i64 0, .slice none 0 0]).cell j
  have e : 0 + 0 * (Enc.node 1).sz + j = j := by omega
  rw [e, h]; simpa using hj
def HasA (W : World) (g n : Nat) : Prop := ∃ cs, Blk W g 34 cs ∧ n ≤ cs.size
theorem hasA_of_own {W : World} {base : Nat} {A : Option Addr} {n c : Nat} {xs : List Value} (h : W.ownsRow base 34 5 (.slice A n c) n xs) (hn : 0 < n) : ∃ g, A = some ⟨g, 0, none⟩ ∧ base ≤ g ∧ g < W.heap.size ∧ HasA W g (n * 5) := by
  obtain ⟨_, ⟨_, h0⟩ | ⟨g, cap, cur, hv, hb, hh, hc, hm, hcs, ht⟩⟩ := h
  · omega
  · injection hv with hv1 _ hv3
    have : n * 5 ≤ cap * 5 := Nat.mul_le_mul_right _ hc
    exact ⟨g, hv1, hb, Blk.lt (t := 34) (cs := cur) hh, cur, hh, by omega⟩
set_option maxHeartbeats 6400000 in
set_option maxRecDepth 100000 in
theorem namesOwn_any (n : Nat) (m : List (Nd n)) (v : Value) (x : ByteArray) (w : World) (hm : MsgIn n m) (hc : cntN n m ≤ 10000000) (hv : ListOk (Enc.node n) w 0 w.heap.size v m) (hV : MV w) (hE : ErrVar w) :
    Calls Tryz.prog 3 #[v, .string x] w fun e w' => e = .returned (.bool true) ∧ Below w.heap.size w w' := by
  obtain ⟨W1, eW1⟩ : ∃ W1, W1 = w.alloc (.cells #[.int .i64 2, .string ⟨#[97]⟩, .int .i64 0, .slice none 0 0] 30) := ⟨_, rfl⟩
  have hb1 : Below w.heap.size w W1 := by rw [eW1]; exact (Below.refl _ _).alloc (Nat.le_refl _) _
  have hs1 : W1.heap.size = w.heap.size + 1 := by rw [eW1]; simp
  have HF := Lib.hid (Of_any 1 factM (.slice (some ⟨w.heap.size, 0, none⟩) 1 1) 0 W1 fact_in fact_cnt (by rw [hs1, eW1]; exact fact_ok w) (hV.below hb1))
  have HOf : Hid (∀ W, Below w.heap.size w W → Calls Tryz.prog 5 #[v] W fun e w' => Below W.heap.size W w' ∧ ∃ u, e = .returned (.tuple #[u, errV (ofR n m).1]) ∧ w'.ownsRow W.heap.size 34 5 u (ofR n m).2.length (flatG (ofR n m).2)) := Lib.hid fun W hW =>
    Of_any n m v 0 W hm hc ((hv.below (Enc.node_laws n) hW).mono (Enc.node_laws n) (Nat.le_refl _) hW.size) (hV.below hW)
  have HErr : Hid (∀ W, Below w.heap.size w W → ErrVar W) := Lib.hid fun W hW => hE.below hW hE.lt
  have hlen : (ofR n m).2.length ≤ 10000000 := by
    have h := allN_len n m []
    simp at h
    unfold ofR
    split
    · exact Nat.zero_le _
    · split
      · exact Nat.zero_le _
      · show (allN n m []).length ≤ _; omega
  generalize ofR n m = R at *
  obtain ⟨f, L⟩ := R
  dsimp only at HOf hlen
  have HB1 := Lib.hid hb1
  have HW1 := Lib.hid eW1
  rw [fact_zero, fact_one, errV_zero] at HF
  generalize flatG (ofR 1 factM).2 = fx at *
  clear hv hV hm hc hE eW1 hb1
  go_enter Tryz.func3, Tryz.ntmps3
  go_wp2_with fail
  rw [← HW1.out]
  clear HW1
  refine HF.out.mono ?_
  clear HF
  rintro e w2 ⟨hb2, u0, rfl, hr0⟩
  obtain ⟨A0, c0, rfl, _⟩ := own_slice hr0
  have HB2 := Lib.hid (HB1.out.trans (hb2.mono (by omega)))
  have HO2 := Lib.hid (HOf.out w2 HB2.out)
  clear hb2 hr0 HB1
  go_wp2_with fail
  refine HO2.out.mono ?_
  clear HO2
  rintro e w3 ⟨hb3, u1, rfl, hr1⟩
  obtain ⟨A1, c1, rfl, _⟩ := own_slice hr1
  have HB3 := Lib.hid (HB2.out.trans (hb3.mono HB2.out.size))
  have R1 := Lib.hid hr1
  have hs2 := HB2.out.size
  have hs3 := hb3.size
  have HNews : Hid (L.length = 0 ∨ ∃ b o, A1 = some ⟨b, o, none⟩ ∧ ∀ j u, (flatG L)[j]? = some u → (w3.alloc (.cells #[] 34)).cell? ⟨b, o + j, none⟩ = some u) := Lib.hid (by
    by_cases h0 : L.length = 0
    · exact .inl h0
    · obtain ⟨_, ⟨_, h⟩ | ⟨g, cap, cur, hv, hb, hh, hc', hm', hcs, ht⟩⟩ := hr1
      · exact absurd h h0
      · injection hv with hv1 _ _
        refine .inr ⟨g, 0, hv1, fun j u hj => ?_⟩
        have hb : Blk (w3.alloc (.cells #[] 34)) g 34 cur := Blk.alloc hh _
        rw [hb.cell, Nat.zero_add]
        rw [← ht, List.getElem?_take] at hj
        split at hj
        · simpa using hj
        · cases hj)
  have HOe : Hid ((w3.alloc (.cells #[] 34)).ownsRow w3.heap.size 34 5 (.slice (some ⟨w3.heap.size, 0, none⟩) 0 0) 0 []) := Lib.hid ⟨rfl, .inr ⟨w3.heap.size, 0, #[], rfl, Nat.le_refl _, Blk.new w3 34 #[], by omega, by unfold maxLen; omega, rfl, rfl⟩⟩
  have HOne : Hid (∀ u ∈ flatG L, u.oneCell' = true) := Lib.hid (by
    intro u hu
    obtain ⟨y, _, hy⟩ := List.mem_flatMap.1 hu
    unfold argV at hy
    simp at hy
    rcases hy with rfl | rfl | rfl | rfl <;> rfl)
  clear hb3 hr1
  go_wp2_with (at_builtin; refine wpList_append_any rfl _ _ 23 rfl w3.heap.size 34 Tryz.underlying23 info_argN rfl (by decide) [] rfl HOe.out (flatG L) rfl (flatG_length L) HNews.out HOne.out (by unfold maxLen; omega) (by omega) (by simp) ?_)
  intro v4 w4 hown4 hgrow4 _
  try rw [Nat.zero_add] at hown4
  try rw [List.nil_append] at hown4
  have HB34 : Hid (Below w3.heap.size w3 w4) := Lib.hid (((Below.refl w3.heap.size w3).alloc (Nat.le_refl _) _).grown hgrow4 (by simp) (fun r e => by cases e; exact Nat.le_refl _))
  have HB4 := Lib.hid (HB3.out.trans (HB34.out.mono HB3.out.size))
  have R4 := Lib.hid hown4
  obtain ⟨A4, c4, rfl, _⟩ := own_slice hown4
  have hs34 := HB34.out.size
  have HSh : Hid (0 < L.length → ∃ g, A1 = some ⟨g, 0, none⟩ ∧ w2.heap.size ≤ g ∧ g < w3.heap.size ∧ HasA w4 g (L.length * 5)) := Lib.hid fun h0 => by
    obtain ⟨g, e1, e2, e3, cs, e4, e5⟩ := hasA_of_own R1.out h0
    exact ⟨g, e1, e2, e3, cs, e4.below HB34.out e3, e5⟩
  clear hown4 hgrow4 HNews HOe HOne R1
  go_wp2_with fail
  go_loopw [10] (fun i wr => ∃ j : Nat, j ≤ L.length ∧ i = .int .i64 (j : Int) ∧ wr.ownsRow w3.heap.size 34 5 (.slice A4 L.length c4) L.length (flatG L) ∧ Below w.heap.size w wr ∧ (0 < L.length → ∃ g, A1 = some ⟨g, 0, none⟩ ∧ w2.heap.size ≤ g ∧ g < w3.heap.size ∧ HasA wr g (L.length * 5))) (fun i _ => L.length - (intOf i).toNat)
  case atStart => exact ⟨0, Nat.zero_le _, rfl, R4.out, HB4.out, HSh.out⟩
  case round =>
    obtain ⟨j, hj, rfl, hown, hb, hsh⟩ := hrel
    by_cases hlt : j < L.length
    · have i1 : (0 : Int) ≤ (j : Int) := Int.natCast_nonneg j
      have i2 : (j : Int) < (L.length : Int) := by omega
      obtain ⟨g, rfl, hg1, hg2, cs, hgb, hgc⟩ := hsh (by omega)
      have hx : ∃ y, wr.cell? ⟨g, j * 5, none⟩ = some y := ⟨cs[j * 5]'(by omega), (hgb.cell (j * 5)).trans (Array.getElem?_eq_getElem (by omega))⟩
      obtain ⟨y, hy⟩ := hx
      have hf := hgb.frozen (j * 5)
      have HNew : Hid ((wr.setCell ⟨g, j * 5, none⟩ (.string x)).ownsRow w3.heap.size 34 5 (.slice A4 L.length c4) L.length (flatG L) ∧ Below w.heap.size w (wr.setCell ⟨g, j * 5, none⟩ (.string x)) ∧ (0 < L.length → ∃ g', (some ⟨g, 0, none⟩ : Option Addr) = some ⟨g', 0, none⟩ ∧ w2.heap.size ≤ g' ∧ g' < w3.heap.size ∧ HasA (wr.setCell ⟨g, j * 5, none⟩ (.string x)) g' (L.length * 5))) := Lib.hid
        ⟨own_keep hown fun g' hg' _ => Below.heap_setCell _ _ _ _ (by have := (own_lt hown hg').1; show g' ≠ g; omega), hb.setCell (by show w.heap.size ≤ g; omega) _, fun _ => ⟨g, rfl, hg1, hg2, _, hgb.set_ (j * 5) (.string x), by simpa using hgc⟩⟩
      clear hown hb hsh hgb HSh
      go_wp2_with fail
      go_roundw
      case rel => exact ⟨j + 1, by omega, by go_num, HNew.out⟩
      case measure => simp [intOf]; omega
    · obtain rfl : j = L.length := by omega
      have hce : ¬ ((L.length : Int) < (L.length : Int)) := by omega
      have HB := Lib.hid hb
      have HW := Lib.hid hown
      have HOr := Lib.hid (HOf.out wr hb)
      clear hown hb hsh HSh HOf R4
      go_wp2_with fail
      refine HOr.out.mono ?_
      clear HOr
      rintro e w5 ⟨hb5, u5, rfl, hr5⟩
      obtain ⟨A5, c5, rfl, _⟩ := own_slice hr5
      have HB5 := Lib.hid (HB.out.trans (hb5.mono HB.out.size))
      have HAr := Lib.hid (args_same L (.slice A5 L.length c5) (.slice A4 L.length c4) 0 0 w5 (args_of_own hr5 (Nat.zero_le _) (Nat.le_refl _)) (args_of_own (own_below HW.out hb5 (Nat.le_refl _)) (Nat.zero_le _) (Nat.le_refl _)) hlen)
      clear hb5 hr5 HW
      go_wp2_with fail
      refine HAr.out.mono ?_
      clear HAr
      rintro e w6 ⟨rfl, hb6⟩
      have HB6 := Lib.hid (HB5.out.trans (hb6.mono HB5.out.size))
      have hto := stold_any f f w6 (HErr.out w6 HB6.out)
      rw [show decide (f = f) = true from decide_eq_true rfl] at hto
      have HTo := Lib.hid hto
      clear hto
      clear hb6 HErr
      go_wp2_with fail
      refine HTo.out.mono ?_
      clear HTo
      rintro e w7 ⟨rfl, hb7⟩
      have HB7 := Lib.hid (HB6.out.trans (hb7.mono HB6.out.size))
      clear hb7
      go_wp2_with fail
      go_ret
      exact ⟨rfl, HB7.out⟩
end Go.Proofs.YtokjbdefkfdhhaaGreatDoor
