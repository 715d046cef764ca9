/- msg.fine. -/
import Derived.Test.YtokjbdefkfdhhaaGreatDoorMsgA
namespace Go.Proofs.YtokjbdefkfdhhaaGreatDoor
open Go.RowKit

theorem ListOk.nodeAt {α : Type} {E : Enc α} {w : World} {lo hi : Nat} {A : Option Addr} {n c : Nat} {l : List (NdF α)} (h : ListOk (Enc.nodeF E) w lo hi (.slice A n c) l) (i : Nat) (hl : i < l.length) :
    ∃ b o v, A = some ⟨b, o, none⟩ ∧ lo ≤ b ∧ b < hi ∧ w.cell? ⟨b, o + i * 4, none⟩ = some (.int .i64 l[i].kind) ∧ w.cell? ⟨b, o + i * 4 + 1, none⟩ = some (.string l[i].text) ∧ w.cell? ⟨b, o + i * 4 + 2, none⟩ = some (.int .i64 l[i].off) ∧ w.cell? ⟨b, o + i * 4 + 3, none⟩ = some v ∧ ListOk (Enc.cas E) w lo hi v l[i].cases := by
  obtain ⟨A', c', hv, _, hi'⟩ := h
  injection hv with hv1 _ _
  subst hv1
  obtain ⟨b, o, cs, hA, h1, h2, h3, v, h4, h5⟩ := hi' i hl
  subst h4
  exact ⟨b, o, v, hA, h1, h2, h3 0 _ rfl, h3 1 _ rfl, h3 2 _ rfl, h3 3 _ rfl, h5⟩
theorem ListOk.casAt {α : Type} {E : Enc α} {w : World} {lo hi : Nat} {A : Option Addr} {n c : Nat} {l : List (ByteArray × List α)} (h : ListOk (Enc.cas E) w lo hi (.slice A n c) l) (i : Nat) (hl : i < l.length) :
    ∃ b o v, A = some ⟨b, o, none⟩ ∧ lo ≤ b ∧ b < hi ∧ w.cell? ⟨b, o + i * 2, none⟩ = some (.string l[i].1) ∧ w.cell? ⟨b, o + i * 2 + 1, none⟩ = some v ∧ ListOk E w lo hi v l[i].2 := by
  obtain ⟨A', c', hv, _, hi'⟩ := h
  injection hv with hv1 _ _
  subst hv1
  obtain ⟨b, o, cs, hA, h1, h2, h3, v, h4, h5⟩ := hi' i hl
  subst h4
  exact ⟨b, o, v, hA, h1, h2, h3 0 _ rfl, h3 1 _ rfl, h5⟩
def fineM (k : Int) (t : ByteArray) (last : Option Int) (mark : Bool) : Bool :=
  if k = 1 then !t.toList.isEmpty && (match last with | none => true | some l => l != 1) else if k = 2 ∨ k = 3 ∨ k = 4 ∨ k = 5 then nameR t else k == 6 && mark
set_option maxHeartbeats 3200000 in
theorem fineM_any {α : Type} {E : Enc α} (kind off : Int) (text : ByteArray) (C : Option Addr) (n c : Nat) (al : List (NdF α)) (vA : Value) (mark : Bool) (lo : Nat) (w : World) (hA : ListOk (Enc.nodeF E) w lo w.heap.size vA al) (hE : E.Laws) (ha : al.length ≤ 1000000000) :
    Calls Tryz.prog 48 #[.agg #[.int .i64 kind, .string text, .int .i64 off, .slice C n c], vA, .bool mark] w fun e w' => e = .returned (.bool (fineM kind text (al.getLast?.map (·.kind)) mark)) ∧ Below w.heap.size w w' := by
  obtain ⟨AA, Ac, rfl, _⟩ := hA.form
  obtain ⟨W1, eW1⟩ : ∃ W1, W1 = w.alloc (.cells #[.int .i64 kind, .string text, .int .i64 off, .slice C n c] 30) := ⟨_, rfl⟩
  have hb1 : Below w.heap.size w W1 := by rw [eW1]; exact (Below.refl _ _).alloc (Nat.le_refl _) _
  have m1 : Blk W1 w.heap.size 30 #[.int .i64 kind, .string text, .int .i64 off, .slice C n c] := by rw [eW1]; exact Blk.new _ _ _
  have k0 : W1.cell? ⟨w.heap.size, 0, none⟩ = some (.int .i64 kind) := (m1.cell 0).trans rfl
  have k1 : W1.cell? ⟨w.heap.size, 1, none⟩ = some (.string text) := (m1.cell 1).trans rfl
  have HB1 := Lib.hid hb1
  have HW1 := Lib.hid eW1
  have HN := Lib.hid (name_any text W1)
  have hA1 := hA.below (Enc.nodeF_laws hE) hb1
  have HR : Hid (fineM kind text (al.getLast?.map (·.kind)) mark = if kind = 1 then !text.toList.isEmpty && (match al.getLast?.map (·.kind) with | none => true | some l => l != 1) else if kind = 2 ∨ kind = 3 ∨ kind = 4 ∨ kind = 5 then nameR text else kind == 6 && mark) := Lib.hid rfl
  clear hA eW1 hb1 m1
  by_cases h1 : kind = 1
  · subst h1
    rw [if_pos rfl] at HR
    obtain ⟨T, hT⟩ : ∃ T, T = text.toList.isEmpty := ⟨_, rfl⟩
    have hT' : text.toList.isEmpty = T := hT.symm
    rw [← hT] at HR
    clear hT
    cases T with
    | true =>
      have HE : Hid (fineM 1 text (al.getLast?.map (·.kind)) mark = false) := Lib.hid (by rw [HR.out]; rfl)
      clear HR HN
      go_enter Tryz.func48, Tryz.ntmps48
      go_upto_region 1 with fail
      rw [← HW1.out]
      clear HW1
      go_wp2_with fail
      go_ret
      exact ⟨by rw [HE.out]; rfl, HB1.out⟩
    | false =>
      by_cases h0 : al.length = 0
      · obtain rfl := List.length_eq_zero_iff.1 h0
        have HE : Hid (fineM 1 text (([] : List (NdF α)).getLast?.map (·.kind)) mark = true) := Lib.hid (by rw [HR.out]; rfl)
        clear HR HN
        go_enter Tryz.func48, Tryz.ntmps48
        go_upto_region 1 with fail
        rw [← HW1.out]
        clear HW1
        go_wp2_with fail
        go_ret
        exact ⟨by rw [HE.out]; rfl, HB1.out⟩
      · obtain ⟨j, hj⟩ : ∃ j, al.length = j + 1 := ⟨al.length - 1, by omega⟩
        have hjl : j < al.length := by omega
        obtain ⟨b, o, v, rfl, _, _, x0, _, _, _, _⟩ := hA1.nodeAt j hjl
        have hl : al.getLast?.map (·.kind) = some al[j].kind := by
          rw [List.getLast?_eq_getElem?, show al.length - 1 = j from by omega, List.getElem?_eq_getElem hjl]
          rfl
        rw [hl] at HR ⊢
        generalize al[j].kind = lk at *
        have HE : Hid (fineM 1 text (some lk) mark = (lk != 1)) := Lib.hid (by rw [HR.out]; simp)
        have hz : ((al.length : Int) == 0) = false := by rw [beq_eq_false_iff_ne]; omega
        have hsub : (al.length : Int) - 1 = (j : Int) := by omega
        have i1 : (0 : Int) ≤ (j : Int) := Int.natCast_nonneg j
        have i2 : (j : Int) < (al.length : Int) := by omega
        have hw : wrap64 ((al.length : Int) - 1) = (j : Int) := by unfold wrap64; omega
        clear HR HN hA1 hl hj h0
        go_enter Tryz.func48, Tryz.ntmps48
        go_upto_region 1 with fail
        rw [← HW1.out]
        clear HW1
        go_wp2_with fail
        go_ret
        exact ⟨by rw [HE.out]; rfl, HB1.out⟩
  · rw [if_neg h1] at HR
    have q1 : (kind == 1) = false := by rw [beq_eq_false_iff_ne]; exact h1
    by_cases hm : kind = 2 ∨ kind = 3 ∨ kind = 4 ∨ kind = 5
    · rw [if_pos hm] at HR
      have HE := Lib.hid HR.out
      generalize nameR text = X at *
      clear HR hA1 q1 h1
      rcases hm with rfl | rfl | rfl | rfl
      all_goals
        go_enter Tryz.func48, Tryz.ntmps48
        go_upto_region 1 with fail
        rw [← HW1.out]
        clear HW1
        go_wp2_with fail
        refine HN.out.mono ?_
        clear HN
        rintro e w2 ⟨rfl, hb2⟩
        have HB2 := Lib.hid (HB1.out.trans (hb2.mono HB1.out.size))
        clear hb2
        go_wp2_with fail
        go_ret
        exact ⟨by rw [HE.out]; rfl, HB2.out⟩
    · rw [if_neg hm] at HR
      have q2 : (kind == 2) = false := by rw [beq_eq_false_iff_ne]; omega
      have q3 : (kind == 3) = false := by rw [beq_eq_false_iff_ne]; omega
      have q4 : (kind == 4) = false := by rw [beq_eq_false_iff_ne]; omega
      have q5 : (kind == 5) = false := by rw [beq_eq_false_iff_ne]; omega
      obtain ⟨Y, hY⟩ : ∃ Y, Y = (kind == 6) := ⟨_, rfl⟩
      have q6 : (kind == 6) = Y := hY.symm
      rw [← hY] at HR
      clear hY hm h1 HN hA1
      cases Y with
      | true =>
        have HE : Hid (fineM kind text (al.getLast?.map (·.kind)) mark = mark) := Lib.hid (by rw [HR.out]; simp)
        clear HR
        go_enter Tryz.func48, Tryz.ntmps48
        go_upto_region 1 with fail
        rw [← HW1.out]
        clear HW1
        go_wp2_with fail
        go_ret
        exact ⟨by rw [HE.out]; rfl, HB1.out⟩
      | false =>
        have HE : Hid (fineM kind text (al.getLast?.map (·.kind)) mark = false) := Lib.hid (by rw [HR.out]; rfl)
        clear HR
        go_enter Tryz.func48, Tryz.ntmps48
        go_upto_region 1 with fail
        rw [← HW1.out]
        clear HW1
        go_wp2_with fail
        go_ret
        exact ⟨by rw [HE.out]; rfl, HB1.out⟩
end Go.Proofs.YtokjbdefkfdhhaaGreatDoor
