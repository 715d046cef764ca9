/- linguisterref1.Starts, Kinds; linguisterref2.Name, Exact, CasesOf, KeyFault. -/
import Derived.Test.YtokjbdefkfdhhaaGreatDoorQNum
import Derived.Test.YtokjbdefkfdhhaaGreatDoorTagR
import Derived.Test.YtokjbdefkfdhhaaGreatDoorMsgB
namespace Go.Proofs.YtokjbdefkfdhhaaGreatDoor
open Go.RowKit

theorem one_at (s : ByteArray) (c : UInt8) (j : Nat) (hj : j < s.size) : ((s.extract j (j + 1)).toList == (⟨#[c]⟩ : ByteArray).toList) = (s[j] == c) := by
  have h1 : (s.extract j (j + 1)).toList = [s[j]] := by
    rw [ByteArray.toList_eq]
    show bts _ = _
    have hj' : j < (bts s).length := by rw [bts_len]; exact hj
    rw [bts_extract, List.take_add_one, List.getElem?_eq_getElem hj', bts_get s j hj, List.drop_append_of_le_length (by rw [List.length_take]; omega), List.drop_of_length_le (by rw [List.length_take]; omega)]
    rfl
  have h2 : (⟨#[c]⟩ : ByteArray).toList = [c] := by rw [ByteArray.toList_eq]
  rw [h1, h2]
  simp
theorem drop_at (s : ByteArray) (j : Nat) (hj : j < s.size) : (bts s).drop j = s[j] :: (bts s).drop (j + 1) := by
  have hj' : j < (bts s).length := by rw [bts_len]; exact hj
  rw [List.drop_eq_getElem_cons hj', bts_get s j hj]
set_option maxRecDepth 100000 in
set_option maxHeartbeats 800000 in
theorem starts_any (s : ByteArray) (c : UInt8) (w : World) :
    Calls Tryz.prog 56 #[.string s, .string ⟨#[c]⟩] w fun e w' => e = .returned (.bool (headQ s c)) ∧ w = w' := by
  have hsz : (⟨#[c]⟩ : ByteArray).size = 1 := rfl
  by_cases h0 : 1 ≤ s.size
  · have HE := Lib.hid (one_at s c 0 h0)
    have e0 : headQ s c = (s[0] == c) := by
      have := drop_at s 0 h0
      rw [List.drop_zero] at this
      unfold headQ
      rw [this]
    have HH := Lib.hid e0
    have he := HE.out
    rw [Nat.zero_add, ← e0] at he
    generalize headQ s c = B at *
    clear e0 HE HH
    have hd : decide (1 ≤ (s.size : Int)) = true := decide_eq_true (by omega)
    obtain ⟨p, hp⟩ : ∃ p : ByteArray, p = ⟨#[c]⟩ := ⟨_, rfl⟩
    rw [← hp] at he hsz ⊢
    clear hp
    go_enter Tryz.func56, Tryz.ntmps56
    go_wp2
    go_ret
    exact ⟨rfl, rfl⟩
  · have hz : s.size = 0 := by omega
    have e0 : headQ s c = false := by
      unfold headQ
      have : bts s = [] := List.length_eq_zero_iff.1 (by rw [bts_len]; exact hz)
      rw [this]
    rw [e0]
    clear e0
    obtain ⟨p, hp⟩ : ∃ p : ByteArray, p = ⟨#[c]⟩ := ⟨_, rfl⟩
    rw [← hp] at hsz ⊢
    clear hp
    go_enter Tryz.func56, Tryz.ntmps56
    go_wp2
    go_ret
    exact ⟨rfl, rfl⟩

/- ## Name -/
set_option maxRecDepth 100000 in
set_option maxHeartbeats 800000 in
theorem qname_any (s : ByteArray) (w : World) (hs : s.size ≤ 1000000000) :
    Calls Tryz.prog 32 #[.string s] w fun e w' => e = .returned (.bool (nameR s)) ∧ ∃ n, w' = w.drewN n := by
  have HE : Hid (nameR s = (onlyB s nameChars 1 20 && onlyB (s.extract 0 1) lowAlpha 1 1)) := Lib.hid (nameQ_eq s).symm
  have H1 : Hid (Calls Tryz.prog 23 #[.string s, .string nameChars, .int .i64 (1 : Nat), .int .i64 (20 : Nat)] w fun e w' => e = .returned (.bool (onlyB s nameChars 1 20)) ∧ ∃ n, w' = w.drewN n) := Lib.hid (only_any s nameChars 1 20 w (by omega) (by decide) (by decide) (by decide))
  have hx : (s.extract 0 1).size ≤ 1 := by rw [ByteArray.size_extract]; omega
  have H2 : Hid (∀ W, Calls Tryz.prog 23 #[.string (s.extract 0 1), .string lowAlpha, .int .i64 (1 : Nat), .int .i64 (1 : Nat)] W fun e w' => e = .returned (.bool (onlyB (s.extract 0 1) lowAlpha 1 1)) ∧ ∃ n, w' = W.drewN n) := Lib.hid fun W => only_any (s.extract 0 1) lowAlpha 1 1 W (by omega) (by decide) (by decide) (by decide)
  have hp : onlyB s nameChars 1 20 = true → 1 ≤ s.size := fun h => by unfold onlyB at h; simp at h; exact h.2.1
  generalize onlyB s nameChars 1 20 = b1 at *
  generalize onlyB (s.extract 0 1) lowAlpha 1 1 = b2 at *
  clear hx
  unfold nameChars lowAlpha at *
  cases b1 with
  | false =>
    have HR : Hid (nameR s = false) := Lib.hid (by rw [HE.out]; rfl)
    clear HE H2 hp
    go_enter Tryz.func32, Tryz.ntmps32
    go_wp2_with fail
    refine H1.out.mono ?_
    rintro e w1 ⟨rfl, n, rfl⟩
    go_wp2_with fail
    go_ret
    exact ⟨by rw [HR.out]; rfl, n, rfl⟩
  | true =>
    have h1 := hp rfl
    have h2 : (1 : Int) ≤ (s.size : Int) := by omega
    have HR : Hid (nameR s = b2) := Lib.hid (by rw [HE.out]; rfl)
    clear HE hp
    go_enter Tryz.func32, Tryz.ntmps32
    go_wp2_with fail
    refine H1.out.mono ?_
    clear H1
    rintro e w1 ⟨rfl, n, rfl⟩
    go_wp2_with fail
    refine (H2.out _).mono ?_
    clear H2
    rintro e w2 ⟨rfl, n2, rfl⟩
    go_wp2_with fail
    go_ret
    exact ⟨by rw [HR.out]; rfl, n + n2, by simp⟩

/- ## Exact -/
set_option maxRecDepth 100000 in
set_option maxHeartbeats 800000 in
theorem qexact_any (s : ByteArray) (w : World) (hs : s.size ≤ 1000000000) :
    Calls Tryz.prog 47 #[.string s] w fun e w' => e = .returned (.int .i64 (exactQ s)) ∧ Below w.heap.size w w' := by
  have HS := Lib.hid (starts_any s 61 w)
  have HE : Hid (exactQ s = if headQ s 61 = false then -1 else if 4 < s.size then -1 else refNum (tailB s)) := Lib.hid rfl
  have hp : headQ s 61 = true → 1 ≤ s.size := fun h => by
    unfold headQ at h
    rcases Nat.eq_zero_or_pos s.size with h0 | h0
    · have : bts s = [] := List.length_eq_zero_iff.1 (by rw [bts_len]; exact h0)
      rw [this] at h; cases h
    · exact h0
  generalize headQ s 61 = b at *
  cases b with
  | false =>
    have HR : Hid (exactQ s = -1) := Lib.hid (by rw [HE.out, if_pos rfl])
    clear HE hp
    go_enter Tryz.func47, Tryz.ntmps47
    go_wp2_with fail
    refine HS.out.mono ?_
    clear HS
    rintro e w1 ⟨rfl, rfl⟩
    go_wp2_with fail
    go_ret
    exact ⟨by rw [HR.out]; rfl, Below.refl _ _⟩
  | true =>
    have h1 := hp rfl
    have h2 : (1 : Int) ≤ (s.size : Int) := by omega
    clear hp
    by_cases h4 : 4 < s.size
    · have HR : Hid (exactQ s = -1) := Lib.hid (by rw [HE.out, if_neg (by decide), if_pos h4])
      have q4 : (4 : Int) < (s.size : Int) := by omega
      clear HE
      go_enter Tryz.func47, Tryz.ntmps47
      go_wp2_with fail
      refine HS.out.mono ?_
      clear HS
      rintro e w1 ⟨rfl, rfl⟩
      go_wp2_with fail
      go_ret
      exact ⟨by rw [HR.out]; rfl, Below.refl _ _⟩
    · have HR : Hid (exactQ s = refNum (bts (s.extract 1 s.size))) := Lib.hid (by
        rw [HE.out, if_neg (by decide), if_neg h4, bts_extract]
        unfold tailB
        rw [List.take_of_length_le (by rw [bts_len]; omega)])
      have q4 : ¬ ((4 : Int) < (s.size : Int)) := by omega
      have HN := Lib.hid (number_any (s.extract 1 s.size) w (by rw [ByteArray.size_extract]; omega))
      clear HE
      go_enter Tryz.func47, Tryz.ntmps47
      go_wp2_with fail
      refine HS.out.mono ?_
      clear HS
      rintro e w1 ⟨rfl, rfl⟩
      go_wp2_with fail
      refine HN.out.mono ?_
      clear HN
      rintro e w1 ⟨rfl, hb⟩
      have HB := Lib.hid hb
      clear hb
      go_wp2_with fail
      go_ret
      exact ⟨by rw [HR.out]; rfl, HB.out⟩

/- ## Kinds -/
set_option maxRecDepth 100000 in
theorem kinds_any (w : World) : Calls Tryz.prog 46 #[] w fun e w' => Below w.heap.size w w' ∧ ∃ v, e = .returned v ∧ ListOk Enc.str w' w.heap.size w'.heap.size v kinds5 := by
  go_enter Tryz.func46, Tryz.ntmps46
  go_wp2_with fail
  go_ret
  refine ⟨(Below.refl _ _).alloc (Nat.le_refl _) _, _, rfl, some ⟨w.heap.size, 0, none⟩, 5, rfl, Nat.le_refl _, fun i hi => ?_⟩
  have h := fun j => (Blk.new w 9 #[.string ⟨#[122, 101, 114, 111]⟩, .string ⟨#[111, 110, 101]⟩, .string ⟨#[116, 119, 111]⟩, .string ⟨#[102, 101, 119]⟩, .string ⟨#[109, 97, 110, 121]⟩]).cell j
  refine ⟨w.heap.size, 0, [.string kinds5[i]], rfl, Nat.le_refl _, by simp, fun j u hj => ?_, rfl⟩
  have hj0 : j = 0 := by
    rcases Nat.eq_zero_or_pos j with h | h
    · exact h
    · rw [List.getElem?_eq_none (by show 1 ≤ j; omega)] at hj; cases hj
  subst hj0
  have e1 : 0 + i * Enc.str.sz + 0 = i := by show 0 + i * 1 + 0 = i; omega
  rw [e1, h i]
  have hi5 : i < 5 := hi
  match i, hi5 with
  | 0, _ => exact hj
  | 1, _ => exact hj
  | 2, _ => exact hj
  | 3, _ => exact hj
  | 4, _ => exact hj

/- ## CasesOf -/
set_option maxRecDepth 100000 in
set_option maxHeartbeats 1600000 in
theorem casesOf_any {α : Type} {E : Enc α} (x : NdF α) (V : Value) (lo hi : Nat) (w : World) (hV : ListOk (Enc.cas E) w lo hi V x.cases) :
    Calls Tryz.prog 31 #[.agg #[.int .i64 x.kind, .string x.text, .int .i64 x.off, V]] w fun e w' => (∃ V', e = .returned V' ∧ (V' = V ∨ V' = .slice none 0 0) ∧ ListOk (Enc.cas E) w lo hi V' (casesR x)) ∧ Below w.heap.size w w' := by
  obtain ⟨VA, Vc, rfl, _⟩ := hV.form
  obtain ⟨W1, eW1⟩ : ∃ W1, W1 = w.alloc (.cells #[.int .i64 x.kind, .string x.text, .int .i64 x.off, .slice VA x.cases.length Vc] 30) := ⟨_, rfl⟩
  have hb1 : Below w.heap.size w W1 := by rw [eW1]; exact (Below.refl _ _).alloc (Nat.le_refl _) _
  have m1 : Blk W1 w.heap.size 30 #[.int .i64 x.kind, .string x.text, .int .i64 x.off, .slice VA x.cases.length Vc] := by rw [eW1]; exact Blk.new _ _ _
  have k0 : W1.cell? ⟨w.heap.size, 0, none⟩ = some (.int .i64 x.kind) := (m1.cell 0).trans rfl
  have k3 : W1.cell? ⟨w.heap.size, 3, none⟩ = some (.slice VA x.cases.length Vc) := (m1.cell 3).trans rfl
  have HB1 := Lib.hid hb1
  have HW1 := Lib.hid eW1
  have HR : Hid (casesR x = if hasCases x.kind then x.cases else []) := Lib.hid rfl
  have HV := Lib.hid hV
  clear hV eW1 hb1 m1
  go_enter Tryz.func31, Tryz.ntmps31
  go_upto_region 1 with fail
  rw [← HW1.out]
  clear HW1
  by_cases h4 : x.kind = 4
  · have q4 : (x.kind == 4) = true := by rw [h4]; rfl
    have HE : Hid (casesR x = x.cases) := Lib.hid (by rw [HR.out]; unfold hasCases; rw [h4]; rfl)
    clear HR h4
    go_wp2_with fail
    go_ret
    exact ⟨⟨_, rfl, .inl rfl, by rw [HE.out]; exact HV.out⟩, HB1.out⟩
  · have q4 : (x.kind == 4) = false := by rw [beq_eq_false_iff_ne]; exact h4
    by_cases h5 : x.kind = 5
    · have q5 : (x.kind == 5) = true := by rw [h5]; rfl
      have HE : Hid (casesR x = x.cases) := Lib.hid (by rw [HR.out]; unfold hasCases; rw [h5]; rfl)
      clear HR h5 h4
      go_wp2_with fail
      go_ret
      exact ⟨⟨_, rfl, .inl rfl, by rw [HE.out]; exact HV.out⟩, HB1.out⟩
    · have q5 : (x.kind == 5) = false := by rw [beq_eq_false_iff_ne]; exact h5
      have HE : Hid (casesR x = []) := Lib.hid (by rw [HR.out]; unfold hasCases; rw [q4, q5]; rfl)
      clear HR h5 h4
      go_wp2_with fail
      go_ret
      exact ⟨⟨_, rfl, .inr rfl, by rw [HE.out]; exact ListOk.nil 0 none⟩, HB1.out⟩
end Go.Proofs.YtokjbdefkfdhhaaGreatDoor
