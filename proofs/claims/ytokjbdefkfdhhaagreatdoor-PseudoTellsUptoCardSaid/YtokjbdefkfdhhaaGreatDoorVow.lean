/- pseudo.doubled, pseudo.Text; linguisterref2.Vowels. -/
import Derived.Test.YtokjbdefkfdhhaaGreatDoorBldM
namespace Go.Proofs.YtokjbdefkfdhhaaGreatDoor
open Go.RowKit

theorem str_app' (a b : List UInt8) : str (a ++ b) = str a ++ str b := bts_inj (by simp [bts, str, ByteArray.data_append])
theorem str_app2' (a b c : List UInt8) : str (a ++ b ++ c) = str a ++ str b ++ str c := by rw [str_app', str_app']
def vowB : ByteArray := ⟨#[97, 101, 105, 111, 117, 65, 69, 73, 79, 85]⟩
def isVow (c : UInt8) : Bool := (bts vowB).contains c
def dblL (l : List UInt8) : List UInt8 := l.flatMap fun c => if isVow c then [c, c] else [c]
theorem dblL_len (l : List UInt8) : (dblL l).length ≤ 2 * l.length := by
  induction l with
  | nil => exact Nat.le_refl _
  | cons a l ih =>
    unfold dblL at *
    rw [List.flatMap_cons, List.length_append, List.length_cons]
    have : (if isVow a then [a, a] else [a]).length ≤ 2 := by split <;> simp
    omega
theorem dblL_snoc (s : ByteArray) (j : Nat) (h : j < s.size) : dblL ((bts s).take (j + 1)) = if isVow s[j] then dblL ((bts s).take j) ++ [s[j]] ++ [s[j]] else dblL ((bts s).take j) ++ [s[j]] := by
  have e : (bts s).take (j + 1) = (bts s).take j ++ [s[j]] := by
    rw [List.take_add_one, List.getElem?_eq_getElem (by rw [bts_len]; exact h), bts_get s j h]; rfl
  rw [e]
  unfold dblL
  rw [List.flatMap_append]
  cases h : isVow s[j] <;> simp [h]
theorem dblL_take (s : ByteArray) (j : Nat) : (dblL ((bts s).take j)).length ≤ 2 * j := by
  have := dblL_len ((bts s).take j)
  have h : ((bts s).take j).length ≤ j := List.length_take_le ..
  omega
set_option maxHeartbeats 1600000 in
set_option maxRecDepth 100000 in
theorem doubled_any (s : ByteArray) (w : World) (hs : s.size ≤ 1000000000) :
    Calls Tryz.prog 17 #[.string s] w fun e w' => e = .returned (.string (str (dblL (bts s)))) ∧ Below w.heap.size w w' := by
  have HN := Lib.hid (bld_new w)
  have HB0 := Lib.hid ((Below.refl w.heap.size w).alloc (Nat.le_refl _) (.cells #[.pointer none, .slice none 0 0] 69))
  go_enter Tryz.func17, Tryz.ntmps17
  go_wp2_with fail
  go_loopw [4, 7] (fun _ i wr => ∃ j : Nat, j ≤ s.size ∧ i = .int .i64 j ∧ Bld w.heap.size w.heap.size (dblL ((bts s).take j)) wr ∧ Below w.heap.size w wr) (fun _ i _ => s.size - (intOf i).toNat)
  case atStart => exact ⟨0, Nat.zero_le _, rfl, HN.out, HB0.out⟩
  case round =>
    clear HN HB0
    obtain ⟨j, hj, rfl, hB, hbr⟩ := hrel
    have HB := Lib.hid hB
    have HBr := Lib.hid hbr
    have hbs := hbr.size
    clear hB hbr
    by_cases hlt : j < s.size
    · have i1 : (0 : Int) ≤ (j : Int) := Int.natCast_nonneg j
      have i2 : (j : Int) < (s.size : Int) := by omega
      have HS := Lib.hid (dblL_snoc s j hlt)
      have hln := dblL_take s j
      have HW1 : Hid (Calls Tryz.prog 28 #[.pointer (some ⟨w.heap.size, 0, none⟩), .int .u8 s[j].toNat] wr fun e w' => e = .returned .nilIface ∧ Bld w.heap.size w.heap.size (dblL ((bts s).take j) ++ [s[j]]) w' ∧ Below w.heap.size wr w') := Lib.hid (wbyte_any _ _ _ _ wr HB.out (by omega) hbs)
      have HW2 : Hid (∀ W, Bld w.heap.size w.heap.size (dblL ((bts s).take j) ++ [s[j]]) W → w.heap.size ≤ W.heap.size → Calls Tryz.prog 28 #[.pointer (some ⟨w.heap.size, 0, none⟩), .int .u8 s[j].toNat] W fun e w' => e = .returned .nilIface ∧ Bld w.heap.size w.heap.size (dblL ((bts s).take j) ++ [s[j]] ++ [s[j]]) w' ∧ Below w.heap.size W w') := Lib.hid fun W h1 h2 => wbyte_any _ _ _ _ W h1 (by rw [List.length_append]; simp; omega) h2
      have HIx : Hid (∀ W, Calls Tryz.prog 29 #[.string vowB, .int .u8 s[j].toNat] W fun e w' => e = .returned (.int .i64 (Lib.indexByte (bts vowB) s[j])) ∧ w' = W) := Lib.hid fun W => by
        have h := Tryz.strings_IndexByte vowB (s[j].toNat : Int) W
        rw [head_byte] at h
        exact h
      have HIv : Hid (isVow s[j] = decide (0 ≤ Lib.indexByte (bts vowB) s[j])) := Lib.hid (idxByte _ _).symm
      generalize Lib.indexByte (bts vowB) s[j] = X at *
      generalize isVow s[j] = VW at *
      generalize dblL ((bts s).take j) = L at *
      generalize ec : s[j] = c at *
      unfold vowB at HIx
      go_wp2_with fail
      refine HW1.out.mono ?_
      clear HW1
      rintro e w1 ⟨rfl, hB1, hb1⟩
      have HB1 := Lib.hid hB1
      have HBr1 := Lib.hid (HBr.out.trans hb1)
      clear hB1 hb1
      go_wp2_with fail
      refine (HIx.out w1).mono ?_
      clear HIx
      rintro e w2 ⟨rfl, rfl⟩
      by_cases hx : 0 ≤ X
      · have HS2 : Hid (dblL ((bts s).take (j + 1)) = L ++ [c] ++ [c]) := Lib.hid (by rw [HS.out, HIv.out, decide_eq_true hx, if_pos rfl])
        have HW3 := Lib.hid (HW2.out w2 HB1.out HBr1.out.size)
        clear HS HIv HW2
        go_wp2_with fail
        refine HW3.out.mono ?_
        clear HW3
        rintro e w3 ⟨rfl, hB3, hb3⟩
        have HB3 := Lib.hid hB3
        have HBr3 := Lib.hid (HBr1.out.trans hb3)
        clear hB3 hb3
        go_wp2_with fail
        go_roundw
        case rel => exact ⟨j + 1, by omega, by go_num, by rw [HS2.out]; exact HB3.out, HBr3.out⟩
        case measure => simp [intOf]; omega
      · have HS2 : Hid (dblL ((bts s).take (j + 1)) = L ++ [c]) := Lib.hid (by rw [HS.out, HIv.out, decide_eq_false hx, if_neg (by decide)])
        clear HS HIv HW2
        go_wp2_with fail
        go_roundw
        case rel => exact ⟨j + 1, by omega, by go_num, by rw [HS2.out]; exact HB1.out, HBr1.out⟩
        case measure => simp [intOf]; omega
    · obtain rfl : j = s.size := by omega
      have et : (bts s).take s.size = bts s := List.take_of_length_le (by rw [bts_len]; exact Nat.le_refl _)
      rw [et] at HB
      have HT := Lib.hid (bld_text HB.out hbs)
      clear HB et
      go_wp2_with fail
      refine HT.out.mono ?_
      clear HT
      rintro e w1 ⟨rfl, hb1⟩
      have HBr1 := Lib.hid (HBr.out.trans hb1)
      clear hb1
      go_wp2_with fail
      go_ret
      exact ⟨rfl, HBr1.out⟩
def textP (s : ByteArray) : ByteArray := (⟨#[91]⟩ : ByteArray) ++ str (dblL (bts s)) ++ (⟨#[93]⟩ : ByteArray)
set_option maxHeartbeats 1600000 in
set_option maxRecDepth 100000 in
theorem pstext_any (s : ByteArray) (w : World) (hs : s.size ≤ 1000000000) :
    Calls Tryz.prog 8 #[.string s] w fun e w' => e = .returned (.string (textP s)) ∧ Below w.heap.size w w' := by
  have HD := Lib.hid (doubled_any s w hs)
  have hln := dblL_len (bts s)
  have hz : (str (dblL (bts s))).size = (dblL (bts s)).length := by rw [← bts_len]; rfl
  rw [bts_len] at hln
  have HT : Hid (textP s = (⟨#[91]⟩ : ByteArray) ++ str (dblL (bts s)) ++ (⟨#[93]⟩ : ByteArray)) := Lib.hid rfl
  rw [HT.out]
  clear HT
  rw [← hz] at hln
  clear hz
  generalize str (dblL (bts s)) = D at *
  have q1 : ¬ (9223372036854775807 < 1 + D.size) := by omega
  have q2 : ¬ (9223372036854775807 < 1 + D.size + 1) := by omega
  go_enter Tryz.func8, Tryz.ntmps8
  go_wp2_with fail
  refine HD.out.mono ?_
  clear HD
  rintro e w1 ⟨rfl, hb⟩
  have HB := Lib.hid hb
  clear hb
  go_wp2_with fail
  go_ret
  exact ⟨rfl, HB.out⟩
set_option maxHeartbeats 1600000 in
set_option maxRecDepth 100000 in
theorem vowels_any (s : ByteArray) (w : World) (hs : s.size ≤ 1000000000) :
    Calls Tryz.prog 14 #[.string s] w fun e w' => e = .returned (.string (str (dblL (bts s)))) ∧ ∃ n, w' = w.drewN n := by
  go_enter Tryz.func14, Tryz.ntmps14
  go_wp2_with fail
  go_loopw [3, 4] (fun o i wr => ∃ j : Nat, j ≤ s.size ∧ i = .int .i64 j ∧ o = .string (str (dblL ((bts s).take j))) ∧ ∃ n, wr = w.drewN n) (fun _ i _ => s.size - (intOf i).toNat)
  case atStart => exact ⟨0, Nat.zero_le _, rfl, rfl, 0, rfl⟩
  case round =>
    obtain ⟨j, hj, rfl, rfl, n, rfl⟩ := hrel
    by_cases hlt : j < s.size
    · have i1 : (0 : Int) ≤ (j : Int) := Int.natCast_nonneg j
      have i2 : (j : Int) < (s.size : Int) := by omega
      have hw : wrap64 ((j : Int) + 1) = (j : Int) + 1 := by unfold wrap64; omega
      have hln := dblL_take s j
      have hz : (str (dblL ((bts s).take j))).size = (dblL ((bts s).take j)).length := by rw [← bts_len]; rfl
      have hx1 : s.extract j (j + 1) = str [s[j]] := by
        apply bts_inj
        rw [bts_extract, List.take_add_one, List.getElem?_eq_getElem (by rw [bts_len]; exact hlt), bts_get s j hlt, List.drop_append_of_le_length (by rw [List.length_take, bts_len]; omega), List.drop_of_length_le (by rw [List.length_take, bts_len]; omega)]
        rfl
      have HS : Hid (str (dblL ((bts s).take (j + 1))) = if isVow s[j] then str (dblL ((bts s).take j)) ++ s.extract j (j + 1) ++ s.extract j (j + 1) else str (dblL ((bts s).take j)) ++ s.extract j (j + 1)) := Lib.hid (by
        rw [dblL_snoc s j hlt, hx1]
        cases isVow s[j]
        · exact str_app' _ _
        · exact str_app2' _ _ _)
      have hxs : (s.extract j (j + 1)).size = 1 := by rw [hx1]; rfl
      have HO : Hid (∀ W, Calls Tryz.prog 23 #[.string (s.extract j (j + 1)), .string vowB, .int .i64 (1 : Nat), .int .i64 (1 : Nat)] W fun e w' => e = .returned (.bool (isVow s[j])) ∧ ∃ n, w' = W.drewN n) := Lib.hid fun W => by
        have h := only_any (s.extract j (j + 1)) vowB 1 1 W (by omega) (by decide) (by decide) (by decide)
        have e : onlyB (s.extract j (j + 1)) vowB 1 1 = isVow s[j] := by
          unfold onlyB isVow
          rw [hx1]
          show ((bts (str [s[j]])).all _ && _) = _
          rw [bts_str]
          simp [str]
          exact fun _ => ⟨rfl, rfl⟩
        rwa [e] at h
      rw [hz.symm] at hln
      clear hz hx1
      generalize isVow s[j] = VW at *
      generalize ex : s.extract j (j + 1) = X at *
      generalize str (dblL ((bts s).take j)) = D at *
      have q1 : ¬ (9223372036854775807 < D.size + X.size) := by omega
      have q2 : ¬ (9223372036854775807 < (D ++ X).size + X.size) := by rw [ByteArray.size_append]; omega
      have q3 : ¬ (9223372036854775807 < D.size + X.size + X.size) := by omega
      unfold vowB at HO
      clear hln hxs
      go_wp2_with fail
      refine (HO.out _).mono ?_
      clear HO
      rintro e w1 ⟨rfl, n1, rfl⟩
      cases VW with
      | true =>
        have HS2 : Hid (str (dblL ((bts s).take (j + 1))) = D ++ X ++ X) := Lib.hid (by rw [HS.out, if_pos rfl])
        clear HS
        go_wp2_with fail
        go_roundw
        case rel => exact ⟨j + 1, by omega, by go_num, by rw [HS2.out], n + n1, by simp⟩
        case measure => simp [intOf]; omega
      | false =>
        have HS2 : Hid (str (dblL ((bts s).take (j + 1))) = D ++ X) := Lib.hid (by rw [HS.out, if_neg (by decide)])
        clear HS
        go_wp2_with fail
        go_roundw
        case rel => exact ⟨j + 1, by omega, by go_num, by rw [HS2.out], n + n1, by simp⟩
        case measure => simp [intOf]; omega
    · obtain rfl : j = s.size := by omega
      have et : (bts s).take s.size = bts s := List.take_of_length_le (by rw [bts_len]; exact Nat.le_refl _)
      rw [et]
      clear et
      go_wp2_with fail
      go_ret
      exact ⟨rfl, n, rfl⟩
end Go.Proofs.YtokjbdefkfdhhaaGreatDoor
