/- ClockSecond's walk. -/
import Derived.Test.YtolgkepkdidjcaaClockS
namespace Go.Proofs.Ytolgkepkdidjcaa
open Go.RowKit

/-- A cache in the middle of ClockSecond. -/
structure Mid (w : World) (bc bp n : Nat) (ps : List Plc) (hand : Nat) (wr : World) : Prop where
  len : ps.length = n
  lt : hand < n
  ca : Cach wr bc bp ps hand
  below : Below w.heap.size w wr
theorem kk_add (i : Nat) : (⟨#[107]⟩ : ByteArray) ++ dig i = kk i := rfl
theorem dig_fits (i : Nat) : ¬ (9223372036854775807 < (⟨#[107]⟩ : ByteArray).size + (dig i).size) := by have := dig_size i; show ¬ (9223372036854775807 < 1 + (dig i).size); omega

set_option maxRecDepth 100000 in
set_option maxHeartbeats 1600000 in
theorem clockSecond_yes (n : Nat) (i : Int) (w : World) (h1 : 1 ≤ n) (h2 : n ≤ 50) :
    Calls Try.prog 3 #[.int .i64 n, .int .i64 i] w fun e w' => e = .returned (.bool true) ∧ Below w.heap.size w w' := by
  go_enter Try.func3, Try.ntmps3
  go_wp2_with fail
  refine (clocked_yes _).mono ?_
  rintro e w1 ⟨rfl, hb1⟩
  go_wp2_with fail
  refine (new_yes n _ h1 h2).mono ?_
  rintro e w2 ⟨bc, bp, rfl, hbc, hbp, hc2, hb2⟩
  go_wp2_with fail
  have hbc' : w.heap.size ≤ bc := by have := hb1.size; omega
  have hbp' : w.heap.size ≤ bp := by have := hb1.size; omega
  have G0 : Mid w bc bp n (List.replicate n Plc.zero) 0 w2 := ⟨by simp, by omega, hc2, hb1.trans (hb2.mono hb1.size)⟩
  clear hb1 hb2 hc2 hbc hbp
  go_loopw [8] (fun k wr => ∃ (j : Nat) (ps : List Plc), k = .int .i64 j ∧ j ≤ n ∧ S1 n j ps ∧ Mid w bc bp n ps 0 wr) (fun k _ => n - (intOf k).toNat)
  case atStart => exact ⟨0, _, rfl, Nat.zero_le _, S1_start n, G0⟩
  case round =>
    obtain ⟨j, ps, rfl, hj, hS, G⟩ := hrel
    clear G0
    by_cases hlt : j < n
    · have hsp := dig_fits j
      have HD := Lib.hid (digits_any (j : Int) wr (by omega) (by omega))
      obtain ⟨hS', hh⟩ := S1_put hS hlt h2 0
      have HS' := Lib.hid hS'
      obtain ⟨R, hR⟩ : ∃ R, R = putR ps 0 (kk j) vv := ⟨_, rfl⟩
      have HP : Hid (∀ W, Cach W bc bp ps 0 → Calls Try.prog 8 #[.pointer (some ⟨bc, 0, none⟩), .string (kk j), .string vv] W fun e w' => e = .returned (.tuple #[.string (R.gone.getD ByteArray.empty), .bool R.gone.isSome]) ∧ Cach w' bc bp R.ps 0 ∧ Fr W w' (CS bc bp)) := by
        intro W hW
        have := put_any bc bp ps 0 (kk j) vv W hW (by rw [G.len]; exact h2) (by rw [G.len]; exact G.lt)
        rw [hh, ← hR] at this
        exact this
      have HR := Lib.hid hR
      clear hS' hh hR hS
      go_wp2_with fail
      refine HD.out.mono ?_
      rintro e w3 ⟨rfl, hb3⟩
      rw [Int.toNat_natCast]
      go_wp2_with fail
      refine (HP.out _ (G.ca.below hb3 G.ca.lt.1 G.ca.lt.2)).mono ?_
      rintro e w4 ⟨rfl, hc4, hf4⟩
      have G4 : Mid w bc bp n R.ps 0 w4 := ⟨by rw [HR.out, putR_len, G.len], by omega, hc4, Fr.below (G.below.trans (hb3.mono G.below.size)) hf4 (by have := G.below.size; have := hb3.size; omega) (by rintro k (h | h) <;> omega)⟩
      go_wp2_with fail
      go_roundw
      case rel => exact ⟨j + 1, R.ps, by go_num, by omega, by rw [HR.out]; exact HS'.out, G4⟩
      case measure => simp [intOf]; omega
    · have hjn : j = n := by omega
      rw [hjn] at hS
      obtain ⟨hgone, hS3, hhand⟩ := S1_first hS h1 h2 i.toNat
      obtain ⟨R, hR⟩ : ∃ R, R = putR ps 0 first vv := ⟨_, rfl⟩
      have HP : Hid (Calls Try.prog 8 #[.pointer (some ⟨bc, 0, none⟩), .string first, .string vv] wr fun e w' => e = .returned (.tuple #[.string ⟨#[107, 48]⟩, .bool true]) ∧ Cach w' bc bp R.ps (1 % n) ∧ Fr wr w' (CS bc bp)) := by
        have := put_any bc bp ps 0 first vv wr G.ca (by rw [G.len]; exact h2) (by rw [G.len]; exact G.lt)
        rw [hgone, hhand, ← hR] at this
        exact this
      have HS3 : Hid (S3 n i.toNat 1 R.ps) := by rw [hR]; exact hS3
      clear hgone hS3 hhand hR hjn hS
      go_wp2_with fail
      refine HP.out.mono ?_
      rintro e w3 ⟨rfl, hc3, hf3⟩
      have hB3 : Below w.heap.size w w3 := Fr.below G.below hf3 (by have := G.below.size; omega) (by rintro k (h | h) <;> omega)
      by_cases hi : 1 ≤ i ∧ i < n
      · obtain ⟨hi1, hi2⟩ := hi
        obtain ⟨q, rfl⟩ := Int.eq_ofNat_of_zero_le (show 0 ≤ i by omega)
        rw [Int.toNat_natCast] at HS3
        have G3 : Mid w bc bp n R.ps 1 w3 := ⟨HS3.out.1, by omega, by rw [← Nat.mod_eq_of_lt (show 1 < n by omega)]; exact hc3, hB3⟩
        clear hc3 hB3 hf3 G
        have hq1 : decide ((q : Int) < 1) = false := decide_eq_false (by omega)
        have hq2 : decide (n ≤ q) = false := decide_eq_false (by omega)
        go_wp2_with fail
        go_loopw [11] (fun k wr => ∃ (j : Nat) (ps : List Plc), k = .int .i64 j ∧ 1 ≤ j ∧ j ≤ n ∧ S3 n q j ps ∧ Mid w bc bp n ps 1 wr) (fun k _ => n - (intOf k).toNat)
        case atStart => exact ⟨1, _, rfl, Nat.le_refl _, h1, HS3.out, G3⟩
        case round =>
          obtain ⟨w5, rfl⟩ : ∃ w5 : World, w5 = wr := ⟨_, rfl⟩
          obtain ⟨j, ps3, rfl, hj1, hj2, hS, G⟩ := hrel
          clear G3
          by_cases hlt : j < n
          · by_cases hjq : j = q
            · have hne : ((j : Int) != (q : Int)) = false := by simp [hjq]
              have hS' : Hid (S3 n q (j + 1) ps3) := by rw [hjq] at hS ⊢; exact S3_skip hS
              clear hjq hS
              go_wp2_with fail
              go_roundw
              case rel => exact ⟨j + 1, ps3, by go_num, by omega, by omega, hS'.out, G⟩
              case measure => simp [intOf]; omega
            · have hne : ((j : Int) != (q : Int)) = true := by simp; omega
              have HS' := Lib.hid (S3_get hS h2 hj1 hlt hjq)
              have hsp := dig_fits j
              have HD := Lib.hid (digits_any (j : Int) w5 (by omega) (by omega))
              have HG : Hid (∀ W, Cach W bc bp ps3 1 → Calls Try.prog 10 #[.pointer (some ⟨bc, 0, none⟩), .string (kk j)] W fun e w' => (∃ v, e = .returned v) ∧ Cach w' bc bp (getPs ps3 (kk j)) 1 ∧ Fr W w' (CS bc bp)) := by
                intro W hW
                exact (get_any bc bp ps3 1 (kk j) W hW (by rw [G.len]; exact h2)).mono fun e w' ⟨a, b, c⟩ => ⟨⟨_, a⟩, b, c⟩
              clear hS hjq
              go_wp2_with fail
              refine HD.out.mono ?_
              rintro e w6 ⟨rfl, hb6⟩
              rw [Int.toNat_natCast]
              go_wp2_with fail
              refine (HG.out _ (G.ca.below hb6 G.ca.lt.1 G.ca.lt.2)).mono ?_
              rintro e w7 ⟨⟨v7, rfl⟩, hc7, hf7⟩
              have G7 : Mid w bc bp n (getPs ps3 (kk j)) 1 w7 := ⟨by rw [len_core (core_get ps3 (kk j))]; exact G.len, G.lt, hc7, Fr.below (G.below.trans (hb6.mono G.below.size)) hf7 (by have := G.below.size; have := hb6.size; omega) (by rintro k (h | h) <;> omega)⟩
              go_wp2_with fail
              go_roundw
              case rel => exact ⟨j + 1, _, by go_num, by omega, by omega, HS'.out, G7⟩
              case measure => simp [intOf]; omega
          · have hjn : j = n := by omega
            rw [hjn] at hS
            have hgone := S3_second hS h2 (by omega) (show q < n by omega)
            have HP2 : Hid (Calls Try.prog 8 #[.pointer (some ⟨bc, 0, none⟩), .string second, .string vv] w5 fun e w' => e = .returned (.tuple #[.string (kk q), .bool true]) ∧ Fr w5 w' (CS bc bp)) := by
              have := put_any bc bp ps3 1 second vv w5 G.ca (by rw [G.len]; exact h2) (by rw [G.len]; exact G.lt)
              rw [hgone] at this
              exact this.mono fun e w' ⟨a, _, c⟩ => ⟨a, c⟩
            clear hgone hjn hS
            have hsp := dig_fits q
            have HD : Hid (∀ W, Calls Try.prog 9 #[.int .i64 q, .int .i64 0] W fun e w' => e = .returned (.string (dig (q : Int).toNat)) ∧ Below W.heap.size W w') := fun W => digits_any (q : Int) W (by omega) (by omega)
            have hkk : ((kk q).toList == (⟨#[107]⟩ ++ dig q : ByteArray).toList) = true := eqs_self _
            go_wp2_with fail
            refine HP2.out.mono ?_
            rintro e w6 ⟨rfl, hf6⟩
            go_wp2_with fail
            refine (HD.out _).mono ?_
            rintro e w7 ⟨rfl, hb7⟩
            rw [Int.toNat_natCast]
            go_wp2_with fail
            go_ret
            exact ⟨rfl, (Fr.below G.below hf6 (by have := G.below.size; omega) (by rintro k (h | h) <;> omega)).trans (hb7.mono (by have := G.below.size; have := hf6.size; omega))⟩
      · rcases (show i < 1 ∨ (1 ≤ i ∧ n ≤ i) by omega) with h | ⟨h, h'⟩
        · go_wp2_with fail
          go_ret
          exact ⟨rfl, hB3⟩
        · go_wp2_with fail
          go_ret
          exact ⟨rfl, hB3⟩

set_option maxHeartbeats 400000 in
theorem clockSecond_no (n i : Int) (w : World) (h : n < 1 ∨ 50 < n) :
    Calls Try.prog 3 #[.int .i64 n, .int .i64 i] w fun e w' => e = .returned (.bool true) ∧ Below w.heap.size w w' := by
  go_enter Try.func3, Try.ntmps3
  go_wp2_with fail
  refine (clocked_yes _).mono ?_
  rintro e w1 ⟨rfl, hb1⟩
  go_wp2_with fail
  refine (new_no n _ h).mono ?_
  rintro e w2 ⟨rfl, rfl⟩
  go_wp2_with fail
  go_ret
  exact ⟨rfl, hb1⟩
end Go.Proofs.Ytolgkepkdidjcaa
