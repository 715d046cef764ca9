/- linguisterref1.Only (as in RefA, for a seat that has no tags). -/
import Derived.Test.YtokjbdefkfdhhaaGreatDoorTagS
import Derived.Test.YtokjbdefkfdhhaaGreatDoorBase
import Derived.Test.YtokjbdefkfdhhaaGreatDoorLists
import Derived.Deep.QuietTactic
namespace Go.Proofs.YtokjbdefkfdhhaaGreatDoor
open Go.RowKit

theorem bts_get (s : ByteArray) (q : Nat) (h : q < s.size) : (bts s)[q]'(by rw [bts_len]; exact h) = s[q] := by
  cases s with
  | mk d => exact Array.getElem_toList (xs := d) h
theorem all_bts (p : UInt8 → Bool) (s : ByteArray) (h : ∀ q (h : q < s.size), p s[q] = true) : (bts s).all p = true := by
  rw [List.all_eq_true]
  intro x hx
  obtain ⟨q, hq, rfl⟩ := List.getElem_of_mem hx
  rw [bts_len] at hq
  rw [bts_get s q hq]
  exact h q hq
theorem not_all_bts (p : UInt8 → Bool) (s : ByteArray) (j : Nat) (hj : j < s.size) (h : p s[j] = false) : (bts s).all p = false := by
  rw [← Bool.not_eq_true, List.all_eq_true]
  intro hx
  have := hx _ (List.getElem_mem (l := bts s) (n := j) (by rw [bts_len]; exact hj))
  rw [bts_get s j hj, h] at this
  cases this
/-- A function value that says of a byte what p says. -/
def Says (f : FuncId) (p : UInt8 → Bool) : Prop := ∀ (c : UInt8) (w : World), Calls Tryz.prog f #[.int .u8 c.toNat] w fun e w' => e = .returned (.bool (p c)) ∧ w = w'
set_option maxHeartbeats 400000 in
def onlyB (s o : ByteArray) (a b : Nat) : Bool := (bts s).all (fun c => (bts o).contains c) && (decide (a ≤ s.size) && decide (s.size ≤ b))
theorem take_contains (o : ByteArray) (c : UInt8) (k : Nat) (hk : k < o.size) : ((bts o).take (k + 1)).contains c = (((bts o).take k).contains c || (c == o[k])) := by
  have hk' : k < (bts o).length := by rw [bts_len]; exact hk
  rw [List.take_add_one, List.getElem?_eq_getElem hk', bts_get o k hk, List.contains_eq_any_beq, List.any_append, List.contains_eq_any_beq]
  simp
theorem all_at (p : UInt8 → Bool) (s : ByteArray) (j : Nat) (hj : j < s.size) (h : ((bts s).take j).all p = true) : ((bts s).take (j + 1)).all p = p s[j] := by
  have hj' : j < (bts s).length := by rw [bts_len]; exact hj
  rw [List.take_add_one, List.getElem?_eq_getElem hj', bts_get s j hj, List.all_append, h]
  simp
theorem not_all_at (p : UInt8 → Bool) (s : ByteArray) (j : Nat) (hj : j < s.size) (h : p s[j] = false) : (bts s).all p = false := not_all_bts p s j hj h
theorem u8_eq (c d : UInt8) : (c == d) = decide ((c.toNat : Int) = (d.toNat : Int)) := by
  rw [Bool.eq_iff_iff, beq_iff_eq, decide_eq_true_eq]
  refine ⟨fun h => by rw [h], fun h => ?_⟩
  exact UInt8.toNat_inj.1 (by omega)
set_option maxRecDepth 100000 in
set_option maxHeartbeats 800000 in
theorem only_any (s o : ByteArray) (a b : Nat) (w : World) (hs : s.size ≤ 9223372036854775807) (ho : o.size ≤ 1000) (_ha : a ≤ 1000) (_hb : b ≤ 1000) :
    Calls Tryz.prog 23 #[.string s, .string o, .int .i64 a, .int .i64 b] w fun e w' => e = .returned (.bool (onlyB s o a b)) ∧ ∃ n, w' = w.drewN n := by
  have HU : Hid (onlyB s o a b = ((bts s).all (fun c => (bts o).contains c) && (decide (a ≤ s.size) && decide (s.size ≤ b)))) := rfl
  go_enter Tryz.func23, Tryz.ntmps23
  go_wp2_with fail
  go_loopw [9, 10, 11] (fun i _ _ wr => ∃ j : Nat, j ≤ s.size ∧ i = .int .i64 j ∧ ((bts s).take j).all (fun c => (bts o).contains c) = true ∧ ∃ n, wr = w.drewN n) (fun i _ _ _ => s.size - (intOf i).toNat)
  case atStart => exact ⟨0, Nat.zero_le _, rfl, rfl, 0, rfl⟩
  case round =>
    obtain ⟨j, hj, rfl, hno0, n, rfl⟩ := hrel
    have HNo := Lib.hid hno0
    clear hno0
    by_cases hlt : j < s.size
    · have HA := Lib.hid (all_at _ s j hlt HNo.out)
      have HN := Lib.hid (not_all_at (fun c => (bts o).contains c) s j hlt)
      have HL := Lib.hid s[j].toNat_lt
      generalize ec : s[j] = c at *
      go_wp2_with fail
      go_loopw [10, 11] (fun x k wx => ∃ m : Nat, m ≤ o.size ∧ k = .int .i64 m ∧ x = .bool (((bts o).take m).contains c) ∧ ∃ n, wx = w.drewN n) (fun _ k _ => o.size - (intOf k).toNat)
      case atStart => exact ⟨0, Nat.zero_le _, rfl, rfl, n, rfl⟩
      case round =>
        obtain ⟨m, hm, rfl, rfl, n2, rfl⟩ := hrel
        by_cases hlm : m < o.size
        · have HT := Lib.hid (take_contains o c m hlm)
          cases hp : ((bts o).take m).contains c with
          | true =>
            rw [hp] at HT
            go_wp2_with fail
            go_quiet (fail)
            go_wp2_with fail
            go_roundw
            case rel => exact ⟨m + 1, by omega, by go_num, by rw [HT.out]; rfl, _, rfl⟩
            case measure => simp [intOf]; omega
          | false =>
            rw [hp] at HT
            go_wp2_with fail
            go_quiet (fail)
            go_wp2_with fail
            go_roundw
            case rel => exact ⟨m + 1, by omega, by go_num, by rw [HT.out, u8_eq]; rfl, _, rfl⟩
            case measure => simp [intOf]; omega
        · obtain rfl : m = o.size := by omega
          rw [List.take_of_length_le (by rw [bts_len]; omega)]
          cases hp : (bts o).contains c with
          | true =>
            rw [hp] at HA
            go_wp2_with fail
            go_roundw
            case rel => exact ⟨j + 1, by omega, by go_num, HA.out, n2, rfl⟩
            case measure => simp [intOf]; omega
          | false =>
            have HF := Lib.hid (HN.out hp)
            go_wp2_with fail
            go_ret
            exact ⟨ret_bool (by rw [HU.out, HF.out]; rfl), n2, rfl⟩
    · obtain rfl : j = s.size := by omega
      have HF : Hid ((bts s).all (fun c => (bts o).contains c) = true) := Lib.hid (by have := HNo.out; rwa [List.take_of_length_le (by rw [bts_len]; omega)] at this)
      go_wp2_with fail
      · go_ret
        have h1 : a ≤ s.size := by assumption
        exact ⟨ret_bool (by rw [HU.out, HF.out]; simp [h1]), n, rfl⟩
      · go_ret
        have h1 : ¬ a ≤ s.size := by assumption
        exact ⟨ret_bool (by rw [HU.out, HF.out]; simp [h1]), n, rfl⟩
end Go.Proofs.YtokjbdefkfdhhaaGreatDoor
