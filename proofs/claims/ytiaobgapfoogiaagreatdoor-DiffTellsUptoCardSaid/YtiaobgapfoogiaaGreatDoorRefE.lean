/- The walk of the document's package: Lower, Upper, Only, Joined. -/
import Derived.Test.YtiaobgapfoogiaaGreatDoorMapped
import Derived.Test.YtiaobgapfoogiaaGreatDoorBun
import Derived.Test.YtiaobgapfoogiaaGreatDoorTagC
import Derived.Test.YtiaobgapfoogiaaGreatDoorLists
import Derived.Deep.DeepCutAuto
import Derived.Test.YtiaobgapfoogiaaGreatDoorPick
import Derived.Test.YtiaobgapfoogiaaGreatDoorParse
set_option linter.unusedSimpArgs false
set_option linter.unusedVariables false
namespace Go.Proofs.YtiaobgapfoogiaaGreatDoor
open Go.RowKit

set_option maxRecDepth 100000 in
theorem high_xor : ∀ c : UInt8, 65 ≤ c.toNat → c.toNat ≤ 90 → (c ^^^ 32).toNat = c.toNat + 32 := by
  have h : ∀ n : Fin 256, 65 ≤ (UInt8.ofFin n).toNat → (UInt8.ofFin n).toNat ≤ 90 → (UInt8.ofFin n ^^^ 32).toNat = (UInt8.ofFin n).toNat + 32 := by decide
  intro c
  exact h c.toFin
set_option maxRecDepth 100000 in
theorem low_xor : ∀ c : UInt8, 97 ≤ c.toNat → c.toNat ≤ 122 → (c ^^^ 32).toNat = c.toNat - 32 := by
  have h : ∀ n : Fin 256, 97 ≤ (UInt8.ofFin n).toNat → (UInt8.ofFin n).toNat ≤ 122 → (UInt8.ofFin n ^^^ 32).toNat = (UInt8.ofFin n).toNat - 32 := by decide
  intro c
  exact h c.toFin

set_option maxRecDepth 100000 in
set_option maxHeartbeats 800000 in
theorem rlower_any (s : ByteArray) (w : World) (hs : s.size ≤ 140737488355328) :
    Calls Tryz.prog 49 #[.string s] w fun e w' => e = .returned (.string (lowerB s)) ∧ Below w.heap.size w w' := by
  have hconv := run_bytes_of_string (P := Tryz.prog) w 9 117 5 s Tryz.underlying9 Tryz.underlying117 Tryz.underlying5
  have hC : ∀ q, q < s.size → (bytesRow s (grownCap w s.size 0 5))[q]? = some (.int .u8 ((turnedAt isHigh 32 s 0 q).toNat : Int)) := fun q hq => by
    rw [bytesRow_at s _ q hq]
    unfold turnedAt
    rw [dif_pos hq, if_neg (by omega)]
    rfl
  have hCs : s.size ≤ (bytesRow s (grownCap w s.size 0 5)).size := by
    unfold bytesRow
    rw [Array.size_append]; simp
  have hG := grownCap_ge w s.size 0 5
  generalize bytesRow s (grownCap w s.size 0 5) = C at hconv hC hCs
  generalize grownCap w s.size 0 5 = G at hconv hG
  have hini : Turned w (w.drew.alloc (.cells C 5 (C.size, C.size + 1))) isHigh 32 s 0 := ⟨((Below.refl _ _).drew).alloc (Nat.le_refl _) _, fun q hq => (World.cell?_alloc_mark w.drew C 5 _ q).trans (hC q hq), fun q hq => by
    rw [show w.heap.size = w.drew.heap.size from rfl, World.frozen?_alloc_mark]
    simp; omega⟩
  have HI := Lib.hid hini
  clear hC hini
  have HF : Hid (∀ wr, Turned w wr isHigh 32 s s.size → (convert 117 9 (.slice (some ⟨w.heap.size, 0, none⟩) s.size G)).run Tryz.prog wr = .ok (.string (lowerB s)) wr) := fun wr hT => by
    have h := run_convert_bytes_back (P := Tryz.prog) wr 117 9 5 ⟨w.heap.size, 0, none⟩ G ((bts s).map fun c => if isHigh c then c ^^^ 32 else c) Tryz.underlying117 Tryz.underlying5 Tryz.underlying9 (fun j hj => by
      have hj' : j < s.size := by rw [List.length_map, bts_len] at hj; exact hj
      have e1 : ((⟨w.heap.size, 0, none⟩ : Addr).add j) = ⟨w.heap.size, j, none⟩ := by
        unfold Addr.add
        by_cases h0 : j = 0
        · rw [if_pos h0, h0]
        · rw [if_neg h0]; simp
      rw [e1, hT.cell j hj']
      unfold turnedAt turned
      rw [dif_pos hj', if_pos hj', List.getElem_map, bts_get s j hj'])
    rw [List.length_map, bts_len] at h
    exact h
  go_enter Tryz.func49, Tryz.ntmps49
  go_wp2_with fail
  go_loopw [4] (fun i wr => ∃ j : Nat, j ≤ s.size ∧ i = .int .i64 j ∧ Turned w wr isHigh 32 s j) (fun i _ => s.size - (intOf i).toNat)
  case atStart => exact ⟨0, Nat.zero_le _, rfl, HI.out⟩
  case round =>
    clear HI
    obtain ⟨j, hj, rfl, hT⟩ := hrel
    by_cases hlt : j < s.size
    · have hc := hT.cell j hlt
      rw [turnedAt_new hlt] at hc
      have hf := hT.cold j hlt
      have HT := Lib.hid hT
      clear hT
      obtain ⟨c, hcc⟩ : ∃ c, c = s[j] := ⟨_, rfl⟩
      rw [← hcc] at hc
      have HCC := Lib.hid hcc
      clear hcc
      have HX := Lib.hid (high_xor c)
      have HH : Hid (isHigh c = (decide (65 ≤ c.toNat) && decide (c.toNat ≤ 90))) := rfl
      have HTn : Hid (turned isHigh 32 c = if isHigh c then c ^^^ 32 else c) := rfl
      have HL := Lib.hid c.toNat_lt
      by_cases h1 : 65 ≤ c.toNat
      · by_cases h2 : c.toNat ≤ 90
        · have HY := Lib.hid (HX.out h1 h2)
          have HE : Hid (turned isHigh 32 c = c ^^^ 32) := Lib.hid (by rw [HTn.out, HH.out]; simp [h1, h2])
          clear HX HH HTn
          generalize c.toNat = n at hc h1 h2 HY HL
          go_wp2_with fail
          go_roundw
          case rel => 
            refine ⟨j + 1, by omega, by go_num, HT.out.put hlt ?_⟩
            rw [← HCC.out, HE.out, HY.out]; go_num
          case measure => simp [intOf]; omega
        · have HE : Hid (turned isHigh 32 c = c) := Lib.hid (by rw [HTn.out, HH.out]; simp [h2])
          clear HX HH HTn
          generalize c.toNat = n at hc h1 h2 HL
          go_wp2_with fail
          go_roundw
          case rel => exact ⟨j + 1, by omega, by go_num, HT.out.skip hlt (by rw [← HCC.out, HE.out])⟩
          case measure => simp [intOf]; omega
      · have HE : Hid (turned isHigh 32 c = c) := Lib.hid (by rw [HTn.out, HH.out]; simp [h1])
        clear HX HH HTn
        generalize c.toNat = n at hc h1 HL
        go_wp2_with fail
        go_roundw
        case rel => exact ⟨j + 1, by omega, by go_num, HT.out.skip hlt (by rw [← HCC.out, HE.out])⟩
        case measure => simp [intOf]; omega
    · obtain rfl : j = s.size := by omega
      have hback := HF.out _ hT
      have HT := Lib.hid hT
      clear hT HF
      go_wp2_with fail
      go_ret
      exact ⟨rfl, HT.out.below⟩
set_option maxRecDepth 100000 in
set_option maxHeartbeats 800000 in
theorem rupper_any (s : ByteArray) (w : World) (hs : s.size ≤ 140737488355328) :
    Calls Tryz.prog 50 #[.string s] w fun e w' => e = .returned (.string (upperB s)) ∧ Below w.heap.size w w' := by
  have hconv := run_bytes_of_string (P := Tryz.prog) w 9 117 5 s Tryz.underlying9 Tryz.underlying117 Tryz.underlying5
  have hC : ∀ q, q < s.size → (bytesRow s (grownCap w s.size 0 5))[q]? = some (.int .u8 ((turnedAt isLow 32 s 0 q).toNat : Int)) := fun q hq => by
    rw [bytesRow_at s _ q hq]
    unfold turnedAt
    rw [dif_pos hq, if_neg (by omega)]
    rfl
  have hCs : s.size ≤ (bytesRow s (grownCap w s.size 0 5)).size := by
    unfold bytesRow
    rw [Array.size_append]; simp
  have hG := grownCap_ge w s.size 0 5
  generalize bytesRow s (grownCap w s.size 0 5) = C at hconv hC hCs
  generalize grownCap w s.size 0 5 = G at hconv hG
  have hini : Turned w (w.drew.alloc (.cells C 5 (C.size, C.size + 1))) isLow 32 s 0 := ⟨((Below.refl _ _).drew).alloc (Nat.le_refl _) _, fun q hq => (World.cell?_alloc_mark w.drew C 5 _ q).trans (hC q hq), fun q hq => by
    rw [show w.heap.size = w.drew.heap.size from rfl, World.frozen?_alloc_mark]
    simp; omega⟩
  have HI := Lib.hid hini
  clear hC hini
  have HF : Hid (∀ wr, Turned w wr isLow 32 s s.size → (convert 117 9 (.slice (some ⟨w.heap.size, 0, none⟩) s.size G)).run Tryz.prog wr = .ok (.string (upperB s)) wr) := fun wr hT => by
    have h := run_convert_bytes_back (P := Tryz.prog) wr 117 9 5 ⟨w.heap.size, 0, none⟩ G ((bts s).map fun c => if isLow c then c ^^^ 32 else c) Tryz.underlying117 Tryz.underlying5 Tryz.underlying9 (fun j hj => by
      have hj' : j < s.size := by rw [List.length_map, bts_len] at hj; exact hj
      have e1 : ((⟨w.heap.size, 0, none⟩ : Addr).add j) = ⟨w.heap.size, j, none⟩ := by
        unfold Addr.add
        by_cases h0 : j = 0
        · rw [if_pos h0, h0]
        · rw [if_neg h0]; simp
      rw [e1, hT.cell j hj']
      unfold turnedAt turned
      rw [dif_pos hj', if_pos hj', List.getElem_map, bts_get s j hj'])
    rw [List.length_map, bts_len] at h
    exact h
  go_enter Tryz.func50, Tryz.ntmps50
  go_wp2_with fail
  go_loopw [4] (fun i wr => ∃ j : Nat, j ≤ s.size ∧ i = .int .i64 j ∧ Turned w wr isLow 32 s j) (fun i _ => s.size - (intOf i).toNat)
  case atStart => exact ⟨0, Nat.zero_le _, rfl, HI.out⟩
  case round =>
    clear HI
    obtain ⟨j, hj, rfl, hT⟩ := hrel
    by_cases hlt : j < s.size
    · have hc := hT.cell j hlt
      rw [turnedAt_new hlt] at hc
      have hf := hT.cold j hlt
      have HT := Lib.hid hT
      clear hT
      obtain ⟨c, hcc⟩ : ∃ c, c = s[j] := ⟨_, rfl⟩
      rw [← hcc] at hc
      have HCC := Lib.hid hcc
      clear hcc
      have HX := Lib.hid (low_xor c)
      have HH : Hid (isLow c = (decide (97 ≤ c.toNat) && decide (c.toNat ≤ 122))) := rfl
      have HTn : Hid (turned isLow 32 c = if isLow c then c ^^^ 32 else c) := rfl
      have HL := Lib.hid c.toNat_lt
      by_cases h1 : 97 ≤ c.toNat
      · by_cases h2 : c.toNat ≤ 122
        · have HY := Lib.hid (HX.out h1 h2)
          have HE : Hid (turned isLow 32 c = c ^^^ 32) := Lib.hid (by rw [HTn.out, HH.out]; simp [h1, h2])
          clear HX HH HTn
          generalize c.toNat = n at hc h1 h2 HY HL
          go_wp2_with fail
          go_roundw
          case rel => 
            refine ⟨j + 1, by omega, by go_num, HT.out.put hlt ?_⟩
            rw [← HCC.out, HE.out, HY.out]; go_num
          case measure => simp [intOf]; omega
        · have HE : Hid (turned isLow 32 c = c) := Lib.hid (by rw [HTn.out, HH.out]; simp [h2])
          clear HX HH HTn
          generalize c.toNat = n at hc h1 h2 HL
          go_wp2_with fail
          go_roundw
          case rel => exact ⟨j + 1, by omega, by go_num, HT.out.skip hlt (by rw [← HCC.out, HE.out])⟩
          case measure => simp [intOf]; omega
      · have HE : Hid (turned isLow 32 c = c) := Lib.hid (by rw [HTn.out, HH.out]; simp [h1])
        clear HX HH HTn
        generalize c.toNat = n at hc h1 HL
        go_wp2_with fail
        go_roundw
        case rel => exact ⟨j + 1, by omega, by go_num, HT.out.skip hlt (by rw [← HCC.out, HE.out])⟩
        case measure => simp [intOf]; omega
    · obtain rfl : j = s.size := by omega
      have hback := HF.out _ hT
      have HT := Lib.hid hT
      clear hT HF
      go_wp2_with fail
      go_ret
      exact ⟨rfl, HT.out.below⟩
def onlyB (s o : ByteArray) (a b : Nat) : Bool := (bts s).all (fun c => (bts o).contains c) && (decide (a ≤ s.size) && decide (s.size ≤ b))
theorem take_contains (o : ByteArray) (c : UInt8) (k : Nat) (hk : k < o.size) : ((bts o).take (k + 1)).contains c = (((bts o).take k).contains c || (c == o[k])) := by
  have hk' : k < (bts o).length := by rw [bts_len]; exact hk
  rw [List.take_add_one, List.getElem?_eq_getElem hk', bts_get o k hk, List.contains_eq_any_beq, List.any_append, List.contains_eq_any_beq]
  simp
theorem all_at (p : UInt8 → Bool) (s : ByteArray) (j : Nat) (hj : j < s.size) (h : ((bts s).take j).all p = true) : ((bts s).take (j + 1)).all p = p s[j] := by
  have hj' : j < (bts s).length := by rw [bts_len]; exact hj
  rw [List.take_add_one, List.getElem?_eq_getElem hj', bts_get s j hj, List.all_append, h]
  simp
theorem not_all_at (p : UInt8 → Bool) (s : ByteArray) (j : Nat) (hj : j < s.size) (h : p s[j] = false) : (bts s).all p = false := not_all_bts p s j hj h
theorem u8_eq (c d : UInt8) : (c == d) = decide ((c.toNat : Int) = (d.toNat : Int)) := by
  rw [Bool.eq_iff_iff, beq_iff_eq, decide_eq_true_eq]
  refine ⟨fun h => by rw [h], fun h => ?_⟩
  exact UInt8.toNat_inj.1 (by omega)
set_option maxRecDepth 100000 in
set_option maxHeartbeats 800000 in
theorem only_any (s o : ByteArray) (a b : Nat) (w : World) (hs : s.size ≤ 9223372036854775807) (ho : o.size ≤ 1000) (_ha : a ≤ 1000) (_hb : b ≤ 1000) :
    Calls Tryz.prog 31 #[.string s, .string o, .int .i64 a, .int .i64 b] w fun e w' => e = .returned (.bool (onlyB s o a b)) ∧ ∃ n, w' = w.drewN n := by
  have HU : Hid (onlyB s o a b = ((bts s).all (fun c => (bts o).contains c) && (decide (a ≤ s.size) && decide (s.size ≤ b)))) := rfl
  go_enter Tryz.func31, Tryz.ntmps31
  go_wp2_with fail
  go_loopw [9, 10, 11] (fun i _ _ wr => ∃ j : Nat, j ≤ s.size ∧ i = .int .i64 j ∧ ((bts s).take j).all (fun c => (bts o).contains c) = true ∧ ∃ n, wr = w.drewN n) (fun i _ _ _ => s.size - (intOf i).toNat)
  case atStart => exact ⟨0, Nat.zero_le _, rfl, rfl, 0, rfl⟩
  case round =>
    obtain ⟨j, hj, rfl, hno0, n, rfl⟩ := hrel
    have HNo := Lib.hid hno0
    clear hno0
    by_cases hlt : j < s.size
    · have HA := Lib.hid (all_at _ s j hlt HNo.out)
      have HN := Lib.hid (not_all_at (fun c => (bts o).contains c) s j hlt)
      have HL := Lib.hid s[j].toNat_lt
      generalize ec : s[j] = c at *
      go_wp2_with fail
      go_loopw [10, 11] (fun x k wx => ∃ m : Nat, m ≤ o.size ∧ k = .int .i64 m ∧ x = .bool (((bts o).take m).contains c) ∧ ∃ n, wx = w.drewN n) (fun _ k _ => o.size - (intOf k).toNat)
      case atStart => exact ⟨0, Nat.zero_le _, rfl, rfl, n, rfl⟩
      case round =>
        obtain ⟨m, hm, rfl, rfl, n2, rfl⟩ := hrel
        by_cases hlm : m < o.size
        · have HT := Lib.hid (take_contains o c m hlm)
          cases hp : ((bts o).take m).contains c with
          | true =>
            rw [hp] at HT
            go_wp2_with fail
            go_quiet (fail)
            go_wp2_with fail
            go_roundw
            case rel => exact ⟨m + 1, by omega, by go_num, by rw [HT.out]; rfl, _, rfl⟩
            case measure => simp [intOf]; omega
          | false =>
            rw [hp] at HT
            go_wp2_with fail
            go_quiet (fail)
            go_wp2_with fail
            go_roundw
            case rel => exact ⟨m + 1, by omega, by go_num, by rw [HT.out, u8_eq]; rfl, _, rfl⟩
            case measure => simp [intOf]; omega
        · obtain rfl : m = o.size := by omega
          rw [List.take_of_length_le (by rw [bts_len]; omega)]
          cases hp : (bts o).contains c with
          | true =>
            rw [hp] at HA
            go_wp2_with fail
            go_roundw
            case rel => exact ⟨j + 1, by omega, by go_num, HA.out, n2, rfl⟩
            case measure => simp [intOf]; omega
          | false =>
            have HF := Lib.hid (HN.out hp)
            go_wp2_with fail
            go_ret
            exact ⟨ret_bool (by rw [HU.out, HF.out]; rfl), n2, rfl⟩
    · obtain rfl : j = s.size := by omega
      have HF : Hid ((bts s).all (fun c => (bts o).contains c) = true) := Lib.hid (by have := HNo.out; rwa [List.take_of_length_le (by rw [bts_len]; omega)] at this)
      go_wp2_with fail
      · go_ret
        have h1 : a ≤ s.size := by assumption
        exact ⟨ret_bool (by rw [HU.out, HF.out]; simp [h1]), n, rfl⟩
      · go_ret
        have h1 : ¬ a ≤ s.size := by assumption
        exact ⟨ret_bool (by rw [HU.out, HF.out]; simp [h1]), n, rfl⟩
theorem contains_byte (o : ByteArray) (p : UInt8 → Bool) (h : ∀ n, n < 256 → (bts o).contains (UInt8.ofNat n) = p (UInt8.ofNat n)) (s : ByteArray) (a b : Nat) : onlyB s o a b = made p s a b := by
  unfold onlyB made
  congr 2
  funext c
  have := h c.toNat c.toNat_lt
  rwa [UInt8.ofNat_toNat] at this
theorem only_low (s : ByteArray) (a b : Nat) (w : World) (hs : s.size ≤ 9223372036854775807) (ha : a ≤ 1000) (hb : b ≤ 1000) :
    Calls Tryz.prog 31 #[.string s, .string ⟨#[97,98,99,100,101,102,103,104,105,106,107,108,109,110,111,112,113,114,115,116,117,118,119,120,121,122]⟩, .int .i64 a, .int .i64 b] w fun e w' => e = .returned (.bool (made isLow s a b)) ∧ ∃ n, w' = w.drewN n := by
  rw [← contains_byte ⟨#[97,98,99,100,101,102,103,104,105,106,107,108,109,110,111,112,113,114,115,116,117,118,119,120,121,122]⟩ isLow (by decide +kernel) s a b]
  exact only_any s _ a b w hs (by decide) ha hb
theorem only_high (s : ByteArray) (a b : Nat) (w : World) (hs : s.size ≤ 9223372036854775807) (ha : a ≤ 1000) (hb : b ≤ 1000) :
    Calls Tryz.prog 31 #[.string s, .string ⟨#[65,66,67,68,69,70,71,72,73,74,75,76,77,78,79,80,81,82,83,84,85,86,87,88,89,90]⟩, .int .i64 a, .int .i64 b] w fun e w' => e = .returned (.bool (made isHigh s a b)) ∧ ∃ n, w' = w.drewN n := by
  rw [← contains_byte ⟨#[65,66,67,68,69,70,71,72,73,74,75,76,77,78,79,80,81,82,83,84,85,86,87,88,89,90]⟩ isHigh (by decide +kernel) s a b]
  exact only_any s _ a b w hs (by decide) ha hb
theorem only_dig (s : ByteArray) (a b : Nat) (w : World) (hs : s.size ≤ 9223372036854775807) (ha : a ≤ 1000) (hb : b ≤ 1000) :
    Calls Tryz.prog 31 #[.string s, .string ⟨#[48,49,50,51,52,53,54,55,56,57]⟩, .int .i64 a, .int .i64 b] w fun e w' => e = .returned (.bool (made isDig s a b)) ∧ ∃ n, w' = w.drewN n := by
  rw [← contains_byte ⟨#[48,49,50,51,52,53,54,55,56,57]⟩ isDig (by decide +kernel) s a b]
  exact only_any s _ a b w hs (by decide) ha hb
theorem only_both (s : ByteArray) (a b : Nat) (w : World) (hs : s.size ≤ 9223372036854775807) (ha : a ≤ 1000) (hb : b ≤ 1000) :
    Calls Tryz.prog 31 #[.string s, .string ⟨#[97,98,99,100,101,102,103,104,105,106,107,108,109,110,111,112,113,114,115,116,117,118,119,120,121,122,48,49,50,51,52,53,54,55,56,57]⟩, .int .i64 a, .int .i64 b] w fun e w' => e = .returned (.bool (made isBoth s a b)) ∧ ∃ n, w' = w.drewN n := by
  rw [← contains_byte ⟨#[97,98,99,100,101,102,103,104,105,106,107,108,109,110,111,112,113,114,115,116,117,118,119,120,121,122,48,49,50,51,52,53,54,55,56,57]⟩ isBoth (by decide +kernel) s a b]
  exact only_any s _ a b w hs (by decide) ha hb
end Go.Proofs.YtiaobgapfoogiaaGreatDoor
/- The walk of the document's package: TagFault. -/

namespace Go.Proofs.YtiaobgapfoogiaaGreatDoor
open Go.RowKit

theorem made_first (s : ByteArray) (h : s.size = 4) : scriptB s = (made isHigh (s.extract 0 1) 1 1 && made isLow (s.extract 1 4) 3 3) := by
  unfold scriptB made
  rw [bts_extract, bts_extract]
  have e1 : ((bts s).take 1).drop 0 = (bts s).take 1 := rfl
  have e2 : ((bts s).take 4).drop 1 = (bts s).drop 1 := by rw [List.take_of_length_le (by rw [bts_len]; omega)]
  have s1 : (s.extract 0 1).size = 1 := by rw [ByteArray.size_extract]; omega
  have s2 : (s.extract 1 4).size = 3 := by rw [ByteArray.size_extract]; omega
  rw [e1, e2, s1, s2, h]
  simp

set_option maxHeartbeats 1600000 in
theorem rfault_any (t : Tg) (v : Value) (w : World) (lo : Nat) (hv : ListOk Enc.str w lo w.heap.size v t.vars) (hn : t.vars.length ≤ 140737488355328) (hvs : ∀ s ∈ t.vars, s.size ≤ 9223372036854775807)
    (hl : t.lang.size ≤ 9223372036854775807) (hs : t.script.size ≤ 9223372036854775807) (hr : t.region.size ≤ 9223372036854775807) :
    Calls Tryz.prog 51 #[.agg #[.string t.lang, .string t.script, .string t.region, v]] w fun e w' => e = .returned (.int .i64 (tagFault t)) ∧ Below w.heap.size w w' := by
  have H0 := Lib.hid (fun W => only_low t.lang 2 3 W hl (by omega) (by omega))
  have H1 := Lib.hid (fun W => only_high (t.script.extract 0 1) 1 1 W (by rw [ByteArray.size_extract]; omega) (by omega) (by omega))
  have H2 := Lib.hid (fun W => only_low (t.script.extract 1 4) 3 3 W (by rw [ByteArray.size_extract]; omega) (by omega) (by omega))
  have H3 := Lib.hid (fun W => only_high t.region 2 2 W hr (by omega) (by omega))
  have H4 := Lib.hid (fun W => only_dig t.region 3 3 W hr (by omega) (by omega))
  have HS := Lib.hid (made_first t.script)
  have HS2 : Hid (t.script.size ≠ 4 → scriptB t.script = false) := Lib.hid (fun h => by unfold scriptB; simp [h])
  have HR : Hid (regionB t.region = (made isHigh t.region 2 2 || made isDig t.region 3 3)) := rfl
  have HH : Hid (headFault t = (!made isLow t.lang 2 3 || (!(eqs t.script ByteArray.empty || scriptB t.script) || !(eqs t.region ByteArray.empty || regionB t.region)))) := Lib.hid (by
    unfold headFault
    cases made isLow t.lang 2 3 <;> cases eqs t.script ByteArray.empty <;> cases scriptB t.script <;> cases eqs t.region ByteArray.empty <;> cases regionB t.region <;> rfl)
  go_enter Tryz.func51, Tryz.ntmps51
  go_upto_region 1 with fail
  go_cut [3] (fun c wx => c = .bool (eqs t.script ByteArray.empty || scriptB t.script) ∧ ∃ n, wx = (w.alloc (.cells #[.string t.lang, .string t.script, .string t.region, v] 72)).drewN n)
  case first =>
    clear H0 H3 H4 HR HH
    generalize made isHigh (t.script.extract 0 1) 1 1 = m1 at H1 HS
    generalize made isLow (t.script.extract 1 4) 3 3 = m2 at H2 HS
    by_cases a : t.script.toList = []
    · have A := eqs_nil a
      go_wp2_with fail
      go_meet
      case rel => exact ⟨by rw [A.out]; rfl, 0, rfl⟩
    · have A := eqs_not_nil a
      have AI : Hid (t.script.toList.isEmpty = false) := Lib.hid (by simpa using a)
      by_cases b : t.script.size = 4
      · have HS' := Lib.hid (HS.out b)
        clear HS HS2
        go_wp2_with fail
        refine (H1.out _).mono ?_
        rintro e w1 ⟨rfl, n1, rfl⟩
        cases m1 with
        | false =>
          go_wp2_with fail
          go_meet
          case rel => exact ⟨by rw [A.out, HS'.out, AI.out]; rfl, n1, rfl⟩
        | true =>
          go_wp2_with fail
          refine (H2.out _).mono ?_
          rintro e w1 ⟨rfl, n2, rfl⟩
          go_wp2_with fail
          go_meet
          case rel => exact ⟨by rw [A.out, HS'.out, AI.out]; rfl, _, rfl⟩
      · have HS' := Lib.hid (HS2.out b)
        clear HS HS2
        go_wp2_with fail
        go_meet
        case rel => exact ⟨by rw [A.out, HS'.out, AI.out]; rfl, 0, rfl⟩
  case rest =>
    obtain ⟨rfl, n0, rfl⟩ := hcut
    clear H1 H2 HS HS2
    go_upto_region 2 with fail
    go_cut [4] (fun c wx => c = .bool (eqs t.region ByteArray.empty || regionB t.region) ∧ ∃ n, wx = (w.alloc (.cells #[.string t.lang, .string t.script, .string t.region, v] 72)).drewN n)
    case first =>
      clear H0 HH
      generalize made isHigh t.region 2 2 = m1 at H3 HR
      generalize made isDig t.region 3 3 = m2 at H4 HR
      by_cases a : t.region.toList = []
      · have A := eqs_nil a
        go_wp2_with fail
        go_meet
        case rel => exact ⟨by rw [A.out]; rfl, n0, rfl⟩
      · have A := eqs_not_nil a
        have AI : Hid (t.region.toList.isEmpty = false) := Lib.hid (by simpa using a)
        go_wp2_with fail
        refine (H3.out _).mono ?_
        rintro e w1 ⟨rfl, n1, rfl⟩
        cases m1 with
        | true =>
          go_wp2_with fail
          go_meet
          case rel => exact ⟨by rw [A.out, HR.out]; first | rfl | (rw [AI.out]; rfl), _, rfl⟩
        | false =>
          go_wp2_with fail
          refine (H4.out _).mono ?_
          rintro e w1 ⟨rfl, n2, rfl⟩
          go_wp2_with fail
          go_meet
          case rel => exact ⟨by rw [A.out, HR.out]; first | rfl | (rw [AI.out]; rfl), _, rfl⟩
    case rest =>
      obtain ⟨rfl, n1, rfl⟩ := hcut
      clear H3 H4 HR
      go_upto_region 3 with fail
      go_cut [3, 4, 51] (fun _ _ c wx => c = .bool (headFault t) ∧ ∃ n, wx = (w.alloc (.cells #[.string t.lang, .string t.script, .string t.region, v] 72)).drewN n)
      case first =>
        generalize made isLow t.lang 2 3 = m1 at H0 HH
        generalize (eqs t.script ByteArray.empty || scriptB t.script) = m2 at HH ⊢
        generalize (eqs t.region ByteArray.empty || regionB t.region) = m3 at HH ⊢
        go_wp2_with fail
        refine (H0.out _).mono ?_
        rintro e w1 ⟨rfl, n2, rfl⟩
        cases m1
        all_goals
          go_wp2_with fail
          all_goals
            go_meet
            case rel => exact ⟨by rw [HH.out]; cases m2 <;> cases m3 <;> simp_all, _, rfl⟩
      case rest =>
        obtain ⟨rfl, n2, rfl⟩ := hcut
        clear H0
        cases hf : headFault t with
        | true =>
          have hT : Hid (tagFault t = 3) := fault_head hf
          clear HH
          go_wp2_with fail
          go_ret
          exact ⟨by rw [hT.out]; rfl, below_drewN ((Below.refl _ _).alloc (Nat.le_refl _) _) _⟩
        | false =>
          obtain ⟨A, c, rfl, hc⟩ := hv.form
          clear HH
          have HF := Lib.hid hf
          clear hf
          obtain ⟨W1, eW⟩ : ∃ W1, W1 = w.alloc (.cells #[.string t.lang, .string t.script, .string t.region, .slice A t.vars.length c] 72) := ⟨_, rfl⟩
          have HM : Blk W1 w.heap.size 72 #[.string t.lang, .string t.script, .string t.region, .slice A t.vars.length c] := by rw [eW]; exact Blk.new _ _ _
          have HBW : Hid (Below w.heap.size w W1) := Lib.hid (by rw [eW]; exact (Below.refl _ _).alloc (Nat.le_refl _) _)
          have HV : Hid (ListOk Enc.str W1 lo w.heap.size (.slice A t.vars.length c) t.vars) := Lib.hid (hv.below Enc.str_laws HBW.out)
          rw [← eW]
          clear eW hv
          have k3 := fun n => (HM.drewN n).cell 3
          simp only [List.getElem?_toArray, List.getElem?_cons_succ, List.getElem?_cons_zero] at k3
          clear HM
          go_wp2_with fail
          go_loopw [5] (fun i wr => ∃ j : Nat, j ≤ t.vars.length ∧ i = .int .i64 j ∧ (∀ q, q < j → varAt t.vars q = 0) ∧ ∃ n, wr = W1.drewN n) (fun i _ => t.vars.length - (intOf i).toNat)
          case atStart => exact ⟨0, Nat.zero_le _, rfl, fun _ h => absurd h (by omega), _, rfl⟩
          case round =>
            obtain ⟨j, hj, rfl, hno0, n3, rfl⟩ := hrel
            have hno := Lib.hid hno0
            clear hno0
            have k3' := k3 n3
            by_cases hlt : j < t.vars.length
            · obtain ⟨b, o, rfl, h1, h2, hcell⟩ := (HV.out.keep Enc.str_laws (Alk.of_below (below_drewN (Below.refl w.heap.size W1) n3))).strAt j hlt
              have H4 := Lib.hid (fun W => only_both t.vars[j] 5 8 W (hvs _ (List.getElem_mem hlt)) (by omega) (by omega))
              have H5 : Hid (∀ m, Calls Tryz.prog 33 #[.slice (some ⟨b, o, none⟩) j c, .string t.vars[j]] (W1.drewN m) fun e w' => e = .returned (.bool ((t.vars.take j).any (eqs · t.vars[j]))) ∧ W1.drewN m = w') := Lib.hid (fun m => by
                have hk := (HV.out.keep Enc.str_laws (Alk.of_below (below_drewN (Below.refl w.heap.size W1) m))).take j (by omega)
                exact in_any _ _ _ _ _ _ hk (by rw [List.length_take]; omega))
              have hgd : t.vars.getD j ByteArray.empty = t.vars[j] := by rw [List.getD_eq_getElem?_getD, List.getElem?_eq_getElem hlt]; rfl
              have hva : Hid (varAt t.vars j = if made isBoth t.vars[j] 5 8 then (if (t.vars.take j).any (eqs · t.vars[j]) then 5 else 0) else 3) := by
                show varAt t.vars j = _
                unfold varAt
                rw [hgd]
              clear hgd
              generalize made isBoth t.vars[j] 5 8 = m at H4 hva
              generalize (t.vars.take j).any (eqs · t.vars[j]) = k at H5 hva
              go_wp2_with fail
              refine (H4.out _).mono ?_
              rintro e w1 ⟨rfl, n4, e4⟩
              obtain ⟨n5, rfl⟩ : ∃ n5, w1 = W1.drewN n5 := ⟨n3 + n4, by rw [e4, World.drewN_drewN]⟩
              have k4 := k3 n5
              have c5 : (W1.drewN n5).cell? ⟨b, o + j, none⟩ = some (.string t.vars[j]) := hcell
              clear e4 hcell k3' H4
              cases m with
              | false =>
                have hT := Lib.hid (tag_bad HF.out j hlt hno.out (by rw [hva.out]; simp))
                go_wp2_with fail
                go_ret
                exact ⟨by rw [hT.out, hva.out]; rfl, below_drewN HBW.out _⟩
              | true =>
                go_wp2_with fail
                have c6 : W1.cell? ⟨b, o + j, none⟩ = some (.string t.vars[j]) := c5
                have k6 : W1.cell? ⟨w.heap.size, 3, none⟩ = some (.slice (some ⟨b, o, none⟩) t.vars.length c) := k4
                have hjc : j ≤ c := by omega
                go_quiet ((go_at_call 33; exact quiet_add_left (H5.out _)))
                cases k with
                | true =>
                  have hT := Lib.hid (tag_bad HF.out j hlt hno.out (by rw [hva.out]; simp))
                  go_wp2_with fail
                  go_ret
                  exact ⟨by rw [hT.out, hva.out]; rfl, below_drewN HBW.out _⟩
                | false =>
                  go_wp2_with fail
                  go_roundw
                  case rel => exact ⟨j + 1, by omega, by go_num, fun q hq => by
                    rcases Nat.lt_or_eq_of_le (Nat.le_of_lt_succ hq) with h | h
                    · exact hno.out q h
                    · subst h; rw [hva.out]; rfl, _, rfl⟩
                  case measure => simp [intOf]; omega
            · have hall : ∀ q, q < t.vars.length → varAt t.vars q = 0 := fun q h => hno.out q (by omega)
              have hT := Lib.hid (tag_ok HF.out hall)
              go_wp2_with fail
              · have h3 : 3 < (t.vars.length : Int) := by assumption
                go_ret
                exact ⟨by rw [hT.out, if_pos (by omega)]; rfl, below_drewN HBW.out _⟩
              · have h3 : (t.vars.length : Int) ≤ 3 := by assumption
                go_ret
                exact ⟨by rw [hT.out, if_neg (by omega)]; rfl, below_drewN HBW.out _⟩
end Go.Proofs.YtiaobgapfoogiaaGreatDoor
/- The walk of the document's package: Cut at one byte. -/

namespace Go.Proofs.YtiaobgapfoogiaaGreatDoor
open Go.RowKit

theorem cut1_noc (c : UInt8) : ∀ l : List UInt8, (∀ b ∈ l, b ≠ c) → cut1 c l = [l]
  | [], _ => rfl
  | b :: l, h => by
    unfold cut1
    rw [if_neg (h b List.mem_cons_self), cut1_noc c l fun x hx => h x (List.mem_cons_of_mem _ hx)]
    rfl
theorem cut1_at (c : UInt8) (r : List UInt8) : ∀ l : List UInt8, (∀ b ∈ l, b ≠ c) → cut1 c (l ++ c :: r) = l :: cut1 c r
  | [], _ => by rw [List.nil_append, cut1, if_pos rfl]
  | b :: l, h => by
    rw [List.cons_append, cut1, if_neg (h b List.mem_cons_self), cut1_at c r l fun x hx => h x (List.mem_cons_of_mem _ hx)]
    rfl
theorem mem_mid {s : ByteArray} {f j : Nat} {c : UInt8} (hno : ∀ q (h : q < s.size), f ≤ q → q < j → s[q] ≠ c) : ∀ b ∈ ((bts s).take j).drop f, b ≠ c := by
  intro b hb
  obtain ⟨i, hi, rfl⟩ := List.getElem_of_mem hb
  rw [List.length_drop, List.length_take, bts_len] at hi
  rw [List.getElem_drop, List.getElem_take, bts_get s (f + i) (by omega)]
  exact hno _ _ (by omega) (by omega)
theorem cut_step (s : ByteArray) (c : UInt8) (f j : Nat) (hf : f ≤ j) (hj : j < s.size) (hno : ∀ q (h : q < s.size), f ≤ q → q < j → s[q] ≠ c) (h : s[j] = c) :
    (cut1 c ((bts s).drop f)).map str = s.extract f j :: (cut1 c ((bts s).drop (j + 1))).map str := by
  have hj' : j < (bts s).length := by rw [bts_len]; exact hj
  have e : (bts s).drop f = ((bts s).take j).drop f ++ c :: (bts s).drop (j + 1) := by
    have h1 : bts s = (bts s).take j ++ (c :: (bts s).drop (j + 1)) := by
      rw [← h, ← bts_get s j hj, List.getElem_cons_drop, List.take_append_drop]
    have h2 : f - ((bts s).take j).length = 0 := by rw [List.length_take]; omega
    calc (bts s).drop f = ((bts s).take j ++ (c :: (bts s).drop (j + 1))).drop f := by rw [← h1]
      _ = _ := by rw [List.drop_append, h2]; rfl
  rw [e, cut1_at c _ _ (mem_mid hno), List.map_cons]
  congr 1
  apply bts_inj
  rw [bts_str, bts_extract]
theorem cut_end (s : ByteArray) (c : UInt8) (f : Nat) (hno : ∀ q (h : q < s.size), f ≤ q → q < s.size → s[q] ≠ c) :
    (cut1 c ((bts s).drop f)).map str = [s.extract f s.size] := by
  have e : (bts s).drop f = ((bts s).take s.size).drop f := by rw [List.take_of_length_le (by rw [bts_len]; omega)]
  rw [e, cut1_noc c _ (mem_mid hno)]
  show [str _] = _
  congr 1
  apply bts_inj
  rw [bts_str, bts_extract]
theorem one_at (s : ByteArray) (c : UInt8) (j : Nat) (hj : j < s.size) : ((s.extract j (j + 1)).toList == (⟨#[c]⟩ : ByteArray).toList) = (s[j] == c) := by
  have h1 : (s.extract j (j + 1)).toList = [s[j]] := by
    rw [ByteArray.toList_eq]
    show bts _ = _
    have hj' : j < (bts s).length := by rw [bts_len]; exact hj
    rw [bts_extract, List.take_add_one, List.getElem?_eq_getElem hj', bts_get s j hj, List.drop_append_of_le_length (by rw [List.length_take]; omega), List.drop_of_length_le (by rw [List.length_take]; omega)]
    rfl
  have h2 : (⟨#[c]⟩ : ByteArray).toList = [c] := by rw [ByteArray.toList_eq]
  rw [h1, h2]
  simp

theorem one_news (w : World) (X : ByteArray) (t : TypeId) : ∀ q u, ([Value.string X] : List Value)[q]? = some u → (w.alloc (.cells #[.string X] t)).cell? ⟨w.heap.size, 0 + q, none⟩ = some u := fun q u hq => by
  rw [Nat.zero_add, (Blk.new w t #[.string X]).cell q]; simpa using hq
theorem own_lt' {w : World} {base : Nat} {e : TypeId} {size : Nat} {v : Value} {n : Nat} {xs : List Value} (h : w.ownsRow base e size v n xs) : ∀ k, v.ownBlock = some k → base ≤ k := fun _ hk => (own_lt h hk).1

set_option maxRecDepth 100000 in
set_option maxHeartbeats 1600000 in
theorem cut_any (s : ByteArray) (c : UInt8) (w : World) (hs : s.size ≤ 4294967296) :
    Calls Tryz.prog 48 #[.string s, .string ⟨#[c]⟩] w fun e w' => ∃ v, e = .returned v ∧ w'.ownsRow w.heap.size 9 1 v (splitS s ⟨#[c]⟩).length ((splitS s ⟨#[c]⟩).map .string) ∧ (splitS s ⟨#[c]⟩).length ≤ s.size + 1 ∧ Below w.heap.size w w' := by
  have HSp := Lib.hid (splitS_one s c)
  generalize splitS s ⟨#[c]⟩ = L at HSp ⊢
  have hp : (⟨#[c]⟩ : ByteArray).size = 1 := rfl
  have HOne := Lib.hid (one_at s c)
  generalize ep : (⟨#[c]⟩ : ByteArray) = p at *
  clear ep
  go_enter Tryz.func48, Tryz.ntmps48
  go_wp2_with fail
  go_loopw [5, 6, 7] (fun o f i wr => ∃ (j g : Nat) (R : List ByteArray), g ≤ j ∧ j ≤ s.size ∧ i = .int .i64 j ∧ f = .int .i64 g ∧ R.length ≤ g ∧ L = R ++ (cut1 c ((bts s).drop g)).map str ∧ (∀ q (h : q < s.size), g ≤ q → q < j → s[q] ≠ c) ∧ wr.ownsRow w.heap.size 9 1 o R.length (R.map .string) ∧ Below w.heap.size w wr) (fun _ _ i _ => s.size - (intOf i).toNat)
  case atStart => exact ⟨0, 0, [], Nat.le_refl _, Nat.zero_le _, rfl, rfl, Nat.le_refl _, by rw [HSp.out]; rfl, fun _ _ _ h => absurd h (by omega), own_nil, Below.refl _ _⟩
  case round =>
    obtain ⟨j, g, R, hgj, hj, rfl, rfl, hRg, hL, hno, hown, hb⟩ := hrel
    have HL := Lib.hid hL
    have HNo := Lib.hid hno
    have HO := Lib.hid hown
    have HB := Lib.hid hb
    have hbs := hb.size
    obtain ⟨B, cc, rfl, _⟩ := own_slice hown
    clear hL hno hown hb
    by_cases hlt : j < s.size
    · have H1 := HOne.out j hlt
      have HSt := Lib.hid (cut_step s c g j hgj hlt HNo.out)
      have HNx : Hid (s[j] ≠ c → ∀ q (h : q < s.size), g ≤ q → q < j + 1 → s[q] ≠ c) := Lib.hid fun h0 q hq h1 h2 => by
        rcases Nat.lt_or_eq_of_le (Nat.le_of_lt_succ h2) with h | h
        · exact HNo.out q hq h1 h
        · subst h; exact h0
      by_cases hc : s[j] = c
      · have HSt' := Lib.hid (HSt.out hc)
        have hq : ((s.extract j (j + 1)).toList == p.toList) = true := by rw [H1]; simp [hc]
        clear HSt HNx H1 hc
        go_wp2_with (at_builtin; refine wpList_append_any rfl _ _ 26 rfl w.heap.size 9 Tryz.underlying26 info_string rfl (by decide) (R.map .string) rfl (HO.out.alloc _) [.string (s.extract g j)] rfl rfl (.inr ⟨_, _, rfl, one_news _ _ _⟩) (by simp [Value.oneCell']) (by unfold maxLen; omega) (by omega) (by simp; omega) ?_)
        intro v3 w3 hown3 hgrow3 _
        have HO3 : Hid (w3.ownsRow w.heap.size 9 1 v3 (R ++ [s.extract g j]).length ((R ++ [s.extract g j]).map .string)) := Lib.hid (by simpa using hown3)
        have HB3 := Lib.hid ((HB.out.alloc (by omega) _).grown hgrow3 (by simp; omega) (own_lt' HO.out))
        clear hown3 hgrow3
        go_wp2_with fail
        go_roundw
        case rel => exact ⟨j + 1, j + 1, R ++ [s.extract g j], Nat.le_refl _, by omega, by go_num, by go_num, by simp; omega, by rw [HL.out, HSt'.out, List.append_assoc]; rfl, fun q hq h1 h2 => by omega, HO3.out, HB3.out⟩
        case measure => simp [intOf]; omega
      · have HNx' := Lib.hid (HNx.out hc)
        have hq : ((s.extract j (j + 1)).toList == p.toList) = false := by rw [H1]; simp [hc]
        clear HSt HNx H1 hc
        go_wp2_with fail
        go_roundw
        case rel => exact ⟨j + 1, g, R, by omega, by omega, by go_num, rfl, hRg, HL.out, HNx'.out, HO.out, HB.out⟩
        case measure => simp [intOf]; omega
    · obtain rfl : j = s.size := by omega
      have HE := Lib.hid (cut_end s c g HNo.out)
      go_wp2_with (at_builtin; refine wpList_append_any rfl _ _ 26 rfl w.heap.size 9 Tryz.underlying26 info_string rfl (by decide) (R.map .string) rfl (HO.out.alloc _) [.string (s.extract g s.size)] rfl rfl (.inr ⟨_, _, rfl, one_news _ _ _⟩) (by simp [Value.oneCell']) (by unfold maxLen; omega) (by omega) (by simp; omega) ?_)
      intro v3 w3 hown3 hgrow3 _
      have HO3 : Hid (w3.ownsRow w.heap.size 9 1 v3 (R ++ [s.extract g s.size]).length ((R ++ [s.extract g s.size]).map .string)) := Lib.hid (by simpa using hown3)
      have HB3 := Lib.hid ((HB.out.alloc (by omega) _).grown hgrow3 (by simp; omega) (own_lt' HO.out))
      clear hown3 hgrow3
      go_wp2_with fail
      go_ret
      have hLe : L = R ++ [s.extract g s.size] := by rw [HL.out, HE.out]
      refine ⟨_, rfl, ?_, ?_, HB3.out⟩
      · rw [hLe]; exact HO3.out
      · rw [hLe]; simp; omega
end Go.Proofs.YtiaobgapfoogiaaGreatDoor
/- The walk of the document's package: Joined, Parts, TagText. -/

namespace Go.Proofs.YtiaobgapfoogiaaGreatDoor
open Go.RowKit

theorem size_alloc1 (w : World) (o : Obj) : (w.alloc o).heap.size = w.heap.size + 1 := by simp
theorem join_take_succ (sep : List UInt8) (xs : List (List UInt8)) (j : Nat) (h0 : 0 < j) (y : List UInt8) (h : xs[j]? = some y) : Lib.join (xs.take (j + 1)) sep = Lib.join (xs.take j) sep ++ sep ++ y := by
  cases xs with
  | nil => simp at h
  | cons x r =>
    obtain ⟨k, rfl⟩ : ∃ k, j = k + 1 := ⟨j - 1, by omega⟩
    rw [List.getElem?_cons_succ] at h
    rw [List.take_succ_cons, List.take_succ_cons, Lib.join_cons, Lib.join_cons, Lib.joinTail_take_succ sep r k y h]
    simp
theorem join_take_le (sep : List UInt8) (xs : List (List UInt8)) (j : Nat) : (Lib.join (xs.take j) sep).length ≤ (Lib.join xs sep).length := by
  cases xs with
  | nil => simp
  | cons x r =>
    cases j with
    | zero => simp [Lib.join_nil]
    | succ k =>
      rw [List.take_succ_cons, Lib.join_cons, Lib.join_cons, List.length_append, List.length_append]
      have := Lib.joinTail_take_le sep r k
      omega
theorem joined_zero (l : List ByteArray) (sep : ByteArray) : joined (l.take 0) sep = ByteArray.empty := rfl
theorem joined_one (l : List ByteArray) (sep : ByteArray) (h : 0 < l.length) : joined (l.take 1) sep = joined (l.take 0) sep ++ l[0] := by
  cases l with
  | nil => simp at h
  | cons x r =>
    apply bts_inj
    rw [bts_append, joined_zero]
    show Lib.join [bts x] (bts sep) = _
    rw [Lib.join_one]; rfl
theorem joined_succ (l : List ByteArray) (sep : ByteArray) (j : Nat) (h0 : 0 < j) (h : j < l.length) : joined (l.take (j + 1)) sep = joined (l.take j) sep ++ sep ++ l[j] := by
  apply bts_inj
  rw [bts_append, bts_append]
  show Lib.join ((l.take (j + 1)).map bts) (bts sep) = Lib.join ((l.take j).map bts) (bts sep) ++ bts sep ++ bts l[j]
  rw [List.map_take, List.map_take]
  exact join_take_succ _ _ j h0 _ (by rw [List.getElem?_map, List.getElem?_eq_getElem h]; rfl)
theorem joined_size (l : List ByteArray) (sep : ByteArray) (j : Nat) : (joined (l.take j) sep).size ≤ (joined l sep).size := by
  unfold joined
  rw [str_size, str_size, List.map_take]
  exact join_take_le _ _ j

set_option maxHeartbeats 800000 in
theorem joined_any (v : Value) (l : List ByteArray) (sep : ByteArray) (lo hi : Nat) (w : World) (hv : ListOk Enc.str w lo hi v l) (hn : l.length ≤ 140737488355328) (hj : (joined l sep).size ≤ 140737488355328) :
    Calls Tryz.prog 52 #[v, .string sep] w fun e w' => e = .returned (.string (joined l sep)) ∧ w = w' := by
  obtain ⟨A, c, rfl, hlc⟩ := hv.form
  have HJ := Lib.hid hj
  clear hj
  go_enter Tryz.func52, Tryz.ntmps52
  go_wp2
  go_loop [5, 6] (fun o i => ∃ j : Nat, j ≤ l.length ∧ i = .int .i64 j ∧ o = .string (joined (l.take j) sep)) (fun _ i => l.length - (intOf i).toNat)
  case atStart => exact ⟨0, Nat.zero_le _, rfl, rfl⟩
  case round =>
    obtain ⟨j, hj, rfl, rfl⟩ := hrel
    by_cases hlt : j < l.length
    · obtain ⟨b, o, rfl, h1, h2, hc⟩ := hv.strAt j hlt
      have HSz := Lib.hid (Nat.le_trans (joined_size l sep (j + 1)) HJ.out)
      by_cases h0 : 0 < j
      · have HS := Lib.hid (joined_succ l sep j h0 hlt)
        rw [HS.out] at HSz
        have hz := HSz.out
        rw [ByteArray.size_append, ByteArray.size_append] at hz
        clear HSz
        generalize l[j] = x at *
        generalize joined (l.take j) sep = y at *
        go_wp2
        go_round
        case rel => exact ⟨j + 1, by omega, by go_num, by rw [HS.out]⟩
        case measure => simp [intOf]; omega
      · obtain rfl : j = 0 := by omega
        have HS := Lib.hid (joined_one l sep hlt)
        rw [HS.out] at HSz
        have hz := HSz.out
        rw [ByteArray.size_append] at hz
        clear HSz
        generalize l[0] = x at *
        generalize joined (l.take 0) sep = y at *
        rw [Nat.add_zero] at hc
        go_wp2
        go_round
        case rel => exact ⟨1, by omega, by go_num, by rw [HS.out]⟩
        case measure => simp [intOf]; omega
    · obtain rfl : j = l.length := by omega
      rw [List.take_length]
      go_wp2
      go_ret
      exact ⟨rfl, rfl⟩

set_option maxRecDepth 100000 in
set_option maxHeartbeats 1600000 in
theorem parts_any (t : Tg) (v : Value) (w : World) (lo : Nat) (hv : ListOk Enc.str w lo w.heap.size v t.vars) (hn : t.vars.length ≤ 4398046511104) :
    Calls Tryz.prog 53 #[.agg #[.string t.lang, .string t.script, .string t.region, v]] w fun e w' => ∃ v, e = .returned v ∧ w'.ownsRow w.heap.size 9 1 v (parts t).length ((parts t).map .string) ∧ Below w.heap.size w w' := by
  obtain ⟨A, c, rfl, hlc⟩ := hv.form
  have HV := Lib.hid hv
  have HPt : Hid (parts t = ([t.lang, t.script, t.region] ++ t.vars).filter (fun s => !eqs s ByteArray.empty)) := rfl
  clear hv
  go_enter Tryz.func53, Tryz.ntmps53
  have hb1 : Below w.heap.size w ((w.alloc (.cells #[.string t.lang, .string t.script, .string t.region, .slice A t.vars.length c] 72)).alloc (.cells #[.string t.lang, .string t.script, .string t.region] 9)) := ((Below.refl _ _).alloc (Nat.le_refl _) _).alloc (by simp) _
  have HNews := Lib.hid (news_strs (HV.out.below Enc.str_laws hb1))
  have HOwn : Hid (((w.alloc (.cells #[.string t.lang, .string t.script, .string t.region, .slice A t.vars.length c] 72)).alloc (.cells #[.string t.lang, .string t.script, .string t.region] 9)).ownsRow w.heap.size 9 1 (.slice (some ⟨w.heap.size + 1, 0, none⟩) 3 3) 3 [.string t.lang, .string t.script, .string t.region]) := Lib.hid (by
    have h := World.ownsRow_lit (base := w.heap.size) (e := 9) (size := 1) (w.alloc (.cells #[.string t.lang, .string t.script, .string t.region, .slice A t.vars.length c] 72)) #[.string t.lang, .string t.script, .string t.region] 3 (by simp) (by decide) rfl
    rwa [size_alloc1] at h)
  have HB1 := Lib.hid hb1
  clear hb1
  go_wp2_with (at_builtin; refine wpList_append_any rfl _ _ 26 rfl w.heap.size 9 Tryz.underlying26 info_string rfl (by decide) _ rfl HOwn.out (t.vars.map .string) rfl (by simp) HNews.out (strs_oneCell _) (by unfold maxLen; omega) (by omega) (by simp; omega) ?_)
  intro v3 w3 hown3 hgrow3 _
  have HO3 : Hid (w3.ownsRow w.heap.size 9 1 v3 ([t.lang, t.script, t.region] ++ t.vars).length (([t.lang, t.script, t.region] ++ t.vars).map .string)) := Lib.hid (by
    have e : ([t.lang, t.script, t.region] ++ t.vars).length = 3 + t.vars.length := by simp; omega
    rw [e]; simpa using hown3)
  have HB3 := Lib.hid (HB1.out.grown hgrow3 (by simp; omega) (own_lt' HOwn.out))
  have hs3 := HB3.out.size
  clear hown3 hgrow3 HOwn HNews HB1 HV
  have hlen : ([t.lang, t.script, t.region] ++ t.vars).length ≤ 4398046511107 := by simp; omega
  generalize ([t.lang, t.script, t.region] ++ t.vars) = L at HO3 HPt hlen
  obtain ⟨A3, c3, rfl, hlc3⟩ := own_slice HO3.out
  have HL3 : Hid (ListOk Enc.str w3 w.heap.size w3.heap.size (.slice A3 L.length c3) L) := Lib.hid (ListOk.strs_of_own HO3.out (Nat.le_refl _) (Nat.le_refl _))
  clear HO3
  go_wp2_with fail
  go_loopw [3, 5] (fun o i wr => ∃ j : Nat, j ≤ L.length ∧ i = .int .i64 j ∧ wr.ownsRow w3.heap.size 9 1 o ((L.take j).filter (fun s => !eqs s ByteArray.empty)).length (((L.take j).filter (fun s => !eqs s ByteArray.empty)).map .string) ∧ Below w3.heap.size w3 wr) (fun _ i _ => L.length - (intOf i).toNat)
  case atStart => exact ⟨0, Nat.zero_le _, rfl, own_nil, Below.refl _ _⟩
  case round =>
    obtain ⟨j, hj, rfl, hown, hb⟩ := hrel
    obtain ⟨B, cc, rfl, _⟩ := own_slice hown
    have hbs := hb.size
    have HO := Lib.hid hown
    have HB := Lib.hid hb
    clear hown hb
    by_cases hlt : j < L.length
    · obtain ⟨b, o, rfl, h1, h2, hc⟩ := (HL3.out.below Enc.str_laws HB.out).strAt j hlt
      have htk : Hid ((L.take (j + 1)).filter (fun s => !eqs s ByteArray.empty) = (L.take j).filter (fun s => !eqs s ByteArray.empty) ++ (if eqs L[j] ByteArray.empty then [] else [L[j]])) := Lib.hid (by
        rw [List.take_add_one, List.getElem?_eq_getElem hlt, List.filter_append]
        congr 1
        show List.filter _ [L[j]] = _
        cases h : eqs L[j] ByteArray.empty <;> simp [h])
      have hfl : ((L.take j).filter (fun s => !eqs s ByteArray.empty)).length ≤ j := Nat.le_trans (List.length_filter_le _ _) (by rw [List.length_take]; omega)
      generalize L[j] = x at *
      generalize ((L.take j).filter (fun s => !eqs s ByteArray.empty)) = R at *
      by_cases hx : x.toList = []
      · have hE := (eqs_nil hx).out
        rw [hE] at htk
        have htk' := Lib.hid htk.out
        clear htk hE
        go_wp2_with fail
        go_roundw
        case rel => exact ⟨j + 1, by omega, by go_num, by rw [htk'.out]; simpa using HO.out, HB.out⟩
        case measure => simp [intOf]; omega
      · have hE := (eqs_not_nil hx).out
        rw [hE] at htk
        have htk' := Lib.hid htk.out
        clear htk hE
        have hxb : x.toList.isEmpty = false := by simpa using hx
        go_wp2_with (at_builtin; refine wpList_append_any rfl _ _ 26 rfl w3.heap.size 9 Tryz.underlying26 info_string rfl (by decide) (R.map .string) rfl (HO.out.alloc _) [.string x] rfl rfl (.inr ⟨_, _, rfl, one_news _ _ _⟩) (by simp [Value.oneCell']) (by unfold maxLen; omega) (by omega) (by simp; omega) ?_)
        intro v4 w4 hown4 hgrow4 _
        have HO4 : Hid (w4.ownsRow w3.heap.size 9 1 v4 (R ++ [x]).length ((R ++ [x]).map .string)) := Lib.hid (by simpa using hown4)
        have HB4 := Lib.hid ((HB.out.alloc (by omega) _).grown hgrow4 (by simp; omega) (own_lt' HO.out))
        clear hown4 hgrow4
        go_wp2_with fail
        go_roundw
        case rel => exact ⟨j + 1, by omega, by go_num, by rw [htk'.out]; exact HO4.out, HB4.out⟩
        case measure => simp [intOf]; omega
    · obtain rfl : j = L.length := by omega
      go_wp2_with fail
      go_ret
      refine ⟨_, rfl, ?_, HB3.out.trans (HB.out.mono hs3)⟩
      have h := HO.out
      rw [HPt.out]
      have e : L.take L.length = L := List.take_length
      rw [e] at h ⊢
      exact own_mono h hs3

set_option maxHeartbeats 800000 in
theorem rtext_any (t : Tg) (v : Value) (w : World) (lo : Nat) (hv : ListOk Enc.str w lo w.heap.size v t.vars) (hn : t.vars.length ≤ 4398046511104) (hj : (tagText t).size ≤ 140737488355328) :
    Calls Tryz.prog 41 #[.agg #[.string t.lang, .string t.script, .string t.region, v]] w fun e w' => e = .returned (.string (tagText t)) ∧ Below w.heap.size w w' := by
  have HP := Lib.hid (fun W (hW : Below w.heap.size w W) => parts_any t v W lo ((hv.below Enc.str_laws hW).mono Enc.str_laws (Nat.le_refl _) hW.size) hn)
  have HJ := Lib.hid hj
  have HPl : Hid ((parts t).length ≤ 4398046511107) := Lib.hid (Nat.le_trans (List.length_filter_le _ _) (by simp; omega))
  clear hv hj
  go_enter Tryz.func41, Tryz.ntmps41
  go_wp2_with fail
  refine (HP.out _ ((Below.refl _ _).alloc (Nat.le_refl _) _)).mono ?_
  rintro e w1 ⟨u, rfl, hown, hb⟩
  have HB := Lib.hid (((Below.refl w.heap.size w).alloc (Nat.le_refl _) _).trans (hb.mono (by simp)))
  obtain ⟨A, c, rfl, _⟩ := own_slice hown
  have HX := Lib.hid (joined_any _ (parts t) dash _ _ w1 (ListOk.strs_of_own hown (Nat.le_refl _) (Nat.le_refl _)) (by have := HPl.out; omega) HJ.out)
  clear hown hb HP HPl
  go_wp2_with fail
  refine HX.out.mono ?_
  rintro e w2 ⟨rfl, rfl⟩
  go_wp2_with fail
  go_ret
  exact ⟨rfl, HB.out⟩
end Go.Proofs.YtiaobgapfoogiaaGreatDoor
/- The walk of the document's package: TagOf. -/

namespace Go.Proofs.YtiaobgapfoogiaaGreatDoor
open Go.RowKit

theorem rScript_len (l : List ByteArray) : (rScript l).2.length ≤ l.length := by
  cases l with
  | nil => exact Nat.le_refl _
  | cons p r => unfold rScript; dsimp only; split <;> simp
theorem rRegion_len (l : List ByteArray) : (rRegion l).2.length ≤ l.length := by
  cases l with
  | nil => exact Nat.le_refl _
  | cons p r => unfold rRegion; dsimp only; split <;> simp
theorem rScript_size (l : List ByteArray) : (rScript l).1.size ≤ 4 := by
  cases l with
  | nil => exact Nat.zero_le _
  | cons p r =>
    unfold rScript; dsimp only; split
    · rename_i h
      rw [ByteArray.size_append, ByteArray.size_extract]
      have e : (upperB (p.extract 0 1)).size = (p.extract 0 1).size := mapB_size _ _ _
      rw [e, ByteArray.size_extract]; omega
    · exact Nat.zero_le _
theorem rRegion_size (l : List ByteArray) : (rRegion l).1.size ≤ 3 := by
  cases l with
  | nil => exact Nat.zero_le _
  | cons p r =>
    unfold rRegion; dsimp only; split
    · rename_i h
      have e : (upperB p).size = p.size := mapB_size _ _ _
      dsimp only; omega
    · exact Nat.zero_le _
def yes4 : List ByteArray → Bool
  | [] => false
  | p :: _ => decide (p.size = 4)
def yes3 : List ByteArray → Bool
  | [] => false
  | p :: _ => decide (p.size < 4)
/-- A list behind its first member, as Go cuts it. -/
def cutOff (A : Value) (rest : List ByteArray) : Prop := ∃ A0 c, A = .slice A0 rest.length c ∧ rest.length ≤ c
set_option maxHeartbeats 3200000 in
theorem rtagof_any (s : ByteArray) (w : World) (hs : s.size < 4294967281) :
    Calls Tryz.prog 40 #[.string s] w fun e w' => Below w.heap.size w w' ∧
      ((parseTag s = none ∧ e = .returned (.tuple #[.agg #[.string ⟨#[]⟩, .string ⟨#[]⟩, .string ⟨#[]⟩, .slice none 0 0], .bool false])) ∨
        ∃ t v, parseTag s = some t ∧ e = .returned (.tuple #[.agg #[.string t.lang, .string t.script, .string t.region, v], .bool true]) ∧ ListOk Enc.str w' w.heap.size w'.heap.size v t.vars) := by
  have hl : (lowerB s).size = s.size := mapB_size _ _ _
  have HLow := Lib.hid (fun W => rlower_any s W (by omega))
  have HSplit := Lib.hid (fun W => cut_any (lowerB s) 45 W (by omega))
  have ed : (⟨#[45]⟩ : ByteArray) = dash := rfl
  rw [ed] at HSplit
  have hd : ∃ p r, splitS (lowerB s) dash = p :: r := by
    have e : dash = ⟨#[45]⟩ := rfl
    rw [e, splitS_one]
    cases h : cut1 45 (bts (lowerB s)) with
    | nil => exact absurd h (cut1_ne _ _)
    | cons a r => exact ⟨_, _, rfl⟩
  have hsz := splitS_sizes (lowerB s)
  obtain ⟨p0, r0, hpr⟩ := hd
  have hr0 : r0.length ≤ 4294967281 := by
    have h1 := splitS_length (lowerB s)
    have h2 : (bts (lowerB s)).count 45 ≤ (bts (lowerB s)).length := List.count_le_length
    rw [bts_len] at h2
    rw [hpr, countB_one, List.length_cons] at h1
    omega
  rw [hpr] at HSplit hsz
  have HRaw : Hid (rTag s = ⟨p0, (rScript r0).1, (rRegion (rScript r0).2).1, (rRegion (rScript r0).2).2⟩) := by
    show rTag s = _
    unfold rTag
    simp only [hpr, List.drop_succ_cons, List.drop_zero, List.headD_cons]
  have HPar : Hid (parseTag s = if decide (tagFault (rTag s) = 0) && eqs (lowerB (tagText (rTag s))) (lowerB s) then some (rTag s) else none) := Lib.hid (by rw [← tagOf_parse]; rfl)
  rw [hl] at hsz
  clear hl
  have HSz := Lib.hid hsz
  clear hsz hpr ed
  generalize lowerB s = ls at HLow HSplit HPar
  simp only [List.length_cons, List.map_cons] at HSplit
  go_enter Tryz.func40, Tryz.ntmps40
  go_upto_region 2 with fail
  refine (HLow.out _).mono ?_
  rintro e w1 ⟨rfl, hb1⟩
  have HB1 := Lib.hid hb1
  clear hb1
  go_upto_region 2 with fail
  refine (HSplit.out _).mono ?_
  rintro e w2 ⟨u, rfl, hown, _, hb2⟩
  have hs1 := HB1.out.size
  simp only [World.size_alloc] at hs1
  obtain ⟨A2, c2, rfl, hc2⟩ := own_slice hown
  have hL2 : ListOk Enc.str w2 w1.heap.size w2.heap.size (.slice A2 (r0.length + 1) c2) (p0 :: r0) := ListOk.strs_of_own (l := p0 :: r0) hown (Nat.le_refl _) (Nat.le_refl _)
  obtain ⟨b0, o0, rfl, g1, g2, g3⟩ := hL2.strAt 0 (by simp)
  have hbw2 : Below w.heap.size w w2 := (((Below.refl _ _).alloc (Nat.le_refl _) _).trans (HB1.out.mono (by simp))).trans (hb2.mono (by omega))
  have hs2 := hb2.size
  have hres2 : Blk w2 w.heap.size 72 #[.string ⟨#[]⟩, .string ⟨#[]⟩, .string ⟨#[]⟩, .slice none 0 0] := ((Blk.new w _ _).below HB1.out (by simp)).below hb2 (by omega)
  simp at g3
  have HL2 := Lib.hid hL2
  have HBW2 := Lib.hid hbw2
  have HRes2 := Lib.hid hres2
  clear hown hb2 hL2 hbw2 hres2 HB1 HSplit
  go_upto_region 3 with fail
  obtain ⟨wr, hwr⟩ : ∃ wr, wr = w2.alloc (.cells #[.string p0, .string ⟨#[]⟩, .string ⟨#[]⟩, .slice none 0 0] 72) := ⟨_, rfl⟩
  obtain ⟨h1, eh1⟩ : ∃ h1, h1 = w2.heap.size := ⟨_, rfl⟩
  have hP : Parts w wr h1 (.slice (some ⟨b0, o0, none⟩) (r0.length + 1) c2) p0 ByteArray.empty ByteArray.empty (p0 :: r0) := by
    refine ⟨?_, ?_, ?_, ?_, by omega, fun p hp => Nat.le_trans (HSz.out p hp) (by omega)⟩
    · rw [hwr]; exact HBW2.out.alloc HBW2.out.size _
    · rw [hwr, eh1]; exact Blk.new _ _ _
    · rw [hwr]; exact HRes2.out.alloc _
    · rw [hwr, eh1]
      exact (HL2.out.below Enc.str_laws ((Below.refl _ _).alloc (Nat.le_refl _) _)).mono Enc.str_laws (by omega) (Nat.le_refl _)
  have hp0 : p0.size ≤ 4294967281 := Nat.le_trans (HSz.out p0 List.mem_cons_self) (by omega)
  rw [← hwr, ← eh1]
  clear hwr eh1 HL2 HBW2 HRes2 HSz g1 g2 g3 hs1 hs2
  go_cut [4] (fun A' wx => cutOff A' r0 ∧ Parts w wx h1 A' p0 ByteArray.empty ByteArray.empty r0)
  case first =>
    have HP := Lib.hid hP
    clear hP HLow
    obtain ⟨k, rfl⟩ : ∃ k, c2 = k + 1 := ⟨c2 - 1, by omega⟩
    rcases k with _ | k
    · obtain rfl : r0 = [] := List.length_eq_zero_iff.1 (by omega)
      simp only [List.length_nil]
      go_wp2_with fail
      go_meet
      case rel => exact ⟨⟨_, _, rfl, Nat.zero_le _⟩, HP.out.tail0 _ _⟩
    · go_wp2_with fail
      go_meet
      case rel => exact ⟨⟨_, _, rfl, by omega⟩, HP.out.tail _ (by omega)⟩
  case rest =>
    clear hP
    obtain ⟨⟨A, c, rfl, hc⟩, hP⟩ := hcut
    have HP := Lib.hid hP
    clear hP hc2
    go_upto_region 4 with fail
    go_cut [24] (fun b wx => b = .bool (yes4 r0) ∧ Parts w wx h1 (.slice A r0.length c) p0 ByteArray.empty ByteArray.empty r0)
    case first =>
      cases r0 with
      | nil =>
        simp only [List.length_nil]
        go_wp2_with fail
        go_meet
        case rel => exact ⟨rfl, HP.out⟩
      | cons q r =>
        obtain ⟨b, o, rfl, g1, g2, g3⟩ := HP.out.list.strAt 0 (by simp)
        have hq : q.size ≤ 4294967281 := HP.out.sizes q (List.mem_cons_self)
        have HY : Hid (yes4 (q :: r) = decide (q.size = 4)) := rfl
        simp at g3
        go_wp2_with fail
        go_meet
        case rel => exact ⟨by rw [HY.out]; first | rfl | (congr 1; rw [Bool.eq_iff_iff]; simp; omega), HP.out⟩
    case rest =>
      clear HP
      obtain ⟨rfl, hP⟩ := hcut
      have HP := Lib.hid hP
      clear hP
      go_upto_if 24 with fail
      go_cut [4] (fun A' wx => cutOff A' (rScript r0).2 ∧ Parts w wx h1 A' p0 (rScript r0).1 ByteArray.empty (rScript r0).2)
      case first =>
        by_cases hy : yes4 r0 = true
        · obtain ⟨q, r, rfl⟩ : ∃ q r, r0 = q :: r := by
            cases r0 with
            | nil => cases hy
            | cons q r => exact ⟨q, r, rfl⟩
          obtain ⟨b, o, rfl, g1, g2, g3⟩ := HP.out.list.strAt 0 (by simp)
          have hq4 : q.size = 4 := of_decide_eq_true hy
          have HSc : Hid (rScript (q :: r) = (upperB (q.extract 0 1) ++ q.extract 1 4, r)) := by
            show rScript (q :: r) = _
            unfold rScript
            simp only
            rw [if_pos hq4, hq4]
          have HU := Lib.hid (fun W => rupper_any (q.extract 0 1) W (by rw [ByteArray.size_extract]; omega))
          have hx1 : (upperB (q.extract 0 1)).size = 1 := by
            show (mapB _ _ _).size = 1
            rw [mapB_size, ByteArray.size_extract]; omega
          have hx2 : (q.extract 1 4).size = 3 := by rw [ByteArray.size_extract]; omega
          generalize upperB (q.extract 0 1) = X at HU HSc hx1
          simp at g3
          have hlt := HP.out.box.lt
          have hbb := HP.out.base
          rw [hy]
          clear hy
          have k1 := HP.out.box.cell 1
          have k2 := HP.out.box.frozen 1
          simp at k1
          go_wp2_with fail
          go_region_held3 (fun w' => w'.cell? ⟨b, o, none⟩ = some (.string q)) (first | go_keep | exact g4 | exact (World.cell?_setCell_other _ _ _ _ (by intro h; injection h with h; omega)).trans g4)
            (first
              | (go_at_call 50
                 refine (HU.out _).mono ?_
                 rintro e w3 ⟨rfl, hb3⟩
                 have g4 : w3.cell? ⟨b, o, none⟩ = some (.string q) := (hb3.cell (p := ⟨b, o, none⟩) (by show b < wc.heap.size; omega)).trans g3
                 have k3 : w3.cell? ⟨h1, 1, none⟩ = some (.string ⟨#[]⟩) := (hb3.cell (p := ⟨h1, 1, none⟩) (by show h1 < wc.heap.size; omega)).trans k1
                 have k4 : w3.frozen? ⟨h1, 1, none⟩ = false := (hb3.frozen (p := ⟨h1, 1, none⟩) (by show h1 < wc.heap.size; omega)).trans k2))

          have hb3' := below_of_drew hb3
          have HP3 := Lib.hid ((HP.out.of_set hb3' 1 (.string (X ++ q.extract 1 4)) (X ++ q.extract 1 4) ByteArray.empty rfl))
          clear hb3 hb3' g4 k3 k4 g3 k1 k2 HP
          have hc2 : r.length + 1 ≤ c := by simpa using hc
          obtain ⟨k, rfl⟩ : ∃ k, c = k + 1 := ⟨c - 1, by omega⟩
          rcases k with _ | k
          · obtain rfl : r = [] := List.length_eq_zero_iff.1 (by omega)
            simp only [List.length_nil]
            go_wp2_with fail
            go_meet
            case rel => rw [HSc.out]; exact ⟨⟨_, _, rfl, Nat.zero_le _⟩, HP3.out.tail0 _ _⟩
          · have hc' : r.length ≤ k + 1 := by omega
            go_wp2_with fail
            go_meet
            case rel => rw [HSc.out]; exact ⟨⟨_, _, rfl, hc'⟩, HP3.out.tail _ hc'⟩
        · have hy' : yes4 r0 = false := by simpa using hy
          have HSc : Hid (rScript r0 = (ByteArray.empty, r0)) := by
            show rScript r0 = _
            cases r0 with
            | nil => rfl
            | cons q r =>
              unfold rScript
              simp only
              exact if_neg (of_decide_eq_false hy')
          rw [hy']
          clear hy hy'
          go_wp2_with fail
          go_meet
          case rel => rw [HSc.out]; exact ⟨⟨_, _, rfl, hc⟩, HP.out⟩
      case rest =>
        clear HP hc
        have hrl := rScript_len r0
        obtain ⟨sc, rest, hsc⟩ : ∃ sc rest, rScript r0 = (sc, rest) := ⟨_, _, rfl⟩
        have hss := rScript_size r0
        rw [hsc] at hcut HRaw hrl hss
        dsimp only at hrl
        dsimp only at hcut HRaw
        clear hsc
        obtain ⟨⟨A, c, rfl, hc⟩, hcut⟩ := hcut
        have HP := Lib.hid hcut
        clear hcut
        go_upto_region 7 with fail
        go_cut [47] (fun b wx => b = .bool (yes3 rest) ∧ Parts w wx h1 (.slice A rest.length c) p0 sc ByteArray.empty rest)
        case first =>
          cases rest with
          | nil =>
            simp only [List.length_nil]
            go_wp2_with fail
            go_meet
            case rel => exact ⟨rfl, HP.out⟩
          | cons q r =>
            obtain ⟨b, o, rfl, g1, g2, g3⟩ := HP.out.list.strAt 0 (by simp)
            have hq : q.size ≤ 4294967281 := HP.out.sizes q (List.mem_cons_self)
            have HY : Hid (yes3 (q :: r) = decide (q.size < 4)) := rfl
            simp at g3
            go_wp2_with fail
            go_meet
            case rel => exact ⟨by rw [HY.out]; first | rfl | (congr 1; rw [Bool.eq_iff_iff]; simp; omega), HP.out⟩
        case rest =>
          clear HP
          obtain ⟨rfl, hP⟩ := hcut
          have HP := Lib.hid hP
          clear hP
          go_upto_if 47 with fail
          go_cut [4] (fun A' wx => cutOff A' (rRegion rest).2 ∧ Parts w wx h1 A' p0 sc (rRegion rest).1 (rRegion rest).2)
          case first =>
            by_cases hy : yes3 rest = true
            · obtain ⟨q, r, rfl⟩ : ∃ q r, rest = q :: r := by
                cases rest with
                | nil => cases hy
                | cons q r => exact ⟨q, r, rfl⟩
              obtain ⟨b, o, rfl, g1, g2, g3⟩ := HP.out.list.strAt 0 (by simp)
              have hm : q.size < 4 := of_decide_eq_true hy
              have HSc : Hid (rRegion (q :: r) = (upperB q, r)) := by
                show rRegion (q :: r) = _
                unfold rRegion
                exact if_pos hm
              have hq : q.size ≤ 4294967281 := HP.out.sizes q (List.mem_cons_self)
              have HU := Lib.hid (fun W => rupper_any q W (by omega))
              rw [hy]
              clear hy hm
              generalize upperB q = X at HU HSc
              simp at g3
              have hlt := HP.out.box.lt
              have k1 := HP.out.box.cell 2
              have k2 := HP.out.box.frozen 2
              simp at k1
              go_wp2_with fail
              refine (HU.out _).mono ?_
              rintro e w3 ⟨rfl, hb3⟩
              have k3 : w3.cell? ⟨h1, 2, none⟩ = some (.string ⟨#[]⟩) := (hb3.cell (p := ⟨h1, 2, none⟩) hlt).trans k1
              have k4 : w3.frozen? ⟨h1, 2, none⟩ = false := (hb3.frozen (p := ⟨h1, 2, none⟩) hlt).trans k2
              have HP3 := Lib.hid ((HP.out.of_set hb3 2 (.string X) sc X rfl))
              clear hb3 k1 k2 g3 HP
              have hc2 : r.length + 1 ≤ c := by simpa using hc
              obtain ⟨k, rfl⟩ : ∃ k, c = k + 1 := ⟨c - 1, by omega⟩
              rcases k with _ | k
              · obtain rfl : r = [] := List.length_eq_zero_iff.1 (by omega)
                simp only [List.length_nil]
                go_wp2_with fail
                go_meet
                case rel => rw [HSc.out]; exact ⟨⟨_, _, rfl, Nat.zero_le _⟩, HP3.out.tail0 _ _⟩
              · have hc' : r.length ≤ k + 1 := by omega
                go_wp2_with fail
                go_meet
                case rel => rw [HSc.out]; exact ⟨⟨_, _, rfl, hc'⟩, HP3.out.tail _ hc'⟩
            · have hy' : yes3 rest = false := by simpa using hy
              have HSc : Hid (rRegion rest = (ByteArray.empty, rest)) := by
                show rRegion rest = _
                cases rest with
                | nil => rfl
                | cons q r =>
                  unfold rRegion
                  exact if_neg (of_decide_eq_false hy')
              rw [hy']
              clear hy hy'
              go_wp2_with fail
              go_meet
              case rel => rw [HSc.out]; exact ⟨⟨_, _, rfl, hc⟩, HP.out⟩
          case rest =>
            clear HP hc
            obtain ⟨rg, vs, hrg⟩ : ∃ rg vs, rRegion rest = (rg, vs) := ⟨_, _, rfl⟩
            have hvl := rRegion_len rest
            have hrs := rRegion_size rest
            rw [hrg] at hcut HRaw hvl hrs
            dsimp only at hcut HRaw hvl
            clear hrg
            obtain ⟨⟨A, c, rfl, hc⟩, hP⟩ := hcut
            have hn : vs.length ≤ 4294967281 := by omega
            have HP := Lib.hid hP
            clear hP
            go_upto_region 10 with fail
            go_cut [] (fun wx => ∃ v, Done w wx h1 p0 sc rg v vs)
            case first =>
              have hlt := HP.out.box.lt
              have k1 := HP.out.box.cell 3
              have k2 := HP.out.box.frozen 3
              simp at k1
              have HNews := Lib.hid (news_strs (HP.out.list))
              go_wp2_with (at_builtin; refine wpList_append_any rfl _ _ 26 rfl wc.heap.size 9 Tryz.underlying26 info_string rfl (by decide) [] rfl own_nil (vs.map .string) rfl (by simp) HNews.out (strs_oneCell _) (by unfold maxLen; omega) (by omega) (Nat.le_refl _) ?_)
              intro v3 w3 hown3 hgrow3 _
              have hb3 : Below wc.heap.size wc w3 := (Below.refl _ _).grown hgrow3 (Nat.le_refl _) (by simp [Value.ownBlock])
              obtain ⟨A3, c3, rfl, _⟩ := own_slice hown3
              have k3 := (hb3.cell (p := ⟨h1, 3, none⟩) hlt).trans k1
              have k4 := (hb3.frozen (p := ⟨h1, 3, none⟩) hlt).trans k2
              have HP3 := Lib.hid (HP.out.done hb3 (ListOk.strs_of_own (lo := wc.heap.size) (hi := w3.heap.size) hown3 (Nat.le_refl _) (Nat.le_refl _)))
              clear hown3 hgrow3 hb3 k1 k2 HNews
              go_wp2_with fail
              go_meet
              case rel => exact ⟨_, HP3.out⟩
            case rest =>
              clear HP
              obtain ⟨v, hD⟩ := hcut
              have HD := Lib.hid hD
              clear hD
              obtain ⟨A3, c3, rfl, _⟩ := HD.out.list.form
              dsimp only at hss hrs
              have HF := Lib.hid (rfault_any ⟨p0, sc, rg, vs⟩ (.slice A3 vs.length c3) wc _ (HD.out.list.mono Enc.str_laws (Nat.le_refl _) (Nat.le_refl _)) (by dsimp only; omega) (fun x hx => Nat.le_trans (HD.out.sizes x hx) (by omega)) (by dsimp only; omega) (by dsimp only; omega) (by dsimp only; omega))
              dsimp only at HF
              rw [HRaw.out] at HPar
              clear HRaw
              have k0 := HD.out.box.cell 0
              have k1 := HD.out.box.cell 1
              have k2 := HD.out.box.cell 2
              have k3 := HD.out.box.cell 3
              simp at k0 k1 k2 k3
              by_cases hf : tagFault ⟨p0, sc, rg, vs⟩ = 0
              · have HX : Hid (∀ W, Below wc.heap.size wc W → Calls Tryz.prog 41 #[.agg #[.string p0, .string sc, .string rg, .slice A3 vs.length c3]] W fun e w' => e = .returned (.string (tagText ⟨p0, sc, rg, vs⟩)) ∧ Below W.heap.size W w') := fun W hW => rtext_any ⟨p0, sc, rg, vs⟩ _ W _ ((HD.out.list.below Enc.str_laws hW).mono Enc.str_laws (Nat.le_refl _) hW.size) (by dsimp only; omega) (by have := tagText_size hf; omega)
                have HY := Lib.hid (fun W => rlower_any (tagText ⟨p0, sc, rg, vs⟩) W (by have := tagText_size hf; omega))
                rw [hf] at HF HPar
                clear hf
                generalize tagText ⟨p0, sc, rg, vs⟩ = X at HX HY HPar
                generalize lowerB X = Y at HY HPar
                go_wp2_with fail
                refine HF.out.mono ?_
                rintro e w3 ⟨rfl, hb3⟩
                have HD3 := Lib.hid (HD.out.moved hb3)
                have m := HD3.out.box
                have q0 := m.cell 0
                have q1 := m.cell 1
                have q2 := m.cell 2
                have q3 := m.cell 3
                simp at q0 q1 q2 q3
                have HB3 := Lib.hid hb3
                clear m hb3 k0 k1 k2 k3
                go_wp2_with fail
                refine (HX.out _ HB3.out).mono ?_
                rintro e w4 ⟨rfl, hb4⟩
                have HD4 := Lib.hid (HD3.out.moved hb4)
                clear hb4 q0 q1 q2 q3 HD3
                go_wp2_with fail
                refine (HY.out _).mono ?_
                rintro e w5 ⟨rfl, hb5⟩
                have HD5 := Lib.hid (HD4.out.moved hb5)
                clear hb5 HD4
                go_wp2_with fail
                refine (HLow.out _).mono ?_
                rintro e w6 ⟨rfl, hb6⟩
                have HD6 := Lib.hid (HD5.out.moved hb6)
                clear hb6 HD5
                have m := HD6.out.res
                have d0 := m.cell 0
                have d1 := m.cell 1
                have d2 := m.cell 2
                have d3 := m.cell 3
                have f0 := m.frozen 0
                have f1 := m.frozen 1
                have f2 := m.frozen 2
                have f3 := m.frozen 3
                have m2 := HD6.out.box
                have q0 := m2.cell 0
                have q1 := m2.cell 1
                have q2 := m2.cell 2
                have q3 := m2.cell 3
                simp at d0 d1 d2 d3 q0 q1 q2 q3
                clear m m2
                by_cases he : (Y.toList == ls.toList) = true
                · have HN : Hid (parseTag s = some ⟨p0, sc, rg, vs⟩) := by
                    have h2 := HPar.out
                    have e1 : eqs Y ls = true := he
                    rw [e1] at h2
                    exact h2
                  clear HPar
                  go_wp2_with fail
                  refine bodyPost_ret (v := .tuple #[.agg #[.string p0, .string sc, .string rg, .slice A3 vs.length c3], .bool true]) ?_ rfl ?_
                  · simp [results, Tryz.results40, go_sem, d0, d1, d2, d3]
                    try rfl
                  · refine ⟨by repeat' (first | exact HD6.out.below | (refine Below.setCell ?_ (by simp) _)), .inr ⟨_, _, HN.out, rfl, ?_⟩⟩
                    have hl6 := HD6.out.list
                    have hb6 := HD6.out.base
                    refine ListOk.mono (lo := h1 + 1) (hi := w6.heap.size) Enc.str_laws (hl6.keep Enc.str_laws fun p hp hq => ?_) (by omega) (by simp)
                    rw [World.cell?_setCell_other _ _ _ _ (by intro e; rw [← e] at hp; dsimp only at hp; omega), World.cell?_setCell_other _ _ _ _ (by intro e; rw [← e] at hp; dsimp only at hp; omega), World.cell?_setCell_other _ _ _ _ (by intro e; rw [← e] at hp; dsimp only at hp; omega), World.cell?_setCell_other _ _ _ _ (by intro e; rw [← e] at hp; dsimp only at hp; omega)]
                · have he' : (Y.toList == ls.toList) = false := by simpa using he
                  have HN : Hid (parseTag s = none) := by
                    have h2 := HPar.out
                    have e1 : eqs Y ls = false := he'
                    rw [e1] at h2
                    exact h2
                  clear HPar he
                  go_wp2_with fail
                  refine bodyPost_ret (v := .tuple #[.agg #[.string ⟨#[]⟩, .string ⟨#[]⟩, .string ⟨#[]⟩, .slice none 0 0], .bool false]) ?_ rfl ?_
                  · simp [results, Tryz.results40, go_sem, d0, d1, d2, d3]
                    try rfl
                  · exact ⟨by repeat' (first | exact HD6.out.below | (refine Below.setCell ?_ (by simp) _)), .inl ⟨HN.out, rfl⟩⟩
              · have HN : Hid (parseTag s = none) := by
                  have h2 := HPar.out
                  rw [decide_eq_false hf] at h2
                  exact h2
                clear HPar
                have HNe := hf
                generalize tagFault ⟨p0, sc, rg, vs⟩ = f at HF HNe
                have hf1 : ((f : Int) == 0) = false := by simpa using HNe
                go_wp2_with fail
                refine HF.out.mono ?_
                rintro e w3 ⟨rfl, hb3⟩
                have HD3 := Lib.hid (HD.out.moved hb3)
                have m := HD3.out.res
                have d0 := m.cell 0
                have d1 := m.cell 1
                have d2 := m.cell 2
                have d3 := m.cell 3
                have f0 := m.frozen 0
                have f1 := m.frozen 1
                have f2 := m.frozen 2
                have f3 := m.frozen 3
                simp at d0 d1 d2 d3
                clear m hb3 k0 k1 k2 k3 hf
                go_wp2_with fail
                refine bodyPost_ret (v := .tuple #[.agg #[.string ⟨#[]⟩, .string ⟨#[]⟩, .string ⟨#[]⟩, .slice none 0 0], .bool false]) ?_ rfl ?_
                · simp [results, Tryz.results40, go_sem, d0, d1, d2, d3]
                  try rfl
                · exact ⟨by repeat' (first | exact HD3.out.below | (refine Below.setCell ?_ (by simp) _)), .inl ⟨HN.out, rfl⟩⟩
end Go.Proofs.YtiaobgapfoogiaaGreatDoor
