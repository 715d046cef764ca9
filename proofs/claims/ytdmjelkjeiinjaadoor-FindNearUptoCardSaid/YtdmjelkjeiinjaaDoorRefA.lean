/- The walk of the document's package: Lower, Upper, Only, Joined. -/
import Derived.Test.YtdmjelkjeiinjaaDoorMapped
import Derived.Test.YtdmjelkjeiinjaaDoorTagR
set_option linter.unusedSimpArgs false
set_option linter.unusedVariables false
namespace Go.Proofs.YtdmjelkjeiinjaaDoor
open Go.RowKit

set_option maxRecDepth 100000 in
theorem high_xor : ∀ c : UInt8, 65 ≤ c.toNat → c.toNat ≤ 90 → (c ^^^ 32).toNat = c.toNat + 32 := by
  have h : ∀ n : Fin 256, 65 ≤ (UInt8.ofFin n).toNat → (UInt8.ofFin n).toNat ≤ 90 → (UInt8.ofFin n ^^^ 32).toNat = (UInt8.ofFin n).toNat + 32 := by decide
  intro c
  exact h c.toFin
set_option maxRecDepth 100000 in
theorem low_xor : ∀ c : UInt8, 97 ≤ c.toNat → c.toNat ≤ 122 → (c ^^^ 32).toNat = c.toNat - 32 := by
  have h : ∀ n : Fin 256, 97 ≤ (UInt8.ofFin n).toNat → (UInt8.ofFin n).toNat ≤ 122 → (UInt8.ofFin n ^^^ 32).toNat = (UInt8.ofFin n).toNat - 32 := by decide
  intro c
  exact h c.toFin

set_option maxRecDepth 100000 in
set_option maxHeartbeats 800000 in
theorem rlower_any (s : ByteArray) (w : World) (hs : s.size ≤ 140737488355328) :
    Calls Tryd.prog 44 #[.string s] w fun e w' => e = .returned (.string (lowerB s)) ∧ Below w.heap.size w w' := by
  have hconv := run_bytes_of_string (P := Tryd.prog) w 9 97 5 s Tryd.underlying9 Tryd.underlying97 Tryd.underlying5
  have hC : ∀ q, q < s.size → (bytesRow s (grownCap w s.size 0 5))[q]? = some (.int .u8 ((turnedAt isHigh 32 s 0 q).toNat : Int)) := fun q hq => by
    rw [bytesRow_at s _ q hq]
    unfold turnedAt
    rw [dif_pos hq, if_neg (by omega)]
    rfl
  have hCs : s.size ≤ (bytesRow s (grownCap w s.size 0 5)).size := by
    unfold bytesRow
    rw [Array.size_append]; simp
  have hG := grownCap_ge w s.size 0 5
  generalize bytesRow s (grownCap w s.size 0 5) = C at hconv hC hCs
  generalize grownCap w s.size 0 5 = G at hconv hG
  have hini : Turned w (w.drew.alloc (.cells C 5 (C.size, C.size + 1))) isHigh 32 s 0 := ⟨((Below.refl _ _).drew).alloc (Nat.le_refl _) _, fun q hq => (World.cell?_alloc_mark w.drew C 5 _ q).trans (hC q hq), fun q hq => by
    rw [show w.heap.size = w.drew.heap.size from rfl, World.frozen?_alloc_mark]
    simp; omega⟩
  have HI := Lib.hid hini
  clear hC hini
  have HF : Hid (∀ wr, Turned w wr isHigh 32 s s.size → (convert 97 9 (.slice (some ⟨w.heap.size, 0, none⟩) s.size G)).run Tryd.prog wr = .ok (.string (lowerB s)) wr) := fun wr hT => by
    have h := run_convert_bytes_back (P := Tryd.prog) wr 97 9 5 ⟨w.heap.size, 0, none⟩ G ((bts s).map fun c => if isHigh c then c ^^^ 32 else c) Tryd.underlying97 Tryd.underlying5 Tryd.underlying9 (fun j hj => by
      have hj' : j < s.size := by rw [List.length_map, bts_len] at hj; exact hj
      have e1 : ((⟨w.heap.size, 0, none⟩ : Addr).add j) = ⟨w.heap.size, j, none⟩ := by
        unfold Addr.add
        by_cases h0 : j = 0
        · rw [if_pos h0, h0]
        · rw [if_neg h0]; simp
      rw [e1, hT.cell j hj']
      unfold turnedAt turned
      rw [dif_pos hj', if_pos hj', List.getElem_map, bts_get s j hj'])
    rw [List.length_map, bts_len] at h
    exact h
  go_enter Tryd.func44, Tryd.ntmps44
  go_wp2_with fail
  go_loopw [4] (fun i wr => ∃ j : Nat, j ≤ s.size ∧ i = .int .i64 j ∧ Turned w wr isHigh 32 s j) (fun i _ => s.size - (intOf i).toNat)
  case atStart => exact ⟨0, Nat.zero_le _, rfl, HI.out⟩
  case round =>
    clear HI
    obtain ⟨j, hj, rfl, hT⟩ := hrel
    by_cases hlt : j < s.size
    · have hc := hT.cell j hlt
      rw [turnedAt_new hlt] at hc
      have hf := hT.cold j hlt
      have HT := Lib.hid hT
      clear hT
      obtain ⟨c, hcc⟩ : ∃ c, c = s[j] := ⟨_, rfl⟩
      rw [← hcc] at hc
      have HCC := Lib.hid hcc
      clear hcc
      have HX := Lib.hid (high_xor c)
      have HH : Hid (isHigh c = (decide (65 ≤ c.toNat) && decide (c.toNat ≤ 90))) := rfl
      have HTn : Hid (turned isHigh 32 c = if isHigh c then c ^^^ 32 else c) := rfl
      have HL := Lib.hid c.toNat_lt
      by_cases h1 : 65 ≤ c.toNat
      · by_cases h2 : c.toNat ≤ 90
        · have HY := Lib.hid (HX.out h1 h2)
          have HE : Hid (turned isHigh 32 c = c ^^^ 32) := Lib.hid (by rw [HTn.out, HH.out]; simp [h1, h2])
          clear HX HH HTn
          generalize c.toNat = n at hc h1 h2 HY HL
          go_wp2_with fail
          go_roundw
          case rel => 
            refine ⟨j + 1, by omega, by go_num, HT.out.put hlt ?_⟩
            rw [← HCC.out, HE.out, HY.out]; go_num
          case measure => simp [intOf]; omega
        · have HE : Hid (turned isHigh 32 c = c) := Lib.hid (by rw [HTn.out, HH.out]; simp [h2])
          clear HX HH HTn
          generalize c.toNat = n at hc h1 h2 HL
          go_wp2_with fail
          go_roundw
          case rel => exact ⟨j + 1, by omega, by go_num, HT.out.skip hlt (by rw [← HCC.out, HE.out])⟩
          case measure => simp [intOf]; omega
      · have HE : Hid (turned isHigh 32 c = c) := Lib.hid (by rw [HTn.out, HH.out]; simp [h1])
        clear HX HH HTn
        generalize c.toNat = n at hc h1 HL
        go_wp2_with fail
        go_roundw
        case rel => exact ⟨j + 1, by omega, by go_num, HT.out.skip hlt (by rw [← HCC.out, HE.out])⟩
        case measure => simp [intOf]; omega
    · obtain rfl : j = s.size := by omega
      have hback := HF.out _ hT
      have HT := Lib.hid hT
      clear hT HF
      go_wp2_with fail
      go_ret
      exact ⟨rfl, HT.out.below⟩
set_option maxRecDepth 100000 in
set_option maxHeartbeats 800000 in
theorem rupper_any (s : ByteArray) (w : World) (hs : s.size ≤ 140737488355328) :
    Calls Tryd.prog 45 #[.string s] w fun e w' => e = .returned (.string (upperB s)) ∧ Below w.heap.size w w' := by
  have hconv := run_bytes_of_string (P := Tryd.prog) w 9 97 5 s Tryd.underlying9 Tryd.underlying97 Tryd.underlying5
  have hC : ∀ q, q < s.size → (bytesRow s (grownCap w s.size 0 5))[q]? = some (.int .u8 ((turnedAt isLow 32 s 0 q).toNat : Int)) := fun q hq => by
    rw [bytesRow_at s _ q hq]
    unfold turnedAt
    rw [dif_pos hq, if_neg (by omega)]
    rfl
  have hCs : s.size ≤ (bytesRow s (grownCap w s.size 0 5)).size := by
    unfold bytesRow
    rw [Array.size_append]; simp
  have hG := grownCap_ge w s.size 0 5
  generalize bytesRow s (grownCap w s.size 0 5) = C at hconv hC hCs
  generalize grownCap w s.size 0 5 = G at hconv hG
  have hini : Turned w (w.drew.alloc (.cells C 5 (C.size, C.size + 1))) isLow 32 s 0 := ⟨((Below.refl _ _).drew).alloc (Nat.le_refl _) _, fun q hq => (World.cell?_alloc_mark w.drew C 5 _ q).trans (hC q hq), fun q hq => by
    rw [show w.heap.size = w.drew.heap.size from rfl, World.frozen?_alloc_mark]
    simp; omega⟩
  have HI := Lib.hid hini
  clear hC hini
  have HF : Hid (∀ wr, Turned w wr isLow 32 s s.size → (convert 97 9 (.slice (some ⟨w.heap.size, 0, none⟩) s.size G)).run Tryd.prog wr = .ok (.string (upperB s)) wr) := fun wr hT => by
    have h := run_convert_bytes_back (P := Tryd.prog) wr 97 9 5 ⟨w.heap.size, 0, none⟩ G ((bts s).map fun c => if isLow c then c ^^^ 32 else c) Tryd.underlying97 Tryd.underlying5 Tryd.underlying9 (fun j hj => by
      have hj' : j < s.size := by rw [List.length_map, bts_len] at hj; exact hj
      have e1 : ((⟨w.heap.size, 0, none⟩ : Addr).add j) = ⟨w.heap.size, j, none⟩ := by
        unfold Addr.add
        by_cases h0 : j = 0
        · rw [if_pos h0, h0]
        · rw [if_neg h0]; simp
      rw [e1, hT.cell j hj']
      unfold turnedAt turned
      rw [dif_pos hj', if_pos hj', List.getElem_map, bts_get s j hj'])
    rw [List.length_map, bts_len] at h
    exact h
  go_enter Tryd.func45, Tryd.ntmps45
  go_wp2_with fail
  go_loopw [4] (fun i wr => ∃ j : Nat, j ≤ s.size ∧ i = .int .i64 j ∧ Turned w wr isLow 32 s j) (fun i _ => s.size - (intOf i).toNat)
  case atStart => exact ⟨0, Nat.zero_le _, rfl, HI.out⟩
  case round =>
    clear HI
    obtain ⟨j, hj, rfl, hT⟩ := hrel
    by_cases hlt : j < s.size
    · have hc := hT.cell j hlt
      rw [turnedAt_new hlt] at hc
      have hf := hT.cold j hlt
      have HT := Lib.hid hT
      clear hT
      obtain ⟨c, hcc⟩ : ∃ c, c = s[j] := ⟨_, rfl⟩
      rw [← hcc] at hc
      have HCC := Lib.hid hcc
      clear hcc
      have HX := Lib.hid (low_xor c)
      have HH : Hid (isLow c = (decide (97 ≤ c.toNat) && decide (c.toNat ≤ 122))) := rfl
      have HTn : Hid (turned isLow 32 c = if isLow c then c ^^^ 32 else c) := rfl
      have HL := Lib.hid c.toNat_lt
      by_cases h1 : 97 ≤ c.toNat
      · by_cases h2 : c.toNat ≤ 122
        · have HY := Lib.hid (HX.out h1 h2)
          have HE : Hid (turned isLow 32 c = c ^^^ 32) := Lib.hid (by rw [HTn.out, HH.out]; simp [h1, h2])
          clear HX HH HTn
          generalize c.toNat = n at hc h1 h2 HY HL
          go_wp2_with fail
          go_roundw
          case rel => 
            refine ⟨j + 1, by omega, by go_num, HT.out.put hlt ?_⟩
            rw [← HCC.out, HE.out, HY.out]; go_num
          case measure => simp [intOf]; omega
        · have HE : Hid (turned isLow 32 c = c) := Lib.hid (by rw [HTn.out, HH.out]; simp [h2])
          clear HX HH HTn
          generalize c.toNat = n at hc h1 h2 HL
          go_wp2_with fail
          go_roundw
          case rel => exact ⟨j + 1, by omega, by go_num, HT.out.skip hlt (by rw [← HCC.out, HE.out])⟩
          case measure => simp [intOf]; omega
      · have HE : Hid (turned isLow 32 c = c) := Lib.hid (by rw [HTn.out, HH.out]; simp [h1])
        clear HX HH HTn
        generalize c.toNat = n at hc h1 HL
        go_wp2_with fail
        go_roundw
        case rel => exact ⟨j + 1, by omega, by go_num, HT.out.skip hlt (by rw [← HCC.out, HE.out])⟩
        case measure => simp [intOf]; omega
    · obtain rfl : j = s.size := by omega
      have hback := HF.out _ hT
      have HT := Lib.hid hT
      clear hT HF
      go_wp2_with fail
      go_ret
      exact ⟨rfl, HT.out.below⟩
def onlyB (s o : ByteArray) (a b : Nat) : Bool := (bts s).all (fun c => (bts o).contains c) && (decide (a ≤ s.size) && decide (s.size ≤ b))
theorem take_contains (o : ByteArray) (c : UInt8) (k : Nat) (hk : k < o.size) : ((bts o).take (k + 1)).contains c = (((bts o).take k).contains c || (c == o[k])) := by
  have hk' : k < (bts o).length := by rw [bts_len]; exact hk
  rw [List.take_add_one, List.getElem?_eq_getElem hk', bts_get o k hk, List.contains_eq_any_beq, List.any_append, List.contains_eq_any_beq]
  simp
theorem all_at (p : UInt8 → Bool) (s : ByteArray) (j : Nat) (hj : j < s.size) (h : ((bts s).take j).all p = true) : ((bts s).take (j + 1)).all p = p s[j] := by
  have hj' : j < (bts s).length := by rw [bts_len]; exact hj
  rw [List.take_add_one, List.getElem?_eq_getElem hj', bts_get s j hj, List.all_append, h]
  simp
theorem not_all_at (p : UInt8 → Bool) (s : ByteArray) (j : Nat) (hj : j < s.size) (h : p s[j] = false) : (bts s).all p = false := not_all_bts p s j hj h
theorem u8_eq (c d : UInt8) : (c == d) = decide ((c.toNat : Int) = (d.toNat : Int)) := by
  rw [Bool.eq_iff_iff, beq_iff_eq, decide_eq_true_eq]
  refine ⟨fun h => by rw [h], fun h => ?_⟩
  exact UInt8.toNat_inj.1 (by omega)
set_option maxRecDepth 100000 in
set_option maxHeartbeats 800000 in
theorem only_any (s o : ByteArray) (a b : Nat) (w : World) (hs : s.size ≤ 9223372036854775807) (ho : o.size ≤ 1000) (ha : a ≤ 1000) (hb : b ≤ 1000) :
    Calls Tryd.prog 63 #[.string s, .string o, .int .i64 a, .int .i64 b] w fun e w' => e = .returned (.bool (onlyB s o a b)) ∧ ∃ n, w' = w.drewN n := by
  have HU : Hid (onlyB s o a b = ((bts s).all (fun c => (bts o).contains c) && (decide (a ≤ s.size) && decide (s.size ≤ b)))) := rfl
  go_enter Tryd.func63, Tryd.ntmps63
  go_wp2_with fail
  go_loopw [9, 10, 11] (fun i _ _ wr => ∃ j : Nat, j ≤ s.size ∧ i = .int .i64 j ∧ ((bts s).take j).all (fun c => (bts o).contains c) = true ∧ ∃ n, wr = w.drewN n) (fun i _ _ _ => s.size - (intOf i).toNat)
  case atStart => exact ⟨0, Nat.zero_le _, rfl, rfl, 0, rfl⟩
  case round =>
    obtain ⟨j, hj, rfl, hno0, n, rfl⟩ := hrel
    have HNo := Lib.hid hno0
    clear hno0
    by_cases hlt : j < s.size
    · have HA := Lib.hid (all_at _ s j hlt HNo.out)
      have HN := Lib.hid (not_all_at (fun c => (bts o).contains c) s j hlt)
      have HL := Lib.hid s[j].toNat_lt
      generalize ec : s[j] = c at *
      go_wp2_with fail
      go_loopw [10, 11] (fun x k wx => ∃ m : Nat, m ≤ o.size ∧ k = .int .i64 m ∧ x = .bool (((bts o).take m).contains c) ∧ ∃ n, wx = w.drewN n) (fun _ k _ => o.size - (intOf k).toNat)
      case atStart => exact ⟨0, Nat.zero_le _, rfl, rfl, n, rfl⟩
      case round =>
        obtain ⟨m, hm, rfl, rfl, n2, rfl⟩ := hrel
        by_cases hlm : m < o.size
        · have HT := Lib.hid (take_contains o c m hlm)
          cases hp : ((bts o).take m).contains c with
          | true =>
            rw [hp] at HT
            go_wp2_with fail
            go_quiet (fail)
            go_wp2_with fail
            go_roundw
            case rel => exact ⟨m + 1, by omega, by go_num, by rw [HT.out]; rfl, _, rfl⟩
            case measure => simp [intOf]; omega
          | false =>
            rw [hp] at HT
            go_wp2_with fail
            go_quiet (fail)
            go_wp2_with fail
            go_roundw
            case rel => exact ⟨m + 1, by omega, by go_num, by rw [HT.out, u8_eq]; rfl, _, rfl⟩
            case measure => simp [intOf]; omega
        · obtain rfl : m = o.size := by omega
          rw [List.take_of_length_le (by rw [bts_len]; omega)]
          cases hp : (bts o).contains c with
          | true =>
            rw [hp] at HA
            go_wp2_with fail
            go_roundw
            case rel => exact ⟨j + 1, by omega, by go_num, HA.out, n2, rfl⟩
            case measure => simp [intOf]; omega
          | false =>
            have HF := Lib.hid (HN.out hp)
            go_wp2_with fail
            go_ret
            exact ⟨ret_bool (by rw [HU.out, HF.out]; rfl), n2, rfl⟩
    · obtain rfl : j = s.size := by omega
      have HF : Hid ((bts s).all (fun c => (bts o).contains c) = true) := Lib.hid (by have := HNo.out; rwa [List.take_of_length_le (by rw [bts_len]; omega)] at this)
      go_wp2_with fail
      · go_ret
        have h1 : a ≤ s.size := by assumption
        exact ⟨ret_bool (by rw [HU.out, HF.out]; simp [h1]), n, rfl⟩
      · go_ret
        have h1 : ¬ a ≤ s.size := by assumption
        exact ⟨ret_bool (by rw [HU.out, HF.out]; simp [h1]), n, rfl⟩
theorem contains_byte (o : ByteArray) (p : UInt8 → Bool) (h : ∀ n, n < 256 → (bts o).contains (UInt8.ofNat n) = p (UInt8.ofNat n)) (s : ByteArray) (a b : Nat) : onlyB s o a b = made p s a b := by
  unfold onlyB made
  congr 2
  funext c
  have := h c.toNat c.toNat_lt
  rwa [UInt8.ofNat_toNat] at this
theorem only_low (s : ByteArray) (a b : Nat) (w : World) (hs : s.size ≤ 9223372036854775807) (ha : a ≤ 1000) (hb : b ≤ 1000) :
    Calls Tryd.prog 63 #[.string s, .string ⟨#[97,98,99,100,101,102,103,104,105,106,107,108,109,110,111,112,113,114,115,116,117,118,119,120,121,122]⟩, .int .i64 a, .int .i64 b] w fun e w' => e = .returned (.bool (made isLow s a b)) ∧ ∃ n, w' = w.drewN n := by
  rw [← contains_byte ⟨#[97,98,99,100,101,102,103,104,105,106,107,108,109,110,111,112,113,114,115,116,117,118,119,120,121,122]⟩ isLow (by decide +kernel) s a b]
  exact only_any s _ a b w hs (by decide) ha hb
theorem only_high (s : ByteArray) (a b : Nat) (w : World) (hs : s.size ≤ 9223372036854775807) (ha : a ≤ 1000) (hb : b ≤ 1000) :
    Calls Tryd.prog 63 #[.string s, .string ⟨#[65,66,67,68,69,70,71,72,73,74,75,76,77,78,79,80,81,82,83,84,85,86,87,88,89,90]⟩, .int .i64 a, .int .i64 b] w fun e w' => e = .returned (.bool (made isHigh s a b)) ∧ ∃ n, w' = w.drewN n := by
  rw [← contains_byte ⟨#[65,66,67,68,69,70,71,72,73,74,75,76,77,78,79,80,81,82,83,84,85,86,87,88,89,90]⟩ isHigh (by decide +kernel) s a b]
  exact only_any s _ a b w hs (by decide) ha hb
theorem only_dig (s : ByteArray) (a b : Nat) (w : World) (hs : s.size ≤ 9223372036854775807) (ha : a ≤ 1000) (hb : b ≤ 1000) :
    Calls Tryd.prog 63 #[.string s, .string ⟨#[48,49,50,51,52,53,54,55,56,57]⟩, .int .i64 a, .int .i64 b] w fun e w' => e = .returned (.bool (made isDig s a b)) ∧ ∃ n, w' = w.drewN n := by
  rw [← contains_byte ⟨#[48,49,50,51,52,53,54,55,56,57]⟩ isDig (by decide +kernel) s a b]
  exact only_any s _ a b w hs (by decide) ha hb
theorem only_both (s : ByteArray) (a b : Nat) (w : World) (hs : s.size ≤ 9223372036854775807) (ha : a ≤ 1000) (hb : b ≤ 1000) :
    Calls Tryd.prog 63 #[.string s, .string ⟨#[97,98,99,100,101,102,103,104,105,106,107,108,109,110,111,112,113,114,115,116,117,118,119,120,121,122,48,49,50,51,52,53,54,55,56,57]⟩, .int .i64 a, .int .i64 b] w fun e w' => e = .returned (.bool (made isBoth s a b)) ∧ ∃ n, w' = w.drewN n := by
  rw [← contains_byte ⟨#[97,98,99,100,101,102,103,104,105,106,107,108,109,110,111,112,113,114,115,116,117,118,119,120,121,122,48,49,50,51,52,53,54,55,56,57]⟩ isBoth (by decide +kernel) s a b]
  exact only_any s _ a b w hs (by decide) ha hb
end Go.Proofs.YtdmjelkjeiinjaaDoor
