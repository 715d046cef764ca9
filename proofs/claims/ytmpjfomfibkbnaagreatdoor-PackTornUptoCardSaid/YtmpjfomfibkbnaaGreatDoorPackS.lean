/- The walks of the two sums: by a table, and bit by bit. -/
import Derived.Test.YtmpjfomfibkbnaaGreatDoorSum
import Derived.Test.YtmpjfomfibkbnaaGreatDoorDrawn
import Derived.Laws.BitsAllLaws
import Derived.Laws.Tables
import Derived.Laws.Rows
set_option linter.unusedSimpArgs false
set_option linter.unusedVariables false
namespace Go.Proofs.YtmpjfomfibkbnaaGreatDoor
open Go.RowKit

def stepN (c : Nat) : Nat → Nat
  | 0 => c
  | k + 1 => bitStep (stepN c k)
theorem stepN_8 (c : Nat) : stepN c 8 = bits8 c := rfl
theorem stepN_lt {c : Nat} (h : c < 4294967296) : ∀ k, stepN c k < 4294967296
  | 0 => h
  | k + 1 => bitStep_lt (stepN_lt h k)
def tabN (i : Nat) : Array Value := ((List.range 256).map fun j => Value.int .u32 ((if j < i then bits8 j else 0 : Nat) : Int)).toArray
theorem tabN_size (i : Nat) : (tabN i).size = 256 := by unfold tabN; simp
theorem bit_odd {c : Nat} (h : c < 4294967296) (h1 : c % 2 = 1) : bits .and .u32 (c : Int) 1 = 1 := by
  have := u32_and_nat c 1 h (by decide)
  rw [nat_mask1, h1] at this
  exact this
theorem bit_even {c : Nat} (h : c < 4294967296) (h1 : c % 2 = 0) : bits .and .u32 (c : Int) 1 = 0 := by
  have := u32_and_nat c 1 h (by decide)
  rw [nat_mask1, h1] at this
  exact this
theorem tabN_zero : Tryz.zeroCells76 = tabN 0 := by
  unfold tabN
  simp only [Nat.not_lt_zero, if_false]
  kernel_rfl
theorem tabN_set (i : Nat) (hi : i < 256) : (tabN i).setIfInBounds i (.int .u32 (bits8 i : Nat)) = tabN (i + 1) := by
  unfold tabN
  rw [List.setIfInBounds_toArray]
  congr 1
  apply List.ext_getElem
  · simp
  · intro j h1 h2
    rw [List.getElem_set]
    simp only [List.getElem_map, List.getElem_range]
    by_cases h : i = j
    · subst h; rw [if_pos rfl, if_pos (by omega)]
    · rw [if_neg h]
      by_cases h3 : j < i
      · rw [if_pos h3, if_pos (by omega)]
      · rw [if_neg h3, if_neg (by omega)]
theorem tabN_at (i j : Nat) (hj : j < 256) : (tabN i)[j]? = some (.int .u32 ((if j < i then bits8 j else 0 : Nat) : Int)) := by
  unfold tabN; simp [hj]
theorem tabN_one (i : Nat) : (tabN i).all (·.oneCell') = true := by
  unfold tabN
  rw [Array.all_eq_true]
  intro j hj
  simp [Value.oneCell']
theorem xor_poly {c : Nat} (h : c < 4294967296) (h1 : c % 2 = 1) : bits .xor .u32 ((c : Int) / 2) 3988292384 = (bitStep c : Nat) := by
  have h2 := u32_xor_nat (c / 2) poly (by omega) (by decide)
  have e : (c : Int) / 2 = ((c / 2 : Nat) : Int) := by omega
  rw [e]
  have e2 : bitStep c = c / 2 ^^^ poly := by unfold bitStep; rw [if_pos h1, Nat.shiftRight_eq_div_pow]
  rw [e2]; exact h2
theorem half_even {c : Nat} (h1 : c % 2 = 0) : (c : Int) / 2 = (bitStep c : Nat) := by
  unfold bitStep
  rw [if_neg (by omega), Nat.shiftRight_eq_div_pow]; omega

theorem below_setRow {B g : Nat} {a w : World} (h : Below B a w) (hg : B ≤ g) (cs : Array Value) : Below B a (w.setRow g cs) :=
  h.trans ⟨rfl, rfl, rfl, by simp [World.setRow], fun k hk => setRow_other w g k cs (by omega)⟩
theorem tab_info : (Tryz.prog.info? 76).map (·.size) = some (tabN 256).size := by rw [tabN_size]; kernel_rfl

set_option maxHeartbeats 3200000 in
set_option maxRecDepth 100000 in
theorem table_any (w : World) : Calls Tryz.prog 39 #[] w fun e w' => e = .returned (.agg (tabN 256)) ∧ Below w.heap.size w w' := by
  go_enter Tryz.func39, Tryz.ntmps39
  go_wp2_with fail
  rw [tabN_zero]
  obtain ⟨W1, eW1⟩ : ∃ W1, W1 = w.alloc (.cells (tabN 0) 76) := ⟨_, rfl⟩
  have mb : Blk W1 w.heap.size 76 (tabN 0) := by rw [eW1]; exact Blk.new _ _ _
  have hb1 : Below w.heap.size w W1 := by rw [eW1]; exact (Below.refl _ _).alloc (Nat.le_refl _) _
  have HM := Lib.hid mb
  have HB := Lib.hid hb1
  rw [← eW1]
  clear eW1 mb hb1
  go_loopw [1, 2, 3, 8] (fun _ _ i _ wr => ∃ j : Nat, j ≤ 256 ∧ i = .int .i64 j ∧ Blk wr w.heap.size 76 (tabN j) ∧ Below w.heap.size w wr) (fun _ _ i _ _ => 256 - (intOf i).toNat)
  case atStart => exact ⟨0, by omega, rfl, HM.out, HB.out⟩
  case round =>
    obtain ⟨j, hj, rfl, hbk, hb⟩ := hrel
    have HBk := Lib.hid hbk
    have HBl := Lib.hid hb
    have hs := hb.size
    clear hbk hb HM HB
    by_cases hlt : j < 256
    · have i0 : (0 : Int) ≤ (j : Int) := Int.natCast_nonneg j
      have i1 : (j : Int) < 256 := by omega
      obtain ⟨wo, rfl⟩ : ∃ wo : World, wo = wr := ⟨_, rfl⟩
      go_wp2_with fail
      go_loop [2, 8] (fun c k => ∃ q : Nat, q ≤ 8 ∧ k = .int .i64 q ∧ c = .int .u32 (stepN j q : Nat)) (fun _ k => 8 - (intOf k).toNat)
      case atStart => exact ⟨0, by omega, rfl, rfl⟩
      case round =>
        obtain ⟨q, hq, rfl, rfl⟩ := hrel
        by_cases hq2 : q < 8
        · have hc := stepN_lt (c := j) (by omega) q
          have HS : Hid (stepN j (q + 1) = bitStep (stepN j q)) := Lib.hid rfl
          generalize stepN j q = c at *
          have c0 : (0 : Int) ≤ (c : Int) := Int.natCast_nonneg c
          rcases Nat.mod_two_eq_zero_or_one c with hp | hp
          · have hb := bit_even hc hp
            have hh := Lib.hid (half_even hp)
            clear hp hc
            go_wp2_with fail
            go_round
            case rel => exact ⟨q + 1, by omega, by go_num, by rw [HS.out, hh.out]⟩
            case measure => simp [intOf]; omega
          · have hb := bit_odd hc hp
            have hh := xor_poly hc hp
            clear hp hc
            go_wp2_with fail
            go_round
            case rel => exact ⟨q + 1, by omega, by go_num, by rw [HS.out]⟩
            case measure => simp [intOf]; omega
        · obtain rfl : q = 8 := by omega
          have h1 : wo.cell? ⟨w.heap.size, j, none⟩ = some (.int .u32 ((if j < j then bits8 j else 0 : Nat) : Int)) := (HBk.out.cell j).trans (tabN_at j j hlt)
          have h2 := HBk.out.frozen j
          have HN : Hid (Blk (wo.setCell ⟨w.heap.size, j, none⟩ (.int .u32 (stepN j 8 : Nat))) w.heap.size 76 (tabN (j + 1))) := Lib.hid (by
            have := HBk.out.set_ j (.int .u32 (bits8 j : Nat))
            rw [tabN_set j hlt] at this
            exact this)
          have HN2 := Lib.hid (HBl.out.setCell (p := ⟨w.heap.size, j, none⟩) (Nat.le_refl _) (.int .u32 (stepN j 8 : Nat)))
          go_wp2_with fail
          exact ⟨⟨j + 1, by omega, by go_num, HN.out, HN2.out⟩, by simp [intOf]; omega⟩
    · obtain rfl : j = 256 := by omega
      go_wp2_with (first
        | (refine wpList_load_row rfl 76 _ rfl w.heap.size rfl 76 (tabN 256) (0, 0) _ HBk.out Tryz.underlying76 rfl tab_info ?_)
        | (refine wpList_store_row rfl 76 _ _ rfl w.heap.size (tabN 256) rfl rfl 76 (tabN 256) HBk.out tab_info rfl (tabN_one 256) ?_))
      refine bodyPost_ret (v := .agg (tabN 256)) (results_cell_row rfl _ _ w.heap.size 76 (tabN 256) (0, 0) _ rfl (setRow_heap _ _ _ _ _ _ HBk.out) Tryz.underlying76 rfl tab_info) rfl ⟨rfl, below_setRow HBl.out (Nat.le_refl _) _⟩

theorem ListOk.byteAt {w : World} {lo hi : Nat} {A : Option Addr} {n c : Nat} {l : List UInt8} (h : ListOk Enc.byte w lo hi (.slice A n c) l) (i : Nat) (hl : i < l.length) : ∃ b o, A = some ⟨b, o, none⟩ ∧ lo ≤ b ∧ b < hi ∧ w.cell? ⟨b, o + i, none⟩ = some (.int .u8 l[i].toNat) := by
  obtain ⟨A', c', hv, _, hi⟩ := h
  obtain ⟨b, o, cs, hA, h1, h2, h3, h4⟩ := hi i hl
  injection hv with hv1
  refine ⟨b, o, hv1.trans hA, h1, h2, ?_⟩
  have h4' : cs = [.int .u8 l[i].toNat] := h4
  subst h4'
  simpa [Enc.byte] using h3 0 _ rfl
theorem low_xor {c : Nat} (x : UInt8) : bits .xor .u8 ((c : Int) % 256) (x.toNat : Int) = (((c % 256) ^^^ x.toNat : Nat) : Int) := by
  have h := u8_xor_nat (c % 256) x.toNat (Nat.mod_lt _ (by decide)) x.toNat_lt
  have e : (c : Int) % 256 = ((c % 256 : Nat) : Int) := by omega
  rw [e]; exact h
theorem step_xor {c : Nat} (x : UInt8) (h : c < 4294967296) : bits .xor .u32 ((bits8 ((c % 256) ^^^ x.toNat) : Nat) : Int) ((c : Int) / 256) = (sumStep c x : Nat) := by
  have hi : (c % 256) ^^^ x.toNat < 256 := Nat.xor_lt_two_pow (n := 8) (Nat.mod_lt _ (by decide)) x.toNat_lt
  have h2 := u32_xor_nat (bits8 ((c % 256) ^^^ x.toNat)) (c / 256) (bits8_lt (by omega)) (by omega)
  have e : (c : Int) / 256 = ((c / 256 : Nat) : Int) := by omega
  rw [e, h2]
  unfold sumStep
  rw [Nat.shiftRight_eq_div_pow]
theorem not_u32 {c : Nat} (h : c < 4294967296) : bits .xor .u32 IntKind.u32.max (c : Int) = ((4294967295 ^^^ c : Nat) : Int) := by
  have e : IntKind.u32.max = ((4294967295 : Nat) : Int) := by decide +kernel
  rw [e]
  exact u32_xor_nat 4294967295 c (by decide) h
theorem run_start : ((sumRun 4294967295 [] : Nat) : Int) = 4294967295 := by simp [sumRun]

set_option maxHeartbeats 3200000 in
set_option maxRecDepth 100000 in
theorem sum_any (v : Value) (l : List UInt8) (lo : Nat) (w : World) (hv : ListOk Enc.byte w lo w.heap.size v l) (hn : l.length ≤ 140737488355328) :
    Calls Tryz.prog 20 #[v] w fun e w' => e = .returned (.int .u32 (sumOf l : Nat)) ∧ Below w.heap.size w w' := by
  obtain ⟨A, c, rfl, _⟩ := hv.form
  have HL : Hid (∀ W, Below w.heap.size w W → ListOk Enc.byte W lo w.heap.size (.slice A l.length c) l) := Lib.hid fun W hW => hv.below Enc.byte_laws hW
  clear hv
  go_enter Tryz.func20, Tryz.ntmps20
  go_wp2_with fail
  refine (table_any _).mono ?_
  rintro e w1 ⟨rfl, hb1⟩
  go_wp2_with (refine wpList_store_row rfl 76 _ _ rfl w1.heap.size (tabN 256) rfl rfl 76 _ (heap_alloc_new w1 _) tab_info (by kernel_rfl) (tabN_one 256) ?_)
  obtain ⟨W2, eW2⟩ : ∃ W2, W2 = (w1.alloc (.cells Tryz.zeroCells76 76)).setRow w1.heap.size (tabN 256) := ⟨_, rfl⟩
  have mb : Blk W2 w1.heap.size 76 (tabN 256) := by rw [eW2]; exact setRow_heap _ _ _ _ _ _ (heap_alloc_new w1 _)
  have hb2 : Below w.heap.size w W2 := by rw [eW2]; exact below_setRow (hb1.alloc hb1.size _) hb1.size _
  rw [← eW2]
  have HM := Lib.hid mb
  have HB := Lib.hid hb2
  clear eW2 mb hb2 hb1
  go_loop [4, 6, 10] (fun c _ i => ∃ j : Nat, j ≤ l.length ∧ i = .int .i64 j ∧ c = .int .u32 (sumRun 4294967295 (l.take j) : Nat)) (fun _ _ i => l.length - (intOf i).toNat)
  case atStart => exact ⟨0, Nat.zero_le _, rfl, by rw [List.take_zero, run_start]⟩
  case round =>
    obtain ⟨j, hj, rfl, rfl⟩ := hrel
    by_cases hlt : j < l.length
    · obtain ⟨b, o, rfl, _, _, x0⟩ := (HL.out W2 HB.out).byteAt j hlt
      have HS : Hid (sumRun 4294967295 (l.take (j + 1)) = sumStep (sumRun 4294967295 (l.take j)) l[j]) := Lib.hid (by rw [List.take_succ_eq_append_getElem hlt, sumRun_snoc])
      have hc := sumRun_lt (l.take j) 4294967295 (by decide)
      generalize sumRun 4294967295 (l.take j) = c at *
      generalize l[j] = x at *
      have h1 := low_xor (c := c) x
      have h2 := step_xor x hc
      have hi : (c % 256) ^^^ x.toNat < 256 := Nat.xor_lt_two_pow (n := 8) (Nat.mod_lt _ (by decide)) x.toNat_lt
      generalize (c % 256) ^^^ x.toNat = k at *
      have h3 : W2.cell? ⟨w1.heap.size, k, none⟩ = some (.int .u32 (bits8 k : Nat)) := (HM.out.cell k).trans (by rw [tabN_at _ _ hi, if_pos hi])
      have c0 : (0 : Int) ≤ (c : Int) := Int.natCast_nonneg c
      have k0 : (0 : Int) ≤ (k : Int) := Int.natCast_nonneg k
      have k1 : (k : Int) < 256 := by omega
      clear hc
      go_wp2_with fail
      go_round
      case rel => exact ⟨j + 1, by omega, by go_num, by rw [HS.out]⟩
      case measure => simp [intOf]; omega
    · obtain rfl : j = l.length := by omega
      rw [List.take_length] at *
      go_wp2_with fail
      go_ret
      exact ⟨ret_int (not_u32 (sumRun_lt l _ (by decide))), HB.out⟩

theorem byte_shr (x : UInt8) (k : Nat) : x.toNat >>> k < 256 := by
  have h1 := x.toNat_lt
  have h2 : x.toNat >>> k ≤ x.toNat := by rw [Nat.shiftRight_eq_div_pow]; exact Nat.div_le_self _ _
  omega
theorem xor_shr {c : Nat} (x : UInt8) (k : Nat) (h : c < 4294967296) : bits .xor .u32 (c : Int) ((x.toNat : Int) % 4294967296 / 2 ^ k) = ((c ^^^ x.toNat >>> k : Nat) : Int) := by
  have e : (x.toNat : Int) % 4294967296 / 2 ^ k = ((x.toNat >>> k : Nat) : Int) := by
    have h1 := x.toNat_lt
    have e1 : (x.toNat : Int) % 4294967296 = (x.toNat : Int) := by omega
    rw [e1, Nat.shiftRight_eq_div_pow]
    simp
  rw [e]
  exact u32_xor_nat c (x.toNat >>> k) h (by have := byte_shr x k; omega)
theorem xor_poly' {c : Nat} (h : c < 4294967296) : bits .xor .u32 ((c : Int) / 2) 3988292384 = (((c >>> 1) ^^^ poly : Nat) : Int) := by
  have h2 := u32_xor_nat (c / 2) poly (by omega) (by decide)
  have e : (c : Int) / 2 = ((c / 2 : Nat) : Int) := by omega
  rw [e, Nat.shiftRight_eq_div_pow]
  exact h2
theorem half_nat (c : Nat) : (c : Int) / (2 : Int) = Int.ofNat (c >>> 1) := by rw [Nat.shiftRight_eq_div_pow]; simp
set_option maxHeartbeats 3200000 in
set_option maxRecDepth 100000 in
theorem refsum_any (v : Value) (l : List UInt8) (lo : Nat) (w : World) (hv : ListOk Enc.byte w lo w.heap.size v l) (hn : l.length ≤ 140737488355328) :
    Calls Tryz.prog 21 #[v] w fun e w' => e = .returned (.int .u32 (sumOf l : Nat)) ∧ w = w' := by
  obtain ⟨A, c, rfl, _⟩ := hv.form
  have HL := Lib.hid hv
  clear hv
  go_enter Tryz.func21, Tryz.ntmps21
  go_wp2_with fail
  go_loop [3, 4, 5, 6] (fun c i _ _ => ∃ j : Nat, j ≤ l.length ∧ i = .int .i64 j ∧ c = .int .u32 (sumRun 4294967295 (l.take j) : Nat)) (fun _ i _ _ => l.length - (intOf i).toNat)
  case atStart => exact ⟨0, Nat.zero_le _, rfl, by rw [List.take_zero, run_start]⟩
  case round =>
    obtain ⟨j, hj, rfl, rfl⟩ := hrel
    by_cases hlt : j < l.length
    · obtain ⟨b, o, rfl, _, _, x0⟩ := HL.out.byteAt j hlt
      have HS : Hid (sumRun 4294967295 (l.take (j + 1)) = sumStep (sumRun 4294967295 (l.take j)) l[j]) := Lib.hid (by rw [List.take_succ_eq_append_getElem hlt, sumRun_snoc])
      have hc := sumRun_lt (l.take j) 4294967295 (by decide)
      generalize sumRun 4294967295 (l.take j) = c at *
      generalize l[j] = x at *
      have HC := Lib.hid hc
      clear hc
      go_wp2_with fail
      go_loop [3, 5, 6] (fun d k _ => ∃ q : Nat, q ≤ 8 ∧ k = .int .i64 q ∧ d = .int .u32 (bitRun c x q : Nat)) (fun _ k _ => 8 - (intOf k).toNat)
      case atStart => exact ⟨0, by omega, rfl, rfl⟩
      case round =>
        obtain ⟨q, hq, rfl, rfl⟩ := hrel
        by_cases hq2 : q < 8
        · have hd := bitRun_lt c x HC.out q
          have HB : Hid (bitRun c x (q + 1) = if (bitRun c x q ^^^ x.toNat >>> q) % 2 = 1 then (bitRun c x q >>> 1) ^^^ poly else bitRun c x q >>> 1) := Lib.hid rfl
          generalize bitRun c x q = d at *
          have h1 := xor_shr x q hd
          have hd2 : d ^^^ x.toNat >>> q < 4294967296 := xor_lt hd (by have := byte_shr x q; omega)
          generalize d ^^^ x.toNat >>> q = s at *
          have q0 : (0 : Int) ≤ (q : Int) := Int.natCast_nonneg q
          have q1 : (q : Int) < 8 := by omega
          have d0 : (0 : Int) ≤ (d : Int) := Int.natCast_nonneg d
          rcases Nat.mod_two_eq_zero_or_one s with hp | hp
          · have hb := bit_even hd2 hp
            rw [if_neg (by omega)] at HB
            have hh := Lib.hid (half_nat d)
            clear hd hd2 hp
            go_wp2_with fail
            go_round
            case rel => exact ⟨q + 1, by omega, by go_num, by rw [HB.out, hh.out]; rfl⟩
            case measure => simp [intOf]; omega
          · have hb := bit_odd hd2 hp
            rw [if_pos hp] at HB
            have hh := xor_poly' hd
            clear hd hd2 hp
            go_wp2_with fail
            go_round
            case rel => exact ⟨q + 1, by omega, by go_num, by rw [HB.out]⟩
            case measure => simp [intOf]; omega
        · obtain rfl : q = 8 := by omega
          have h8 := Lib.hid (bitRun_all c x)
          go_wp2_with fail
          exact ⟨⟨j + 1, by omega, by go_num, by rw [HS.out, h8.out]⟩, by simp [intOf]; omega⟩
    · obtain rfl : j = l.length := by omega
      rw [List.take_length] at *
      go_wp2_with fail
      go_ret
      exact ⟨ret_int (not_u32 (sumRun_lt l _ (by decide))), rfl⟩
end Go.Proofs.YtmpjfomfibkbnaaGreatDoor
