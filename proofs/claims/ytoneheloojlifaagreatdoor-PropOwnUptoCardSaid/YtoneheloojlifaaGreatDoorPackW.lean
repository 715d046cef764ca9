/- The walks of the two sums: by a table, and bit by bit. -/
import Derived.Test.YtoneheloojlifaaGreatDoorPackP
import Derived.Test.YtoneheloojlifaaGreatDoorDrawn
import Derived.Laws.BitsAllLaws
import Derived.Laws.Tables
import Derived.Laws.Rows
import Derived.Test.YtoneheloojlifaaGreatDoorBunRow
import Derived.Deep.AppendSrc
import Derived.Lib.AppendStr
namespace Go.Proofs.YtoneheloojlifaaGreatDoor
open Go.RowKit

def stepN (c : Nat) : Nat → Nat
  | 0 => c
  | k + 1 => bitStep (stepN c k)
theorem stepN_8 (c : Nat) : stepN c 8 = bits8 c := rfl
theorem stepN_lt {c : Nat} (h : c < 4294967296) : ∀ k, stepN c k < 4294967296
  | 0 => h
  | k + 1 => bitStep_lt (stepN_lt h k)
def tabN (i : Nat) : Array Value := ((List.range 256).map fun j => Value.int .u32 ((if j < i then bits8 j else 0 : Nat) : Int)).toArray
theorem tabN_size (i : Nat) : (tabN i).size = 256 := by unfold tabN; simp
theorem bit_odd {c : Nat} (h : c < 4294967296) (h1 : c % 2 = 1) : bits .and .u32 (c : Int) 1 = 1 := by
  have := u32_and_nat c 1 h (by decide)
  rw [nat_mask1, h1] at this
  exact this
theorem bit_even {c : Nat} (h : c < 4294967296) (h1 : c % 2 = 0) : bits .and .u32 (c : Int) 1 = 0 := by
  have := u32_and_nat c 1 h (by decide)
  rw [nat_mask1, h1] at this
  exact this
theorem tabN_zero : Tryz.zeroCells126 = tabN 0 := by
  unfold tabN
  simp only [Nat.not_lt_zero, if_false]
  kernel_rfl
theorem tabN_set (i : Nat) (hi : i < 256) : (tabN i).setIfInBounds i (.int .u32 (bits8 i : Nat)) = tabN (i + 1) := by
  unfold tabN
  rw [List.setIfInBounds_toArray]
  congr 1
  apply List.ext_getElem
  · simp
  · intro j h1 h2
    rw [List.getElem_set]
    simp only [List.getElem_map, List.getElem_range]
    by_cases h : i = j
    · subst h; rw [if_pos rfl, if_pos (by omega)]
    · rw [if_neg h]
      by_cases h3 : j < i
      · rw [if_pos h3, if_pos (by omega)]
      · rw [if_neg h3, if_neg (by omega)]
theorem tabN_at (i j : Nat) (hj : j < 256) : (tabN i)[j]? = some (.int .u32 ((if j < i then bits8 j else 0 : Nat) : Int)) := by
  unfold tabN; simp [hj]
theorem tabN_one (i : Nat) : (tabN i).all (·.oneCell') = true := by
  unfold tabN
  rw [Array.all_eq_true]
  intro j hj
  simp [Value.oneCell']
theorem xor_poly {c : Nat} (h : c < 4294967296) (h1 : c % 2 = 1) : bits .xor .u32 ((c : Int) / 2) 3988292384 = (bitStep c : Nat) := by
  have h2 := u32_xor_nat (c / 2) poly (by omega) (by decide)
  have e : (c : Int) / 2 = ((c / 2 : Nat) : Int) := by omega
  rw [e]
  have e2 : bitStep c = c / 2 ^^^ poly := by unfold bitStep; rw [if_pos h1, Nat.shiftRight_eq_div_pow]
  rw [e2]; exact h2
theorem half_even {c : Nat} (h1 : c % 2 = 0) : (c : Int) / 2 = (bitStep c : Nat) := by
  unfold bitStep
  rw [if_neg (by omega), Nat.shiftRight_eq_div_pow]; omega

theorem below_setRow {B g : Nat} {a w : World} (h : Below B a w) (hg : B ≤ g) (cs : Array Value) : Below B a (w.setRow g cs) :=
  h.trans ⟨rfl, rfl, rfl, by simp [World.setRow], fun k hk => setRow_other w g k cs (by omega)⟩
theorem tab_info : (Tryz.prog.info? 126).map (·.size) = some (tabN 256).size := by rw [tabN_size]; kernel_rfl

set_option maxHeartbeats 3200000 in
set_option maxRecDepth 100000 in
theorem table_any (w : World) : Calls Tryz.prog 74 #[] w fun e w' => e = .returned (.agg (tabN 256)) ∧ Below w.heap.size w w' := by
  go_enter Tryz.func74, Tryz.ntmps74
  go_wp2_with fail
  rw [tabN_zero]
  obtain ⟨W1, eW1⟩ : ∃ W1, W1 = w.alloc (.cells (tabN 0) 126) := ⟨_, rfl⟩
  have mb : Blk W1 w.heap.size 126 (tabN 0) := by rw [eW1]; exact Blk.new _ _ _
  have hb1 : Below w.heap.size w W1 := by rw [eW1]; exact (Below.refl _ _).alloc (Nat.le_refl _) _
  have HM := Lib.hid mb
  have HB := Lib.hid hb1
  rw [← eW1]
  clear eW1 mb hb1
  go_loopw [1, 2, 3, 8] (fun _ _ i _ wr => ∃ j : Nat, j ≤ 256 ∧ i = .int .i64 j ∧ Blk wr w.heap.size 126 (tabN j) ∧ Below w.heap.size w wr) (fun _ _ i _ _ => 256 - (intOf i).toNat)
  case atStart => exact ⟨0, by omega, rfl, HM.out, HB.out⟩
  case round =>
    obtain ⟨j, hj, rfl, hbk, hb⟩ := hrel
    have HBk := Lib.hid hbk
    have HBl := Lib.hid hb
    have hs := hb.size
    clear hbk hb HM HB
    by_cases hlt : j < 256
    · have i0 : (0 : Int) ≤ (j : Int) := Int.natCast_nonneg j
      have i1 : (j : Int) < 256 := by omega
      obtain ⟨wo, rfl⟩ : ∃ wo : World, wo = wr := ⟨_, rfl⟩
      go_wp2_with fail
      go_loop [2, 8] (fun c k => ∃ q : Nat, q ≤ 8 ∧ k = .int .i64 q ∧ c = .int .u32 (stepN j q : Nat)) (fun _ k => 8 - (intOf k).toNat)
      case atStart => exact ⟨0, by omega, rfl, rfl⟩
      case round =>
        obtain ⟨q, hq, rfl, rfl⟩ := hrel
        by_cases hq2 : q < 8
        · have hc := stepN_lt (c := j) (by omega) q
          have HS : Hid (stepN j (q + 1) = bitStep (stepN j q)) := Lib.hid rfl
          generalize stepN j q = c at *
          have c0 : (0 : Int) ≤ (c : Int) := Int.natCast_nonneg c
          rcases Nat.mod_two_eq_zero_or_one c with hp | hp
          · have hb := bit_even hc hp
            have hh := Lib.hid (half_even hp)
            clear hp hc
            go_wp2_with fail
            go_round
            case rel => exact ⟨q + 1, by omega, by go_num, by rw [HS.out, hh.out]⟩
            case measure => simp [intOf]; omega
          · have hb := bit_odd hc hp
            have hh := xor_poly hc hp
            clear hp hc
            go_wp2_with fail
            go_round
            case rel => exact ⟨q + 1, by omega, by go_num, by rw [HS.out]⟩
            case measure => simp [intOf]; omega
        · obtain rfl : q = 8 := by omega
          have h1 : wo.cell? ⟨w.heap.size, j, none⟩ = some (.int .u32 ((if j < j then bits8 j else 0 : Nat) : Int)) := (HBk.out.cell j).trans (tabN_at j j hlt)
          have h2 := HBk.out.frozen j
          have HN : Hid (Blk (wo.setCell ⟨w.heap.size, j, none⟩ (.int .u32 (stepN j 8 : Nat))) w.heap.size 126 (tabN (j + 1))) := Lib.hid (by
            have := HBk.out.set_ j (.int .u32 (bits8 j : Nat))
            rw [tabN_set j hlt] at this
            exact this)
          have HN2 := Lib.hid (HBl.out.setCell (p := ⟨w.heap.size, j, none⟩) (Nat.le_refl _) (.int .u32 (stepN j 8 : Nat)))
          go_wp2_with fail
          exact ⟨⟨j + 1, by omega, by go_num, HN.out, HN2.out⟩, by simp [intOf]; omega⟩
    · obtain rfl : j = 256 := by omega
      go_wp2_with (first
        | (refine wpList_load_row rfl 126 _ rfl w.heap.size rfl 126 (tabN 256) (0, 0) _ HBk.out Tryz.underlying126 rfl tab_info ?_)
        | (refine wpList_store_row rfl 126 _ _ rfl w.heap.size (tabN 256) rfl rfl 126 (tabN 256) HBk.out tab_info rfl (tabN_one 256) ?_))
      refine bodyPost_ret (v := .agg (tabN 256)) (results_cell_row rfl _ _ w.heap.size 126 (tabN 256) (0, 0) _ rfl (setRow_heap _ _ _ _ _ _ HBk.out) Tryz.underlying126 rfl tab_info) rfl ⟨rfl, below_setRow HBl.out (Nat.le_refl _) _⟩

theorem ListOk.byteAt {w : World} {lo hi : Nat} {A : Option Addr} {n c : Nat} {l : List UInt8} (h : ListOk Enc.byte w lo hi (.slice A n c) l) (i : Nat) (hl : i < l.length) : ∃ b o, A = some ⟨b, o, none⟩ ∧ lo ≤ b ∧ b < hi ∧ w.cell? ⟨b, o + i, none⟩ = some (.int .u8 l[i].toNat) := by
  obtain ⟨A', c', hv, _, hi⟩ := h
  obtain ⟨b, o, cs, hA, h1, h2, h3, h4⟩ := hi i hl
  injection hv with hv1
  refine ⟨b, o, hv1.trans hA, h1, h2, ?_⟩
  have h4' : cs = [.int .u8 l[i].toNat] := h4
  subst h4'
  simpa [Enc.byte] using h3 0 _ rfl
theorem sum_low_xor {c : Nat} (x : UInt8) : bits .xor .u8 ((c : Int) % 256) (x.toNat : Int) = (((c % 256) ^^^ x.toNat : Nat) : Int) := by
  have h := u8_xor_nat (c % 256) x.toNat (Nat.mod_lt _ (by decide)) x.toNat_lt
  have e : (c : Int) % 256 = ((c % 256 : Nat) : Int) := by omega
  rw [e]; exact h
theorem step_xor {c : Nat} (x : UInt8) (h : c < 4294967296) : bits .xor .u32 ((bits8 ((c % 256) ^^^ x.toNat) : Nat) : Int) ((c : Int) / 256) = (sumStep c x : Nat) := by
  have hi : (c % 256) ^^^ x.toNat < 256 := Nat.xor_lt_two_pow (n := 8) (Nat.mod_lt _ (by decide)) x.toNat_lt
  have h2 := u32_xor_nat (bits8 ((c % 256) ^^^ x.toNat)) (c / 256) (bits8_lt (by omega)) (by omega)
  have e : (c : Int) / 256 = ((c / 256 : Nat) : Int) := by omega
  rw [e, h2]
  unfold sumStep
  rw [Nat.shiftRight_eq_div_pow]
theorem not_u32 {c : Nat} (h : c < 4294967296) : bits .xor .u32 IntKind.u32.max (c : Int) = ((4294967295 ^^^ c : Nat) : Int) := by
  have e : IntKind.u32.max = ((4294967295 : Nat) : Int) := by decide +kernel
  rw [e]
  exact u32_xor_nat 4294967295 c (by decide) h
theorem run_start : ((sumRun 4294967295 [] : Nat) : Int) = 4294967295 := by simp [sumRun]

set_option maxHeartbeats 3200000 in
set_option maxRecDepth 100000 in
theorem sum_any (v : Value) (l : List UInt8) (lo : Nat) (w : World) (hv : ListOk Enc.byte w lo w.heap.size v l) (hn : l.length ≤ 140737488355328) :
    Calls Tryz.prog 48 #[v] w fun e w' => e = .returned (.int .u32 (sumOf l : Nat)) ∧ Below w.heap.size w w' := by
  obtain ⟨A, c, rfl, _⟩ := hv.form
  have HL : Hid (∀ W, Below w.heap.size w W → ListOk Enc.byte W lo w.heap.size (.slice A l.length c) l) := Lib.hid fun W hW => hv.below Enc.byte_laws hW
  clear hv
  go_enter Tryz.func48, Tryz.ntmps48
  go_wp2_with fail
  refine (table_any _).mono ?_
  rintro e w1 ⟨rfl, hb1⟩
  go_wp2_with (refine wpList_store_row rfl 126 _ _ rfl w1.heap.size (tabN 256) rfl rfl 126 _ (heap_alloc_new w1 _) tab_info (by kernel_rfl) (tabN_one 256) ?_)
  obtain ⟨W2, eW2⟩ : ∃ W2, W2 = (w1.alloc (.cells Tryz.zeroCells126 126)).setRow w1.heap.size (tabN 256) := ⟨_, rfl⟩
  have mb : Blk W2 w1.heap.size 126 (tabN 256) := by rw [eW2]; exact setRow_heap _ _ _ _ _ _ (heap_alloc_new w1 _)
  have hb2 : Below w.heap.size w W2 := by rw [eW2]; exact below_setRow (hb1.alloc hb1.size _) hb1.size _
  rw [← eW2]
  have HM := Lib.hid mb
  have HB := Lib.hid hb2
  clear eW2 mb hb2 hb1
  go_loop [4, 6, 10] (fun c _ i => ∃ j : Nat, j ≤ l.length ∧ i = .int .i64 j ∧ c = .int .u32 (sumRun 4294967295 (l.take j) : Nat)) (fun _ _ i => l.length - (intOf i).toNat)
  case atStart => exact ⟨0, Nat.zero_le _, rfl, by rw [List.take_zero, run_start]⟩
  case round =>
    obtain ⟨j, hj, rfl, rfl⟩ := hrel
    by_cases hlt : j < l.length
    · obtain ⟨b, o, rfl, _, _, x0⟩ := (HL.out W2 HB.out).byteAt j hlt
      have HS : Hid (sumRun 4294967295 (l.take (j + 1)) = sumStep (sumRun 4294967295 (l.take j)) l[j]) := Lib.hid (by rw [List.take_succ_eq_append_getElem hlt, sumRun_snoc])
      have hc := sumRun_lt (l.take j) 4294967295 (by decide)
      generalize sumRun 4294967295 (l.take j) = c at *
      generalize l[j] = x at *
      have h1 := sum_low_xor (c := c) x
      have h2 := step_xor x hc
      have hi : (c % 256) ^^^ x.toNat < 256 := Nat.xor_lt_two_pow (n := 8) (Nat.mod_lt _ (by decide)) x.toNat_lt
      generalize (c % 256) ^^^ x.toNat = k at *
      have h3 : W2.cell? ⟨w1.heap.size, k, none⟩ = some (.int .u32 (bits8 k : Nat)) := (HM.out.cell k).trans (by rw [tabN_at _ _ hi, if_pos hi])
      have c0 : (0 : Int) ≤ (c : Int) := Int.natCast_nonneg c
      have k0 : (0 : Int) ≤ (k : Int) := Int.natCast_nonneg k
      have k1 : (k : Int) < 256 := by omega
      clear hc
      go_wp2_with fail
      go_round
      case rel => exact ⟨j + 1, by omega, by go_num, by rw [HS.out]⟩
      case measure => simp [intOf]; omega
    · obtain rfl : j = l.length := by omega
      rw [List.take_length] at *
      go_wp2_with fail
      go_ret
      exact ⟨ret_int (not_u32 (sumRun_lt l _ (by decide))), HB.out⟩

theorem byte_shr (x : UInt8) (k : Nat) : x.toNat >>> k < 256 := by
  have h1 := x.toNat_lt
  have h2 : x.toNat >>> k ≤ x.toNat := by rw [Nat.shiftRight_eq_div_pow]; exact Nat.div_le_self _ _
  omega
theorem xor_shr {c : Nat} (x : UInt8) (k : Nat) (h : c < 4294967296) : bits .xor .u32 (c : Int) ((x.toNat : Int) % 4294967296 / 2 ^ k) = ((c ^^^ x.toNat >>> k : Nat) : Int) := by
  have e : (x.toNat : Int) % 4294967296 / 2 ^ k = ((x.toNat >>> k : Nat) : Int) := by
    have h1 := x.toNat_lt
    have e1 : (x.toNat : Int) % 4294967296 = (x.toNat : Int) := by omega
    rw [e1, Nat.shiftRight_eq_div_pow]
    simp
  rw [e]
  exact u32_xor_nat c (x.toNat >>> k) h (by have := byte_shr x k; omega)
theorem xor_poly' {c : Nat} (h : c < 4294967296) : bits .xor .u32 ((c : Int) / 2) 3988292384 = (((c >>> 1) ^^^ poly : Nat) : Int) := by
  have h2 := u32_xor_nat (c / 2) poly (by omega) (by decide)
  have e : (c : Int) / 2 = ((c / 2 : Nat) : Int) := by omega
  rw [e, Nat.shiftRight_eq_div_pow]
  exact h2
theorem half_nat (c : Nat) : (c : Int) / (2 : Int) = Int.ofNat (c >>> 1) := by rw [Nat.shiftRight_eq_div_pow]; simp
end Go.Proofs.YtoneheloojlifaaGreatDoor
/- The walks of the writer: numbers and texts behind what is written. -/

namespace Go.Proofs.YtoneheloojlifaaGreatDoor
open Go.RowKit

def bytesV (l : List UInt8) : List Value := l.map fun x => .int .u8 x.toNat
theorem bytesV_length (l : List UInt8) : (bytesV l).length = l.length := List.length_map _
theorem bytesV_append (l m : List UInt8) : bytesV (l ++ m) = bytesV l ++ bytesV m := List.map_append
theorem info_byte : (Tryz.prog.info? 5).map (fun i => (i.zero, i.size, i.bytes)) = some (some (.int .u8 0), 1, 1) := by kernel_rfl
/-- What a writer has written. -/
structure Wr (base : Nat) (w : World) (p : Nat) (l : List UInt8) : Prop where
  lo : base ≤ p
  at_ : ∃ V, Blk w p 77 #[V] ∧ w.ownsRow base 5 1 V l.length (bytesV l)
theorem Wr.keep {base p : Nat} {w W : World} {l : List UInt8} (h : Wr base w p l) (hb : Below w.heap.size w W) : Wr base W p l :=
  ⟨h.lo, let ⟨V, h1, h2⟩ := h.at_; ⟨V, h1.below hb h1.lt, own_below h2 hb (Nat.le_refl _)⟩⟩
theorem wr_blk_ne {w : World} {base : Nat} {V : Value} {n p : Nat} {xs : List Value} {cs : Array Value} (h : w.ownsRow base 5 1 V n xs) (k : Blk w p 77 cs) : V.ownBlock ≠ some p := by
  intro hg
  obtain ⟨_, ⟨h2, _⟩ | ⟨g1, cap, cur, hv, hb, hh, r⟩⟩ := h
  · rw [h2] at hg; cases hg
  · rw [hv] at hg; injection hg with hg; subst hg
    unfold Blk at k
    rw [hh] at k; injection k with k; injection k with _ k
    exact absurd k (by decide)
theorem Wr.put {base p : Nat} {w W w4 : World} {l m : List UInt8} {V v4 : Value} (h : Wr base w p l) (hbox : Blk w p 77 #[V]) (hrow : w.ownsRow base 5 1 V l.length (bytesV l)) (hb : Below w.heap.size w W) (hg : W.grownBy w4 V.ownBlock)
    (hown : w4.ownsRow base 5 1 v4 (l.length + m.length) (bytesV l ++ bytesV m)) : Wr base (w4.setCell ⟨p, 0, none⟩ v4) p (l ++ m) := by
  have hbx : Blk w4 p 77 #[V] := (hg.block p (Nat.lt_of_lt_of_le hbox.lt hb.size) (fun e => wr_blk_ne hrow hbox e.symm)).trans (hbox.below hb hbox.lt)
  refine ⟨h.lo, v4, hbx.set_ 0 v4, ?_⟩
  rw [List.length_append, bytesV_append]
  refine own_keep hown fun k hk _ => Below.heap_setCell _ _ _ _ fun e => ?_
  subst e
  exact wr_blk_ne hown hbx hk
/-- What a writer may turn: its box, and rows of bytes, beyond base. -/
def WSet (base p : Nat) (w : World) (k : Nat) : Prop := base ≤ k ∧ (k = p ∨ ∃ cur fr, w.heap[k]? = some (.cells cur 5 fr))
theorem WSet.trans {base p : Nat} {w w1 w' : World} (h : Fr w w1 (WSet base p w)) (k : Fr w1 w' (WSet base p w1)) : Fr w w' (WSet base p w) :=
  h.and k fun i hi => by
    by_cases hs : WSet base p w i
    · exact .inl hs
    · by_cases hlt : w.heap.size ≤ i
      · exact .inr hlt
      · refine absurd ?_ hs
        have hb := h.block i (by omega) hs
        obtain ⟨h1, h2 | ⟨cur, fr, h2⟩⟩ := hi
        · exact ⟨h1, .inl h2⟩
        · exact ⟨h1, .inr ⟨cur, fr, hb ▸ h2⟩⟩
theorem WSet.below {base p : Nat} {w w' : World} (h : Fr w w' (WSet base p w)) (hs : base ≤ w.heap.size) : Below base w w' := Fr.below (Below.refl base w) h hs fun _ hi => hi.1
theorem WSet.blk {base p : Nat} {w w' : World} (h : Fr w w' (WSet base p w)) {g : Nat} {t : TypeId} {cs : Array Value} (hb : Blk w g t cs) (hne : g ≠ p) (ht : t ≠ 5) : Blk w' g t cs :=
  hb.fr h fun hw => by
    obtain ⟨_, h2 | ⟨cur, fr, h2⟩⟩ := hw
    · exact hne h2
    · have h3 := (show w.heap[g]? = _ from hb).symm.trans h2
      injection h3 with h3; injection h3 with _ h3
      exact ht h3
theorem WSet.own {base p : Nat} {w w' : World} (h : Fr w w' (WSet base p w)) {b0 : Nat} {e : TypeId} {size n : Nat} {v : Value} {xs : List Value} (ho : w.ownsRow b0 e size v n xs) (hne : v.ownBlock ≠ some p) (ht : e ≠ 5) : w'.ownsRow b0 e size v n xs :=
  own_keep ho fun g hg hlt => h.block g hlt fun hw => by
    obtain ⟨_, h2 | ⟨cur, fr, h2⟩⟩ := hw
    · exact hne (by rw [hg, h2])
    · obtain ⟨_, ⟨hv, _⟩ | ⟨g1, cap, cur1, hv, hb, hh, r⟩⟩ := ho
      · rw [hv] at hg; cases hg
      · rw [hv] at hg; injection hg with hg; subst hg
        rw [hh] at h2; injection h2 with h2; injection h2 with _ h2
        exact ht h2
theorem Wr.set_ {base p : Nat} {w W w4 : World} {l : List UInt8} {V v4 : Value} (h : Wr base w p l) (hrow : w.ownsRow base 5 1 V l.length (bytesV l)) (hs : base ≤ w.heap.size) (hb : Below w.heap.size w W) (hg : W.grownBy w4 V.ownBlock) : Fr w (w4.setCell ⟨p, 0, none⟩ v4) (WSet base p w) := by
  refine ((Fr.of_below hb _).grown hg fun k hk => .inl ?_).setCell (p := ⟨p, 0, none⟩) (.inl ⟨h.lo, .inl rfl⟩) v4
  obtain ⟨_, ⟨hv, _⟩ | ⟨g1, cap, cur1, hv, hb1, hh, r⟩⟩ := hrow
  · rw [hv] at hk; cases hk
  · rw [hv] at hk; injection hk with hk; subst hk
    exact ⟨hb1, .inr ⟨_, _, hh⟩⟩

theorem wgrown_from {w0 W w' : World} {row : Option Nat} (hg : W.grownBy w' row) (hb : Below w0.heap.size w0 W) : Below w0.heap.size w0 W ∧ W.grownBy w' row := ⟨hb, hg⟩
def numB (n size : Nat) : List UInt8 := (List.range size).map fun k => b1 (n >>> (8 * (size - 1 - k)))
theorem numB_one (n : Nat) : numB n 1 = [b1 n] := rfl
theorem numB_two (n : Nat) : numB n 2 = be2 n := by unfold numB be2; simp [List.range_succ, Nat.shiftRight_eq_div_pow]
theorem numB_four (n : Nat) : numB n 4 = be4 n := by unfold numB be4; simp [List.range_succ, Nat.shiftRight_eq_div_pow]
theorem numB_length (n size : Nat) : (numB n size).length = size := by unfold numB; simp
theorem numB_succ (n size k : Nat) (hk : k < size) : (numB n size).take (k + 1) = (numB n size).take k ++ [b1 (n >>> (8 * (size - 1 - k)))] := by
  rw [List.take_succ_eq_append_getElem (by rw [numB_length]; exact hk)]
  congr 2
  unfold numB; simp

set_option maxHeartbeats 3200000 in
set_option maxRecDepth 100000 in
theorem number_any (base p n size : Nat) (l : List UInt8) (w : World) (h : Wr base w p l) (hs : base ≤ w.heap.size) (hl : l.length ≤ 1000000) (hsz : size ≤ 4) (h1 : 1 ≤ size) :
    Calls Tryz.prog 44 #[.pointer (some ⟨p, 0, none⟩), .int .u32 n, .int .i64 size] w fun e w' => e = .returned (.tuple #[]) ∧ Wr base w' p (l ++ numB n size) ∧ Fr w w' (WSet base p w) ∧ base ≤ w'.heap.size := by
  have HW := Lib.hid h
  clear h
  go_enter Tryz.func44, Tryz.ntmps44
  have s0 : (1 : Int) ≤ (size : Int) := by omega
  have s1 : (size : Int) ≤ 4 := by omega
  go_wp2_with fail
  go_loopw [6] (fun s wr => ∃ (k : Nat) (z : Int), k ≤ size ∧ z = 8 * ((size : Int) - 1 - k) ∧ s = .int .i64 z ∧ Wr base wr p (l ++ (numB n size).take k) ∧ Fr w wr (WSet base p w) ∧ base ≤ wr.heap.size) (fun s _ => (intOf s + 8).toNat)
  case atStart => exact ⟨0, _, Nat.zero_le _, by omega, rfl, by rw [List.take_zero, List.append_nil]; exact HW.out, Fr.refl _ _, hs⟩
  case round =>
    obtain ⟨k, z, hk, hz, rfl, hwr, hb, hbs⟩ := hrel
    have HWr := Lib.hid hwr
    have HB := Lib.hid hb
    have HZ := Lib.hid hz
    have z0 : z ≤ 24 := by omega
    have z1 : -8 ≤ z := by omega
    clear hwr hb
    by_cases hlt : k < size
    · have z2 : (0 : Int) ≤ z := by omega
      have z3 : z.toNat = 8 * (size - 1 - k) := by omega
      have HSu := Lib.hid (numB_succ n size k hlt)
      obtain ⟨V, hbox, hrow⟩ := HWr.out.at_
      obtain ⟨Av, cv, rfl, _⟩ := own_slice hrow
      have hlen : (l ++ (numB n size).take k).length ≤ 1000004 := by rw [List.length_append, List.length_take, numB_length]; omega
      have HBy : Hid (IntKind.u8.wrap ((n : Int) / 2 ^ z.toNat) = ((b1 (n >>> (8 * (size - 1 - k)))).toNat : Int)) := Lib.hid (by
        rw [IntKind.wrap_u8', z3, b1_toNat, Nat.shiftRight_eq_div_pow]; simp)
      generalize b1 (n >>> (8 * (size - 1 - k))) = x at *
      generalize hLe : l ++ (numB n size).take k = L at *
      have HLe := Lib.hid hLe
      have HBox := Lib.hid hbox
      have HRow := Lib.hid hrow
      have b0 : wr.cell? ⟨p, 0, none⟩ = some (.slice Av L.length cv) := (hbox.cell 0).trans rfl
      have f0 := hbox.frozen 0
      have hpl := hbox.lt
      have HnX : Hid (∀ (W : World), Below wr.heap.size wr W → ∀ q u, ([Value.int .u8 x.toNat] : List Value)[q]? = some u → (W.alloc (.cells #[.int .u8 x.toNat] 5)).cell? ⟨W.heap.size, 0 + q, none⟩ = some u) := Lib.hid fun W hW q u hq => by
        rw [Nat.zero_add, (Blk.new W 5 #[.int .u8 x.toNat]).cell q]; simpa using hq
      have hby := HBy.out
      clear hbox hrow hLe hz z3 HBy
      go_wp2_with fail
      go_region_law
        ((refine step_append_any (by rfl) _ _ 77 (by rfl) base 5 Tryz.underlying77 info_byte rfl (by decide) (bytesV L) (by rfl) (own_below HRow.out (by repeat (first | exact Below.refl _ _ | refine Below.drew ?_ | refine below_drewN ?_ _ | refine Below.alloc ?_ (by simp) _)) (Nat.le_refl _)) [Value.int .u8 x.toNat] (by rfl) (by rfl) (.inr ⟨_, _, rfl, HnX.out _ (by repeat (first | exact Below.refl _ _ | refine Below.drew ?_ | refine below_drewN ?_ _))⟩) (by simp [Value.oneCell']) (by unfold maxLen; omega) (by omega) (by simp; omega) ?_
          intro v4 w4 hown4 hgrow4
          have hbW := (wgrown_from hgrow4 (w0 := wr) (by repeat (first | exact Below.refl _ _ | refine Below.drew ?_ | refine below_drewN ?_ _ | refine Below.alloc ?_ (by simp) _))).1
          have hbx4 : Blk w4 p 77 #[.slice Av L.length cv] := (hgrow4.block p (Nat.lt_of_lt_of_le hpl hbW.size) (fun e => wr_blk_ne HRow.out HBox.out e.symm)).trans (HBox.out.below hbW hpl)
          have c0 : w4.cell? ⟨p, 0, none⟩ = some (.slice Av L.length cv) := (hbx4.cell 0).trans rfl
          have c1 := hbx4.frozen 0
          have HN := Lib.hid (HWr.out.put (m := [x]) HBox.out HRow.out hbW hgrow4 hown4)
          have HN2 := Lib.hid (WSet.trans HB.out (HWr.out.set_ (v4 := v4) HRow.out hbs hbW hgrow4))
          have hs4 : base ≤ w4.heap.size := by have := hbW.size; have := hgrow4.size; omega
          obtain ⟨A4, c4, hv4, _⟩ := own_slice hown4
          have hv5 : v4 = .slice A4 (L.length + 1) c4 := by rw [hv4]
          subst hv5
          clear hbW hbx4 hgrow4 hown4 b0 f0 hv4))
      all_goals
        have HN3 : Hid (Wr base (w4.setCell ⟨p, 0, none⟩ (.slice A4 (L.length + 1) c4)) p (l ++ (numB n size).take (k + 1))) := Lib.hid (by
          rw [HSu.out, ← List.append_assoc, HLe.out]; exact HN.out)
        clear HN
        go_wp2_with fail
        exact ⟨⟨k + 1, z - 8, by omega, by have := HZ.out; omega, by first | rfl | go_num, HN3.out, HN2.out, by simpa using hs4⟩, by simp [intOf]; omega⟩
    · have z2 : z < 0 := by omega
      have hd : decide ((0 : Int) ≤ z) = false := decide_eq_false (by omega)
      have hke : Hid ((numB n size).take k = numB n size) := Lib.hid (List.take_of_length_le (by rw [numB_length]; omega))
      clear hz
      go_wp2_with fail
      go_end0
      exact ⟨rfl, by have := HWr.out; rwa [hke.out] at this, HB.out, hbs⟩

theorem step_append_full {P : Program} {w : World} {ops : Array Oper} {o : Oper} {a : Act} {K : Act → World → Prop} {Q : Exit → Act → World → Prop} {E : Prop} (hgd : o.guard = none) (s x : Operand) (t : TypeId)
    (ho : o.op = .call { callee := .builtin .append, args := #[s, x], argTypes := #[t, t] })
    (e : TypeId) {z : Value} {size bytes : Nat} (ht : P.underlying t = some (.slice e)) (hi : (P.info? e).map (fun i => (i.zero, i.size, i.bytes)) = some (some z, size, bytes))
    (hzs : z.cells.size = size) (hsz : 0 < size)
    (g n : Nat) (olds : List Value) (hs : a.eval s = .slice (some ⟨g, 0, none⟩) n n) (hlo : olds.length = n * size) (holds : ∀ j u, olds[j]? = some u → w.cell? ⟨g, j, none⟩ = some u)
    (b m c : Nat) (news : List Value) (hx : a.eval x = .slice (some ⟨b, 0, none⟩) m c) (hl : news.length = m * size) (hnews : ∀ j u, news[j]? = some u → w.cell? ⟨b, 0 + j, none⟩ = some u) (hm : 0 < m)
    (h63 : n + m ≤ maxLen) (hbytes : (n + m) * bytes ≤ 140737488355328)
    (h : ∀ v' w', w'.ownsRow w.heap.size e size v' (n + m) (olds ++ news) → w.grownBy w' none → K (a.put o.dst v') w') :
    if Region.wanted o (yielded ops a.tmps) = true then Oper.wp P o a w K Q else E := by
  have hw : Region.wanted o (yielded ops a.tmps) = true := by simp [Region.wanted, hgd]
  rw [if_pos hw]
  obtain ⟨i, hi, hz0, hz1, hz2⟩ := info_parts hi
  have had : ∀ (q j : Nat), ((⟨q, 0, none⟩ : Addr).add j) = ⟨q, j, none⟩ := fun q j => by
    unfold Addr.add
    split
    · rename_i h0
      have h0' : j = 0 := by simpa using h0
      subst h0'; rfl
    · simp
  obtain ⟨v', w', hr, h2, h3⟩ := run_append_arg_grows (P := P) (w := w) t o.type e i z size bytes ht hi hz0 hz1 hz2 hzs hsz ⟨g, 0, none⟩ n n olds hlo (fun j u hj => by rw [had]; exact holds j u hj) ⟨b, 0, none⟩ m c news hl (fun j u hj => by rw [had]; simpa using hnews j u hj) (by omega) h63 hbytes
  unfold Oper.wp execOp
  simp only [ho, resolve, invoke, builtin, Sem.run_bind, Sem.run_pure, Result.andThen_ok, List.map_toArray, List.map_cons, List.map_nil, hs, hx, hr]
  exact h v' w' h2 h3
/-- A writer that holds a literal's bytes. -/
structure Wm (base : Nat) (w : World) (p : Nat) (l : List UInt8) : Prop where
  lo : base ≤ p
  at_ : ∃ g, g ≠ p ∧ Blk w p 77 #[.slice (some ⟨g, 0, none⟩) l.length l.length] ∧ ∀ j u, (bytesV l)[j]? = some u → w.cell? ⟨g, j, none⟩ = some u

set_option maxHeartbeats 3200000 in
set_option maxRecDepth 100000 in
theorem number_first (base p n : Nat) (l : List UInt8) (w : World) (h : Wm base w p l) (hs : base ≤ w.heap.size) (hl : l.length ≤ 1000000) :
    Calls Tryz.prog 44 #[.pointer (some ⟨p, 0, none⟩), .int .u32 n, .int .i64 1] w fun e w' => e = .returned (.tuple #[]) ∧ Wr base w' p (l ++ numB n 1) ∧ Fr w w' (WSet base p w) ∧ base ≤ w'.heap.size := by
  obtain ⟨g, hgp, hbox, hcells⟩ := h.at_
  have hlo := h.lo
  have HBox := Lib.hid hbox
  have HC : Hid (∀ W, Below w.heap.size w W → ∀ j u, (bytesV l)[j]? = some u → W.cell? ⟨g, j, none⟩ = some u) := Lib.hid fun W hW j u hj => by
    have hx := hcells j u hj
    exact (hW.cell (p := ⟨g, j, none⟩) (World.block_lt_of_cell? w _ hx)).trans hx
  have HBy : Hid (IntKind.u8.wrap (n : Int) = ((b1 n).toNat : Int)) := Lib.hid (by rw [IntKind.wrap_u8', b1_toNat]; simp)
  have b0 : w.cell? ⟨p, 0, none⟩ = some (.slice (some ⟨g, 0, none⟩) l.length l.length) := (hbox.cell 0).trans rfl
  have f0 := hbox.frozen 0
  have hpl := hbox.lt
  have HX : Hid (numB n 1 = [b1 n]) := Lib.hid rfl
  generalize b1 n = x at *
  have HnX : Hid (∀ (W : World), ∀ q u, ([Value.int .u8 x.toNat] : List Value)[q]? = some u → (W.alloc (.cells #[.int .u8 x.toNat] 5)).cell? ⟨W.heap.size, 0 + q, none⟩ = some u) := Lib.hid fun W q u hq => by
    rw [Nat.zero_add, (Blk.new W 5 #[.int .u8 x.toNat]).cell q]; simpa using hq
  clear h hbox hcells
  go_enter Tryz.func44, Tryz.ntmps44
  go_wp2_with fail
  go_loopw [6] (fun s wr => ∃ z : Int, s = .int .i64 z ∧ ((z = 0 ∧ wr = w) ∨ (z = -8 ∧ Wr base wr p (l ++ numB n 1) ∧ Fr w wr (WSet base p w) ∧ base ≤ wr.heap.size))) (fun s _ => (intOf s + 8).toNat)
  case atStart => exact ⟨0, by first | rfl | go_num, .inl ⟨rfl, rfl⟩⟩
  case round =>
    obtain ⟨z, rfl, ⟨rfl, rfl⟩ | ⟨rfl, h1, h2, h3⟩⟩ := hrel
    · have hby := HBy.out
      go_wp2_with fail
      go_region_law
        ((refine step_append_full (by rfl) _ _ 77 (by rfl) 5 Tryz.underlying77 info_byte rfl (by decide) g l.length (bytesV l) (by rfl) (by rw [bytesV_length, Nat.mul_one]) (HC.out _ (by repeat (first | exact Below.refl _ _ | refine Below.drew ?_ | refine below_drewN ?_ _ | refine Below.alloc ?_ (by simp) _))) _ 1 1 [Value.int .u8 x.toNat] (by rfl) (by rfl) (by first | exact HnX.out _ | exact HnX.out wr | exact HnX.out wr.drew) (by decide) (by unfold maxLen; omega) (by omega) ?_
          intro v4 w4 hown4 hgrow4
          have hb4 : Below wr.heap.size wr w4 := Below.grown (by repeat (first | exact Below.refl _ _ | refine Below.drew ?_ | refine below_drewN ?_ _ | refine Below.alloc ?_ (by simp) _)) hgrow4 (by simp) (fun k hk => by cases hk)
          have hbx4 := HBox.out.below hb4 hpl
          have c0 : w4.cell? ⟨p, 0, none⟩ = some (.slice (some ⟨g, 0, none⟩) l.length l.length) := (hbx4.cell 0).trans rfl
          have c1 := hbx4.frozen 0
          have HB4 := Lib.hid hb4
          have HBx4 := Lib.hid hbx4
          have HO4 := Lib.hid (own_mono hown4 (base' := base) (by simp; omega))
          have HNe : Hid (v4.ownBlock ≠ some p) := Lib.hid fun e => by have := (own_lt hown4 e).1; simp at this; omega
          obtain ⟨A4, c4, hv4, _⟩ := own_slice hown4
          have hv5 : v4 = .slice A4 (l.length + 1) c4 := by rw [hv4]
          subst hv5
          clear hb4 hbx4 hown4 hgrow4 hv4 b0 f0))
      all_goals
        have HW4 : Hid (Wr base (w4.setCell ⟨p, 0, none⟩ (.slice A4 (l.length + 1) c4)) p (l ++ numB n 1)) := Lib.hid ⟨hlo, _, HBx4.out.set_ 0 _, by
          rw [HX.out, List.length_append, bytesV_append]
          exact own_keep HO4.out fun k hk _ => Below.heap_setCell _ _ _ _ fun (e : k = p) => HNe.out (by rw [hk, e])⟩
        have HF4 : Hid (Fr wr (w4.setCell ⟨p, 0, none⟩ (.slice A4 (l.length + 1) c4)) (WSet base p wr)) := Lib.hid ((Fr.of_below HB4.out _).setCell (p := ⟨p, 0, none⟩) (.inl ⟨hlo, .inl rfl⟩) _)
        have hs4 : base ≤ w4.heap.size := Nat.le_trans hs HB4.out.size
        go_wp2_with fail
        exact ⟨⟨-8, by first | rfl | go_num, .inr ⟨rfl, HW4.out, HF4.out, by simpa using hs4⟩⟩, by simp [intOf]⟩
    · have H1 := Lib.hid h1
      have H2 := Lib.hid h2
      clear h1 h2
      go_wp2_with fail
      go_end0
      exact ⟨rfl, H1.out, H2.out, h3⟩

set_option maxHeartbeats 3200000 in
set_option maxRecDepth 100000 in
theorem wtext_of (base p size : Nat) (s : ByteArray) (l : List UInt8) (w : World) (hl : l.length ≤ 900000) (hsz : size ≤ 4) (hn : s.size ≤ 100000)
    (hnum : Calls Tryz.prog 44 #[.pointer (some ⟨p, 0, none⟩), .int .u32 s.size, .int .i64 size] w fun e w' => e = .returned (.tuple #[]) ∧ Wr base w' p (l ++ numB s.size size) ∧ Fr w w' (WSet base p w) ∧ base ≤ w'.heap.size) :
    Calls Tryz.prog 43 #[.pointer (some ⟨p, 0, none⟩), .string s, .int .i64 size] w fun e w' => e = .returned (.tuple #[]) ∧ Wr base w' p (l ++ (numB s.size size ++ bts s)) ∧ Fr w w' (WSet base p w) ∧ base ≤ w'.heap.size := by
  have HN := Lib.hid hnum
  clear hnum
  go_enter Tryz.func43, Tryz.ntmps43
  go_wp2_with fail
  refine HN.out.mono ?_
  clear HN
  rintro e w1 ⟨rfl, hw1, hb1, hs1⟩
  have HW1 := Lib.hid hw1
  have HB1 := Lib.hid hb1
  obtain ⟨V, hbox, hrow⟩ := hw1.at_
  obtain ⟨Av, cv, rfl, _⟩ := own_slice hrow
  have hlen : (l ++ numB s.size size).length ≤ 900004 := by rw [List.length_append, numB_length]; omega
  generalize hLe : l ++ numB s.size size = L at *
  have HLe := Lib.hid hLe
  have HBox := Lib.hid hbox
  have HRow := Lib.hid hrow
  have b0 : w1.cell? ⟨p, 0, none⟩ = some (.slice Av L.length cv) := (hbox.cell 0).trans rfl
  have f0 := hbox.frozen 0
  have hpl := hbox.lt
  clear hbox hrow hLe hw1 hb1
  obtain ⟨i0, hi0, hz0, hz1, hz2⟩ := info_parts info_byte
  go_wp2_with (at_builtin; refine Lib.wpList_append_own_string _ rfl _ _ 77 9 rfl base 5 i0 Tryz.underlying77 Tryz.underlying9 hi0 hz0 hz1 hz2 _ L.length (bytesV L) rfl HRow.out s rfl (by unfold maxLen; omega) (by omega) hs1 ?_)
  intro v4 w4 hown4 hgrow4 _
  have hbx4 : Blk w4 p 77 #[.slice Av L.length cv] := (hgrow4.block p hpl (fun e => wr_blk_ne HRow.out HBox.out e.symm)).trans HBox.out
  have c0 : w4.cell? ⟨p, 0, none⟩ = some (.slice Av L.length cv) := (hbx4.cell 0).trans rfl
  have c1 := hbx4.frozen 0
  have hown5 : w4.ownsRow base 5 1 v4 (L.length + (bts s).length) (bytesV L ++ bytesV (bts s)) := by rw [bts_len]; exact hown4
  have HN := Lib.hid (HW1.out.put HBox.out HRow.out (Below.refl _ _) hgrow4 hown5)
  have HN2 := Lib.hid (WSet.trans HB1.out (HW1.out.set_ (v4 := v4) HRow.out hs1 (Below.refl _ _) hgrow4))
  have hs4 : base ≤ w4.heap.size := by have := hgrow4.size; omega
  obtain ⟨A4, c4, hv4, _⟩ := own_slice hown4
  have hv5 : v4 = .slice A4 (L.length + s.size) c4 := by rw [hv4]
  subst hv5
  clear hbx4 hgrow4 hown4 hown5 b0 f0 hv4
  go_wp2_with fail
  go_end0
  refine ⟨rfl, ?_, HN2.out, by simpa using hs4⟩
  rw [← List.append_assoc, HLe.out]
  exact HN.out
theorem wtext_any (base p size : Nat) (s : ByteArray) (l : List UInt8) (w : World) (h : Wr base w p l) (hs : base ≤ w.heap.size) (hl : l.length ≤ 900000) (hsz : size ≤ 4) (h1 : 1 ≤ size) (hn : s.size ≤ 100000) :
    Calls Tryz.prog 43 #[.pointer (some ⟨p, 0, none⟩), .string s, .int .i64 size] w fun e w' => e = .returned (.tuple #[]) ∧ Wr base w' p (l ++ (numB s.size size ++ bts s)) ∧ Fr w w' (WSet base p w) ∧ base ≤ w'.heap.size :=
  wtext_of base p size s l w hl hsz hn (number_any base p s.size size l w h hs (by omega) hsz h1)
theorem wtext_first (base p : Nat) (s : ByteArray) (l : List UInt8) (w : World) (h : Wm base w p l) (hs : base ≤ w.heap.size) (hl : l.length ≤ 900000) (hn : s.size ≤ 100000) :
    Calls Tryz.prog 43 #[.pointer (some ⟨p, 0, none⟩), .string s, .int .i64 1] w fun e w' => e = .returned (.tuple #[]) ∧ Wr base w' p (l ++ (numB s.size 1 ++ bts s)) ∧ Fr w w' (WSet base p w) ∧ base ≤ w'.heap.size :=
  wtext_of base p 1 s l w hl (by decide) hn (number_first base p s.size l w h hs (by omega))
end Go.Proofs.YtoneheloojlifaaGreatDoor
