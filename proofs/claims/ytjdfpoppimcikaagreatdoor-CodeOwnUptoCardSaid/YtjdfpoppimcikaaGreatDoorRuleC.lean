/- strings.ContainsRune at the operands' letters, for every byte. -/
import Derived.WalkMore
import Derived.Deep.QuietTactic
import Derived.Lib.IndexLaws
import Derived.Test.YtjdfpoppimcikaaGreatDoorRuleV
import Derived.Test.YtjdfpoppimcikaaGreatDoorIdx
namespace Go.Proofs.YtjdfpoppimcikaaGreatDoor
open Go.RowKit

theorem enc_hi (c : UInt8) (h : 128 ≤ c.toNat) : ∃ a b : UInt8, Utf8.encode (c.toNat : Int) = ⟨#[a, b]⟩ ∧ 128 ≤ b.toNat := by
  have hc := c.toNat_lt
  have hv : Utf8.valid (c.toNat : Int) = true := by unfold Utf8.valid; simp; omega
  unfold Utf8.encode
  simp only [hv, if_true, Int.toNat_natCast]
  rw [if_neg (by omega), if_pos (by omega)]
  refine ⟨_, _, rfl, ?_⟩
  rw [UInt8.toNat_ofNat']
  omega
theorem byte_hi (b : UInt8) (h : 128 ≤ b.toNat) : Lib.indexByte [118, 119, 102, 116] b = -1 := by
  have e : ∀ d : UInt8, d.toNat < 128 → (d == b) = false := fun d hd => by
    rw [beq_eq_false_iff_ne]; rintro rfl; omega
  unfold Lib.indexByte
  simp [Lib.indexByte, e 118 (by decide), e 119 (by decide), e 102 (by decide), e 116 (by decide)]
set_option maxHeartbeats 3200000 in
set_option maxRecDepth 100000 in
theorem indexRune_hi (c : UInt8) (hc : 128 ≤ c.toNat) (w : World) :
    Calls Tryz.prog 143 #[.string ⟨#[110, 105, 118, 119, 102, 116]⟩, .int .i32 c.toNat] w fun e w' => e = .returned (.int .i64 (-1)) ∧ ∃ n, w' = w.drewN n := by
  obtain ⟨a, b, he, hb⟩ := enc_hi c hc
  have h0 : (0 : Int) ≤ (c.toNat : Int) := by omega
  have h1 : ¬ ((c.toNat : Int) < 128) := by omega
  have hlt := c.toNat_lt
  have h2 : ((c.toNat : Int) == 65533) = false := by rw [beq_eq_false_iff_ne]; omega
  have hv : Lib.validRune (c.toNat : Int) = true := by unfold Lib.validRune; simp; omega
  have HV := Lib.hid (Tryz.utf8_ValidRune (c.toNat : Int) w)
  rw [hv] at HV
  obtain ⟨R, hR⟩ : ∃ R, R = Utf8.encode (c.toNat : Int) := ⟨_, rfl⟩
  rw [he] at hR
  have hsz : R.size = 2 := by rw [hR]; rfl
  have hr1 : 1 < R.size := by omega
  have hri : (1 : Int) < (R.size : Int) := by omega
  have hRb : R[1] = b := by subst hR; rfl
  have hbn : ((105 : Int) == (R[1].toNat : Int)) = false := by rw [beq_eq_false_iff_ne, hRb]; omega
  have hs1 : 1 < (⟨#[110, 105, 118, 119, 102, 116]⟩ : ByteArray).size := by decide +kernel
  have hs105 : ((⟨#[110, 105, 118, 119, 102, 116]⟩ : ByteArray)[1]'hs1).toNat = 105 := rfl
  have hbn2 : ¬ ((⟨#[110, 105, 118, 119, 102, 116]⟩ : ByteArray)[1]'hs1 = R[1]) := by rw [hRb]; intro h; have := congrArg UInt8.toNat h; rw [hs105] at this; omega
  have hbn3 : ((((⟨#[110, 105, 118, 119, 102, 116]⟩ : ByteArray)[1]'hs1).toNat : Int) == (R[1].toNat : Int)) = false := by rw [hs105]; exact hbn
  have hbb : b.toNat.toUInt8 = b := by simp
  have HIb : Hid (∀ W, Calls Tryz.prog 48 #[.string ((⟨#[110, 105, 118, 119, 102, 116]⟩ : ByteArray).extract 2 6), .int .u8 R[1].toNat] W fun e w' => e = .returned (.int .i64 (-1)) ∧ W = w') := Lib.hid fun W => by
    have h := Tryz.strings_IndexByte ⟨#[118, 119, 102, 116]⟩ (b.toNat : Int) W
    rw [Int.toNat_natCast, hbb, show (⟨#[118, 119, 102, 116]⟩ : ByteArray).data.toList = [118, 119, 102, 116] from rfl, byte_hi b hb] at h
    rw [hRb]
    exact h.mono fun e w' ⟨h1, h2⟩ => ⟨h1, h2.symm⟩
  rw [← hR] at he
  have HE := Lib.hid he
  clear hv he hbb hR hRb
  generalize (c.toNat : Int) = C at *
  go_enter Tryz.func143, Tryz.ntmps143
  go_wp2_with fail
  refine HV.out.mono ?_
  clear HV
  rintro e w1 ⟨rfl, rfl⟩
  have he' := HE.out
  go_wp2_with fail
  go_step3
  go_wp2_with fail
  clear HE he'
  go_loopw [9, 10] (fun i f wr => i = .int .i64 1 ∧ f = .int .i64 0 ∧ wr = w1) (fun _ _ _ => 0)
  case atStart => exact ⟨rfl, rfl, rfl⟩
  case round =>
    obtain ⟨rfl, rfl, rfl⟩ := hrel
    go_wp2_with fail
    go_step3
    go_wp2_with fail
    go_quiet (fail)
    go_wp2_with fail
    go_quiet ((go_at_call 48; first | with_reducible exact quiet_left (HIb.out _) | with_reducible exact quiet_add_left (HIb.out _)))
    go_wp2_with fail
    rw [Exit.noGoto_ret]
    go_wp2
    rw [Exit.noGoto_ret]
    go_wp2
    go_ret
    exact ⟨rfl, _, rfl⟩
theorem containsRune_any (c : UInt8) (w : World) :
    Calls Tryz.prog 117 #[.string ⟨#[110, 105, 118, 119, 102, 116]⟩, .int .i32 c.toNat] w fun e w' => e = .returned (.bool (opsR.contains c)) ∧ Below w.heap.size w w' := by
  by_cases hc : c.toNat < 128
  · refine (Tryz.strings_ContainsRune_ascii ⟨#[110, 105, 118, 119, 102, 116]⟩ (c.toNat : Int) w (by omega) (by omega)).mono ?_
    rintro e w' ⟨rfl, rfl⟩
    refine ⟨?_, Below.refl _ _⟩
    rw [Int.toNat_natCast, show c.toNat.toUInt8 = c by simp, show (⟨#[110, 105, 118, 119, 102, 116]⟩ : ByteArray).data.toList = opsR from rfl]
    congr 2
    by_cases hm : c ∈ opsR
    · rw [List.contains_iff_mem.2 hm]
      refine decide_eq_true ?_
      refine Decidable.byContradiction fun h => ?_
      have h1 : Lib.indexByte opsR c = -1 := by have := Lib.indexByte_ge opsR c; omega
      obtain ⟨k, hk, rfl⟩ := List.getElem_of_mem hm
      exact Lib.indexByte_none h1 k (List.getElem?_eq_getElem hk)
    · rw [show opsR.contains c = false from by rw [← Bool.not_eq_true, List.contains_iff_mem]; exact hm]
      refine decide_eq_false fun h => ?_
      obtain ⟨o, ho⟩ := Int.eq_ofNat_of_zero_le h
      exact hm (List.mem_of_getElem? (Lib.indexByte_some ho).1)
  · have hm : opsR.contains c = false := by
      rw [← Bool.not_eq_true, List.contains_iff_mem]
      intro h
      unfold opsR at h
      simp at h
      rcases h with h | h | h | h | h | h <;> rw [h] at hc <;> exact hc (by decide)
    rw [hm]
    have HI := Lib.hid (indexRune_hi c (by omega) w)
    clear hm hc
    go_enter Tryz.func117, Tryz.ntmps117
    go_wp2_with fail
    refine HI.out.mono ?_
    clear HI
    rintro e w1 ⟨rfl, n, rfl⟩
    go_wp2_with fail
    go_ret
    exact ⟨rfl, below_drewN (Below.refl _ _) n⟩
end Go.Proofs.YtjdfpoppimcikaaGreatDoor
/- rule.fine (under way). -/

namespace Go.Proofs.YtjdfpoppimcikaaGreatDoor
open Go.RowKit

set_option maxHeartbeats 3200000 in
set_option maxRecDepth 100000 in
theorem fine_gen (r : Rl) (V : Value) (lo : Nat) (w : World) (hV : ListOk Enc.pair w lo w.heap.size V r.rng) (hn : r.rng.length ≤ 10000000)
    (HAny : Hid (∀ W, Below w.heap.size w W → Calls Tryz.prog 164 #[V, .func (.func 181) #[] #[]] W fun e w' => e = .returned (.bool (r.rng.any fun p => !rngOk p)) ∧ Below W.heap.size W w')) :
    Calls Tryz.prog 161 #[.agg #[.int .u8 r.op.toNat, .int .i64 r.mod, .bool r.neg, V]] w fun e w' => e = .returned (.bool (fineR r)) ∧ Below w.heap.size w w' := by
  obtain ⟨VA, Vc, rfl, _⟩ := hV.form
  obtain ⟨W1, eW1⟩ : ∃ W1, W1 = w.alloc (.cells #[.int .u8 r.op.toNat, .int .i64 r.mod, .bool r.neg, .slice VA r.rng.length Vc] 239) := ⟨_, rfl⟩
  have hb1 : Below w.heap.size w W1 := by rw [eW1]; exact (Below.refl _ _).alloc (Nat.le_refl _) _
  have m1 : Blk W1 w.heap.size 239 #[.int .u8 r.op.toNat, .int .i64 r.mod, .bool r.neg, .slice VA r.rng.length Vc] := by rw [eW1]; exact Blk.new _ _ _
  have HB1 := Lib.hid hb1
  have M1 := Lib.hid m1
  have HW1 := Lib.hid eW1
  have HC := Lib.hid (containsRune_any r.op W1)
  have k0 : W1.cell? ⟨w.heap.size, 0, none⟩ = some (.int .u8 r.op.toNat) := (m1.cell 0).trans rfl
  have h32 : wrap32 (r.op.toNat : Int) = r.op.toNat := by have := r.op.toNat_lt; unfold wrap32; omega
  clear hV eW1 hb1 m1
  go_enter Tryz.func161, Tryz.ntmps161
  go_upto_region 1 with fail
  rw [← HW1.out]
  clear HW1
  go_wp2_with fail
  refine HC.out.mono ?_
  clear HC
  rintro e w2 ⟨rfl, hb2⟩
  have HB2 := Lib.hid (HB1.out.trans (hb2.mono HB1.out.size))
  have M2 := Lib.hid (M1.out.below hb2 M1.out.lt)
  clear hb2 k0 HB1 M1 h32
  have k1 := (M2.out.cell 1).trans (show _ = some (.int .i64 r.mod) from rfl)
  have k3 := (M2.out.cell 3).trans (show _ = some (.slice VA r.rng.length Vc) from rfl)
  have C := Lib.hid (HAny.out _ HB2.out)
  have hall : (r.rng.any fun p => !rngOk p) = !(r.rng.all rngOk) := by rw [Bool.eq_iff_iff]; simp
  rw [hall] at C
  have HF : Hid (fineR r = (opsR.contains r.op && decide (0 ≤ r.mod) && decide (r.mod ≤ 1000000) && !r.rng.isEmpty && r.rng.all rngOk)) := Lib.hid rfl
  have hem : r.rng.isEmpty = decide (r.rng.length = 0) := by cases r.rng <;> simp
  rw [hem] at HF
  clear HAny M2 hall hem
  generalize r.rng.all rngOk = al at *
  generalize r.rng.length = n at *
  generalize r.mod = m at *
  cases hc : opsR.contains r.op with
  | false =>
    rw [hc] at HF
    go_wp2_with fail
    go_ret
    exact ⟨by rw [HF.out]; rfl, HB2.out⟩
  | true =>
    rw [hc] at HF
    by_cases h1 : m < 0
    · have HF' : fineR r = false := by rw [HF.out]; simp; omega
      have HFF := Lib.hid HF'
      clear HF HF' C
      go_wp2_with fail
      go_ret
      exact ⟨by rw [HFF.out]; rfl, HB2.out⟩
    · by_cases h2 : 1000000 < m
      · have HF' : fineR r = false := by rw [HF.out]; simp; omega
        have HFF := Lib.hid HF'
        clear HF HF' C
        go_wp2_with fail
        go_ret
        exact ⟨by rw [HFF.out]; rfl, HB2.out⟩
      · by_cases h3 : n = 0
        · have HF' : fineR r = false := by rw [HF.out]; simp [h3]
          have HFF := Lib.hid HF'
          subst h3
          clear HF HF' C
          go_wp2_with fail
          go_ret
          exact ⟨by rw [HFF.out]; rfl, HB2.out⟩
        · have hq : ((n : Int) == 0) = false := by rw [beq_eq_false_iff_ne]; omega
          have HF' : fineR r = al := by rw [HF.out]; simp [h3]; omega
          have HFF := Lib.hid HF'
          clear HF HF' h3
          go_wp2_with fail
          refine C.out.mono ?_
          clear C
          rintro e w3 ⟨rfl, hb3⟩
          have HB3 := Lib.hid (HB2.out.trans (hb3.mono HB2.out.size))
          clear hb3
          go_wp2_with fail
          go_ret
          exact ⟨by rw [HFF.out]; simp [ret_bool], HB3.out⟩
end Go.Proofs.YtjdfpoppimcikaaGreatDoor
/- rule.fine and rule.check. -/

namespace Go.Proofs.YtjdfpoppimcikaaGreatDoor
open Go.RowKit

theorem fine_any (r : Rl) (V : Value) (lo : Nat) (w : World) (hV : ListOk Enc.pair w lo w.heap.size V r.rng) (hn : r.rng.length ≤ 10000000) :
    Calls Tryz.prog 161 #[.agg #[.int .u8 r.op.toNat, .int .i64 r.mod, .bool r.neg, V]] w fun e w' => e = .returned (.bool (fineR r)) ∧ Below w.heap.size w w' :=
  fine_gen r V lo w hV hn (Lib.hid fun W hW => containsF_any r.rng V (fun p => !rngOk p) lo W ((hV.below Enc.pair_laws hW).mono Enc.pair_laws (Nat.le_refl _) hW.size) (by omega) (Lib.hid fun x _ W' _ => fine1_any x W'))

theorem checkR_bad {R : List (List Rl)} {i : Nat} (h : i < R.length) (hb : partOk R[i] = false) : checkR R = 3 := by
  have h1 : R.all partOk = false := by
    rw [List.all_eq_false]
    exact ⟨R[i], List.getElem_mem h, by simp [hb]⟩
  unfold checkR
  rw [h1]
  simp
theorem partOk_bad {p : List Rl} {k : Nat} (h : k < p.length) (hb : fineR p[k] = false) : partOk p = false := by
  unfold partOk
  have h1 : p.all fineR = false := by
    rw [List.all_eq_false]
    exact ⟨p[k], List.getElem_mem h, by simp [hb]⟩
  rw [h1]
  simp
theorem partOk_good {p : List Rl} (h0 : 0 < p.length) (h : ∀ k (hk : k < p.length), fineR p[k] = true) : partOk p = true := by
  unfold partOk
  have h1 : p.all fineR = true := by
    rw [List.all_eq_true]
    intro x hx
    obtain ⟨k, hk, rfl⟩ := List.getElem_of_mem hx
    exact h k hk
  rw [h1]
  have h2 : p.isEmpty = false := by rw [List.isEmpty_eq_false_iff]; exact List.length_pos_iff.1 h0
  rw [h2]; rfl
theorem checkR_good {R : List (List Rl)} (h0 : 0 < R.length) (h : ∀ i (hi : i < R.length), partOk R[i] = true) : checkR R = if 20 < countR R then 4 else 0 := by
  have h1 : R.all partOk = true := by
    rw [List.all_eq_true]
    intro x hx
    obtain ⟨k, hk, rfl⟩ := List.getElem_of_mem hx
    exact h k hk
  have h2 : R.isEmpty = false := by rw [List.isEmpty_eq_false_iff]; exact List.length_pos_iff.1 h0
  unfold checkR
  rw [h1, h2]
  simp
theorem countR_take {R : List (List Rl)} {i : Nat} (h : i < R.length) : countR (R.take (i + 1)) = countR (R.take i) + R[i].length := by
  unfold countR
  rw [List.take_succ_eq_append_getElem h, List.map_append, List.sum_append]
  simp
theorem countR_le {M : Nat} : ∀ (R : List (List Rl)), (∀ p ∈ R, p.length ≤ M) → countR R ≤ R.length * M
  | [], _ => by simp [countR]
  | p :: R, h => by
    have h1 := countR_le R fun q hq => h q (List.mem_cons_of_mem _ hq)
    have h2 := h p (List.mem_cons_self ..)
    unfold countR at h1 ⊢
    rw [List.map_cons, List.sum_cons, List.length_cons, Nat.add_mul, Nat.one_mul]
    omega
set_option maxHeartbeats 6400000 in
set_option maxRecDepth 100000 in
theorem rcheck_any (R : List (List Rl)) (v : Value) (lo : Nat) (w : World) (hv : ListOk (Enc.list Enc.rl) w lo w.heap.size v R) (h1 : R.length ≤ 10000000) (h2 : ∀ p ∈ R, p.length ≤ 10000000) (h3 : ∀ p ∈ R, ∀ r ∈ p, r.rng.length ≤ 10000000) :
    Calls Tryz.prog 136 #[v] w fun e w' => e = .returned (errR (checkR R)) ∧ Below w.heap.size w w' := by
  obtain ⟨A, c, rfl, hc⟩ := hv.form
  have HV : Hid (∀ W, Below w.heap.size w W → ListOk (Enc.list Enc.rl) W lo w.heap.size (.slice A R.length c) R) := Lib.hid fun W hW => hv.below (Enc.list_laws Enc.rl_laws) hW
  have H2 := Lib.hid h2
  have H3 := Lib.hid h3
  clear hv h2 h3
  by_cases h0 : R.length = 0
  · have HE : Hid (errR (checkR R) = errR 3) := Lib.hid (by rw [List.length_eq_zero_iff.1 h0]; rfl)
    have hq : ((R.length : Int) == 0) = true := by rw [h0]; rfl
    rw [HE.out]
    clear HV
    go_enter Tryz.func136, Tryz.ntmps136
    go_wp2_with fail
    go_ret
    exact ⟨rfl, Below.refl _ _⟩
  have hq : ((R.length : Int) == 0) = false := by rw [beq_eq_false_iff_ne]; omega
  have HCn : Hid (∀ i, i ≤ R.length → countR (R.take i) ≤ 100000000000000) := Lib.hid fun i hi => by
    have h := countR_le (M := 10000000) (R.take i) fun p hp => H2.out p (List.mem_of_mem_take hp)
    rw [List.length_take] at h
    omega
  have H0 : Hid (0 < R.length) := Lib.hid (by omega)
  go_enter Tryz.func136, Tryz.ntmps136
  go_wp2_with fail
  go_loopw [3, 5, 7, 14] (fun n _ _ i wr => ∃ j : Nat, j ≤ R.length ∧ i = .int .i64 (j : Int) ∧ n = .int .i64 (countR (R.take j) : Int) ∧ Hid (∀ q (h : q < R.length), q < j → partOk R[q] = true) ∧ Below w.heap.size w wr) (fun _ _ _ i _ => R.length - (intOf i).toNat)
  case atStart => exact ⟨0, Nat.zero_le _, rfl, rfl, Lib.hid fun q _ h => absurd h (Nat.not_lt_zero _), Below.refl _ _⟩
  case round =>
    obtain ⟨j, hj, rfl, rfl, HNo, hb⟩ := hrel
    have HB := Lib.hid hb
    have hbs := hb.size
    have hcn := HCn.out j hj
    obtain ⟨cn, hcn0⟩ : ∃ cn, cn = countR (R.take j) := ⟨_, rfl⟩
    have HC0 := Lib.hid hcn0
    rw [← hcn0] at hcn ⊢
    clear hcn0
    by_cases hlt : j < R.length
    · have HP : Hid (∃ p, p = R[j]) := Lib.hid ⟨_, rfl⟩
      have hmem : R[j] ∈ R := List.getElem_mem hlt
      have hp2 := H2.out _ hmem
      have hp3 := H3.out _ hmem
      obtain ⟨b0, o0, V, rfl, hb1, hb2, x0, hV⟩ := (HV.out _ hb).listAt j hlt
      have HBad : Hid (partOk R[j] = false → checkR R = 3) := Lib.hid fun h => checkR_bad hlt h
      have HTk : Hid (countR (R.take (j + 1)) = cn + R[j].length) := Lib.hid (by rw [countR_take hlt, HC0.out])
      have HNx : Hid (partOk R[j] = true → ∀ q (h : q < R.length), q < j + 1 → partOk R[q] = true) := Lib.hid fun h q hq hq1 => by
        rcases Nat.lt_or_eq_of_le (Nat.le_of_lt_succ hq1) with e | e
        · exact HNo.out q hq e
        · subst e; exact h
      generalize R[j] = p at *
      obtain ⟨VA, Vc, rfl, _⟩ := hV.form
      have HVp : Hid (∀ W, Below wr.heap.size wr W → ListOk Enc.rl W lo wr.heap.size (.slice VA p.length Vc) p) := Lib.hid fun W hW => (hV.mono Enc.rl_laws (Nat.le_refl _) hbs).below Enc.rl_laws hW
      have HP3 := Lib.hid hp3
      clear hV hmem hb HP hp3
      have i1 : (0 : Int) ≤ (j : Int) := Int.natCast_nonneg j
      have i2 : (j : Int) < (R.length : Int) := by omega
      by_cases hp0 : p.length = 0
      · have hz : ((p.length : Int) == 0) = true := by rw [hp0]; rfl
        have HE : Hid (checkR R = 3) := Lib.hid (HBad.out (by rw [List.length_eq_zero_iff.1 hp0]; rfl))
        clear HVp HNx HTk HBad HP3 hp0 hp2 H2 H3
        go_wp2_with fail
        go_ret
        exact ⟨by rw [HE.out]; rfl, HB.out⟩
      · have hz : ((p.length : Int) == 0) = false := by rw [beq_eq_false_iff_ne]; omega
        have h00 : 0 < p.length := by omega
        obtain ⟨b1, o1, V1, rfl, c1, c2, y0, y1, y2, y3, hV1⟩ := (HVp.out _ (Below.refl _ _)).rlAt 0 h00
        have hr3 := HP3.out p[0] (List.getElem_mem h00)
        obtain ⟨Y, hY⟩ : ∃ Y, Y = fineR p[0] := ⟨_, rfl⟩
        have HY := Lib.hid hY
        have HF := Lib.hid (fine_any p[0] V1 lo wr hV1 hr3)
        rw [← hY] at HF
        have HB0 : Hid (Y = false → checkR R = 3) := Lib.hid fun h => HBad.out (partOk_bad h00 (by rw [← HY.out]; exact h))
        obtain ⟨V1A, V1c, rfl, _⟩ := hV1.form
        clear hV1 hr3 hY
        generalize p[0] = e at *
        obtain ⟨e0, e1, e2, e3⟩ := e
        dsimp only at y0 y1 y2 y3 HF
        simp only [Nat.zero_mul, Nat.add_zero] at y0 y1 y2 y3
        have k1 : (0 : Int) < (p.length : Int) := by omega
        clear HY H2 H3
        go_wp2_with fail
        refine HF.out.mono ?_
        clear HF
        rintro e w1 ⟨rfl, hb1'⟩
        have HB1 := Lib.hid hb1'
        clear hb1' y0 y1 y2 y3
        cases Y with
        | false =>
          have HE : Hid (checkR R = 3) := Lib.hid (HB0.out rfl)
          clear HVp HNx HTk HBad HP3 HB0
          go_wp2_with fail
          go_ret
          exact ⟨by rw [HE.out]; rfl, HB.out.trans (HB1.out.mono hbs)⟩
        | true =>
          clear HB0
          obtain ⟨wo, rfl⟩ : ∃ wo : World, wo = wr := ⟨_, rfl⟩
          go_wp2_with fail
          go_loopw [3, 7, 31] (fun n _ k w2 => ∃ q : Nat, q ≤ p.length ∧ k = .int .i64 (q : Int) ∧ n = .int .i64 ((cn + q : Nat) : Int) ∧ Hid (∀ m (h : m < p.length), m < q → fineR p[m] = true) ∧ Below wo.heap.size wo w2) (fun _ _ k _ => p.length - (intOf k).toNat)
          case atStart => exact ⟨0, Nat.zero_le _, rfl, by simp, Lib.hid fun _ _ h => absurd h (Nat.not_lt_zero _), HB1.out⟩
          case round =>
            obtain ⟨q, hq', rfl, rfl, HN2, hb2⟩ := hrel
            have HB2 := Lib.hid hb2
            have hbs2 := hb2.size
            have hqn : cn + q ≤ 100000010000000 := by omega
            by_cases hlt2 : q < p.length
            · obtain ⟨b2, o2, V2, hA2, d1, d2, z0, z1, z2, z3, hV2⟩ := (HVp.out _ hb2).rlAt q hlt2
              injection hA2 with hA2
              injection hA2 with hA2b hA2o
              subst hA2b
              subst hA2o
              have hr4 := HP3.out p[q] (List.getElem_mem hlt2)
              obtain ⟨Y2, hY2⟩ : ∃ Y2, Y2 = fineR p[q] := ⟨_, rfl⟩
              have HB3 : Hid (Y2 = false → checkR R = 3) := Lib.hid fun h => HBad.out (partOk_bad hlt2 (by rw [← hY2]; exact h))
              have HN3 : Hid (Y2 = true → ∀ m (h : m < p.length), m < q + 1 → fineR p[m] = true) := Lib.hid fun h m hm hm1 => by
                rcases Nat.lt_or_eq_of_le (Nat.le_of_lt_succ hm1) with e | e
                · exact HN2.out m hm e
                · subst e; rw [← hY2]; exact h
              obtain ⟨V2A, V2c, rfl, _⟩ := hV2.form
              have HF0 : Hid (∀ W, Below wr.heap.size wr W → Calls Tryz.prog 161 #[.agg #[.int .u8 p[q].op.toNat, .int .i64 p[q].mod, .bool p[q].neg, .slice V2A p[q].rng.length V2c]] W fun e w' => e = .returned (.bool Y2) ∧ Below W.heap.size W w') := Lib.hid fun W hW => by
                rw [hY2]
                exact fine_any p[q] _ lo W (((hV2.mono Enc.pair_laws (Nat.le_refl _) hbs2).below Enc.pair_laws hW).mono Enc.pair_laws (Nat.le_refl _) hW.size) hr4
              clear hV2 hr4 hY2 HN2
              generalize p[q] = e at *
              obtain ⟨f0, f1, f2, f3⟩ := e
              dsimp only at z0 z1 z2 z3 HF0
              have HFw := Lib.hid (HF0.out (wr.alloc (.cells #[.int .u8 f0.toNat, .int .i64 f1, .bool f2, .slice V2A f3.length V2c] 239)) ((Below.refl _ _).alloc (Nat.le_refl _) _))
              clear HF0
              have i3 : (0 : Int) ≤ (q : Int) := Int.natCast_nonneg q
              have i4 : (q : Int) < (p.length : Int) := by omega
              go_wp2_with fail
              refine HFw.out.mono ?_
              clear HFw
              rintro e w3 ⟨rfl, hb3'⟩
              have HB4 := Lib.hid (HB2.out.trans (((Below.refl _ wr).alloc (Nat.le_refl _) _ |>.trans (hb3'.mono (by simp))).mono hbs2))
              clear hb3'
              cases Y2 with
              | false =>
                have HE : Hid (checkR R = 3) := Lib.hid (HB3.out rfl)
                clear HVp HNx HTk HBad HP3 HB3 HN3
                go_wp2_with fail
                go_ret
                exact ⟨by rw [HE.out]; rfl, HB.out.trans (HB4.out.mono hbs)⟩
              | true =>
                have HN4 := Lib.hid (HN3.out rfl)
                clear HB3 HN3
                go_wp2_with fail
                go_roundw
                case rel => exact ⟨q + 1, by omega, by go_num, by go_num, HN4, HB4.out⟩
                case measure => simp [intOf]; omega
            · obtain rfl : q = p.length := by omega
              have HN5 := Lib.hid (HNx.out (partOk_good h00 fun m hm => HN2.out m hm hm))
              clear HN2 HVp HBad HP3
              go_wp2_with fail
              go_roundw
              case rel => exact ⟨j + 1, by omega, by go_num, by rw [HTk.out], HN5, HB.out.trans (HB2.out.mono hbs)⟩
              case measure => simp [intOf]; omega
    · obtain rfl : j = R.length := by omega
      rw [List.take_length] at HC0
      have HE : Hid (checkR R = if 20 < cn then 4 else 0) := Lib.hid (by rw [checkR_good H0.out fun q hq => HNo.out q hq hq, HC0.out])
      clear HNo HC0 hb HCn
      by_cases h20 : 20 < cn
      · have hg : (20 : Int) < (cn : Int) := by omega
        rw [if_pos h20] at HE
        go_wp2_with fail
        go_ret
        exact ⟨by rw [HE.out]; rfl, HB.out⟩
      · have hg : ¬ ((20 : Int) < (cn : Int)) := by omega
        rw [if_neg h20] at HE
        go_wp2_with fail
        go_ret
        exact ⟨by rw [HE.out]; rfl, HB.out⟩
end Go.Proofs.YtjdfpoppimcikaaGreatDoor
