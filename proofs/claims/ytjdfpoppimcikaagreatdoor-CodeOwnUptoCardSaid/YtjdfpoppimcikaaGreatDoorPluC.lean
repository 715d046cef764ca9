/- plural.Kind. -/
import Derived.Test.YtjdfpoppimcikaaGreatDoorPluB
namespace Go.Proofs.YtjdfpoppimcikaaGreatDoor
open Go.RowKit

def othB : ByteArray := ⟨#[111, 116, 104, 101, 114]⟩
def pickO (o : OpV) : List ByteArray → List ByteArray → ByteArray
  | t :: ts, k :: ks => if !t.toList.isEmpty && holdR o (ruleOf (bts t)) then k else pickO o ts ks
  | _, _ => othB
def kndE (s : SetV) (d : DecV) : Int := if checkS s = 0 then checkD d else 3
def kndT (s : SetV) (d : DecV) : ByteArray := if kndE s d = 0 then pickO (opsV d) s.list kindC else ⟨#[]⟩
theorem trimF_nn : ∀ (n : Nat) (c : Int), 0 ≤ c → 0 ≤ (trimF n c).1 ∧ (trimF n c).1 ≤ c
  | 0, c, h => ⟨h, Int.le_refl _⟩
  | n + 1, c, h => by
    unfold trimF
    split
    · have h1 : 0 ≤ Int.tdiv c 10 := by rw [Int.tdiv_eq_ediv_of_nonneg h]; exact Int.ediv_nonneg h (by decide)
      have h2 : Int.tdiv c 10 ≤ c := by rw [Int.tdiv_eq_ediv_of_nonneg h]; exact Int.ediv_le_self _ h
      obtain ⟨q1, q2⟩ := trimF_nn n _ h1
      exact ⟨q1, Int.le_trans q2 h2⟩
    · exact ⟨h, Int.le_refl _⟩
theorem wf64 {n : Int} (h0 : -9223372036854775808 ≤ n) (h1 : n ≤ 9223372036854775807) : (Lit.int .i64 n).wf = true := by
  simp [Lit.wf, IntKind.min, IntKind.max, IntKind.signed, IntKind.bits]; omega
theorem opsV_ok (d : DecV) (h : d.ok) : (opsV d).Ok := by
  obtain ⟨b0, b1, b2, b3, b4, b5⟩ := ops_bound d h
  obtain ⟨q1, q2⟩ := trimF_nn d.scale.toNat (opsF d) b2
  have q3 := (trimF_ok d.scale.toNat (opsF d) (by omega) (by omega)).1
  obtain ⟨h0, h1, h2, h3⟩ := h
  exact ⟨wf64 (by show _ ≤ Int.tdiv _ _; omega) (by show Int.tdiv _ _ ≤ _; omega), wf64 (by show _ ≤ d.scale; omega) (by show d.scale ≤ _; omega), wf64 (by show _ ≤ ((trimF _ _).2 : Int); omega) (by show ((trimF _ _).2 : Int) ≤ _; omega), wf64 (by show _ ≤ opsF d; omega) (by show opsF d ≤ _; omega), wf64 (by show _ ≤ (trimF _ _).1; omega) (by show (trimF _ _).1 ≤ _; omega)⟩
theorem okT_check {t : ByteArray} (hn : t.toList ≠ []) (h : okT t = true) : checkR (ruleOf (bts t)) = 0 := by
  rw [okT_par hn] at h
  exact (of_decide_eq_true h).1
theorem holdsC_any (t : ByteArray) (o : OpV) (v : Value) (w : World) (ho : o.Ok) (hn : t.toList ≠ []) (hk : okT t = true) (hr : RuIn w 0 v (ruleOf (bts t))) :
    Calls Tryz.prog 101 #[v, .agg #[.int .i64 o.i, .int .i64 o.v, .int .i64 o.w, .int .i64 o.f, .int .i64 o.t]] w fun e w' => e = .returned (.tuple #[.bool (holdR o (ruleOf (bts t))), .nilIface]) ∧ Below w.heap.size w w' := by
  have h := Holds_any (ruleOf (bts t)) v o 0 w hr ho
  rw [okT_check hn hk, if_pos rfl, errR_zero] at h
  exact h
theorem pickO_hit {o : OpV} {t k : ByteArray} {ts ks : List ByteArray} (hn : t.toList ≠ []) (h : holdR o (ruleOf (bts t)) = true) : pickO o (t :: ts) (k :: ks) = k := by
  refine if_pos ?_
  cases e : t.toList with
  | nil => exact absurd e hn
  | cons a l => rw [h]; rfl
theorem pickO_next {o : OpV} {t k : ByteArray} {ts ks : List ByteArray} (h : t.toList = [] ∨ holdR o (ruleOf (bts t)) = false) : pickO o (t :: ts) (k :: ks) = pickO o ts ks := by
  refine if_neg ?_
  rcases h with h | h
  · rw [h]; exact Bool.false_ne_true
  · rw [h, Bool.and_false]; exact Bool.false_ne_true
set_option maxHeartbeats 6400000 in
set_option maxRecDepth 100000 in
theorem kind_any (s : SetV) (d : DecV) (w : World) (hs : s.small) (hv : EvV w) : Calls Tryz.prog 56 #[s.val, d.v] w fun e w' => e = .returned (.tuple #[.string (kndT s d), errD (kndE s d)]) ∧ Below w.heap.size w w' := by
  have HT : Hid (∀ W, Calls Tryz.prog 99 #[s.val] W fun e w' => e = .returned s.val ∧ Below W.heap.size W w') := Lib.hid fun W => texts_any' s W
  have HV : Hid (∀ W, Below w.heap.size w W → EvV W) := Lib.hid fun W hW => hv.below hW
  have HC : Hid (∀ W, Below w.heap.size w W → Calls Tryz.prog 97 #[s.val] W fun e w' => e = .returned (errD (checkS s)) ∧ Below W.heap.size W w') := Lib.hid fun W hW => pcheck_any s W hs (hv.below hW)
  have HOp : Hid (∀ W, Calls Tryz.prog 98 #[d.v] W fun e w' => e = .returned (.tuple #[(opsO d).val, errD (checkD d)]) ∧ Below W.heap.size W w') := Lib.hid fun W => opsOf_any d W
  have HOk : Hid (checkS s = 0 → ∀ t ∈ s.list, okT t = true) := Lib.hid fun h t ht => by
    unfold checkS at h
    split at h
    · rename_i h2; exact List.all_eq_true.1 h2 t ht
    · cases h
  have HE : Hid ((checkS s = 0 → kndE s d = checkD d) ∧ (checkS s ≠ 0 → kndE s d = 3)) := Lib.hid ⟨fun h => if_pos h, fun h => if_neg h⟩
  have HK : Hid ((kndE s d = 0 → kndT s d = pickO (opsV d) s.list kindC) ∧ (kndE s d ≠ 0 → kndT s d = ⟨#[]⟩)) := Lib.hid ⟨fun h => if_pos h, fun h => if_neg h⟩
  have HS0 : checkS s = 0 ∨ checkS s = 3 := by unfold checkS; split <;> simp
  have HD1 : Hid (d.ok → opsO d = opsV d ∧ checkD d = 0 ∧ (opsV d).Ok) := Lib.hid fun h => ⟨if_pos h, checkD_ok h, opsV_ok d h⟩
  have HD2 : Hid (¬ d.ok → checkD d = 1) := Lib.hid fun h => checkD_no h
  have HSm : Hid (∀ t ∈ s.list, t.size ≤ 10000) := Lib.hid hs
  obtain ⟨a, b, c, dd, f⟩ := s
  generalize kndT ⟨a, b, c, dd, f⟩ d = kt at *
  generalize kndE ⟨a, b, c, dd, f⟩ d = ke at *
  generalize checkS ⟨a, b, c, dd, f⟩ = cs at *
  unfold SetV.val SetV.list at *
  dsimp only at *
  obtain ⟨W2, eW2⟩ : ∃ W2, W2 = (w.alloc (.cells #[.string a, .string b, .string c, .string dd, .string f] 56)).alloc (.cells #[.int .i64 d.coef, .int .i64 d.scale] 33) := ⟨_, rfl⟩
  have ma : Blk W2 w.heap.size 56 #[.string a, .string b, .string c, .string dd, .string f] := by rw [eW2]; exact (Blk.new _ _ _).alloc _
  have mb : Blk W2 (w.heap.size + 1) 33 #[.int .i64 d.coef, .int .i64 d.scale] := by
    rw [eW2]
    have := Blk.new (w.alloc (.cells #[.string a, .string b, .string c, .string dd, .string f] 56)) 33 #[.int .i64 d.coef, .int .i64 d.scale]
    rw [World.size_alloc] at this; exact this
  have hb2 : Below w.heap.size w W2 := by rw [eW2]; exact ((Below.refl _ _).alloc (Nat.le_refl _) _).alloc (by simp) _
  have HB2 := Lib.hid hb2
  have MA := Lib.hid ma
  have MB := Lib.hid mb
  have EW := Lib.hid eW2
  have k0 := (ma.cell 0).trans (show _ = some (.string a) from rfl)
  have k1 := (ma.cell 1).trans (show _ = some (.string b) from rfl)
  have k2 := (ma.cell 2).trans (show _ = some (.string c) from rfl)
  have k3 := (ma.cell 3).trans (show _ = some (.string dd) from rfl)
  have k4 := (ma.cell 4).trans (show _ = some (.string f) from rfl)
  have i0 : ∀ w, (Instr.index 186 (.agg #[.string a, .string b, .string c, .string dd, .string f]) (.int .i64 0)).run Tryz.prog w = .ok (.string a) w := fun _ => by kernel_rfl
  have i1 : ∀ w, (Instr.index 186 (.agg #[.string a, .string b, .string c, .string dd, .string f]) (.int .i64 1)).run Tryz.prog w = .ok (.string b) w := fun _ => by kernel_rfl
  have i2 : ∀ w, (Instr.index 186 (.agg #[.string a, .string b, .string c, .string dd, .string f]) (.int .i64 2)).run Tryz.prog w = .ok (.string c) w := fun _ => by kernel_rfl
  have i3 : ∀ w, (Instr.index 186 (.agg #[.string a, .string b, .string c, .string dd, .string f]) (.int .i64 3)).run Tryz.prog w = .ok (.string dd) w := fun _ => by kernel_rfl
  have i4 : ∀ w, (Instr.index 186 (.agg #[.string a, .string b, .string c, .string dd, .string f]) (.int .i64 4)).run Tryz.prog w = .ok (.string f) w := fun _ => by kernel_rfl
  unfold DecV.v at *
  have HCk := Lib.hid (HC.out W2 hb2)
  clear hb2 ma mb eW2 hs hv HC
  go_enter Tryz.func56, Tryz.ntmps56
  go_upto_region 1 with fail
  rw [← EW.out]
  clear EW
  go_wp2_with fail
  refine HCk.out.mono ?_
  clear HCk k0 k1 k2 k3 k4
  rintro e w3 ⟨rfl, hb3⟩
  have HB3 := Lib.hid (HB2.out.trans (hb3.mono HB2.out.size))
  have MA3 := Lib.hid (MA.out.below hb3 MA.out.lt)
  have MB3 := Lib.hid (MB.out.below hb3 MB.out.lt)
  clear hb3 MA MB HB2
  rcases HS0 with rfl | rfl
  · have hke : ke = checkD d := HE.out.1 rfl
    have HOk2 := Lib.hid (HOk.out rfl)
    rw [errD_zero]
    clear HE HOk
    have d0 := (MB3.out.cell 0).trans (show _ = some (.int .i64 d.coef) from rfl)
    have d1 := (MB3.out.cell 1).trans (show _ = some (.int .i64 d.scale) from rfl)
    have HKe := Lib.hid hke
    clear hke
    go_wp2_with fail
    refine (HOp.out _).mono ?_
    clear HOp d0 d1 MB3
    rintro e w4 ⟨rfl, hb4⟩
    have HB4 := Lib.hid (HB3.out.trans (hb4.mono HB3.out.size))
    have MA4 := Lib.hid (MA3.out.below hb4 MA3.out.lt)
    clear hb4 HB3 MA3
    by_cases hd : d.ok
    · obtain ⟨e1, e2, e3⟩ := HD1.out hd
      rw [e1, e2, errD_zero]
      obtain rfl : ke = 0 := HKe.out.trans e2
      have HK2 : Hid (kt = pickO (opsV d) [a, b, c, dd, f] kindC) := Lib.hid (HK.out.1 rfl)
      have HOo := Lib.hid e3
      clear e1 e2 e3 hd HD1 HD2 HKe HK
      unfold OpV.val
      generalize opsV d = o at *
      have hb5 : Below w4.heap.size w4 (w4.alloc (.cells #[.int .i64 o.i, .int .i64 o.v, .int .i64 o.w, .int .i64 o.f, .int .i64 o.t] 183)) := (Below.refl _ _).alloc (Nat.le_refl _) _
      have MO5 : Hid (Blk (w4.alloc (.cells #[.int .i64 o.i, .int .i64 o.v, .int .i64 o.w, .int .i64 o.f, .int .i64 o.t] 183)) w4.heap.size 183 #[.int .i64 o.i, .int .i64 o.v, .int .i64 o.w, .int .i64 o.f, .int .i64 o.t]) := Lib.hid (Blk.new _ _ _)
      have MA5 := Lib.hid (MA4.out.below hb5 MA4.out.lt)
      have HB5 := Lib.hid (HB4.out.trans (hb5.mono HB4.out.size))
      have k0 := (MA5.out.cell 0).trans (show _ = some (.string a) from rfl)
      have k1 := (MA5.out.cell 1).trans (show _ = some (.string b) from rfl)
      have k2 := (MA5.out.cell 2).trans (show _ = some (.string c) from rfl)
      have k3 := (MA5.out.cell 3).trans (show _ = some (.string dd) from rfl)
      have k4 := (MA5.out.cell 4).trans (show _ = some (.string f) from rfl)
      have hO4 : w4.heap.size < w4.heap.size + 1 := Nat.lt_succ_self _
      clear hb5 MA4 HB4
      go_wp2_with fail
      refine (HT.out _).mono ?_
      clear HT k0 k1 k2 k3 k4 MA5
      rintro e w6 ⟨rfl, hb6⟩
      have HB6 := Lib.hid (HB5.out.trans (hb6.mono HB5.out.size))
      have MO6 := Lib.hid (MO5.out.below hb6 MO5.out.lt)
      clear hb6 MO5 HB5
      go_wp2_with fail
      go_loopw [30] (fun i wr => ∃ j : Nat, j ≤ 5 ∧ i = .int .i64 (j : Int) ∧ Hid (kt = pickO o ([a, b, c, dd, f].drop j) (kindC.drop j)) ∧ Blk wr w4.heap.size 183 #[.int .i64 o.i, .int .i64 o.v, .int .i64 o.w, .int .i64 o.f, .int .i64 o.t] ∧ Below w.heap.size w wr) (fun i _ => 5 - (intOf i).toNat)
      case atStart => exact ⟨0, Nat.zero_le _, rfl, HK2, MO6.out, HB6.out⟩
      case round =>
        clear HB6 MO6 HK2
        obtain ⟨j, hj, rfl, HP, hmo, hb⟩ := hrel
        have HB := Lib.hid hb
        have MO := Lib.hid hmo
        have HEv := Lib.hid (HV.out wr hb)
        clear hb hmo
        have hcase : j = 0 ∨ j = 1 ∨ j = 2 ∨ j = 3 ∨ j = 4 ∨ j = 5 := by omega
        rcases hcase with rfl | rfl | rfl | rfl | rfl | rfl
        · by_cases hq : a.toList = []
          · have hq2 : (a.toList == []) = true := by rw [hq]; rfl
            have HN : Hid (kt = pickO o ([a, b, c, dd, f].drop 1) (kindC.drop 1)) := Lib.hid (HP.out.trans (pickO_next (.inl hq)))
            clear hq
            go_wp2_with fail
            go_roundw
            case rel => exact ⟨1, by omega, rfl, HN, MO.out, HB.out⟩
            case measure => simp [intOf]
          · have hq2 : (a.toList == []) = false := by
              cases e : a.toList with
              | nil => exact absurd e hq
              | cons _ _ => rfl
            have hk := HOk2.out a (by simp)
            have HPa := Lib.hid (parseC_any a wr (HSm.out a (by simp)) HEv.out hq)
            have HHo : Hid (∀ W v, RuIn W 0 v (ruleOf (bts a)) → Calls Tryz.prog 101 #[v, .agg #[.int .i64 o.i, .int .i64 o.v, .int .i64 o.w, .int .i64 o.f, .int .i64 o.t]] W fun e w' => e = .returned (.tuple #[.bool (holdR o (ruleOf (bts a))), .nilIface]) ∧ Below W.heap.size W w') := Lib.hid fun W v h => holdsC_any a o v W HOo.out hq hk h
            have HHit : Hid (holdR o (ruleOf (bts a)) = true → kt = ⟨#[122, 101, 114, 111]⟩) := Lib.hid fun h => HP.out.trans (pickO_hit hq h)
            have HNx : Hid (holdR o (ruleOf (bts a)) = false → kt = pickO o ([a, b, c, dd, f].drop 1) (kindC.drop 1)) := Lib.hid fun h => HP.out.trans (pickO_next (.inr h))
            rw [hk] at HPa
            clear hq hk HP HSm HOk2 HOo HEv
            generalize ruleOf (bts a) = R at *
            generalize holdR o R = x at *
            go_wp2_with fail
            refine HPa.out.mono ?_
            clear HPa
            rintro e w7 ⟨hb7, v, rfl, hru, A, n, cp, rfl⟩
            have HB7 := Lib.hid (HB.out.trans (hb7.mono HB.out.size))
            have MO7 := Lib.hid (MO.out.below hb7 MO.out.lt)
            have HHo7 := Lib.hid (HHo.out w7 _ (hru (by first | rfl | trivial)))
            have o0 := (MO7.out.cell 0).trans (show _ = some (.int .i64 o.i) from rfl)
            have o1 := (MO7.out.cell 1).trans (show _ = some (.int .i64 o.v) from rfl)
            have o2 := (MO7.out.cell 2).trans (show _ = some (.int .i64 o.w) from rfl)
            have o3 := (MO7.out.cell 3).trans (show _ = some (.int .i64 o.f) from rfl)
            have o4 := (MO7.out.cell 4).trans (show _ = some (.int .i64 o.t) from rfl)
            first | rw [if_pos rfl] | rw [if_pos trivial]
            clear hb7 hru HHo HB MO
            go_wp2_with fail
            refine HHo7.out.mono ?_
            clear HHo7 o0 o1 o2 o3 o4
            rintro e w8 ⟨rfl, hb8⟩
            have HB8 := Lib.hid (HB7.out.trans (hb8.mono HB7.out.size))
            have MO8 := Lib.hid (MO7.out.below hb8 MO7.out.lt)
            have kc := (HV.out w8 HB8.out).knd 0 (by decide)
            simp only [kindC, List.getElem_cons_zero, List.getElem_cons_succ] at kc
            clear hb8 HB7 MO7
            cases x with
            | true =>
              have hkt := HHit.out rfl
              have HKt := Lib.hid hkt
              clear hkt HHit HNx
              go_wp2_with fail
              go_ret2
              exact ⟨by rw [HKt.out]; rfl, HB8.out⟩
            | false =>
              have HN := Lib.hid (HNx.out rfl)
              clear HHit HNx kc
              go_wp2_with fail
              go_roundw
              case rel => exact ⟨1, by omega, rfl, HN.out, MO8.out, HB8.out⟩
              case measure => simp [intOf]
        · by_cases hq : b.toList = []
          · have hq2 : (b.toList == []) = true := by rw [hq]; rfl
            have HN : Hid (kt = pickO o ([a, b, c, dd, f].drop 2) (kindC.drop 2)) := Lib.hid (HP.out.trans (pickO_next (.inl hq)))
            clear hq
            go_wp2_with fail
            go_roundw
            case rel => exact ⟨2, by omega, rfl, HN, MO.out, HB.out⟩
            case measure => simp [intOf]
          · have hq2 : (b.toList == []) = false := by
              cases e : b.toList with
              | nil => exact absurd e hq
              | cons _ _ => rfl
            have hk := HOk2.out b (by simp)
            have HPa := Lib.hid (parseC_any b wr (HSm.out b (by simp)) HEv.out hq)
            have HHo : Hid (∀ W v, RuIn W 0 v (ruleOf (bts b)) → Calls Tryz.prog 101 #[v, .agg #[.int .i64 o.i, .int .i64 o.v, .int .i64 o.w, .int .i64 o.f, .int .i64 o.t]] W fun e w' => e = .returned (.tuple #[.bool (holdR o (ruleOf (bts b))), .nilIface]) ∧ Below W.heap.size W w') := Lib.hid fun W v h => holdsC_any b o v W HOo.out hq hk h
            have HHit : Hid (holdR o (ruleOf (bts b)) = true → kt = ⟨#[111, 110, 101]⟩) := Lib.hid fun h => HP.out.trans (pickO_hit hq h)
            have HNx : Hid (holdR o (ruleOf (bts b)) = false → kt = pickO o ([a, b, c, dd, f].drop 2) (kindC.drop 2)) := Lib.hid fun h => HP.out.trans (pickO_next (.inr h))
            rw [hk] at HPa
            clear hq hk HP HSm HOk2 HOo HEv
            generalize ruleOf (bts b) = R at *
            generalize holdR o R = x at *
            go_wp2_with fail
            refine HPa.out.mono ?_
            clear HPa
            rintro e w7 ⟨hb7, v, rfl, hru, A, n, cp, rfl⟩
            have HB7 := Lib.hid (HB.out.trans (hb7.mono HB.out.size))
            have MO7 := Lib.hid (MO.out.below hb7 MO.out.lt)
            have HHo7 := Lib.hid (HHo.out w7 _ (hru (by first | rfl | trivial)))
            have o0 := (MO7.out.cell 0).trans (show _ = some (.int .i64 o.i) from rfl)
            have o1 := (MO7.out.cell 1).trans (show _ = some (.int .i64 o.v) from rfl)
            have o2 := (MO7.out.cell 2).trans (show _ = some (.int .i64 o.w) from rfl)
            have o3 := (MO7.out.cell 3).trans (show _ = some (.int .i64 o.f) from rfl)
            have o4 := (MO7.out.cell 4).trans (show _ = some (.int .i64 o.t) from rfl)
            first | rw [if_pos rfl] | rw [if_pos trivial]
            clear hb7 hru HHo HB MO
            go_wp2_with fail
            refine HHo7.out.mono ?_
            clear HHo7 o0 o1 o2 o3 o4
            rintro e w8 ⟨rfl, hb8⟩
            have HB8 := Lib.hid (HB7.out.trans (hb8.mono HB7.out.size))
            have MO8 := Lib.hid (MO7.out.below hb8 MO7.out.lt)
            have kc := (HV.out w8 HB8.out).knd 1 (by decide)
            simp only [kindC, List.getElem_cons_zero, List.getElem_cons_succ] at kc
            clear hb8 HB7 MO7
            cases x with
            | true =>
              have hkt := HHit.out rfl
              have HKt := Lib.hid hkt
              clear hkt HHit HNx
              go_wp2_with fail
              go_ret2
              exact ⟨by rw [HKt.out]; rfl, HB8.out⟩
            | false =>
              have HN := Lib.hid (HNx.out rfl)
              clear HHit HNx kc
              go_wp2_with fail
              go_roundw
              case rel => exact ⟨2, by omega, rfl, HN.out, MO8.out, HB8.out⟩
              case measure => simp [intOf]
        · by_cases hq : c.toList = []
          · have hq2 : (c.toList == []) = true := by rw [hq]; rfl
            have HN : Hid (kt = pickO o ([a, b, c, dd, f].drop 3) (kindC.drop 3)) := Lib.hid (HP.out.trans (pickO_next (.inl hq)))
            clear hq
            go_wp2_with fail
            go_roundw
            case rel => exact ⟨3, by omega, rfl, HN, MO.out, HB.out⟩
            case measure => simp [intOf]
          · have hq2 : (c.toList == []) = false := by
              cases e : c.toList with
              | nil => exact absurd e hq
              | cons _ _ => rfl
            have hk := HOk2.out c (by simp)
            have HPa := Lib.hid (parseC_any c wr (HSm.out c (by simp)) HEv.out hq)
            have HHo : Hid (∀ W v, RuIn W 0 v (ruleOf (bts c)) → Calls Tryz.prog 101 #[v, .agg #[.int .i64 o.i, .int .i64 o.v, .int .i64 o.w, .int .i64 o.f, .int .i64 o.t]] W fun e w' => e = .returned (.tuple #[.bool (holdR o (ruleOf (bts c))), .nilIface]) ∧ Below W.heap.size W w') := Lib.hid fun W v h => holdsC_any c o v W HOo.out hq hk h
            have HHit : Hid (holdR o (ruleOf (bts c)) = true → kt = ⟨#[116, 119, 111]⟩) := Lib.hid fun h => HP.out.trans (pickO_hit hq h)
            have HNx : Hid (holdR o (ruleOf (bts c)) = false → kt = pickO o ([a, b, c, dd, f].drop 3) (kindC.drop 3)) := Lib.hid fun h => HP.out.trans (pickO_next (.inr h))
            rw [hk] at HPa
            clear hq hk HP HSm HOk2 HOo HEv
            generalize ruleOf (bts c) = R at *
            generalize holdR o R = x at *
            go_wp2_with fail
            refine HPa.out.mono ?_
            clear HPa
            rintro e w7 ⟨hb7, v, rfl, hru, A, n, cp, rfl⟩
            have HB7 := Lib.hid (HB.out.trans (hb7.mono HB.out.size))
            have MO7 := Lib.hid (MO.out.below hb7 MO.out.lt)
            have HHo7 := Lib.hid (HHo.out w7 _ (hru (by first | rfl | trivial)))
            have o0 := (MO7.out.cell 0).trans (show _ = some (.int .i64 o.i) from rfl)
            have o1 := (MO7.out.cell 1).trans (show _ = some (.int .i64 o.v) from rfl)
            have o2 := (MO7.out.cell 2).trans (show _ = some (.int .i64 o.w) from rfl)
            have o3 := (MO7.out.cell 3).trans (show _ = some (.int .i64 o.f) from rfl)
            have o4 := (MO7.out.cell 4).trans (show _ = some (.int .i64 o.t) from rfl)
            first | rw [if_pos rfl] | rw [if_pos trivial]
            clear hb7 hru HHo HB MO
            go_wp2_with fail
            refine HHo7.out.mono ?_
            clear HHo7 o0 o1 o2 o3 o4
            rintro e w8 ⟨rfl, hb8⟩
            have HB8 := Lib.hid (HB7.out.trans (hb8.mono HB7.out.size))
            have MO8 := Lib.hid (MO7.out.below hb8 MO7.out.lt)
            have kc := (HV.out w8 HB8.out).knd 2 (by decide)
            simp only [kindC, List.getElem_cons_zero, List.getElem_cons_succ] at kc
            clear hb8 HB7 MO7
            cases x with
            | true =>
              have hkt := HHit.out rfl
              have HKt := Lib.hid hkt
              clear hkt HHit HNx
              go_wp2_with fail
              go_ret2
              exact ⟨by rw [HKt.out]; rfl, HB8.out⟩
            | false =>
              have HN := Lib.hid (HNx.out rfl)
              clear HHit HNx kc
              go_wp2_with fail
              go_roundw
              case rel => exact ⟨3, by omega, rfl, HN.out, MO8.out, HB8.out⟩
              case measure => simp [intOf]
        · by_cases hq : dd.toList = []
          · have hq2 : (dd.toList == []) = true := by rw [hq]; rfl
            have HN : Hid (kt = pickO o ([a, b, c, dd, f].drop 4) (kindC.drop 4)) := Lib.hid (HP.out.trans (pickO_next (.inl hq)))
            clear hq
            go_wp2_with fail
            go_roundw
            case rel => exact ⟨4, by omega, rfl, HN, MO.out, HB.out⟩
            case measure => simp [intOf]
          · have hq2 : (dd.toList == []) = false := by
              cases e : dd.toList with
              | nil => exact absurd e hq
              | cons _ _ => rfl
            have hk := HOk2.out dd (by simp)
            have HPa := Lib.hid (parseC_any dd wr (HSm.out dd (by simp)) HEv.out hq)
            have HHo : Hid (∀ W v, RuIn W 0 v (ruleOf (bts dd)) → Calls Tryz.prog 101 #[v, .agg #[.int .i64 o.i, .int .i64 o.v, .int .i64 o.w, .int .i64 o.f, .int .i64 o.t]] W fun e w' => e = .returned (.tuple #[.bool (holdR o (ruleOf (bts dd))), .nilIface]) ∧ Below W.heap.size W w') := Lib.hid fun W v h => holdsC_any dd o v W HOo.out hq hk h
            have HHit : Hid (holdR o (ruleOf (bts dd)) = true → kt = ⟨#[102, 101, 119]⟩) := Lib.hid fun h => HP.out.trans (pickO_hit hq h)
            have HNx : Hid (holdR o (ruleOf (bts dd)) = false → kt = pickO o ([a, b, c, dd, f].drop 4) (kindC.drop 4)) := Lib.hid fun h => HP.out.trans (pickO_next (.inr h))
            rw [hk] at HPa
            clear hq hk HP HSm HOk2 HOo HEv
            generalize ruleOf (bts dd) = R at *
            generalize holdR o R = x at *
            go_wp2_with fail
            refine HPa.out.mono ?_
            clear HPa
            rintro e w7 ⟨hb7, v, rfl, hru, A, n, cp, rfl⟩
            have HB7 := Lib.hid (HB.out.trans (hb7.mono HB.out.size))
            have MO7 := Lib.hid (MO.out.below hb7 MO.out.lt)
            have HHo7 := Lib.hid (HHo.out w7 _ (hru (by first | rfl | trivial)))
            have o0 := (MO7.out.cell 0).trans (show _ = some (.int .i64 o.i) from rfl)
            have o1 := (MO7.out.cell 1).trans (show _ = some (.int .i64 o.v) from rfl)
            have o2 := (MO7.out.cell 2).trans (show _ = some (.int .i64 o.w) from rfl)
            have o3 := (MO7.out.cell 3).trans (show _ = some (.int .i64 o.f) from rfl)
            have o4 := (MO7.out.cell 4).trans (show _ = some (.int .i64 o.t) from rfl)
            first | rw [if_pos rfl] | rw [if_pos trivial]
            clear hb7 hru HHo HB MO
            go_wp2_with fail
            refine HHo7.out.mono ?_
            clear HHo7 o0 o1 o2 o3 o4
            rintro e w8 ⟨rfl, hb8⟩
            have HB8 := Lib.hid (HB7.out.trans (hb8.mono HB7.out.size))
            have MO8 := Lib.hid (MO7.out.below hb8 MO7.out.lt)
            have kc := (HV.out w8 HB8.out).knd 3 (by decide)
            simp only [kindC, List.getElem_cons_zero, List.getElem_cons_succ] at kc
            clear hb8 HB7 MO7
            cases x with
            | true =>
              have hkt := HHit.out rfl
              have HKt := Lib.hid hkt
              clear hkt HHit HNx
              go_wp2_with fail
              go_ret2
              exact ⟨by rw [HKt.out]; rfl, HB8.out⟩
            | false =>
              have HN := Lib.hid (HNx.out rfl)
              clear HHit HNx kc
              go_wp2_with fail
              go_roundw
              case rel => exact ⟨4, by omega, rfl, HN.out, MO8.out, HB8.out⟩
              case measure => simp [intOf]
        · by_cases hq : f.toList = []
          · have hq2 : (f.toList == []) = true := by rw [hq]; rfl
            have HN : Hid (kt = pickO o ([a, b, c, dd, f].drop 5) (kindC.drop 5)) := Lib.hid (HP.out.trans (pickO_next (.inl hq)))
            clear hq
            go_wp2_with fail
            go_roundw
            case rel => exact ⟨5, by omega, rfl, HN, MO.out, HB.out⟩
            case measure => simp [intOf]
          · have hq2 : (f.toList == []) = false := by
              cases e : f.toList with
              | nil => exact absurd e hq
              | cons _ _ => rfl
            have hk := HOk2.out f (by simp)
            have HPa := Lib.hid (parseC_any f wr (HSm.out f (by simp)) HEv.out hq)
            have HHo : Hid (∀ W v, RuIn W 0 v (ruleOf (bts f)) → Calls Tryz.prog 101 #[v, .agg #[.int .i64 o.i, .int .i64 o.v, .int .i64 o.w, .int .i64 o.f, .int .i64 o.t]] W fun e w' => e = .returned (.tuple #[.bool (holdR o (ruleOf (bts f))), .nilIface]) ∧ Below W.heap.size W w') := Lib.hid fun W v h => holdsC_any f o v W HOo.out hq hk h
            have HHit : Hid (holdR o (ruleOf (bts f)) = true → kt = ⟨#[109, 97, 110, 121]⟩) := Lib.hid fun h => HP.out.trans (pickO_hit hq h)
            have HNx : Hid (holdR o (ruleOf (bts f)) = false → kt = pickO o ([a, b, c, dd, f].drop 5) (kindC.drop 5)) := Lib.hid fun h => HP.out.trans (pickO_next (.inr h))
            rw [hk] at HPa
            clear hq hk HP HSm HOk2 HOo HEv
            generalize ruleOf (bts f) = R at *
            generalize holdR o R = x at *
            go_wp2_with fail
            refine HPa.out.mono ?_
            clear HPa
            rintro e w7 ⟨hb7, v, rfl, hru, A, n, cp, rfl⟩
            have HB7 := Lib.hid (HB.out.trans (hb7.mono HB.out.size))
            have MO7 := Lib.hid (MO.out.below hb7 MO.out.lt)
            have HHo7 := Lib.hid (HHo.out w7 _ (hru (by first | rfl | trivial)))
            have o0 := (MO7.out.cell 0).trans (show _ = some (.int .i64 o.i) from rfl)
            have o1 := (MO7.out.cell 1).trans (show _ = some (.int .i64 o.v) from rfl)
            have o2 := (MO7.out.cell 2).trans (show _ = some (.int .i64 o.w) from rfl)
            have o3 := (MO7.out.cell 3).trans (show _ = some (.int .i64 o.f) from rfl)
            have o4 := (MO7.out.cell 4).trans (show _ = some (.int .i64 o.t) from rfl)
            first | rw [if_pos rfl] | rw [if_pos trivial]
            clear hb7 hru HHo HB MO
            go_wp2_with fail
            refine HHo7.out.mono ?_
            clear HHo7 o0 o1 o2 o3 o4
            rintro e w8 ⟨rfl, hb8⟩
            have HB8 := Lib.hid (HB7.out.trans (hb8.mono HB7.out.size))
            have MO8 := Lib.hid (MO7.out.below hb8 MO7.out.lt)
            have kc := (HV.out w8 HB8.out).knd 4 (by decide)
            simp only [kindC, List.getElem_cons_zero, List.getElem_cons_succ] at kc
            clear hb8 HB7 MO7
            cases x with
            | true =>
              have hkt := HHit.out rfl
              have HKt := Lib.hid hkt
              clear hkt HHit HNx
              go_wp2_with fail
              go_ret2
              exact ⟨by rw [HKt.out]; rfl, HB8.out⟩
            | false =>
              have HN := Lib.hid (HNx.out rfl)
              clear HHit HNx kc
              go_wp2_with fail
              go_roundw
              case rel => exact ⟨5, by omega, rfl, HN.out, MO8.out, HB8.out⟩
              case measure => simp [intOf]
        · have hkt : kt = othB := HP.out
          have HKt := Lib.hid hkt
          clear hkt HP
          go_wp2_with fail
          go_ret2
          exact ⟨by rw [HKt.out]; rfl, HB.out⟩
    · obtain rfl : ke = 1 := HKe.out.trans (HD2.out hd)
      have hkt : kt = ⟨#[]⟩ := HK.out.2 (by decide)
      have HKt := Lib.hid hkt
      rw [HD2.out hd, errD_ne (by decide)]
      unfold OpV.val
      clear hkt hd HD1 HD2 HKe HK
      generalize opsO d = o at *
      have HB5 : Hid (Below w.heap.size w (w4.alloc (.cells #[.int .i64 o.i, .int .i64 o.v, .int .i64 o.w, .int .i64 o.f, .int .i64 o.t] 183))) := Lib.hid (HB4.out.alloc HB4.out.size _)
      go_wp2_with fail
      go_ret2
      exact ⟨by rw [HKt.out]; rfl, HB5.out⟩
  · obtain rfl : ke = 3 := HE.out.2 (by decide)
    have hkt : kt = ⟨#[]⟩ := HK.out.2 (by decide)
    have HKt := Lib.hid hkt
    rw [errD_ne (by decide)]
    clear hkt HE HK HOk
    go_wp2_with fail
    go_ret2
    exact ⟨by rw [HKt.out]; rfl, HB3.out⟩
end Go.Proofs.YtjdfpoppimcikaaGreatDoor
