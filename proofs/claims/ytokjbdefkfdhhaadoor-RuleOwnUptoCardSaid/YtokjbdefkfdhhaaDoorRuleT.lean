/- Ranges and relations as texts. -/
import Derived.Lib.ItoaLen
import Derived.Deep.RegionWith
import Derived.Deep.Cut
import Derived.Deep.DeepCutAuto
import Derived.Sort.Grow
import Derived.Test.YtokjbdefkfdhhaaDoorRuleP
namespace Go.Proofs.YtokjbdefkfdhhaaDoor
open Go.RowKit Go.Sort

theorem strR_app (a b : List UInt8) : str (a ++ b) = str a ++ str b := bts_inj (by simp [bts, str, ByteArray.data_append])
def rangedR (p : Int × Int) : List UInt8 := if p.1 = p.2 then Lib.itoa p.1 else Lib.itoa p.1 ++ [46, 46] ++ Lib.itoa p.2
theorem itoa_any (n : Int) (w : World) (h0 : 0 ≤ n) (h1 : n ≤ 1000000) (hv : RV w) : Calls Tryd.prog 24 #[.int .i64 n] w fun e w' => e = .returned (.string (str (Lib.itoa n))) ∧ Below w.heap.size w w' :=
  (Tryd.strconv_Itoa n (by omega) (by omega) w hv.tab).mono fun e w' ⟨he, k, os, hw⟩ => ⟨he, by rw [hw]; exact ⟨rfl, rfl, rfl, by simp [grow, World.drewN], fun i hi => heap_grow_old (w.drewN k) os hi⟩⟩
theorem itoa_small (n : Int) (h0 : 0 ≤ n) (h1 : n ≤ 1000000) : (Lib.itoa n).length ≤ 21 := Lib.itoa_length_le n (by omega) (by omega)
/-- between the two calls -/
structure RgSt (w : World) (a b : Int) (W : World) : Prop where
  below : Below w.heap.size w W
  fst : W.cell? ⟨w.heap.size, 0, none⟩ = some (.int .i64 a)
  snd : W.cell? ⟨w.heap.size, 1, none⟩ = some (.int .i64 b)
theorem RgSt.on {w : World} {a b : Int} {W W' : World} (h : RgSt w a b W) (hb : Below W.heap.size W W') : RgSt w a b W' :=
  ⟨h.below.trans (hb.mono h.below.size), (hb.cell (p := ⟨w.heap.size, 0, none⟩) (cell_lt h.fst)).trans h.fst, (hb.cell (p := ⟨w.heap.size, 1, none⟩) (cell_lt h.fst)).trans h.snd⟩
theorem RgSt.drew {w : World} {a b : Int} {W : World} (h : RgSt w a b W) : RgSt w a b W.drew := ⟨below_drewN h.below 1, h.fst, h.snd⟩
set_option maxHeartbeats 3200000 in
set_option maxRecDepth 100000 in
theorem ranged_any (p : Int × Int) (w : World) (hp : rngOk p = true) (hv : RV w) :
    Calls Tryd.prog 26 #[.agg #[.int .i64 p.1, .int .i64 p.2]] w fun e w' => e = .returned (.string (str (rangedR p))) ∧ Below w.heap.size w w' := by
  obtain ⟨a, b⟩ := p
  have hp' : 0 ≤ a ∧ a ≤ b ∧ b ≤ 1000000 := by
    unfold rngOk at hp
    simp at hp
    omega
  obtain ⟨h0, h1, h2⟩ := hp'
  have HIa : Hid (∀ W, Below w.heap.size w W → Calls Tryd.prog 24 #[.int .i64 a] W fun e w' => e = .returned (.string (str (Lib.itoa a))) ∧ Below W.heap.size W w') := Lib.hid fun W hW => itoa_any a W h0 (by omega) (hv.below hW)
  have HIb : Hid (∀ W, Below w.heap.size w W → Calls Tryd.prog 24 #[.int .i64 b] W fun e w' => e = .returned (.string (str (Lib.itoa b))) ∧ Below W.heap.size W w') := Lib.hid fun W hW => itoa_any b W (by omega) h2 (hv.below hW)
  have la := itoa_small a h0 (by omega)
  have lb := itoa_small b (by omega) h2
  have hR : Hid (rangedR (a, b) = if a = b then Lib.itoa a else Lib.itoa a ++ [46, 46] ++ Lib.itoa b) := Lib.hid rfl
  clear hv hp
  generalize hIa : Lib.itoa a = ia at *
  generalize hIb : Lib.itoa b = ib at *
  have sa : (str ia).size = ia.length := str_size _
  have sb : (str ib).size = ib.length := str_size _
  clear hIa hIb
  dsimp only
  obtain ⟨W1, eW1⟩ : ∃ W1, W1 = w.alloc (.cells #[.int .i64 a, .int .i64 b] 37) := ⟨_, rfl⟩
  have hb1 : Below w.heap.size w W1 := by rw [eW1]; exact (Below.refl _ _).alloc (Nat.le_refl _) _
  have m1 : Blk W1 w.heap.size 37 #[.int .i64 a, .int .i64 b] := by rw [eW1]; exact Blk.new _ _ _
  have HB1 := Lib.hid hb1
  have M1 := Lib.hid m1
  have HW1 := Lib.hid eW1
  have k0 : W1.cell? ⟨w.heap.size, 0, none⟩ = some (.int .i64 a) := (m1.cell 0).trans rfl
  have k1 : W1.cell? ⟨w.heap.size, 1, none⟩ = some (.int .i64 b) := (m1.cell 1).trans rfl
  clear eW1 hb1 m1
  go_enter Tryd.func26, Tryd.ntmps26
  go_upto_region 1 with fail
  rw [← HW1.out]
  clear HW1
  by_cases hab : a = b
  · have hq : (a == b) = true := by simp [hab]
    have C := Lib.hid (HIa.out _ HB1.out)
    have HRs := Lib.hid (hR.out.trans (if_pos hab))
    clear hR hab HIb
    go_wp2_with fail
    refine C.out.mono ?_
    rintro e w2 ⟨rfl, hb2⟩
    have HB2 := Lib.hid (HB1.out.trans (hb2.mono HB1.out.size))
    clear hb2
    go_wp2_with fail
    go_ret
    exact ⟨by rw [HRs.out]; rfl, HB2.out⟩
  · have hq : (a == b) = false := by simp [hab]
    have HRs := Lib.hid (hR.out.trans (if_neg hab))
    have z1 : ¬ (9223372036854775807 < ia.length + 2) := by omega
    have z2 : ¬ (9223372036854775807 < ia.length + 2 + ib.length) := by omega
    have hst : str ia ++ (⟨#[46, 46]⟩ : ByteArray) ++ str ib = str (ia ++ [46, 46] ++ ib) := by rw [strR_app, strR_app]; rfl
    clear hR hab
    have HCa : Hid (∀ W, RgSt w a b W → Calls Tryd.prog 24 #[.int .i64 a] W fun e w' => e = .returned (.string (str ia)) ∧ RgSt w a b w') := Lib.hid fun W hW => (HIa.out W hW.below).mono fun e w' ⟨he, hb⟩ => ⟨he, hW.on hb⟩
    have HCb : Hid (∀ W, RgSt w a b W → Calls Tryd.prog 24 #[.int .i64 b] W fun e w' => e = .returned (.string (str ib)) ∧ RgSt w a b w') := Lib.hid fun W hW => (HIb.out W hW.below).mono fun e w' ⟨he, hb⟩ => ⟨he, hW.on hb⟩
    have hrs : RgSt w a b W1 := ⟨HB1.out, k0, k1⟩
    clear HIa HIb HB1 M1
    have HST := Lib.hid hst
    clear hst
    go_wp2_with fail
    go_region_with ((go_at_call 24; first | with_reducible refine (HCa.out _ hrs).mono ?_ | with_reducible refine (HCb.out _ hrs).mono ?_ | with_reducible refine (HCa.out _ hrs.drew).mono ?_ | with_reducible refine (HCb.out _ hrs.drew).mono ?_); rintro e wx ⟨rfl, hrs⟩; have k0 := hrs.fst; have k1 := hrs.snd)
    all_goals (clear HCa HCb; go_wp2_with fail; go_ret; exact ⟨by rw [HRs.out, ← HST.out]; rfl, hrs.below⟩)
end Go.Proofs.YtokjbdefkfdhhaaDoor
