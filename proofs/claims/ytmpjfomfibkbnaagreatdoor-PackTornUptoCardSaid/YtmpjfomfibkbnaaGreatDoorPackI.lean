/- slices.IsSortedFunc at entries, by pack.order. -/
import Derived.Test.YtmpjfomfibkbnaaGreatDoorPackT
import Derived.Test.YtmpjfomfibkbnaaGreatDoorPackS
set_option linter.unusedSimpArgs false
set_option linter.unusedVariables false
namespace Go.Proofs.YtmpjfomfibkbnaaGreatDoor
open Go.RowKit Go.Sort

theorem grow_below (w : World) (n : Nat) (os : Array Obj) : Below w.heap.size w (grow (w.drewN n) os) := ⟨rfl, rfl, rfl, by simp [grow, World.drewN], fun k hk => heap_grow (w := w.drewN n) hk⟩
/-- No key is less than the one ahead of it, in the first i + 1. -/
def upTo (l : List Ent) : Nat → Bool
  | 0 => true
  | i + 1 => !ltK (l.getD (i + 1) ⟨ByteArray.empty, ByteArray.empty⟩).key (l.getD i ⟨ByteArray.empty, ByteArray.empty⟩).key && upTo l i
theorem upTo_iff (l : List Ent) : ∀ n, upTo l n = true ↔ ∀ i, i < n → ltK (l.getD (i + 1) ⟨ByteArray.empty, ByteArray.empty⟩).key (l.getD i ⟨ByteArray.empty, ByteArray.empty⟩).key = false
  | 0 => by simp [upTo]
  | n + 1 => by
    unfold upTo
    rw [Bool.and_eq_true, upTo_iff l n, Bool.not_eq_true']
    constructor
    · rintro ⟨h1, h2⟩ i hi
      rcases Nat.lt_succ_iff_lt_or_eq.1 hi with h | rfl
      · exact h2 i h
      · exact h1
    · intro h
      exact ⟨h n (Nat.lt_succ_self n), fun i hi => h i (Nat.lt_succ_of_lt hi)⟩
theorem getD_e {l : List Ent} {i : Nat} (h : i < l.length) : l.getD i ⟨ByteArray.empty, ByteArray.empty⟩ = l[i] := by
  rw [List.getD_eq_getElem?_getD, List.getElem?_eq_getElem h]; rfl
theorem sortedE_at : ∀ (l : List Ent), sortedE l = true ↔ ∀ i (h : i + 1 < l.length), ltK l[i].key l[i + 1].key = true
  | [] => by simp [sortedE]
  | [a] => by simp [sortedE]
  | a :: b :: r => by
    unfold sortedE
    rw [Bool.and_eq_true, sortedE_at (b :: r)]
    constructor
    · rintro ⟨h1, h2⟩ i hi
      cases i with
      | zero => exact h1
      | succ i => exact h2 i (by simpa using hi)
    · intro h
      exact ⟨h 0 (by simp), fun i hi => h (i + 1) (by simpa using hi)⟩
/-- where no key is there twice, rising is rising strictly -/
theorem upTo_sortedE {l : List Ent} (hu : Uniq l) : upTo l (l.length - 1) = sortedE l := by
  rw [Bool.eq_iff_iff, upTo_iff, sortedE_at]
  constructor
  · intro h i hi
    have h1 := h i (by omega)
    rw [getD_e (by omega), getD_e (by omega)] at h1
    rcases ltK_tri l[i].key l[i + 1].key with g | g | g
    · exact g
    · exact absurd g (List.pairwise_iff_getElem.1 hu i (i + 1) (by omega) hi (by omega))
    · rw [g] at h1; cases h1
  · intro h i hi
    rw [getD_e (by omega), getD_e (by omega)]
    exact ltK_asymm (h i (by omega))

set_option maxHeartbeats 1600000 in
set_option maxRecDepth 100000 in
theorem issorted_any (lo : Nat) (l : List Ent) (A : Option Addr) (c : Nat) (w : World) (h : ListOk Enc.ent w lo w.heap.size (.slice A l.length c) l) (hn : l.length ≤ 1000000) :
    Calls Tryz.prog 32 #[.slice A l.length c, .func (.func 27) #[] #[]] w fun e w' => e = .returned (.bool (upTo l (l.length - 1))) ∧ Below w.heap.size w w' := by
  have H := Lib.hid h
  clear h
  go_enter Tryz.func32, Tryz.ntmps32
  go_wp2_with fail
  go_loopw [5] (fun s wr => ∃ (z : Int) (i : Nat), s = .int .i64 z ∧ (0 < z → z = i ∧ i < l.length) ∧ (¬ 0 < z → i = 0) ∧ upTo l (l.length - 1) = upTo l i ∧ Below w.heap.size w wr) (fun s _ => (intOf s).toNat)
  case atStart => exact ⟨(l.length : Int) - 1, l.length - 1, by first | rfl | go_num, fun h => ⟨by omega, by omega⟩, fun h => by omega, rfl, Below.refl _ _⟩
  case round =>
    obtain ⟨z, i, rfl, h1, h2, hu, hb⟩ := hrel
    have HU := Lib.hid hu
    have HB := Lib.hid hb
    have hbs := hb.size
    clear hu hb
    by_cases hlt : 0 < z
    · obtain ⟨rfl, hil⟩ := h1 hlt
      obtain ⟨t, rfl⟩ : ∃ t, i = t + 1 := ⟨i - 1, by omega⟩
      obtain ⟨b, o, rfl, _, hbl, x0, x1⟩ := (H.out.below Enc.ent_laws HB.out).entAt (t + 1) hil
      obtain ⟨b', o', hA, _, hbl', y0, y1⟩ := (H.out.below Enc.ent_laws HB.out).entAt t (by omega)
      injection hA with hA
      injection hA with e1 e2
      subst e1; subst e2
      have HX : Hid (ltK (l.getD (t + 1) ⟨ByteArray.empty, ByteArray.empty⟩).key (l.getD t ⟨ByteArray.empty, ByteArray.empty⟩).key = decide (cfE l[t + 1] l[t] < 0)) := Lib.hid (by
        rw [getD_e hil, getD_e (by omega)]; exact (ltOf_cfE _ _).symm)
      have HO := fun W => order_any l[t + 1] l[t] W
      generalize cfE l[t + 1] l[t] = cf at HX HO
      unfold entCells at HO
      generalize l[t + 1].key = xk at *
      generalize l[t + 1].text = xt at *
      generalize l[t].key = yk at *
      generalize l[t].text = yt at *
      have HOx := Lib.hid HO
      clear HO h1 h2
      have hq : ((t + 1 : Nat) : Int) = (t : Int) + 1 := by omega
      rw [hq] at hlt ⊢
      have HKc : Hid (∀ W, Below wr.heap.size wr W → W.cell? ⟨b, o + (t + 1) * 2, none⟩ = some (.string xk) ∧ W.cell? ⟨b, o + (t + 1) * 2 + 1, none⟩ = some (.string xt) ∧ W.cell? ⟨b, o + t * 2, none⟩ = some (.string yk) ∧ W.cell? ⟨b, o + t * 2 + 1, none⟩ = some (.string yt)) := Lib.hid fun W hW =>
        ⟨(hW.cell (p := ⟨b, o + (t + 1) * 2, none⟩) (Nat.lt_of_lt_of_le hbl hbs)).trans x0, (hW.cell (p := ⟨b, o + (t + 1) * 2 + 1, none⟩) (Nat.lt_of_lt_of_le hbl hbs)).trans x1, (hW.cell (p := ⟨b, o + t * 2, none⟩) (Nat.lt_of_lt_of_le hbl hbs)).trans y0, (hW.cell (p := ⟨b, o + t * 2 + 1, none⟩) (Nat.lt_of_lt_of_le hbl hbs)).trans y1⟩
      have pa : (0 : Int) ≤ (t : Int) + 1 := by omega
      have ba : (t : Int) + 1 < (l.length : Int) := by omega
      have ra : IntKind.i64.wrap ((t : Int) + 1) = (t : Int) + 1 := by rw [IntKind.wrap_i64]; omega
      have pc : (0 : Int) ≤ (t : Int) := by omega
      have bc : (t : Int) < (l.length : Int) := by omega
      have rc : IntKind.i64.wrap (t : Int) = (t : Int) := by rw [IntKind.wrap_i64]; omega
      have rd : wrap64 (t : Int) = (t : Int) := by unfold wrap64; omega
      clear x0 x1 y0 y1
      go_wp2_with fail
      go_region_held3 (fun w' => w'.cell? ⟨b, o + (t + 1) * 2, none⟩ = some (.string xk) ∧ w'.cell? ⟨b, o + (t + 1) * 2 + 1, none⟩ = some (.string xt) ∧ w'.cell? ⟨b, o + t * 2, none⟩ = some (.string yk) ∧ w'.cell? ⟨b, o + t * 2 + 1, none⟩ = some (.string yt)) (first | exact HKc.out _ (Below.refl _ _).drew | exact HKc.out _ hb5)
        (first
          | (go_at_call 27
             refine (HOx.out _).mono ?_
             rintro e w5 ⟨rfl, q5, os5, hw5⟩
             have hb5 : Below wr.heap.size wr w5 := by rw [hw5]; have hx := grow_below wr.drew q5 os5; exact below_undrew hx
             clear hw5))
      have HB5 := Lib.hid (HB.out.trans (hb5.mono hbs))
      clear hb5 HOx HKc
      cases hd : decide (cf < 0) with
      | true =>
        have HV : Hid (upTo l (l.length - 1) = false) := Lib.hid (by rw [HU.out]; unfold upTo; rw [HX.out, hd]; rfl)
        clear HX HU
        go_wp2_with fail
        go_ret
        exact ⟨by rw [HV.out]; rfl, HB5.out⟩
      | false =>
        have HV : Hid (upTo l (l.length - 1) = upTo l t) := Lib.hid (by rw [HU.out, upTo, HX.out, hd]; rfl)
        clear HX HU
        go_wp2_with fail
        exact ⟨⟨t, t, by first | rfl | go_num, fun h => ⟨rfl, by omega⟩, fun h => by omega, HV.out, HB5.out⟩, by first | (simp [intOf]; done) | (simp [intOf]; omega)⟩
    · have hi0 := h2 hlt
      subst hi0
      clear h1 h2
      go_wp2_with fail
      go_ret
      exact ⟨by rw [HU.out]; rfl, HB.out⟩
end Go.Proofs.YtmpjfomfibkbnaaGreatDoor
