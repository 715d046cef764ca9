/- The law's own fact 'clocked', and ClockLast. -/
import Derived.Test.YtolgkepkdidjcaaClockP
import Derived.Test.YtolgkepkdidjcaaLists
import Derived.Deep.DeepCutAuto
import Derived.KernelRfl
import Derived.Deep.RegionHeld3
namespace Go.Proofs.Ytolgkepkdidjcaa
open Go.RowKit

theorem clocked1 : putR (List.replicate 1 Plc.zero) 0 ⟨#[120]⟩ ⟨#[49]⟩ = ⟨[fresh ⟨#[120]⟩ ⟨#[49]⟩], 0, none⟩ := by kernel_rfl
theorem clocked2 : putR [fresh ⟨#[120]⟩ ⟨#[49]⟩] 0 ⟨#[121]⟩ ⟨#[50]⟩ = ⟨[fresh ⟨#[121]⟩ ⟨#[50]⟩], 0, some ⟨#[120]⟩⟩ := by kernel_rfl
theorem put_clocked1 (bc bp : Nat) (w : World) (hc : Cach w bc bp (List.replicate 1 Plc.zero) 0) :
    Calls Try.prog 8 #[.pointer (some ⟨bc, 0, none⟩), .string ⟨#[120]⟩, .string ⟨#[49]⟩] w fun e w' => e = .returned (.tuple #[.string ByteArray.empty, .bool false]) ∧ Cach w' bc bp [fresh ⟨#[120]⟩ ⟨#[49]⟩] 0 ∧ Fr w w' (CS bc bp) := by
  have h := put_any bc bp _ 0 ⟨#[120]⟩ ⟨#[49]⟩ w hc (by simp) (by simp)
  rw [clocked1] at h
  exact h
theorem put_clocked2 (bc bp : Nat) (w : World) (hc : Cach w bc bp [fresh ⟨#[120]⟩ ⟨#[49]⟩] 0) :
    Calls Try.prog 8 #[.pointer (some ⟨bc, 0, none⟩), .string ⟨#[121]⟩, .string ⟨#[50]⟩] w fun e w' => e = .returned (.tuple #[.string ⟨#[120]⟩, .bool true]) ∧ Fr w w' (CS bc bp) := by
  have h := put_any bc bp _ 0 ⟨#[121]⟩ ⟨#[50]⟩ w hc (by simp) (by simp)
  rw [clocked2] at h
  exact h.mono fun e w' ⟨h1, _, h2⟩ => ⟨h1, h2⟩

set_option maxHeartbeats 400000 in
theorem clocked_yes (w : World) : Calls Try.prog 6 #[] w fun e w' => e = .returned (.bool true) ∧ Below w.heap.size w w' := by
  go_enter Try.func6, Try.ntmps6
  go_wp2_with fail
  refine (new_yes 1 _ (by omega) (by omega)).mono ?_
  rintro e w1 ⟨bc, bp, rfl, hbc, hbp, hc1, hb1⟩
  go_wp2_with fail
  refine (put_clocked1 bc bp _ hc1).mono ?_
  rintro e w2 ⟨rfl, hc2, hf2⟩
  go_wp2_with fail
  refine (put_clocked2 bc bp _ hc2).mono ?_
  rintro e w3 ⟨rfl, hf3⟩
  go_wp2_with fail
  go_ret
  exact ⟨rfl, (hf2.trans hf3).below hb1 hb1.size (by rintro i (rfl | rfl) <;> assumption)⟩

/-- the round's put -/
structure Goes (w : World) (bc bp n : Nat) (ps : List Plc) (hand : Nat) (wr : World) : Prop where
  len : ps.length = n
  lt : hand < n
  ca : Cach wr bc bp ps hand
  dist : Dist ps
  below : Below w.heap.size w wr

theorem Goes.drewN {w wr : World} {bc bp n hand : Nat} {ps : List Plc} (G : Goes w bc bp n ps hand wr) (k : Nat) : Goes w bc bp n ps hand (wr.drewN k) := ⟨G.len, G.lt, G.ca, G.dist, below_drewN G.below k⟩

set_option maxRecDepth 100000 in
set_option maxHeartbeats 1600000 in
theorem clockLast_yes (n : Nat) (kv vv : Value) (keys vals : List ByteArray) (w : World) (hk : ListOk Enc.str w 0 w.heap.size kv keys) (hv : ListOk Enc.str w 0 w.heap.size vv vals)
    (hkl : keys.length ≤ 140737488355328) (hvl : vals.length ≤ 140737488355328) (h1 : 1 ≤ n) (h2 : n ≤ 50) :
    Calls Try.prog 4 #[.int .i64 n, kv, vv] w fun e w' => e = .returned (.bool true) ∧ Below w.heap.size w w' := by
  obtain ⟨KA, kc, rfl, hkc⟩ := hk.form
  obtain ⟨VA, vc, rfl, hvc⟩ := hv.form
  go_enter Try.func4, Try.ntmps4
  go_wp2_with fail
  refine (clocked_yes _).mono ?_
  rintro e w1 ⟨rfl, hb1⟩
  go_wp2_with fail
  refine (new_yes n _ h1 h2).mono ?_
  rintro e w2 ⟨bc, bp, rfl, hbc, hbp, hc2, hb2⟩
  go_wp2_with fail
  have hB2 : Below w.heap.size w w2 := hb1.trans (hb2.mono hb1.size)
  have hlt := hb1.size
  have hbc' : w.heap.size ≤ bc := by omega
  have hbp' : w.heap.size ≤ bp := by omega
  have G0 : Goes w bc bp n (List.replicate n Plc.zero) 0 w2 := ⟨by simp, by omega, hc2, Dist.zero n, hB2⟩
  clear hb1 hb2 hc2 hB2 hbc hbp hlt
  go_loopw [10] (fun i wr => ∃ (j : Nat) (ps : List Plc) (hand : Nat), i = .int .i64 j ∧ j ≤ keys.length ∧ j ≤ vals.length ∧ Goes w bc bp n ps hand wr) (fun i _ => keys.length - (intOf i).toNat)
  case atStart => exact ⟨0, _, _, rfl, Nat.zero_le _, Nat.zero_le _, G0⟩
  case round =>
    obtain ⟨j, ps, hand, rfl, hj1, hj2, G⟩ := hrel
    clear G0
    by_cases hlt : j < keys.length
    · by_cases hlt2 : j < vals.length
      · obtain ⟨kb, ko, rfl, _, hkb, hkcell⟩ := hk.strAt j hlt
        obtain ⟨vb, vo, rfl, _, hvb, hvcell⟩ := hv.strAt j hlt2
        have hGl := G.len
        have hkr := (keys_any bc bp ps hand wr G.ca (by omega))
        have HK := Lib.hid hkr
        clear hkr hGl
        go_wp2_with fail
        refine HK.out.mono ?_
        rintro e w3 ⟨v1, rfl, hown1, hb3⟩
        go_wp2_with fail
        have kc3 : w3.cell? ⟨kb, ko + j, none⟩ = some (.string keys[j]) := by rw [hb3.cell (by have := G.below.size; simp; omega), G.below.cell (by exact hkb)]; exact hkcell
        have vc3 : w3.cell? ⟨vb, vo + j, none⟩ = some (.string vals[j]) := by rw [hb3.cell (by have := G.below.size; simp; omega), G.below.cell (by exact hvb)]; exact hvcell
        have hc3 := G.ca.below hb3 G.ca.lt.1 G.ca.lt.2
        obtain ⟨R, hR⟩ : ∃ R, R = putR ps hand keys[j] vals[j] := ⟨_, rfl⟩
        have HP : Hid (∀ W, Cach W bc bp ps hand → Calls Try.prog 8 #[.pointer (some ⟨bc, 0, none⟩), .string keys[j], .string vals[j]] W fun e w' => e = .returned (.tuple #[.string (R.gone.getD ByteArray.empty), .bool R.gone.isSome]) ∧ Cach w' bc bp R.ps R.hand ∧ Fr W w' (CS bc bp)) := by
          rw [hR]
          exact fun W hW => put_any bc bp ps hand _ _ W hW (by rw [G.len]; exact h2) (by rw [G.len]; exact G.lt)
        have HR := Lib.hid hR
        clear hR
        go_region_held3 (fun w' => w'.cell? ⟨kb, ko + j, none⟩ = some (.string keys[j]) ∧ w'.cell? ⟨vb, vo + j, none⟩ = some (.string vals[j])) (first | exact ⟨kc3, vc3⟩ | exact ⟨kc4, vc4⟩)
          (first | (go_at_call 8; refine (HP.out _ hc3.drew).mono ?_; rintro e w4 ⟨rfl, hc4, hf4⟩; have kc4 : w4.cell? ⟨kb, ko + j, none⟩ = some (.string keys[j]) := (hf4.cell (by have := G.below.size; have := hb3.size; simp; omega) (by rintro (h | h) <;> simp at h <;> omega)).trans kc3; have vc4 : w4.cell? ⟨vb, vo + j, none⟩ = some (.string vals[j]) := (hf4.cell (by have := G.below.size; have := hb3.size; simp; omega) (by rintro (h | h) <;> simp at h <;> omega)).trans vc3))
        clear kc3 vc3
        have hRl : R.ps.length = n := by rw [HR.out, putR_len, G.len]
        have hRh : R.hand < n := by have := putR_hand ps hand keys[j] vals[j] (by rw [G.len]; exact G.lt); rw [HR.out]; rw [G.len] at this; exact this
        have HRd : Hid (Dist R.ps) := by rw [HR.out]; exact G.dist.put hand _ _ (by rw [G.len]; exact G.lt)
        have HKE := keys_any bc bp R.ps R.hand w4 hc4 (by omega)
        have HK2 := Lib.hid HKE
        have HRL := Lib.hid hRl
        clear HKE hRl
        go_wp2_with fail
        refine HK2.out.mono ?_
        rintro e w5 ⟨v2, rfl, hown2, hb5⟩
        have hc5 := hc4.below hb5 hc4.lt.1 hc4.lt.2
        have hGe := get_any bc bp R.ps R.hand keys[j] w5 hc5 (by have := HRL.out; omega)
        have e2 : getV R.ps keys[j] = some vals[j] := by rw [HR.out]; exact put_there G.dist hand _ _ (by rw [G.len]; exact G.lt)
        rw [e2] at hGe
        simp only [Option.getD_some, Option.isSome_some] at hGe
        have HGE := Lib.hid hGe
        clear hGe e2
        have kc5 : w5.cell? ⟨kb, ko + j, none⟩ = some (.string keys[j]) := (hb5.cell (by have := G.below.size; have := hb3.size; have := hf4.size; simp at *; omega)).trans kc4
        have vc5 : w5.cell? ⟨vb, vo + j, none⟩ = some (.string vals[j]) := (hb5.cell (by have := G.below.size; have := hb3.size; have := hf4.size; simp at *; omega)).trans vc4
        clear kc4 vc4
        go_wp2_with fail
        refine HGE.out.mono ?_
        rintro e w6 ⟨rfl, hc6, hf6⟩
        have hz3 := hb3.size
        have hz4 := hf4.size
        have hz5 := hb5.size
        have hz6 := hf6.size
        have hGz := G.below.size
        have hcb := G.ca.lt
        simp only [heap_drew] at hz4
        have hv1 : ListOk Enc.str w6 wr.heap.size w3.heap.size v1 (keysOf ps) := (ListOk.strs_of_own hown1 (Nat.le_refl _) (Nat.le_refl _)).keep Enc.str_laws
          (((Alk.of_fr hf4 (by simp) (by rintro k h1 h2 (h | h) <;> omega)).trans ((Alk.of_below hb5).mono (Nat.le_refl _) hz4)).trans (Alk.of_fr hf6 (by omega) (by rintro k h1 h2 (h | h) <;> omega)))
        have hv2 : ListOk Enc.str w6 w4.heap.size w5.heap.size v2 (keysOf R.ps) := (ListOk.strs_of_own hown2 (Nat.le_refl _) (Nat.le_refl _)).keep Enc.str_laws
          (Alk.of_fr hf6 (by omega) (by rintro k h1 h2 (h | h) <;> omega))
        have kc6 : w6.cell? ⟨kb, ko + j, none⟩ = some (.string keys[j]) := (hf6.cell (by simp; omega) (by rintro (h | h) <;> simp at h <;> omega)).trans kc5
        have vc6 : w6.cell? ⟨vb, vo + j, none⟩ = some (.string vals[j]) := (hf6.cell (by simp; omega) (by rintro (h | h) <;> simp at h <;> omega)).trans vc5
        have hB6 : Below w.heap.size w w6 := Fr.below (Fr.below (G.below.trans (hb3.mono hGz)).drew hf4 (by simp; omega) (by rintro k (h | h) <;> omega) |>.trans (hb5.mono (by omega))) hf6 (by omega) (by rintro k (h | h) <;> omega)
        have hkl1 := keysOf_len ps
        have hkl2 := keysOf_len R.ps
        have hgs := gone_some ps hand keys[j] vals[j]
        rw [← HR.out] at hgs
        obtain ⟨A1, c1, rfl, hc1⟩ := hv1.form
        obtain ⟨A2, c2, rfl, hc2⟩ := hv2.form
        have hlen1 : Hid ((keysOf ps).length ≤ n) := by have := G.len; show _ ≤ _; omega
        have hlen2 : (keysOf R.ps).length ≤ n := by have := HRL.out; omega
        have hlen1' := hlen1.out
        have HI1 := in_any _ _ keys[j] _ _ w6 hv1 (by omega)
        have HI3 := fun g => in_any _ _ g _ _ w6 hv2 (by omega)
        have HI2 := fun g => in_any _ _ g _ _ w6 hv1 (by omega)
        have hcases : (R.gone = none ∧ (keysOf ps).length = n ∧ (keysOf ps).any (eqs · keys[j]) = true) ∨ (∃ g, R.gone = some g ∧ (keysOf ps).length = n ∧ (keysOf ps).any (eqs · keys[j]) = false ∧ (keysOf ps).any (eqs · g) = true ∧ (keysOf R.ps).any (eqs · g) = false) ∨ (R.gone = none ∧ (keysOf ps).length ≠ n) := by
          by_cases hful : (keysOf ps).length = n
          · cases hany : (keysOf ps).any (eqs · keys[j]) with
            | true => rw [hany] at hgs; simp at hgs; exact .inl ⟨hgs, hful, rfl⟩
            | false =>
              rw [hany, G.len, decide_eq_true hful] at hgs
              obtain ⟨g, hg⟩ := Option.isSome_iff_exists.1 hgs
              have hpg : (putR ps hand keys[j] vals[j]).gone = some g := by rw [← HR.out]; exact hg
              obtain ⟨p1, p2⟩ := put_gone G.dist hand keys[j] vals[j] (by rw [G.len]; exact G.lt) hpg
              rw [← HR.out] at p2
              exact .inr (.inl ⟨g, hg, hful, rfl, (any_eqs _ _).2 p1, (any_eqs_false _ _).2 p2⟩)
          · rw [G.len, decide_eq_false hful] at hgs; simp at hgs; exact .inr (.inr ⟨hgs, hful⟩)
        clear hlen1'
        have ee : (vals[j].toList == vals[j].toList) = true := by simp
        clear hgs
        rcases hcases with ⟨hg, hful, hany⟩ | ⟨g, hg, hful, hany, hany2, hany3⟩ | ⟨hg, hful⟩
        case' inl =>
          rw [hany] at HI1
          rw [hg]
          have H1 := Lib.hid HI1
          have b1 : (((keysOf ps).length : Int) == (n : Int)) = true := by simp [hful]
          clear HI1 HI2 HI3 hany hg hful hkl1
          simp only [Option.getD_none, Option.isSome_none]
          go_wp2_with (go_at_call 12; with_reducible refine H1.out.mono ?_; rintro e w7 ⟨rfl, rfl⟩)
        case' inr.inl =>
          rw [hany] at HI1
          have HJ2 := HI2 g
          rw [hany2] at HJ2
          have HJ3 := HI3 g
          rw [hany3] at HJ3
          rw [hg]
          have H1 := Lib.hid HI1
          have H2 := Lib.hid HJ2
          have H3 := Lib.hid HJ3
          have b1 : (((keysOf ps).length : Int) == (n : Int)) = true := by simp [hful]
          clear HI1 HI2 HI3 HJ2 HJ3 hany hany2 hany3 hg hful hkl1
          simp only [Option.getD_some, Option.isSome_some]
          go_wp2_with (go_at_call 12; (first | (with_reducible refine H1.out.mono ?_) | (with_reducible refine H2.out.mono ?_) | (with_reducible refine H3.out.mono ?_)); rintro e w7 ⟨rfl, rfl⟩)
        case' inr.inr =>
          rw [hg]
          have b1 : (((keysOf ps).length : Int) == (n : Int)) = false := by simp; omega
          clear HI1 HI2 HI3 hg hful hkl1
          simp only [Option.getD_none, Option.isSome_none]
          go_wp2_with (fail)
        all_goals
          have hnd : Hid (keysOf R.ps).Nodup := HRd.out.nodup
          go_loopw [17] (fun i w' => ∃ (q nd : Nat), i = .int .i64 q ∧ q ≤ (keysOf R.ps).length ∧ w' = w6.drewN nd) (fun i _ => (keysOf R.ps).length - (intOf i).toNat)
          case atStart => exact ⟨0, 0, rfl, Nat.zero_le _, rfl⟩
          case round =>
            obtain ⟨q, nd, rfl, hq, rfl⟩ := hrel
            by_cases hql : q < (keysOf R.ps).length
            · obtain ⟨b2, o2, rfl, hb2, hb2', hcell2⟩ := hv2.strAt q hql
              have HQ : Hid (∀ m, Calls Try.prog 12 #[.slice (some ⟨b2, o2, none⟩) q c2, .string (keysOf R.ps)[q]] (w6.drewN m) fun e w' => e = .returned (.bool false) ∧ w6.drewN m = w') := by
                intro m
                have h := in_any _ _ (keysOf R.ps)[q] _ _ (w6.drewN m) ((hv2.take q (by omega)).keep Enc.str_laws (fun _ _ _ => rfl)) (by simp; omega)
                have e : ((keysOf R.ps).take q).any (eqs · (keysOf R.ps)[q]) = false := by
                  rw [any_eqs_false]
                  intro hm
                  obtain ⟨i, hi, he⟩ := List.getElem_of_mem hm
                  rw [List.length_take] at hi
                  rw [List.getElem_take] at he
                  have := (List.getElem_inj hnd.out).1 he
                  omega
                rw [e] at h
                exact h
              go_wp2_with (fail)
              go_quiet ((go_at_call 12; exact quiet_add_left (HQ.out _)))
              go_wp2
              go_roundw
              case rel => exact ⟨q + 1, _, by go_num, by omega, rfl⟩
              case measure => simp [intOf]; omega
            · have hRcore := core_get R.ps keys[j]
              have G' : Goes w bc bp n (getPs R.ps keys[j]) R.hand (w6.drewN nd) := ⟨by rw [len_core hRcore]; exact HRL.out, hRh, hc6, HRd.out.core hRcore, below_drewN hB6 nd⟩
              clear hRcore
              go_wp2
              go_roundw
              case rel => exact ⟨j + 1, _, _, by go_num, by omega, by omega, G'⟩
              case measure => simp [intOf]; omega
      · go_wp2
        go_ret
        exact ⟨rfl, G.below⟩
    · go_wp2
      go_ret
      exact ⟨rfl, G.below⟩

set_option maxHeartbeats 400000 in
theorem clockLast_no (n : Int) (kv vv : Value) (w : World) (h : n < 1 ∨ 50 < n) :
    Calls Try.prog 4 #[.int .i64 n, kv, vv] w fun e w' => e = .returned (.bool true) ∧ Below w.heap.size w w' := by
  go_enter Try.func4, Try.ntmps4
  go_wp2_with fail
  refine (clocked_yes _).mono ?_
  rintro e w1 ⟨rfl, hb1⟩
  go_wp2_with fail
  refine (new_no n _ h).mono ?_
  rintro e w2 ⟨rfl, rfl⟩
  go_wp2_with fail
  go_ret
  exact ⟨rfl, hb1⟩
end Go.Proofs.Ytolgkepkdidjcaa
