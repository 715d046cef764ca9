/- The walk of package tag: Check. -/
import Derived.Test.YtiaobgapfoogiaaGreatDoorTagW2
import Derived.Test.YtiaobgapfoogiaaGreatDoorBun
import Derived.Test.YtiaobgapfoogiaaGreatDoorTold
import Derived.Test.YtiaobgapfoogiaaGreatDoorShelf
import Derived.Deep.DeepCutAuto
set_option linter.unusedSimpArgs false
set_option linter.unusedVariables false
namespace Go.Proofs.YtiaobgapfoogiaaGreatDoor
open Go.RowKit

theorem eqs_nil {s : ByteArray} (h : s.toList = []) : Hid (eqs s ByteArray.empty = true) := by
  show (_ == _) = true
  rw [h]; decide +kernel
theorem eqs_not_nil {s : ByteArray} (h : ¬ s.toList = []) : Hid (eqs s ByteArray.empty = false) := by
  show (_ == _) = false
  have e : ByteArray.empty.toList = [] := by decide +kernel
  rw [e]
  cases hs : s.toList with
  | nil => exact absurd hs h
  | cons a l => rfl
theorem tag_ok {t : Tg} (hf : headFault t = false) (h0 : ∀ q, q < t.vars.length → varAt t.vars q = 0) : tagFault t = if 3 < t.vars.length then 4 else 0 := by
  unfold tagFault
  rw [hf, firstN_zero _ _ h0]; rfl
theorem tag_bad {t : Tg} (hf : headFault t = false) (j : Nat) (hj : j < t.vars.length) (h0 : ∀ q, q < j → varAt t.vars q = 0) (h : varAt t.vars j ≠ 0) : tagFault t = varAt t.vars j := by
  unfold tagFault
  rw [hf, firstN_at _ j h0 h _ hj, if_neg h]; rfl
set_option maxHeartbeats 800000 in
theorem check_any (t : Tg) (v : Value) (w : World) (lo : Nat) (hv : ListOk Enc.str w lo w.heap.size v t.vars) (hn : t.vars.length ≤ 140737488355328) (hvs : ∀ s ∈ t.vars, s.size ≤ 9223372036854775807)
    (hl : t.lang.size ≤ 9223372036854775807) (hs : t.script.size ≤ 9223372036854775807) (hr : t.region.size ≤ 9223372036854775807) :
    Calls Tryz.prog 82 #[.agg #[.string t.lang, .string t.script, .string t.region, v]] w fun e w' => e = .returned (errV (tagFault t)) ∧ Below w.heap.size w w' := by
  have H1 := Lib.hid (fun W => made_low t.lang 2 3 W hl (by omega) (by omega))
  have H2 := Lib.hid (fun W => script_any t.script W hs)
  have H3 := Lib.hid (fun W => region_any t.region W hr)
  have HH : Hid (headFault t = (!made isLow t.lang 2 3 || (!eqs t.script ByteArray.empty && !scriptB t.script || !eqs t.region ByteArray.empty && !regionB t.region))) := rfl
  go_enter Tryz.func82, Tryz.ntmps82
  go_upto_region 1 with fail
  go_cut [30] (fun c wx => c = .bool (headFault t) ∧ wx = w.alloc (.cells #[.string t.lang, .string t.script, .string t.region, v] 72))
  case first =>
    generalize made isLow t.lang 2 3 = m at H1 HH
    generalize scriptB t.script = sc at H2 HH
    generalize regionB t.region = rg at H3 HH
    go_wp2_with fail
    refine (H1.out _).mono ?_
    rintro e w1 ⟨rfl, rfl⟩
    cases m with
    | false =>
      go_wp2_with fail
      go_meet
      case rel => exact ⟨by rw [HH.out]; rfl, rfl⟩
    | true =>
      by_cases a : t.script.toList = []
      · have A := eqs_nil a
        by_cases b : t.region.toList = []
        · have B := eqs_nil b
          go_wp2_with fail
          go_meet
          case rel => exact ⟨by rw [HH.out, A.out, B.out]; first | rfl | simp [b], rfl⟩
        · have B := eqs_not_nil b
          go_wp2_with fail
          refine (H3.out _).mono ?_
          rintro e w1 ⟨rfl, rfl⟩
          cases rg
          all_goals
            go_wp2_with fail
            go_meet
            case rel => exact ⟨by rw [HH.out, A.out, B.out]; first | rfl | simp [b], rfl⟩
      · have A := eqs_not_nil a
        go_wp2_with fail
        refine (H2.out _).mono ?_
        rintro e w1 ⟨rfl, rfl⟩
        cases sc with
        | false =>
          go_wp2_with fail
          go_meet
          case rel => exact ⟨by rw [HH.out, A.out]; rfl, rfl⟩
        | true =>
          by_cases b : t.region.toList = []
          · have B := eqs_nil b
            go_wp2_with fail
            go_meet
            case rel => exact ⟨by rw [HH.out, A.out, B.out]; first | rfl | simp [b], rfl⟩
          · have B := eqs_not_nil b
            go_wp2_with fail
            refine (H3.out _).mono ?_
            rintro e w1 ⟨rfl, rfl⟩
            cases rg
            all_goals
              go_wp2_with fail
              go_meet
              case rel => exact ⟨by rw [HH.out, A.out, B.out]; first | rfl | simp [b], rfl⟩
  case rest =>
    obtain ⟨rfl, rfl⟩ := hcut
    cases hf : headFault t with
    | true =>
      have hT : Hid (tagFault t = 3) := fault_head hf
      clear HH
      go_wp2_with fail
      go_ret
      exact ⟨by rw [hT.out]; rfl, (Below.refl _ _).alloc (Nat.le_refl _) _⟩
    | false =>
      obtain ⟨A, c, rfl, hc⟩ := hv.form
      clear HH
      have HF := Lib.hid hf
      clear hf
      go_wp2_with fail
      go_loop [35] (fun i => ∃ j : Nat, j ≤ t.vars.length ∧ i = .int .i64 j ∧ (∀ q, q < j → varAt t.vars q = 0)) (fun i => t.vars.length - (intOf i).toNat)
      case atStart => exact ⟨0, Nat.zero_le _, rfl, fun _ h => absurd h (by omega)⟩
      case round =>
        obtain ⟨j, hj, rfl, hno0⟩ := hrel
        have hno := Lib.hid hno0
        clear hno0
        by_cases hlt : j < t.vars.length
        · obtain ⟨b, o, rfl, h1, h2, hcell⟩ := hv.strAt j hlt
          have H4 := Lib.hid (made_both t.vars[j] 5 8 (w.alloc (.cells #[.string t.lang, .string t.script, .string t.region, .slice (some ⟨b, o, none⟩) t.vars.length c] 72)) (hvs _ (List.getElem_mem hlt)) (by omega) (by omega))
          have hgd : t.vars.getD j ByteArray.empty = t.vars[j] := by rw [List.getD_eq_getElem?_getD, List.getElem?_eq_getElem hlt]; rfl
          have hcs : ∀ q, q < t.vars.length → (w.alloc (.cells #[.string t.lang, .string t.script, .string t.region, .slice (some ⟨b, o, none⟩) t.vars.length c] 72)).cell? ⟨b, o + q, none⟩ = some (.string (t.vars.getD q ByteArray.empty)) := fun q hq => by
            obtain ⟨b', o', he, _, h2', hc'⟩ := hv.strAt q hq
            injection he with he
            injection he with e1 e2
            subst e1; subst e2
            rw [World.cell?_alloc_lt _ _ _ h2, hc', List.getD_eq_getElem?_getD, List.getElem?_eq_getElem hq]; rfl
          have H5 := Lib.hid (Tryz.slices_Contains_string b o j c t.vars t.vars[j] _ (by omega) (by omega) hcs)
          have hva : Hid (varAt t.vars j = if made isBoth t.vars[j] 5 8 then (if Lib.containsS (t.vars.take j) t.vars[j] then 5 else 0) else 3) := by
            show varAt t.vars j = _
            unfold varAt
            rw [hgd]
            have : (t.vars.take j).any (eqs · t.vars[j]) = Lib.containsS (t.vars.take j) t.vars[j] := by
              rw [Bool.eq_iff_iff, List.any_eq_true, Lib.containsS_iff]
              constructor
              · rintro ⟨x, hx, he⟩; rw [← (eqs_iff _ _).1 he]; exact hx
              · intro hx; exact ⟨_, hx, eqs_self _⟩
            rw [this]
          clear hcs hgd
          generalize made isBoth t.vars[j] 5 8 = m at H4 hva
          generalize Lib.containsS (t.vars.take j) t.vars[j] = k at H5 hva
          go_wp2_with fail
          refine (H4.out).mono ?_
          rintro e w1 ⟨rfl, rfl⟩
          cases m with
          | false =>
            have hT := Lib.hid (tag_bad HF.out j hlt hno.out (by rw [hva.out]; simp))
            go_wp2_with fail
            go_ret
            exact ⟨by rw [hT.out, hva.out]; rfl, (Below.refl _ _).alloc (Nat.le_refl _) _⟩
          | true =>
            go_wp2_with fail
            refine (H5.out).mono ?_
            rintro e w1 ⟨rfl, rfl⟩
            cases k with
            | true =>
              have hT := Lib.hid (tag_bad HF.out j hlt hno.out (by rw [hva.out]; simp))
              go_wp2_with fail
              go_ret
              exact ⟨by rw [hT.out, hva.out]; rfl, (Below.refl _ _).alloc (Nat.le_refl _) _⟩
            | false =>
              go_wp2_with fail
              go_round
              case rel => exact ⟨j + 1, by omega, by go_num, fun q hq => by
                rcases Nat.lt_or_eq_of_le (Nat.le_of_lt_succ hq) with h | h
                · exact hno.out q h
                · subst h; rw [hva.out]; rfl⟩
              case measure => simp [intOf]; omega
        · have hall : ∀ q, q < t.vars.length → varAt t.vars q = 0 := fun q h => hno.out q (by omega)
          have hT := Lib.hid (tag_ok HF.out hall)
          go_wp2_with fail
          · have h3 : 3 < (t.vars.length : Int) := by assumption
            go_ret
            exact ⟨by rw [hT.out, if_pos (by omega)]; rfl, (Below.refl _ _).alloc (Nat.le_refl _) _⟩
          · have h3 : (t.vars.length : Int) ≤ 3 := by assumption
            go_ret
            exact ⟨by rw [hT.out, if_neg (by omega)]; rfl, (Below.refl _ _).alloc (Nat.le_refl _) _⟩
end Go.Proofs.YtiaobgapfoogiaaGreatDoor
