/- The walk of the document's package: TagOf. -/
import Derived.Test.YtdmjelkjeiinjaaDoorRefD
import Derived.Test.YtdmjelkjeiinjaaDoorParse
set_option linter.unusedSimpArgs false
set_option linter.unusedVariables false
namespace Go.Proofs.YtdmjelkjeiinjaaDoor
open Go.RowKit

theorem rScript_len (l : List ByteArray) : (rScript l).2.length ≤ l.length := by
  cases l with
  | nil => exact Nat.le_refl _
  | cons p r => unfold rScript; dsimp only; split <;> simp
theorem rRegion_len (l : List ByteArray) : (rRegion l).2.length ≤ l.length := by
  cases l with
  | nil => exact Nat.le_refl _
  | cons p r => unfold rRegion; dsimp only; split <;> simp
theorem rScript_size (l : List ByteArray) : (rScript l).1.size ≤ 4 := by
  cases l with
  | nil => exact Nat.zero_le _
  | cons p r =>
    unfold rScript; dsimp only; split
    · rename_i h
      rw [ByteArray.size_append, ByteArray.size_extract]
      have e : (upperB (p.extract 0 1)).size = (p.extract 0 1).size := mapB_size _ _ _
      rw [e, ByteArray.size_extract]; omega
    · exact Nat.zero_le _
theorem rRegion_size (l : List ByteArray) : (rRegion l).1.size ≤ 3 := by
  cases l with
  | nil => exact Nat.zero_le _
  | cons p r =>
    unfold rRegion; dsimp only; split
    · rename_i h
      have e : (upperB p).size = p.size := mapB_size _ _ _
      dsimp only; omega
    · exact Nat.zero_le _
def yes4 : List ByteArray → Bool
  | [] => false
  | p :: _ => decide (p.size = 4)
def yes3 : List ByteArray → Bool
  | [] => false
  | p :: _ => decide (p.size < 4)
/-- A list behind its first member, as Go cuts it. -/
def cutOff (A : Value) (rest : List ByteArray) : Prop := ∃ A0 c, A = .slice A0 rest.length c ∧ rest.length ≤ c
set_option maxHeartbeats 3200000 in
theorem rtagof_any (s : ByteArray) (w : World) (hs : s.size < 4294967281) :
    Calls Tryd.prog 18 #[.string s] w fun e w' => Below w.heap.size w w' ∧
      ((parseTag s = none ∧ e = .returned (.tuple #[.agg #[.string ⟨#[]⟩, .string ⟨#[]⟩, .string ⟨#[]⟩, .slice none 0 0], .bool false])) ∨
        ∃ t v, parseTag s = some t ∧ e = .returned (.tuple #[.agg #[.string t.lang, .string t.script, .string t.region, v], .bool true]) ∧ ListOk Enc.str w' w.heap.size w'.heap.size v t.vars) := by
  have hl : (lowerB s).size = s.size := mapB_size _ _ _
  have HLow := Lib.hid (fun W => rlower_any s W (by omega))
  have HSplit := Lib.hid (fun W => cut_any (lowerB s) 45 W (by omega))
  have ed : (⟨#[45]⟩ : ByteArray) = dash := rfl
  rw [ed] at HSplit
  have hd : ∃ p r, splitS (lowerB s) dash = p :: r := by
    have e : dash = ⟨#[45]⟩ := rfl
    rw [e, splitS_one]
    cases h : cut1 45 (bts (lowerB s)) with
    | nil => exact absurd h (cut1_ne _ _)
    | cons a r => exact ⟨_, _, rfl⟩
  have hsz := splitS_sizes (lowerB s)
  obtain ⟨p0, r0, hpr⟩ := hd
  have hr0 : r0.length ≤ 4294967281 := by
    have h1 := splitS_length (lowerB s)
    have h2 : (bts (lowerB s)).count 45 ≤ (bts (lowerB s)).length := List.count_le_length
    rw [bts_len] at h2
    rw [hpr, countB_one, List.length_cons] at h1
    omega
  rw [hpr] at HSplit hsz
  have HRaw : Hid (rTag s = ⟨p0, (rScript r0).1, (rRegion (rScript r0).2).1, (rRegion (rScript r0).2).2⟩) := by
    show rTag s = _
    unfold rTag
    simp only [hpr, List.drop_succ_cons, List.drop_zero, List.headD_cons]
  have HPar : Hid (parseTag s = if decide (tagFault (rTag s) = 0) && eqs (lowerB (tagText (rTag s))) (lowerB s) then some (rTag s) else none) := Lib.hid (by rw [← tagOf_parse]; rfl)
  rw [hl] at hsz
  clear hl
  have HSz := Lib.hid hsz
  clear hsz hpr ed
  generalize lowerB s = ls at HLow HSplit HPar
  simp only [List.length_cons, List.map_cons] at HSplit
  go_enter Tryd.func18, Tryd.ntmps18
  go_upto_region 2 with fail
  refine (HLow.out _).mono ?_
  rintro e w1 ⟨rfl, hb1⟩
  have HB1 := Lib.hid hb1
  clear hb1
  go_upto_region 2 with fail
  refine (HSplit.out _).mono ?_
  rintro e w2 ⟨u, rfl, hown, _, hb2⟩
  have hs1 := HB1.out.size
  simp only [World.size_alloc] at hs1
  obtain ⟨A2, c2, rfl, hc2⟩ := own_slice hown
  have hL2 : ListOk Enc.str w2 w1.heap.size w2.heap.size (.slice A2 (r0.length + 1) c2) (p0 :: r0) := ListOk.strs_of_own (l := p0 :: r0) hown (Nat.le_refl _) (Nat.le_refl _)
  obtain ⟨b0, o0, rfl, g1, g2, g3⟩ := hL2.strAt 0 (by simp)
  have hbw2 : Below w.heap.size w w2 := (((Below.refl _ _).alloc (Nat.le_refl _) _).trans (HB1.out.mono (by simp))).trans (hb2.mono (by omega))
  have hs2 := hb2.size
  have hres2 : Blk w2 w.heap.size 24 #[.string ⟨#[]⟩, .string ⟨#[]⟩, .string ⟨#[]⟩, .slice none 0 0] := ((Blk.new w _ _).below HB1.out (by simp)).below hb2 (by omega)
  simp at g3
  have HL2 := Lib.hid hL2
  have HBW2 := Lib.hid hbw2
  have HRes2 := Lib.hid hres2
  clear hown hb2 hL2 hbw2 hres2 HB1 HSplit
  go_upto_region 3 with fail
  obtain ⟨wr, hwr⟩ : ∃ wr, wr = w2.alloc (.cells #[.string p0, .string ⟨#[]⟩, .string ⟨#[]⟩, .slice none 0 0] 24) := ⟨_, rfl⟩
  obtain ⟨h1, eh1⟩ : ∃ h1, h1 = w2.heap.size := ⟨_, rfl⟩
  have hP : Parts w wr h1 (.slice (some ⟨b0, o0, none⟩) (r0.length + 1) c2) p0 ByteArray.empty ByteArray.empty (p0 :: r0) := by
    refine ⟨?_, ?_, ?_, ?_, by omega, fun p hp => Nat.le_trans (HSz.out p hp) (by omega)⟩
    · rw [hwr]; exact HBW2.out.alloc HBW2.out.size _
    · rw [hwr, eh1]; exact Blk.new _ _ _
    · rw [hwr]; exact HRes2.out.alloc _
    · rw [hwr, eh1]
      exact (HL2.out.below Enc.str_laws ((Below.refl _ _).alloc (Nat.le_refl _) _)).mono Enc.str_laws (by omega) (Nat.le_refl _)
  have hp0 : p0.size ≤ 4294967281 := Nat.le_trans (HSz.out p0 List.mem_cons_self) (by omega)
  rw [← hwr, ← eh1]
  clear hwr eh1 HL2 HBW2 HRes2 HSz g1 g2 g3 hs1 hs2
  go_cut [4] (fun A' wx => cutOff A' r0 ∧ Parts w wx h1 A' p0 ByteArray.empty ByteArray.empty r0)
  case first =>
    have HP := Lib.hid hP
    clear hP HLow
    obtain ⟨k, rfl⟩ : ∃ k, c2 = k + 1 := ⟨c2 - 1, by omega⟩
    rcases k with _ | k
    · obtain rfl : r0 = [] := List.length_eq_zero_iff.1 (by omega)
      simp only [List.length_nil]
      go_wp2_with fail
      go_meet
      case rel => exact ⟨⟨_, _, rfl, Nat.zero_le _⟩, HP.out.tail0 _ _⟩
    · go_wp2_with fail
      go_meet
      case rel => exact ⟨⟨_, _, rfl, by omega⟩, HP.out.tail _ (by omega)⟩
  case rest =>
    clear hP
    obtain ⟨⟨A, c, rfl, hc⟩, hP⟩ := hcut
    have HP := Lib.hid hP
    clear hP hc2
    go_upto_region 4 with fail
    go_cut [24] (fun b wx => b = .bool (yes4 r0) ∧ Parts w wx h1 (.slice A r0.length c) p0 ByteArray.empty ByteArray.empty r0)
    case first =>
      cases r0 with
      | nil =>
        simp only [List.length_nil]
        go_wp2_with fail
        go_meet
        case rel => exact ⟨rfl, HP.out⟩
      | cons q r =>
        obtain ⟨b, o, rfl, g1, g2, g3⟩ := HP.out.list.strAt 0 (by simp)
        have hq : q.size ≤ 4294967281 := HP.out.sizes q (List.mem_cons_self)
        have HY : Hid (yes4 (q :: r) = decide (q.size = 4)) := rfl
        simp at g3
        go_wp2_with fail
        go_meet
        case rel => exact ⟨by rw [HY.out]; first | rfl | (congr 1; rw [Bool.eq_iff_iff]; simp; omega), HP.out⟩
    case rest =>
      clear HP
      obtain ⟨rfl, hP⟩ := hcut
      have HP := Lib.hid hP
      clear hP
      go_upto_if 24 with fail
      go_cut [4] (fun A' wx => cutOff A' (rScript r0).2 ∧ Parts w wx h1 A' p0 (rScript r0).1 ByteArray.empty (rScript r0).2)
      case first =>
        by_cases hy : yes4 r0 = true
        · obtain ⟨q, r, rfl⟩ : ∃ q r, r0 = q :: r := by
            cases r0 with
            | nil => cases hy
            | cons q r => exact ⟨q, r, rfl⟩
          obtain ⟨b, o, rfl, g1, g2, g3⟩ := HP.out.list.strAt 0 (by simp)
          have hq4 : q.size = 4 := of_decide_eq_true hy
          have HSc : Hid (rScript (q :: r) = (upperB (q.extract 0 1) ++ q.extract 1 4, r)) := by
            show rScript (q :: r) = _
            unfold rScript
            simp only
            rw [if_pos hq4, hq4]
          have HU := Lib.hid (fun W => rupper_any (q.extract 0 1) W (by rw [ByteArray.size_extract]; omega))
          have hx1 : (upperB (q.extract 0 1)).size = 1 := by
            show (mapB _ _ _).size = 1
            rw [mapB_size, ByteArray.size_extract]; omega
          have hx2 : (q.extract 1 4).size = 3 := by rw [ByteArray.size_extract]; omega
          generalize upperB (q.extract 0 1) = X at HU HSc hx1
          simp at g3
          have hlt := HP.out.box.lt
          have hbb := HP.out.base
          rw [hy]
          clear hy
          have k1 := HP.out.box.cell 1
          have k2 := HP.out.box.frozen 1
          simp at k1
          go_wp2_with fail
          go_region_held3 (fun w' => w'.cell? ⟨b, o, none⟩ = some (.string q)) (first | go_keep | exact g4 | exact (World.cell?_setCell_other _ _ _ _ (by intro h; injection h with h; omega)).trans g4)
            (first
              | (go_at_call 45
                 refine (HU.out _).mono ?_
                 rintro e w3 ⟨rfl, hb3⟩
                 have g4 : w3.cell? ⟨b, o, none⟩ = some (.string q) := (hb3.cell (p := ⟨b, o, none⟩) (by show b < wc.heap.size; omega)).trans g3
                 have k3 : w3.cell? ⟨h1, 1, none⟩ = some (.string ⟨#[]⟩) := (hb3.cell (p := ⟨h1, 1, none⟩) (by show h1 < wc.heap.size; omega)).trans k1
                 have k4 : w3.frozen? ⟨h1, 1, none⟩ = false := (hb3.frozen (p := ⟨h1, 1, none⟩) (by show h1 < wc.heap.size; omega)).trans k2))

          have hb3' := below_of_drew hb3
          have HP3 := Lib.hid ((HP.out.of_set hb3' 1 (.string (X ++ q.extract 1 4)) (X ++ q.extract 1 4) ByteArray.empty rfl))
          clear hb3 hb3' g4 k3 k4 g3 k1 k2 HP
          have hc2 : r.length + 1 ≤ c := by simpa using hc
          obtain ⟨k, rfl⟩ : ∃ k, c = k + 1 := ⟨c - 1, by omega⟩
          rcases k with _ | k
          · obtain rfl : r = [] := List.length_eq_zero_iff.1 (by omega)
            simp only [List.length_nil]
            go_wp2_with fail
            go_meet
            case rel => rw [HSc.out]; exact ⟨⟨_, _, rfl, Nat.zero_le _⟩, HP3.out.tail0 _ _⟩
          · have hc' : r.length ≤ k + 1 := by omega
            go_wp2_with fail
            go_meet
            case rel => rw [HSc.out]; exact ⟨⟨_, _, rfl, hc'⟩, HP3.out.tail _ hc'⟩
        · have hy' : yes4 r0 = false := by simpa using hy
          have HSc : Hid (rScript r0 = (ByteArray.empty, r0)) := by
            show rScript r0 = _
            cases r0 with
            | nil => rfl
            | cons q r =>
              unfold rScript
              simp only
              exact if_neg (of_decide_eq_false hy')
          rw [hy']
          clear hy hy'
          go_wp2_with fail
          go_meet
          case rel => rw [HSc.out]; exact ⟨⟨_, _, rfl, hc⟩, HP.out⟩
      case rest =>
        clear HP hc
        have hrl := rScript_len r0
        obtain ⟨sc, rest, hsc⟩ : ∃ sc rest, rScript r0 = (sc, rest) := ⟨_, _, rfl⟩
        have hss := rScript_size r0
        rw [hsc] at hcut HRaw hrl hss
        dsimp only at hrl
        dsimp only at hcut HRaw
        clear hsc
        obtain ⟨⟨A, c, rfl, hc⟩, hcut⟩ := hcut
        have HP := Lib.hid hcut
        clear hcut
        go_upto_region 7 with fail
        go_cut [47] (fun b wx => b = .bool (yes3 rest) ∧ Parts w wx h1 (.slice A rest.length c) p0 sc ByteArray.empty rest)
        case first =>
          cases rest with
          | nil =>
            simp only [List.length_nil]
            go_wp2_with fail
            go_meet
            case rel => exact ⟨rfl, HP.out⟩
          | cons q r =>
            obtain ⟨b, o, rfl, g1, g2, g3⟩ := HP.out.list.strAt 0 (by simp)
            have hq : q.size ≤ 4294967281 := HP.out.sizes q (List.mem_cons_self)
            have HY : Hid (yes3 (q :: r) = decide (q.size < 4)) := rfl
            simp at g3
            go_wp2_with fail
            go_meet
            case rel => exact ⟨by rw [HY.out]; first | rfl | (congr 1; rw [Bool.eq_iff_iff]; simp; omega), HP.out⟩
        case rest =>
          clear HP
          obtain ⟨rfl, hP⟩ := hcut
          have HP := Lib.hid hP
          clear hP
          go_upto_if 47 with fail
          go_cut [4] (fun A' wx => cutOff A' (rRegion rest).2 ∧ Parts w wx h1 A' p0 sc (rRegion rest).1 (rRegion rest).2)
          case first =>
            by_cases hy : yes3 rest = true
            · obtain ⟨q, r, rfl⟩ : ∃ q r, rest = q :: r := by
                cases rest with
                | nil => cases hy
                | cons q r => exact ⟨q, r, rfl⟩
              obtain ⟨b, o, rfl, g1, g2, g3⟩ := HP.out.list.strAt 0 (by simp)
              have hm : q.size < 4 := of_decide_eq_true hy
              have HSc : Hid (rRegion (q :: r) = (upperB q, r)) := by
                show rRegion (q :: r) = _
                unfold rRegion
                exact if_pos hm
              have hq : q.size ≤ 4294967281 := HP.out.sizes q (List.mem_cons_self)
              have HU := Lib.hid (fun W => rupper_any q W (by omega))
              rw [hy]
              clear hy hm
              generalize upperB q = X at HU HSc
              simp at g3
              have hlt := HP.out.box.lt
              have k1 := HP.out.box.cell 2
              have k2 := HP.out.box.frozen 2
              simp at k1
              go_wp2_with fail
              refine (HU.out _).mono ?_
              rintro e w3 ⟨rfl, hb3⟩
              have k3 : w3.cell? ⟨h1, 2, none⟩ = some (.string ⟨#[]⟩) := (hb3.cell (p := ⟨h1, 2, none⟩) hlt).trans k1
              have k4 : w3.frozen? ⟨h1, 2, none⟩ = false := (hb3.frozen (p := ⟨h1, 2, none⟩) hlt).trans k2
              have HP3 := Lib.hid ((HP.out.of_set hb3 2 (.string X) sc X rfl))
              clear hb3 k1 k2 g3 HP
              have hc2 : r.length + 1 ≤ c := by simpa using hc
              obtain ⟨k, rfl⟩ : ∃ k, c = k + 1 := ⟨c - 1, by omega⟩
              rcases k with _ | k
              · obtain rfl : r = [] := List.length_eq_zero_iff.1 (by omega)
                simp only [List.length_nil]
                go_wp2_with fail
                go_meet
                case rel => rw [HSc.out]; exact ⟨⟨_, _, rfl, Nat.zero_le _⟩, HP3.out.tail0 _ _⟩
              · have hc' : r.length ≤ k + 1 := by omega
                go_wp2_with fail
                go_meet
                case rel => rw [HSc.out]; exact ⟨⟨_, _, rfl, hc'⟩, HP3.out.tail _ hc'⟩
            · have hy' : yes3 rest = false := by simpa using hy
              have HSc : Hid (rRegion rest = (ByteArray.empty, rest)) := by
                show rRegion rest = _
                cases rest with
                | nil => rfl
                | cons q r =>
                  unfold rRegion
                  exact if_neg (of_decide_eq_false hy')
              rw [hy']
              clear hy hy'
              go_wp2_with fail
              go_meet
              case rel => rw [HSc.out]; exact ⟨⟨_, _, rfl, hc⟩, HP.out⟩
          case rest =>
            clear HP hc
            obtain ⟨rg, vs, hrg⟩ : ∃ rg vs, rRegion rest = (rg, vs) := ⟨_, _, rfl⟩
            have hvl := rRegion_len rest
            have hrs := rRegion_size rest
            rw [hrg] at hcut HRaw hvl hrs
            dsimp only at hcut HRaw hvl
            clear hrg
            obtain ⟨⟨A, c, rfl, hc⟩, hP⟩ := hcut
            have hn : vs.length ≤ 4294967281 := by omega
            have HP := Lib.hid hP
            clear hP
            go_upto_region 10 with fail
            go_cut [] (fun wx => ∃ v, Done w wx h1 p0 sc rg v vs)
            case first =>
              have hlt := HP.out.box.lt
              have k1 := HP.out.box.cell 3
              have k2 := HP.out.box.frozen 3
              simp at k1
              have HNews := Lib.hid (news_strs (HP.out.list))
              go_wp2_with (at_builtin; refine wpList_append_any rfl _ _ 22 rfl wc.heap.size 9 Tryd.underlying22 info_string rfl (by decide) [] rfl own_nil (vs.map .string) rfl (by simp) HNews.out (strs_oneCell _) (by unfold maxLen; omega) (by omega) (Nat.le_refl _) ?_)
              intro v3 w3 hown3 hgrow3 _
              have hb3 : Below wc.heap.size wc w3 := (Below.refl _ _).grown hgrow3 (Nat.le_refl _) (by simp [Value.ownBlock])
              obtain ⟨A3, c3, rfl, _⟩ := own_slice hown3
              have k3 := (hb3.cell (p := ⟨h1, 3, none⟩) hlt).trans k1
              have k4 := (hb3.frozen (p := ⟨h1, 3, none⟩) hlt).trans k2
              have HP3 := Lib.hid (HP.out.done hb3 (ListOk.strs_of_own (lo := wc.heap.size) (hi := w3.heap.size) hown3 (Nat.le_refl _) (Nat.le_refl _)))
              clear hown3 hgrow3 hb3 k1 k2 HNews
              go_wp2_with fail
              go_meet
              case rel => exact ⟨_, HP3.out⟩
            case rest =>
              clear HP
              obtain ⟨v, hD⟩ := hcut
              have HD := Lib.hid hD
              clear hD
              obtain ⟨A3, c3, rfl, _⟩ := HD.out.list.form
              dsimp only at hss hrs
              have HF := Lib.hid (rfault_any ⟨p0, sc, rg, vs⟩ (.slice A3 vs.length c3) wc _ (HD.out.list.mono Enc.str_laws (Nat.le_refl _) (Nat.le_refl _)) (by dsimp only; omega) (fun x hx => Nat.le_trans (HD.out.sizes x hx) (by omega)) (by dsimp only; omega) (by dsimp only; omega) (by dsimp only; omega))
              dsimp only at HF
              rw [HRaw.out] at HPar
              clear HRaw
              have k0 := HD.out.box.cell 0
              have k1 := HD.out.box.cell 1
              have k2 := HD.out.box.cell 2
              have k3 := HD.out.box.cell 3
              simp at k0 k1 k2 k3
              by_cases hf : tagFault ⟨p0, sc, rg, vs⟩ = 0
              · have HX : Hid (∀ W, Below wc.heap.size wc W → Calls Tryd.prog 20 #[.agg #[.string p0, .string sc, .string rg, .slice A3 vs.length c3]] W fun e w' => e = .returned (.string (tagText ⟨p0, sc, rg, vs⟩)) ∧ Below W.heap.size W w') := fun W hW => rtext_any ⟨p0, sc, rg, vs⟩ _ W _ ((HD.out.list.below Enc.str_laws hW).mono Enc.str_laws (Nat.le_refl _) hW.size) (by dsimp only; omega) (by have := tagText_size hf; omega)
                have HY := Lib.hid (fun W => rlower_any (tagText ⟨p0, sc, rg, vs⟩) W (by have := tagText_size hf; omega))
                rw [hf] at HF HPar
                clear hf
                generalize tagText ⟨p0, sc, rg, vs⟩ = X at HX HY HPar
                generalize lowerB X = Y at HY HPar
                go_wp2_with fail
                refine HF.out.mono ?_
                rintro e w3 ⟨rfl, hb3⟩
                have HD3 := Lib.hid (HD.out.moved hb3)
                have m := HD3.out.box
                have q0 := m.cell 0
                have q1 := m.cell 1
                have q2 := m.cell 2
                have q3 := m.cell 3
                simp at q0 q1 q2 q3
                have HB3 := Lib.hid hb3
                clear m hb3 k0 k1 k2 k3
                go_wp2_with fail
                refine (HX.out _ HB3.out).mono ?_
                rintro e w4 ⟨rfl, hb4⟩
                have HD4 := Lib.hid (HD3.out.moved hb4)
                clear hb4 q0 q1 q2 q3 HD3
                go_wp2_with fail
                refine (HY.out _).mono ?_
                rintro e w5 ⟨rfl, hb5⟩
                have HD5 := Lib.hid (HD4.out.moved hb5)
                clear hb5 HD4
                go_wp2_with fail
                refine (HLow.out _).mono ?_
                rintro e w6 ⟨rfl, hb6⟩
                have HD6 := Lib.hid (HD5.out.moved hb6)
                clear hb6 HD5
                have m := HD6.out.res
                have d0 := m.cell 0
                have d1 := m.cell 1
                have d2 := m.cell 2
                have d3 := m.cell 3
                have f0 := m.frozen 0
                have f1 := m.frozen 1
                have f2 := m.frozen 2
                have f3 := m.frozen 3
                have m2 := HD6.out.box
                have q0 := m2.cell 0
                have q1 := m2.cell 1
                have q2 := m2.cell 2
                have q3 := m2.cell 3
                simp at d0 d1 d2 d3 q0 q1 q2 q3
                clear m m2
                by_cases he : (Y.toList == ls.toList) = true
                · have HN : Hid (parseTag s = some ⟨p0, sc, rg, vs⟩) := by
                    have h2 := HPar.out
                    have e1 : eqs Y ls = true := he
                    rw [e1] at h2
                    exact h2
                  clear HPar
                  go_wp2_with fail
                  refine bodyPost_ret (v := .tuple #[.agg #[.string p0, .string sc, .string rg, .slice A3 vs.length c3], .bool true]) ?_ rfl ?_
                  · simp [results, Tryd.results18, go_sem, d0, d1, d2, d3, f0, f1, f2, f3]
                    try rfl
                  · refine ⟨by repeat' (first | exact HD6.out.below | (refine Below.setCell ?_ (by simp) _)), .inr ⟨_, _, HN.out, rfl, ?_⟩⟩
                    have hl6 := HD6.out.list
                    have hb6 := HD6.out.base
                    refine ListOk.mono (lo := h1 + 1) (hi := w6.heap.size) Enc.str_laws (hl6.keep Enc.str_laws fun p hp hq => ?_) (by omega) (by simp)
                    rw [World.cell?_setCell_other _ _ _ _ (by intro e; rw [← e] at hp; dsimp only at hp; omega), World.cell?_setCell_other _ _ _ _ (by intro e; rw [← e] at hp; dsimp only at hp; omega), World.cell?_setCell_other _ _ _ _ (by intro e; rw [← e] at hp; dsimp only at hp; omega), World.cell?_setCell_other _ _ _ _ (by intro e; rw [← e] at hp; dsimp only at hp; omega)]
                · have he' : (Y.toList == ls.toList) = false := by simpa using he
                  have HN : Hid (parseTag s = none) := by
                    have h2 := HPar.out
                    have e1 : eqs Y ls = false := he'
                    rw [e1] at h2
                    exact h2
                  clear HPar he
                  go_wp2_with fail
                  refine bodyPost_ret (v := .tuple #[.agg #[.string ⟨#[]⟩, .string ⟨#[]⟩, .string ⟨#[]⟩, .slice none 0 0], .bool false]) ?_ rfl ?_
                  · simp [results, Tryd.results18, go_sem, d0, d1, d2, d3, f0, f1, f2, f3]
                    try rfl
                  · exact ⟨by repeat' (first | exact HD6.out.below | (refine Below.setCell ?_ (by simp) _)), .inl ⟨HN.out, rfl⟩⟩
              · have HN : Hid (parseTag s = none) := by
                  have h2 := HPar.out
                  rw [decide_eq_false hf] at h2
                  exact h2
                clear HPar
                have HNe := hf
                generalize tagFault ⟨p0, sc, rg, vs⟩ = f at HF HNe
                have hf1 : ((f : Int) == 0) = false := by simpa using HNe
                go_wp2_with fail
                refine HF.out.mono ?_
                rintro e w3 ⟨rfl, hb3⟩
                have HD3 := Lib.hid (HD.out.moved hb3)
                have m := HD3.out.res
                have d0 := m.cell 0
                have d1 := m.cell 1
                have d2 := m.cell 2
                have d3 := m.cell 3
                have f0 := m.frozen 0
                have f1 := m.frozen 1
                have f2 := m.frozen 2
                have f3 := m.frozen 3
                simp at d0 d1 d2 d3
                clear m hb3 k0 k1 k2 k3 hf
                go_wp2_with fail
                refine bodyPost_ret (v := .tuple #[.agg #[.string ⟨#[]⟩, .string ⟨#[]⟩, .string ⟨#[]⟩, .slice none 0 0], .bool false]) ?_ rfl ?_
                · simp [results, Tryd.results18, go_sem, d0, d1, d2, d3, f0, f1, f2, f3]
                  try rfl
                · exact ⟨by repeat' (first | exact HD3.out.below | (refine Below.setCell ?_ (by simp) _)), .inl ⟨HN.out, rfl⟩⟩
end Go.Proofs.YtdmjelkjeiinjaaDoor
