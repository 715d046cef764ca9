/- The walk of the document's package: EntryAt, TagFault of a text, BundleFault. -/
import Derived.Test.YtiaobgapfoogiaaGreatDoorRefE
import Derived.Test.YtiaobgapfoogiaaGreatDoorPropC
set_option linter.unusedSimpArgs false
set_option linter.unusedVariables false
namespace Go.Proofs.YtiaobgapfoogiaaGreatDoor
open Go.RowKit

def idxI (o : Option Nat) : Int := match o with | some j => j | none => -1
theorem idxI_none : idxI none = -1 := rfl
theorem idxI_some (j : Nat) : idxI (some j) = j := rfl
theorem idxI_neg (o : Option Nat) : decide (idxI o < 0) = o.isNone := by
  cases o with
  | none => rfl
  | some j => exact decide_eq_false (by have h : (0 : Int) ≤ (j : Int) := Int.natCast_nonneg j; exact Int.not_lt.2 h)
theorem idxI_ge (o : Option Nat) : decide (0 ≤ idxI o) = o.isSome := by
  cases o with
  | none => rfl
  | some j => exact decide_eq_true (Int.natCast_nonneg j)
theorem entIdx_some (l : List Ent) (key : ByteArray) : (entIdx l key).isSome = l.any (fun e => eqs e.key key) := by
  unfold entIdx
  rw [List.findIdx?_isSome]

set_option maxHeartbeats 800000 in
theorem entat_any (v : Value) (l : List Ent) (key : ByteArray) (lo hi : Nat) (w : World) (hv : ListOk Enc.ent w lo hi v l) (hn : l.length ≤ 140737488355328) :
    Calls Tryz.prog 9 #[v, .string key] w fun e w' => e = .returned (.int .i64 (idxI (entIdx l key))) ∧ w = w' := by
  obtain ⟨A, c, rfl, hlc⟩ := hv.form
  have HI : Hid (entIdx l key = l.findIdx? (fun e => eqs e.key key)) := Lib.hid rfl
  go_enter Tryz.func9, Tryz.ntmps9
  go_wp2_with fail
  go_loop [5] (fun i => ∃ j : Nat, j ≤ l.length ∧ i = .int .i64 j ∧ (∀ q (h : q < l.length), q < j → eqs l[q].key key = false)) (fun i => l.length - (intOf i).toNat)
  case atStart => exact ⟨0, Nat.zero_le _, rfl, fun _ _ h => absurd h (by omega)⟩
  case round =>
    obtain ⟨j, hj, rfl, hno0⟩ := hrel
    have hno := Lib.hid hno0
    clear hno0
    by_cases hlt : j < l.length
    · obtain ⟨b, o, rfl, h1, h2, hc, _⟩ := hv.entAt j hlt
      cases hk : (l[j].key.toList == key.toList) with
      | true =>
        have HK : Hid (entIdx l key = some j) := Lib.hid (by rw [HI.out]; exact findIdx_at l _ j hlt hk hno.out)
        go_wp2_with fail
        go_ret
        exact ⟨by rw [HK.out]; rfl, rfl⟩
      | false =>
        have HK := Lib.hid hk
        go_wp2_with fail
        go_round
        case rel => exact ⟨j + 1, by omega, by go_num, step_no l (fun e => eqs e.key key) j hno.out (fun _ => HK.out)⟩
        case measure => simp [intOf]; omega
    · have HK : Hid (entIdx l key = none) := Lib.hid (by rw [HI.out]; exact findIdx_none l _ (fun q h => hno.out q h (by omega)))
      go_wp2_with fail
      go_ret
      exact ⟨by rw [HK.out]; rfl, rfl⟩

set_option maxHeartbeats 800000 in
theorem qtagfault_any (s : ByteArray) (w : World) (hs : s.size < 4294967281) :
    Calls Tryz.prog 30 #[.string s] w fun e w' => e = .returned (.bool (!isTag s)) ∧ Below w.heap.size w w' := by
  have HP := Lib.hid (rtagof_any s w hs)
  have HI : Hid (isTag s = match parseTag s with | some t => eqs (tagText t) s | none => false) := Lib.hid rfl
  have HF : Hid (∀ t, parseTag s = some t → tagFault t = 0) := Lib.hid fun t h => parse_fault h
  go_enter Tryz.func30, Tryz.ntmps30
  go_wp2_with fail
  refine HP.out.mono ?_
  clear HP
  rintro e w1 ⟨hb1, ⟨hn, rfl⟩ | ⟨t, v, hsm, rfl, hl⟩⟩
  · have HB1 := Lib.hid hb1
    have HZ : Hid (isTag s = false) := Lib.hid (by rw [HI.out, hn])
    have hs1 := hb1.size
    clear hn hb1 HI HF
    go_wp2_with fail
    go_ret
    exact ⟨by rw [HZ.out]; rfl, by first | exact HB1.out | exact HB1.out.alloc hs1 _⟩
  · have HB1 := Lib.hid hb1
    have hs1 := hb1.size
    have hf := HF.out t hsm
    have HZ : Hid (isTag s = eqs (tagText t) s) := Lib.hid (by rw [HI.out, hsm])
    obtain ⟨A, c, rfl, _⟩ := hl.form
    have HX : Hid (∀ W, Below w1.heap.size w1 W → Calls Tryz.prog 41 #[.agg #[.string t.lang, .string t.script, .string t.region, .slice A t.vars.length c]] W fun e w' => e = .returned (.string (tagText t)) ∧ Below W.heap.size W w') := Lib.hid fun W hW =>
      rtext_any t _ W w.heap.size ((hl.below Enc.str_laws hW).mono Enc.str_laws (Nat.le_refl _) hW.size) (by have := (small_of hf).len; omega) (by have := small_text (small_of hf); omega)
    clear hsm hb1 HI HF hl hf
    have heq : Hid (eqs (tagText t) s = ((tagText t).toList == s.toList)) := Lib.hid rfl
    generalize tagText t = X at *
    go_wp2_with fail
    refine (HX.out _ ((Below.refl _ _).alloc (Nat.le_refl _) _)).mono ?_
    rintro e w2 ⟨rfl, hb2⟩
    have HB2 := Lib.hid (HB1.out.trans ((((Below.refl w1.heap.size w1).alloc (Nat.le_refl _) _).trans (hb2.mono (by simp))).mono hs1))
    clear hb2 HX
    by_cases he : (X.toList == s.toList) = true
    · go_wp2_with fail
      go_ret
      exact ⟨by rw [HZ.out, heq.out]; simp_all, HB2.out⟩
    · have he' : (X.toList == s.toList) = false := by simpa using he
      clear he
      go_wp2_with fail
      go_ret
      exact ⟨by rw [HZ.out, heq.out]; simp_all, HB2.out⟩
theorem keyOk_made (s : ByteArray) : made isKey s 1 40 = keyOk s := by
  unfold made keyOk
  cases (bts s).all isKey
  · simp
  · by_cases h : s.size = 0
    · simp [h]
    · have : 1 ≤ s.size := by omega
      simp [h, this]
theorem only_key (s : ByteArray) (w : World) (hs : s.size ≤ 9223372036854775807) :
    Calls Tryz.prog 31 #[.string s, .string ⟨#[97,98,99,100,101,102,103,104,105,106,107,108,109,110,111,112,113,114,115,116,117,118,119,120,121,122,48,49,50,51,52,53,54,55,56,57,46,95]⟩, .int .i64 1, .int .i64 40] w fun e w' => e = .returned (.bool (keyOk s)) ∧ ∃ n, w' = w.drewN n := by
  rw [← keyOk_made, ← contains_byte ⟨#[97,98,99,100,101,102,103,104,105,106,107,108,109,110,111,112,113,114,115,116,117,118,119,120,121,122,48,49,50,51,52,53,54,55,56,57,46,95]⟩ isKey (by decide +kernel) s 1 40]
  exact only_any s _ 1 40 w hs (by decide) (by decide) (by decide)
set_option maxHeartbeats 1600000 in
set_option maxRecDepth 100000 in
theorem qbunfault_any (b : Bun) (v : Value) (w : World) (h : BunIn w b v) :
    Calls Tryz.prog 13 #[.agg #[.string b.tag, v]] w fun e w' => e = .returned (.int .i64 (bunFault b)) ∧ Below w.heap.size w w' := by
  have HT : Hid (∀ W, Calls Tryz.prog 30 #[.string b.tag] W fun e w' => e = .returned (.bool (!isTag b.tag)) ∧ Below W.heap.size W w') := Lib.hid fun W => qtagfault_any b.tag W h.tag
  have HL : Hid (∀ W, Below w.heap.size w W → ListOk Enc.ent W (Classical.choose h.lo) w.heap.size v b.ents) := Lib.hid fun W hW => (Classical.choose_spec h.lo).keep Enc.ent_laws (Alk.mono (Alk.of_below hW) (Nat.zero_le _) (Nat.le_refl _))
  have HE := Lib.hid h.each
  have hlen := h.len
  obtain ⟨A, c, hv, hlc⟩ := (Classical.choose_spec h.lo).form
  subst hv
  generalize Classical.choose h.lo = lo at HL
  have HB0 : Hid (isTag b.tag = false → bunFault b = 3) := Lib.hid fun h => by unfold bunFault; rw [h]; rfl
  have HB4 : Hid (isTag b.tag = true → 100 < b.ents.length → bunFault b = 4) := Lib.hid fun h h2 => by unfold bunFault; rw [if_pos h, if_pos h2]
  have HBad : Hid (isTag b.tag = true → b.ents.length ≤ 100 → ∀ j, j < b.ents.length → (∀ q, q < j → entAt b.ents q = 0) → entAt b.ents j ≠ 0 → bunFault b = entAt b.ents j) := Lib.hid fun h1 h2 j hj h0 h => bun_bad h1 h2 j hj h0 h
  have HGood : Hid (isTag b.tag = true → b.ents.length ≤ 100 → (∀ q, q < b.ents.length → entAt b.ents q = 0) → bunFault b = 0) := Lib.hid fun h1 h2 h => bun_good h1 h2 h
  obtain ⟨bt, l⟩ := b
  dsimp only at HT HL HE hlen hlc HB0 HB4 HBad HGood ⊢
  generalize bunFault ⟨bt, l⟩ = F at *
  generalize isTag bt = tg at *
  clear h
  go_enter Tryz.func13, Tryz.ntmps13
  go_wp2_with fail
  refine (HT.out _).mono ?_
  clear HT
  rintro e w1 ⟨rfl, hb1⟩
  have m1 : Blk w1 w.heap.size 24 #[.string bt, .slice A l.length c] := (Blk.new _ _ _).below hb1 (by simp)
  have HB1 := Lib.hid (((Below.refl w.heap.size w).alloc (Nat.le_refl _) _).trans (hb1.mono (by simp)))
  have hw1 := m1.lt
  have k1 : ∀ n, (w1.drewN n).cell? ⟨w.heap.size, 1, none⟩ = some (.slice A l.length c) := fun n => ((m1.drewN n).cell 1).trans (by simp)
  clear hb1 m1
  cases tg with
  | false =>
    have HF := Lib.hid (HB0.out rfl)
    go_wp2_with fail
    go_ret
    exact ⟨by rw [HF.out]; rfl, HB1.out⟩
  | true =>
    have k10 : w1.cell? ⟨w.heap.size, 1, none⟩ = some (.slice A l.length c) := k1 0
    by_cases h100 : 100 < l.length
    · have HF := Lib.hid (HB4.out rfl h100)
      go_wp2_with fail
      go_ret
      exact ⟨by rw [HF.out]; rfl, HB1.out⟩
    · have hle : l.length ≤ 100 := by omega
      have HBad' := Lib.hid (HBad.out rfl hle)
      have HGood' := Lib.hid (HGood.out rfl hle)
      clear HB0 HB4 HBad HGood
      go_wp2_with fail
      go_loopw [3] (fun i wr => ∃ j : Nat, j ≤ l.length ∧ i = .int .i64 j ∧ (∀ q, q < j → entAt l q = 0) ∧ ∃ n, wr = w1.drewN n) (fun i _ => l.length - (intOf i).toNat)
      case atStart => exact ⟨0, Nat.zero_le _, rfl, fun _ h => absurd h (by omega), 0, rfl⟩
      case round =>
        obtain ⟨j, hj, rfl, hno, n, rfl⟩ := hrel
        have HNo := Lib.hid hno
        clear hno k10
        by_cases hlt : j < l.length
        · obtain ⟨eb, eo, rfl, p1, p2, x0, x1⟩ := (HL.out w1 HB1.out).entAt j hlt
          have hes := HE.out _ (List.getElem_mem hlt)
          have HEt := Lib.hid (entAt_is j hlt)
          have HAt := Lib.hid (HBad'.out j hlt HNo.out)
          have HOn := Lib.hid (fun W => only_key l[j].key W hes.1)
          have HEn : Hid (∀ m, Calls Tryz.prog 9 #[.slice (some ⟨eb, eo, none⟩) j c, .string l[j].key] (w1.drewN m) fun e w' => e = .returned (.int .i64 (idxI (entIdx (l.take j) l[j].key))) ∧ w1.drewN m = w') := Lib.hid fun m =>
            entat_any _ _ _ lo w.heap.size _ ((HL.out (w1.drewN m) (below_drewN HB1.out m)).take j (by omega)) (by rw [List.length_take]; omega)
          have HAny : Hid ((l.take j).any (fun e => eqs e.key l[j].key) = decide (0 ≤ idxI (entIdx (l.take j) l[j].key))) := Lib.hid (by rw [idxI_ge, entIdx_some])
          generalize (l.take j).any (fun e => eqs e.key l[j].key) = an at *
          generalize idxI (entIdx (l.take j) l[j].key) = z at *
          generalize l[j] = e at *
          obtain ⟨ky, tx⟩ := e
          dsimp only at x0 x1 hes HEt HOn HEn
          have k1n := k1 n
          generalize keyOk ky = ko at *
          go_wp2_with fail
          refine (HOn.out _).mono ?_
          rintro e w3 ⟨rfl, n3, e3⟩
          obtain ⟨n5, rfl⟩ : ∃ n5, w3 = w1.drewN n5 := ⟨n + n3, by rw [e3, World.drewN_drewN]⟩
          have k15 := k1 n5
          clear e3 HOn k1n
          cases ko with
          | false =>
            have HF := Lib.hid (HAt.out (by rw [HEt.out]; simp))
            rw [HEt.out] at HF
            go_wp2_with fail
            go_ret
            exact ⟨by rw [HF.out]; rfl, below_drewN HB1.out _⟩
          | true =>
            have hjc : j ≤ c := by omega
            have k16 : w1.cell? ⟨w.heap.size, 1, none⟩ = some (.slice (some ⟨eb, eo, none⟩) l.length c) := k15
            go_wp2_with fail
            go_quiet ((go_at_call 9; exact quiet_add_left (HEn.out _)))
            by_cases hz : 0 ≤ z
            · have HF := Lib.hid (HAt.out (by rw [HEt.out, HAny.out]; simp [hz]))
              rw [HEt.out, HAny.out] at HF
              go_wp2_with fail
              go_ret
              exact ⟨by rw [HF.out]; simp [hz], by first | exact below_drewN HB1.out _ | exact below_drewN (below_drewN HB1.out _) _⟩
            · rw [HAny.out] at HEt
              simp only [hz, if_true, Bool.false_eq_true, decide_false, if_false] at HEt
              by_cases h2 : 2000 < tx.size
              · rw [if_pos h2] at HEt
                have HF := Lib.hid (HAt.out (by rw [HEt.out]; decide))
                rw [HEt.out] at HF
                go_wp2_with fail
                go_ret
                exact ⟨by rw [HF.out]; rfl, by first | exact below_drewN HB1.out _ | exact below_drewN (below_drewN HB1.out _) _⟩
              · rw [if_neg h2] at HEt
                have h2' : tx.size ≤ 2000 := by omega
                go_wp2_with fail
                go_roundw
                case rel => exact ⟨j + 1, by omega, by go_num, fun q hq => by
                  rcases Nat.lt_or_eq_of_le (Nat.le_of_lt_succ hq) with h | h
                  · exact HNo.out q h
                  · subst h; exact HEt.out, _, by first | rfl | rw [World.drewN_drewN]⟩
                case measure => simp [intOf]; omega
        · obtain rfl : j = l.length := by omega
          have HF := Lib.hid (HGood'.out HNo.out)
          have k1n := k1 n
          go_wp2_with fail
          go_ret
          exact ⟨by rw [HF.out]; rfl, below_drewN HB1.out _⟩
end Go.Proofs.YtiaobgapfoogiaaGreatDoor
