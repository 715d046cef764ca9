/- The document's escapes, lines and bare texts. -/
import Derived.Test.YtoneheloojlifaaGreatDoorLinesP
import Derived.Test.YtoneheloojlifaaGreatDoorRefG
namespace Go.Proofs.YtoneheloojlifaaGreatDoor
open Go.RowKit

theorem str_app (a b : List UInt8) : str (a ++ b) = str a ++ str b := bts_inj (by rw [bts_append, bts_str, bts_str, bts_str])
def escS (s : ByteArray) : ByteArray := str (escL (bts s))
def escN (s : ByteArray) (j : Nat) : ByteArray := str (escL ((bts s).take j))
theorem escN_all (s : ByteArray) : escN s s.size = escS s := by unfold escN escS; rw [List.take_of_length_le (by rw [bts_len]; exact Nat.le_refl _)]
theorem escN_succ (s : ByteArray) (j : Nat) (hj : j < s.size) : escN s (j + 1) = escN s j ++ str (esc1 s[j]) := by
  unfold escN
  have hj' : j < (bts s).length := by rw [bts_len]; exact hj
  rw [List.take_add_one, List.getElem?_eq_getElem hj', bts_get s j hj, escL_append, ← str_app]
  show _ = str (_ ++ _)
  simp [escL]
theorem escN_len (s : ByteArray) (j : Nat) : (escN s j).size ≤ 2 * s.size := by
  unfold escN
  rw [str_size]
  have := escL_len ((bts s).take j)
  have h2 : ((bts s).take j).length ≤ s.size := by rw [List.length_take, bts_len]; omega
  omega
theorem esc1_str {c : UInt8} : (c = 92 → str (esc1 c) = ⟨#[92, 92]⟩) ∧ (c = 10 → str (esc1 c) = ⟨#[92, 110]⟩) ∧ (c = 13 → str (esc1 c) = ⟨#[92, 114]⟩) ∧ (c ≠ 92 → c ≠ 10 → c ≠ 13 → str (esc1 c) = str [c]) := by
  refine ⟨fun h => by subst h; rfl, fun h => by subst h; rfl, fun h => by subst h; rfl, fun h1 h2 h3 => ?_⟩
  unfold esc1
  rw [if_neg h1, if_neg h2, if_neg h3]
theorem one_ext (s : ByteArray) (j : Nat) (hj : j < s.size) : s.extract j (j + 1) = str [s[j]] := by
  apply bts_inj
  have hj' : j < (bts s).length := by rw [bts_len]; exact hj
  rw [bts_extract, List.take_add_one, List.getElem?_eq_getElem hj', bts_get s j hj, List.drop_append_of_le_length (by rw [List.length_take]; omega), List.drop_of_length_le (by rw [List.length_take]; omega)]
  rfl
theorem u8_lit {c : UInt8} {d : Nat} (hd : d < 256) : c = UInt8.ofNat d ↔ c.toNat = d := by
  constructor
  · intro h; rw [h]; simp; omega
  · intro h; apply UInt8.toNat_inj.1; rw [h]; simp; omega
set_option maxHeartbeats 1600000 in
theorem escaped_any (s : ByteArray) (w : World) (hs : s.size ≤ 4611686018427387903) :
    Calls Tryz.prog 40 #[.string s] w fun e w' => e = .returned (.string (escS s)) ∧ w = w' := by
  go_enter Tryz.func40, Tryz.ntmps40
  go_wp2
  go_loop [3, 4] (fun o i => ∃ j : Nat, j ≤ s.size ∧ i = .int .i64 j ∧ o = .string (escN s j)) (fun _ i => s.size - (intOf i).toNat)
  case atStart => exact ⟨0, Nat.zero_le _, rfl, rfl⟩
  case round =>
    obtain ⟨j, hj, rfl, rfl⟩ := hrel
    by_cases hlt : j < s.size
    · have HS := Lib.hid (escN_succ s j hlt)
      have hz := escN_len s (j + 1)
      rw [HS.out, ByteArray.size_append] at hz
      have HX := Lib.hid (one_ext s j hlt)
      have HE := Lib.hid (@esc1_str s[j])
      generalize escN s j = y at *
      generalize ec : s[j] = c at *
      have HL := Lib.hid c.toNat_lt
      by_cases h92 : c.toNat = 92
      · have HQ := Lib.hid (HE.out.1 ((u8_lit (by decide)).2 h92))
        rw [HQ.out] at hz HS
        clear HE
        have hz2 : y.size + 2 ≤ 9223372036854775807 := by
          have e : (⟨#[92, 92]⟩ : ByteArray).size = 2 := rfl
          omega
        have f92 : ((c.toNat : Int) == 92) = true := by rw [beq_iff_eq]; omega
        clear hz
        go_wp2
        go_round
        case rel => exact ⟨j + 1, by omega, by go_num, by rw [HS.out]⟩
        case measure => simp [intOf]; omega
      by_cases h10 : c.toNat = 10
      · have HQ := Lib.hid (HE.out.2.1 ((u8_lit (by decide)).2 h10))
        rw [HQ.out] at hz HS
        clear HE
        have hz2 : y.size + 2 ≤ 9223372036854775807 := by
          have e : (⟨#[92, 110]⟩ : ByteArray).size = 2 := rfl
          omega
        have f92 : ((c.toNat : Int) == 92) = false := by rw [beq_eq_false_iff_ne]; omega
        have f10 : ((c.toNat : Int) == 10) = true := by rw [beq_iff_eq]; omega
        clear hz
        go_wp2
        go_round
        case rel => exact ⟨j + 1, by omega, by go_num, by rw [HS.out]⟩
        case measure => simp [intOf]; omega
      by_cases h13 : c.toNat = 13
      · have HQ := Lib.hid (HE.out.2.2.1 ((u8_lit (by decide)).2 h13))
        rw [HQ.out] at hz HS
        clear HE
        have hz2 : y.size + 2 ≤ 9223372036854775807 := by
          have e : (⟨#[92, 114]⟩ : ByteArray).size = 2 := rfl
          omega
        have f92 : ((c.toNat : Int) == 92) = false := by rw [beq_eq_false_iff_ne]; omega
        have f10 : ((c.toNat : Int) == 10) = false := by rw [beq_eq_false_iff_ne]; omega
        have f13 : ((c.toNat : Int) == 13) = true := by rw [beq_iff_eq]; omega
        clear hz
        go_wp2
        go_round
        case rel => exact ⟨j + 1, by omega, by go_num, by rw [HS.out]⟩
        case measure => simp [intOf]; omega
      have HQ := Lib.hid (HE.out.2.2.2 (fun h => h92 ((u8_lit (by decide)).1 h)) (fun h => h10 ((u8_lit (by decide)).1 h)) (fun h => h13 ((u8_lit (by decide)).1 h)))
      rw [HQ.out, ← HX.out] at HS
      rw [HQ.out, ← HX.out] at hz
      clear HE HQ
      have f1 : ((c.toNat : Int) == 92) = false := by rw [beq_eq_false_iff_ne]; omega
      have f2 : ((c.toNat : Int) == 10) = false := by rw [beq_eq_false_iff_ne]; omega
      have f3 : ((c.toNat : Int) == 13) = false := by rw [beq_eq_false_iff_ne]; omega
      have hj1 : j + 1 ≤ s.size := hlt
      go_wp2
      go_round
      case rel => exact ⟨j + 1, by omega, by go_num, by rw [HS.out]⟩
      case measure => simp [intOf]; omega
    · obtain rfl : j = s.size := by omega
      rw [escN_all]
      go_wp2
      go_ret
      exact ⟨rfl, rfl⟩
/- ## Lines -/
def linesS (b : Bun) : ByteArray := str (linesL b)
def linesN (b : Bun) (j : Nat) : ByteArray := str (nlL (64 :: bts b.tag) ++ ((b.ents.take j).map lineL).flatMap nlL)
theorem linesN_zero (b : Bun) : linesN b 0 = (⟨#[64]⟩ : ByteArray) ++ b.tag ++ ⟨#[10]⟩ := by
  apply bts_inj
  rw [bts_append, bts_append]
  unfold linesN
  rw [bts_str]; simp [nlL, bts]
theorem linesN_succ (b : Bun) (j : Nat) (hj : j < b.ents.length) : linesN b (j + 1) = linesN b j ++ b.ents[j].key ++ ⟨#[61]⟩ ++ escS b.ents[j].text ++ ⟨#[10]⟩ := by
  apply bts_inj
  rw [bts_append, bts_append, bts_append, bts_append]
  unfold linesN escS
  have e : b.ents.take (j + 1) = b.ents.take j ++ [b.ents[j]] := by rw [List.take_add_one, List.getElem?_eq_getElem hj]; rfl
  rw [bts_str, bts_str, bts_str, e, List.map_append, List.flatMap_append]
  have e2 : (List.map lineL [b.ents[j]]).flatMap nlL = bts b.ents[j].key ++ ([61] ++ (escL (bts b.ents[j].text) ++ [10])) := by simp [nlL, lineL]
  rw [e2]
  simp only [List.append_assoc]
  rfl
theorem linesN_all (b : Bun) : linesN b b.ents.length = linesS b := by unfold linesN linesS; rw [List.take_length]; rfl
theorem linesN_le (b : Bun) : ∀ k j, j + k = b.ents.length → (linesN b j).size ≤ (linesS b).size
  | 0, j, h => by
    have : j = b.ents.length := by omega
    rw [this, linesN_all]; exact Nat.le_refl _
  | k + 1, j, h => by
    have h1 := linesN_le b k (j + 1) (by omega)
    rw [linesN_succ b j (by omega)] at h1
    simp only [ByteArray.size_append] at h1
    omega
set_option maxHeartbeats 1600000 in
theorem lines_any (b : Bun) (v : Value) (w : World) (h : BunIn w b v) (hs : (linesS b).size ≤ 9223372036854775807) (ht : ∀ e ∈ b.ents, e.text.size ≤ 4611686018427387903) :
    Calls Tryz.prog 16 #[.agg #[.string b.tag, v]] w fun e w' => e = .returned (.string (linesS b)) ∧ Below w.heap.size w w' := by
  have HSz : Hid (∀ j, j ≤ b.ents.length → (linesN b j).size ≤ 9223372036854775807) := Lib.hid fun j hj => Nat.le_trans (linesN_le b (b.ents.length - j) j (by omega)) hs
  have hlen := h.len
  have HE := Lib.hid ht
  obtain ⟨lo, hl⟩ := h.lo
  obtain ⟨A, c, rfl, _⟩ := hl.form
  have HL : Hid (∀ W, Below w.heap.size w W → ListOk Enc.ent W lo w.heap.size (.slice A b.ents.length c) b.ents) := Lib.hid fun W hW => hl.keep Enc.ent_laws (Alk.mono (Alk.of_below hW) (Nat.zero_le _) (Nat.le_refl _))
  have hz0 := HSz.out 0 (Nat.zero_le _)
  rw [linesN_zero] at hz0
  simp only [ByteArray.size_append] at hz0
  have e1 : (⟨#[64]⟩ : ByteArray).size = 1 := rfl
  have e2 : (⟨#[10]⟩ : ByteArray).size = 1 := rfl
  rw [e1, e2] at hz0
  have H0 := Lib.hid (linesN_zero b)
  clear h hl hs ht e1 e2
  go_enter Tryz.func16, Tryz.ntmps16
  go_wp2_with fail
  obtain ⟨W1, eW1⟩ : ∃ W1, W1 = w.alloc (.cells #[.string b.tag, .slice A b.ents.length c] 24) := ⟨_, rfl⟩
  have mb : Blk W1 w.heap.size 24 #[.string b.tag, .slice A b.ents.length c] := by rw [eW1]; exact Blk.new _ _ _
  have hb1 : Below w.heap.size w W1 := by rw [eW1]; exact (Below.refl _ _).alloc (Nat.le_refl _) _
  have HM := Lib.hid mb
  have HB1 := Lib.hid hb1
  rw [← eW1]
  clear eW1 mb hb1
  go_loopw [3, 4] (fun o i wr => ∃ j : Nat, j ≤ b.ents.length ∧ i = .int .i64 j ∧ o = .string (linesN b j) ∧ ∃ n, wr = W1.drewN n) (fun _ i _ => b.ents.length - (intOf i).toNat)
  case atStart => exact ⟨0, Nat.zero_le _, rfl, by rw [H0.out], 0, rfl⟩
  case round =>
    clear hz0
    obtain ⟨j, hj, rfl, rfl, n, rfl⟩ := hrel
    have k1 := HM.out.cell 1
    simp at k1
    by_cases hlt : j < b.ents.length
    · obtain ⟨bb, o, rfl, p1, p2, x0, x1⟩ := (HL.out _ HB1.out).entAt j hlt
      have hz := HSz.out (j + 1) hlt
      have HS := Lib.hid (linesN_succ b j hlt)
      have htx := HE.out _ (List.getElem_mem hlt)
      rw [HS.out] at hz
      simp only [ByteArray.size_append] at hz
      have e1 : (⟨#[61]⟩ : ByteArray).size = 1 := rfl
      have e2 : (⟨#[10]⟩ : ByteArray).size = 1 := rfl
      rw [e1, e2] at hz
      clear e1 e2
      generalize linesN b j = y at *
      generalize b.ents[j] = e at *
      obtain ⟨ky, tx⟩ := e
      dsimp only at x0 x1 hz htx
      have HEs := Lib.hid (fun W => escaped_any tx W htx)
      go_wp2_with fail
      go_quiet ((go_at_call 40; first | exact quiet_left (HEs.out _) | exact quiet_add_left (HEs.out _)))
      go_wp2_with fail
      go_roundw
      case rel => exact ⟨j + 1, by omega, by go_num, by rw [HS.out], _, rfl⟩
      case measure => simp [intOf]; omega
    · obtain rfl : j = b.ents.length := by omega
      rw [linesN_all]
      go_wp2_with fail
      go_ret
      exact ⟨rfl, below_drawn HB1.out n⟩
/- ## Bare -/
def bareF (s : ByteArray) : Value := match bareR (bts s) with
  | none => .tuple #[.string ⟨#[]⟩, .bool false]
  | some y => .tuple #[.string (str y), .bool ((escS (str y)).toList == s.toList)]
def BareRes (s : ByteArray) (e : Ending) : Prop := e = .returned (bareF s)
theorem bare_none {s : ByteArray} (h : bareR (bts s) = none) : BareRes s (.returned (.tuple #[.string ⟨#[]⟩, .bool false])) := by
  unfold BareRes bareF
  rw [h]
theorem bare_some {s y : ByteArray} (h : bareR (bts s) = some (bts y)) : BareRes s (.returned (.tuple #[.string y, .bool ((escS y).toList == s.toList)])) := by
  unfold BareRes bareF
  rw [h]
  simp only [str_bts]
theorem bareF_ex (s : ByteArray) : ∃ t ok, bareF s = .tuple #[.string t, .bool ok] ∧ (ok = true ↔ escL (bareL (bts s)) = bts s) ∧ (ok = true → t = str (bareL (bts s))) := by
  unfold bareF
  cases h : bareR (bts s) with
  | none => exact ⟨_, false, rfl, ⟨fun h => (by cases h), fun h2 => by
      obtain ⟨out, h3, _⟩ := (bareR_is _).2 h2
      rw [h] at h3; cases h3⟩, fun h => (by cases h)⟩
  | some y =>
    have e := bareR_some _ _ _ (Nat.le_refl _) h
    refine ⟨str y, _, rfl, ?_, fun _ => by rw [← e]⟩
    rw [beq_iff_eq, ByteArray.toList_eq, ByteArray.toList_eq, ← e]
    exact Iff.rfl
/-- the loop: what is told, what is left -/
def BareAt (s y : ByteArray) (j : Nat) : Prop := bareR (bts s) = (bareR ((bts s).drop j)).map (bts y ++ ·)
theorem bareAt_zero (s : ByteArray) : BareAt s ⟨#[]⟩ 0 := by
  unfold BareAt
  rw [List.drop_zero]
  cases bareR (bts s) <;> rfl
theorem bareAt_end {s y : ByteArray} (h : BareAt s y s.size) : bareR (bts s) = some (bts y) := by
  unfold BareAt at h
  rw [h, List.drop_of_length_le (by rw [bts_len]; exact Nat.le_refl _)]
  simp [bareR]
theorem drop_at (s : ByteArray) (j : Nat) (hj : j < s.size) : (bts s).drop j = s[j] :: (bts s).drop (j + 1) := by
  have hj' : j < (bts s).length := by rw [bts_len]; exact hj
  rw [List.drop_eq_getElem_cons hj', bts_get s j hj]
theorem bareAt_plain {s y : ByteArray} {j : Nat} (h : BareAt s y j) (hj : j < s.size) (hc : s[j].toNat ≠ 92) : BareAt s (y ++ s.extract j (j + 1)) (j + 1) := by
  unfold BareAt at h ⊢
  rw [h, drop_at s j hj, bareR_cons (fun e => hc (by rw [e]; rfl)), bts_append, one_ext s j hj, bts_str, Option.map_map]
  congr 1
  funext l
  simp
theorem bareAt_last {s y : ByteArray} {j : Nat} (h : BareAt s y j) (hj : j + 1 = s.size) (hc : s[j].toNat = 92) : bareR (bts s) = none := by
  unfold BareAt at h
  have e : s[j] = 92 := (u8_lit (by decide)).2 hc
  rw [h, drop_at s j (by omega), e, List.drop_of_length_le (by rw [bts_len]; omega)]
  simp [bareR]
theorem bareAt_two {s y : ByteArray} {j : Nat} (h : BareAt s y j) (hj : j + 1 < s.size) (hc : (s[j]'(by omega)).toNat = 92) :
    bareR (bts s) = (match unescR s[j + 1] with | some x => (bareR ((bts s).drop (j + 2))).map (x :: ·) | none => none).map (bts y ++ ·) := by
  unfold BareAt at h
  have e : s[j]'(by omega) = 92 := (u8_lit (by decide)).2 hc
  rw [h, drop_at s j (by omega), e, drop_at s (j + 1) hj, bareR_two]
  cases unescR s[j + 1] <;> rfl
theorem bareAt_esc {s y : ByteArray} {j : Nat} {x : UInt8} (h : BareAt s y j) (hj : j + 1 < s.size) (hc : (s[j]'(by omega)).toNat = 92) (hu : unescR s[j + 1] = some x) : BareAt s (y ++ str [x]) (j + 1 + 1) := by
  have h2 := bareAt_two h hj hc
  rw [hu] at h2
  unfold BareAt
  rw [h2, bts_append, bts_str]
  dsimp only
  rw [Option.map_map]
  congr 1
  funext l
  simp
theorem bareAt_bad {s y : ByteArray} {j : Nat} (h : BareAt s y j) (hj : j + 1 < s.size) (hc : (s[j]'(by omega)).toNat = 92) (hu : unescR s[j + 1] = none) : bareR (bts s) = none := by
  have h2 := bareAt_two h hj hc
  rw [hu] at h2
  exact h2
theorem unescR_nat (d : UInt8) : (d.toNat = 110 → unescR d = some 10) ∧ (d.toNat = 114 → unescR d = some 13) ∧ (d.toNat = 92 → unescR d = some 92) ∧ (d.toNat ≠ 110 → d.toNat ≠ 114 → d.toNat ≠ 92 → unescR d = none) := by
  refine ⟨fun h => ?_, fun h => ?_, fun h => ?_, fun h1 h2 h3 => ?_⟩
  · rw [(u8_lit (d := 110) (by decide)).2 h]; rfl
  · rw [(u8_lit (d := 114) (by decide)).2 h]; rfl
  · rw [(u8_lit (d := 92) (by decide)).2 h]; rfl
  · unfold unescR
    rw [if_neg fun e => h1 (by rw [e]; rfl), if_neg fun e => h2 (by rw [e]; rfl), if_neg fun e => h3 (by rw [e]; rfl)]
set_option maxHeartbeats 3200000 in
set_option maxRecDepth 100000 in
theorem qbare_any (s : ByteArray) (w : World) (hs : s.size ≤ 4611686018427387903) :
    Calls Tryz.prog 42 #[.string s] w fun e w' => BareRes s e ∧ w = w' := by
  have HEs : Hid (∀ y : ByteArray, y.size ≤ s.size → Calls Tryz.prog 40 #[.string y] w fun e w' => e = .returned (.string (escS y)) ∧ w = w') := Lib.hid fun y hy => escaped_any y w (by omega)
  go_enter Tryz.func42, Tryz.ntmps42
  go_wp2
  go_loop [4, 5] (fun o i => ∃ (j : Nat) (y : ByteArray), j ≤ s.size ∧ i = .int .i64 j ∧ o = .string y ∧ y.size ≤ j ∧ Hid (BareAt s y j)) (fun _ i => s.size - (intOf i).toNat)
  case atStart => exact ⟨0, _, Nat.zero_le _, rfl, rfl, Nat.le_refl _, Lib.hid (bareAt_zero s)⟩
  case round =>
    obtain ⟨j, y, hj, rfl, rfl, hy, hB⟩ := hrel
    by_cases hlt : j < s.size
    · have HX := Lib.hid (one_ext s j hlt)
      have hx1 : (s.extract j (j + 1)).size = 1 := by rw [HX.out, str_size]; rfl
      by_cases h92 : s[j].toNat = 92
      · have f1 : ((s[j].toNat : Int) != 92) = false := by rw [bne_eq_false_iff_eq]; omega
        by_cases hl : j + 1 < s.size
        · have f2 : ((j : Int) + 1 == (s.size : Int)) = false := by rw [beq_eq_false_iff_ne]; omega
          have f2' : (((j + 1 : Nat) : Int) == (s.size : Int)) = false := by rw [beq_eq_false_iff_ne]; omega
          have HU := Lib.hid (unescR_nat s[j + 1])
          have HE : Hid (∀ x, unescR s[j + 1] = some x → BareAt s (y ++ str [x]) (j + 1 + 1)) := Lib.hid fun x hx => bareAt_esc hB.out hl h92 hx
          have HN : Hid (unescR s[j + 1] = none → bareR (bts s) = none) := Lib.hid fun hx => bareAt_bad hB.out hl h92 hx
          by_cases g110 : s[j + 1].toNat = 110
          · have HQ : Hid (BareAt s (y ++ ⟨#[10]⟩) (j + 1 + 1)) := Lib.hid (HE.out 10 (HU.out.1 g110))
            have p110 : ((s[j + 1].toNat : Int) == 110) = true := by rw [beq_iff_eq]; omega
            have hz : (y ++ (⟨#[10]⟩ : ByteArray)).size ≤ j + 1 + 1 := by
              have e : (⟨#[10]⟩ : ByteArray).size = 1 := rfl
              rw [ByteArray.size_append, e]; omega
            have hz2 : y.size + 1 ≤ 9223372036854775807 := by omega
            clear HE HN HU HX hB
            go_wp2
            go_round
            case rel => exact ⟨j + 1 + 1, _, by omega, by go_num, rfl, hz, HQ⟩
            case measure => simp [intOf]; omega
          by_cases g114 : s[j + 1].toNat = 114
          · have HQ : Hid (BareAt s (y ++ ⟨#[13]⟩) (j + 1 + 1)) := Lib.hid (HE.out 13 (HU.out.2.1 g114))
            have p110 : ((s[j + 1].toNat : Int) == 110) = false := by rw [beq_eq_false_iff_ne]; omega
            have p114 : ((s[j + 1].toNat : Int) == 114) = true := by rw [beq_iff_eq]; omega
            have hz : (y ++ (⟨#[13]⟩ : ByteArray)).size ≤ j + 1 + 1 := by
              have e : (⟨#[13]⟩ : ByteArray).size = 1 := rfl
              rw [ByteArray.size_append, e]; omega
            have hz2 : y.size + 1 ≤ 9223372036854775807 := by omega
            clear HE HN HU HX hB
            go_wp2
            go_round
            case rel => exact ⟨j + 1 + 1, _, by omega, by go_num, rfl, hz, HQ⟩
            case measure => simp [intOf]; omega
          by_cases g92 : s[j + 1].toNat = 92
          · have HQ : Hid (BareAt s (y ++ ⟨#[92]⟩) (j + 1 + 1)) := Lib.hid (HE.out 92 (HU.out.2.2.1 g92))
            have p110 : ((s[j + 1].toNat : Int) == 110) = false := by rw [beq_eq_false_iff_ne]; omega
            have p114 : ((s[j + 1].toNat : Int) == 114) = false := by rw [beq_eq_false_iff_ne]; omega
            have p92 : ((s[j + 1].toNat : Int) == 92) = true := by rw [beq_iff_eq]; omega
            have hz : (y ++ (⟨#[92]⟩ : ByteArray)).size ≤ j + 1 + 1 := by
              have e : (⟨#[92]⟩ : ByteArray).size = 1 := rfl
              rw [ByteArray.size_append, e]; omega
            have hz2 : y.size + 1 ≤ 9223372036854775807 := by omega
            clear HE HN HU HX hB
            go_wp2
            go_round
            case rel => exact ⟨j + 1 + 1, _, by omega, by go_num, rfl, hz, HQ⟩
            case measure => simp [intOf]; omega
          have HR := Lib.hid (bare_none (HN.out (HU.out.2.2.2 g110 g114 g92)))
          have p110 : ((s[j + 1].toNat : Int) == 110) = false := by rw [beq_eq_false_iff_ne]; omega
          have p114 : ((s[j + 1].toNat : Int) == 114) = false := by rw [beq_eq_false_iff_ne]; omega
          have p92 : ((s[j + 1].toNat : Int) == 92) = false := by rw [beq_eq_false_iff_ne]; omega
          clear HE HN HU HX hB
          go_wp2
          go_ret2
          exact ⟨HR.out, rfl⟩
        · have f2 : ((j : Int) + 1 == (s.size : Int)) = true := by rw [beq_iff_eq]; omega
          have f2' : (((j + 1 : Nat) : Int) == (s.size : Int)) = true := by rw [beq_iff_eq]; omega
          have HN := Lib.hid (bare_none (bareAt_last hB.out (by omega) h92))
          go_wp2
          go_ret2
          exact ⟨HN.out, rfl⟩
      · have f1 : ((s[j].toNat : Int) != 92) = true := by rw [bne_iff_ne]; omega
        have HB := Lib.hid (bareAt_plain hB.out hlt h92)
        have hz : (y ++ s.extract j (j + 1)).size ≤ j + 1 := by rw [ByteArray.size_append, hx1]; omega
        clear hB HX
        go_wp2
        go_round
        case rel => exact ⟨j + 1, _, by omega, by go_num, rfl, hz, HB⟩
        case measure => simp [intOf]; omega
    · obtain rfl : j = s.size := by omega
      have HS := Lib.hid (bare_some (bareAt_end hB.out))
      have HE := Lib.hid (HEs.out y hy)
      go_wp2_with fail
      refine HE.out.mono ?_
      rintro e w1 ⟨rfl, rfl⟩
      go_wp2_with fail
      go_ret2
      exact ⟨HS.out, rfl⟩
/- ## Starts, with one sign -/
def headIs (s : ByteArray) (c : UInt8) : Bool := match bts s with | x :: _ => x == c | [] => false
set_option maxHeartbeats 800000 in
theorem starts_any (s : ByteArray) (c : UInt8) (w : World) :
    Calls Tryz.prog 41 #[.string s, .string ⟨#[c]⟩] w fun e w' => e = .returned (.bool (headIs s c)) ∧ w = w' := by
  have hsz : (⟨#[c]⟩ : ByteArray).size = 1 := rfl
  by_cases h0 : 1 ≤ s.size
  · have HE := Lib.hid (one_at s c 0 h0)
    have e0 : headIs s c = (s[0] == c) := by
      have := drop_at s 0 h0
      rw [List.drop_zero] at this
      unfold headIs
      rw [this]
    have HH := Lib.hid e0
    have he := HE.out
    rw [Nat.zero_add, ← e0] at he
    generalize headIs s c = B at *
    clear e0 HE HH
    have hd : decide (1 ≤ (s.size : Int)) = true := decide_eq_true (by omega)
    obtain ⟨p, hp⟩ : ∃ p : ByteArray, p = ⟨#[c]⟩ := ⟨_, rfl⟩
    rw [← hp] at he hsz ⊢
    clear hp
    go_enter Tryz.func41, Tryz.ntmps41
    go_wp2
    go_ret
    exact ⟨rfl, rfl⟩
  · have hz : s.size = 0 := by omega
    have e0 : headIs s c = false := by
      unfold headIs
      have : bts s = [] := List.length_eq_zero_iff.1 (by rw [bts_len]; exact hz)
      rw [this]
    rw [e0]
    clear e0
    obtain ⟨p, hp⟩ : ∃ p : ByteArray, p = ⟨#[c]⟩ := ⟨_, rfl⟩
    rw [← hp] at hsz ⊢
    clear hp
    go_enter Tryz.func41, Tryz.ntmps41
    go_wp2
    go_ret
    exact ⟨rfl, rfl⟩
end Go.Proofs.YtoneheloojlifaaGreatDoor
