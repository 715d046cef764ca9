/- strings.IndexAny at two letters, for every text. -/
import Derived.WalkMore
import Derived.Deep.QuietTactic
import Derived.Deep.LoopGhost
import Derived.Laws.RangeAny
import Derived.Lib.OthersKept
import Derived.Lib.IndexLaws
import Derived.Lib.IndexAny
import Derived.Shelf.Strings.IndexAnyAll
import Derived.Test.YtjdfpoppimcikaaGreatDoorShelf
import Derived.Test.YtjdfpoppimcikaaGreatDoorShelfH
import Derived.Test.YtjdfpoppimcikaaGreatDoorRuleC
import Derived.BigQuiet
import Derived.Deep.RegionHeld3
import Derived.Deep.Cut
import Derived.Test.YtjdfpoppimcikaaGreatDoorLexP
import Derived.Test.YtjdfpoppimcikaaGreatDoorPsoOf
namespace Go.Proofs.YtjdfpoppimcikaaGreatDoor
open Go.RowKit

/-- a rune's bytes beyond ASCII: at least two, the last one high -/
theorem rune_c (r : Nat) (h : 128 ≤ r) : 128 ≤ (if Utf8.valid (r : Int) = true then (r : Int).toNat else Utf8.runeError) := by
  split
  · omega
  · decide
theorem enc_any (r : Nat) (h : 128 ≤ r) : ∃ R, Utf8.encode (r : Int) = R ∧ (R.size = 2 ∨ R.size = 3 ∨ R.size = 4) ∧ ∀ (h1 : 1 < R.size), R.size = 2 → 128 ≤ R[1].toNat := by
  have hc := rune_c r h
  unfold Utf8.encode
  simp only
  generalize (if Utf8.valid (r : Int) = true then (r : Int).toNat else Utf8.runeError) = c at *
  rw [if_neg (show ¬ c < 0x80 by omega)]
  by_cases h1 : c < 0x800
  · rw [if_pos h1]
    refine ⟨_, rfl, .inl rfl, fun _ _ => ?_⟩
    show 128 ≤ (UInt8.ofNat (0x80 + c % 64)).toNat
    rw [UInt8.toNat_ofNat']
    omega
  · rw [if_neg h1]
    by_cases h2 : c < 0x10000
    · rw [if_pos h2]
      exact ⟨_, rfl, .inr (.inl rfl), fun _ h3 => absurd (show 3 = 2 from h3) (by decide)⟩
    · rw [if_neg h2]
      exact ⟨_, rfl, .inr (.inr rfl), fun _ h3 => absurd (show 4 = 2 from h3) (by decide)⟩
theorem below_iter (w : World) (s : ByteArray) (p : Nat) : Below w.heap.size w (w.iter s p) := (Below.refl _ _).alloc (Nat.le_refl _) _
theorem nil_byte (c : UInt8) : Lib.indexByte [] c = -1 := rfl
set_option maxHeartbeats 3200000 in
set_option maxRecDepth 100000 in
theorem indexRune_two (X : ByteArray) (hX : X.size = 2) (x0 : (X[0]'(by omega)).toNat < 128) (x1 : (X[1]'(by omega)).toNat < 128) (r : Nat) (hr : 128 ≤ r) (hr2 : r ≤ 2147483647) (w : World) :
    Calls Tryz.prog 143 #[.string X, .int .i32 r] w fun e w' => e = .returned (.int .i64 (-1)) ∧ Below w.heap.size w w' := by
  have h0 : (0 : Int) ≤ (r : Int) := by omega
  have h1 : ¬ ((r : Int) < 128) := by omega
  by_cases hrr : r = 65533
  · subst hrr
    have hi0 : 0 < X.size := by omega
    have hi1 : 1 < X.size := by omega
    have hi2 : ¬ 2 < X.size := by omega
    have n0 := fun ty => run_next_ascii (P := Tryz.prog) w X 0 ty hi0 x0
    have n1 := fun ty => run_next_ascii (P := Tryz.prog) w X 1 ty hi1 x1
    have n2 := run_next_end (P := Tryz.prog) w X 2
    generalize X[0].toNat = a at *
    generalize X[1].toNat = b at *
    have e0 : ((a : Int) == 65533) = false := by rw [beq_eq_false_iff_ne]; omega
    have e1 : ((b : Int) == 65533) = false := by rw [beq_eq_false_iff_ne]; omega
    go_enter Tryz.func143, Tryz.ntmps143
    go_wp2_with fail
    go_loopg [5, 6] 2 (fun g _ _ wx => ∃ i : Nat, i + g = 2 ∧ wx = w.iter X i)
    case atStart => exact ⟨0, by omega, rfl⟩
    case round =>
      obtain ⟨i, hig, rfl⟩ := hrel
      match gk, hig with
      | 0, hig =>
        obtain rfl : i = 2 := by omega
        go_wp2
        go_ret
        exact ⟨rfl, below_iter w X 2⟩
      | 1, hig =>
        obtain rfl : i = 1 := by omega
        go_wp2
        go_roundg 0
        case measure => omega
        case rel => exact ⟨2, by omega, rfl⟩
      | 2, hig =>
        obtain rfl : i = 0 := by omega
        go_wp2
        go_roundg 1
        case measure => omega
        case rel => exact ⟨1, by omega, rfl⟩
      | g + 3, hig => omega
  · have h2 : ((r : Int) == 65533) = false := by rw [beq_eq_false_iff_ne]; omega
    have HV := Lib.hid (Tryz.utf8_ValidRune (r : Int) w)
    cases hv : Lib.validRune (r : Int) with
    | false =>
      rw [hv] at HV
      generalize (r : Int) = C at *
      clear x0 x1
      go_enter Tryz.func143, Tryz.ntmps143
      go_wp2_with fail
      refine HV.out.mono ?_
      clear HV
      rintro e w1 ⟨rfl, rfl⟩
      go_wp2_with fail
      go_ret
      exact ⟨rfl, Below.refl _ _⟩
    | true =>
      rw [hv] at HV
      obtain ⟨R, he, hsz, hhi⟩ := enc_any r hr
      have HE := Lib.hid he
      have hbn3 : ∀ (h1 : 1 < R.size), R.size = 2 → (((X[1]'(by omega)).toNat : Int) == (R[1].toNat : Int)) = false := fun h1 h2 => by
        have := hhi h1 h2
        rw [beq_eq_false_iff_ne]; omega
      have HB3 := Lib.hid hbn3
      have hX1 : 1 < X.size := by omega
      have hXi : (1 : Int) < (X.size : Int) := by omega
      have hX2 : 2 ≤ X.size := by omega
      have hXi2 : (2 : Int) ≤ (X.size : Int) := by omega
      have hex : X.extract 2 2 = ⟨#[]⟩ := by
        apply ByteArray.ext
        simp
      have HIb : Hid (∀ W (c : Int), Calls Tryz.prog 48 #[.string ByteArray.empty, .int .u8 c] W fun e w' => e = .returned (.int .i64 (-1)) ∧ W = w') := Lib.hid fun W c => by
        have h := Tryz.strings_IndexByte ByteArray.empty c W
        exact h.mono fun e w' ⟨h1, h2⟩ => ⟨h1, h2.symm⟩
      generalize (r : Int) = C at *
      clear hv hhi hbn3 he
      go_enter Tryz.func143, Tryz.ntmps143
      go_wp2_with fail
      refine HV.out.mono ?_
      clear HV
      rintro e w1 ⟨rfl, rfl⟩
      have he' := HE.out
      rcases hsz with hsz | hsz | hsz
      · have hr1 : 1 < R.size := by omega
        have hri : (1 : Int) < (R.size : Int) := by omega
        have hbn := HB3.out hr1 hsz
        have hbnn : ((X[1].toNat : Int) != (R[1].toNat : Int)) = true := by unfold bne; rw [hbn]; rfl
        go_wp2_with fail
        go_step3
        go_wp2_with fail
        clear HE he'
        go_loopw [9, 10] (fun i f wr => i = .int .i64 1 ∧ f = .int .i64 0 ∧ wr = w1) (fun _ _ _ => 0)
        case atStart => exact ⟨rfl, rfl, rfl⟩
        case round =>
          obtain ⟨rfl, rfl, rfl⟩ := hrel
          go_wp2_with fail
          go_step3
          go_wp2_with fail
          go_quiet (fail)
          go_wp2_with fail
          go_quiet ((go_at_call 48; first | with_reducible exact quiet_left (HIb.out _ _) | with_reducible exact quiet_add_left (HIb.out _ _)))
          go_wp2_with fail
          rw [Exit.noGoto_ret]
          go_wp2
          rw [Exit.noGoto_ret]
          go_wp2
          go_ret
          exact ⟨rfl, below_drewN (Below.refl _ _) _⟩
      · go_wp2_with fail
        go_step3
        go_wp2_with fail
        clear HE he'
        go_loopw [9, 10] (fun i f wr => i = .int .i64 2 ∧ f = .int .i64 0 ∧ wr = w1) (fun _ _ _ => 0)
        case atStart => exact ⟨rfl, rfl, rfl⟩
        case round =>
          obtain ⟨rfl, rfl, rfl⟩ := hrel
          go_wp2_with fail
          rw [Exit.noGoto_ret]
          go_wp2
          go_ret
          exact ⟨rfl, Below.refl _ _⟩
      · go_wp2_with fail
        go_step3
        go_wp2_with fail
        clear HE he'
        go_loopw [9, 10] (fun i f wr => i = .int .i64 3 ∧ f = .int .i64 0 ∧ wr = w1) (fun _ _ _ => 0)
        case atStart => exact ⟨rfl, rfl, rfl⟩
        case round =>
          obtain ⟨rfl, rfl, rfl⟩ := hrel
          go_wp2_with fail
          rw [Exit.noGoto_ret]
          go_wp2
          go_ret
          exact ⟨rfl, Below.refl _ _⟩
/- ## What a text's next rune takes -/
theorem high_of {s : ByteArray} {q : Nat} (h : (s.get! q).toNat / 64 = 2) (hq : q < s.size) : 128 ≤ (s[q]'hq).toNat := by
  have h2 : s.get! q = s[q]'hq := by have := get_at s q hq; rwa [Nat.add_zero] at this
  rw [h2] at h
  omega
theorem decode_next (s : ByteArray) (pos : Nat) (h : pos < s.size) (ha : 128 ≤ (s[pos]'h).toNat) : pos + (Utf8.decode s pos).2 ≤ s.size ∧ ∀ j, pos ≤ j → j < pos + (Utf8.decode s pos).2 → ∀ hj : j < s.size, 128 ≤ (s[j]'hj).toNat := by
  have one : pos + 1 ≤ s.size ∧ ∀ j, pos ≤ j → j < pos + 1 → ∀ hj : j < s.size, 128 ≤ (s[j]'hj).toNat := ⟨h, fun j h1 h2 hj => by
    obtain rfl : j = pos := by omega
    exact ha⟩
  have hn : ¬ (s[pos]'h).toNat < 128 := by omega
  simp only [Utf8.decode, get_at s pos h, hn, if_false]
  split
  · rename_i h1
    simp only [Bool.and_eq_true, decide_eq_true_eq, beq_iff_eq] at h1
    split
    · refine ⟨by show pos + 2 ≤ _; omega, fun j p1 p2 hj => ?_⟩
      have p2 : j < pos + 2 := p2
      rcases (show j = pos ∨ j = pos + 1 by omega) with rfl | rfl
      · exact ha
      · exact high_of h1.2.2 hj
    · exact one
  split
  · rename_i h1
    simp only [Bool.and_eq_true, decide_eq_true_eq, beq_iff_eq] at h1
    split
    · refine ⟨by show pos + 3 ≤ _; omega, fun j p1 p2 hj => ?_⟩
      have p2 : j < pos + 3 := p2
      rcases (show j = pos ∨ j = pos + 1 ∨ j = pos + 2 by omega) with rfl | rfl | rfl
      · exact ha
      · exact high_of h1.1.2.2 hj
      · exact high_of h1.2.2 hj
    · exact one
  split
  · rename_i h1
    simp only [Bool.and_eq_true, decide_eq_true_eq, beq_iff_eq] at h1
    split
    · refine ⟨by show pos + 4 ≤ _; omega, fun j p1 p2 hj => ?_⟩
      have p2 : j < pos + 4 := p2
      rcases (show j = pos ∨ j = pos + 1 ∨ j = pos + 2 ∨ j = pos + 3 by omega) with rfl | rfl | rfl | rfl
      · exact ha
      · exact high_of h1.1.1.2.2 hj
      · exact high_of h1.1.2.2 hj
      · exact high_of h1.2.2 hj
    · exact one
  · exact one
theorem contains_lo {l : List UInt8} (hl : ∀ x ∈ l, x.toNat < 128) {b : UInt8} (hb : 128 ≤ b.toNat) : l.contains b = false := by
  rw [← Bool.not_eq_true, List.contains_iff_mem]
  intro h
  have := hl b h
  omega
theorem noAny_run {s : ByteArray} {l : List UInt8} (hl : ∀ x ∈ l, x.toNat < 128) {i n : Nat} (h : Lib.NoAny s.data.toList l i) (hi : ∀ j, i ≤ j → j < n → ∀ hj : j < s.size, 128 ≤ (s[j]'hj).toNat) : Lib.NoAny s.data.toList l n := fun j b hj hb => by
  by_cases hji : j < i
  · exact h j b hji hb
  · have hjs : j < s.size := by
      rw [Lib.size_eq]; exact (List.getElem?_eq_some_iff.1 hb).1
    rw [Lib.data_getElem? s j hjs] at hb
    injection hb with hb
    subst hb
    exact contains_lo hl (hi j (by omega) hj hjs)
set_option maxHeartbeats 3200000 in
set_option maxRecDepth 100000 in
theorem indexAny_two (s X : ByteArray) (hX : X.size = 2) (hlo : ∀ x ∈ X.data.toList, x.toNat < 128) (hs : s.size < 4294967281) (w : World) :
    Calls Tryz.prog 111 #[.string s, .string X] w fun e w' => e = .returned (.int .i64 (Lib.indexAny s.data.toList X.data.toList)) ∧ Below w.heap.size w w' := by
  by_cases h8 : 8 < s.size
  · refine (Tryz.strings_IndexAny_long (zero_of_info (n := 256) (by kernel_rfl)).1 s X w (by omega) h8 hs (by omega) fun j b hb => hlo b (List.mem_of_getElem? hb)).mono ?_
    rintro e w' ⟨rfl, rfl⟩
    exact ⟨rfl, ((Below.refl _ _).alloc (Nat.le_refl _) _).alloc (by simp) _⟩
  · have hne : (X.toList.isEmpty) = false := by
      rw [Lib.toList_data]
      cases h : X.data.toList with
      | nil => have := Lib.size_eq X; rw [h, List.length_nil] at this; omega
      | cons _ _ => rfl
    have hn1 : ((X.size : Int) == 1) = false := beq_eq_false_iff_ne.2 (by omega)
    have HA := Lib.hid (Tryz.strings_shouldUseASCIISet (s.size : Int) w)
    rw [decide_eq_false (show ¬ ((8 : Int) < (s.size : Int)) by omega)] at HA
    have hx0 : (X[0]'(by omega)).toNat < 128 := hlo _ (List.mem_of_getElem? (Lib.data_getElem? X 0 (by omega)))
    have hx1 : (X[1]'(by omega)).toNat < 128 := hlo _ (List.mem_of_getElem? (Lib.data_getElem? X 1 (by omega)))
    have HRh : Hid (∀ (r : Nat) W, 128 ≤ r → r ≤ 2147483647 → Calls Tryz.prog 143 #[.string X, .int .i32 r] W fun e w' => e = .returned (.int .i64 (-1)) ∧ Below W.heap.size W w') := Lib.hid fun r W h1 h2 => indexRune_two X hX hx0 hx1 r h1 h2 W
    have HRl : Hid (∀ (x : UInt8) W, x.toNat < 128 → Calls Tryz.prog 143 #[.string X, .int .i32 x.toNat] W fun e w' => e = .returned (.int .i64 (Lib.indexByte X.data.toList x)) ∧ w' = W) := Lib.hid fun x W h1 => by
      have h := Tryz.strings_IndexRune_ascii X (x.toNat : Int) W (by omega) (by omega)
      rw [show ((x.toNat : Int)).toNat.toUInt8 = x by simp] at h
      exact h
    have HLo := Lib.hid hlo
    clear hx0 hx1 hlo
    generalize X.data.toList = chars at *
    go_enter Tryz.func111, Tryz.ntmps111
    go_wp2_with fail
    refine HA.out.mono ?_
    clear HA
    rintro e w1 ⟨rfl, rfl⟩
    have hk0 : (w1.iter s 0).heap[w1.heap.size]? = some (.stringIter s 0) := World.iter_heap w1 s 0
    have HK0 := Lib.hid hk0
    have HB0 := Lib.hid (below_iter w1 s 0)
    clear hk0
    go_wp2_with fail
    go_loopg [9, 10] s.size (fun g _ _ wx => ∃ i : Nat, i + g = s.size ∧ wx.heap[w1.heap.size]? = some (.stringIter s i) ∧ Below w1.heap.size w1 wx ∧ Hid (Lib.NoAny s.data.toList chars i))
    case atStart => exact ⟨0, by omega, HK0.out, HB0.out, Lib.hid (Lib.NoAny.zero _ _)⟩
    case round =>
      clear HK0 HB0
      obtain ⟨i, hig, hk, hb, HN⟩ := hrel
      obtain ⟨wx, rfl⟩ : ∃ wx : World, wx = wr := ⟨_, rfl⟩
      have HB := Lib.hid hb
      have HK := Lib.hid hk
      by_cases hi : i < s.size
      · have hnx := fun ty => Lib.run_next_any_at (P := Tryz.prog) wx w1.heap.size s i ty hk hi
        have hlt : w1.heap.size < wx.heap.size := (Array.getElem?_eq_some_iff.1 hk).1
        obtain ⟨x, hx⟩ : ∃ x : UInt8, s[i]'hi = x := ⟨_, rfl⟩
        have Hx : Hid (s.data.toList[i]? = some x) := Lib.hid (by rw [← hx]; exact Lib.data_getElem? s i hi)
        have HD : Hid (x.toNat < 128 ∧ Utf8.decode s i = (x.toNat, 1) ∨ 128 ≤ x.toNat ∧ 128 ≤ (Utf8.decode s i).1 ∧ 1 ≤ (Utf8.decode s i).2 ∧ i + (Utf8.decode s i).2 ≤ s.size ∧ Lib.NoAny s.data.toList chars (i + (Utf8.decode s i).2)) := Lib.hid (by
          subst hx
          by_cases h128 : (s[i]'hi).toNat < 128
          · exact .inl ⟨h128, decode_ascii s i hi h128⟩
          · obtain ⟨d1, d2⟩ := decode_high s i hi (by omega)
            obtain ⟨d3, d4⟩ := decode_next s i hi (by omega)
            exact .inr ⟨by omega, d1, d2, d3, noAny_run HLo.out HN.out d4⟩)
        have hdl := decode_le s i
        have HW : Hid (∀ p, (wx.iterAt w1.heap.size s p).heap[w1.heap.size]? = some (.stringIter s p) ∧ Below w1.heap.size w1 (wx.iterAt w1.heap.size s p) ∧ w1.heap.size < (wx.iterAt w1.heap.size s p).heap.size) := Lib.hid fun p => ⟨Lib.iterAt_heap _ _ _ _ _ hk, Lib.below_iterAt hb (Nat.le_refl _) _ _, by rw [Lib.iterAt_size]; exact hlt⟩
        clear hx hk hb
        generalize Utf8.decode s i = D at *
        obtain ⟨r, n⟩ := D
        dsimp only at hnx HD hdl
        rcases HD.out with ⟨hx128, hD⟩ | ⟨hx128, d1, d2, d3, d4⟩
        · injection hD with e1 e2
          subst e1; subst e2
          have HQ := Lib.hid (HRl.out x (wx.iterAt w1.heap.size s (i + 1)) hx128)
          have hcon := Lib.contains_iff_indexByte chars x
          cases hin : chars.contains x with
          | false =>
            have HN2 := Lib.hid (HN.out.succ Hx.out hin)
            rw [hin] at hcon
            have hlt0 : ¬ ((0 : Int) ≤ Lib.indexByte chars x) := of_decide_eq_false hcon.symm
            generalize Lib.indexByte chars x = o at *
            clear hcon HD HRl HRh HN Hx hin HLo
            go_wp2_with fail
            refine HQ.out.mono ?_
            clear HQ
            rintro e w2 ⟨rfl, rfl⟩
            obtain ⟨q1, q2, _⟩ := HW.out (i + 1)
            have Q1 := Lib.hid q1
            have Q2 := Lib.hid q2
            clear q1 q2 HW
            go_wp2_with fail
            go_roundg (s.size - (i + 1))
            case measure => omega
            case rel => exact ⟨i + 1, by omega, Q1.out, Q2.out, HN2⟩
          | true =>
            have HH := Lib.hid (Lib.indexAny_hit HN.out Hx.out hin)
            rw [hin] at hcon
            have hge : (0 : Int) ≤ Lib.indexByte chars x := of_decide_eq_true hcon.symm
            generalize Lib.indexByte chars x = o at *
            clear hcon HD HRl HRh HN Hx hin HLo
            go_wp2_with fail
            refine HQ.out.mono ?_
            clear HQ
            rintro e w2 ⟨rfl, rfl⟩
            obtain ⟨_, q2, _⟩ := HW.out (i + 1)
            have Q2 := Lib.hid q2
            clear q2 HW
            go_wp2_with fail
            go_ret
            exact ⟨by rw [HH.out]; rfl, Q2.out⟩
        · have HQ := Lib.hid (HRh.out r (wx.iterAt w1.heap.size s (i + n)) d1 hdl)
          have HN2 := Lib.hid d4
          clear HD HRl HRh HN Hx HLo d4
          go_wp2_with fail
          refine HQ.out.mono ?_
          clear HQ
          rintro e w2 ⟨rfl, hb2⟩
          obtain ⟨q1, q2, q3⟩ := HW.out (i + n)
          have Q1 := Lib.hid ((hb2.block _ q3).trans q1)
          have Q2 := Lib.hid (q2.trans (hb2.mono (Nat.le_of_lt q3)))
          clear q1 q2 q3 HW hb2
          go_wp2_with fail
          go_roundg (s.size - (i + n))
          case measure => omega
          case rel => exact ⟨i + n, by omega, Q1.out, Q2.out, HN2⟩
      · obtain rfl : i = s.size := by omega
        have hnx := fun ty => Lib.run_next_end_at (P := Tryz.prog) wx w1.heap.size s s.size ty hk (by omega)
        have HH : Hid (Lib.indexAny s.data.toList chars = -1) := Lib.hid (Lib.indexAny_none (by rw [← Lib.size_eq]; exact HN.out))
        clear HRl HRh HN HLo hk hb HK
        go_wp2_with fail
        go_ret
        exact ⟨by rw [HH.out]; rfl, HB.out⟩
end Go.Proofs.YtjdfpoppimcikaaGreatDoor
/- lex.signs, lex.quoted, lex.Bare: the walks. -/

namespace Go.Proofs.YtjdfpoppimcikaaGreatDoor
open Go.RowKit

theorem bts_rest (s : ByteArray) (j : Nat) : bts (s.extract j s.size) = (bts s).drop j := by
  rw [bts_extract, ← bts_len, List.take_length]
theorem two_head (r : List UInt8) : Lib.hasPrefix (39 :: r) [39, 39] = decide (r.head? = some 39) := by
  cases r with
  | nil => rfl
  | cons d r =>
    show ((39 : UInt8) == 39 && ((39 : UInt8) == d && true)) = decide (some d = some 39)
    rw [Bool.and_true, show ((39 : UInt8) == 39) = true from rfl, Bool.true_and]
    by_cases h : d = 39
    · subst h; rfl
    · rw [decide_eq_false (fun e => h (Option.some.inj e))]
      exact beq_eq_false_iff_ne.2 (fun e => h e.symm)
theorem two_no {c : UInt8} (h : c ≠ 39) (r : List UInt8) : Lib.hasPrefix (c :: r) [39, 39] = false := by
  show ((39 : UInt8) == c && _) = false
  rw [beq_eq_false_iff_ne.2 (fun e => h e.symm)]; rfl
theorem hasPre_any (s : ByteArray) (j : Nat) (w : World) : Calls Tryz.prog 67 #[.string (s.extract j s.size), .string ⟨#[39, 39]⟩] w fun e w' => e = .returned (.bool (Lib.hasPrefix ((bts s).drop j) [39, 39])) ∧ w' = w := by
  have h := Tryz.strings_HasPrefix (s.extract j s.size) ⟨#[39, 39]⟩ w
  rw [show (s.extract j s.size).data.toList = (bts s).drop j from bts_rest s j] at h
  exact h
theorem u8_39 (c : UInt8) : ((c.toNat : Int) == 39) = decide (c = 39) := by
  by_cases h : c = 39
  · subst h; rfl
  · rw [decide_eq_false h, beq_eq_false_iff_ne]
    intro e
    exact h (UInt8.toNat_inj.1 (by have : (39 : UInt8).toNat = 39 := rfl; omega))
def quoT (o : LexR) (n : Nat) : Value := match o with | none => .tuple #[.string ⟨#[]⟩, .int .i64 0, .bool false] | some p => .tuple #[.string (str p.1), .int .i64 ((n - p.2.length : Nat) : Int), .bool true]
set_option maxHeartbeats 3200000 in
set_option maxRecDepth 100000 in
theorem quoted_any (s : ByteArray) (i : Nat) (w : World) (hi : i ≤ s.size) (hs : s.size ≤ 1000000000) :
    Calls Tryz.prog 69 #[.string s, .int .i64 (i : Int)] w fun e w' => e = .returned (quoT (quotedL ((bts s).drop i)) s.size) ∧ Below w.heap.size w w' := by
  have HN := Lib.hid (bld_new w)
  have HB0 := Lib.hid ((Below.refl w.heap.size w).alloc (Nat.le_refl _) (.cells #[.pointer none, .slice none 0 0] 60))
  obtain ⟨Q, hQ⟩ : ∃ Q, Q = quotedL ((bts s).drop i) := ⟨_, rfl⟩
  rw [← hQ]
  have HQ := Lib.hid hQ
  clear hQ
  go_enter Tryz.func69, Tryz.ntmps69
  go_wp2_with fail
  go_loopw [1] (fun k wr => ∃ (j : Nat) (l : List UInt8), j ≤ s.size ∧ k = .int .i64 (j : Int) ∧ l.length ≤ j ∧ Hid (Q = (quotedL ((bts s).drop j)).map (appL l)) ∧ Bld w.heap.size w.heap.size l wr ∧ Below w.heap.size w wr) (fun k _ => s.size - (intOf k).toNat)
  case atStart => exact ⟨i, [], hi, rfl, Nat.zero_le _, Lib.hid (by rw [appL_nil, HQ.out]), HN.out, HB0.out⟩
  case round =>
    clear HN HB0 HQ
    obtain ⟨j, l, hj, rfl, hl, HI, hB, hbr⟩ := hrel
    have HB := Lib.hid hB
    have HBr := Lib.hid hbr
    have hbs := hbr.size
    clear hB hbr
    by_cases hlt : j < s.size
    · have i1 : (0 : Int) ≤ (j : Int) := Int.natCast_nonneg j
      have i2 : (j : Int) < (s.size : Int) := by omega
      have i3 : (j : Int) ≤ (s.size : Int) := by omega
      have hda := drop_at s j hlt
      have h39 := u8_39 s[j]
      have HWr : Hid (∀ (x : UInt8), Calls Tryz.prog 68 #[.pointer (some ⟨w.heap.size, 0, none⟩), .int .u8 x.toNat] wr fun e w' => e = .returned .nilIface ∧ Bld w.heap.size w.heap.size (l ++ [x]) w' ∧ Below w.heap.size wr w') := Lib.hid fun x => wbyte_any _ _ l x wr HB.out (by omega) hbs
      by_cases hc : s[j] = 39
      · rw [decide_eq_true hc] at h39
        rw [hc] at hda
        have HP := Lib.hid (hasPre_any s j wr)
        rw [hda, two_head] at HP
        by_cases hh : ((bts s).drop (j + 1)).head? = some 39
        · rw [decide_eq_true hh] at HP
          have hlt2 : j + 1 < s.size := by
            refine Decidable.byContradiction fun h => ?_
            rw [List.drop_of_length_le (by rw [bts_len]; omega)] at hh
            cases hh
          have hda2 := drop_at s (j + 1) hlt2
          have hc2 : s[j + 1] = 39 := by rw [hda2] at hh; exact Option.some.inj hh
          have HI2 : Hid (Q = (quotedL ((bts s).drop (j + 1 + 1))).map (appL (l ++ [s[j + 1]]))) := Lib.hid (by rw [HI.out, hda, hda2, hc2, quotedL_two, appL_two])
          have HC := Lib.hid (HWr.out s[j + 1])
          have g0 : (j : Int) + 1 < (s.size : Int) := by omega
          have g00 : (0 : Int) ≤ (j : Int) + 1 := by omega
          clear HWr HI hda hda2 hc hc2 hh
          go_wp2_with fail
          refine HP.out.mono ?_
          clear HP
          rintro e w1 ⟨rfl, rfl⟩
          go_wp2_with fail
          refine HC.out.mono ?_
          clear HC
          rintro e w2 ⟨rfl, hB2, hb2⟩
          have HB2 := Lib.hid hB2
          have HBe := Lib.hid (HBr.out.trans hb2)
          clear hB2 hb2
          go_wp2_with fail
          exact ⟨⟨j + 1 + 1, _, by omega, by go_num, by simp; omega, HI2, HB2.out, HBe.out⟩, by simp [intOf]; omega⟩
        · rw [decide_eq_false hh] at HP
          have HE : Hid (Q = some (l, (bts s).drop (j + 1))) := Lib.hid (by rw [HI.out, hda, quotedL_end hh]; show some _ = some _; simp [appL])
          have HT := Lib.hid (bld_text HB.out hbs)
          clear HWr HI hda hc hh
          go_wp2_with fail
          refine HP.out.mono ?_
          clear HP
          rintro e w1 ⟨rfl, rfl⟩
          go_wp2_with fail
          refine HT.out.mono ?_
          clear HT
          rintro e w2 ⟨rfl, hb2⟩
          have HBe := Lib.hid (HBr.out.trans hb2)
          clear hb2
          go_wp2_with fail
          refine bodyPost_ret (v := .tuple #[.string (str l), .int .i64 ((j + 1 : Nat) : Int), .bool true]) ?_ rfl ?_
          · simp [results, Tryz.results69, go_sem]
          · refine ⟨?_, HBe.out⟩
            rw [HE.out]
            show _ = Ending.returned (.tuple #[.string (str l), .int .i64 ((s.size - ((bts s).drop (j + 1)).length : Nat) : Int), .bool true])
            rw [List.length_drop, bts_len, show s.size - (s.size - (j + 1)) = j + 1 from by omega]
      · rw [decide_eq_false hc] at h39
        have HI2 : Hid (Q = (quotedL ((bts s).drop (j + 1))).map (appL (l ++ [s[j]]))) := Lib.hid (by rw [HI.out, hda, quotedL_plain hc, appL_two])
        have HC := Lib.hid (HWr.out s[j])
        clear HWr HI hda hc
        go_wp2_with fail
        refine HC.out.mono ?_
        clear HC
        rintro e w2 ⟨rfl, hB2, hb2⟩
        have HB2 := Lib.hid hB2
        have HBe := Lib.hid (HBr.out.trans hb2)
        clear hB2 hb2
        go_wp2_with fail
        exact ⟨⟨j + 1, _, by omega, by go_num, by simp; omega, HI2, HB2.out, HBe.out⟩, by simp [intOf]; omega⟩
    · obtain rfl : j = s.size := by omega
      have HE : Hid (Q = none) := Lib.hid (by rw [HI.out, List.drop_of_length_le (by rw [bts_len]; exact Nat.le_refl _)]; rfl)
      clear HI
      go_wp2_with fail
      refine bodyPost_ret (v := .tuple #[.string ⟨#[]⟩, .int .i64 0, .bool false]) ?_ rfl ?_
      · simp [results, Tryz.results69, go_sem]
      · exact ⟨by rw [HE.out]; rfl, HBr.out⟩
set_option maxHeartbeats 1600000 in
theorem signs_any (mark : Bool) (w : World) : Calls Tryz.prog 66 #[.bool mark] w fun e w' => e = .returned (.string (sgB mark)) ∧ w' = w := by
  cases mark <;>
    (go_enter Tryz.func66, Tryz.ntmps66
     go_wp2_with fail
     go_ret
     exact ⟨rfl, rfl⟩)
theorem Bld.below {B k : Nat} {l : List UInt8} {w w' : World} (h : Bld B k l w) (hb : Below w.heap.size w w') : Bld B k l w' := by
  rcases h with ⟨hB, v, hk, ho, hn⟩ | ⟨hB, v, hk, ho, hn⟩
  · exact Or.inl ⟨hB, v, (hb.block k (Array.getElem?_eq_some_iff.1 hk).1).trans hk, own_below ho hb (Nat.le_refl _), hn⟩
  · exact Or.inr ⟨hB, v, (hb.block k (Array.getElem?_eq_some_iff.1 hk).1).trans hk, own_below ho hb (Nat.le_refl _), hn⟩
/-- what lies in Bare's blocks -/
structure BaSt (w : World) (s : ByteArray) (mark : Bool) (l : List UInt8) (W : World) : Prop where
  below : Below w.heap.size w W
  txt : Blk W w.heap.size 9 #[.string s]
  mrk : Blk W (w.heap.size + 1) 4 #[.bool mark]
  bld : Bld (w.heap.size + 2) (w.heap.size + 2) l W
  size : w.heap.size + 2 ≤ W.heap.size
theorem BaSt.made (w : World) (s : ByteArray) (mark : Bool) : BaSt w s mark [] (((w.alloc (.cells #[.string s] 9)).alloc (.cells #[.bool mark] 4)).alloc (.cells #[.pointer none, .slice none 0 0] 60)) := by
  have h1 := Blk.new (w.alloc (.cells #[.string s] 9)) 4 #[.bool mark]
  have h2 := bld_new ((w.alloc (.cells #[.string s] 9)).alloc (.cells #[.bool mark] 4))
  rw [World.size_alloc] at h1
  rw [World.size_alloc, World.size_alloc] at h2
  exact ⟨(((Below.refl _ _).alloc (Nat.le_refl _) _).alloc (by simp) _).alloc (by simp; omega) _, ((Blk.new w 9 #[.string s]).alloc _).alloc _, h1.alloc _, h2, by simp⟩
theorem BaSt.on {w W W' : World} {s : ByteArray} {mark : Bool} {l l' : List UInt8} (h : BaSt w s mark l W) (hb : Below (w.heap.size + 2) W W') (hB : Bld (w.heap.size + 2) (w.heap.size + 2) l' W') : BaSt w s mark l' W' :=
  ⟨h.below.trans (hb.mono (by omega)), h.txt.below hb (by omega), h.mrk.below hb (by omega), hB, Nat.le_trans h.size hb.size⟩
theorem BaSt.drewN {w W : World} {s : ByteArray} {mark : Bool} {l : List UInt8} (h : BaSt w s mark l W) (n : Nat) : BaSt w s mark l (W.drewN n) :=
  ⟨below_drewN h.below n, h.txt.drewN n, h.mrk.drewN n, by
    rcases h.bld with h1 | h1
    · exact Or.inl h1
    · exact Or.inr h1, h.size⟩
def sgnAt (mark : Bool) (s : ByteArray) (j : Nat) : Bool := sigH mark ((bts s).drop j)
set_option maxHeartbeats 1600000 in
set_option maxRecDepth 100000 in
theorem sign_any (w W : World) (s : ByteArray) (mark : Bool) (j : Nat) (hs : s.size ≤ 1000000000) (ht : Blk W w.heap.size 9 #[.string s]) (hm : Blk W (w.heap.size + 1) 4 #[.bool mark]) :
    Calls Tryz.prog 65 #[.int .i64 (j : Int), .pointer (some ⟨w.heap.size, 0, none⟩), .pointer (some ⟨w.heap.size + 1, 0, none⟩)] W fun e w' => e = .returned (.bool (sgnAt mark s j)) ∧ ∃ n, w' = W.drewN n := by
  have t0 := (ht.cell 0).trans (show _ = some (.string s) from rfl)
  have m0 := (hm.cell 0).trans (show _ = some (.bool mark) from rfl)
  have i1 : (0 : Int) ≤ (j : Int) := Int.natCast_nonneg j
  by_cases hlt : j < s.size
  · have i2 : (j : Int) < (s.size : Int) := by omega
    have hd : decide ((j : Int) < (s.size : Int)) = true := decide_eq_true i2
    have HSg : Hid (∀ W, Calls Tryz.prog 66 #[.bool mark] W fun e w' => e = .returned (.string (sgB mark)) ∧ W = w') := Lib.hid fun W => (signs_any mark W).mono fun e w' h => ⟨h.1, h.2.symm⟩
    have HIx : Hid (∀ W, Calls Tryz.prog 48 #[.string (sgB mark), .int .u8 s[j].toNat] W fun e w' => e = .returned (.int .i64 (Lib.indexByte (bts (sgB mark)) s[j])) ∧ W = w') := Lib.hid fun W => by
      have h := Tryz.strings_IndexByte (sgB mark) (s[j].toNat : Int) W
      rw [head_byte] at h
      exact h.mono fun e w' h => ⟨h.1, h.2.symm⟩
    have HE : Hid (sgnAt mark s j = decide (0 ≤ Lib.indexByte (bts (sgB mark)) s[j])) := Lib.hid (by
      unfold sgnAt sigH
      rw [drop_at s j hlt, idxByte]; rfl)
    generalize sgnAt mark s j = R at *
    generalize Lib.indexByte (bts (sgB mark)) s[j] = X at *
    generalize sgB mark = G at *
    clear ht hm
    go_enter Tryz.func65, Tryz.ntmps65
    go_wp2_with fail
    go_quiet (first | (go_at_call 66; first | with_reducible exact Calls.quiet_of_same (HSg.out _) | with_reducible exact quiet_left (HSg.out _) | with_reducible exact quiet_add_left (HSg.out _)) | (go_at_call 48; first | with_reducible exact quiet_left (HIx.out _) | with_reducible exact quiet_add_left (HIx.out _)))
    go_wp2_with fail
    go_ret
    exact ⟨by rw [HE.out]; rfl, _, rfl⟩
  · have hd : decide ((j : Int) < (s.size : Int)) = false := decide_eq_false (by omega)
    have HE : Hid (sgnAt mark s j = false) := Lib.hid (by
      unfold sgnAt sigH
      rw [List.drop_of_length_le (by rw [bts_len]; omega)]; rfl)
    generalize sgnAt mark s j = R at *
    clear ht hm
    go_enter Tryz.func65, Tryz.ntmps65
    go_wp2_with fail
    go_quiet (fail)
    go_wp2_with fail
    go_ret
    exact ⟨by rw [HE.out]; rfl, _, rfl⟩
end Go.Proofs.YtjdfpoppimcikaaGreatDoor
