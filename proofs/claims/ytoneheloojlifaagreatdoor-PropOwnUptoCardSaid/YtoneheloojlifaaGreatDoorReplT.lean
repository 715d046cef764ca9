/- What (*strings.byteStringReplacer).Replace tells by the table. -/
import Derived.Test.YtoneheloojlifaaGreatDoorReplO
import Derived.Test.YtoneheloojlifaaGreatDoorShelfN
import Derived.Laws.CopyOwn
namespace Go.Proofs.YtoneheloojlifaaGreatDoor
open Go.RowKit

theorem two1_iff (c : UInt8) : two1 c = true ↔ c ∈ [(13 : UInt8), 10, 92] := by
  unfold two1
  simp only [Bool.or_eq_true, decide_eq_true_eq, List.mem_cons, List.not_mem_nil, or_false]
  constructor
  · rintro (h | h | h) <;> simp [h]
  · rintro (h | h | h) <;> simp [h]
/-- what is read of a made table -/
theorem Bsr.read {B q : Nat} {w : World} (h : Bsr B q [13, 10, 92] w) (c : UInt8) :
    (two1 c = false ∧ w.cell? ⟨q, c.toNat, none⟩ = some (.slice none 0 0)) ∨ (two1 c = true ∧ ∃ g cap, w.cell? ⟨q, c.toNat, none⟩ = some (.slice (some ⟨g, 0, none⟩) 2 cap) ∧ g < w.heap.size ∧ w.cell? ⟨g, 0, none⟩ = some (.int .u8 92) ∧ w.cell? ⟨g, 1, none⟩ = some (.int .u8 (two2 c).toNat)) := by
  obtain ⟨hlo, cs, tv, h1, h2, h3, h4, h5, h6⟩ := h
  cases ht : two1 c with
  | false => exact .inl ⟨rfl, (h1.cell _).trans (h5 c fun hc => by rw [← two1_iff, ht] at hc; cases hc)⟩
  | true =>
    obtain ⟨g, cap, a1, _, a4, _, _, a7, a8⟩ := h6 c ((two1_iff c).1 ht)
    exact .inr ⟨rfl, g, cap, (h1.cell _).trans a1, a4, a7, a8⟩
theorem Bsr.list {B q : Nat} {w : World} (h : Bsr B q [13, 10, 92] w) : ∃ t cap, w.cell? ⟨q, 256, none⟩ = some (.slice (some ⟨t, 0, none⟩) 3 cap) ∧ t < w.heap.size ∧ ∀ k (S : ByteArray), ([⟨#[13]⟩, ⟨#[10]⟩, ⟨#[92]⟩] : List ByteArray)[k]? = some S → w.cell? ⟨t, k, none⟩ = some (.string S) := by
  obtain ⟨hlo, cs, tv, h1, h2, h3, h4, h5, h6⟩ := h
  obtain ⟨t, cap, rfl, _, htl, _, _⟩ := ownAt1 h4 0 _ rfl
  refine ⟨t, cap, (h1.cell _).trans h3, htl, fun k S hk => ?_⟩
  have hk' : ([13, 10, 92].map fun c : UInt8 => Value.string (str [c]))[k]? = some (.string S) := by
    have : ([13, 10, 92].map fun c : UInt8 => Value.string (str [c])) = ([⟨#[13]⟩, ⟨#[10]⟩, ⟨#[92]⟩] : List ByteArray).map Value.string := rfl
    rw [this, List.getElem?_map, hk]; rfl
  obtain ⟨t', cap', hA, _, _, x, _⟩ := ownAt1 h4 k _ hk'
  injection hA with hA; injection hA with hA; injection hA with hA
  subst hA; exact x
/-- how many more bytes there are by the first k of the signs -/
def cntK (s : ByteArray) (k : Nat) : Nat := (([13, 10, 92].take k).map fun c : UInt8 => (bts s).count c).sum
theorem cntK_3 (s : ByteArray) : s.size + cntK s 3 = (escL (bts s)).length := by
  rw [escL_count, bts_len]; simp [cntK]; omega
theorem cntK_at (s : ByteArray) (k : Nat) (hk : k < 3) : ∃ (S : ByteArray) (c : UInt8) (_ : 0 < S.size), ([⟨#[13]⟩, ⟨#[10]⟩, ⟨#[92]⟩] : List ByteArray)[k]? = some S ∧ S.size = 1 ∧ S[0] = c ∧ S = ⟨#[c]⟩ ∧ two1 c = true ∧ cntK s (k + 1) = cntK s k + (bts s).count c := by
  rcases (by omega : k = 0 ∨ k = 1 ∨ k = 2) with rfl | rfl | rfl
  · exact ⟨⟨#[13]⟩, 13, by decide, rfl, rfl, rfl, rfl, rfl, by simp [cntK]⟩
  · exact ⟨⟨#[10]⟩, 10, by decide, rfl, rfl, rfl, rfl, rfl, by simp [cntK]⟩
  · exact ⟨⟨#[92]⟩, 92, by decide, rfl, rfl, rfl, rfl, rfl, by simp [cntK]; omega⟩
theorem count_le (s : ByteArray) (c : UInt8) : (bts s).count c ≤ s.size := by rw [← bts_len]; exact List.count_le_length
/-- the row of bytes that is filled: A, then nought -/
def fillR (A : List UInt8) (N : Nat) : List Value := (A ++ List.replicate (N - A.length) 0).map fun b : UInt8 => .int .u8 b.toNat
theorem fillR_len (A : List UInt8) (N : Nat) (h : A.length ≤ N) : (fillR A N).length = N := by unfold fillR; rw [List.length_map, List.length_append, List.length_replicate]; omega
theorem fillR_one (A : List UInt8) (N : Nat) (c : UInt8) (h : A.length < N) : (fillR A N).toArray.setIfInBounds A.length (.int .u8 c.toNat) = (fillR (A ++ [c]) N).toArray := by
  unfold fillR
  rw [show N - A.length = (N - (A ++ [c]).length) + 1 by rw [List.length_append, List.length_singleton]; omega, List.replicate_succ]
  simp
theorem fillR_two (A : List UInt8) (N : Nat) (c d : UInt8) (h : A.length + 2 ≤ N) : splice (fillR A N) A.length [.int .u8 c.toNat, .int .u8 d.toNat] = fillR (A ++ [c, d]) N := by
  unfold fillR splice
  rw [show N - A.length = (N - (A ++ [c, d]).length) + 1 + 1 by rw [List.length_append]; simp; omega, List.replicate_succ, List.replicate_succ]
  simp [List.drop_append]
theorem fillR_at (A : List UInt8) (N : Nat) (h : A.length < N) : (fillR A N).toArray[A.length]? = some (.int .u8 0) := by
  unfold fillR
  rw [show N - A.length = (N - A.length - 1) + 1 by omega, List.replicate_succ]
  simp
theorem two_src (g : Nat) (c : UInt8) (w : World) (g0 : w.cell? ⟨g, 0, none⟩ = some (.int .u8 92)) (g1 : w.cell? ⟨g, 1, none⟩ = some (.int .u8 c.toNat)) :
    ∀ j v, ([.int .u8 (92 : UInt8).toNat, .int .u8 c.toNat] : List Value)[j]? = some v → w.cell? ((⟨g, 0, none⟩ : Addr).add j) = some v := by
  intro j v hj
  have e : ((⟨g, 0, none⟩ : Addr).add j) = ⟨g, 0 + j, none⟩ := by unfold Addr.add; split <;> simp_all
  rw [e]
  rcases (by have := (List.getElem?_eq_some_iff.1 hj).1; simp at this; omega : j = 0 ∨ j = 1) with rfl | rfl
  · simp at hj; rw [← hj]; exact g0
  · simp at hj; rw [← hj]; exact g1
theorem fillR_zero (N : Nat) : madeCells #[.int .u8 0] N = (fillR [] N).toArray := by
  apply Array.ext
  · rw [size_madeCells, List.size_toArray, fillR_len _ _ (Nat.zero_le _)]
  · intro i h1 h2
    simp [madeCells, fillR, Nat.mod_one]
theorem info_byteR : (Tryz.prog.info? 5).map (fun i => (i.zero, i.size, i.bytes)) = some (some (.int .u8 0), 1, 1) := by kernel_rfl
theorem make_bytesR (N : Nat) (hN : N ≤ 1000000000) (W : World) : (Instr.makeSlice 46 (.int .i64 (N : Int)) (.int .i64 (N : Int))).run Tryz.prog W = .ok (.slice (some ⟨W.heap.size, 0, none⟩) N N) (W.alloc (.cells (fillR [] N).toArray 5)) := by
  obtain ⟨i0, hi, hz0, hz1, hz2⟩ := info_parts info_byteR
  have h := run_make_rowR (P := Tryz.prog) 46 5 i0 _ Tryz.underlying46 hi hz0 .i64 .i64 N N (Nat.le_refl _) (by rw [hz2]; omega) (by omega) W
  rw [hz1, Nat.mul_one] at h
  rw [← fillR_zero]
  exact h
set_option maxRecDepth 100000 in
set_option maxHeartbeats 6400000 in
theorem bsrReplace_any (B q : Nat) (s : ByteArray) (w : World) (h : Bsr B q [13, 10, 92] w) (hs : s.size ≤ 100000) :
    Calls Tryz.prog 216 #[.pointer (some ⟨q, 0, none⟩), .string s] w fun e w' => e = .returned (.string (str (escL (bts s)))) ∧ Below w.heap.size w w' := by
  obtain ⟨t, cp, hl1, htl, hcl⟩ := h.list
  have HR := Lib.hid h
  have HCl : Hid (∀ W, Below w.heap.size w W → ∀ k (S : ByteArray), ([⟨#[13]⟩, ⟨#[10]⟩, ⟨#[92]⟩] : List ByteArray)[k]? = some S → W.cell? ⟨t, k, none⟩ = some (.string S)) := Lib.hid fun W hW k S hk => (hW.cell (p := ⟨t, k, none⟩) htl).trans (hcl k S hk)
  obtain ⟨N, hN⟩ : ∃ N, N = (escL (bts s)).length := ⟨_, rfl⟩
  have hNle : N ≤ 200000 := by rw [hN]; have := escL_len (bts s); rw [bts_len] at this; omega
  have hNge : s.size ≤ N := by rw [hN]; have := escL_long (bts s); rwa [bts_len] at this
  have HN := Lib.hid hN
  clear h hcl hN
  have hmk := make_bytesR N (by omega)
  go_enter Tryz.func216, Tryz.ntmps216
  go_upto_if 26 with fail
  go_cut [5, 6, 8, 9, 10, 11] (fun n any _ _ _ _ wx => n = .int .i64 N ∧ any = .bool (decide (s.size < N)) ∧ Below w.heap.size w wx)
  case first =>
    by_cases h24 : 24 ≤ s.size
    · have hd : decide ((24 : Int) ≤ (s.size : Int)) = true := decide_eq_true (by omega)
      go_wp2_with fail
      simp only [hd]
      go_loopw [5, 6, 8, 9, 32] (fun n any _ _ i wr => ∃ k : Nat, k ≤ 3 ∧ i = .int .i64 (k : Int) ∧ n = .int .i64 ((s.size + cntK s k : Nat) : Int) ∧ any = .bool (decide (0 < cntK s k)) ∧ Below w.heap.size w wr) (fun _ _ _ _ i _ => 3 - (intOf i).toNat)
      case atStart => exact ⟨0, by omega, rfl, rfl, rfl, Below.refl _ _⟩
      case round =>
        obtain ⟨k, hk, rfl, rfl, rfl, hbr⟩ := hrel
        have HBr := Lib.hid hbr
        by_cases hk3 : k < 3
        · obtain ⟨S, c, hS0, hSk, hS1, hSc, hSe, hct, hcn⟩ := cntK_at s k hk3
          have hx := HCl.out wr hbr k S hSk
          have hcl := count_le s c
          have hkk : cntK s k ≤ 3 * s.size := by
            have h1 := count_le s 13; have h2 := count_le s 10; have h3 := count_le s 92
            rcases (by omega : k = 0 ∨ k = 1 ∨ k = 2) with rfl | rfl | rfl <;> simp [cntK] <;> omega
          have HCnt : Hid (Calls Tryz.prog 76 #[.string s, .string S] wr fun e w' => e = .returned (.int .i64 ((bts s).count c : Nat)) ∧ w' = wr) := Lib.hid (by rw [hSe]; exact Tryz.strings_Count_one s c wr)
          obtain ⟨g, cap, r1, hgl, g0, g1⟩ : ∃ g cap, wr.cell? ⟨q, c.toNat, none⟩ = some (.slice (some ⟨g, 0, none⟩) 2 cap) ∧ g < wr.heap.size ∧ wr.cell? ⟨g, 0, none⟩ = some (.int .u8 92) ∧ wr.cell? ⟨g, 1, none⟩ = some (.int .u8 (two2 c).toNat) := by
            rcases (HR.out.keep hbr).read c with ⟨h, _⟩ | ⟨_, h⟩
            · rw [hct] at h; cases h
            · exact h
          have HCn := Lib.hid hcn
          have hb0 : c.toNat < 256 := c.toNat_lt
          have hb1 : (c.toNat : Int) < 256 := by omega
          clear hSe hct hSk hcn hbr
          generalize (bts s).count c = d at *
          generalize cntK s k = e at *
          go_wp2_with fail
          refine HCnt.out.mono ?_
          clear HCnt
          rintro e w1 ⟨rfl, rfl⟩
          by_cases hd0 : d = 0
          · subst hd0
            go_wp2_with fail
            go_roundw
            case rel =>
              refine ⟨k + 1, by omega, by go_num, ?_, ?_, HBr.out⟩
              · rw [HCn.out]; go_num
              · rw [HCn.out]; simp
            case measure => simp [intOf]; omega
          · have hdz : ((d : Int) == 0) = false := by rw [beq_eq_false_iff_ne]; omega
            go_wp2_with fail
            go_region
            go_wp2_with fail
            go_roundw
            case rel =>
              refine ⟨k + 1, by omega, by go_num, ?_, ?_, below_drewN HBr.out _⟩
              · rw [HCn.out]; go_num
              · rw [HCn.out]; simp; omega
            case measure => simp [intOf]; omega
        · obtain rfl : k = 3 := by omega
          have h3 := cntK_3 s
          rw [← HN.out] at h3
          generalize cntK s 3 = e at *
          go_wp2_with fail
          go_meet
          case rel => exact ⟨by rw [← h3]; first | done | go_num, by rw [← h3]; simp, HBr.out⟩
    · have hd : decide ((24 : Int) ≤ (s.size : Int)) = false := decide_eq_false (by omega)
      go_wp2_with fail
      go_loopw [5, 6, 10, 11] (fun n any i _ wr => ∃ j : Nat, j ≤ s.size ∧ i = .int .i64 (j : Int) ∧ n = .int .i64 ((s.size + ((escT s j).length - j) : Nat) : Int) ∧ any = .bool (decide (j < (escT s j).length)) ∧ Below w.heap.size w wr) (fun _ _ i _ _ => s.size - (intOf i).toNat)
      case atStart => exact ⟨0, Nat.zero_le _, rfl, rfl, rfl, Below.refl _ _⟩
      case round =>
        obtain ⟨j, hj, rfl, rfl, rfl, hbr⟩ := hrel
        have HBr := Lib.hid hbr
        have hle := escT_le s j hj
        have hlen := escT_len s j
        by_cases hlt : j < s.size
        · have hsc := escT_succ s j hlt
          have hb0 : s[j].toNat < 256 := s[j].toNat_lt
          have hb1 : (s[j].toNat : Int) < 256 := by omega
          rcases (HR.out.keep hbr).read s[j] with ⟨ht, r1⟩ | ⟨ht, g, cap, r1, hgl, _, _⟩
          · have he : Hid ((escT s (j + 1)).length = (escT s j).length + 1) := Lib.hid (by rw [hsc, esc1_one ht]; simp)
            clear hsc ht hbr
            generalize (escT s j).length = e at *
            go_wp2_with fail
            go_roundw
            case rel =>
              refine ⟨j + 1, by omega, by go_num, ?_, ?_, HBr.out⟩
              · rw [he.out]; go_num
              · rw [he.out]; simp
            case measure => simp [intOf]; omega
          · have he : Hid ((escT s (j + 1)).length = (escT s j).length + 2) := Lib.hid (by rw [hsc, esc1_two ht]; simp)
            clear hsc ht hbr
            generalize (escT s j).length = e at *
            go_wp2_with fail
            go_roundw
            case rel =>
              refine ⟨j + 1, by omega, by go_num, ?_, ?_, HBr.out⟩
              · rw [he.out]; go_num
              · rw [he.out]; simp; omega
            case measure => simp [intOf]; omega
        · obtain rfl : j = s.size := by omega
          have h3 : (escT s s.size).length = N := by rw [escT_all, HN.out]
          rw [h3] at hle hlen
          rw [h3]
          go_wp2_with fail
          go_meet
          case rel => exact ⟨by go_num, by simp, HBr.out⟩
  case rest =>
    obtain ⟨rfl, rfl, hbc⟩ := hcut
    have HBc := Lib.hid hbc
    have hsc := hbc.size
    clear hl1
    by_cases hlt : s.size < N
    · have hd : decide (s.size < N) = true := decide_eq_true hlt
      rw [hd]
      have hbA : Below w.heap.size w (wc.alloc (.cells (fillR [] N).toArray 5)) := hbc.alloc hsc _
      have hkA := Blk.new wc 5 (fillR [] N).toArray
      have HBA := Lib.hid hbA
      have HKA := Lib.hid hkA
      have HRc := Lib.hid (HR.out.keep hbc)
      clear hbc hbA hkA hd
      go_wp2_with fail
      go_loopw [13, 14, 15] (fun j i _ wr => ∃ k : Nat, k ≤ s.size ∧ i = .int .i64 (k : Int) ∧ j = .int .i64 ((escT s k).length : Int) ∧ Blk wr wc.heap.size 5 (fillR (escT s k) N).toArray ∧ Below wc.heap.size wc wr) (fun _ i _ _ => s.size - (intOf i).toNat)
      case atStart => exact ⟨0, Nat.zero_le _, rfl, rfl, HKA.out, (Below.refl _ _).alloc (Nat.le_refl _) _⟩
      case round =>
        clear HKA HBA
        obtain ⟨k, hk, rfl, rfl, hka, hbd⟩ := hrel
        have HK := Lib.hid hka
        have HD := Lib.hid hbd
        have hmo := escT_mono s k
        rw [← HN.out] at hmo
        by_cases hlk : k < s.size
        · have hsu := escT_succ s k hlk
          have hm1 := escT_mono s (k + 1)
          rw [← HN.out, hsu, List.length_append] at hm1
          have hb0 : s[k].toNat < 256 := s[k].toNat_lt
          have hb1 : (s[k].toNat : Int) < 256 := by omega
          rcases (HRc.out.keep hbd).read s[k] with ⟨ht, r1⟩ | ⟨ht, g, cap, r1, hgl, g0, g1⟩
          · rw [esc1_one ht] at hsu hm1
            have HSu := Lib.hid hsu
            have hln : (escT s k).length < N := by simp at hm1; omega
            have hl0 : ((escT s k).length : Int) < (N : Int) := by omega
            have hc0 : wr.cell? ⟨wc.heap.size, (escT s k).length, none⟩ = some (.int .u8 0) := (hka.cell _).trans (fillR_at _ _ hln)
            have hf0 := hka.frozen (escT s k).length
            have hlen := escT_len s k
            clear hsu hm1 hbd hka
            generalize (escT s k) = A at *
            go_wp2_with fail
            exact ⟨⟨k + 1, by omega, by go_num, by rw [HSu.out, List.length_append]; go_num, by rw [HSu.out, ← fillR_one _ _ _ hln]; exact HK.out.set_ _ _, HD.out.setCell (p := ⟨wc.heap.size, A.length, none⟩) (Nat.le_refl _) _⟩, by simp [intOf]; omega⟩
          · rw [esc1_two ht] at hsu hm1
            have HSu := Lib.hid hsu
            have hln : (escT s k).length + 2 ≤ N := by simpa using hm1
            have hl0 : ((escT s k).length : Int) < (N : Int) := by omega
            have hlen := escT_len s k
            have HSp := Lib.hid (fillR_two (escT s k) N 92 (two2 s[k]) hln)
            have HLn := Lib.hid (fillR_len (escT s k) N (by omega))
            have HSr := Lib.hid (two_src g (two2 s[k]) wr g0 g1)
            clear hsu hm1 hbd hka g0 g1
            generalize (escT s k) = A at *
            go_wp2_with fail
            go_region_law
              ((refine step_copy_splice (by rfl) _ _ 46 46 (by rfl) 5 Tryz.underlying46 (by kernel_rfl) _ _ _ _ _ _ (by rfl) (by rfl) wc.heap.size A.length (fillR A N) 5 HK.out [.int .u8 (92 : UInt8).toNat, .int .u8 (two2 s[k]).toNat] (show 2 = Nat.min 2 _ from (Nat.min_eq_left (by omega)).symm) (fun _ => ⟨if_neg (by omega), _, rfl, HSr.out⟩) (by rw [HLn.out]; simpa using hln) (by simp [Value.oneCell']) wc.heap.size wc HD.out.drew (Nat.le_refl _) ?_
                intro w4 hw4 hb4))
            all_goals
              go_wp2_with fail
              exact ⟨⟨k + 1, by omega, by go_num, by rw [HSu.out, List.length_append]; go_num, by rw [HSu.out, ← HSp.out]; exact hw4.out, hb4⟩, by simp [intOf]; omega⟩
        · obtain rfl : k = s.size := by omega
          have hA : escT s s.size = escL (bts s) := escT_all s
          have hz : fillR (escL (bts s)) N = (escL (bts s)).map fun b : UInt8 => .int .u8 b.toNat := by unfold fillR; rw [HN.out, Nat.sub_self]; simp
          rw [hA, hz] at hka
          have HC := Lib.hid (fun j (hj : j < (escL (bts s)).length) => (hka.cell j))
          have hcv : (convert 46 9 (.slice (some ⟨wc.heap.size, 0, none⟩) N N)).run Tryz.prog wr = .ok (.string (str (escL (bts s)))) wr := by
            have h := run_convert_bytes_back (P := Tryz.prog) wr 46 9 5 ⟨wc.heap.size, 0, none⟩ N (escL (bts s)) Tryz.underlying46 Tryz.underlying5 Tryz.underlying9 (fun j hj => by
              have e : ((⟨wc.heap.size, 0, none⟩ : Addr).add j) = ⟨wc.heap.size, 0 + j, none⟩ := by unfold Addr.add; split <;> simp_all
              rw [e, Nat.zero_add, hka.cell j]
              simp [hj])
            rw [← HN.out] at h
            exact h
          have HBe := Lib.hid (HBc.out.trans (hbd.mono hsc))
          clear hka hbd hA hz HC hmo
          go_wp2_with fail
          go_ret
          exact ⟨rfl, HBe.out⟩
    · have hd : decide (s.size < N) = false := decide_eq_false hlt
      rw [hd]
      have he : escL (bts s) = bts s := escL_same _ (by rw [← HN.out, bts_len]; omega)
      go_wp2_with fail
      go_ret
      exact ⟨by rw [he, str_bts]; rfl, HBc.out⟩
end Go.Proofs.YtoneheloojlifaaGreatDoor
/- (*strings.Replacer).Replace at the three pairs: the escaped text; the replacer is made once. -/

namespace Go.Proofs.YtoneheloojlifaaGreatDoor
open Go.RowKit

/-- the world behind the first use -/
theorem rep_made {B b q : Nat} {w w1 : World} (h : RepNew B b 0 w) (hs : Bsr w.heap.size q [13, 10, 92] w1) (hb : Below w.heap.size (w.setCell ⟨b, 1, none⟩ (.int .i32 1)) w1) :
    Bsr w.heap.size q [13, 10, 92] ((((w1.setCell ⟨b, 3, none⟩ (tabV q)).setCell ⟨b, 4, none⟩ (.slice none 0 0)).drew.setCell ⟨b, 0, none⟩ (.int .u32 1)).setCell ⟨b, 1, none⟩ (.int .i32 0)) ∧
    Blk ((((w1.setCell ⟨b, 3, none⟩ (tabV q)).setCell ⟨b, 4, none⟩ (.slice none 0 0)).drew.setCell ⟨b, 0, none⟩ (.int .u32 1)).setCell ⟨b, 1, none⟩ (.int .i32 0)) b 110 #[.int .u32 1, .int .i32 0, .int .u32 0, tabV q, .slice none 0 0] ∧
    Fr w ((((w1.setCell ⟨b, 3, none⟩ (tabV q)).setCell ⟨b, 4, none⟩ (.slice none 0 0)).drew.setCell ⟨b, 0, none⟩ (.int .u32 1)).setCell ⟨b, 1, none⟩ (.int .i32 0)) (fun k => k = b) := by
  obtain ⟨hlo, v, hk, hv⟩ := h
  have hlt := hk.lt
  have k1 := (hk.set_ 1 (.int .i32 1)).below hb (by omega)
  have k5 := ((((k1.set_ 3 (tabV q)).set_ 4 (.slice none 0 0)).drew).set_ 0 (.int .u32 1)).set_ 1 (.int .i32 0)
  have s1 := hs.far ⟨b, 3, none⟩ (tabV q) hlt
  have s2 := s1.far ⟨b, 4, none⟩ (.slice none 0 0) hlt
  have s3 := (s2.keep (Below.refl _ _).drew).far ⟨b, 0, none⟩ (.int .u32 1) hlt
  have s4 := s3.far ⟨b, 1, none⟩ (.int .i32 0) hlt
  refine ⟨s4, by simpa using k5, ?_⟩
  have f1 : Fr w (w.setCell ⟨b, 1, none⟩ (.int .i32 1)) (fun k => k = b) := Fr.setCell (p := ⟨b, 1, none⟩) (Fr.refl w (fun k => k = b)) (.inl rfl) _
  have f2 : Fr w w1 (fun k => k = b) := f1.trans (Fr.of_below (by simpa using hb) _)
  exact ((((f2.setCell (p := ⟨b, 3, none⟩) (.inl rfl) _).setCell (p := ⟨b, 4, none⟩) (.inl rfl) _).drew).setCell (p := ⟨b, 0, none⟩) (.inl rfl) _).setCell (p := ⟨b, 1, none⟩) (.inl rfl) _
/-- the table, none of whose blocks is in X -/
def BsrX (X : Nat → Prop) (B q : Nat) (w : World) : Prop := Bsr B q [13, 10, 92] w ∧ ¬ X q ∧ ∀ cs, Blk w q 177 cs → ∀ (i : Nat) (v : Value), cs[i]? = some v → ∀ g, v.ownBlock = some g → ¬ X g
theorem Bsr.blocks {B q : Nat} {w : World} (h : Bsr B q [13, 10, 92] w) : ∀ cs, Blk w q 177 cs → ∀ (i : Nat) (v : Value), cs[i]? = some v → ∀ g, v.ownBlock = some g → B ≤ g ∧ g < w.heap.size := by
  intro cs hcs i v hv g hg
  obtain ⟨hlo, cs', tv, h1, h2, h3, h4, h5, h6⟩ := h
  have e := h1.symm.trans hcs
  injection e with e; injection e with e _ _
  subst e
  have hil : i < cs'.size := (Array.getElem?_eq_some_iff.1 hv).1
  by_cases hi : i = 256
  · subst hi
    rw [h3] at hv; injection hv with hv; subst hv
    exact own_lt h4 hg
  · obtain ⟨c, hc⟩ : ∃ c : UInt8, c.toNat = i := ⟨UInt8.ofNat i, by rw [UInt8.toNat_ofNat']; omega⟩
    subst hc
    by_cases hm : c ∈ [(13 : UInt8), 10, 92]
    · obtain ⟨g', cap, a1, a3, a4, _⟩ := h6 c hm
      rw [a1] at hv; injection hv with hv; subst hv
      injection hg with hg
      have hg : g' = g := hg
      omega
    · rw [h5 c hm] at hv; injection hv with hv; subst hv
      cases hg
theorem BsrX.new {X : Nat → Prop} {B q : Nat} {w : World} (h : Bsr B q [13, 10, 92] w) (hX : ∀ g, X g → g < B) : BsrX X B q w :=
  ⟨h, fun hq => by have := hX q hq; have := h.lo; omega, fun cs hcs i v hv g hg hx => by have := hX g hx; have := (h.blocks cs hcs i v hv g hg).1; omega⟩
theorem BsrX.change {X X' : Nat → Prop} {B q : Nat} {w : World} (h : BsrX X B q w) (hX : ∀ g, X' g → X g ∨ w.heap.size ≤ g) : BsrX X' B q w := by
  obtain ⟨h1, h2, h3⟩ := h
  have hq : q < w.heap.size := by obtain ⟨_, cs, tv, hb, _⟩ := h1; exact hb.lt
  exact ⟨h1, fun hx => (hX q hx).elim h2 fun h => by omega, fun cs hcs i v hv g hg hx => (hX g hx).elim (h3 cs hcs i v hv g hg) fun h => by have := (h1.blocks cs hcs i v hv g hg).2; omega⟩
theorem BsrX.lower {X : Nat → Prop} {B B' q : Nat} {w : World} (h : BsrX X B q w) (hB : B' ≤ B) : BsrX X B' q w := ⟨h.1.lower hB, h.2.1, h.2.2⟩
theorem BsrX.fr {X : Nat → Prop} {B q : Nat} {w w' : World} (h : BsrX X B q w) (hf : Fr w w' X) : BsrX X B q w' := by
  obtain ⟨⟨hlo, cs, tv, h1, h2, h3, h4, h5, h6⟩, hq, hc⟩ := h
  have hcs := hc cs h1
  have h1' : Blk w' q 177 cs := h1.fr hf hq
  refine ⟨⟨hlo, cs, tv, h1', h2, h3, own_keep h4 fun g hg hl => hf.block g hl (hcs 256 tv h3 g hg), h5, fun c hm => ?_⟩, hq, fun ds hds => ?_⟩
  · obtain ⟨g, cap, a1, a3, a4, a5, a6, a7, a8⟩ := h6 c hm
    have hg := hcs _ _ a1 g rfl
    have e := hf.block g a4 hg
    exact ⟨g, cap, a1, a3, Nat.lt_of_lt_of_le a4 hf.size, a5, a6, (World.cell?_of_block (w := w) (a := ⟨g, 0, none⟩) e).trans a7, (World.cell?_of_block (w := w) (a := ⟨g, 1, none⟩) e).trans a8⟩
  · have e := h1'.symm.trans hds
    injection e with e; injection e with e _ _
    subst e
    exact hcs
/-- a replacer at the three pairs, fresh or made, none of whose blocks is in X -/
def RepX (X : Nat → Prop) (B b : Nat) (w : World) : Prop := ¬ X b ∧ B ≤ b ∧
  ((∃ v, Blk w b 110 #[.int .u32 0, .int .i32 0, .int .u32 0, .nilIface, v] ∧ w.ownsRow B 9 1 v 6 (pairs6.map .string) ∧ ∀ g, v.ownBlock = some g → ¬ X g) ∨
   (∃ q, Blk w b 110 #[.int .u32 1, .int .i32 0, .int .u32 0, tabV q, .slice none 0 0] ∧ BsrX X B q w))
theorem RepX.fr {X : Nat → Prop} {B b : Nat} {w w' : World} (h : RepX X B b w) (hf : Fr w w' X) : RepX X B b w' := by
  obtain ⟨hb, hB, ⟨v, h1, h2, h3⟩ | ⟨q, h1, h2⟩⟩ := h
  · exact ⟨hb, hB, .inl ⟨v, h1.fr hf hb, own_keep h2 fun g hg hl => hf.block g hl (h3 g hg), h3⟩⟩
  · exact ⟨hb, hB, .inr ⟨q, h1.fr hf hb, h2.fr hf⟩⟩
theorem RepX.change {X X' : Nat → Prop} {B b : Nat} {w : World} (h : RepX X B b w) (hX : ∀ g, X' g → X g ∨ w.heap.size ≤ g) : RepX X' B b w := by
  obtain ⟨hb, hB, ⟨v, h1, h2, h3⟩ | ⟨q, h1, h2⟩⟩ := h
  · exact ⟨fun hx => (hX b hx).elim hb fun h => by have := h1.lt; omega, hB, .inl ⟨v, h1, h2, fun g hg hx => (hX g hx).elim (h3 g hg) fun h => by have := (own_lt h2 hg).2; omega⟩⟩
  · exact ⟨fun hx => (hX b hx).elim hb fun h => by have := h1.lt; omega, hB, .inr ⟨q, h1, h2.change hX⟩⟩
theorem RepX.lt {X : Nat → Prop} {B b : Nat} {w : World} (h : RepX X B b w) : B ≤ b ∧ b < w.heap.size := by
  obtain ⟨hb, hB, ⟨v, h1, _⟩ | ⟨q, h1, _⟩⟩ := h
  · exact ⟨hB, h1.lt⟩
  · exact ⟨hB, h1.lt⟩
set_option maxRecDepth 100000 in
set_option maxHeartbeats 3200000 in
theorem replace_any (X : Nat → Prop) (B b : Nat) (s : ByteArray) (w : World) (h : RepX X B b w) (hX : ∀ g, X g → g < w.heap.size) (hs : s.size ≤ 100000) :
    Calls Tryz.prog 33 #[.pointer (some ⟨b, 0, none⟩), .string s] w fun e w' => e = .returned (.string (str (escL (bts s)))) ∧ RepX X B b w' ∧ Fr w w' (fun k => k = b) := by
  have hmf : ∀ (fn : Fn) (first cap : Array Value) (w : World), (Instr.makeFunc fn first cap).run Tryz.prog w = .ok (.func fn first cap) w := fun _ _ _ _ => rfl
  have HX := Lib.hid hX
  obtain ⟨hb, hB, ⟨v, h1, h2, h3⟩ | ⟨q, h1, h2⟩⟩ := h
  · have hn : RepNew B b 0 w := ⟨hB, v, h1, h2⟩
    have HD := Lib.hid (doR_first b B w hn)
    have HN := Lib.hid hn
    have HNx := Lib.hid hb
    have hbl := h1.lt
    clear hn h1 h2 h3 hb hX
    go_enter Tryz.func33, Tryz.ntmps33
    go_wp2_with fail
    refine HD.out.mono ?_
    clear HD
    rintro e w1 ⟨rfl, q, w0, hq, hb, hw⟩
    obtain ⟨hs4, hk, hfr⟩ := rep_made HN.out hq hb
    rw [← hw] at hs4 hk hfr
    have HS := Lib.hid hs4
    have HK := Lib.hid hk
    have HFr := Lib.hid hfr
    have HR := Lib.hid (bsrReplace_any w.heap.size q s w1 hs4 hs)
    have c3 : w1.cell? ⟨b, 3, none⟩ = some (tabV q) := (hk.cell 3).trans rfl
    unfold tabV at c3
    clear hs4 hk hfr hw hq hb
    go_wp2_with fail
    refine HR.out.mono ?_
    clear HR
    rintro e w2 ⟨rfl, hb2⟩
    have HB2 := Lib.hid hb2
    clear hb2
    go_wp2_with fail
    go_ret
    exact ⟨rfl, ⟨HNx.out, hB, .inr ⟨q, HK.out.below HB2.out HK.out.lt, (BsrX.new (HS.out.keep HB2.out) HX.out).lower (by omega)⟩⟩, HFr.out.then_below HB2.out⟩
  · have HD := Lib.hid (doR_done b (.func (.func 64) #[.pointer (some ⟨b, 0, none⟩)] #[]) w ((h1.cell 0).trans rfl))
    have HOk : Hid (RepX X B b w) := Lib.hid ⟨hb, hB, .inr ⟨q, h1, h2⟩⟩
    have HR := Lib.hid (bsrReplace_any B q s w h2.1 hs)
    have c3 : w.cell? ⟨b, 3, none⟩ = some (tabV q) := (h1.cell 3).trans rfl
    unfold tabV at c3
    clear hb h1 h2 hX
    go_enter Tryz.func33, Tryz.ntmps33
    go_wp2_with fail
    refine HD.out.mono ?_
    clear HD
    rintro e w1 ⟨rfl, rfl⟩
    go_wp2_with fail
    refine HR.out.mono ?_
    clear HR
    rintro e w2 ⟨rfl, hb2⟩
    have HB2 := Lib.hid hb2
    clear hb2
    go_wp2_with fail
    go_ret
    exact ⟨rfl, HOk.out.fr (Fr.of_below HB2.out X), (Fr.refl _ _).then_below HB2.out⟩
end Go.Proofs.YtoneheloojlifaaGreatDoor
