/- The walk of the document's package: Cut at one byte. -/
import Derived.Test.YtdmjelkjeiinjaaDoorRefB
import Derived.Test.YtdmjelkjeiinjaaDoorPickW
set_option linter.unusedSimpArgs false
set_option linter.unusedVariables false
namespace Go.Proofs.YtdmjelkjeiinjaaDoor
open Go.RowKit

theorem cut1_noc (c : UInt8) : ∀ l : List UInt8, (∀ b ∈ l, b ≠ c) → cut1 c l = [l]
  | [], _ => rfl
  | b :: l, h => by
    unfold cut1
    rw [if_neg (h b List.mem_cons_self), cut1_noc c l fun x hx => h x (List.mem_cons_of_mem _ hx)]
    rfl
theorem cut1_at (c : UInt8) (r : List UInt8) : ∀ l : List UInt8, (∀ b ∈ l, b ≠ c) → cut1 c (l ++ c :: r) = l :: cut1 c r
  | [], _ => by rw [List.nil_append, cut1, if_pos rfl]
  | b :: l, h => by
    rw [List.cons_append, cut1, if_neg (h b List.mem_cons_self), cut1_at c r l fun x hx => h x (List.mem_cons_of_mem _ hx)]
    rfl
theorem mem_mid {s : ByteArray} {f j : Nat} {c : UInt8} (hno : ∀ q (h : q < s.size), f ≤ q → q < j → s[q] ≠ c) : ∀ b ∈ ((bts s).take j).drop f, b ≠ c := by
  intro b hb
  obtain ⟨i, hi, rfl⟩ := List.getElem_of_mem hb
  rw [List.length_drop, List.length_take, bts_len] at hi
  rw [List.getElem_drop, List.getElem_take, bts_get s (f + i) (by omega)]
  exact hno _ _ (by omega) (by omega)
theorem cut_step (s : ByteArray) (c : UInt8) (f j : Nat) (hf : f ≤ j) (hj : j < s.size) (hno : ∀ q (h : q < s.size), f ≤ q → q < j → s[q] ≠ c) (h : s[j] = c) :
    (cut1 c ((bts s).drop f)).map str = s.extract f j :: (cut1 c ((bts s).drop (j + 1))).map str := by
  have hj' : j < (bts s).length := by rw [bts_len]; exact hj
  have e : (bts s).drop f = ((bts s).take j).drop f ++ c :: (bts s).drop (j + 1) := by
    have h1 : bts s = (bts s).take j ++ (c :: (bts s).drop (j + 1)) := by
      rw [← h, ← bts_get s j hj, List.getElem_cons_drop, List.take_append_drop]
    have h2 : f - ((bts s).take j).length = 0 := by rw [List.length_take]; omega
    calc (bts s).drop f = ((bts s).take j ++ (c :: (bts s).drop (j + 1))).drop f := by rw [← h1]
      _ = _ := by rw [List.drop_append, h2]; rfl
  rw [e, cut1_at c _ _ (mem_mid hno), List.map_cons]
  congr 1
  apply bts_inj
  rw [bts_str, bts_extract]
theorem cut_end (s : ByteArray) (c : UInt8) (f : Nat) (hno : ∀ q (h : q < s.size), f ≤ q → q < s.size → s[q] ≠ c) :
    (cut1 c ((bts s).drop f)).map str = [s.extract f s.size] := by
  have e : (bts s).drop f = ((bts s).take s.size).drop f := by rw [List.take_of_length_le (by rw [bts_len]; omega)]
  rw [e, cut1_noc c _ (mem_mid hno)]
  show [str _] = _
  congr 1
  apply bts_inj
  rw [bts_str, bts_extract]
theorem one_at (s : ByteArray) (c : UInt8) (j : Nat) (hj : j < s.size) : ((s.extract j (j + 1)).toList == (⟨#[c]⟩ : ByteArray).toList) = (s[j] == c) := by
  have h1 : (s.extract j (j + 1)).toList = [s[j]] := by
    rw [ByteArray.toList_eq]
    show bts _ = _
    have hj' : j < (bts s).length := by rw [bts_len]; exact hj
    rw [bts_extract, List.take_add_one, List.getElem?_eq_getElem hj', bts_get s j hj, List.drop_append_of_le_length (by rw [List.length_take]; omega), List.drop_of_length_le (by rw [List.length_take]; omega)]
    rfl
  have h2 : (⟨#[c]⟩ : ByteArray).toList = [c] := by rw [ByteArray.toList_eq]
  rw [h1, h2]
  simp

theorem one_news (w : World) (X : ByteArray) (t : TypeId) : ∀ q u, ([Value.string X] : List Value)[q]? = some u → (w.alloc (.cells #[.string X] t)).cell? ⟨w.heap.size, 0 + q, none⟩ = some u := fun q u hq => by
  rw [Nat.zero_add, (Blk.new w t #[.string X]).cell q]; simpa using hq
theorem own_lt' {w : World} {base : Nat} {e : TypeId} {size : Nat} {v : Value} {n : Nat} {xs : List Value} (h : w.ownsRow base e size v n xs) : ∀ k, v.ownBlock = some k → base ≤ k := fun _ hk => (own_lt h hk).1

set_option maxRecDepth 100000 in
set_option maxHeartbeats 1600000 in
theorem cut_any (s : ByteArray) (c : UInt8) (w : World) (hs : s.size ≤ 4294967296) :
    Calls Tryd.prog 43 #[.string s, .string ⟨#[c]⟩] w fun e w' => ∃ v, e = .returned v ∧ w'.ownsRow w.heap.size 9 1 v (splitS s ⟨#[c]⟩).length ((splitS s ⟨#[c]⟩).map .string) ∧ (splitS s ⟨#[c]⟩).length ≤ s.size + 1 ∧ Below w.heap.size w w' := by
  have HSp := Lib.hid (splitS_one s c)
  generalize splitS s ⟨#[c]⟩ = L at HSp ⊢
  have hp : (⟨#[c]⟩ : ByteArray).size = 1 := rfl
  have HOne := Lib.hid (one_at s c)
  generalize ep : (⟨#[c]⟩ : ByteArray) = p at *
  clear ep
  go_enter Tryd.func43, Tryd.ntmps43
  go_wp2_with fail
  go_loopw [5, 6, 7] (fun o f i wr => ∃ (j g : Nat) (R : List ByteArray), g ≤ j ∧ j ≤ s.size ∧ i = .int .i64 j ∧ f = .int .i64 g ∧ R.length ≤ g ∧ L = R ++ (cut1 c ((bts s).drop g)).map str ∧ (∀ q (h : q < s.size), g ≤ q → q < j → s[q] ≠ c) ∧ wr.ownsRow w.heap.size 9 1 o R.length (R.map .string) ∧ Below w.heap.size w wr) (fun _ _ i _ => s.size - (intOf i).toNat)
  case atStart => exact ⟨0, 0, [], Nat.le_refl _, Nat.zero_le _, rfl, rfl, Nat.le_refl _, by rw [HSp.out]; rfl, fun _ _ _ h => absurd h (by omega), own_nil, Below.refl _ _⟩
  case round =>
    obtain ⟨j, g, R, hgj, hj, rfl, rfl, hRg, hL, hno, hown, hb⟩ := hrel
    have HL := Lib.hid hL
    have HNo := Lib.hid hno
    have HO := Lib.hid hown
    have HB := Lib.hid hb
    have hbs := hb.size
    obtain ⟨B, cc, rfl, _⟩ := own_slice hown
    clear hL hno hown hb
    by_cases hlt : j < s.size
    · have H1 := HOne.out j hlt
      have HSt := Lib.hid (cut_step s c g j hgj hlt HNo.out)
      have HNx : Hid (s[j] ≠ c → ∀ q (h : q < s.size), g ≤ q → q < j + 1 → s[q] ≠ c) := Lib.hid fun h0 q hq h1 h2 => by
        rcases Nat.lt_or_eq_of_le (Nat.le_of_lt_succ h2) with h | h
        · exact HNo.out q hq h1 h
        · subst h; exact h0
      by_cases hc : s[j] = c
      · have HSt' := Lib.hid (HSt.out hc)
        have hq : ((s.extract j (j + 1)).toList == p.toList) = true := by rw [H1]; simp [hc]
        clear HSt HNx H1 hc
        go_wp2_with (at_builtin; refine wpList_append_any rfl _ _ 22 rfl w.heap.size 9 Tryd.underlying22 info_string rfl (by decide) (R.map .string) rfl (HO.out.alloc _) [.string (s.extract g j)] rfl rfl (.inr ⟨_, _, rfl, one_news _ _ _⟩) (by simp [Value.oneCell']) (by unfold maxLen; omega) (by omega) (by simp; omega) ?_)
        intro v3 w3 hown3 hgrow3 _
        have HO3 : Hid (w3.ownsRow w.heap.size 9 1 v3 (R ++ [s.extract g j]).length ((R ++ [s.extract g j]).map .string)) := Lib.hid (by simpa using hown3)
        have HB3 := Lib.hid ((HB.out.alloc (by omega) _).grown hgrow3 (by simp; omega) (own_lt' HO.out))
        clear hown3 hgrow3
        go_wp2_with fail
        go_roundw
        case rel => exact ⟨j + 1, j + 1, R ++ [s.extract g j], Nat.le_refl _, by omega, by go_num, by go_num, by simp; omega, by rw [HL.out, HSt'.out, List.append_assoc]; rfl, fun q hq h1 h2 => by omega, HO3.out, HB3.out⟩
        case measure => simp [intOf]; omega
      · have HNx' := Lib.hid (HNx.out hc)
        have hq : ((s.extract j (j + 1)).toList == p.toList) = false := by rw [H1]; simp [hc]
        clear HSt HNx H1 hc
        go_wp2_with fail
        go_roundw
        case rel => exact ⟨j + 1, g, R, by omega, by omega, by go_num, rfl, hRg, HL.out, HNx'.out, HO.out, HB.out⟩
        case measure => simp [intOf]; omega
    · obtain rfl : j = s.size := by omega
      have HE := Lib.hid (cut_end s c g HNo.out)
      go_wp2_with (at_builtin; refine wpList_append_any rfl _ _ 22 rfl w.heap.size 9 Tryd.underlying22 info_string rfl (by decide) (R.map .string) rfl (HO.out.alloc _) [.string (s.extract g s.size)] rfl rfl (.inr ⟨_, _, rfl, one_news _ _ _⟩) (by simp [Value.oneCell']) (by unfold maxLen; omega) (by omega) (by simp; omega) ?_)
      intro v3 w3 hown3 hgrow3 _
      have HO3 : Hid (w3.ownsRow w.heap.size 9 1 v3 (R ++ [s.extract g s.size]).length ((R ++ [s.extract g s.size]).map .string)) := Lib.hid (by simpa using hown3)
      have HB3 := Lib.hid ((HB.out.alloc (by omega) _).grown hgrow3 (by simp; omega) (own_lt' HO.out))
      clear hown3 hgrow3
      go_wp2_with fail
      go_ret
      have hLe : L = R ++ [s.extract g s.size] := by rw [HL.out, HE.out]
      refine ⟨_, rfl, ?_, ?_, HB3.out⟩
      · rw [hLe]; exact HO3.out
      · rw [hLe]; simp; omega
end Go.Proofs.YtdmjelkjeiinjaaDoor
