/- The walk of the document's SortedTexts. -/
import Derived.Test.YtiaobgapfoogiaaGreatDoorQSort
set_option linter.unusedSimpArgs false
set_option linter.unusedVariables false
namespace Go.Proofs.YtiaobgapfoogiaaGreatDoor
open Go.RowKit Go.Maps

def keyEnt (k : ByteArray) : Ent := ⟨k, ⟨#[]⟩⟩
def sortT (l : List ByteArray) : List ByteArray := (qSorted (l.map keyEnt)).map (·.key)
theorem insQ_map (g : Ent → Ent) (hg : ∀ e, (g e).key = e.key) (x : Ent) : ∀ S : List Ent, insQ (S.map g) (g x) = (insQ S x).map g := fun S => by
  unfold insQ
  rw [List.takeWhile_map, List.dropWhile_map]
  have : ((fun y : Ent => ltK y.key (g x).key) ∘ g) = fun y => ltK y.key x.key := by funext y; simp [hg]
  rw [this, List.map_append, List.map_cons]
theorem foldQ_map (g : Ent → Ent) (hg : ∀ e, (g e).key = e.key) : ∀ l S : List Ent, (l.map g).foldl insQ (S.map g) = (l.foldl insQ S).map g
  | [], _ => rfl
  | a :: r, S => by rw [List.map_cons, List.foldl_cons, List.foldl_cons, insQ_map g hg, foldQ_map g hg r]
theorem qSorted_map (g : Ent → Ent) (hg : ∀ e, (g e).key = e.key) (l : List Ent) : qSorted (l.map g) = (qSorted l).map g := foldQ_map g hg l []
theorem sortT_keys (F : List Ent) : sortT (F.map (·.key)) = (qSorted F).map (·.key) := by
  unfold sortT
  rw [List.map_map, show (keyEnt ∘ fun e : Ent => e.key) = fun e => keyEnt e.key from rfl, qSorted_map (fun e => keyEnt e.key) (fun _ => rfl), List.map_map]
  rfl
theorem sortT_length (l : List ByteArray) : (sortT l).length = l.length := by unfold sortT; rw [List.length_map, qSorted_length, List.length_map]

set_option maxHeartbeats 3200000 in
set_option maxRecDepth 100000 in
theorem qtexts_any (v : Value) (l : List ByteArray) (lo : Nat) (w : World) (hv : ListOk Enc.str w lo w.heap.size v l) (hn : l.length ≤ 1000000) :
    Calls Tryz.prog 32 #[v] w fun e w' => ∃ v', e = .returned v' ∧ w'.ownsRow w.heap.size 9 1 v' l.length ((sortT l).map .string) ∧ Below w.heap.size w w' := by
  have HL : Hid (∀ W, Below w.heap.size w W → ListOk Enc.str W lo w.heap.size v l) := Lib.hid fun W hW => hv.below Enc.str_laws hW
  obtain ⟨A, c, rfl, _⟩ := hv.form
  clear hv
  go_enter Tryz.func32, Tryz.ntmps32
  go_wp2_with fail
  go_loopw [3, 4] (fun s i wr => ∃ k : Nat, k ≤ l.length ∧ i = .int .i64 k ∧ wr.ownsRow w.heap.size 33 2 s k (flatE ((l.map keyEnt).take k)) ∧ Below w.heap.size w wr) (fun _ i _ => l.length - (intOf i).toNat)
  case atStart => exact ⟨0, Nat.zero_le _, rfl, own_nil, Below.refl _ _⟩
  case round =>
    obtain ⟨k, hk, rfl, hrow, hb⟩ := hrel
    obtain ⟨B3, c3, rfl, hc3⟩ := own_slice hrow
    have hbs := hb.size
    have HB := Lib.hid hb
    have HRow := Lib.hid hrow
    clear hrow
    by_cases hlt : k < l.length
    · obtain ⟨xb, xo, rfl, px1, px2, x0⟩ := (HL.out wr hb).strAt k hlt
      have HSu : Hid (flatE ((l.map keyEnt).take (k + 1)) = flatE ((l.map keyEnt).take k) ++ [.string l[k], .string ⟨#[]⟩]) := Lib.hid (by
        rw [← List.map_take, ← List.map_take, List.take_succ_eq_append_getElem hlt, List.map_append, flatE_append]; rfl)
      generalize l[k] = x at *
      have HnX : Hid (∀ q u, ([Value.string x, .string ⟨#[]⟩] : List Value)[q]? = some u → (wr.alloc (.cells #[.string x, .string ⟨#[]⟩] 33)).cell? ⟨wr.heap.size, 0 + q, none⟩ = some u) := Lib.hid fun q u hq => by
        rw [Nat.zero_add, (Blk.new wr 33 #[.string x, .string ⟨#[]⟩]).cell q]; simpa using hq
      have HOa := Lib.hid (own_below HRow.out ((Below.refl wr.heap.size wr).alloc (Nat.le_refl _) (.cells #[.string x, .string ⟨#[]⟩] 33)) (Nat.le_refl _))
      clear hb
      go_wp2_with (at_builtin; refine wpList_append_any rfl _ _ 22 rfl w.heap.size 33 Tryz.underlying22 info_ent rfl (by decide) (flatE ((l.map keyEnt).take k)) rfl HOa.out [Value.string x, Value.string ⟨#[]⟩] rfl rfl (.inr ⟨_, _, rfl, HnX.out⟩) (by simp [Value.oneCell']) (by unfold maxLen; omega) (by omega) (by simp; omega) ?_)
      intro v4 w4 hown4 hgrow4 _
      obtain ⟨B4, c4, rfl, _⟩ := own_slice hown4
      have HB4 : Hid (Below w.heap.size w w4) := Lib.hid ((HB.out.alloc hbs _).grown hgrow4 (by simp; omega) (fun k hk => (own_lt HOa.out hk).1))
      have HO4 : Hid (w4.ownsRow w.heap.size 33 2 (.slice B4 (k + 1) c4) (k + 1) (flatE ((l.map keyEnt).take (k + 1)))) := Lib.hid (by rw [HSu.out]; exact hown4)
      clear hown4 hgrow4 HnX HOa x0
      go_wp2_with fail
      exact ⟨⟨k + 1, by omega, by go_num, HO4.out, HB4.out⟩, by simp [intOf]; omega⟩
    · obtain rfl : k = l.length := by omega
      have hro := HRow.out
      rw [← List.map_take, List.take_length] at hro
      have hml : (l.map keyEnt).length = l.length := List.length_map _
      have hen : ListOk Enc.ent wr w.heap.size wr.heap.size (.slice B3 l.length c3) (l.map keyEnt) := ents_of_own (by rw [hml]; exact hro) (Nat.le_refl _) (Nat.le_refl _)
      have hS := qsorted_any _ (l.map keyEnt) _ wr hen (by omega)
      rw [hml] at hS
      have HS := Lib.hid hS
      have HT : Hid ((sortT l).map Value.string = (qSorted (l.map keyEnt)).map fun e => .string e.key) := Lib.hid (by unfold sortT; rw [List.map_map]; rfl)
      have HTl : Hid ((qSorted (l.map keyEnt)).length = l.length) := Lib.hid (by rw [qSorted_length, hml])
      clear hro hml hen hS hb
      generalize qSorted (l.map keyEnt) = T at *
      go_wp2_with fail
      refine HS.out.mono ?_
      clear HS
      rintro e w5 ⟨v5, rfl, hown5, hb5⟩
      have hl5 : ListOk Enc.ent w5 wr.heap.size w5.heap.size v5 T := ents_of_own (by rw [HTl.out]; exact hown5) (Nat.le_refl _) (Nat.le_refl _)
      obtain ⟨B5, c5, rfl, _⟩ := own_slice hown5
      have HL5 : Hid (∀ W, Below w5.heap.size w5 W → ListOk Enc.ent W wr.heap.size w5.heap.size (.slice B5 l.length c5) T) := Lib.hid fun W hW => hl5.below Enc.ent_laws hW
      have HB5 := Lib.hid (HB.out.trans (hb5.mono hbs))
      have hs5 := HB5.out.size
      clear hown5 hb5 hl5 HRow
      go_wp2_with fail
      go_loopw [5, 6] (fun s i wr => ∃ k : Nat, k ≤ l.length ∧ i = .int .i64 k ∧ wr.ownsRow w5.heap.size 9 1 s k ((T.map fun e : Ent => Value.string e.key).take k) ∧ Below w5.heap.size w5 wr) (fun _ i _ => l.length - (intOf i).toNat)
      case atStart => exact ⟨0, Nat.zero_le _, rfl, own_nil, Below.refl _ _⟩
      case round =>
        obtain ⟨k, hk, rfl, hrow, hb⟩ := hrel
        obtain ⟨B6, c6, rfl, hc6⟩ := own_slice hrow
        have hbs6 := hb.size
        have HB6 := Lib.hid hb
        have HRow := Lib.hid hrow
        clear hrow
        by_cases hlt : k < l.length
        · have hlT : k < T.length := by rw [HTl.out]; exact hlt
          obtain ⟨xb, xo, rfl, px1, px2, x0, _⟩ := (HL5.out wr hb).entAt k hlT
          have HSu : Hid (((T.map fun e : Ent => Value.string e.key).take (k + 1)) = ((T.map fun e : Ent => Value.string e.key).take k) ++ [.string T[k].key]) := Lib.hid (by
            rw [← List.map_take, ← List.map_take, List.take_succ_eq_append_getElem hlT, List.map_append]; rfl)
          generalize T[k].key = x at *
          have HnX : Hid (∀ q u, ([Value.string x] : List Value)[q]? = some u → (wr.alloc (.cells #[.string x] 9)).cell? ⟨wr.heap.size, 0 + q, none⟩ = some u) := Lib.hid fun q u hq => by
            rw [Nat.zero_add, (Blk.new wr 9 #[.string x]).cell q]; simpa using hq
          have HOa := Lib.hid (own_below HRow.out ((Below.refl wr.heap.size wr).alloc (Nat.le_refl _) (.cells #[.string x] 9)) (Nat.le_refl _))
          clear hb
          go_wp2_with (at_builtin; refine wpList_append_any rfl _ _ 26 rfl w5.heap.size 9 Tryz.underlying26 info_string rfl (by decide) ((T.map fun e : Ent => Value.string e.key).take k) rfl HOa.out [Value.string x] rfl rfl (.inr ⟨_, _, rfl, HnX.out⟩) (by simp [Value.oneCell']) (by unfold maxLen; omega) (by omega) (by simp; omega) ?_)
          intro v7 w7 hown7 hgrow7 _
          obtain ⟨B7, c7, rfl, _⟩ := own_slice hown7
          have HB7 : Hid (Below w5.heap.size w5 w7) := Lib.hid ((HB6.out.alloc hbs6 _).grown hgrow7 (by simp; omega) (fun k hk => (own_lt HOa.out hk).1))
          have HO7 : Hid (w7.ownsRow w5.heap.size 9 1 (.slice B7 (k + 1) c7) (k + 1) ((T.map fun e : Ent => Value.string e.key).take (k + 1))) := Lib.hid (by rw [HSu.out]; exact hown7)
          clear hown7 hgrow7 HnX HOa x0
          go_wp2_with fail
          exact ⟨⟨k + 1, by omega, by go_num, HO7.out, HB7.out⟩, by simp [intOf]; omega⟩
        · obtain rfl : k = l.length := by omega
          clear hb
          go_wp2_with fail
          go_ret
          refine ⟨_, rfl, ?_, HB5.out.trans (HB6.out.mono hs5)⟩
          rw [HT.out]
          have := HRow.out
          rw [← List.map_take, List.take_of_length_le (by rw [HTl.out]; exact Nat.le_refl _)] at this
          exact own_mono this hs5
end Go.Proofs.YtiaobgapfoogiaaGreatDoor
