/- A text's builder of the call's own: what it holds behind a sign, behind a text. -/
import Derived.Test.YtokjbdefkfdhhaaGreatDoorQKey
import Derived.Test.YtokjbdefkfdhhaaGreatDoorAppend
import Derived.Test.YtokjbdefkfdhhaaGreatDoorShelfB
import Derived.Lib.Builder
import Derived.Lib.AppendStr
namespace Go.Proofs.YtokjbdefkfdhhaaGreatDoor
open Go.RowKit

/-- the builder at block k, with the bytes l; B: from where on memory is the call's own -/
def Bld (B k : Nat) (l : List UInt8) (w : World) : Prop := Lib.IsBuilder 69 5 B k (Lib.byteCells l) w
theorem sz_bld : (Tryz.prog.info? 69).map (·.size) = some 2 := by kernel_rfl
theorem lies_bld : liesAt Tryz.prog Tryz.prog.depth 69 (2 / Tryz.prog.cellsOf 69) 0 69 1 = true := by kernel_rfl
theorem bld_new (w : World) : Bld w.heap.size w.heap.size [] (w.alloc (.cells #[.pointer none, .slice none 0 0] 69)) := Lib.fresh_isBuilder _ _ w
set_option maxRecDepth 100000 in
set_option maxHeartbeats 1000000 in
theorem looked_any (B k : Nat) (xs : List Value) (w : World) (h : Lib.IsBuilder 69 5 B k xs w) :
    Calls Tryz.prog 44 #[.pointer (some ⟨k, 0, none⟩)] w fun e w' => e = .returned (.tuple #[]) ∧ Lib.BuilderAt 69 5 B k (.pointer (some ⟨k, 0, none⟩)) xs w' ∧ Below B w w' ∧ w'.heap.size = w.heap.size := by
  obtain ⟨j, hj, hjs⟩ := Option.map_eq_some_iff.1 sz_bld
  rcases h with h | h
  · have HA := Lib.hid (h.used (.pointer (some ⟨k, 0, none⟩)))
    have HB := Lib.hid ((Below.refl B w).setCell (p := ⟨k, 0, none⟩) h.1 (.pointer (some ⟨k, 0, none⟩)))
    have c0 := h.cell0
    have f0 := h.frozen0
    have hsh := h.shape
    have hc1 := Lib.run_to_unsafe w (P := Tryz.prog) (src := 66) (dst := 82) ⟨k, 0, none⟩ Tryz.underlying66 Tryz.underlying82 hj (by rw [hjs]; decide) hsh (Nat.zero_lt_succ 1)
    have hc2 := Lib.run_from_unsafe w (P := Tryz.prog) (src := 82) (dst := 66) ⟨k, 0, none⟩ Tryz.underlying82 Tryz.underlying66 hj hsh lies_bld
    have hn : (callFunc 54 #[.pointer (some ⟨k, 0, none⟩)]).run Tryz.prog w = .ok (.value (.pointer (some ⟨k, 0, none⟩))) w := by
      rw [run_callFunc_extern Tryz.func54 (by kernel_rfl) (by kernel_rfl) (by kernel_rfl) (e := Extern.AbiNoEscape.same) (by kernel_rfl), Lib.run_noEscape]; rfl
    clear h hsh hj hjs
    go_enter Tryz.func44, Tryz.ntmps44
    go_wp2
    go_end0
    exact ⟨rfl, HA.out, HB.out, by simp⟩
  · have c0 := h.cell0
    have HH := Lib.hid h
    clear h
    have hr := Lib.run_neq_ptr_same w (P := Tryz.prog) (tp := 66) ⟨k, 0, none⟩ Tryz.underlying66 hj
    go_enter Tryz.func44, Tryz.ntmps44
    go_wp2
    go_end0
    exact ⟨rfl, HH.out, Below.refl _ _, rfl⟩
theorem info_byte' : (Tryz.prog.info? 5).map (fun i => (i.zero, i.size, i.bytes)) = some (some (.int .u8 0), 1, 1) := by kernel_rfl
theorem bytes_snoc (l : List UInt8) (c : UInt8) : Lib.byteCells l ++ [.int .u8 c.toNat] = Lib.byteCells (l ++ [c]) := by unfold Lib.byteCells; rw [List.map_append]; rfl
theorem byte_new (x : Value) (t : TypeId) (W : World) (q : Nat) (u : Value) (hq : ([x] : List Value)[q]? = some u) : (W.alloc (.cells #[x] t)).cell? ⟨W.heap.size, 0 + q, none⟩ = some u := by
  rw [Nat.zero_add, (Blk.new W t #[x]).cell q]; simpa using hq
set_option maxRecDepth 100000 in
set_option maxHeartbeats 1000000 in
theorem wbyte_any (B k : Nat) (l : List UInt8) (c : UInt8) (w : World) (h : Bld B k l w) (hl : l.length + 1 ≤ 140737488355328) (hB : B ≤ w.heap.size) :
    Calls Tryz.prog 28 #[.pointer (some ⟨k, 0, none⟩), .int .u8 c.toNat] w fun e w' => e = .returned .nilIface ∧ Bld B k (l ++ [c]) w' ∧ Below B w w' := by
  have HL := Lib.hid (looked_any B k _ w h)
  clear h
  go_enter Tryz.func28, Tryz.ntmps28
  go_wp2_with fail
  refine HL.out.mono ?_
  clear HL
  rintro e w1 ⟨rfl, ⟨hBk, v, hbk, hown, hne⟩, hb1, hs1⟩
  have c0 : w1.cell? ⟨k, 0, none⟩ = some (.pointer (some ⟨k, 0, none⟩)) := by rw [Lib.cell_of_heap hbk]; rfl
  have c1 : w1.cell? ⟨k, 1, none⟩ = some v := by rw [Lib.cell_of_heap hbk]; rfl
  have hkl : k < w1.heap.size := Blk.lt hbk
  have HbK := Lib.hid hbk
  have HNe := Lib.hid hne
  have HB1 := Lib.hid hb1
  have hbl : (Lib.byteCells l).length = l.length := Lib.byteCells_length l
  rw [hbl] at hown
  obtain ⟨A, cp, rfl, _⟩ := own_slice hown
  have HO := Lib.hid (own_keep (w' := w1.alloc (.cells #[.int .u8 c.toNat] 5)) hown fun g _ hg => Below.heap_alloc _ _ _ hg)
  have HnX := Lib.hid (byte_new (.int .u8 c.toNat) 5 w1)
  have hB1 : B ≤ w1.heap.size := by omega
  have hB2 := Lib.hid hs1
  clear hbk hown hne hb1 hs1
  go_wp2_with (at_builtin; refine wpList_append_any rfl _ _ 67 rfl B 5 Tryz.underlying67 info_byte' rfl (by decide) (Lib.byteCells l) rfl HO.out [.int .u8 c.toNat] rfl rfl (.inr ⟨_, _, rfl, HnX.out⟩) (by simp [Value.oneCell']) (by unfold maxLen; omega) (by omega) (by simp; omega) ?_)
  intro v2 w2 hown2 hgrow2 _
  have hb2 : w2.heap[k]? = some (.cells #[.pointer (some ⟨k, 0, none⟩), .slice A l.length cp] 69 (0, 0)) := by
    rw [hgrow2.block k (by simp; omega) (fun e => HNe.out e.symm), Below.heap_alloc _ _ _ hkl]
    exact HbK.out
  have d0 : w2.cell? ⟨k, 0, none⟩ = some (.pointer (some ⟨k, 0, none⟩)) := by rw [Lib.cell_of_heap hb2]; rfl
  have d1 : w2.cell? ⟨k, 1, none⟩ = some (.slice A l.length cp) := by rw [Lib.cell_of_heap hb2]; rfl
  have f1 : w2.frozen? ⟨k, 1, none⟩ = false := Lib.frozen_of_heap hb2 1
  obtain ⟨A2, c2, rfl, _⟩ := own_slice hown2
  have HP := Lib.hid (Lib.BuilderAt.put (T := 69) (e := 5) hBk hb2 (bs' := Lib.byteCells (l ++ [c])) (by rw [← bytes_snoc, List.length_append, hbl]; exact hown2) (by decide))
  have HBe := Lib.hid (((HB1.out.alloc hB1 _).grown hgrow2 (by simp; omega) (fun k hk => (own_lt HO.out hk).1)).setCell (p := ⟨k, 1, none⟩) hBk (.slice A2 (l.length + 1) c2))
  clear hown2 hgrow2 hb2
  go_wp2_with fail
  go_ret
  exact ⟨rfl, .inr HP.out, HBe.out⟩
theorem str_cells (s : ByteArray) : Lib.strCells s = Lib.byteCells (bts s) := rfl
theorem bytes_app (l r : List UInt8) : Lib.byteCells l ++ Lib.byteCells r = Lib.byteCells (l ++ r) := by unfold Lib.byteCells; rw [List.map_append]
theorem bld_text {B k : Nat} {l : List UInt8} {w : World} (h : Bld B k l w) (hB : B ≤ w.heap.size) : Calls Tryz.prog 30 #[.pointer (some ⟨k, 0, none⟩)] w fun e w' => e = .returned (.string (str l)) ∧ Below B w w' :=
  Tryz.Builder_String_any B k l w h hB
end Go.Proofs.YtokjbdefkfdhhaaGreatDoor
