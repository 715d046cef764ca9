/- Contracts of the library's functions, laid at this seat's dump by the shelf's own programs. -/
import Derived.Shelf.Strings.Builder1
import Derived.Shelf.Strings.Builder2
import Derived.Shelf.Strings.OnBuilder
import Derived.Shelf.Strings.Trim
import Derived.Shelf.Small.Utf8
import Derived.Shelf.Small.Bits
import Derived.Shelf.Small.Strs
import Derived.Shelf.Strings.BuilderF
import Derived.Shelf.Strings.BuilderK
import Derived.Shelf.Utf8.RuneCount
import Derived.Shelf.Strings.Builder2Cap
import Derived.Shelf.Strconv.Itoa0
import Derived.Shelf.Strings.Search1
import Derived.Shelf.Strings.Search2
import Derived.Shelf.Strings.Search3
import Derived.Shelf.Strings.Cut
import Derived.Shelf.Strings.Count
import Derived.Shelf.LaysM
import Derived.Shelf.Strings.Shaped
import Derived.Shelf.Strings.Prefix
import Derived.Shelf.Strings.Split
import Derived.Shelf.Strings.SplitShaped
import Derived.Shelf.Unicode.Decode
import Derived.Shelf.Strings.Runes
import Derived.Shelf.Strings.RuneCount
import Derived.Shelf.Strings.AsciiSet
import Derived.Shelf.Strings.Explode
import Derived.Shelf.Unicode.DecodeSlow
import Derived.Shelf.Unicode.DecodeAny
import Derived.Shelf.Unicode.DecodeLast
import Derived.Shelf.Strings.BuilderCap
import Derived.Shelf.Slices.Turned
import Derived.Ground.Names2Prog
import Derived.Shelf.Slices.Clone
import Derived.Ground.SlgnProg
import Derived.Shelf.SlicesE.Clone
import Derived.Ground.SlgfProg
import Derived.Shelf.SlicesE.IndexFunc
import Derived.Shelf.SlicesE.DeleteFunc
import Derived.Test.YtoneheloojlifaaGreatDoorProg
import Derived.Test.YtoneheloojlifaaGreatDoorRefL
import Derived.Lib.Builder
import Derived.Lib.AppendStr
namespace Go.Proofs
open Go.Shelf
def Tryz.lays169_ren : Go.Shelf.Ren := ⟨fun | 169 => 31 | n => n, fun | 70 => 53 | 9 => 9 | 0 => 0 | 72 => 55 | 37 => 46 | 127 => 96 | 3 => 3 | 5 => 5 | n => n, fun | n => n⟩
theorem Tryz.lays169 : Go.Proofs.Lays.n169 Tryz.prog Tryz.lays169_ren := {
  mixed := by kernel_rfl
  f169 := Tryz.func31.trans (congrArg some (by kernel_rfl))
  t0 := Tryz.underlying0
  a0 := Tryz.isAgg0
  z0 := Tryz.sizeOf0
  v0 := Tryz.zeroValue0
  t3 := Tryz.underlying3
  a3 := Tryz.isAgg3
  z3 := Tryz.sizeOf3
  v3 := Tryz.zeroValue3
  t9 := Tryz.underlying9
  a9 := Tryz.isAgg9
  z9 := Tryz.sizeOf9
  v9 := Tryz.zeroValue9
  t37 := Tryz.underlying46
  a37 := Tryz.isAgg46
  z37 := Tryz.sizeOf46
  v37 := Tryz.zeroValue46
  t70 := Tryz.underlying53
  a70 := Tryz.isAgg53
  z70 := Tryz.sizeOf53
  v70 := Tryz.zeroValue53
  t72 := Tryz.underlying55
  a72 := Tryz.isAgg55
  z72 := Tryz.sizeOf55
  v72 := Tryz.zeroValue55
  t127 := Tryz.underlying96
  a127 := Tryz.isAgg96
  z127 := Tryz.sizeOf96
  v127 := Tryz.zeroValue96 }
theorem Tryz.Builder_Extra_169 : Builder.Extra Tryz.prog Tryz.lays169_ren := {
  sizeBuilder := by kernel_rfl
  liesBuilder := by kernel_rfl
  t5 := Tryz.underlying5
  a5 := Tryz.isAgg5
  z5 := Tryz.sizeOf5
  v5 := Tryz.zeroValue5
  infoByte := by kernel_rfl
  cellsByte := by kernel_rfl
  sizeByte := by kernel_rfl
  neB5 := by decide }
open Go.RowKit in
theorem Tryz.Builder_String (B b : Nat) (l : List UInt8) (w : World) (h : Lib.IsBuilder 55 5 B b (Lib.byteCells l) w) (h0 : l ≠ []) :
    Calls Tryz.prog 31 #[.pointer (some ⟨b, 0, none⟩)] w fun e w' => e = .returned (.string ⟨l.toArray⟩) ∧ Below B w w' := Any.Builder_String Tryz.lays169 Tryz.Builder_Extra_169 B b l w h h0
open Go.RowKit in
theorem Tryz.Builder_String_empty (B b : Nat) (w : World) (h : Lib.IsBuilder 55 5 B b [] w) (hBw : B ≤ w.heap.size) :
    Calls Tryz.prog 31 #[.pointer (some ⟨b, 0, none⟩)] w fun e w' => e = .returned (.string ⟨#[]⟩) ∧ Below B w w' := Any.Builder_String_empty Tryz.lays169 Tryz.Builder_Extra_169 B b w h hBw
open Go.RowKit in
theorem Tryz.Builder_String_any (B b : Nat) (l : List UInt8) (w : World) (h : Lib.IsBuilder 55 5 B b (Lib.byteCells l) w) (hBw : B ≤ w.heap.size) :
    Calls Tryz.prog 31 #[.pointer (some ⟨b, 0, none⟩)] w fun e w' => e = .returned (.string ⟨l.toArray⟩) ∧ Below B w w' := Any.Builder_String_any Tryz.lays169 Tryz.Builder_Extra_169 B b l w h hBw
open Go.RowKit in
theorem Tryz.Builder_String_any_k (B b : Nat) (l : List UInt8) (w : World) (h : Lib.IsBuilderF 55 5 B b (Lib.byteCells l) w) (hBw : B ≤ w.heap.size) :
    Calls Tryz.prog 31 #[.pointer (some ⟨b, 0, none⟩)] w fun e w' => e = .returned (.string ⟨l.toArray⟩) ∧ (Lib.IsBuilderF 55 5 B b (Lib.byteCells l) w' ∧ Below B w w' ∧ Lib.OthersKept 5 (some b) w w') := Any.Builder_String_any_k Tryz.lays169 Tryz.Builder_Extra_169 B b l w h hBw
end Go.Proofs
/- A text's builder of the call's own: what it holds behind a sign, behind a text. -/

namespace Go.Proofs.YtoneheloojlifaaGreatDoor
open Go.RowKit

/-- the builder at block k, with the bytes l; B: from where on memory is the call's own -/
def Bld (B k : Nat) (l : List UInt8) (w : World) : Prop := Lib.IsBuilder 55 5 B k (Lib.byteCells l) w
theorem sz_bld : (Tryz.prog.info? 55).map (·.size) = some 2 := by kernel_rfl
theorem lies_bld : liesAt Tryz.prog Tryz.prog.depth 55 (2 / Tryz.prog.cellsOf 55) 0 55 1 = true := by kernel_rfl
theorem bld_new (w : World) : Bld w.heap.size w.heap.size [] (w.alloc (.cells #[.pointer none, .slice none 0 0] 55)) := Lib.fresh_isBuilder _ _ w
set_option maxRecDepth 100000 in
set_option maxHeartbeats 1000000 in
theorem looked_any (B k : Nat) (xs : List Value) (w : World) (h : Lib.IsBuilder 55 5 B k xs w) :
    Calls Tryz.prog 62 #[.pointer (some ⟨k, 0, none⟩)] w fun e w' => e = .returned (.tuple #[]) ∧ Lib.BuilderAt 55 5 B k (.pointer (some ⟨k, 0, none⟩)) xs w' ∧ Below B w w' ∧ w'.heap.size = w.heap.size := by
  obtain ⟨j, hj, hjs⟩ := Option.map_eq_some_iff.1 sz_bld
  rcases h with h | h
  · have HA := Lib.hid (h.used (.pointer (some ⟨k, 0, none⟩)))
    have HB := Lib.hid ((Below.refl B w).setCell (p := ⟨k, 0, none⟩) h.1 (.pointer (some ⟨k, 0, none⟩)))
    have c0 := h.cell0
    have f0 := h.frozen0
    have hsh := h.shape
    have hc1 := Lib.run_to_unsafe w (P := Tryz.prog) (src := 53) (dst := 134) ⟨k, 0, none⟩ Tryz.underlying53 Tryz.underlying134 hj (by rw [hjs]; decide) hsh (Nat.zero_lt_succ 1)
    have hc2 := Lib.run_from_unsafe w (P := Tryz.prog) (src := 134) (dst := 53) ⟨k, 0, none⟩ Tryz.underlying134 Tryz.underlying53 hj hsh lies_bld
    have hn : (callFunc 83 #[.pointer (some ⟨k, 0, none⟩)]).run Tryz.prog w = .ok (.value (.pointer (some ⟨k, 0, none⟩))) w := by
      rw [run_callFunc_extern Tryz.func83 (by kernel_rfl) (by kernel_rfl) (by kernel_rfl) (e := Extern.AbiNoEscape.same) (by kernel_rfl), Lib.run_noEscape]; rfl
    clear h hsh hj hjs
    go_enter Tryz.func62, Tryz.ntmps62
    go_wp2
    go_end0
    exact ⟨rfl, HA.out, HB.out, by simp⟩
  · have c0 := h.cell0
    have HH := Lib.hid h
    clear h
    have hr := Lib.run_neq_ptr_same w (P := Tryz.prog) (tp := 53) ⟨k, 0, none⟩ Tryz.underlying53 hj
    go_enter Tryz.func62, Tryz.ntmps62
    go_wp2
    go_end0
    exact ⟨rfl, HH.out, Below.refl _ _, rfl⟩
theorem info_byte' : (Tryz.prog.info? 5).map (fun i => (i.zero, i.size, i.bytes)) = some (some (.int .u8 0), 1, 1) := by kernel_rfl
theorem bytes_snoc (l : List UInt8) (c : UInt8) : Lib.byteCells l ++ [.int .u8 c.toNat] = Lib.byteCells (l ++ [c]) := by unfold Lib.byteCells; rw [List.map_append]; rfl
theorem byte_new (x : Value) (t : TypeId) (W : World) (q : Nat) (u : Value) (hq : ([x] : List Value)[q]? = some u) : (W.alloc (.cells #[x] t)).cell? ⟨W.heap.size, 0 + q, none⟩ = some u := by
  rw [Nat.zero_add, (Blk.new W t #[x]).cell q]; simpa using hq
set_option maxRecDepth 100000 in
set_option maxHeartbeats 1000000 in
theorem wbyte_any (B k : Nat) (l : List UInt8) (c : UInt8) (w : World) (h : Bld B k l w) (hl : l.length + 1 ≤ 140737488355328) (hB : B ≤ w.heap.size) :
    Calls Tryz.prog 61 #[.pointer (some ⟨k, 0, none⟩), .int .u8 c.toNat] w fun e w' => e = .returned .nilIface ∧ Bld B k (l ++ [c]) w' ∧ Below B w w' := by
  have HL := Lib.hid (looked_any B k _ w h)
  clear h
  go_enter Tryz.func61, Tryz.ntmps61
  go_wp2_with fail
  refine HL.out.mono ?_
  clear HL
  rintro e w1 ⟨rfl, ⟨hBk, v, hbk, hown, hne⟩, hb1, hs1⟩
  have c0 : w1.cell? ⟨k, 0, none⟩ = some (.pointer (some ⟨k, 0, none⟩)) := by rw [Lib.cell_of_heap hbk]; rfl
  have c1 : w1.cell? ⟨k, 1, none⟩ = some v := by rw [Lib.cell_of_heap hbk]; rfl
  have hkl : k < w1.heap.size := Blk.lt hbk
  have HbK := Lib.hid hbk
  have HNe := Lib.hid hne
  have HB1 := Lib.hid hb1
  have hbl : (Lib.byteCells l).length = l.length := Lib.byteCells_length l
  rw [hbl] at hown
  obtain ⟨A, cp, rfl, _⟩ := own_slice hown
  have HO := Lib.hid (own_keep (w' := w1.alloc (.cells #[.int .u8 c.toNat] 5)) hown fun g _ hg => Below.heap_alloc _ _ _ hg)
  have HnX := Lib.hid (byte_new (.int .u8 c.toNat) 5 w1)
  have hB1 : B ≤ w1.heap.size := by omega
  have hB2 := Lib.hid hs1
  clear hbk hown hne hb1 hs1
  go_wp2_with (at_builtin; refine wpList_append_any rfl _ _ 46 rfl B 5 Tryz.underlying46 info_byte' rfl (by decide) (Lib.byteCells l) rfl HO.out [.int .u8 c.toNat] rfl rfl (.inr ⟨_, _, rfl, HnX.out⟩) (by simp [Value.oneCell']) (by unfold maxLen; omega) (by omega) (by simp; omega) ?_)
  intro v2 w2 hown2 hgrow2 _
  have hb2 : w2.heap[k]? = some (.cells #[.pointer (some ⟨k, 0, none⟩), .slice A l.length cp] 55 (0, 0)) := by
    rw [hgrow2.block k (by simp; omega) (fun e => HNe.out e.symm), Below.heap_alloc _ _ _ hkl]
    exact HbK.out
  have d0 : w2.cell? ⟨k, 0, none⟩ = some (.pointer (some ⟨k, 0, none⟩)) := by rw [Lib.cell_of_heap hb2]; rfl
  have d1 : w2.cell? ⟨k, 1, none⟩ = some (.slice A l.length cp) := by rw [Lib.cell_of_heap hb2]; rfl
  have f1 : w2.frozen? ⟨k, 1, none⟩ = false := Lib.frozen_of_heap hb2 1
  obtain ⟨A2, c2, rfl, _⟩ := own_slice hown2
  have HP := Lib.hid (Lib.BuilderAt.put (T := 55) (e := 5) hBk hb2 (bs' := Lib.byteCells (l ++ [c])) (by rw [← bytes_snoc, List.length_append, hbl]; exact hown2) (by decide))
  have HBe := Lib.hid (((HB1.out.alloc hB1 _).grown hgrow2 (by simp; omega) (fun k hk => (own_lt HO.out hk).1)).setCell (p := ⟨k, 1, none⟩) hBk (.slice A2 (l.length + 1) c2))
  clear hown2 hgrow2 hb2
  go_wp2_with fail
  go_ret
  exact ⟨rfl, .inr HP.out, HBe.out⟩
theorem str_cells (s : ByteArray) : Lib.strCells s = Lib.byteCells (bts s) := rfl
theorem bytes_app (l r : List UInt8) : Lib.byteCells l ++ Lib.byteCells r = Lib.byteCells (l ++ r) := by unfold Lib.byteCells; rw [List.map_append]
set_option maxRecDepth 100000 in
set_option maxHeartbeats 1000000 in
theorem wstr_any (B k : Nat) (l : List UInt8) (s : ByteArray) (w : World) (h : Bld B k l w) (hl : l.length + s.size ≤ 140737488355328) (hB : B ≤ w.heap.size) :
    Calls Tryz.prog 30 #[.pointer (some ⟨k, 0, none⟩), .string s] w fun e w' => e = .returned (.tuple #[.int .i64 s.size, .nilIface]) ∧ Bld B k (l ++ bts s) w' ∧ Below B w w' := by
  have HL := Lib.hid (looked_any B k _ w h)
  obtain ⟨i0, hi, hz0, hz1, hz2⟩ := info_parts info_byte'
  clear h
  go_enter Tryz.func30, Tryz.ntmps30
  go_wp2_with fail
  refine HL.out.mono ?_
  clear HL
  rintro e w1 ⟨rfl, ⟨hBk, v, hbk, hown, hne⟩, hb1, hs1⟩
  have c0 : w1.cell? ⟨k, 0, none⟩ = some (.pointer (some ⟨k, 0, none⟩)) := by rw [Lib.cell_of_heap hbk]; rfl
  have c1 : w1.cell? ⟨k, 1, none⟩ = some v := by rw [Lib.cell_of_heap hbk]; rfl
  have hkl : k < w1.heap.size := Blk.lt hbk
  have HbK := Lib.hid hbk
  have HNe := Lib.hid hne
  have HB1 := Lib.hid hb1
  have hbl : (Lib.byteCells l).length = l.length := Lib.byteCells_length l
  rw [hbl] at hown
  obtain ⟨A, cp, rfl, _⟩ := own_slice hown
  have HO := Lib.hid hown
  have hB1 : B ≤ w1.heap.size := by omega
  clear hbk hown hne hb1 hs1
  go_wp2_with (at_builtin; refine Lib.wpList_append_own_string _ rfl _ _ 46 9 rfl B 5 i0 Tryz.underlying46 Tryz.underlying9 hi hz0 hz1 hz2 _ _ _ rfl HO.out s rfl (by unfold maxLen; omega) (by omega) (by omega) ?_)
  intro v2 w2 hown2 hgrow2 _
  have hb2 : w2.heap[k]? = some (.cells #[.pointer (some ⟨k, 0, none⟩), .slice A l.length cp] 55 (0, 0)) := by
    rw [hgrow2.block k hkl (fun e => HNe.out e.symm)]
    exact HbK.out
  have d0 : w2.cell? ⟨k, 0, none⟩ = some (.pointer (some ⟨k, 0, none⟩)) := by rw [Lib.cell_of_heap hb2]; rfl
  have d1 : w2.cell? ⟨k, 1, none⟩ = some (.slice A l.length cp) := by rw [Lib.cell_of_heap hb2]; rfl
  have f1 : w2.frozen? ⟨k, 1, none⟩ = false := Lib.frozen_of_heap hb2 1
  obtain ⟨A2, c2, rfl, _⟩ := own_slice hown2
  have HP := Lib.hid (Lib.BuilderAt.put (T := 55) (e := 5) hBk hb2 (bs' := Lib.byteCells (l ++ bts s)) (by rw [← bytes_app, ← str_cells, List.length_append, hbl, Lib.strCells_length]; exact hown2) (by decide))
  have HBe := Lib.hid ((HB1.out.grown hgrow2 hB1 (fun k hk => (own_lt HO.out hk).1)).setCell (p := ⟨k, 1, none⟩) hBk (.slice A2 (l.length + s.size) c2))
  clear hown2 hgrow2 hb2
  go_wp2_with fail
  go_ret2
  exact ⟨rfl, .inr HP.out, HBe.out⟩
theorem bld_text {B k : Nat} {l : List UInt8} {w : World} (h : Bld B k l w) (hB : B ≤ w.heap.size) : Calls Tryz.prog 31 #[.pointer (some ⟨k, 0, none⟩)] w fun e w' => e = .returned (.string (str l)) ∧ Below B w w' :=
  Tryz.Builder_String_any B k l w h hB
end Go.Proofs.YtoneheloojlifaaGreatDoor
