/- Digits of small numbers. -/
import Derived.Test.YtjdfpoppimcikaaGreatDoorTrim
import Derived.Test.YtjdfpoppimcikaaGreatDoorQMsgP
import Derived.Test.YtjdfpoppimcikaaGreatDoorOpenB
import Derived.Test.YtjdfpoppimcikaaGreatDoorMsgB
import Derived.Shelf.Strings.Builder1
import Derived.Shelf.Strings.Builder2
import Derived.Shelf.Strings.OnBuilder
import Derived.Shelf.Strings.Trim
import Derived.Shelf.Small.Utf8
import Derived.Shelf.Small.Strs
import Derived.Shelf.Small.Wraps
import Derived.Shelf.Strings.BuilderF
import Derived.Shelf.Strconv.Atoi
import Derived.Shelf.Strconv.Itoa0
import Derived.Shelf.Strconv.Itoa1
import Derived.Shelf.LaysM
import Derived.Shelf.Strconv.Itoa2
import Derived.Shelf.Strconv.Itoa3
import Derived.Shelf.Strconv.AtoiErrFast
import Derived.Shelf.Strconv.ParseIntEmpty
import Derived.Shelf.Strconv.AtoiFail
import Derived.Shelf.Strconv.Clone
import Derived.Shelf.Strconv.SyntaxError
import Derived.Shelf.LaysC
import Derived.Shelf.Strconv.ToError
import Derived.Shelf.Strconv.Lower
import Derived.Shelf.Strconv.ParseUint10
import Derived.Shelf.Strconv.ParseUint10Empty
import Derived.Shelf.Strconv.ParseUint10Any
import Derived.Shelf.Strconv.ParseInt10
import Derived.Shelf.Strconv.AtoiLong
import Derived.Shelf.Strconv.AtoiInnerAll
import Derived.Shelf.Strconv.RangeError
import Derived.Shelf.Strconv.ToErrorRange
import Derived.Shelf.Strconv.AtoiAll
import Derived.Shelf.Strconv.ErrVarAll
import Derived.Shelf.Strconv.ParseUintEmpty
import Derived.Shelf.Strconv.ParseUint10b64
import Derived.Shelf.Strconv.ParseUint10b32
import Derived.Shelf.Strconv.ParseUint10b16
import Derived.Shelf.Strconv.ParseUint10b8
import Derived.Shelf.Strconv.ParseUint10At
import Derived.Shelf.Strings.Search1
import Derived.Shelf.Strings.Search2
import Derived.Shelf.Strings.Search3
import Derived.Shelf.Strings.Cut
import Derived.Shelf.Strings.Shaped
import Derived.Shelf.Strings.Prefix
import Derived.Shelf.Strings.Runes
import Derived.Shelf.Strings.IndexAny
import Derived.Shelf.Strings.AsciiSet
import Derived.Shelf.Strings.IndexAnyAll
import Derived.Shelf.Bits.Mul64
import Derived.Shelf.Strings.Repeat
import Derived.Shelf.Unicode.DecodeSlow
import Derived.Shelf.Slices.Turned
import Derived.Ground.Names2Prog
import Derived.Shelf.Slices.ReverseS
import Derived.Shelf.Slices.Cells
import Derived.Ground.SlgfProg
import Derived.Shelf.SlicesQ.IndexFunc
import Derived.Test.YtjdfpoppimcikaaGreatDoorProg
import Derived.Test.YtjdfpoppimcikaaGreatDoorMsgD
import Derived.Lib.Builder
import Derived.Lib.AppendStr
import Derived.Test.YtjdfpoppimcikaaGreatDoorNamesA
import Derived.StillTailTactics
import Derived.Deep.DeepCutAuto
namespace Go.Proofs.YtjdfpoppimcikaaGreatDoor
open Go.RowKit

def dig1 (n : Nat) : ByteArray := ⟨#[UInt8.ofNat (48 + n % 10)]⟩
def dig (n : Nat) : ByteArray := if n < 10 then dig1 n else dig1 (n / 10) ++ dig1 n

theorem conv_dig (n : Nat) (w : World) : (convert 58 9 (.slice (some ⟨w.heap.size, 0, none⟩) 1 1)).run Tryz.prog (w.alloc (.cells #[.int .u8 (48 + (n : Int) % 10)] 5)) = .ok (.string (dig1 n)) (w.alloc (.cells #[.int .u8 (48 + (n : Int) % 10)] 5)) := by
  refine run_convert_bytes_back (P := Tryz.prog) _ 58 9 5 ⟨w.heap.size, 0, none⟩ 1 [UInt8.ofNat (48 + n % 10)] Tryz.underlying58 Tryz.underlying5 Tryz.underlying9 ?_
  intro j hj
  have : j = 0 := by simp at hj; omega
  subst this
  have h := (Blk.new w 5 #[.int .u8 (48 + (n : Int) % 10)]).cell 0
  have e : ((UInt8.ofNat (48 + n % 10)).toNat : Int) = 48 + (n : Int) % 10 := by
    rw [UInt8.toNat_ofNat']
    omega
  simp only [List.getElem_cons_zero, e]
  exact h

end Go.Proofs.YtjdfpoppimcikaaGreatDoor
/- linguisterref1.Digits, NumberOf, Starts; linguisterref2.Name, Exact. -/

namespace Go.Proofs.YtjdfpoppimcikaaGreatDoor
open Go.RowKit

def digB : Nat → Nat → ByteArray
  | 0, n => dig1 n
  | f + 1, n => if n < 10 then dig1 n else digB f (n / 10) ++ dig1 n
theorem digB_size : ∀ (f n : Nat), 0 < (digB f n).size ∧ (digB f n).size ≤ f + 1
  | 0, n => by show 0 < 1 ∧ 1 ≤ 0 + 1; decide
  | f + 1, n => by
    unfold digB
    split
    · show 0 < 1 ∧ 1 ≤ f + 1 + 1; omega
    · have := digB_size f (n / 10)
      rw [ByteArray.size_append]
      have e : (dig1 n).size = 1 := rfl
      omega
set_option maxRecDepth 100000 in
theorem digB_dg3 : ∀ n : Fin 1000, bts (digB 2 n.val) = dg3 n.val := by decide +kernel
theorem numL_snoc (l : List UInt8) (c : UInt8) : numL (l ++ [c]) = 10 * numL l + (c.toNat - 48) := by unfold numL; rw [List.foldl_append]; rfl
theorem all_snoc (l : List UInt8) (c : UInt8) (h : l.all isDg = true) : (l ++ [c]).all isDg = isDg c := by rw [List.all_append, h]; simp
theorem isDg_not {l : List UInt8} {j : Nat} {c : UInt8} (h : l[j]? = some c) (hc : isDg c = false) : l.all isDg = false := by
  rw [← Bool.not_eq_true, List.all_eq_true]
  intro hx
  have := hx _ (List.mem_of_getElem? h)
  rw [hc] at this; cases this
end Go.Proofs.YtjdfpoppimcikaaGreatDoor
/- linguisterref1.Starts, Kinds; linguisterref2.Name, Exact, CasesOf, KeyFault. -/

namespace Go.Proofs.YtjdfpoppimcikaaGreatDoor
open Go.RowKit

theorem one_at (s : ByteArray) (c : UInt8) (j : Nat) (hj : j < s.size) : ((s.extract j (j + 1)).toList == (⟨#[c]⟩ : ByteArray).toList) = (s[j] == c) := by
  have h1 : (s.extract j (j + 1)).toList = [s[j]] := by
    rw [ByteArray.toList_eq]
    show bts _ = _
    have hj' : j < (bts s).length := by rw [bts_len]; exact hj
    rw [bts_extract, List.take_add_one, List.getElem?_eq_getElem hj', bts_get s j hj, List.drop_append_of_le_length (by rw [List.length_take]; omega), List.drop_of_length_le (by rw [List.length_take]; omega)]
    rfl
  have h2 : (⟨#[c]⟩ : ByteArray).toList = [c] := by rw [ByteArray.toList_eq]
  rw [h1, h2]
  simp
theorem drop_at (s : ByteArray) (j : Nat) (hj : j < s.size) : (bts s).drop j = s[j] :: (bts s).drop (j + 1) := by
  have hj' : j < (bts s).length := by rw [bts_len]; exact hj
  rw [List.drop_eq_getElem_cons hj', bts_get s j hj]
/- ## Name -/
/- ## Exact -/
/- ## Kinds -/
/- ## CasesOf -/
end Go.Proofs.YtjdfpoppimcikaaGreatDoor
/- Contracts of the library's functions, laid at this seat's dump by the shelf's own programs. -/

namespace Go.Proofs
open Go.Shelf
def Tryz.lays169_ren : Go.Shelf.Ren := ⟨fun | 169 => 19 | n => n, fun | 70 => 57 | 9 => 9 | 0 => 0 | 72 => 60 | 37 => 58 | 127 => 106 | 3 => 3 | 5 => 5 | n => n, fun | n => n⟩
theorem Tryz.lays169 : Go.Proofs.Lays.n169 Tryz.prog Tryz.lays169_ren := {
  mixed := by kernel_rfl
  f169 := Tryz.func19.trans (congrArg some (by kernel_rfl))
  t0 := Tryz.underlying0
  a0 := Tryz.isAgg0
  z0 := Tryz.sizeOf0
  v0 := Tryz.zeroValue0
  t3 := Tryz.underlying3
  a3 := Tryz.isAgg3
  z3 := Tryz.sizeOf3
  v3 := Tryz.zeroValue3
  t9 := Tryz.underlying9
  a9 := Tryz.isAgg9
  z9 := Tryz.sizeOf9
  v9 := Tryz.zeroValue9
  t37 := Tryz.underlying58
  a37 := Tryz.isAgg58
  z37 := Tryz.sizeOf58
  v37 := Tryz.zeroValue58
  t70 := Tryz.underlying57
  a70 := Tryz.isAgg57
  z70 := Tryz.sizeOf57
  v70 := Tryz.zeroValue57
  t72 := Tryz.underlying60
  a72 := Tryz.isAgg60
  z72 := Tryz.sizeOf60
  v72 := Tryz.zeroValue60
  t127 := Tryz.underlying106
  a127 := Tryz.isAgg106
  z127 := Tryz.sizeOf106
  v127 := Tryz.zeroValue106 }
theorem Tryz.Builder_Extra_169 : Builder.Extra Tryz.prog Tryz.lays169_ren := {
  sizeBuilder := by kernel_rfl
  liesBuilder := by kernel_rfl
  t5 := Tryz.underlying5
  a5 := Tryz.isAgg5
  z5 := Tryz.sizeOf5
  v5 := Tryz.zeroValue5
  infoByte := by kernel_rfl
  cellsByte := by kernel_rfl
  sizeByte := by kernel_rfl
  neB5 := by decide }
open Go.RowKit in
theorem Tryz.Builder_String (B b : Nat) (l : List UInt8) (w : World) (h : Lib.IsBuilder 60 5 B b (Lib.byteCells l) w) (h0 : l ≠ []) :
    Calls Tryz.prog 19 #[.pointer (some ⟨b, 0, none⟩)] w fun e w' => e = .returned (.string ⟨l.toArray⟩) ∧ Below B w w' := Any.Builder_String Tryz.lays169 Tryz.Builder_Extra_169 B b l w h h0
open Go.RowKit in
theorem Tryz.Builder_String_empty (B b : Nat) (w : World) (h : Lib.IsBuilder 60 5 B b [] w) (hBw : B ≤ w.heap.size) :
    Calls Tryz.prog 19 #[.pointer (some ⟨b, 0, none⟩)] w fun e w' => e = .returned (.string ⟨#[]⟩) ∧ Below B w w' := Any.Builder_String_empty Tryz.lays169 Tryz.Builder_Extra_169 B b w h hBw
open Go.RowKit in
theorem Tryz.Builder_String_any (B b : Nat) (l : List UInt8) (w : World) (h : Lib.IsBuilder 60 5 B b (Lib.byteCells l) w) (hBw : B ≤ w.heap.size) :
    Calls Tryz.prog 19 #[.pointer (some ⟨b, 0, none⟩)] w fun e w' => e = .returned (.string ⟨l.toArray⟩) ∧ Below B w w' := Any.Builder_String_any Tryz.lays169 Tryz.Builder_Extra_169 B b l w h hBw
end Go.Proofs
/- A text's builder of the call's own. -/

namespace Go.Proofs.YtjdfpoppimcikaaGreatDoor
open Go.RowKit

/-- the builder at block k, with the bytes l; B: from where on memory is the call's own -/
def Bld (B k : Nat) (l : List UInt8) (w : World) : Prop := Lib.IsBuilder 60 5 B k (Lib.byteCells l) w
theorem sz_bld : (Tryz.prog.info? 60).map (·.size) = some 2 := by kernel_rfl
theorem lies_bld : liesAt Tryz.prog Tryz.prog.depth 60 (2 / Tryz.prog.cellsOf 60) 0 60 1 = true := by kernel_rfl
theorem bld_new (w : World) : Bld w.heap.size w.heap.size [] (w.alloc (.cells #[.pointer none, .slice none 0 0] 60)) := Lib.fresh_isBuilder _ _ w
theorem info_byte' : (Tryz.prog.info? 5).map (fun i => (i.zero, i.size, i.bytes)) = some (some (.int .u8 0), 1, 1) := by kernel_rfl
theorem bytes_snoc (l : List UInt8) (c : UInt8) : Lib.byteCells l ++ [.int .u8 c.toNat] = Lib.byteCells (l ++ [c]) := by unfold Lib.byteCells; rw [List.map_append]; rfl
theorem byte_new (x : Value) (t : TypeId) (W : World) (q : Nat) (u : Value) (hq : ([x] : List Value)[q]? = some u) : (W.alloc (.cells #[x] t)).cell? ⟨W.heap.size, 0 + q, none⟩ = some u := by
  rw [Nat.zero_add, (Blk.new W t #[x]).cell q]; simpa using hq
theorem str_cells (s : ByteArray) : Lib.strCells s = Lib.byteCells (bts s) := rfl
theorem bytes_app (l r : List UInt8) : Lib.byteCells l ++ Lib.byteCells r = Lib.byteCells (l ++ r) := by unfold Lib.byteCells; rw [List.map_append]
theorem bld_text {B k : Nat} {l : List UInt8} {w : World} (h : Bld B k l w) (hB : B ≤ w.heap.size) : Calls Tryz.prog 19 #[.pointer (some ⟨k, 0, none⟩)] w fun e w' => e = .returned (.string (str l)) ∧ Below B w w' :=
  Tryz.Builder_String_any B k l w h hB
end Go.Proofs.YtjdfpoppimcikaaGreatDoor
/- A text's builder of the call's own: what it holds behind a sign, behind a text. -/

namespace Go.Proofs.YtjdfpoppimcikaaGreatDoor
open Go.RowKit

set_option maxRecDepth 100000 in
set_option maxHeartbeats 1000000 in
theorem looked_any (B k : Nat) (xs : List Value) (w : World) (h : Lib.IsBuilder 60 5 B k xs w) :
    Calls Tryz.prog 59 #[.pointer (some ⟨k, 0, none⟩)] w fun e w' => e = .returned (.tuple #[]) ∧ Lib.BuilderAt 60 5 B k (.pointer (some ⟨k, 0, none⟩)) xs w' ∧ Below B w w' ∧ w'.heap.size = w.heap.size := by
  obtain ⟨j, hj, hjs⟩ := Option.map_eq_some_iff.1 sz_bld
  rcases h with h | h
  · have HA := Lib.hid (h.used (.pointer (some ⟨k, 0, none⟩)))
    have HB := Lib.hid ((Below.refl B w).setCell (p := ⟨k, 0, none⟩) h.1 (.pointer (some ⟨k, 0, none⟩)))
    have c0 := h.cell0
    have f0 := h.frozen0
    have hsh := h.shape
    have hc1 := Lib.run_to_unsafe w (P := Tryz.prog) (src := 57) (dst := 134) ⟨k, 0, none⟩ Tryz.underlying57 Tryz.underlying134 hj (by rw [hjs]; decide) hsh (Nat.zero_lt_succ 1)
    have hc2 := Lib.run_from_unsafe w (P := Tryz.prog) (src := 134) (dst := 57) ⟨k, 0, none⟩ Tryz.underlying134 Tryz.underlying57 hj hsh lies_bld
    have hn : (callFunc 105 #[.pointer (some ⟨k, 0, none⟩)]).run Tryz.prog w = .ok (.value (.pointer (some ⟨k, 0, none⟩))) w := by
      rw [run_callFunc_extern Tryz.func105 (by kernel_rfl) (by kernel_rfl) (by kernel_rfl) (e := Extern.AbiNoEscape.same) (by kernel_rfl), Lib.run_noEscape]; rfl
    clear h hsh hj hjs
    go_enter Tryz.func59, Tryz.ntmps59
    go_wp2
    go_end0
    exact ⟨rfl, HA.out, HB.out, by simp⟩
  · have c0 := h.cell0
    have HH := Lib.hid h
    clear h
    have hr := Lib.run_neq_ptr_same w (P := Tryz.prog) (tp := 57) ⟨k, 0, none⟩ Tryz.underlying57 hj
    go_enter Tryz.func59, Tryz.ntmps59
    go_wp2
    go_end0
    exact ⟨rfl, HH.out, Below.refl _ _, rfl⟩
set_option maxRecDepth 100000 in
set_option maxHeartbeats 1000000 in
theorem wbyte_any (B k : Nat) (l : List UInt8) (c : UInt8) (w : World) (h : Bld B k l w) (hl : l.length + 1 ≤ 140737488355328) (hB : B ≤ w.heap.size) :
    Calls Tryz.prog 68 #[.pointer (some ⟨k, 0, none⟩), .int .u8 c.toNat] w fun e w' => e = .returned .nilIface ∧ Bld B k (l ++ [c]) w' ∧ Below B w w' := by
  have HL := Lib.hid (looked_any B k _ w h)
  clear h
  go_enter Tryz.func68, Tryz.ntmps68
  go_wp2_with fail
  refine HL.out.mono ?_
  clear HL
  rintro e w1 ⟨rfl, ⟨hBk, v, hbk, hown, hne⟩, hb1, hs1⟩
  have c0 : w1.cell? ⟨k, 0, none⟩ = some (.pointer (some ⟨k, 0, none⟩)) := by rw [Lib.cell_of_heap hbk]; rfl
  have c1 : w1.cell? ⟨k, 1, none⟩ = some v := by rw [Lib.cell_of_heap hbk]; rfl
  have hkl : k < w1.heap.size := Blk.lt hbk
  have HbK := Lib.hid hbk
  have HNe := Lib.hid hne
  have HB1 := Lib.hid hb1
  have hbl : (Lib.byteCells l).length = l.length := Lib.byteCells_length l
  rw [hbl] at hown
  obtain ⟨A, cp, rfl, _⟩ := own_slice hown
  have HO := Lib.hid (own_keep (w' := w1.alloc (.cells #[.int .u8 c.toNat] 5)) hown fun g _ hg => Below.heap_alloc _ _ _ hg)
  have HnX := Lib.hid (byte_new (.int .u8 c.toNat) 5 w1)
  have hB1 : B ≤ w1.heap.size := by omega
  have hB2 := Lib.hid hs1
  clear hbk hown hne hb1 hs1
  go_wp2_with (at_builtin; refine wpList_append_any rfl _ _ 58 rfl B 5 Tryz.underlying58 info_byte' rfl (by decide) (Lib.byteCells l) rfl HO.out [.int .u8 c.toNat] rfl rfl (.inr ⟨_, _, rfl, HnX.out⟩) (by simp [Value.oneCell']) (by unfold maxLen; omega) (by omega) (by simp; omega) ?_)
  intro v2 w2 hown2 hgrow2 _
  have hb2 : w2.heap[k]? = some (.cells #[.pointer (some ⟨k, 0, none⟩), .slice A l.length cp] 60 (0, 0)) := by
    rw [hgrow2.block k (by simp; omega) (fun e => HNe.out e.symm), Below.heap_alloc _ _ _ hkl]
    exact HbK.out
  have d0 : w2.cell? ⟨k, 0, none⟩ = some (.pointer (some ⟨k, 0, none⟩)) := by rw [Lib.cell_of_heap hb2]; rfl
  have d1 : w2.cell? ⟨k, 1, none⟩ = some (.slice A l.length cp) := by rw [Lib.cell_of_heap hb2]; rfl
  have f1 : w2.frozen? ⟨k, 1, none⟩ = false := Lib.frozen_of_heap hb2 1
  obtain ⟨A2, c2, rfl, _⟩ := own_slice hown2
  have HP := Lib.hid (Lib.BuilderAt.put (T := 60) (e := 5) hBk hb2 (bs' := Lib.byteCells (l ++ [c])) (by rw [← bytes_snoc, List.length_append, hbl]; exact hown2) (by decide))
  have HBe := Lib.hid (((HB1.out.alloc hB1 _).grown hgrow2 (by simp; omega) (fun k hk => (own_lt HO.out hk).1)).setCell (p := ⟨k, 1, none⟩) hBk (.slice A2 (l.length + 1) c2))
  clear hown2 hgrow2 hb2
  go_wp2_with fail
  go_ret
  exact ⟨rfl, .inr HP.out, HBe.out⟩
set_option maxRecDepth 100000 in
set_option maxHeartbeats 1000000 in
theorem wstr_any (B k : Nat) (l : List UInt8) (s : ByteArray) (w : World) (h : Bld B k l w) (hl : l.length + s.size ≤ 140737488355328) (hB : B ≤ w.heap.size) :
    Calls Tryz.prog 34 #[.pointer (some ⟨k, 0, none⟩), .string s] w fun e w' => e = .returned (.tuple #[.int .i64 s.size, .nilIface]) ∧ Bld B k (l ++ bts s) w' ∧ Below B w w' := by
  have HL := Lib.hid (looked_any B k _ w h)
  obtain ⟨i0, hi, hz0, hz1, hz2⟩ := info_parts info_byte'
  clear h
  go_enter Tryz.func34, Tryz.ntmps34
  go_wp2_with fail
  refine HL.out.mono ?_
  clear HL
  rintro e w1 ⟨rfl, ⟨hBk, v, hbk, hown, hne⟩, hb1, hs1⟩
  have c0 : w1.cell? ⟨k, 0, none⟩ = some (.pointer (some ⟨k, 0, none⟩)) := by rw [Lib.cell_of_heap hbk]; rfl
  have c1 : w1.cell? ⟨k, 1, none⟩ = some v := by rw [Lib.cell_of_heap hbk]; rfl
  have hkl : k < w1.heap.size := Blk.lt hbk
  have HbK := Lib.hid hbk
  have HNe := Lib.hid hne
  have HB1 := Lib.hid hb1
  have hbl : (Lib.byteCells l).length = l.length := Lib.byteCells_length l
  rw [hbl] at hown
  obtain ⟨A, cp, rfl, _⟩ := own_slice hown
  have HO := Lib.hid hown
  have hB1 : B ≤ w1.heap.size := by omega
  clear hbk hown hne hb1 hs1
  go_wp2_with (at_builtin; refine Lib.wpList_append_own_string _ rfl _ _ 58 9 rfl B 5 i0 Tryz.underlying58 Tryz.underlying9 hi hz0 hz1 hz2 _ _ _ rfl HO.out s rfl (by unfold maxLen; omega) (by omega) (by omega) ?_)
  intro v2 w2 hown2 hgrow2 _
  have hb2 : w2.heap[k]? = some (.cells #[.pointer (some ⟨k, 0, none⟩), .slice A l.length cp] 60 (0, 0)) := by
    rw [hgrow2.block k hkl (fun e => HNe.out e.symm)]
    exact HbK.out
  have d0 : w2.cell? ⟨k, 0, none⟩ = some (.pointer (some ⟨k, 0, none⟩)) := by rw [Lib.cell_of_heap hb2]; rfl
  have d1 : w2.cell? ⟨k, 1, none⟩ = some (.slice A l.length cp) := by rw [Lib.cell_of_heap hb2]; rfl
  have f1 : w2.frozen? ⟨k, 1, none⟩ = false := Lib.frozen_of_heap hb2 1
  obtain ⟨A2, c2, rfl, _⟩ := own_slice hown2
  have HP := Lib.hid (Lib.BuilderAt.put (T := 60) (e := 5) hBk hb2 (bs' := Lib.byteCells (l ++ bts s)) (by rw [← bytes_app, ← str_cells, List.length_append, hbl, Lib.strCells_length]; exact hown2) (by decide))
  have HBe := Lib.hid ((HB1.out.grown hgrow2 hB1 (fun k hk => (own_lt HO.out hk).1)).setCell (p := ⟨k, 1, none⟩) hBk (.slice A2 (l.length + s.size) c2))
  clear hown2 hgrow2 hb2
  go_wp2_with fail
  go_ret2
  exact ⟨rfl, .inr HP.out, HBe.out⟩
end Go.Proofs.YtjdfpoppimcikaaGreatDoor
/- pseudo.doubled, pseudo.Text; linguisterref2.Vowels. -/

namespace Go.Proofs.YtjdfpoppimcikaaGreatDoor
open Go.RowKit

theorem str_app' (a b : List UInt8) : str (a ++ b) = str a ++ str b := bts_inj (by simp [bts, str, ByteArray.data_append])
theorem str_app2' (a b c : List UInt8) : str (a ++ b ++ c) = str a ++ str b ++ str c := by rw [str_app', str_app']
def vowB : ByteArray := ⟨#[97, 101, 105, 111, 117, 65, 69, 73, 79, 85]⟩
def isVow (c : UInt8) : Bool := (bts vowB).contains c
def dblL (l : List UInt8) : List UInt8 := l.flatMap fun c => if isVow c then [c, c] else [c]
theorem dblL_len (l : List UInt8) : (dblL l).length ≤ 2 * l.length := by
  induction l with
  | nil => exact Nat.le_refl _
  | cons a l ih =>
    unfold dblL at *
    rw [List.flatMap_cons, List.length_append, List.length_cons]
    have : (if isVow a then [a, a] else [a]).length ≤ 2 := by split <;> simp
    omega
theorem dblL_snoc (s : ByteArray) (j : Nat) (h : j < s.size) : dblL ((bts s).take (j + 1)) = if isVow s[j] then dblL ((bts s).take j) ++ [s[j]] ++ [s[j]] else dblL ((bts s).take j) ++ [s[j]] := by
  have e : (bts s).take (j + 1) = (bts s).take j ++ [s[j]] := by
    rw [List.take_add_one, List.getElem?_eq_getElem (by rw [bts_len]; exact h), bts_get s j h]; rfl
  rw [e]
  unfold dblL
  rw [List.flatMap_append]
  cases h : isVow s[j] <;> simp [h]
theorem dblL_take (s : ByteArray) (j : Nat) : (dblL ((bts s).take j)).length ≤ 2 * j := by
  have := dblL_len ((bts s).take j)
  have h : ((bts s).take j).length ≤ j := List.length_take_le ..
  omega
set_option maxHeartbeats 1600000 in
set_option maxRecDepth 100000 in
theorem doubled_any (s : ByteArray) (w : World) (hs : s.size ≤ 1000000000) :
    Calls Tryz.prog 49 #[.string s] w fun e w' => e = .returned (.string (str (dblL (bts s)))) ∧ Below w.heap.size w w' := by
  have HN := Lib.hid (bld_new w)
  have HB0 := Lib.hid ((Below.refl w.heap.size w).alloc (Nat.le_refl _) (.cells #[.pointer none, .slice none 0 0] 60))
  go_enter Tryz.func49, Tryz.ntmps49
  go_wp2_with fail
  go_loopw [4, 7] (fun _ i wr => ∃ j : Nat, j ≤ s.size ∧ i = .int .i64 j ∧ Bld w.heap.size w.heap.size (dblL ((bts s).take j)) wr ∧ Below w.heap.size w wr) (fun _ i _ => s.size - (intOf i).toNat)
  case atStart => exact ⟨0, Nat.zero_le _, rfl, HN.out, HB0.out⟩
  case round =>
    clear HN HB0
    obtain ⟨j, hj, rfl, hB, hbr⟩ := hrel
    have HB := Lib.hid hB
    have HBr := Lib.hid hbr
    have hbs := hbr.size
    clear hB hbr
    by_cases hlt : j < s.size
    · have i1 : (0 : Int) ≤ (j : Int) := Int.natCast_nonneg j
      have i2 : (j : Int) < (s.size : Int) := by omega
      have HS := Lib.hid (dblL_snoc s j hlt)
      have hln := dblL_take s j
      have HW1 : Hid (Calls Tryz.prog 68 #[.pointer (some ⟨w.heap.size, 0, none⟩), .int .u8 s[j].toNat] wr fun e w' => e = .returned .nilIface ∧ Bld w.heap.size w.heap.size (dblL ((bts s).take j) ++ [s[j]]) w' ∧ Below w.heap.size wr w') := Lib.hid (wbyte_any _ _ _ _ wr HB.out (by omega) hbs)
      have HW2 : Hid (∀ W, Bld w.heap.size w.heap.size (dblL ((bts s).take j) ++ [s[j]]) W → w.heap.size ≤ W.heap.size → Calls Tryz.prog 68 #[.pointer (some ⟨w.heap.size, 0, none⟩), .int .u8 s[j].toNat] W fun e w' => e = .returned .nilIface ∧ Bld w.heap.size w.heap.size (dblL ((bts s).take j) ++ [s[j]] ++ [s[j]]) w' ∧ Below w.heap.size W w') := Lib.hid fun W h1 h2 => wbyte_any _ _ _ _ W h1 (by rw [List.length_append]; simp; omega) h2
      have HIx : Hid (∀ W, Calls Tryz.prog 48 #[.string vowB, .int .u8 s[j].toNat] W fun e w' => e = .returned (.int .i64 (Lib.indexByte (bts vowB) s[j])) ∧ w' = W) := Lib.hid fun W => by
        have h := Tryz.strings_IndexByte vowB (s[j].toNat : Int) W
        rw [head_byte] at h
        exact h
      have HIv : Hid (isVow s[j] = decide (0 ≤ Lib.indexByte (bts vowB) s[j])) := Lib.hid (idxByte _ _).symm
      generalize Lib.indexByte (bts vowB) s[j] = X at *
      generalize isVow s[j] = VW at *
      generalize dblL ((bts s).take j) = L at *
      generalize ec : s[j] = c at *
      unfold vowB at HIx
      go_wp2_with fail
      refine HW1.out.mono ?_
      clear HW1
      rintro e w1 ⟨rfl, hB1, hb1⟩
      have HB1 := Lib.hid hB1
      have HBr1 := Lib.hid (HBr.out.trans hb1)
      clear hB1 hb1
      go_wp2_with fail
      refine (HIx.out w1).mono ?_
      clear HIx
      rintro e w2 ⟨rfl, rfl⟩
      by_cases hx : 0 ≤ X
      · have HS2 : Hid (dblL ((bts s).take (j + 1)) = L ++ [c] ++ [c]) := Lib.hid (by rw [HS.out, HIv.out, decide_eq_true hx, if_pos rfl])
        have HW3 := Lib.hid (HW2.out w2 HB1.out HBr1.out.size)
        clear HS HIv HW2
        go_wp2_with fail
        refine HW3.out.mono ?_
        clear HW3
        rintro e w3 ⟨rfl, hB3, hb3⟩
        have HB3 := Lib.hid hB3
        have HBr3 := Lib.hid (HBr1.out.trans hb3)
        clear hB3 hb3
        go_wp2_with fail
        go_roundw
        case rel => exact ⟨j + 1, by omega, by go_num, by rw [HS2.out]; exact HB3.out, HBr3.out⟩
        case measure => simp [intOf]; omega
      · have HS2 : Hid (dblL ((bts s).take (j + 1)) = L ++ [c]) := Lib.hid (by rw [HS.out, HIv.out, decide_eq_false hx, if_neg (by decide)])
        clear HS HIv HW2
        go_wp2_with fail
        go_roundw
        case rel => exact ⟨j + 1, by omega, by go_num, by rw [HS2.out]; exact HB1.out, HBr1.out⟩
        case measure => simp [intOf]; omega
    · obtain rfl : j = s.size := by omega
      have et : (bts s).take s.size = bts s := List.take_of_length_le (by rw [bts_len]; exact Nat.le_refl _)
      rw [et] at HB
      have HT := Lib.hid (bld_text HB.out hbs)
      clear HB et
      go_wp2_with fail
      refine HT.out.mono ?_
      clear HT
      rintro e w1 ⟨rfl, hb1⟩
      have HBr1 := Lib.hid (HBr.out.trans hb1)
      clear hb1
      go_wp2_with fail
      go_ret
      exact ⟨rfl, HBr1.out⟩
def textP (s : ByteArray) : ByteArray := (⟨#[91]⟩ : ByteArray) ++ str (dblL (bts s)) ++ (⟨#[93]⟩ : ByteArray)
end Go.Proofs.YtjdfpoppimcikaaGreatDoor
/- Plainly: a message without what is not looked at; what it would look like. -/

namespace Go.Proofs.YtjdfpoppimcikaaGreatDoor
open Go.RowKit

section
variable {β : Type} (g : List β → List β)
def clnX (x : NdF β) : NdF β := ⟨x.kind, if x.kind = 6 then ByteArray.empty else x.text, if x.kind = 4 then x.off else 0, (casesR x).map fun c => (c.1, g c.2)⟩
/-- what is made of a clean node -/
def louX (x : NdF β) : NdF β := ⟨x.kind, if x.kind = 1 then str (dblL (bts x.text)) else x.text, x.off, x.cases.map fun c => (c.1, g c.2)⟩
/-- what is made of a node at once -/
def pseX (x : NdF β) : NdF β := ⟨x.kind, if x.kind = 6 then ByteArray.empty else if x.kind = 1 then str (dblL (bts x.text)) else x.text, if x.kind = 4 then x.off else 0, (casesR x).map fun c => (c.1, g c.2)⟩
theorem casesR_clnX (x : NdF β) : casesR (clnX g x) = (casesR x).map fun c => (c.1, g c.2) := by
  show (if hasCases x.kind then (casesR x).map fun c => (c.1, g c.2) else []) = _
  split
  · rfl
  · rename_i h
    unfold casesR
    rw [if_neg h]; rfl
theorem louX_clnX (p c : List β → List β) (x : NdF β) : louX p (clnX c x) = pseX (fun l => p (c l)) x := by
  unfold louX pseX clnX
  simp only [NdF.mk.injEq, true_and]
  refine ⟨?_, ?_⟩
  · by_cases h1 : x.kind = 1
    · rw [if_pos h1, if_pos h1, if_neg (by omega), if_neg (by omega)]
    · rw [if_neg h1, if_neg h1]
  · rw [List.map_map]; rfl
theorem pseX_clnX (p c : List β → List β) (x : NdF β) : pseX p (clnX c x) = pseX (fun l => p (c l)) x := by
  unfold pseX
  rw [casesR_clnX]
  unfold clnX
  simp only [NdF.mk.injEq, true_and]
  refine ⟨?_, ?_, ?_⟩
  · by_cases h6 : x.kind = 6
    · rw [if_pos h6, if_pos h6]
    · rw [if_neg h6, if_neg h6, if_neg h6]
  · split <;> rfl
  · rw [List.map_map]; rfl
theorem pseX_congr {p q : List β → List β} {x : NdF β} (h : ∀ c ∈ casesR x, p c.2 = q c.2) : pseX p x = pseX q x := by
  unfold pseX
  simp only [NdF.mk.injEq, true_and]
  exact List.map_congr_left fun c hc => by rw [h c hc]
end
def cleanN : (n : Nat) → List (Nd n) → List (Nd n)
  | 0, _ => []
  | n + 1, m => (m : List (NdF (Nd n))).map (clnX (cleanN n))
def psoN : (n : Nat) → List (Nd n) → List (Nd n)
  | 0, _ => []
  | n + 1, m => ((m : List (NdF (Nd n))).map (clnX (cleanN n))).map (louX (psoN n))
def pseN : (n : Nat) → List (Nd n) → List (Nd n)
  | 0, _ => []
  | n + 1, m => (m : List (NdF (Nd n))).map (pseX (pseN n))
theorem mapmap {α β γ : Type} {F : β → γ} {G : α → β} {H : α → γ} (m : List α) (h : ∀ x, F (G x) = H x) : (m.map G).map F = m.map H := by
  rw [List.map_map]
  exact List.map_congr_left fun x _ => h x
theorem pse_same : (n : Nat) → (m : List (Nd n)) → psoN n m = pseN n m ∧ pseN n (cleanN n m) = pseN n m
  | 0, _ => ⟨rfl, rfl⟩
  | n + 1, m => by
    have h1 : ∀ l, psoN n (cleanN n l) = pseN n l := fun l => by rw [(pse_same n _).1, (pse_same n l).2]
    refine ⟨?_, ?_⟩
    · refine mapmap (m : List (NdF (Nd n))) fun x => ?_
      exact (louX_clnX (psoN n) (cleanN n) x).trans (pseX_congr fun c _ => h1 c.2)
    · refine mapmap (m : List (NdF (Nd n))) fun x => ?_
      exact (pseX_clnX (pseN n) (cleanN n) x).trans (pseX_congr fun c _ => (pse_same n c.2).2)
theorem casesR_len {β : Type} (x : NdF β) : (casesR x).length ≤ x.cases.length := by
  unfold casesR
  split
  · exact Nat.le_refl _
  · exact Nat.zero_le _
theorem clean_in : (n : Nat) → (m : List (Nd n)) → MsgIn n m → MsgIn n (cleanN n m)
  | 0, _, _ => ⟨Nat.zero_le _, fun x hx => nomatch hx⟩
  | n + 1, m, h => by
    have hl : ((m : List (NdF (Nd n))).map (clnX (cleanN n))).length = m.length := List.length_map _
    refine ⟨?_, fun x hx => ?_⟩
    · show ((m : List (NdF (Nd n))).map (clnX (cleanN n))).length ≤ _
      rw [hl]; exact h.len
    · obtain ⟨y, hy, rfl⟩ := List.mem_map.1 (show x ∈ (m : List (NdF (Nd n))).map (clnX (cleanN n)) from hx)
      have h1 : smallF (SmallN n) y := h.each y hy
      show smallF (SmallN n) (clnX (cleanN n) y)
      refine ⟨?_, ?_, fun c hc => ?_⟩
      · show (if y.kind = 6 then ByteArray.empty else y.text).size ≤ _
        split
        · exact Nat.zero_le _
        · exact h1.1
      · show ((casesR y).map _).length ≤ _
        rw [List.length_map]
        exact Nat.le_trans (casesR_len y) h1.2.1
      · obtain ⟨d, hd, rfl⟩ := List.mem_map.1 (show c ∈ (casesR y).map (fun c => (c.1, cleanN n c.2)) from hc)
        have h2 := h1.2.2 d (casesR_sub hd)
        have h3 := clean_in n d.2 (h.body hy (casesR_sub hd))
        exact ⟨h2.1, h3.len, h3.each⟩
end Go.Proofs.YtjdfpoppimcikaaGreatDoor
/- linguisterref2.KeyFault. -/

namespace Go.Proofs.YtjdfpoppimcikaaGreatDoor
open Go.RowKit

end Go.Proofs.YtjdfpoppimcikaaGreatDoor
/- linguisterref2.Large: the walk; at any depth. -/

namespace Go.Proofs.YtjdfpoppimcikaaGreatDoor
open Go.RowKit

end Go.Proofs.YtjdfpoppimcikaaGreatDoor
/- linguisterref2.NodeFault: the walk. -/

namespace Go.Proofs.YtjdfpoppimcikaaGreatDoor
open Go.RowKit

def c5 (k : Int) (mark : Bool) : Bool := (decide (k < 1) || decide (6 < k)) || (k == 6 && !mark)
def c7 (k : Int) (t : ByteArray) (last : Option Int) : Bool := k == 1 && (t.toList.isEmpty || (match last with | none => false | some l => l == 1))
def c9 (k : Int) (t : ByteArray) : Bool := (!(k == 1) && !(k == 6)) && !nameR t
def c11 (k o : Int) : Bool := k == 4 && (decide (o < 0) || decide (9 < o))
theorem fineM_c (k : Int) (t : ByteArray) (last : Option Int) (mark : Bool) : fineM k t last mark = !(c5 k mark || c7 k t last || c9 k t) := by
  unfold fineM c5 c7 c9
  by_cases h1 : k = 1
  · subst h1
    rw [if_pos rfl]
    cases t.toList.isEmpty <;> cases mark <;> (rcases last with _ | l) <;> simp <;> rfl
  · rw [if_neg h1]
    by_cases h : k = 2 ∨ k = 3 ∨ k = 4 ∨ k = 5
    · rw [if_pos h]
      rcases h with rfl | rfl | rfl | rfl <;> cases nameR t <;> simp
    · rw [if_neg h]
      by_cases h6 : k = 6
      · subst h6
        cases mark <;> simp
      · have e1 : (k == 6) = false := by rw [beq_eq_false_iff_ne]; exact h6
        have e2 : (decide (k < 1) || decide (6 < k)) = true := by simp; omega
        rw [e1, e2]; simp
theorem c11_iff (k o : Int) : c11 k o = true ↔ k = 4 ∧ (o < 0 ∨ 9 < o) := by unfold c11; simp
theorem lastK_none {β : Type} (m : List (NdF β)) : lastK (m.take 0) = none := rfl
end Go.Proofs.YtjdfpoppimcikaaGreatDoor
/- linguisterref2.NodeFault at any depth; MsgFault: what the code's Check tells. -/

namespace Go.Proofs.YtjdfpoppimcikaaGreatDoor
open Go.RowKit

end Go.Proofs.YtjdfpoppimcikaaGreatDoor
/- linguisterref2.Clean. -/

namespace Go.Proofs.YtjdfpoppimcikaaGreatDoor
open Go.RowKit

theorem info_node : (Tryz.prog.info? 30).map (fun i => (i.zero, i.size, i.bytes)) = some (some (.agg #[.int .i64 0, .string ByteArray.empty, .int .i64 0, .slice none 0 0]), 4, 56) := by kernel_rfl
theorem info_case : (Tryz.prog.info? 76).map (fun i => (i.zero, i.size, i.bytes)) = some (some (.agg #[.string ByteArray.empty, .slice none 0 0]), 2, 40) := by kernel_rfl
theorem two_newsC (W : World) (a b : Value) (t : TypeId) : ∀ q u, ([a, b] : List Value)[q]? = some u → (W.alloc (.cells #[a, b] t)).cell? ⟨W.heap.size, 0 + q, none⟩ = some u := fun q u hq => by
  rw [Nat.zero_add, (Blk.new W t #[a, b]).cell q]; simpa using hq
theorem four_newsC (W : World) (a b c d : Value) (t : TypeId) : ∀ q u, ([a, b, c, d] : List Value)[q]? = some u → (W.alloc (.cells #[a, b, c, d] t)).cell? ⟨W.heap.size, 0 + q, none⟩ = some u := fun q u hq => by
  rw [Nat.zero_add, (Blk.new W t #[a, b, c, d]).cell q]; simpa using hq
end Go.Proofs.YtjdfpoppimcikaaGreatDoor
/- linguisterref2.Clean at any depth; PseudoOf. -/

namespace Go.Proofs.YtjdfpoppimcikaaGreatDoor
open Go.RowKit

section
variable {α : Type}
theorem step_set (f : α → α) : ∀ (l : List α) (q : Nat) (h : q < l.length), ((l.take q).map f ++ l.drop q).set q (f l[q]) = (l.take (q + 1)).map f ++ l.drop (q + 1)
  | [], q, h => by cases h
  | x :: l, 0, _ => by simp
  | x :: l, q + 1, h => by
    have := step_set f l q (by simpa using h)
    simpa using this
theorem mid_len (f : α → α) (l : List α) (q : Nat) : ((l.take q).map f ++ l.drop q).length = l.length := by
  rw [List.length_append, List.length_map, List.length_take, List.length_drop]; omega
theorem mid_at (f : α → α) : ∀ (l : List α) (q : Nat) (h : q < l.length), ((l.take q).map f ++ l.drop q)[q]'(by rw [mid_len]; exact h) = l[q]
  | [], q, h => by cases h
  | x :: l, 0, _ => by simp
  | x :: l, q + 1, h => by
    have := mid_at f l q (by simpa using h)
    simpa using this
end
section
variable {β : Type}
theorem plain_len {xs : List (CN β)} {M : List (NdF β)} (h : xs.map CN.plain = M) : xs.length = M.length := by rw [← h, List.length_map]
theorem plain_at {xs : List (CN β)} {M : List (NdF β)} (h : xs.map CN.plain = M) (j : Nat) (hj : j < xs.length) (hM : j < M.length) : xs[j].plain = M[j] := by
  subst h
  rw [List.getElem_map]
theorem plain_text {xs : List (CN β)} {M : List (NdF β)} (h : xs.map CN.plain = M) (j : Nat) (hj : j < xs.length) (t : ByteArray) {y : NdF β} (hy : xs[j].plain = y) : (xs.set j { xs[j] with text := t }).map CN.plain = M.set j { y with text := t } := by
  rw [List.map_set, h, ← hy]; rfl
theorem plain_body {xs : List (CN β)} {M : List (NdF β)} (h : xs.map CN.plain = M) (j : Nat) (hj : j < xs.length) (q : Nat) (b : CB β) {y : NdF β} (hy : xs[j].plain = y) : (xs.set j { xs[j] with bods := xs[j].bods.set q b }).map CN.plain = M.set j { y with cases := y.cases.set q b.plain } := by
  rw [List.map_set, h, ← hy]
  congr 1
  show (⟨_, _, _, (xs[j].bods.set q b).map CB.plain⟩ : NdF β) = ⟨_, _, _, (xs[j].bods.map CB.plain).set q b.plain⟩
  rw [List.map_set]
  rfl
/-- the cells of a node that was made -/
theorem Sep.cells {E : Enc β} {base : Nat} {W : World} {A : Option Addr} {n c : Nat} {xs : List (CN β)} (h : Sep E base W (.slice A n c) xs) (j : Nat) (hj : j < xs.length) :
    n = xs.length ∧ ∃ g, A = some ⟨g, 0, none⟩ ∧ base ≤ g ∧ g < W.heap.size ∧ W.cell? ⟨g, j * 4, none⟩ = some (.int .i64 xs[j].kind) ∧ W.cell? ⟨g, j * 4 + 1, none⟩ = some (.string xs[j].text) ∧ W.cell? ⟨g, j * 4 + 3, none⟩ = some xs[j].v ∧ ∀ k, W.frozen? ⟨g, k, none⟩ = false := by
  obtain ⟨A', c', hv, _⟩ := own_slice h.row
  injection hv with _ hn _
  subst hn
  refine ⟨rfl, ?_⟩
  obtain ⟨g, hA, h1, h2, h3, h4⟩ := own_at h.row (j * 4) (by omega)
  have hat := flatM_at xs j hj
  have hc : ∀ q u, q < 4 → (CN.row xs[j])[q]? = some u → W.cell? ⟨g, j * 4 + q, none⟩ = some u := fun q u hq hu => by
    obtain ⟨g', hA', _, _, h3', _⟩ := own_at h.row (j * 4 + q) (by omega)
    rw [hA] at hA'
    injection hA' with hA'
    injection hA' with hA'
    subst hA'
    rw [h3', ← hu, ← hat, List.getElem?_take, if_pos hq, List.getElem?_drop]
  refine ⟨g, hA, h1, h2, hc 0 _ (by decide) rfl, hc 1 _ (by decide) rfl, hc 3 _ (by decide) rfl, ?_⟩
  obtain ⟨_, ⟨_, h0⟩ | ⟨g', cap, cur, hv', hb', hh, _⟩⟩ := h.row
  · omega
  · rw [hA] at hv'
    injection hv' with e1
    injection e1 with e1
    injection e1 with e1
    subst e1
    exact fun k => Blk.frozen (t := 30) (cs := cur) hh k
/-- the cells of a case that was made -/
theorem Sep.body {E : Enc β} {base : Nat} {W : World} {out : Value} {xs : List (CN β)} (h : Sep E base W out xs) (j : Nat) (hj : j < xs.length) (q : Nat) (hq : q < xs[j].bods.length) :
    ∃ r c, xs[j].v = .slice (some ⟨r, 0, none⟩) xs[j].bods.length c ∧ base ≤ r ∧ r < W.heap.size ∧ W.cell? ⟨r, q * 2 + 1, none⟩ = some xs[j].bods[q].u ∧ W.frozen? ⟨r, q * 2 + 1, none⟩ = false := by
  have hc := h.cas _ (List.getElem_mem hj)
  obtain ⟨A, c, hv, _⟩ := own_slice hc
  rw [hv] at hc
  obtain ⟨r, hA, h1, h2, h3, h4⟩ := own_at hc (q * 2 + 1) (by omega)
  refine ⟨r, c, by rw [hv, hA], h1, h2, ?_, h4⟩
  have hat := flatC_at xs[j].bods q hq
  have e : (flatC xs[j].bods)[q * 2 + 1]? = (CB.row xs[j].bods[q])[1]? := by rw [← hat, List.getElem?_take, if_pos (by decide), List.getElem?_drop]
  rw [h3, e]; rfl
end
end Go.Proofs.YtjdfpoppimcikaaGreatDoor
