/- Contracts of the library's functions, laid at this seat's dump by the shelf's own programs. -/
import Derived.Shelf.Strings.Builder1
import Derived.Shelf.Strings.Builder2
import Derived.Shelf.Strings.OnBuilder
import Derived.Shelf.Strings.Trim
import Derived.Shelf.Small.Utf8
import Derived.Shelf.Small.Strs
import Derived.Shelf.Small.Wraps
import Derived.Shelf.Strings.BuilderF
import Derived.Shelf.Strings.BuilderK
import Derived.Shelf.Strings.Builder2Cap
import Derived.Shelf.Strconv.Atoi
import Derived.Shelf.Strconv.Itoa0
import Derived.Shelf.Strconv.Itoa1
import Derived.Shelf.LaysM
import Derived.Shelf.Strconv.Itoa2
import Derived.Shelf.Strconv.Itoa3
import Derived.Shelf.Strconv.AtoiErrFast
import Derived.Shelf.Strconv.ParseIntEmpty
import Derived.Shelf.Strconv.AtoiFail
import Derived.Shelf.Strconv.Clone
import Derived.Shelf.Strconv.SyntaxError
import Derived.Shelf.LaysC
import Derived.Shelf.Strconv.ToError
import Derived.Shelf.Strconv.Lower
import Derived.Shelf.Strconv.ParseUint10
import Derived.Shelf.Strconv.ParseUint10Empty
import Derived.Shelf.Strconv.ParseUint10Any
import Derived.Shelf.Strconv.ParseInt10
import Derived.Shelf.Strconv.AtoiLong
import Derived.Shelf.Strconv.AtoiInnerAll
import Derived.Shelf.Strconv.RangeError
import Derived.Shelf.Strconv.ToErrorRange
import Derived.Shelf.Strconv.AtoiAll
import Derived.Shelf.Strconv.ErrVarAll
import Derived.Shelf.Strconv.ParseUintEmpty
import Derived.Shelf.Strconv.ParseUint10b64
import Derived.Shelf.Strconv.ParseUint10b32
import Derived.Shelf.Strconv.ParseUint10b16
import Derived.Shelf.Strconv.ParseUint10b8
import Derived.Shelf.Strconv.ParseUint10At
import Derived.Shelf.Strings.Search1
import Derived.Shelf.Strings.Search2
import Derived.Shelf.Strings.Search3
import Derived.Shelf.Strings.Cut
import Derived.Shelf.Strings.Shaped
import Derived.Shelf.Strings.Prefix
import Derived.Shelf.Strings.Runes
import Derived.Shelf.Strings.IndexAny
import Derived.Shelf.Strings.AsciiSet
import Derived.Shelf.Strings.IndexAnyAll
import Derived.Shelf.Bits.Mul64
import Derived.Shelf.Strings.Repeat
import Derived.Shelf.Unicode.DecodeSlow
import Derived.Shelf.Strings.BuilderCap
import Derived.Shelf.Slices.Turned
import Derived.Ground.Names2Prog
import Derived.Shelf.Slices.ReverseS
import Derived.Shelf.Slices.Cells
import Derived.Ground.SlgfProg
import Derived.Shelf.SlicesQ.IndexFunc
import Derived.Test.YtjdfpoppimcikaaGreatDoorProg
import Derived.Test.YtjdfpoppimcikaaGreatDoorEvlB
import Derived.Lib.Builder
import Derived.Lib.AppendStr
namespace Go.Proofs
open Go.Shelf
def Tryz.lays169_ren : Go.Shelf.Ren := ⟨fun | 169 => 19 | n => n, fun | 70 => 57 | 9 => 9 | 0 => 0 | 72 => 60 | 37 => 58 | 127 => 106 | 3 => 3 | 5 => 5 | n => n, fun | n => n⟩
theorem Tryz.lays169 : Go.Proofs.Lays.n169 Tryz.prog Tryz.lays169_ren := {
  mixed := by kernel_rfl
  f169 := Tryz.func19.trans (congrArg some (by kernel_rfl))
  t0 := Tryz.underlying0
  a0 := Tryz.isAgg0
  z0 := Tryz.sizeOf0
  v0 := Tryz.zeroValue0
  t3 := Tryz.underlying3
  a3 := Tryz.isAgg3
  z3 := Tryz.sizeOf3
  v3 := Tryz.zeroValue3
  t9 := Tryz.underlying9
  a9 := Tryz.isAgg9
  z9 := Tryz.sizeOf9
  v9 := Tryz.zeroValue9
  t37 := Tryz.underlying58
  a37 := Tryz.isAgg58
  z37 := Tryz.sizeOf58
  v37 := Tryz.zeroValue58
  t70 := Tryz.underlying57
  a70 := Tryz.isAgg57
  z70 := Tryz.sizeOf57
  v70 := Tryz.zeroValue57
  t72 := Tryz.underlying60
  a72 := Tryz.isAgg60
  z72 := Tryz.sizeOf60
  v72 := Tryz.zeroValue60
  t127 := Tryz.underlying106
  a127 := Tryz.isAgg106
  z127 := Tryz.sizeOf106
  v127 := Tryz.zeroValue106 }
theorem Tryz.Builder_Extra_169 : Builder.Extra Tryz.prog Tryz.lays169_ren := {
  sizeBuilder := by kernel_rfl
  liesBuilder := by kernel_rfl
  t5 := Tryz.underlying5
  a5 := Tryz.isAgg5
  z5 := Tryz.sizeOf5
  v5 := Tryz.zeroValue5
  infoByte := by kernel_rfl
  cellsByte := by kernel_rfl
  sizeByte := by kernel_rfl
  neB5 := by decide }
open Go.RowKit in
theorem Tryz.Builder_String (B b : Nat) (l : List UInt8) (w : World) (h : Lib.IsBuilder 60 5 B b (Lib.byteCells l) w) (h0 : l ≠ []) :
    Calls Tryz.prog 19 #[.pointer (some ⟨b, 0, none⟩)] w fun e w' => e = .returned (.string ⟨l.toArray⟩) ∧ Below B w w' := Any.Builder_String Tryz.lays169 Tryz.Builder_Extra_169 B b l w h h0
open Go.RowKit in
theorem Tryz.Builder_String_empty (B b : Nat) (w : World) (h : Lib.IsBuilder 60 5 B b [] w) (hBw : B ≤ w.heap.size) :
    Calls Tryz.prog 19 #[.pointer (some ⟨b, 0, none⟩)] w fun e w' => e = .returned (.string ⟨#[]⟩) ∧ Below B w w' := Any.Builder_String_empty Tryz.lays169 Tryz.Builder_Extra_169 B b w h hBw
open Go.RowKit in
theorem Tryz.Builder_String_any (B b : Nat) (l : List UInt8) (w : World) (h : Lib.IsBuilder 60 5 B b (Lib.byteCells l) w) (hBw : B ≤ w.heap.size) :
    Calls Tryz.prog 19 #[.pointer (some ⟨b, 0, none⟩)] w fun e w' => e = .returned (.string ⟨l.toArray⟩) ∧ Below B w w' := Any.Builder_String_any Tryz.lays169 Tryz.Builder_Extra_169 B b l w h hBw
end Go.Proofs
/- The speaker: one block of eight cells (a set, the args, a builder at offset 6): what its builder's methods do. -/

namespace Go.Proofs.YtjdfpoppimcikaaGreatDoor
open Go.RowKit

/- ## What a saying leaves: all blocks but the speaker's and rows of bytes -/
structure BwK (B k : Nat) (w w' : World) : Prop where
  below : Below B w w'
  kept : ∀ g, g < w.heap.size → g ≠ k → (∀ cs f, w.heap[g]? ≠ some (.cells cs 5 f)) → w'.heap[g]? = w.heap[g]?
section
variable {B k : Nat} {w w1 w' : World}
theorem BwK.refl (B k : Nat) (w : World) : BwK B k w w := ⟨Below.refl _ _, fun _ _ _ _ => rfl⟩
theorem BwK.trans (h : BwK B k w w1) (h2 : BwK B k w1 w') : BwK B k w w' :=
  ⟨h.below.trans h2.below, fun g hg hk hn => by
    have h3 := h.kept g hg hk hn
    exact (h2.kept g (Nat.lt_of_lt_of_le hg h.below.size) hk (fun cs f => by rw [h3]; exact hn cs f)).trans h3⟩
theorem BwK.of (h : Below w.heap.size w w') (hB : B ≤ w.heap.size) : BwK B k w w' := ⟨h.mono hB, fun g hg _ _ => h.block g hg⟩
theorem BwK.setCell (h : BwK B k w w1) (hB : B ≤ k) (j : Nat) (v : Value) : BwK B k w (w1.setCell ⟨k, j, none⟩ v) :=
  h.trans ⟨(Below.refl _ _).setCell (p := ⟨k, j, none⟩) hB v, fun g _ hk _ => Below.heap_setCell _ _ _ _ hk⟩
theorem BwK.blk (h : BwK B k w w') {g : Nat} {t : TypeId} {cs : Array Value} (hb : Blk w g t cs) (hk : g ≠ k) (ht : t ≠ 5) : Blk w' g t cs :=
  (h.kept g hb.lt hk (fun cs' f e => by
    unfold Blk at hb
    rw [hb] at e
    injection e with e
    injection e with _ e
    exact ht e)).trans hb
theorem BwK.grown {v : Value} {n : Nat} {xs : List Value} (h : BwK B k w w1) (hown : w1.ownsRow B 5 1 v n xs) (hg : w1.grownBy w' v.ownBlock) (hB : B ≤ w1.heap.size) : BwK B k w w' :=
  h.trans ⟨(Below.refl B w1).grown hg hB (fun k hk => (own_lt hown hk).1), fun g hgl _ hn => hg.block g hgl (fun e => by
    obtain ⟨_, ⟨h2, _⟩ | ⟨g', cap, cur, hv, _, hh, _⟩⟩ := hown
    · rw [h2] at e; cases e
    · rw [hv] at e
      injection e with e
      subst e
      exact hn _ _ hh)⟩
end
/-- what lies in a speaker's block -/
def spkC (s : SetV) (am p v : Value) : Array Value := #[.string s.z, .string s.o, .string s.t, .string s.f, .string s.m, am, p, v]
def SpkAt (B k : Nat) (s : SetV) (am p : Value) (l : List UInt8) (w : World) : Prop :=
  B ≤ k ∧ ∃ v, w.heap[k]? = some (.cells (spkC s am p v) 62 (0, 0)) ∧ w.ownsRow B 5 1 v l.length (Lib.byteCells l) ∧ v.ownBlock ≠ some k
def Spk (B k : Nat) (s : SetV) (am : Value) (l : List UInt8) (w : World) : Prop :=
  SpkAt B k s am (.pointer none) l w ∨ SpkAt B k s am (.pointer (some ⟨k, 6, none⟩)) l w
theorem lies_spk : liesAt Tryz.prog Tryz.prog.depth 62 (8 / Tryz.prog.cellsOf 62) 6 60 1 = true := by kernel_rfl
theorem sz_bldS : (Tryz.prog.info? 60).map (·.size) = some 2 := by kernel_rfl
theorem spk_new (w : World) (s : SetV) (am : Value) : Spk w.heap.size w.heap.size s am [] (w.alloc (.cells (spkC s am (.pointer none) (.slice none 0 0)) 62)) :=
  Or.inl ⟨Nat.le_refl _, .slice none 0 0, heap_alloc_new w _, World.ownsRow_nil _ _ _ _, by simp [Value.ownBlock]⟩
theorem SpkAt.lt {B k : Nat} {s : SetV} {am p : Value} {l : List UInt8} {w : World} (h : SpkAt B k s am p l w) : k < w.heap.size := by
  obtain ⟨_, v, hb, _⟩ := h
  exact Blk.lt hb
theorem Spk.some {B k : Nat} {s : SetV} {am : Value} {l : List UInt8} {w : World} (h : Spk B k s am l w) : ∃ p, SpkAt B k s am p l w := by
  rcases h with h | h
  · exact ⟨_, h⟩
  · exact ⟨_, h⟩
theorem Spk.lt {B k : Nat} {s : SetV} {am : Value} {l : List UInt8} {w : World} (h : Spk B k s am l w) : k < w.heap.size := by
  obtain ⟨p, h⟩ := h.some
  exact h.lt
theorem SpkAt.keep {B k : Nat} {s : SetV} {am p : Value} {l : List UInt8} {w w' : World} (h : SpkAt B k s am p l w) (hb : Below w.heap.size w w') : SpkAt B k s am p l w' := by
  have hlt := h.lt
  obtain ⟨hB, v, hk, ho, hn⟩ := h
  exact ⟨hB, v, (hb.block k hlt).trans hk, own_keep ho fun g _ hg => hb.block g hg, hn⟩
theorem Spk.keep {B k : Nat} {s : SetV} {am : Value} {l : List UInt8} {w w' : World} (h : Spk B k s am l w) (hb : Below w.heap.size w w') : Spk B k s am l w' := h.imp (·.keep hb) (·.keep hb)
theorem Spk.cell {B k : Nat} {s : SetV} {am : Value} {l : List UInt8} {w : World} (h : Spk B k s am l w) (j : Nat) (hj : j < 6) : w.cell? ⟨k, j, none⟩ = (#[.string s.z, .string s.o, .string s.t, .string s.f, .string s.m, am] : Array Value)[j]? := by
  obtain ⟨p, _, v, hb, _⟩ := h.some
  rw [Lib.cell_of_heap hb]
  match j, hj with
  | 0, _ => rfl
  | 1, _ => rfl
  | 2, _ => rfl
  | 3, _ => rfl
  | 4, _ => rfl
  | 5, _ => rfl
theorem SpkAt.used {B k : Nat} {s : SetV} {am p : Value} {l : List UInt8} {w : World} (h : SpkAt B k s am p l w) (q : Value) : SpkAt B k s am q l (w.setCell ⟨k, 6, none⟩ q) := by
  obtain ⟨hB, v, hb, hown, hne⟩ := h
  refine ⟨hB, v, ?_, ?_, hne⟩
  · simp [World.setCell, Array.getElem?_modify, hb, spkC]
  · exact hown.kept (row := some k) ⟨rfl, rfl, rfl, by simp [World.setCell], fun g _ hg => Below.heap_setCell _ _ _ _ (fun e => hg (by simp [e]))⟩ (Or.inr hne)
theorem SpkAt.put {B k : Nat} {s : SetV} {am p v v' : Value} {l : List UInt8} {w : World} (hB : B ≤ k) (hb : w.heap[k]? = some (.cells (spkC s am p v) 62 (0, 0))) (hown : w.ownsRow B 5 1 v' l.length (Lib.byteCells l)) : SpkAt B k s am p l (w.setCell ⟨k, 7, none⟩ v') := by
  have hne := Lib.ownBlock_ne hown hb (by decide)
  refine ⟨hB, v', ?_, ?_, hne⟩
  · simp [World.setCell, Array.getElem?_modify, hb, spkC]
  · exact hown.kept (row := some k) ⟨rfl, rfl, rfl, by simp [World.setCell], fun g _ hg => Below.heap_setCell _ _ _ _ (fun e => hg (by simp [e]))⟩ (Or.inr hne)
set_option maxRecDepth 100000 in
set_option maxHeartbeats 1000000 in
theorem lookedS_any (B k : Nat) (s : SetV) (am : Value) (l : List UInt8) (w : World) (h : Spk B k s am l w) :
    Calls Tryz.prog 59 #[.pointer (some ⟨k, 6, none⟩)] w fun e w' => e = .returned (.tuple #[]) ∧ SpkAt B k s am (.pointer (some ⟨k, 6, none⟩)) l w' ∧ BwK B k w w' ∧ w'.heap.size = w.heap.size := by
  obtain ⟨j, hj, hjs⟩ := Option.map_eq_some_iff.1 sz_bldS
  rcases h with h | h
  · have HA := Lib.hid (h.used (.pointer (some ⟨k, 6, none⟩)))
    have HB := Lib.hid ((BwK.refl B k w).setCell h.1 6 (.pointer (some ⟨k, 6, none⟩)))
    obtain ⟨_, v, hb, _⟩ := h
    have c0 : w.cell? ⟨k, 6, none⟩ = some (.pointer none) := by rw [Lib.cell_of_heap hb]; rfl
    have f0 : w.frozen? ⟨k, 6, none⟩ = false := Lib.frozen_of_heap hb 6
    have hsh : w.shape? k = some (62, 8) := by simp [World.shape?, hb, spkC]
    have hc1 := Lib.run_to_unsafe w (P := Tryz.prog) (src := 57) (dst := 134) ⟨k, 6, none⟩ Tryz.underlying57 Tryz.underlying134 hj (by rw [hjs]; decide) hsh (by show 6 < 8; omega)
    have hc2 := Lib.run_from_unsafe w (P := Tryz.prog) (src := 134) (dst := 57) ⟨k, 6, none⟩ Tryz.underlying134 Tryz.underlying57 hj hsh lies_spk
    have hn : (callFunc 105 #[.pointer (some ⟨k, 6, none⟩)]).run Tryz.prog w = .ok (.value (.pointer (some ⟨k, 6, none⟩))) w := by
      rw [run_callFunc_extern Tryz.func105 (by kernel_rfl) (by kernel_rfl) (by kernel_rfl) (e := Extern.AbiNoEscape.same) (by kernel_rfl), Lib.run_noEscape]; rfl
    clear hb hsh hj hjs
    go_enter Tryz.func59, Tryz.ntmps59
    go_wp2
    go_end0
    exact ⟨rfl, HA.out, HB.out, by simp⟩
  · have HH := Lib.hid h
    obtain ⟨_, v, hb, _⟩ := h
    have c0 : w.cell? ⟨k, 6, none⟩ = some (.pointer (some ⟨k, 6, none⟩)) := by rw [Lib.cell_of_heap hb]; rfl
    clear hb
    have hr := Lib.run_neq_ptr_same w (P := Tryz.prog) (tp := 57) ⟨k, 6, none⟩ Tryz.underlying57 hj
    go_enter Tryz.func59, Tryz.ntmps59
    go_wp2
    go_end0
    exact ⟨rfl, HH.out, BwK.refl _ _ _, rfl⟩
theorem str_cellsS (s : ByteArray) : Lib.strCells s = Lib.byteCells (bts s) := rfl
theorem bytes_appS (l r : List UInt8) : Lib.byteCells l ++ Lib.byteCells r = Lib.byteCells (l ++ r) := by unfold Lib.byteCells; rw [List.map_append]
theorem info_byteS : (Tryz.prog.info? 5).map (fun i => (i.zero, i.size, i.bytes)) = some (some (.int .u8 0), 1, 1) := by kernel_rfl
set_option maxRecDepth 100000 in
set_option maxHeartbeats 1000000 in
theorem wstrS_any (B k : Nat) (st : SetV) (am : Value) (l : List UInt8) (s : ByteArray) (w : World) (h : Spk B k st am l w) (hl : l.length + s.size ≤ 140737488355328) (hB : B ≤ w.heap.size) :
    Calls Tryz.prog 34 #[.pointer (some ⟨k, 6, none⟩), .string s] w fun e w' => e = .returned (.tuple #[.int .i64 s.size, .nilIface]) ∧ Spk B k st am (l ++ bts s) w' ∧ BwK B k w w' := by
  have HL := Lib.hid (lookedS_any B k st am l w h)
  obtain ⟨i0, hi, hz0, hz1, hz2⟩ := info_parts info_byteS
  clear h
  go_enter Tryz.func34, Tryz.ntmps34
  go_wp2_with fail
  refine HL.out.mono ?_
  clear HL
  rintro e w1 ⟨rfl, ⟨hBk, v, hbk, hown, hne⟩, hb1, hs1⟩
  have c0 : w1.cell? ⟨k, 6, none⟩ = some (.pointer (some ⟨k, 6, none⟩)) := by rw [Lib.cell_of_heap hbk]; rfl
  have c1 : w1.cell? ⟨k, 7, none⟩ = some v := by rw [Lib.cell_of_heap hbk]; rfl
  have hkl : k < w1.heap.size := Blk.lt hbk
  have HbK := Lib.hid hbk
  have HNe := Lib.hid hne
  have HB1 := Lib.hid hb1
  have hbl : (Lib.byteCells l).length = l.length := Lib.byteCells_length l
  obtain ⟨A, cp, rfl, _⟩ := own_slice hown
  have HO := Lib.hid hown
  have hB1 : B ≤ w1.heap.size := by omega
  clear hbk hown hne hb1 hs1
  go_wp2_with (at_builtin; refine Lib.wpList_append_own_string _ rfl _ _ 58 9 rfl B 5 i0 Tryz.underlying58 Tryz.underlying9 hi hz0 hz1 hz2 _ _ _ rfl HO.out s rfl (by unfold maxLen; omega) (by omega) (by omega) ?_)
  intro v2 w2 hown2 hgrow2 _
  have hb2 : w2.heap[k]? = some (.cells (spkC st am (.pointer (some ⟨k, 6, none⟩)) (.slice A l.length cp)) 62 (0, 0)) := by
    rw [hgrow2.block k hkl (fun e => HNe.out e.symm)]
    exact HbK.out
  have d0 : w2.cell? ⟨k, 6, none⟩ = some (.pointer (some ⟨k, 6, none⟩)) := by rw [Lib.cell_of_heap hb2]; rfl
  have d1 : w2.cell? ⟨k, 7, none⟩ = some (.slice A l.length cp) := by rw [Lib.cell_of_heap hb2]; rfl
  have f1 : w2.frozen? ⟨k, 7, none⟩ = false := Lib.frozen_of_heap hb2 7
  obtain ⟨A2, c2, rfl, _⟩ := own_slice hown2
  have HP := Lib.hid (SpkAt.put (l := l ++ bts s) hBk hb2 (by rw [← bytes_appS, ← str_cellsS, List.length_append]; exact hown2))
  have HBe := Lib.hid ((HB1.out.grown HO.out hgrow2 hB1).setCell hBk 7 (.slice A2 (l.length + s.size) c2))
  clear hown2 hgrow2 hb2
  go_wp2_with fail
  go_ret2
  exact ⟨rfl, .inr HP.out, HBe.out⟩
end Go.Proofs.YtjdfpoppimcikaaGreatDoor
/- The speaker's builder: what its String answers. -/

namespace Go.Proofs.YtjdfpoppimcikaaGreatDoor
open Go.RowKit

theorem ubyteP : Tryz.prog.underlying 106 = some (.pointer 5) := Tryz.underlying106
set_option maxHeartbeats 2000000 in
set_option maxRecDepth 100000 in
theorem textS1_any (B k : Nat) (l : List UInt8) (s : SetV) (am : Value) (w : World) (h : Spk B k s am l w) (h0 : l ≠ []) :
    Calls Tryz.prog 19 #[.pointer (some ⟨k, 6, none⟩)] w fun e w' => e = .returned (.string (str l)) ∧ Below B w w' := by
  obtain ⟨p, hB, v, hbk, hown, hne⟩ := h.some
  have hl0 : l.length ≠ 0 := by simpa using h0
  obtain ⟨g, cap, cur, rfl, hbg, hg, hnc, hcm, hcs, htake⟩ : ∃ g cap cur, v = .slice (some ⟨g, 0, none⟩) l.length cap ∧ B ≤ g ∧ w.heap[g]? = some (.cells cur 5 (0, 0)) ∧ l.length ≤ cap ∧ cap ≤ maxLen ∧ cur.size = cap * 1 ∧ cur.toList.take (l.length * 1) = Lib.byteCells l := by
    rcases hown.2 with ⟨_, hz⟩ | ⟨g, cap, cur, hv, r⟩
    · exact absurd hz hl0
    · exact ⟨g, cap, cur, hv, r⟩
  have c1 : w.drew.cell? ⟨k, 7, none⟩ = some (.slice (some ⟨g, 0, none⟩) l.length cap) := by
    have : w.drew.heap[k]? = some (.cells (spkC s am p (.slice (some ⟨g, 0, none⟩) l.length cap)) 62 (0, 0)) := hbk
    rw [Lib.cell_of_heap this]; rfl
  have hSD : (Builtin.unsafeSliceData_ #[58] 106 #[.slice (some ⟨g, 0, none⟩) l.length cap]).run Tryz.prog w.drew = .ok (.pointer (some ⟨g, 0, none⟩)) w.drew :=
    Lib.run_unsafeSliceData_row _ _ _ _ _ _ (by omega)
  have hUS : (Builtin.unsafeString_ #[106, 3] 9 #[.pointer (some ⟨g, 0, none⟩), .int .i64 l.length]).run Tryz.prog w.drew = .ok (.string (str l)) (w.drew.freeze ⟨g, 0, none⟩ l.length) := by
    refine Lib.run_unsafeString_row w.drew 106 3 9 5 ubyteP (by kernel_rfl) g cur.size (by have hg' : w.drew.heap[g]? = some (.cells cur 5 (0, 0)) := hg; simp [World.shape?, hg']) l h0 (by omega) (by unfold maxLen at hcm; omega) ?_
    intro j x hx
    have := hown.cells (g := g) rfl j (.int .u8 x.toNat) (by simp [Lib.byteCells, hx])
    exact this
  have HB := Lib.hid (Lib.below_freeze (Below.drew (Below.refl B w)) (p := ⟨g, 0, none⟩) hbg l.length)
  clear h hbk hown hne hg hcs htake hnc hcm hB hbg
  go_enter Tryz.func19, Tryz.ntmps19
  go_wp2
  go_region
  all_goals (go_wp2; go_ret; exact ⟨rfl, HB.out⟩)
theorem uStrNone (W : World) (q : Option Addr) : (Builtin.unsafeString_ #[106, 3] 9 #[.pointer q, .int .i64 0]).run Tryz.prog W = .ok (.string .empty) W := Lib.run_unsafeString_none W _ _ _ q
set_option maxHeartbeats 2000000 in
set_option maxRecDepth 100000 in
theorem textS2_any (B k : Nat) (s : SetV) (am p : Value) (w : World) (hbk : w.heap[k]? = some (.cells (spkC s am p (.slice none 0 0)) 62 (0, 0))) :
    Calls Tryz.prog 19 #[.pointer (some ⟨k, 6, none⟩)] w fun e w' => e = .returned (.string ⟨#[]⟩) ∧ Below B w w' := by
  have hUS := uStrNone
  have c1 : w.drew.cell? ⟨k, 7, none⟩ = some (.slice none 0 0) := by
    have : w.drew.heap[k]? = some (.cells (spkC s am p (.slice none 0 0)) 62 (0, 0)) := hbk
    rw [Lib.cell_of_heap this]; rfl
  have hSD : (Builtin.unsafeSliceData_ #[58] 106 #[.slice none 0 0]).run Tryz.prog w.drew = .ok (.pointer none) w.drew := rfl
  clear hbk
  go_enter Tryz.func19, Tryz.ntmps19
  go_wp2
  go_region
  all_goals (go_wp2; go_ret; exact ⟨rfl, Below.drew (Below.refl B w)⟩)
set_option maxHeartbeats 2000000 in
set_option maxRecDepth 100000 in
theorem textS3_any (B k g : Nat) (s : SetV) (am p : Value) (cur : Array Value) (w : World) (hBw : B ≤ w.heap.size) (hbk : w.heap[k]? = some (.cells (spkC s am p (.slice (some ⟨g, 0, none⟩) 0 0)) 62 (0, 0))) (hg : w.heap[g]? = some (.cells cur 5 (0, 0))) :
    Calls Tryz.prog 19 #[.pointer (some ⟨k, 6, none⟩)] w fun e w' => e = .returned (.string ⟨#[]⟩) ∧ Below B w w' := by
  have hUS := uStrNone
  have hlt : k < w.heap.size := Blk.lt hbk
  have c1 : w.drew.cell? ⟨k, 7, none⟩ = some (.slice (some ⟨g, 0, none⟩) 0 0) := by
    have : w.drew.heap[k]? = some (.cells (spkC s am p (.slice (some ⟨g, 0, none⟩) 0 0)) 62 (0, 0)) := hbk
    rw [Lib.cell_of_heap this]; rfl
  have hSD : (Builtin.unsafeSliceData_ #[58] 106 #[.slice (some ⟨g, 0, none⟩) 0 0]).run Tryz.prog w.drew = .ok (.pointer (some ⟨w.drew.heap.size, 0, none⟩)) (w.drew.alloc (.view ⟨g, 0, none⟩ 5)) :=
    Lib.run_unsafeSliceData_zero w.drew _ _ 5 ubyteP ⟨g, 0, none⟩ 0 (5, cur.size) (by have hg' : w.drew.heap[g]? = some (.cells cur 5 (0, 0)) := hg; simp [World.shape?, hg'])
  have c2 : (w.drew.alloc (.view ⟨g, 0, none⟩ 5)).cell? ⟨k, 7, none⟩ = some (.slice (some ⟨g, 0, none⟩) 0 0) := by
    have : (w.drew.alloc (.view ⟨g, 0, none⟩ 5)).heap[k]? = _ := (Lib.alloc_old w.drew _ k hlt).trans hbk
    rw [Lib.cell_of_heap this]; rfl
  have c3 : (w.alloc (.view ⟨g, 0, none⟩ 5)).drew.cell? ⟨k, 7, none⟩ = some (.slice (some ⟨g, 0, none⟩) 0 0) := c2
  have c0 : w.cell? ⟨k, 7, none⟩ = some (.slice (some ⟨g, 0, none⟩) 0 0) := c1
  clear hbk hg hlt
  go_enter Tryz.func19, Tryz.ntmps19
  go_wp2
  go_region
  all_goals (go_wp2; go_ret; exact ⟨rfl, (Below.drew (Below.refl B w)).alloc hBw _⟩)
set_option maxHeartbeats 2000000 in
set_option maxRecDepth 100000 in
theorem textS4_any (B k g cap : Nat) (s : SetV) (am p : Value) (w : World) (hc0 : cap ≠ 0) (hbk : w.heap[k]? = some (.cells (spkC s am p (.slice (some ⟨g, 0, none⟩) 0 cap)) 62 (0, 0))) :
    Calls Tryz.prog 19 #[.pointer (some ⟨k, 6, none⟩)] w fun e w' => e = .returned (.string ⟨#[]⟩) ∧ Below B w w' := by
  have hUS := uStrNone
  have c1 : w.drew.cell? ⟨k, 7, none⟩ = some (.slice (some ⟨g, 0, none⟩) 0 cap) := by
    have : w.drew.heap[k]? = some (.cells (spkC s am p (.slice (some ⟨g, 0, none⟩) 0 cap)) 62 (0, 0)) := hbk
    rw [Lib.cell_of_heap this]; rfl
  have hSD : (Builtin.unsafeSliceData_ #[58] 106 #[.slice (some ⟨g, 0, none⟩) 0 cap]).run Tryz.prog w.drew = .ok (.pointer (some ⟨g, 0, none⟩)) w.drew :=
    Lib.run_unsafeSliceData_row _ _ _ _ _ _ hc0
  clear hc0 hbk
  go_enter Tryz.func19, Tryz.ntmps19
  go_wp2
  go_region
  all_goals (go_wp2; go_ret; exact ⟨rfl, Below.drew (Below.refl B w)⟩)
theorem textS_any (B k : Nat) (l : List UInt8) (s : SetV) (am : Value) (w : World) (h : Spk B k s am l w) (hBw : B ≤ w.heap.size) :
    Calls Tryz.prog 19 #[.pointer (some ⟨k, 6, none⟩)] w fun e w' => e = .returned (.string (str l)) ∧ Below B w w' := by
  rcases List.eq_nil_or_concat l with rfl | ⟨l', x, rfl⟩
  · obtain ⟨p, hB, v, hbk, hown, hne⟩ := h.some
    rcases hown.2 with ⟨rfl, _⟩ | ⟨g, cap, cur, rfl, _, hg, _⟩
    · exact textS2_any B k s am p w hbk
    · rcases Nat.eq_zero_or_pos cap with rfl | hc
      · exact textS3_any B k g s am p cur w hBw hbk hg
      · exact textS4_any B k g cap s am p w (by omega) hbk
  · exact textS1_any B k _ s am w h (by simp)
end Go.Proofs.YtjdfpoppimcikaaGreatDoor
/- (*speaker).number: a numeral behind what is said so far. -/

namespace Go.Proofs.YtjdfpoppimcikaaGreatDoor
open Go.RowKit

theorem numT_len (d : DecV) : (numT d).length ≤ 400 := by
  unfold numT
  split
  · rename_i h
    have hok : d.ok := by
      rcases Classical.em d.ok with h1 | h1
      · exact h1
      · unfold numE at h; rw [if_neg h1] at h; exact absurd h (by decide)
    obtain ⟨_, h2, _, h4⟩ := fmt_len d hok
    unfold numS
    dsimp only
    split <;> split <;> (try rw [List.length_append]) <;> (try simp only [List.length_append, List.length_cons, List.length_nil]) <;> omega
  · simp
theorem bts_str' (l : List UInt8) : bts (str l) = l := rfl
set_option maxHeartbeats 1600000 in
set_option maxRecDepth 100000 in
theorem number_say (B k : Nat) (s : SetV) (am : Value) (l : List UInt8) (d : DecV) (w : World) (h : Spk B k s am l w) (hB : B ≤ w.heap.size) (hl : l.length + 400 ≤ 140737488355328) (hv : Hid (∀ W, Below B w W → EvV W)) :
    Calls Tryz.prog 60 #[.pointer (some ⟨k, 0, none⟩), d.v] w fun e w' => e = .returned (errD (numE d)) ∧ Spk B k s am (l ++ numT d) w' ∧ BwK B k w w' := by
  have hb1 : Below w.heap.size w (w.alloc (.cells #[.int .i64 d.coef, .int .i64 d.scale] 33)) := (Below.refl _ _).alloc (Nat.le_refl _) _
  have hS1 := h.keep hb1
  have hD := Blk.new w 33 #[.int .i64 d.coef, .int .i64 d.scale]
  have g0 := (hD.cell 0).trans (show _ = some (.int .i64 d.coef) from rfl)
  have g1 := (hD.cell 1).trans (show _ = some (.int .i64 d.scale) from rfl)
  have hNu : Calls Tryz.prog 30 #[.agg #[.int .i64 d.coef, .int .i64 d.scale]] (w.alloc (.cells #[.int .i64 d.coef, .int .i64 d.scale] 33)) fun e w' => e = .returned (.tuple #[.string (str (numT d)), errD (numE d)]) ∧ Below (w.alloc (.cells #[.int .i64 d.coef, .int .i64 d.scale] 33)).heap.size (w.alloc (.cells #[.int .i64 d.coef, .int .i64 d.scale] 33)) w' :=
    numeral_any d _ (hv.out _ (hb1.mono hB))
  have HNu := Lib.hid hNu
  have HS1 := Lib.hid hS1
  have HB1 := Lib.hid hb1
  have hnl := numT_len d
  have hW : ∀ W, Spk B k s am l W → B ≤ W.heap.size → Calls Tryz.prog 34 #[.pointer (some ⟨k, 6, none⟩), .string (str (numT d))] W fun e w' => e = .returned (.tuple #[.int .i64 (str (numT d)).size, .nilIface]) ∧ Spk B k s am (l ++ numT d) w' ∧ BwK B k W w' :=
    fun W h1 h2 => wstrS_any B k s am l (str (numT d)) W h1 (by rw [str_size]; omega) h2
  have HW := Lib.hid hW
  clear hNu hS1 hb1 hD hnl hW h hv hl
  unfold DecV.v
  go_enter Tryz.func60, Tryz.ntmps60
  go_wp2_with fail
  refine HNu.out.mono ?_
  clear HNu
  rintro e w2 ⟨rfl, hb2⟩
  have hS2 := HS1.out.keep hb2
  have HB2 : Hid (BwK B k w w2) := Lib.hid (BwK.of (HB1.out.trans (hb2.mono HB1.out.size)) hB)
  have hB2 : B ≤ w2.heap.size := Nat.le_trans (Nat.le_trans hB HB1.out.size) hb2.size
  clear hb2 HS1 HB1 g0 g1
  have HW2 := Lib.hid (HW.out w2 hS2 hB2)
  clear HW hS2
  go_wp2_with fail
  refine HW2.out.mono ?_
  clear HW2
  rintro e w3 ⟨rfl, hS3, hb3⟩
  have HF := Lib.hid (⟨hS3, HB2.out.trans hb3⟩ : Spk B k s am (l ++ numT d) w3 ∧ BwK B k w w3)
  clear hS3 hb3 HB2
  go_wp2_with fail
  go_ret
  exact ⟨rfl, HF.out⟩
end Go.Proofs.YtjdfpoppimcikaaGreatDoor
