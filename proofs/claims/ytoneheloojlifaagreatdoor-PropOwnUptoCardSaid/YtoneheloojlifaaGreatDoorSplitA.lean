/- Contracts of the library's functions, laid at this seat's dump by the shelf's own programs. -/
import Derived.Shelf.Strings.Builder1
import Derived.Shelf.Strings.Builder2
import Derived.Shelf.Strings.OnBuilder
import Derived.Shelf.Strings.Trim
import Derived.Shelf.Small.Utf8
import Derived.Shelf.Small.Bits
import Derived.Shelf.Small.Strs
import Derived.Shelf.Strings.BuilderF
import Derived.Shelf.Strings.BuilderK
import Derived.Shelf.Strings.Builder2Cap
import Derived.Shelf.Strconv.Itoa0
import Derived.Shelf.Strings.Search1
import Derived.Shelf.Strings.Search2
import Derived.Shelf.Strings.Search3
import Derived.Shelf.Strings.Cut
import Derived.Shelf.Strings.Count
import Derived.Shelf.LaysM
import Derived.Shelf.Strings.Shaped
import Derived.Shelf.Strings.Prefix
import Derived.Shelf.Strings.Split
import Derived.Shelf.Strings.SplitShaped
import Derived.Shelf.Strings.Runes
import Derived.Shelf.Strings.AsciiSet
import Derived.Shelf.Unicode.DecodeSlow
import Derived.Shelf.Unicode.DecodeAny
import Derived.Shelf.Strings.BuilderCap
import Derived.Shelf.Slices.Turned
import Derived.Ground.Names2Prog
import Derived.Shelf.Slices.Clone
import Derived.Ground.SlgnProg
import Derived.Shelf.SlicesE.Clone
import Derived.Ground.SlgfProg
import Derived.Shelf.SlicesE.IndexFunc
import Derived.Shelf.SlicesE.DeleteFunc
import Derived.Test.YtoneheloojlifaaGreatDoorProg
import Derived.Test.YtoneheloojlifaaGreatDoorLinesP
import Derived.Test.YtoneheloojlifaaGreatDoorTrim
import Derived.Test.YtoneheloojlifaaGreatDoorProp
namespace Go.Proofs
open Go.Shelf
def Tryz.lays145_ren : Go.Shelf.Ren := ⟨fun | 145 => 27 | 220 => 59 | 219 => 82 | 217 => 116 | 225 => 117 | 224 => 118 | 267 => 119 | 266 => 152 | 314 => 153 | n => n, fun | 9 => 9 | 4 => 4 | 59 => 58 | 3 => 3 | 5 => 5 | 46 => 128 | 146 => 214 | 51 => 80 | n => n, fun | 1 => 1 | n => n⟩
theorem Tryz.lays145 : Go.Proofs.Lays.n145 Tryz.prog Tryz.lays145_ren := {
  mixed := by kernel_rfl
  f145 := Tryz.func27.trans (congrArg some (by kernel_rfl))
  f217 := Tryz.func116.trans (congrArg some (by kernel_rfl))
  f219 := Tryz.func82.trans (congrArg some (by kernel_rfl))
  f220 := Tryz.func59.trans (congrArg some (by kernel_rfl))
  f224 := Tryz.func118.trans (congrArg some (by kernel_rfl))
  f225 := Tryz.func117.trans (congrArg some (by kernel_rfl))
  f266 := Tryz.func152.trans (congrArg some (by kernel_rfl))
  f267 := Tryz.func119.trans (congrArg some (by kernel_rfl))
  f314 := Tryz.func153.trans (congrArg some (by kernel_rfl))
  t3 := Tryz.underlying3
  a3 := Tryz.isAgg3
  z3 := Tryz.sizeOf3
  v3 := Tryz.zeroValue3
  t4 := Tryz.underlying4
  a4 := Tryz.isAgg4
  z4 := Tryz.sizeOf4
  v4 := Tryz.zeroValue4
  t5 := Tryz.underlying5
  a5 := Tryz.isAgg5
  z5 := Tryz.sizeOf5
  v5 := Tryz.zeroValue5
  t9 := Tryz.underlying9
  a9 := Tryz.isAgg9
  z9 := Tryz.sizeOf9
  v9 := Tryz.zeroValue9
  t46 := Tryz.underlying128
  a46 := Tryz.isAgg128
  z46 := Tryz.sizeOf128
  v46 := Tryz.zeroValue128
  t51 := Tryz.underlying80
  a51 := Tryz.isAgg80
  z51 := Tryz.sizeOf80
  v51 := Tryz.zeroValue80
  t59 := Tryz.underlying58
  a59 := Tryz.isAgg58
  z59 := Tryz.sizeOf58
  v59 := Tryz.zeroValue58
  t146 := Tryz.underlying214
  a146 := Tryz.isAgg214
  z146 := Tryz.sizeOf214
  v146 := Tryz.zeroValue214
  g1 := by kernel_rfl }
open Go.RowKit Go.Lib in
theorem Tryz.strings_Cut (s sep : ByteArray) (m : Int) (w : World) (hs : s.size < 4294967281) (hm : w.cell? ⟨1, 0, none⟩ = some (.int .i64 m)) :
    Calls Tryz.prog 27 #[.string s, .string sep] w fun e w' => e = .returned (.tuple #[.string ⟨(Lib.cut s.data.toList sep.data.toList).1.toArray⟩, .string ⟨(Lib.cut s.data.toList sep.data.toList).2.1.toArray⟩, .bool (Lib.cut s.data.toList sep.data.toList).2.2]) ∧ ∃ n, w' = w.drewN n := Any.strings_Cut Tryz.lays145 s sep m w hs hm
def Tryz.lays99_ren : Go.Shelf.Ren := ⟨fun | 99 => 25 | 206 => 57 | n => n, fun | 9 => 9 | 4 => 4 | 3 => 3 | n => n, fun | n => n⟩
theorem Tryz.lays99 : Go.Proofs.Lays.n99 Tryz.prog Tryz.lays99_ren := {
  mixed := by kernel_rfl
  f99 := Tryz.func25.trans (congrArg some (by kernel_rfl))
  f206 := Tryz.func57.trans (congrArg some (by kernel_rfl))
  t3 := Tryz.underlying3
  a3 := Tryz.isAgg3
  z3 := Tryz.sizeOf3
  v3 := Tryz.zeroValue3
  t4 := Tryz.underlying4
  a4 := Tryz.isAgg4
  z4 := Tryz.sizeOf4
  v4 := Tryz.zeroValue4
  t9 := Tryz.underlying9
  a9 := Tryz.isAgg9
  z9 := Tryz.sizeOf9
  v9 := Tryz.zeroValue9 }
open Go.RowKit Go.Lib in
theorem Tryz.strings_HasPrefix (s p : ByteArray) (w : World) :
    Calls Tryz.prog 25 #[.string s, .string p] w fun e w' => e = .returned (.bool (Lib.hasPrefix s.data.toList p.data.toList)) ∧ w' = w := Any.strings_HasPrefix Tryz.lays99 s p w
def Tryz.lays100_ren : Go.Shelf.Ren := ⟨fun | 100 => 26 | 207 => 58 | n => n, fun | 9 => 9 | 4 => 4 | 3 => 3 | n => n, fun | n => n⟩
theorem Tryz.lays100 : Go.Proofs.Lays.n100 Tryz.prog Tryz.lays100_ren := {
  mixed := by kernel_rfl
  f100 := Tryz.func26.trans (congrArg some (by kernel_rfl))
  f207 := Tryz.func58.trans (congrArg some (by kernel_rfl))
  t3 := Tryz.underlying3
  a3 := Tryz.isAgg3
  z3 := Tryz.sizeOf3
  v3 := Tryz.zeroValue3
  t4 := Tryz.underlying4
  a4 := Tryz.isAgg4
  z4 := Tryz.sizeOf4
  v4 := Tryz.zeroValue4
  t9 := Tryz.underlying9
  a9 := Tryz.isAgg9
  z9 := Tryz.sizeOf9
  v9 := Tryz.zeroValue9 }
open Go.RowKit Go.Lib in
theorem Tryz.strings_HasSuffix (s p : ByteArray) (w : World) (hs : s.size ≤ 9223372036854775807) :
    Calls Tryz.prog 26 #[.string s, .string p] w fun e w' => e = .returned (.bool (Lib.hasSuffix s.data.toList p.data.toList)) ∧ w' = w := Any.strings_HasSuffix Tryz.lays100 s p w hs
def Tryz.lays102_ren : Go.Shelf.Ren := ⟨fun | 102 => 28 | 209 => 60 | 207 => 58 | n => n, fun | 9 => 9 | 4 => 4 | 3 => 3 | n => n, fun | n => n⟩
theorem Tryz.lays102 : Go.Proofs.Lays.n102 Tryz.prog Tryz.lays102_ren := {
  mixed := by kernel_rfl
  f102 := Tryz.func28.trans (congrArg some (by kernel_rfl))
  f207 := Tryz.func58.trans (congrArg some (by kernel_rfl))
  f209 := Tryz.func60.trans (congrArg some (by kernel_rfl))
  t3 := Tryz.underlying3
  a3 := Tryz.isAgg3
  z3 := Tryz.sizeOf3
  v3 := Tryz.zeroValue3
  t4 := Tryz.underlying4
  a4 := Tryz.isAgg4
  z4 := Tryz.sizeOf4
  v4 := Tryz.zeroValue4
  t9 := Tryz.underlying9
  a9 := Tryz.isAgg9
  z9 := Tryz.sizeOf9
  v9 := Tryz.zeroValue9 }
open Go.RowKit Go.Lib in
theorem Tryz.strings_TrimSuffix (s p : ByteArray) (w : World) (hs : s.size ≤ 9223372036854775807) :
    Calls Tryz.prog 28 #[.string s, .string p] w fun e w' => e = .returned (.string ⟨(Lib.trimSuffix s.data.toList p.data.toList).toArray⟩) ∧ w' = w := Any.strings_TrimSuffix Tryz.lays102 s p w hs
def Tryz.lays221_ren : Go.Shelf.Ren := ⟨fun | 221 => 49 | 268 => 75 | 138 => 76 | 143 => 77 | 195 => 111 | 197 => 79 | 218 => 112 | 219 => 82 | 260 => 113 | 217 => 116 | 225 => 117 | 224 => 118 | 267 => 119 | 266 => 152 | 314 => 153 | n => n, fun | 9 => 9 | 3 => 3 | 31 => 30 | 4 => 4 | 0 => 0 | 105 => 131 | 21 => 21 | 5 => 5 | 46 => 128 | 119 => 172 | 139 => 212 | 138 => 211 | 146 => 214 | 51 => 80 | n => n, fun | 1 => 1 | 3 => 2 | 4 => 3 | n => n⟩
theorem Tryz.lays221 : Go.Proofs.Lays.n221 Tryz.prog Tryz.lays221_ren := {
  mixed := by kernel_rfl
  f138 := Tryz.func76.trans (congrArg some (by kernel_rfl))
  f143 := Tryz.func77.trans (congrArg some (by kernel_rfl))
  f195 := Tryz.func111.trans (congrArg some (by kernel_rfl))
  f197 := Tryz.func79.trans (congrArg some (by kernel_rfl))
  f217 := Tryz.func116.trans (congrArg some (by kernel_rfl))
  f218 := Tryz.func112.trans (congrArg some (by kernel_rfl))
  f219 := Tryz.func82.trans (congrArg some (by kernel_rfl))
  f221 := Tryz.func49.trans (congrArg some (by kernel_rfl))
  f224 := Tryz.func118.trans (congrArg some (by kernel_rfl))
  f225 := Tryz.func117.trans (congrArg some (by kernel_rfl))
  f260 := Tryz.func113.trans (congrArg some (by kernel_rfl))
  f266 := Tryz.func152.trans (congrArg some (by kernel_rfl))
  f267 := Tryz.func119.trans (congrArg some (by kernel_rfl))
  f268 := Tryz.func75.trans (congrArg some (by kernel_rfl))
  f314 := Tryz.func153.trans (congrArg some (by kernel_rfl))
  t0 := Tryz.underlying0
  a0 := Tryz.isAgg0
  z0 := Tryz.sizeOf0
  v0 := Tryz.zeroValue0
  t3 := Tryz.underlying3
  a3 := Tryz.isAgg3
  z3 := Tryz.sizeOf3
  v3 := Tryz.zeroValue3
  t4 := Tryz.underlying4
  a4 := Tryz.isAgg4
  z4 := Tryz.sizeOf4
  v4 := Tryz.zeroValue4
  t5 := Tryz.underlying5
  a5 := Tryz.isAgg5
  z5 := Tryz.sizeOf5
  v5 := Tryz.zeroValue5
  t9 := Tryz.underlying9
  a9 := Tryz.isAgg9
  z9 := Tryz.sizeOf9
  v9 := Tryz.zeroValue9
  t21 := Tryz.underlying21
  a21 := Tryz.isAgg21
  z21 := Tryz.sizeOf21
  v21 := Tryz.zeroValue21
  t31 := Tryz.underlying30
  a31 := Tryz.isAgg30
  z31 := Tryz.sizeOf30
  v31 := Tryz.zeroValue30
  t46 := Tryz.underlying128
  a46 := Tryz.isAgg128
  z46 := Tryz.sizeOf128
  v46 := Tryz.zeroValue128
  t51 := Tryz.underlying80
  a51 := Tryz.isAgg80
  z51 := Tryz.sizeOf80
  v51 := Tryz.zeroValue80
  t105 := Tryz.underlying131
  a105 := Tryz.isAgg131
  z105 := Tryz.sizeOf131
  v105 := Tryz.zeroValue131
  t119 := Tryz.underlying172
  a119 := Tryz.isAgg172
  z119 := Tryz.sizeOf172
  t138 := Tryz.underlying211
  a138 := Tryz.isAgg211
  z138 := Tryz.sizeOf211
  v138 := Tryz.zeroValue211
  t139 := Tryz.underlying212
  a139 := Tryz.isAgg212
  z139 := Tryz.sizeOf212
  v139 := Tryz.zeroValue212
  t146 := Tryz.underlying214
  a146 := Tryz.isAgg214
  z146 := Tryz.sizeOf214
  v146 := Tryz.zeroValue214
  g1 := by kernel_rfl
  g3 := by kernel_rfl
  g4 := by kernel_rfl }
open Go.RowKit Go.Lib in
theorem Tryz.strings_genSplit (s sep : ByteArray) (sv : Nat) (n : Int) (N : Nat) (m : Int) (w : World) (hs : s.size < 4294967281) (hm : w.cell? ⟨1, 0, none⟩ = some (.int .i64 m)) (h1 : 1 ≤ sep.size) (hsv : sv ≤ sep.size) (hn0 : n ≠ 0) (hn63 : n ≤ 9223372036854775807) (hN : (N : Int) = min (if n < 0 then (Lib.countB s sep : Int) + 1 else n) ((s.size : Int) + 1)) :
    Calls Tryz.prog 49 #[.string s, .string sep, .int .i64 sv, .int .i64 n] w fun e w' =>
      e = .returned (.slice (some ⟨w.heap.size, 0, none⟩) (Lib.splitB sep sv (N - 1) s).length N) ∧ w' = w.alloc (.cells (Lib.cellsOf (Lib.splitB sep sv (N - 1) s) N) 9) := Any.strings_genSplit Tryz.lays221 (by kernel_rfl) s sep sv n N m w hs hm h1 hsv hn0 hn63 hN
end Go.Proofs
/- What prop.Parse reads of a text's lines: the plain laws. -/

namespace Go.Proofs.YtoneheloojlifaaGreatDoor
open Go.RowKit

/-- lines with their ends -/
def cutA (c : UInt8) : List UInt8 → List (List UInt8)
  | [] => [[]]
  | b :: l => if b = c then [b] :: cutA c l else (b :: (cutA c l).headD []) :: (cutA c l).tail
theorem cutA_ne (c : UInt8) : ∀ l, cutA c l ≠ []
  | [] => by simp [cutA]
  | b :: l => by unfold cutA; split <;> simp
theorem splitK_after (c : UInt8) : ∀ l : List UInt8, Lib.splitK [c] 1 (l.count c) l = cutA c l
  | [] => rfl
  | b :: l => by
    by_cases h : b = c
    · subst h
      have hix : Lib.index (b :: l) [b] = 0 := by rw [Lib.index]; simp [List.isPrefixOf]
      rw [List.count_cons_self, Lib.splitK, hix, cutA, if_pos rfl, ← splitK_after b l]
      rfl
    · have ih := splitK_after c l
      rw [List.count_cons_of_ne (by simpa using h), cutA, if_neg h, ← ih]
      cases hk : l.count c with
      | zero => rfl
      | succ k =>
        have hne : ¬ Lib.index l [c] = -1 := fun e => by
          have := Lib.count_miss e
          rw [Lib.count_one] at this; omega
        have hge := Lib.index_ge l [c]
        have e1 : Lib.index (b :: l) [c] = Lib.index l [c] + 1 := by rw [index_one_cons b c l h, if_neg (by simpa using hne)]
        unfold Lib.splitK
        rw [if_neg (by rw [e1]; simp; omega), if_neg (by simpa using hne), e1]
        obtain ⟨i, hi⟩ : ∃ i : Nat, Lib.index l [c] = i := ⟨(Lib.index l [c]).toNat, by omega⟩
        rw [hi]
        simp only [show ((i : Int) + 1).toNat = i + 1 from by omega, Int.toNat_natCast, List.length_singleton, List.take_succ_cons, List.drop_succ_cons, List.headD_cons, List.tail_cons]
theorem cutA_nl (p r : List UInt8) (h : ∀ c ∈ p, c ≠ 10) : cutA 10 (nlL p ++ r) = nlL p :: cutA 10 r := by
  induction p with
  | nil => rfl
  | cons b p ih =>
    have e : nlL (b :: p) ++ r = b :: (nlL p ++ r) := rfl
    rw [e, cutA, if_neg (h b List.mem_cons_self), ih fun c hc => h c (List.mem_cons_of_mem _ hc)]
    rfl
theorem cutA_last (p : List UInt8) (h : ∀ c ∈ p, c ≠ 10) : cutA 10 p = [p] := by
  induction p with
  | nil => rfl
  | cons b p ih => rw [cutA, if_neg (h b List.mem_cons_self), ih fun c hc => h c (List.mem_cons_of_mem _ hc)]; rfl
theorem cutA_all (ls : List (List UInt8)) (r : List UInt8) (h : ∀ p ∈ ls, ∀ c ∈ p, c ≠ 10) (hr : ∀ c ∈ r, c ≠ 10) : cutA 10 (ls.flatMap nlL ++ r) = ls.map nlL ++ [r] := by
  induction ls with
  | nil => exact cutA_last r hr
  | cons p ls ih =>
    rw [List.flatMap_cons, List.append_assoc, cutA_nl p _ (h p List.mem_cons_self), ih fun q hq => h q (List.mem_cons_of_mem _ hq)]
    rfl
theorem cutA_len : ∀ l : List UInt8, (cutA 10 l).length = l.count 10 + 1
  | [] => rfl
  | b :: l => by
    have ih := cutA_len l
    unfold cutA
    by_cases h : b = 10
    · rw [if_pos h, List.length_cons, ih, h, List.count_cons_self]
    · rw [if_neg h, List.count_cons_of_ne (by simpa using h), List.length_cons, List.length_tail, ih]; omega
/-- is a line left out? -/
def skipA (r : List UInt8) : Bool := decide (r = [10]) || (Lib.hasPrefix r [33] && Lib.hasSuffix r [10])
def emptyA (r : List UInt8) : Bool := decide (r = [])
def entA (r : List UInt8) : Ent := entQ (Lib.trimSuffix r [10])
def entsA (rs : List (List UInt8)) : List Ent := (rs.filter fun r => !skipA r && !emptyA r).map entA
def keptA (rs : List (List UInt8)) : List UInt8 := (rs.filter fun r => !skipA r).flatten
theorem suffix_nl (p : List UInt8) : Lib.hasSuffix (nlL p) [10] = true := by
  unfold Lib.hasSuffix nlL
  rw [List.isSuffixOf_iff_suffix]; exact ⟨p, rfl⟩
theorem suffix_no {p : List UInt8} (h : ∀ c ∈ p, c ≠ 10) : Lib.hasSuffix p [10] = false := by
  unfold Lib.hasSuffix
  rw [Bool.eq_false_iff]
  intro hs
  rw [List.isSuffixOf_iff_suffix] at hs
  obtain ⟨t, ht⟩ := hs
  exact h 10 (by rw [← ht]; simp) rfl
theorem skipA_nl {p : List UInt8} (h : ∀ c ∈ p, c ≠ 10) : skipA (nlL p) = skipL p := by
  unfold skipA
  rw [suffix_nl, Bool.and_true]
  cases p with
  | nil => rfl
  | cons b p =>
    have e : nlL (b :: p) = b :: nlL p := rfl
    rw [e]
    have h1 : decide (b :: nlL p = [10]) = false := decide_eq_false (fun h => by
      have := congrArg List.length h
      simp [nlL] at this)
    rw [h1, Bool.false_or]
    unfold Lib.hasPrefix skipL
    by_cases hb : b = 33
    · subst hb; simp [List.isPrefixOf]
    · have hb' : ¬ (33 : UInt8) = b := fun e => hb e.symm
      simp [List.isPrefixOf, hb, hb']
theorem skipA_last {p : List UInt8} (h : ∀ c ∈ p, c ≠ 10) : skipA p = false := by
  unfold skipA
  rw [suffix_no h, Bool.and_false, Bool.or_false]
  exact decide_eq_false fun e => h 10 (by rw [e]; exact List.mem_singleton.2 rfl) rfl
theorem trim_nl (p : List UInt8) : Lib.trimSuffix (nlL p) [10] = p := by
  unfold Lib.trimSuffix
  rw [if_pos (suffix_nl p)]
  simp [nlL]
theorem trim_last {p : List UInt8} (h : ∀ c ∈ p, c ≠ 10) : Lib.trimSuffix p [10] = p := by
  unfold Lib.trimSuffix
  rw [if_neg (by rw [suffix_no h]; decide)]
theorem emptyA_nl (p : List UInt8) : emptyA (nlL p) = false := by unfold emptyA nlL; simp
theorem entsA_pcs {mid : List (List UInt8)} {last : List UInt8} (hm : ∀ p ∈ mid, ∀ c ∈ p, c ≠ 10) (hl : ∀ c ∈ last, c ≠ 10) : entsA (mid.map nlL ++ [last]) = entsP mid last ∧ keptA (mid.map nlL ++ [last]) = (mid.filter fun p => !skipL p).flatMap nlL ++ last := by
  have h1 : ∀ ms : List (List UInt8), (∀ p ∈ ms, ∀ c ∈ p, c ≠ 10) → ((ms.map nlL).filter fun r => !skipA r && !emptyA r) = (ms.filter fun p => !skipL p).map nlL ∧ ((ms.map nlL).filter fun r => !skipA r) = (ms.filter fun p => !skipL p).map nlL := by
    intro ms
    induction ms with
    | nil => intro _; exact ⟨rfl, rfl⟩
    | cons p ms ih =>
      intro h
      obtain ⟨i1, i2⟩ := ih fun q hq => h q (List.mem_cons_of_mem _ hq)
      have hs := skipA_nl (h p List.mem_cons_self)
      rw [List.map_cons, List.filter_cons, List.filter_cons, List.filter_cons, hs, emptyA_nl, i1, i2]
      cases skipL p <;> exact ⟨rfl, rfl⟩
  obtain ⟨i1, i2⟩ := h1 mid hm
  have hs := skipA_last hl
  constructor
  · unfold entsA entsP
    rw [List.filter_append, i1, List.map_append, List.map_append, List.map_map]
    congr 1
    · apply List.map_congr_left
      intro p _
      show entA (nlL p) = entQ p
      unfold entA; rw [trim_nl]
    · rw [List.filter_cons, hs]
      by_cases he : last = []
      · rw [if_pos he, he]; rfl
      · have : emptyA last = false := decide_eq_false he
        rw [this, if_neg he]
        show [entA last] = [entQ last]
        unfold entA; rw [trim_last hl]
  · unfold keptA
    rw [List.filter_append, i2, List.flatten_append, List.filter_cons, hs]
    simp [List.flatMap_def]
theorem cutL_eq : ∀ p : List UInt8, (Lib.cut p [61]).1 = keyL p ∧ (Lib.cut p [61]).2.1 = valL p
  | [] => ⟨rfl, rfl⟩
  | b :: p => by
    obtain ⟨i1, i2⟩ := cutL_eq p
    by_cases h : b = 61
    · subst h
      have hix : Lib.index (61 :: p) [61] = 0 := by rw [Lib.index]; simp [List.isPrefixOf]
      unfold Lib.cut
      rw [hix]
      simp [keyL, valL]
    · have e1 := index_one_cons b 61 p h
      have hge := Lib.index_ge p [61]
      have ek : keyL (b :: p) = b :: keyL p := by unfold keyL; rw [List.takeWhile_cons, if_pos (by simpa using h)]
      have ev : valL (b :: p) = valL p := by unfold valL; rw [List.dropWhile_cons, if_pos (by simpa using h)]
      rw [ek, ev, ← i1, ← i2]
      unfold Lib.cut
      by_cases hn : Lib.index p [61] = -1
      · rw [hn] at e1
        rw [e1, hn]
        simp
      · rw [if_neg (by simpa using hn)] at e1
        obtain ⟨i, hi⟩ : ∃ i : Nat, Lib.index p [61] = i := ⟨(Lib.index p [61]).toNat, by omega⟩
        rw [e1, hi, if_pos (by omega), if_pos (by omega)]
        simp only [show ((i : Int) + 1).toNat = i + 1 from by omega, Int.toNat_natCast, List.length_singleton, List.take_succ_cons]
        constructor <;> first | rfl | trivial | simp
theorem flatten_len_le : ∀ (rs : List (List UInt8)), (keptA rs).length ≤ rs.flatten.length
  | [] => Nat.le_refl _
  | r :: rs => by
    have ih := flatten_len_le rs
    unfold keptA at ih ⊢
    rw [List.filter_cons]
    split
    · simp only [List.flatten_cons, List.length_append]; omega
    · simp only [List.flatten_cons, List.length_append]; omega
theorem cutA_flat : ∀ l : List UInt8, (cutA 10 l).flatten = l
  | [] => rfl
  | b :: l => by
    have ih := cutA_flat l
    unfold cutA
    split
    · rw [List.flatten_cons, ih]; rfl
    · cases h : cutA 10 l with
      | nil => exact absurd h (cutA_ne 10 l)
      | cons x r => rw [h] at ih; rw [List.headD_cons, List.tail_cons, List.flatten_cons]; rw [List.flatten_cons] at ih; rw [List.cons_append, ih]
end Go.Proofs.YtoneheloojlifaaGreatDoor
/- strings.SplitAfter at the end of a line; what the library's other small functions tell of a line. -/

namespace Go.Proofs.YtoneheloojlifaaGreatDoor
open Go.RowKit

theorem splitAfter_any (s : ByteArray) (w : World) (hs : s.size < 4294967281) (hm : MaxVar w) :
    Calls Tryz.prog 23 #[.string s, .string ⟨#[10]⟩] w fun e w' => e = .returned (.slice (some ⟨w.heap.size, 0, none⟩) (cutA 10 (bts s)).length (cutA 10 (bts s)).length) ∧ w' = w.alloc (.cells (((cutA 10 (bts s)).map str).map Value.string).toArray 9) := by
  obtain ⟨m, hm⟩ := hm
  have hc : Lib.countB s ⟨#[10]⟩ = (bts s).count 10 := Lib.count_one 10 _
  have hcl : (bts s).count 10 ≤ s.size := by rw [← bts_len]; exact List.count_le_length
  have hlen := cutA_len (bts s)
  have hsp : Lib.splitB ⟨#[10]⟩ 1 ((bts s).count 10) s = (cutA 10 (bts s)).map str := by
    have h := Lib.splitB_data ⟨#[10]⟩ 1 ((bts s).count 10) s
    have h2 : (Lib.splitB ⟨#[10]⟩ 1 ((bts s).count 10) s).map bts = cutA 10 (bts s) := by rw [← splitK_after 10 (bts s)]; exact h
    rw [← h2, List.map_map]
    exact (List.map_id'' (fun x => str_bts x) _).symm
  have HG : Hid (Calls Tryz.prog 49 #[.string s, .string ⟨#[10]⟩, .int .i64 1, .int .i64 (-1)] w fun e w' => e = .returned (.slice (some ⟨w.heap.size, 0, none⟩) (cutA 10 (bts s)).length (cutA 10 (bts s)).length) ∧ w' = w.alloc (.cells (((cutA 10 (bts s)).map str).map Value.string).toArray 9)) := Lib.hid (by
    have h := Tryz.strings_genSplit s ⟨#[10]⟩ 1 (-1) ((bts s).count 10 + 1) m w hs hm (Nat.le_refl _) (Nat.le_refl _) (by decide) (by decide) (by rw [hc, if_pos (by decide)]; omega)
    rw [Nat.add_sub_cancel, hsp, List.length_map, ← hlen] at h
    have e := Lib.cellsOf_full ((cutA 10 (bts s)).map str)
    rw [List.length_map] at e
    rw [e] at h
    exact h)
  clear hc hcl hlen hsp hm
  go_enter Tryz.func23, Tryz.ntmps23
  go_wp2_with fail
  refine HG.out.mono ?_
  rintro e w1 ⟨rfl, rfl⟩
  go_wp2_with fail
  go_ret
  exact ⟨rfl, by rw [List.map_map]⟩
theorem prefix_any (r : List UInt8) (w : World) : Calls Tryz.prog 25 #[.string (str r), .string ⟨#[33]⟩] w fun e w' => e = .returned (.bool (Lib.hasPrefix r [33])) ∧ w' = w := Tryz.strings_HasPrefix (str r) ⟨#[33]⟩ w
theorem suffix_any (r : List UInt8) (w : World) (hr : r.length ≤ 9223372036854775807) : Calls Tryz.prog 26 #[.string (str r), .string ⟨#[10]⟩] w fun e w' => e = .returned (.bool (Lib.hasSuffix r [10])) ∧ w' = w :=
  Tryz.strings_HasSuffix (str r) ⟨#[10]⟩ w (by simpa [str, ByteArray.size] using hr)
theorem trimS_any (r : List UInt8) (w : World) (hr : r.length ≤ 9223372036854775807) : Calls Tryz.prog 28 #[.string (str r), .string ⟨#[10]⟩] w fun e w' => e = .returned (.string (str (Lib.trimSuffix r [10]))) ∧ w' = w :=
  Tryz.strings_TrimSuffix (str r) ⟨#[10]⟩ w (by simpa [str, ByteArray.size] using hr)
theorem cutE_any (p : List UInt8) (w : World) (hm : MaxVar w) (hp : p.length < 4294967281) : Calls Tryz.prog 27 #[.string (str p), .string ⟨#[61]⟩] w fun e w' => (∃ f, e = .returned (.tuple #[.string (str (keyL p)), .string (str (valL p)), .bool f])) ∧ ∃ n, w' = w.drewN n := by
  obtain ⟨m, hm⟩ := hm
  have h := Tryz.strings_Cut (str p) ⟨#[61]⟩ m w (by simpa [str, ByteArray.size] using hp) hm
  refine h.mono ?_
  rintro e w' ⟨rfl, hw⟩
  refine ⟨⟨(Lib.cut p [61]).2.2, ?_⟩, hw⟩
  rw [← (cutL_eq p).1, ← (cutL_eq p).2]
  rfl
theorem trimT_any (r : List UInt8) (w : World) (hr : r.length ≤ 9223372036854775807) : Calls Tryz.prog 24 #[.string (str r), .string ⟨#[64, 10]⟩] w fun e w' => e = .returned (.string (tagP r)) ∧ Below w.heap.size w w' :=
  trim_any (str r) ⟨#[64, 10]⟩ w (by simpa [str, ByteArray.size] using hr) (by decide) (fun j b hj => by
    rcases (by have := (List.getElem?_eq_some_iff.1 hj).1; simp at this; omega : j = 0 ∨ j = 1) with rfl | rfl
    · simp at hj; rw [← hj]; decide
    · simp at hj; rw [← hj]; decide)
end Go.Proofs.YtoneheloojlifaaGreatDoor
