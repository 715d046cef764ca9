/- msg.Parse, plainly: the reader. -/
import Derived.Test.YtjdfpoppimcikaaGreatDoorLexP
import Derived.Test.YtjdfpoppimcikaaGreatDoorNamesP
import Derived.Lib.IndexAny
import Derived.Lib.Bytes2
import Derived.Shelf.Strings.Builder1
import Derived.Shelf.Strings.Builder2
import Derived.Shelf.Strings.Trim
import Derived.Shelf.Small.Utf8
import Derived.Shelf.Small.Strs
import Derived.Shelf.Small.Wraps
import Derived.Shelf.Strings.BuilderF
import Derived.Shelf.Strconv.Atoi
import Derived.Shelf.Strconv.Itoa0
import Derived.Shelf.Strconv.Itoa1
import Derived.Shelf.LaysM
import Derived.Shelf.Strconv.Itoa2
import Derived.Shelf.Strconv.Itoa3
import Derived.Shelf.Strconv.AtoiErrFast
import Derived.Shelf.Strconv.ParseIntEmpty
import Derived.Shelf.Strconv.AtoiFail
import Derived.Shelf.Strconv.Clone
import Derived.Shelf.Strconv.SyntaxError
import Derived.Shelf.LaysC
import Derived.Shelf.Strconv.ToError
import Derived.Shelf.Strconv.Lower
import Derived.Shelf.Strconv.ParseUint10
import Derived.Shelf.Strconv.ParseUint10Empty
import Derived.Shelf.Strconv.ParseUint10Any
import Derived.Shelf.Strconv.ParseInt10
import Derived.Shelf.Strconv.AtoiLong
import Derived.Shelf.Strconv.AtoiInnerAll
import Derived.Shelf.Strconv.RangeError
import Derived.Shelf.Strconv.ToErrorRange
import Derived.Shelf.Strconv.AtoiAll
import Derived.Shelf.Strconv.ErrVarAll
import Derived.Shelf.Strconv.ParseUintEmpty
import Derived.Shelf.Strconv.ParseUint10b64
import Derived.Shelf.Strconv.ParseUint10b32
import Derived.Shelf.Strconv.ParseUint10b16
import Derived.Shelf.Strconv.ParseUint10b8
import Derived.Shelf.Strconv.ParseUint10At
import Derived.Shelf.Strings.Search1
import Derived.Shelf.Strings.Search2
import Derived.Shelf.Strings.Search3
import Derived.Shelf.Strings.Cut
import Derived.Shelf.Strings.Shaped
import Derived.Shelf.Strings.Prefix
import Derived.Shelf.Strings.Runes
import Derived.Shelf.Strings.IndexAny
import Derived.Shelf.Strings.AsciiSet
import Derived.Shelf.Strings.IndexAnyAll
import Derived.Shelf.Bits.Mul64
import Derived.Shelf.Strings.Repeat
import Derived.Shelf.Unicode.DecodeSlow
import Derived.Shelf.Slices.Turned
import Derived.Ground.Names2Prog
import Derived.Shelf.Slices.ReverseS
import Derived.Shelf.Slices.Cells
import Derived.Ground.SlgfProg
import Derived.Shelf.SlicesQ.IndexFunc
import Derived.Test.YtjdfpoppimcikaaGreatDoorProg
namespace Go.Proofs.YtjdfpoppimcikaaGreatDoor
open Go.RowKit

def cutL (p l : List UInt8) : Option (List UInt8) := if Lib.hasPrefix l p = true then some (l.drop p.length) else none
def wordL (ends l : List UInt8) : Option (List UInt8 × List UInt8) := if 0 ≤ Lib.indexAny l ends then some (l.take (Lib.indexAny l ends).toNat, l.drop (Lib.indexAny l ends).toNat) else none
theorem cutL_len {p l r : List UInt8} (h : cutL p l = some r) : r.length + p.length = l.length := by
  unfold cutL at h
  split at h
  · rename_i h1
    injection h with h
    rw [← h, List.length_drop]
    have := Lib.hasPrefix_le h1
    omega
  · cases h
theorem wordL_len {e l : List UInt8} {p : List UInt8 × List UInt8} (h : wordL e l = some p) : p.1.length + p.2.length = l.length := by
  unfold wordL at h
  split at h
  · injection h with h
    rw [← h]
    show (l.take _).length + (l.drop _).length = _
    rw [List.length_take, List.length_drop]; omega
  · cases h
def numberS : List UInt8 := [44, 32, 110, 117, 109, 98, 101, 114, 125]
def selectS : List UInt8 := [44, 32, 115, 101, 108, 101, 99, 116, 44]
def pluralS : List UInt8 := [44, 32, 112, 108, 117, 114, 97, 108, 44]
def offsetS : List UInt8 := [32, 111, 102, 102, 115, 101, 116, 58]
def offL : List UInt8 → Option Int
  | [c] => if 49 ≤ c.toNat ∧ c.toNat ≤ 57 then some ((c.toNat : Int) - 48) else none
  | _ => none
section
variable {β : Type} (rd : Bool → List UInt8 → Option (List β × List UInt8))
def cas1L (mark : Bool) (l : List UInt8) : Option ((ByteArray × List β) × List UInt8) :=
  (cutL [32] l).bind fun r1 => (wordL [32] r1).bind fun kw => (cutL [32, 123] kw.2).bind fun r3 => (rd mark r3).bind fun b => (cutL [125] b.2).bind fun r5 => some ((str kw.1, b.1), r5)
def casesL (mark : Bool) : Nat → List UInt8 → Option (List (ByteArray × List β) × List UInt8)
  | 0, _ => none
  | n + 1, l => match cutL [125] l with
    | some r => some ([], r)
    | none => (cas1L rd mark l).bind fun p => (casesL mark n p.2).map fun q => (p.1 :: q.1, q.2)
def csL (mark : Bool) (l : List UInt8) : Option (List (ByteArray × List β) × List UInt8) := casesL rd mark (l.length + 1) l
def pluL (t : ByteArray) (r : List UInt8) : Option (NdF β × List UInt8) := match cutL offsetS r with
  | none => (csL rd true r).map fun q => (⟨4, t, 0, q.1⟩, q.2)
  | some r2 => (wordL [32, 125] r2).bind fun ww => (offL ww.1).bind fun o => (csL rd true ww.2).map fun q => (⟨4, t, o, q.1⟩, q.2)
def argL (mark : Bool) (l : List UInt8) : Option (NdF β × List UInt8) := (wordL [44, 125] l).bind fun p => match cutL [125] p.2 with
  | some r => some (⟨2, str p.1, 0, []⟩, r)
  | none => match cutL numberS p.2 with
    | some r => some (⟨3, str p.1, 0, []⟩, r)
    | none => match cutL selectS p.2 with
      | some r => (csL rd mark r).map fun q => (⟨5, str p.1, 0, q.1⟩, q.2)
      | none => (cutL pluralS p.2).bind fun r => pluL rd (str p.1) r
def preL (t : List UInt8) : List (NdF β) := if t = [] then [] else [⟨1, str t, 0, []⟩]
def markL (mark : Bool) (l : List UInt8) : Option (List UInt8) := if mark then cutL [35] l else none
def msgL (mark : Bool) : Nat → List UInt8 → Option (List (NdF β) × List UInt8)
  | 0, _ => none
  | n + 1, l => (bareM mark l).bind fun p => match cutL [123] p.2 with
    | some r => (argL rd mark r).bind fun q => (msgL mark n q.2).map fun z => (preL p.1 ++ q.1 :: z.1, z.2)
    | none => match markL mark p.2 with
      | some r => (msgL mark n r).map fun z => (preL p.1 ++ ⟨6, ByteArray.empty, 0, []⟩ :: z.1, z.2)
      | none => some (preL p.1, p.2)
/- ## How much it takes -/
def bulkF (cb : List β → Nat) (x : NdF β) : Nat := x.text.size + 2 + (x.cases.map fun c => c.1.size + 2 + cb c.2).sum
variable {rd} {cb : List β → Nat} (hrd : ∀ mark l b r, rd mark l = some (b, r) → cb b + 3 * r.length ≤ 3 * l.length)
theorem cas1L_len {mark : Bool} {l : List UInt8} {p : (ByteArray × List β) × List UInt8} (hrd : ∀ mark l b r, rd mark l = some (b, r) → cb b + 3 * r.length ≤ 3 * l.length) (h : cas1L rd mark l = some p) : p.1.1.size + 2 + cb p.1.2 + 3 * p.2.length + 1 ≤ 3 * l.length := by
  unfold cas1L at h
  obtain ⟨r1, h1, h⟩ := Option.bind_eq_some_iff.1 h
  obtain ⟨kw, h2, h⟩ := Option.bind_eq_some_iff.1 h
  obtain ⟨r3, h3, h⟩ := Option.bind_eq_some_iff.1 h
  obtain ⟨b, h4, h⟩ := Option.bind_eq_some_iff.1 h
  obtain ⟨r5, h5, h⟩ := Option.bind_eq_some_iff.1 h
  injection h with h
  subst h
  have k1 := cutL_len h1
  have k2 := wordL_len h2
  have k3 := cutL_len h3
  have k4 := hrd mark r3 b.1 b.2 h4
  have k5 := cutL_len h5
  simp only [List.length_cons, List.length_nil] at k1 k3 k5
  show (str kw.1).size + 2 + cb b.1 + 3 * r5.length + 1 ≤ _
  rw [str_size]
  omega
theorem casesL_len (hrd : ∀ mark l b r, rd mark l = some (b, r) → cb b + 3 * r.length ≤ 3 * l.length) {mark : Bool} : ∀ {n : Nat} {l : List UInt8} {p : List (ByteArray × List β) × List UInt8}, casesL rd mark n l = some p → (p.1.map fun c => c.1.size + 2 + cb c.2).sum + 3 * p.2.length ≤ 3 * l.length
  | 0, _, _, h => by cases h
  | n + 1, l, p, h => by
    unfold casesL at h
    split at h
    · rename_i r hr
      injection h with h
      subst h
      have := cutL_len hr
      show 0 + 3 * r.length ≤ _
      omega
    · obtain ⟨c, h1, h⟩ := Option.bind_eq_some_iff.1 h
      obtain ⟨q, h2, h⟩ := Option.map_eq_some_iff.1 h
      subst h
      have k1 := cas1L_len hrd h1
      have k2 := casesL_len hrd h2
      show ((c.1 :: q.1).map fun c => c.1.size + 2 + cb c.2).sum + 3 * q.2.length ≤ _
      rw [List.map_cons, List.sum_cons]
      omega
theorem argL_len (hrd : ∀ mark l b r, rd mark l = some (b, r) → cb b + 3 * r.length ≤ 3 * l.length) {mark : Bool} {l : List UInt8} {p : NdF β × List UInt8} (h : argL rd mark l = some p) : bulkF cb p.1 + 3 * p.2.length ≤ 3 * l.length := by
  unfold argL at h
  obtain ⟨w, h1, h⟩ := Option.bind_eq_some_iff.1 h
  have k1 := wordL_len h1
  have leaf : ∀ (k : Int) (r : List UInt8), r.length + 1 ≤ w.2.length → bulkF cb (⟨k, str w.1, 0, []⟩ : NdF β) + 3 * r.length ≤ 3 * l.length := fun k r hr => by
    show (str w.1).size + 2 + 0 + 3 * r.length ≤ _
    rw [str_size]; omega
  have deep : ∀ (k o : Int) (mk : Bool) (r : List UInt8) (p : NdF β × List UInt8), r.length + 1 ≤ w.2.length → ((csL rd mk r).map fun q => ((⟨k, str w.1, o, q.1⟩ : NdF β), q.2)) = some p → bulkF cb p.1 + 3 * p.2.length ≤ 3 * l.length := fun k o mk r p hr hp => by
    obtain ⟨q, h2, hp⟩ := Option.map_eq_some_iff.1 hp
    subst hp
    have k2 := casesL_len hrd h2
    show (str w.1).size + 2 + (q.1.map fun c => c.1.size + 2 + cb c.2).sum + 3 * q.2.length ≤ _
    rw [str_size]; omega
  split at h
  · rename_i r hr
    injection h with h
    subst h
    have := cutL_len hr
    simp only [List.length_cons, List.length_nil] at this
    exact leaf 2 r (by omega)
  split at h
  · rename_i r hr
    injection h with h
    subst h
    have := cutL_len hr
    simp only [numberS, List.length_cons, List.length_nil] at this
    exact leaf 3 r (by omega)
  split at h
  · rename_i r hr
    have := cutL_len hr
    simp only [selectS, List.length_cons, List.length_nil] at this
    exact deep 5 0 mark r p (by omega) h
  · obtain ⟨r, hr, h⟩ := Option.bind_eq_some_iff.1 h
    have := cutL_len hr
    simp only [pluralS, List.length_cons, List.length_nil] at this
    unfold pluL at h
    split at h
    · exact deep 4 0 true r p (by omega) h
    · rename_i r2 hr2
      have k2 := cutL_len hr2
      obtain ⟨ww, h3, h⟩ := Option.bind_eq_some_iff.1 h
      obtain ⟨o, h4, h⟩ := Option.bind_eq_some_iff.1 h
      have k3 := wordL_len h3
      exact deep 4 o true ww.2 p (by omega) h
theorem preL_len (t : List UInt8) : ((preL t : List (NdF β)).map (bulkF cb)).sum ≤ 3 * t.length := by
  unfold preL
  split
  · exact Nat.zero_le _
  · rename_i h
    have := List.length_pos_iff.2 h
    show (str t).size + 2 + 0 + 0 ≤ _
    rw [str_size]; omega
theorem msgL_len (hrd : ∀ mark l b r, rd mark l = some (b, r) → cb b + 3 * r.length ≤ 3 * l.length) {mark : Bool} : ∀ {n : Nat} {l : List UInt8} {p : List (NdF β) × List UInt8}, msgL rd mark n l = some p → (p.1.map (bulkF cb)).sum + 3 * p.2.length ≤ 3 * l.length
  | 0, _, _, h => by cases h
  | n + 1, l, p, h => by
    unfold msgL at h
    obtain ⟨b, h1, h⟩ := Option.bind_eq_some_iff.1 h
    have k1 := bareM_len (t := b.1) (r := b.2) h1
    have k2 := preL_len (cb := cb) b.1
    split at h
    · rename_i r hr
      obtain ⟨q, h2, h⟩ := Option.bind_eq_some_iff.1 h
      obtain ⟨z, h3, h⟩ := Option.map_eq_some_iff.1 h
      subst h
      have k3 := cutL_len hr
      have k4 := argL_len hrd h2
      have k5 := msgL_len hrd h3
      show ((preL b.1 ++ q.1 :: z.1).map (bulkF cb)).sum + 3 * z.2.length ≤ _
      rw [List.map_append, List.sum_append, List.map_cons, List.sum_cons]
      omega
    split at h
    · rename_i r hr
      obtain ⟨z, h3, h⟩ := Option.map_eq_some_iff.1 h
      subst h
      have k3 : r.length + 1 = b.2.length := by
        unfold markL at hr
        split at hr
        · exact cutL_len hr
        · cases hr
      have k5 := msgL_len hrd h3
      show ((preL b.1 ++ (⟨6, ByteArray.empty, 0, []⟩ : NdF β) :: z.1).map (bulkF cb)).sum + 3 * z.2.length ≤ _
      rw [List.map_append, List.sum_append, List.map_cons, List.sum_cons]
      have : bulkF cb (⟨6, ByteArray.empty, 0, []⟩ : NdF β) = 2 := rfl
      omega
    · injection h with h
      subst h
      show ((preL b.1 : List (NdF β)).map (bulkF cb)).sum + 3 * b.2.length ≤ _
      omega
end
/-- a message that is no deeper than n -/
def readM : (n : Nat) → Bool → List UInt8 → Option (List (Nd n) × List UInt8)
  | 0, _, _ => none
  | n + 1, mark, l => msgL (readM n) mark (l.length + 1) l
theorem readM_len : (n : Nat) → ∀ (mark : Bool) (l : List UInt8) (b : List (Nd n)) (r : List UInt8), readM n mark l = some (b, r) → (b.map (Enc.node n).bulk).sum + 3 * r.length ≤ 3 * l.length
  | 0, _, _, _, _, h => by cases h
  | n + 1, mark, l, b, r, h => by
    have h1 := msgL_len (cb := fun b : List (Nd n) => (b.map (Enc.node n).bulk).sum) (fun mark l b r => readM_len n mark l b r) h
    refine Nat.le_trans (Nat.add_le_add_right ?_ _) h1
    refine sum_map_le (Enc.node (n + 1)).bulk (bulkF fun b : List (Nd n) => (b.map (Enc.node n).bulk).sum) b fun x _ => ?_
    rw [node_bulk n x]
    show _ ≤ x.text.size + 2 + (x.cases.map fun c => c.1.size + 2 + (c.2.map (Enc.node n).bulk).sum).sum
    have : (x.cases.map (Enc.cas (Enc.node n)).bulk).sum ≤ (x.cases.map fun c => c.1.size + 2 + (c.2.map (Enc.node n).bulk).sum).sum := sum_map_le _ _ x.cases fun c _ => by
      rw [cas_bulk]; omega
    omega
/-- what Parse tells -/
def parM (s : List UInt8) : List (Nd 7) := match readM 7 false s with | some (m, []) => m | _ => []
def parE (s : List UInt8) : Int := if 2000 < s.length then 4 else match readM 7 false s with | some (m, []) => if checkAll 7 m = 0 then 0 else 3 | _ => 3
end Go.Proofs.YtjdfpoppimcikaaGreatDoor
/- Contracts of the library's functions, laid at this seat's dump by the shelf's own programs. -/

namespace Go.Proofs
open Go.Shelf
def Tryz.lays99_ren : Go.Shelf.Ren := ⟨fun | 99 => 67 | 206 => 109 | n => n, fun | 9 => 9 | 4 => 4 | 3 => 3 | n => n, fun | n => n⟩
theorem Tryz.lays99 : Go.Proofs.Lays.n99 Tryz.prog Tryz.lays99_ren := {
  mixed := by kernel_rfl
  f99 := Tryz.func67.trans (congrArg some (by kernel_rfl))
  f206 := Tryz.func109.trans (congrArg some (by kernel_rfl))
  t3 := Tryz.underlying3
  a3 := Tryz.isAgg3
  z3 := Tryz.sizeOf3
  v3 := Tryz.zeroValue3
  t4 := Tryz.underlying4
  a4 := Tryz.isAgg4
  z4 := Tryz.sizeOf4
  v4 := Tryz.zeroValue4
  t9 := Tryz.underlying9
  a9 := Tryz.isAgg9
  z9 := Tryz.sizeOf9
  v9 := Tryz.zeroValue9 }
open Go.RowKit Go.Lib in
theorem Tryz.strings_HasPrefix (s p : ByteArray) (w : World) :
    Calls Tryz.prog 67 #[.string s, .string p] w fun e w' => e = .returned (.bool (Lib.hasPrefix s.data.toList p.data.toList)) ∧ w' = w := Any.strings_HasPrefix Tryz.lays99 s p w
def Tryz.lays152_ren : Go.Shelf.Ren := ⟨fun | 152 => 143 | 137 => 48 | 119 => 168 | 224 => 169 | 225 => 170 | 217 => 85 | 266 => 119 | n => n, fun | 9 => 9 | 21 => 21 | 3 => 3 | 4 => 4 | 5 => 5 | 0 => 0 | 46 => 175 | n => n, fun | n => n⟩
theorem Tryz.lays152 : Go.Proofs.Lays.n152 Tryz.prog Tryz.lays152_ren := {
  mixed := by kernel_rfl
  f119 := Tryz.func168.trans (congrArg some (by kernel_rfl))
  f137 := Tryz.func48.trans (congrArg some (by kernel_rfl))
  f152 := Tryz.func143.trans (congrArg some (by kernel_rfl))
  f217 := Tryz.func85.trans (congrArg some (by kernel_rfl))
  f224 := Tryz.func169.trans (congrArg some (by kernel_rfl))
  f225 := Tryz.func170.trans (congrArg some (by kernel_rfl))
  f266 := Tryz.func119.trans (congrArg some (by kernel_rfl))
  t0 := Tryz.underlying0
  a0 := Tryz.isAgg0
  z0 := Tryz.sizeOf0
  v0 := Tryz.zeroValue0
  t3 := Tryz.underlying3
  a3 := Tryz.isAgg3
  z3 := Tryz.sizeOf3
  v3 := Tryz.zeroValue3
  t4 := Tryz.underlying4
  a4 := Tryz.isAgg4
  z4 := Tryz.sizeOf4
  v4 := Tryz.zeroValue4
  t5 := Tryz.underlying5
  a5 := Tryz.isAgg5
  z5 := Tryz.sizeOf5
  v5 := Tryz.zeroValue5
  t9 := Tryz.underlying9
  a9 := Tryz.isAgg9
  z9 := Tryz.sizeOf9
  v9 := Tryz.zeroValue9
  t21 := Tryz.underlying21
  a21 := Tryz.isAgg21
  z21 := Tryz.sizeOf21
  v21 := Tryz.zeroValue21
  t46 := Tryz.underlying175
  a46 := Tryz.isAgg175
  z46 := Tryz.sizeOf175
  v46 := Tryz.zeroValue175 }
open Go.RowKit Go.Lib in
theorem Tryz.strings_IndexRune_ascii (s : ByteArray) (r : Int) (w : World) (h0 : 0 ≤ r) (h1 : r < 128) :
    Calls Tryz.prog 143 #[.string s, .int .i32 r] w fun e w' => e = .returned (.int .i64 (Lib.indexByte s.data.toList r.toNat.toUInt8)) ∧ w' = w := Any.strings_IndexRune_ascii Tryz.lays152 s r w h0 h1
def Tryz.lays226_ren : Go.Shelf.Ren := ⟨fun | 226 => 144 | n => n, fun | 3 => 3 | 4 => 4 | n => n, fun | n => n⟩
theorem Tryz.lays226 : Go.Proofs.Lays.n226 Tryz.prog Tryz.lays226_ren := {
  mixed := by kernel_rfl
  f226 := Tryz.func144.trans (congrArg some (by kernel_rfl))
  t3 := Tryz.underlying3
  a3 := Tryz.isAgg3
  z3 := Tryz.sizeOf3
  v3 := Tryz.zeroValue3
  t4 := Tryz.underlying4
  a4 := Tryz.isAgg4
  z4 := Tryz.sizeOf4
  v4 := Tryz.zeroValue4 }
open Go.RowKit Go.Lib in
theorem Tryz.strings_shouldUseASCIISet (n : Int) (w : World) :
    Calls Tryz.prog 144 #[.int .i64 n] w fun e w' => e = .returned (.bool (decide (8 < n))) ∧ w' = w := Any.strings_shouldUseASCIISet Tryz.lays226 n w
def Tryz.lays153_ren : Go.Shelf.Ren := ⟨fun | 153 => 111 | 152 => 143 | 226 => 144 | 227 => 80 | 228 => 115 | 137 => 48 | 119 => 168 | 224 => 169 | 225 => 170 | 217 => 85 | 266 => 119 | n => n, fun | 9 => 9 | 3 => 3 | 4 => 4 | 5 => 5 | 21 => 21 | 117 => 165 | 116 => 164 | 0 => 0 | 46 => 175 | 124 => 168 | n => n, fun | n => n⟩
theorem Tryz.lays153 : Go.Proofs.Lays.n153 Tryz.prog Tryz.lays153_ren := {
  mixed := by kernel_rfl
  f119 := Tryz.func168.trans (congrArg some (by kernel_rfl))
  f137 := Tryz.func48.trans (congrArg some (by kernel_rfl))
  f152 := Tryz.func143.trans (congrArg some (by kernel_rfl))
  f153 := Tryz.func111.trans (congrArg some (by kernel_rfl))
  f217 := Tryz.func85.trans (congrArg some (by kernel_rfl))
  f224 := Tryz.func169.trans (congrArg some (by kernel_rfl))
  f225 := Tryz.func170.trans (congrArg some (by kernel_rfl))
  f226 := Tryz.func144.trans (congrArg some (by kernel_rfl))
  f227 := Tryz.func80.trans (congrArg some (by kernel_rfl))
  f228 := Tryz.func115.trans (congrArg some (by kernel_rfl))
  f266 := Tryz.func119.trans (congrArg some (by kernel_rfl))
  t0 := Tryz.underlying0
  a0 := Tryz.isAgg0
  z0 := Tryz.sizeOf0
  v0 := Tryz.zeroValue0
  t3 := Tryz.underlying3
  a3 := Tryz.isAgg3
  z3 := Tryz.sizeOf3
  v3 := Tryz.zeroValue3
  t4 := Tryz.underlying4
  a4 := Tryz.isAgg4
  z4 := Tryz.sizeOf4
  v4 := Tryz.zeroValue4
  t5 := Tryz.underlying5
  a5 := Tryz.isAgg5
  z5 := Tryz.sizeOf5
  v5 := Tryz.zeroValue5
  t9 := Tryz.underlying9
  a9 := Tryz.isAgg9
  z9 := Tryz.sizeOf9
  v9 := Tryz.zeroValue9
  t21 := Tryz.underlying21
  a21 := Tryz.isAgg21
  z21 := Tryz.sizeOf21
  v21 := Tryz.zeroValue21
  t46 := Tryz.underlying175
  a46 := Tryz.isAgg175
  z46 := Tryz.sizeOf175
  v46 := Tryz.zeroValue175
  t116 := Tryz.underlying164
  a116 := Tryz.isAgg164
  z116 := Tryz.sizeOf164
  t117 := Tryz.underlying165
  a117 := Tryz.isAgg165
  z117 := Tryz.sizeOf165
  v117 := Tryz.zeroValue165
  t124 := Tryz.underlying168
  a124 := Tryz.isAgg168
  z124 := Tryz.sizeOf168
  v124 := Tryz.zeroValue168 }
open Go.RowKit Go.Lib in
theorem Tryz.strings_IndexAny_one (s chars : ByteArray) (w : World) (h1 : chars.size = 1) (hascii : ∀ (j : Nat) b, chars.data.toList[j]? = some b → b.toNat < 128) :
    Calls Tryz.prog 111 #[.string s, .string chars] w fun e w' => e = .returned (.int .i64 (Lib.indexAny s.data.toList chars.data.toList)) ∧ w' = w := Any.strings_IndexAny_one Tryz.lays153 s chars w h1 hascii
open Go.RowKit Go.Lib in
theorem Tryz.strings_IndexAny_long (hv116 : ∀ w, (zeroValue 164).run Tryz.prog w = .ok (.agg (Array.replicate 256 (.bool false))) w) (s chars : ByteArray) (w : World) (h2 : 2 ≤ chars.size) (h8 : 8 < s.size) (hs : s.size < 4294967281) (hcs : chars.size < 4294967281) (hascii : ∀ (j : Nat) b, chars.data.toList[j]? = some b → b.toNat < 128) :
    Calls Tryz.prog 111 #[.string s, .string chars] w fun e w' => e = .returned (.int .i64 (Lib.indexAny s.data.toList chars.data.toList)) ∧ w' = ((w.alloc (.cells (Lib.setCells chars.data.toList) 164)).alloc (.cells (Lib.setCells chars.data.toList) 164)) := Any.strings_IndexAny_long Tryz.lays153 hv116 (by kernel_rfl) s chars w h2 h8 hs hcs hascii
end Go.Proofs
