/- Contracts of the library's generic functions: their bodies held against this seat's dump. -/
import Derived.Shelf.SlMaps.DeleteFunc
import Derived.Shelf.SlMaps.Copy
import Derived.Ground.SlmdProg
import Derived.Ground.SlmpProg
import Derived.Test.YtiaobgapfoogiaaGreatDoorProg
namespace Go.Proofs
open Go.Shelf
def Tryz.layDel_ren : Go.Shelf.Ren := ⟨fun | 5 => 26 | n => n, fun | 23 => 53 | 26 => 9 | 24 => 9 | 27 => 61 | 0 => 0 | 4 => 4 | n => n, fun | n => n⟩
theorem Tryz.layDel : Go.Proofs.SlLaysDf.n5 Tryz.prog Tryz.layDel_ren := {
  mixed := by kernel_rfl
  f5 := ⟨Tryz.f26.name, by decide, Tryz.func26.trans (congrArg some (by kernel_rfl))⟩
  t0 := Tryz.underlying0
  a0 := Tryz.isAgg0
  z0 := Tryz.sizeOf0
  v0 := Tryz.zeroValue0
  t4 := Tryz.underlying4
  a4 := Tryz.isAgg4
  z4 := Tryz.sizeOf4
  v4 := Tryz.zeroValue4
  t23 := Tryz.underlying53
  a23 := Tryz.isAgg53
  z23 := Tryz.sizeOf53
  v23 := Tryz.zeroValue53
  a24 := Tryz.isAgg9
  z24 := Tryz.sizeOf9
  a26 := Tryz.isAgg9
  z26 := Tryz.sizeOf9
  t27 := Tryz.underlying61
  a27 := Tryz.isAgg61
  z27 := Tryz.sizeOf61
  v27 := Tryz.zeroValue61 }
def Tryz.layCopy_ren : Go.Shelf.Ren := ⟨fun | 5 => 29 | n => n, fun | 23 => 53 | 24 => 53 | 26 => 9 | 27 => 9 | 0 => 0 | 4 => 4 | n => n, fun | n => n⟩
theorem Tryz.layCopy : Go.Proofs.SlLaysX.n5 Tryz.prog Tryz.layCopy_ren := {
  mixed := by kernel_rfl
  f5 := ⟨Tryz.f29.name, by decide, Tryz.func29.trans (congrArg some (by kernel_rfl))⟩
  t0 := Tryz.underlying0
  a0 := Tryz.isAgg0
  z0 := Tryz.sizeOf0
  v0 := Tryz.zeroValue0
  t4 := Tryz.underlying4
  a4 := Tryz.isAgg4
  z4 := Tryz.sizeOf4
  v4 := Tryz.zeroValue4
  t23 := Tryz.underlying53
  a23 := Tryz.isAgg53
  z23 := Tryz.sizeOf53
  v23 := Tryz.zeroValue53
  t24 := Tryz.underlying53
  a24 := Tryz.isAgg53
  z24 := Tryz.sizeOf53
  v24 := Tryz.zeroValue53
  a26 := Tryz.isAgg9
  z26 := Tryz.sizeOf9
  a27 := Tryz.isAgg9
  z27 := Tryz.sizeOf9 }
end Go.Proofs
