/- The shelf's contracts of maps.Clone and maps.Equal at this seat's program, in plain words. -/
import Derived.Test.YtcbgeakabchenaaGreatDoorProg
import Derived.Shelf.SlMaps.Clone
import Derived.Shelf.SlMaps.Equal
namespace Go.Proofs
def Tryz.mapClone_ren : Go.Shelf.Ren := ⟨fun | 5 => 37 | 7 => 65 | n => n, fun | 0 => 0 | 4 => 4 | 20 => 20 | 23 => 57 | 25 => 9 | 3 => 9 | n => n, fun n => n⟩
theorem Tryz.mapClone : Go.Proofs.SlLaysW.n5 Tryz.prog Tryz.mapClone_ren := {
  mixed := by kernel_rfl
  f5 := ⟨Tryz.f37.name, by decide, Tryz.func37.trans (congrArg some (by kernel_rfl))⟩
  f7 := Tryz.func65.trans (congrArg some (by kernel_rfl))
  t4 := Tryz.underlying4
  a4 := Tryz.isAgg4
  z4 := Tryz.sizeOf4
  v4 := Tryz.zeroValue4
  t20 := Tryz.underlying20
  a20 := Tryz.isAgg20
  z20 := Tryz.sizeOf20
  v20 := Tryz.zeroValue20
  t23 := Tryz.underlying57
  a23 := Tryz.isAgg57
  z23 := Tryz.sizeOf57
  v23 := Tryz.zeroValue57 }
def Tryz.mapEqual_ren : Go.Shelf.Ren := ⟨fun | 6 => 38 | n => n, fun | 0 => 0 | 3 => 3 | 4 => 4 | 23 => 57 | 24 => 57 | 26 => 9 | 27 => 9 | 36 => 89 | n => n, fun n => n⟩
theorem Tryz.mapEqual : Go.Proofs.SlLaysEq.n6 Tryz.prog Tryz.mapEqual_ren := {
  mixed := by kernel_rfl
  f6 := ⟨Tryz.f38.name, by decide, Tryz.func38.trans (congrArg some (by kernel_rfl))⟩
  t0 := Tryz.underlying0
  a0 := Tryz.isAgg0
  z0 := Tryz.sizeOf0
  v0 := Tryz.zeroValue0
  t3 := Tryz.underlying3
  a3 := Tryz.isAgg3
  z3 := Tryz.sizeOf3
  v3 := Tryz.zeroValue3
  t4 := Tryz.underlying4
  a4 := Tryz.isAgg4
  z4 := Tryz.sizeOf4
  v4 := Tryz.zeroValue4
  t23 := Tryz.underlying57
  a23 := Tryz.isAgg57
  z23 := Tryz.sizeOf57
  v23 := Tryz.zeroValue57
  t24 := Tryz.underlying57
  a24 := Tryz.isAgg57
  z24 := Tryz.sizeOf57
  v24 := Tryz.zeroValue57
  a26 := Tryz.isAgg9
  z26 := Tryz.sizeOf9
  a27 := Tryz.isAgg9
  z27 := Tryz.sizeOf9
  t36 := Tryz.underlying89
  a36 := Tryz.isAgg89
  z36 := Tryz.sizeOf89 }
end Go.Proofs
