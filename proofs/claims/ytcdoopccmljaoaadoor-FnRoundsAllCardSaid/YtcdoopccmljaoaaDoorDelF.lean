/- slices.DeleteFunc at []int, the shelf's contract at this seat's numbers (written by the shelf's own tools). No conditions. -/
import Derived.Shelf.SlicesE.DeleteFunc
import Derived.Test.YtcdoopccmljaoaaDoorProg
namespace Go.Proofs.YtcdoopccmljaoaaDoor
open Go.Shelf
def delFL_ren : Go.Shelf.Ren := ⟨fun | 10 => 89 | 6 => 107 | n => n, fun | 22 => 45 | 23 => 3 | 25 => 83 | 3 => 3 | 4 => 4 | 0 => 0 | n => n, fun | n => n⟩
theorem delFL : Go.Proofs.SlLaysH.n10 Tryd.prog delFL_ren := {
  mixed := by kernel_rfl
  f6 := ⟨Tryd.f107.name, by decide, Tryd.func107.trans (congrArg some (by kernel_rfl))⟩
  f10 := ⟨Tryd.f89.name, by decide, Tryd.func89.trans (congrArg some (by kernel_rfl))⟩
  t0 := Tryd.underlying0
  a0 := Tryd.isAgg0
  z0 := Tryd.sizeOf0
  v0 := Tryd.zeroValue0
  t3 := Tryd.underlying3
  a3 := Tryd.isAgg3
  z3 := Tryd.sizeOf3
  v3 := Tryd.zeroValue3
  t4 := Tryd.underlying4
  a4 := Tryd.isAgg4
  z4 := Tryd.sizeOf4
  v4 := Tryd.zeroValue4
  t22 := Tryd.underlying45
  a22 := Tryd.isAgg45
  z22 := Tryd.sizeOf45
  v22 := Tryd.zeroValue45
  a23 := Tryd.isAgg3
  z23 := Tryd.sizeOf3
  t25 := Tryd.underlying83
  a25 := Tryd.isAgg83
  z25 := Tryd.sizeOf83
  v25 := Tryd.zeroValue83 }
end Go.Proofs.YtcdoopccmljaoaaDoor
