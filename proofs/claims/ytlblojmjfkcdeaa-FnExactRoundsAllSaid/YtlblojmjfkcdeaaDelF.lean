/- slices.DeleteFunc at []int, the shelf's contract at this seat's numbers (written by the shelf's own tools). No conditions. -/
import Derived.Shelf.SlicesE.DeleteFunc
import Derived.Test.YtlblojmjfkcdeaaProg
namespace Go.Proofs.Ytlblojmjfkcdeaa
open Go.Shelf
def delFL_ren : Go.Shelf.Ren := ⟨fun | 10 => 71 | 6 => 77 | n => n, fun | 22 => 39 | 23 => 3 | 25 => 68 | 3 => 3 | 4 => 4 | 0 => 0 | n => n, fun | n => n⟩
theorem delFL : Go.Proofs.SlLaysH.n10 Try.prog delFL_ren := {
  mixed := by kernel_rfl
  f6 := ⟨Try.f77.name, by decide, Try.func77.trans (congrArg some (by kernel_rfl))⟩
  f10 := ⟨Try.f71.name, by decide, Try.func71.trans (congrArg some (by kernel_rfl))⟩
  t0 := Try.underlying0
  a0 := Try.isAgg0
  z0 := Try.sizeOf0
  v0 := Try.zeroValue0
  t3 := Try.underlying3
  a3 := Try.isAgg3
  z3 := Try.sizeOf3
  v3 := Try.zeroValue3
  t4 := Try.underlying4
  a4 := Try.isAgg4
  z4 := Try.sizeOf4
  v4 := Try.zeroValue4
  t22 := Try.underlying39
  a22 := Try.isAgg39
  z22 := Try.sizeOf39
  v22 := Try.zeroValue39
  a23 := Try.isAgg3
  z23 := Try.sizeOf3
  t25 := Try.underlying68
  a25 := Try.isAgg68
  z25 := Try.sizeOf68
  v25 := Try.zeroValue68 }
end Go.Proofs.Ytlblojmjfkcdeaa
