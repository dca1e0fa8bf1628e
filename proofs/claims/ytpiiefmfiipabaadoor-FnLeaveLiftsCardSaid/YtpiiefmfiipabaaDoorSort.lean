/- slices.Sort at []int, the shelf's contract at this seat's numbers (written by the shelf's own tools). No conditions but a bound on the length. -/
import Derived.Shelf.Sort.Plain
import Derived.Shelf.Slices.In.SortNone
import Derived.Test.YtpiiefmfiipabaaDoorProg
namespace Go.Proofs.YtpiiefmfiipabaaDoor
open Go.Shelf
def sortLays_ren : Go.Shelf.Ren := ⟨fun | 189 => 86 | 125 => 96 | 257 => 95 | 128 => 107 | 129 => 108 | 294 => 98 | 295 => 99 | 296 => 100 | 297 => 101 | 298 => 102 | 299 => 103 | 216 => 104 | 300 => 105 | 301 => 106 | 328 => 110 | 329 => 111 | 330 => 112 | 331 => 113 | 332 => 114 | 215 => 115 | 343 => 117 | n => n, fun | 28 => 23 | 3 => 3 | 46 => 103 | 0 => 0 | 51 => 114 | 53 => 116 | 4 => 4 | 183 => 107 | 182 => 106 | 131 => 67 | 5 => 5 | 9 => 9 | 218 => 117 | 222 => 121 | 228 => 124 | 229 => 125 | n => n, fun | n => n⟩
theorem sortLays : Go.Proofs.Lays.n189 Tryd.prog sortLays_ren := {
  mixed := by kernel_rfl
  f125 := Tryd.func96.trans (congrArg some (by kernel_rfl))
  f128 := Tryd.func107.trans (congrArg some (by kernel_rfl))
  f129 := Tryd.func108.trans (congrArg some (by kernel_rfl))
  f189 := Tryd.func86.trans (congrArg some (by kernel_rfl))
  f215 := Tryd.func115.trans (congrArg some (by kernel_rfl))
  f216 := Tryd.func104.trans (congrArg some (by kernel_rfl))
  f257 := Tryd.func95.trans (congrArg some (by kernel_rfl))
  f294 := Tryd.func98.trans (congrArg some (by kernel_rfl))
  f295 := Tryd.func99.trans (congrArg some (by kernel_rfl))
  f296 := Tryd.func100.trans (congrArg some (by kernel_rfl))
  f297 := Tryd.func101.trans (congrArg some (by kernel_rfl))
  f298 := Tryd.func102.trans (congrArg some (by kernel_rfl))
  f299 := Tryd.func103.trans (congrArg some (by kernel_rfl))
  f300 := Tryd.func105.trans (congrArg some (by kernel_rfl))
  f301 := Tryd.func106.trans (congrArg some (by kernel_rfl))
  f328 := Tryd.func110.trans (congrArg some (by kernel_rfl))
  f329 := Tryd.func111.trans (congrArg some (by kernel_rfl))
  f330 := Tryd.func112.trans (congrArg some (by kernel_rfl))
  f331 := Tryd.func113.trans (congrArg some (by kernel_rfl))
  f332 := Tryd.func114.trans (congrArg some (by kernel_rfl))
  f343 := Tryd.func117.trans (congrArg some (by kernel_rfl))
  t0 := Tryd.underlying0
  a0 := Tryd.isAgg0
  z0 := Tryd.sizeOf0
  v0 := Tryd.zeroValue0
  t3 := Tryd.underlying3
  a3 := Tryd.isAgg3
  z3 := Tryd.sizeOf3
  v3 := Tryd.zeroValue3
  t4 := Tryd.underlying4
  a4 := Tryd.isAgg4
  z4 := Tryd.sizeOf4
  v4 := Tryd.zeroValue4
  t5 := Tryd.underlying5
  a5 := Tryd.isAgg5
  z5 := Tryd.sizeOf5
  v5 := Tryd.zeroValue5
  t9 := Tryd.underlying9
  a9 := Tryd.isAgg9
  z9 := Tryd.sizeOf9
  v9 := Tryd.zeroValue9
  t28 := Tryd.underlying23
  a28 := Tryd.isAgg23
  z28 := Tryd.sizeOf23
  v28 := Tryd.zeroValue23
  t46 := Tryd.underlying103
  a46 := Tryd.isAgg103
  z46 := Tryd.sizeOf103
  v46 := Tryd.zeroValue103
  t51 := Tryd.underlying114
  a51 := Tryd.isAgg114
  z51 := Tryd.sizeOf114
  v51 := Tryd.zeroValue114
  t53 := Tryd.underlying116
  a53 := Tryd.isAgg116
  z53 := Tryd.sizeOf116
  v53 := Tryd.zeroValue116
  t131 := Tryd.underlying67
  a131 := Tryd.isAgg67
  z131 := Tryd.sizeOf67
  v131 := Tryd.zeroValue67
  t182 := Tryd.underlying106
  a182 := Tryd.isAgg106
  z182 := Tryd.sizeOf106
  v182 := Tryd.zeroValue106
  t183 := Tryd.underlying107
  a183 := Tryd.isAgg107
  z183 := Tryd.sizeOf107
  v183 := Tryd.zeroValue107
  t218 := Tryd.underlying117
  a218 := Tryd.isAgg117
  z218 := Tryd.sizeOf117
  v218 := Tryd.zeroValue117
  t222 := Tryd.underlying121
  a222 := Tryd.isAgg121
  z222 := Tryd.sizeOf121
  v222 := Tryd.zeroValue121
  t228 := Tryd.underlying124
  a228 := Tryd.isAgg124
  z228 := Tryd.sizeOf124
  v228 := Tryd.zeroValue124
  t229 := Tryd.underlying125
  a229 := Tryd.isAgg125
  z229 := Tryd.sizeOf125
  v229 := Tryd.zeroValue125 }
open Go.Sort Go.RowKit in
theorem sort_int (blk off cap : Nat) (zs : List Int) (w : World) (hH : Holds (Value.int .i64) w blk off zs.toArray) (hblk : blk < w.heap.size) (hsz : zs.length < 4611686018427387904) :
    Calls Tryd.prog 86 #[.slice (some ⟨blk, off, none⟩) zs.length cap] w fun e w' =>
      e = .returned (.tuple #[]) ∧ ∃ n os, w' = grow (putRow (Value.int .i64) (Sort.ahead w n) blk off (zs.mergeSort fun x y => decide (x ≤ y)).toArray) os := Any.slices_Sort_int sortLays blk off cap zs w hH hblk hsz
open Go.Sort Go.RowKit in
theorem sort_int_none (p : Option Addr) (cap : Nat) (w : World) :
    Calls Tryd.prog 86 #[.slice p 0 cap] w fun e w' => e = .returned (.tuple #[]) ∧ w' = w := Any.slices_Sort_int_none sortLays p cap w
end Go.Proofs.YtpiiefmfiipabaaDoor
