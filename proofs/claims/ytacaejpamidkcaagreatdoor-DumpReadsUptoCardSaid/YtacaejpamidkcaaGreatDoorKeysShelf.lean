/- Layings of slices.Sorted, slices.Collect and maps.Keys at this program, as the kit lays them. -/
import Derived.Shelf.SlIterI.Keys
import Derived.Shelf.SlIterI.Collect
import Derived.Shelf.SlIterI.Sorted
import Derived.Ground.GgzProg
import Derived.Test.YtacaejpamidkcaaGreatDoorProg
namespace Go.Proofs
open Go.Shelf
def Tryz.keysT_ren : Go.Shelf.Ren := ⟨fun | 7 => 344 | 10 => 411 | n => n, fun | 23 => 161 | 26 => 3 | 3 => 4 | 28 => 310 | 0 => 0 | 27 => 309 | 33 => 236 | 4 => 4 | n => n, fun | n => n⟩
theorem Tryz.keysT : Go.Proofs.SlLaysZI.n7 Tryz.prog Tryz.keysT_ren := {
  mixed := by kernel_rfl
  f7 := ⟨Tryz.f344.name, by decide, Tryz.func344.trans (congrArg some (by kernel_rfl))⟩
  f10 := ⟨Tryz.f411.name, by decide, Tryz.func411.trans (congrArg some (by kernel_rfl))⟩
  t0 := Tryz.underlying0
  a0 := Tryz.isAgg0
  z0 := Tryz.sizeOf0
  v0 := Tryz.zeroValue0
  t4 := Tryz.underlying4
  a4 := Tryz.isAgg4
  z4 := Tryz.sizeOf4
  v4 := Tryz.zeroValue4
  t23 := Tryz.underlying161
  a23 := Tryz.isAgg161
  z23 := Tryz.sizeOf161
  v23 := Tryz.zeroValue161
  t26 := Tryz.underlying3
  a26 := Tryz.isAgg3
  z26 := Tryz.sizeOf3
  v26 := Tryz.zeroValue3
  t27 := Tryz.underlying309
  a27 := Tryz.isAgg309
  z27 := Tryz.sizeOf309
  v27 := Tryz.zeroValue309
  t28 := Tryz.underlying310
  a28 := Tryz.isAgg310
  z28 := Tryz.sizeOf310
  v28 := Tryz.zeroValue310
  t33 := Tryz.underlying236
  a33 := Tryz.isAgg236
  z33 := Tryz.sizeOf236
  v33 := Tryz.zeroValue236 }
def Tryz.keysM_ren : Go.Shelf.Ren := ⟨fun | 7 => 163 | 10 => 243 | n => n, fun | 23 => 160 | 26 => 3 | 3 => 52 | 28 => 310 | 0 => 0 | 27 => 309 | 33 => 236 | 4 => 4 | n => n, fun | n => n⟩
theorem Tryz.keysM : Go.Proofs.SlLaysZI.n7 Tryz.prog Tryz.keysM_ren := {
  mixed := by kernel_rfl
  f7 := ⟨Tryz.f163.name, by decide, Tryz.func163.trans (congrArg some (by kernel_rfl))⟩
  f10 := ⟨Tryz.f243.name, by decide, Tryz.func243.trans (congrArg some (by kernel_rfl))⟩
  t0 := Tryz.underlying0
  a0 := Tryz.isAgg0
  z0 := Tryz.sizeOf0
  v0 := Tryz.zeroValue0
  t4 := Tryz.underlying4
  a4 := Tryz.isAgg4
  z4 := Tryz.sizeOf4
  v4 := Tryz.zeroValue4
  t23 := Tryz.underlying160
  a23 := Tryz.isAgg160
  z23 := Tryz.sizeOf160
  v23 := Tryz.zeroValue160
  t26 := Tryz.underlying3
  a26 := Tryz.isAgg3
  z26 := Tryz.sizeOf3
  v26 := Tryz.zeroValue3
  t27 := Tryz.underlying309
  a27 := Tryz.isAgg309
  z27 := Tryz.sizeOf309
  v27 := Tryz.zeroValue309
  t28 := Tryz.underlying310
  a28 := Tryz.isAgg310
  z28 := Tryz.sizeOf310
  v28 := Tryz.zeroValue310
  t33 := Tryz.underlying236
  a33 := Tryz.isAgg236
  z33 := Tryz.sizeOf236
  v33 := Tryz.zeroValue236 }
def Tryz.sortedA_ren : Go.Shelf.Ren := ⟨fun | 6 => 162 | 8 => 241 | 9 => 242 | 11 => 364 | 13 => 337 | 12 => 365 | 23 => 407 | 24 => 408 | 14 => 416 | 15 => 417 | 16 => 418 | 17 => 419 | 18 => 420 | 19 => 421 | 20 => 422 | 21 => 423 | 22 => 424 | 25 => 445 | 26 => 441 | 27 => 442 | 28 => 446 | 29 => 447 | 30 => 338 | 31 => 456 | n => n, fun | 26 => 3 | 28 => 310 | 24 => 38 | 0 => 0 | 3 => 3 | 37 => 213 | 48 => 569 | 50 => 147 | 4 => 4 | 40 => 563 | 39 => 562 | 45 => 124 | 5 => 5 | 9 => 9 | 51 => 592 | 55 => 215 | 57 => 602 | 58 => 603 | 33 => 236 | n => n, fun | n => n⟩
theorem Tryz.sortedA : Go.Proofs.SlLaysZI.n6 Tryz.prog Tryz.sortedA_ren := {
  mixed := by kernel_rfl
  f6 := ⟨Tryz.f162.name, by decide, Tryz.func162.trans (congrArg some (by kernel_rfl))⟩
  f8 := ⟨Tryz.f241.name, by decide, Tryz.func241.trans (congrArg some (by kernel_rfl))⟩
  f11 := ⟨Tryz.f364.name, by decide, Tryz.func364.trans (congrArg some (by kernel_rfl))⟩
  t0 := Tryz.underlying0
  a0 := Tryz.isAgg0
  z0 := Tryz.sizeOf0
  v0 := Tryz.zeroValue0
  t24 := Tryz.underlying38
  a24 := Tryz.isAgg38
  z24 := Tryz.sizeOf38
  v24 := Tryz.zeroValue38
  t26 := Tryz.underlying3
  a26 := Tryz.isAgg3
  z26 := Tryz.sizeOf3
  v26 := Tryz.zeroValue3
  t28 := Tryz.underlying310
  a28 := Tryz.isAgg310
  z28 := Tryz.sizeOf310
  v28 := Tryz.zeroValue310
  i26 := by kernel_rfl }
end Go.Proofs
