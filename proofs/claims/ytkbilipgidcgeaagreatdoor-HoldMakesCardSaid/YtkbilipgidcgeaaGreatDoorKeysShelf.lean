/- Layings of slices.Sorted, slices.Collect and maps.Keys at this program, as the kit lays them. -/
import Derived.Test.YtkbilipgidcgeaaGreatDoorProg
import Derived.Shelf.SlIterI.Keys
import Derived.Shelf.SlIterI.Collect
import Derived.RangeFuncBound
import Derived.Deep.AppendLies
import Derived.Ground.GgzProg
namespace Go.Proofs
open Go.Shelf
def Tryz.keysT_ren : Go.Shelf.Ren := ⟨fun | 7 => 281 | 10 => 335 | n => n, fun | 23 => 143 | 26 => 3 | 3 => 4 | 28 => 194 | 0 => 0 | 27 => 193 | 33 => 131 | 4 => 4 | n => n, fun | n => n⟩
theorem Tryz.keysT : Go.Proofs.SlLaysZI.n7 Tryz.prog Tryz.keysT_ren := {
  mixed := by kernel_rfl
  f7 := ⟨Tryz.f281.name, by decide, Tryz.func281.trans (congrArg some (by kernel_rfl))⟩
  f10 := ⟨Tryz.f335.name, by decide, Tryz.func335.trans (congrArg some (by kernel_rfl))⟩
  t0 := Tryz.underlying0
  a0 := Tryz.isAgg0
  z0 := Tryz.sizeOf0
  v0 := Tryz.zeroValue0
  t4 := Tryz.underlying4
  a4 := Tryz.isAgg4
  z4 := Tryz.sizeOf4
  v4 := Tryz.zeroValue4
  t23 := Tryz.underlying143
  a23 := Tryz.isAgg143
  z23 := Tryz.sizeOf143
  v23 := Tryz.zeroValue143
  t26 := Tryz.underlying3
  a26 := Tryz.isAgg3
  z26 := Tryz.sizeOf3
  v26 := Tryz.zeroValue3
  t27 := Tryz.underlying193
  a27 := Tryz.isAgg193
  z27 := Tryz.sizeOf193
  v27 := Tryz.zeroValue193
  t28 := Tryz.underlying194
  a28 := Tryz.isAgg194
  z28 := Tryz.sizeOf194
  v28 := Tryz.zeroValue194
  t33 := Tryz.underlying131
  a33 := Tryz.isAgg131
  z33 := Tryz.sizeOf131
  v33 := Tryz.zeroValue131 }
def Tryz.keysM_ren : Go.Shelf.Ren := ⟨fun | 7 => 161 | 10 => 219 | n => n, fun | 23 => 142 | 26 => 3 | 3 => 45 | 28 => 194 | 0 => 0 | 27 => 193 | 33 => 131 | 4 => 4 | n => n, fun | n => n⟩
theorem Tryz.keysM : Go.Proofs.SlLaysZI.n7 Tryz.prog Tryz.keysM_ren := {
  mixed := by kernel_rfl
  f7 := ⟨Tryz.f161.name, by decide, Tryz.func161.trans (congrArg some (by kernel_rfl))⟩
  f10 := ⟨Tryz.f219.name, by decide, Tryz.func219.trans (congrArg some (by kernel_rfl))⟩
  t0 := Tryz.underlying0
  a0 := Tryz.isAgg0
  z0 := Tryz.sizeOf0
  v0 := Tryz.zeroValue0
  t4 := Tryz.underlying4
  a4 := Tryz.isAgg4
  z4 := Tryz.sizeOf4
  v4 := Tryz.zeroValue4
  t23 := Tryz.underlying142
  a23 := Tryz.isAgg142
  z23 := Tryz.sizeOf142
  v23 := Tryz.zeroValue142
  t26 := Tryz.underlying3
  a26 := Tryz.isAgg3
  z26 := Tryz.sizeOf3
  v26 := Tryz.zeroValue3
  t27 := Tryz.underlying193
  a27 := Tryz.isAgg193
  z27 := Tryz.sizeOf193
  v27 := Tryz.zeroValue193
  t28 := Tryz.underlying194
  a28 := Tryz.isAgg194
  z28 := Tryz.sizeOf194
  v28 := Tryz.zeroValue194
  t33 := Tryz.underlying131
  a33 := Tryz.isAgg131
  z33 := Tryz.sizeOf131
  v33 := Tryz.zeroValue131 }
def Tryz.sortedA_ren : Go.Shelf.Ren := ⟨fun | 6 => 94 | 8 => 181 | 9 => 182 | 11 => 271 | 13 => 273 | 12 => 272 | 23 => 323 | 24 => 324 | 14 => 314 | 15 => 315 | 16 => 316 | 17 => 317 | 18 => 318 | 19 => 319 | 20 => 320 | 21 => 321 | 22 => 322 | 25 => 351 | 26 => 352 | 27 => 353 | 28 => 354 | 29 => 355 | 30 => 223 | 31 => 366 | n => n, fun | 26 => 3 | 28 => 194 | 24 => 31 | 0 => 0 | 3 => 3 | 37 => 68 | 48 => 191 | 50 => 159 | 4 => 4 | 40 => 410 | 39 => 409 | 45 => 88 | 5 => 5 | 9 => 9 | 51 => 434 | 55 => 287 | 57 => 447 | 58 => 448 | 33 => 131 | n => n, fun | n => n⟩
theorem Tryz.sortedA : Go.Proofs.SlLaysZI.n6 Tryz.prog Tryz.sortedA_ren := {
  mixed := by kernel_rfl
  f6 := ⟨Tryz.f94.name, by decide, Tryz.func94.trans (congrArg some (by kernel_rfl))⟩
  f8 := ⟨Tryz.f181.name, by decide, Tryz.func181.trans (congrArg some (by kernel_rfl))⟩
  f11 := ⟨Tryz.f271.name, by decide, Tryz.func271.trans (congrArg some (by kernel_rfl))⟩
  t0 := Tryz.underlying0
  a0 := Tryz.isAgg0
  z0 := Tryz.sizeOf0
  v0 := Tryz.zeroValue0
  t24 := Tryz.underlying31
  a24 := Tryz.isAgg31
  z24 := Tryz.sizeOf31
  v24 := Tryz.zeroValue31
  t26 := Tryz.underlying3
  a26 := Tryz.isAgg3
  z26 := Tryz.sizeOf3
  v26 := Tryz.zeroValue3
  t28 := Tryz.underlying194
  a28 := Tryz.isAgg194
  z28 := Tryz.sizeOf194
  v28 := Tryz.zeroValue194
  i26 := by kernel_rfl }
end Go.Proofs
