/- Contracts of the shelf at this program's numbers (printed by the kit's tools); the conditions are in each. -/
import Derived.Test.YtdfppjcaelghhaaGreatDoorProg
import Derived.Ground.SlsfProg
import Derived.Shelf.SlGeneric
import Derived.Shelf.SlSortCmp.WholeK
namespace Go.Proofs
open Go.Shelf
def Tryz.sortF_ren : Go.Shelf.Ren := ⟨fun | 6 => 187 | 15 => 212 | 14 => 244 | 28 => 265 | 29 => 266 | 20 => 276 | 21 => 277 | 22 => 278 | 23 => 279 | 24 => 280 | 25 => 281 | 26 => 282 | 27 => 283 | 46 => 296 | 47 => 290 | 48 => 291 | 49 => 297 | 50 => 298 | 57 => 305 | n => n, fun | 22 => 40 | 24 => 44 | 25 => 260 | 3 => 3 | 39 => 195 | 0 => 0 | 53 => 42 | 55 => 29 | 4 => 4 | 46 => 315 | 45 => 314 | 50 => 319 | 5 => 5 | 9 => 9 | 66 => 345 | 70 => 348 | 76 => 356 | 77 => 357 | n => n, fun | n => n⟩
theorem Tryz.sortF : Go.Proofs.SlLaysF0.n6 Tryz.prog Tryz.sortF_ren := {
  mixed := by kernel_rfl
  f6 := ⟨Tryz.f187.name, by decide, Tryz.func187.trans (congrArg some (by kernel_rfl))⟩
  f14 := ⟨Tryz.f244.name, by decide, Tryz.func244.trans (congrArg some (by kernel_rfl))⟩
  f15 := Tryz.func212.trans (congrArg some (by kernel_rfl))
  f20 := ⟨Tryz.f276.name, by decide, Tryz.func276.trans (congrArg some (by kernel_rfl))⟩
  f21 := ⟨Tryz.f277.name, by decide, Tryz.func277.trans (congrArg some (by kernel_rfl))⟩
  f22 := ⟨Tryz.f278.name, by decide, Tryz.func278.trans (congrArg some (by kernel_rfl))⟩
  f23 := ⟨Tryz.f279.name, by decide, Tryz.func279.trans (congrArg some (by kernel_rfl))⟩
  f24 := ⟨Tryz.f280.name, by decide, Tryz.func280.trans (congrArg some (by kernel_rfl))⟩
  f25 := ⟨Tryz.f281.name, by decide, Tryz.func281.trans (congrArg some (by kernel_rfl))⟩
  f26 := ⟨Tryz.f282.name, by decide, Tryz.func282.trans (congrArg some (by kernel_rfl))⟩
  f27 := ⟨Tryz.f283.name, by decide, Tryz.func283.trans (congrArg some (by kernel_rfl))⟩
  f28 := Tryz.func265.trans (congrArg some (by kernel_rfl))
  f29 := Tryz.func266.trans (congrArg some (by kernel_rfl))
  f46 := ⟨Tryz.f296.name, by decide, Tryz.func296.trans (congrArg some (by kernel_rfl))⟩
  f47 := Tryz.func290.trans (congrArg some (by kernel_rfl))
  f48 := Tryz.func291.trans (congrArg some (by kernel_rfl))
  f49 := ⟨Tryz.f297.name, by decide, Tryz.func297.trans (congrArg some (by kernel_rfl))⟩
  f50 := ⟨Tryz.f298.name, by decide, Tryz.func298.trans (congrArg some (by kernel_rfl))⟩
  f57 := ⟨Tryz.f305.name, by decide, Tryz.func305.trans (congrArg some (by kernel_rfl))⟩
  t0 := Tryz.underlying0
  a0 := Tryz.isAgg0
  z0 := Tryz.sizeOf0
  v0 := Tryz.zeroValue0
  t3 := Tryz.underlying3
  a3 := Tryz.isAgg3
  z3 := Tryz.sizeOf3
  v3 := Tryz.zeroValue3
  t4 := Tryz.underlying4
  a4 := Tryz.isAgg4
  z4 := Tryz.sizeOf4
  v4 := Tryz.zeroValue4
  t5 := Tryz.underlying5
  a5 := Tryz.isAgg5
  z5 := Tryz.sizeOf5
  v5 := Tryz.zeroValue5
  t9 := Tryz.underlying9
  a9 := Tryz.isAgg9
  z9 := Tryz.sizeOf9
  v9 := Tryz.zeroValue9
  t22 := Tryz.underlying40
  a22 := Tryz.isAgg40
  z22 := Tryz.sizeOf40
  v22 := Tryz.zeroValue40
  t25 := Tryz.underlying260
  a25 := Tryz.isAgg260
  z25 := Tryz.sizeOf260
  v25 := Tryz.zeroValue260
  t39 := Tryz.underlying195
  a39 := Tryz.isAgg195
  z39 := Tryz.sizeOf195
  v39 := Tryz.zeroValue195
  t45 := Tryz.underlying314
  a45 := Tryz.isAgg314
  z45 := Tryz.sizeOf314
  v45 := Tryz.zeroValue314
  t46 := Tryz.underlying315
  a46 := Tryz.isAgg315
  z46 := Tryz.sizeOf315
  v46 := Tryz.zeroValue315
  t50 := Tryz.underlying319
  a50 := Tryz.isAgg319
  z50 := Tryz.sizeOf319
  v50 := Tryz.zeroValue319
  t53 := Tryz.underlying42
  a53 := Tryz.isAgg42
  z53 := Tryz.sizeOf42
  v53 := Tryz.zeroValue42
  t55 := Tryz.underlying29
  a55 := Tryz.isAgg29
  z55 := Tryz.sizeOf29
  v55 := Tryz.zeroValue29
  t66 := Tryz.underlying345
  a66 := Tryz.isAgg345
  z66 := Tryz.sizeOf345
  v66 := Tryz.zeroValue345
  t70 := Tryz.underlying348
  a70 := Tryz.isAgg348
  z70 := Tryz.sizeOf348
  v70 := Tryz.zeroValue348
  t76 := Tryz.underlying356
  a76 := Tryz.isAgg356
  z76 := Tryz.sizeOf356
  v76 := Tryz.zeroValue356
  t77 := Tryz.underlying357
  a77 := Tryz.isAgg357
  z77 := Tryz.sizeOf357
  v77 := Tryz.zeroValue357 }
end Go.Proofs
