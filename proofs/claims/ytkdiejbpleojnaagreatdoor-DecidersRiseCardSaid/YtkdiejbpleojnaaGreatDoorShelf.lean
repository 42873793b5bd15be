/-
  DERIVED: THE SHELF's CONTRACTS AT THIS DUMP, IN PLAIN WORDS (tools/lay-plain.mjs out of 'YtkdiejbpleojnaaGreatDoorShelf.lean', which tools/lay-shelf.mjs wrote): THE SAME DECLARATIONS UNDER THE SAME NAMES: 'import', 'namespace', 'open', 'def', 'theorem' AND NOTHING ELSE: no command of the shelf's: FOR A HAND-IN. Each laying: the table of numbers ('.._ren') and one theorem, a field a fact of the dump's own or the kernel's comparison; each contract: ONE APPLICATION.
-/
import Derived.Test.YtkdiejbpleojnaaGreatDoorProg
import Derived.Ground.NamesProg
import Derived.Shelf.Strings.SlTrimAscii
namespace Go.Proofs
open Go.Shelf
def Tryz.lays160_ren : Go.Shelf.Ren := ⟨fun | 160 => 156 | 232 => 242 | 231 => 241 | 227 => 243 | 234 => 245 | 233 => 244 | 236 => 247 | 235 => 246 | 228 => 285 | 271 => 288 | 151 => 287 | 197 => 286 | 120 => 317 | 152 => 316 | 260 => 315 | 137 => 336 | 119 => 337 | 224 => 338 | 225 => 339 | 217 => 346 | 266 => 348 | n => n, fun | 9 => 9 | 4 => 4 | 3 => 3 | 5 => 5 | 117 => 335 | 116 => 334 | 0 => 0 | 124 => 338 | 21 => 21 | 105 => 374 | 46 => 289 | 119 => 415 | 139 => 418 | 138 => 417 | n => n, fun | 3 => 3 | 4 => 4 | n => n⟩
theorem Tryz.lays160 : Go.Proofs.Lays.n160 Tryz.prog Tryz.lays160_ren := {
  mixed := by kernel_rfl
  f119 := Tryz.func337.trans (congrArg some (by kernel_rfl))
  f120 := Tryz.func317.trans (congrArg some (by kernel_rfl))
  f137 := Tryz.func336.trans (congrArg some (by kernel_rfl))
  f151 := Tryz.func287.trans (congrArg some (by kernel_rfl))
  f152 := Tryz.func316.trans (congrArg some (by kernel_rfl))
  f160 := Tryz.func156.trans (congrArg some (by kernel_rfl))
  f197 := Tryz.func286.trans (congrArg some (by kernel_rfl))
  f217 := Tryz.func346.trans (congrArg some (by kernel_rfl))
  f224 := Tryz.func338.trans (congrArg some (by kernel_rfl))
  f225 := Tryz.func339.trans (congrArg some (by kernel_rfl))
  f227 := Tryz.func243.trans (congrArg some (by kernel_rfl))
  f228 := Tryz.func285.trans (congrArg some (by kernel_rfl))
  f231 := Tryz.func241.trans (congrArg some (by kernel_rfl))
  f232 := Tryz.func242.trans (congrArg some (by kernel_rfl))
  f233 := Tryz.func244.trans (congrArg some (by kernel_rfl))
  f234 := Tryz.func245.trans (congrArg some (by kernel_rfl))
  f235 := Tryz.func246.trans (congrArg some (by kernel_rfl))
  f236 := Tryz.func247.trans (congrArg some (by kernel_rfl))
  f260 := Tryz.func315.trans (congrArg some (by kernel_rfl))
  f266 := Tryz.func348.trans (congrArg some (by kernel_rfl))
  f271 := Tryz.func288.trans (congrArg some (by kernel_rfl))
  t0 := Tryz.underlying0
  a0 := Tryz.isAgg0
  z0 := Tryz.sizeOf0
  v0 := Tryz.zeroValue0
  t3 := Tryz.underlying3
  a3 := Tryz.isAgg3
  z3 := Tryz.sizeOf3
  v3 := Tryz.zeroValue3
  t4 := Tryz.underlying4
  a4 := Tryz.isAgg4
  z4 := Tryz.sizeOf4
  v4 := Tryz.zeroValue4
  t5 := Tryz.underlying5
  a5 := Tryz.isAgg5
  z5 := Tryz.sizeOf5
  v5 := Tryz.zeroValue5
  t9 := Tryz.underlying9
  a9 := Tryz.isAgg9
  z9 := Tryz.sizeOf9
  v9 := Tryz.zeroValue9
  t21 := Tryz.underlying21
  a21 := Tryz.isAgg21
  z21 := Tryz.sizeOf21
  v21 := Tryz.zeroValue21
  t46 := Tryz.underlying289
  a46 := Tryz.isAgg289
  z46 := Tryz.sizeOf289
  v46 := Tryz.zeroValue289
  t105 := Tryz.underlying374
  a105 := Tryz.isAgg374
  z105 := Tryz.sizeOf374
  v105 := Tryz.zeroValue374
  t116 := Tryz.underlying334
  a116 := Tryz.isAgg334
  z116 := Tryz.sizeOf334
  t117 := Tryz.underlying335
  a117 := Tryz.isAgg335
  z117 := Tryz.sizeOf335
  v117 := Tryz.zeroValue335
  t119 := Tryz.underlying415
  a119 := Tryz.isAgg415
  z119 := Tryz.sizeOf415
  t124 := Tryz.underlying338
  a124 := Tryz.isAgg338
  z124 := Tryz.sizeOf338
  v124 := Tryz.zeroValue338
  t138 := Tryz.underlying417
  a138 := Tryz.isAgg417
  z138 := Tryz.sizeOf417
  v138 := Tryz.zeroValue417
  t139 := Tryz.underlying418
  a139 := Tryz.isAgg418
  z139 := Tryz.sizeOf418
  v139 := Tryz.zeroValue418
  g3 := by kernel_rfl
  g4 := by kernel_rfl }
end Go.Proofs
