/- Srt0: texts put together. -/
import Derived.Test.YtclkgblckicabaaGreatProg
import Derived.Shelf.Sort.Plain
import Derived.Shelf.Slices.CompactI
import Derived.Shelf.Slices.In.SortNone
import Derived.Ground.NamesProg
import Derived.Ground.Names2Prog
/-
  DERIVED: THE SHELF's CONTRACTS AT THIS DUMP, IN PLAIN WORDS (tools/lay-plain.mjs out of 'YtclkgblckicabaaGreatSrt0.lean', which tools/lay-shelf.mjs wrote): THE SAME DECLARATIONS UNDER THE SAME NAMES: 'import', 'namespace', 'open', 'def', 'theorem' AND NOTHING ELSE: no command of the shelf's: FOR A HAND-IN. Each laying: the table of numbers ('.._ren') and one theorem, a field a fact of the dump's own or the kernel's comparison; each contract: ONE APPLICATION.
-/
namespace Go.Proofs
open Go.Shelf
def YtclkgblckicabaaGreat.lays189_ren : Go.Shelf.Ren := ⟨fun | 189 => 271 | 125 => 322 | 257 => 321 | 128 => 347 | 129 => 348 | 294 => 338 | 295 => 339 | 296 => 340 | 297 => 341 | 298 => 342 | 299 => 343 | 216 => 344 | 300 => 345 | 301 => 346 | 328 => 353 | 329 => 354 | 330 => 355 | 331 => 356 | 332 => 357 | 215 => 358 | 343 => 359 | n => n, fun | 28 => 28 | 3 => 3 | 46 => 93 | 0 => 0 | 51 => 298 | 53 => 55 | 4 => 4 | 183 => 293 | 182 => 292 | 131 => 39 | 5 => 5 | 9 => 9 | 218 => 305 | 222 => 308 | 228 => 310 | 229 => 311 | n => n, fun | n => n⟩
theorem YtclkgblckicabaaGreat.lays189 : Go.Proofs.Lays.n189 Tryz.prog YtclkgblckicabaaGreat.lays189_ren := {
  mixed := by kernel_rfl
  f125 := Tryz.func322.trans (congrArg some (by kernel_rfl))
  f128 := Tryz.func347.trans (congrArg some (by kernel_rfl))
  f129 := Tryz.func348.trans (congrArg some (by kernel_rfl))
  f189 := Tryz.func271.trans (congrArg some (by kernel_rfl))
  f215 := Tryz.func358.trans (congrArg some (by kernel_rfl))
  f216 := Tryz.func344.trans (congrArg some (by kernel_rfl))
  f257 := Tryz.func321.trans (congrArg some (by kernel_rfl))
  f294 := Tryz.func338.trans (congrArg some (by kernel_rfl))
  f295 := Tryz.func339.trans (congrArg some (by kernel_rfl))
  f296 := Tryz.func340.trans (congrArg some (by kernel_rfl))
  f297 := Tryz.func341.trans (congrArg some (by kernel_rfl))
  f298 := Tryz.func342.trans (congrArg some (by kernel_rfl))
  f299 := Tryz.func343.trans (congrArg some (by kernel_rfl))
  f300 := Tryz.func345.trans (congrArg some (by kernel_rfl))
  f301 := Tryz.func346.trans (congrArg some (by kernel_rfl))
  f328 := Tryz.func353.trans (congrArg some (by kernel_rfl))
  f329 := Tryz.func354.trans (congrArg some (by kernel_rfl))
  f330 := Tryz.func355.trans (congrArg some (by kernel_rfl))
  f331 := Tryz.func356.trans (congrArg some (by kernel_rfl))
  f332 := Tryz.func357.trans (congrArg some (by kernel_rfl))
  f343 := Tryz.func359.trans (congrArg some (by kernel_rfl))
  t0 := Tryz.underlying0
  a0 := Tryz.isAgg0
  z0 := Tryz.sizeOf0
  v0 := Tryz.zeroValue0
  t3 := Tryz.underlying3
  a3 := Tryz.isAgg3
  z3 := Tryz.sizeOf3
  v3 := Tryz.zeroValue3
  t4 := Tryz.underlying4
  a4 := Tryz.isAgg4
  z4 := Tryz.sizeOf4
  v4 := Tryz.zeroValue4
  t5 := Tryz.underlying5
  a5 := Tryz.isAgg5
  z5 := Tryz.sizeOf5
  v5 := Tryz.zeroValue5
  t9 := Tryz.underlying9
  a9 := Tryz.isAgg9
  z9 := Tryz.sizeOf9
  v9 := Tryz.zeroValue9
  t28 := Tryz.underlying28
  a28 := Tryz.isAgg28
  z28 := Tryz.sizeOf28
  v28 := Tryz.zeroValue28
  t46 := Tryz.underlying93
  a46 := Tryz.isAgg93
  z46 := Tryz.sizeOf93
  v46 := Tryz.zeroValue93
  t51 := Tryz.underlying298
  a51 := Tryz.isAgg298
  z51 := Tryz.sizeOf298
  v51 := Tryz.zeroValue298
  t53 := Tryz.underlying55
  a53 := Tryz.isAgg55
  z53 := Tryz.sizeOf55
  v53 := Tryz.zeroValue55
  t131 := Tryz.underlying39
  a131 := Tryz.isAgg39
  z131 := Tryz.sizeOf39
  v131 := Tryz.zeroValue39
  t182 := Tryz.underlying292
  a182 := Tryz.isAgg292
  z182 := Tryz.sizeOf292
  v182 := Tryz.zeroValue292
  t183 := Tryz.underlying293
  a183 := Tryz.isAgg293
  z183 := Tryz.sizeOf293
  v183 := Tryz.zeroValue293
  t218 := Tryz.underlying305
  a218 := Tryz.isAgg305
  z218 := Tryz.sizeOf305
  v218 := Tryz.zeroValue305
  t222 := Tryz.underlying308
  a222 := Tryz.isAgg308
  z222 := Tryz.sizeOf308
  v222 := Tryz.zeroValue308
  t228 := Tryz.underlying310
  a228 := Tryz.isAgg310
  z228 := Tryz.sizeOf310
  v228 := Tryz.zeroValue310
  t229 := Tryz.underlying311
  a229 := Tryz.isAgg311
  z229 := Tryz.sizeOf311
  v229 := Tryz.zeroValue311 }
def YtclkgblckicabaaGreat.lays20_ren : Go.Shelf.Ren := ⟨fun | 20 => 272 | n => n, fun | 22 => 28 | 3 => 3 | 4 => 4 | 0 => 0 | n => n, fun | n => n⟩
theorem YtclkgblckicabaaGreat.lays20 : Go.Proofs.Lays2.n20 Tryz.prog YtclkgblckicabaaGreat.lays20_ren := {
  mixed := by kernel_rfl
  f20 := Tryz.func272.trans (congrArg some (by kernel_rfl))
  t0 := Tryz.underlying0
  a0 := Tryz.isAgg0
  z0 := Tryz.sizeOf0
  v0 := Tryz.zeroValue0
  t3 := Tryz.underlying3
  a3 := Tryz.isAgg3
  z3 := Tryz.sizeOf3
  v3 := Tryz.zeroValue3
  t4 := Tryz.underlying4
  a4 := Tryz.isAgg4
  z4 := Tryz.sizeOf4
  v4 := Tryz.zeroValue4
  t22 := Tryz.underlying28
  a22 := Tryz.isAgg28
  z22 := Tryz.sizeOf28
  v22 := Tryz.zeroValue28
  i3 := by kernel_rfl }
end Go.Proofs
