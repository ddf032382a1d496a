/- slices.Sort at rows of whole numbers: laid off the library of proved contracts, and known to the evaluator. Own work; no condition. -/
import Derived.Shelf.Sort.Plain
import Derived.Shelf.Slices.In.SortNone
import Derived.Test.YtaaajjinpppgeaaProg
import Derived.Test.YtaaajjinpppgeaaA5
namespace Go.Proofs
open Go.Shelf
def Try.lays189_ren : Go.Shelf.Ren := ⟨fun | 189 => 191 | 125 => 247 | 257 => 246 | 128 => 275 | 129 => 276 | 294 => 266 | 295 => 267 | 296 => 268 | 297 => 269 | 298 => 270 | 299 => 271 | 216 => 272 | 300 => 273 | 301 => 274 | 328 => 296 | 329 => 297 | 330 => 298 | 331 => 299 | 332 => 300 | 215 => 301 | 343 => 308 | n => n, fun | 28 => 63 | 3 => 3 | 46 => 216 | 0 => 0 | 51 => 243 | 53 => 245 | 4 => 4 | 183 => 235 | 182 => 234 | 131 => 240 | 5 => 5 | 9 => 9 | 218 => 258 | 222 => 262 | 228 => 268 | 229 => 269 | n => n, fun | n => n⟩
theorem Try.lays189 : Go.Proofs.Lays.n189 Try.prog Try.lays189_ren := {
  mixed := by kernel_rfl
  f125 := Try.func247.trans (congrArg some (by kernel_rfl))
  f128 := Try.func275.trans (congrArg some (by kernel_rfl))
  f129 := Try.func276.trans (congrArg some (by kernel_rfl))
  f189 := Try.func191.trans (congrArg some (by kernel_rfl))
  f215 := Try.func301.trans (congrArg some (by kernel_rfl))
  f216 := Try.func272.trans (congrArg some (by kernel_rfl))
  f257 := Try.func246.trans (congrArg some (by kernel_rfl))
  f294 := Try.func266.trans (congrArg some (by kernel_rfl))
  f295 := Try.func267.trans (congrArg some (by kernel_rfl))
  f296 := Try.func268.trans (congrArg some (by kernel_rfl))
  f297 := Try.func269.trans (congrArg some (by kernel_rfl))
  f298 := Try.func270.trans (congrArg some (by kernel_rfl))
  f299 := Try.func271.trans (congrArg some (by kernel_rfl))
  f300 := Try.func273.trans (congrArg some (by kernel_rfl))
  f301 := Try.func274.trans (congrArg some (by kernel_rfl))
  f328 := Try.func296.trans (congrArg some (by kernel_rfl))
  f329 := Try.func297.trans (congrArg some (by kernel_rfl))
  f330 := Try.func298.trans (congrArg some (by kernel_rfl))
  f331 := Try.func299.trans (congrArg some (by kernel_rfl))
  f332 := Try.func300.trans (congrArg some (by kernel_rfl))
  f343 := Try.func308.trans (congrArg some (by kernel_rfl))
  t0 := Try.underlying0
  a0 := Try.isAgg0
  z0 := Try.sizeOf0
  v0 := Try.zeroValue0
  t3 := Try.underlying3
  a3 := Try.isAgg3
  z3 := Try.sizeOf3
  v3 := Try.zeroValue3
  t4 := Try.underlying4
  a4 := Try.isAgg4
  z4 := Try.sizeOf4
  v4 := Try.zeroValue4
  t5 := Try.underlying5
  a5 := Try.isAgg5
  z5 := Try.sizeOf5
  v5 := Try.zeroValue5
  t9 := Try.underlying9
  a9 := Try.isAgg9
  z9 := Try.sizeOf9
  v9 := Try.zeroValue9
  t28 := Try.underlying63
  a28 := Try.isAgg63
  z28 := Try.sizeOf63
  v28 := Try.zeroValue63
  t46 := Try.underlying216
  a46 := Try.isAgg216
  z46 := Try.sizeOf216
  v46 := Try.zeroValue216
  t51 := Try.underlying243
  a51 := Try.isAgg243
  z51 := Try.sizeOf243
  v51 := Try.zeroValue243
  t53 := Try.underlying245
  a53 := Try.isAgg245
  z53 := Try.sizeOf245
  v53 := Try.zeroValue245
  t131 := Try.underlying240
  a131 := Try.isAgg240
  z131 := Try.sizeOf240
  v131 := Try.zeroValue240
  t182 := Try.underlying234
  a182 := Try.isAgg234
  z182 := Try.sizeOf234
  v182 := Try.zeroValue234
  t183 := Try.underlying235
  a183 := Try.isAgg235
  z183 := Try.sizeOf235
  v183 := Try.zeroValue235
  t218 := Try.underlying258
  a218 := Try.isAgg258
  z218 := Try.sizeOf258
  v218 := Try.zeroValue258
  t222 := Try.underlying262
  a222 := Try.isAgg262
  z222 := Try.sizeOf262
  v222 := Try.zeroValue262
  t228 := Try.underlying268
  a228 := Try.isAgg268
  z228 := Try.sizeOf268
  v228 := Try.zeroValue268
  t229 := Try.underlying269
  a229 := Try.isAgg269
  z229 := Try.sizeOf269
  v229 := Try.zeroValue269 }
end Go.Proofs
namespace Go.Proofs.Ytaaajjinpppgeaa
open Go Go.Abs
theorem sortOk : OrcOk Try.prog 191 sortO :=
  sort_wr Try.func191 rfl rfl (fun blk off cap zs w h1 h2 h3 => Any.slices_Sort_int Try.lays189 blk off cap zs w h1 h2 h3) (fun p cap w => Any.slices_Sort_int_none Try.lays189 p cap w)
end Go.Proofs.Ytaaajjinpppgeaa
