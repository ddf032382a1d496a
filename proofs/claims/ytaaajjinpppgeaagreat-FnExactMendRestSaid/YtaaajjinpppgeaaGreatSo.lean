/- slices.Sort at rows of whole numbers: laid off the library of proved contracts, and known to the evaluator. Own work; no condition. -/
import Derived.Shelf.Sort.Plain
import Derived.Shelf.Slices.In.SortNone
import Derived.Test.YtaaajjinpppgeaaGreatProg
import Derived.Test.YtaaajjinpppgeaaGreatA5
namespace Go.Proofs
open Go.Shelf
def Tryz.lays189_ren : Go.Shelf.Ren := ⟨fun | 189 => 184 | 125 => 237 | 257 => 236 | 128 => 273 | 129 => 274 | 294 => 264 | 295 => 265 | 296 => 266 | 297 => 267 | 298 => 268 | 299 => 269 | 216 => 270 | 300 => 271 | 301 => 272 | 328 => 286 | 329 => 287 | 330 => 288 | 331 => 289 | 332 => 290 | 215 => 291 | 343 => 297 | n => n, fun | 28 => 61 | 3 => 3 | 46 => 211 | 0 => 0 | 51 => 243 | 53 => 246 | 4 => 4 | 183 => 257 | 182 => 256 | 131 => 262 | 5 => 5 | 9 => 9 | 218 => 280 | 222 => 284 | 228 => 291 | 229 => 292 | n => n, fun | n => n⟩
theorem Tryz.lays189 : Go.Proofs.Lays.n189 Tryz.prog Tryz.lays189_ren := {
  mixed := by kernel_rfl
  f125 := Tryz.func237.trans (congrArg some (by kernel_rfl))
  f128 := Tryz.func273.trans (congrArg some (by kernel_rfl))
  f129 := Tryz.func274.trans (congrArg some (by kernel_rfl))
  f189 := Tryz.func184.trans (congrArg some (by kernel_rfl))
  f215 := Tryz.func291.trans (congrArg some (by kernel_rfl))
  f216 := Tryz.func270.trans (congrArg some (by kernel_rfl))
  f257 := Tryz.func236.trans (congrArg some (by kernel_rfl))
  f294 := Tryz.func264.trans (congrArg some (by kernel_rfl))
  f295 := Tryz.func265.trans (congrArg some (by kernel_rfl))
  f296 := Tryz.func266.trans (congrArg some (by kernel_rfl))
  f297 := Tryz.func267.trans (congrArg some (by kernel_rfl))
  f298 := Tryz.func268.trans (congrArg some (by kernel_rfl))
  f299 := Tryz.func269.trans (congrArg some (by kernel_rfl))
  f300 := Tryz.func271.trans (congrArg some (by kernel_rfl))
  f301 := Tryz.func272.trans (congrArg some (by kernel_rfl))
  f328 := Tryz.func286.trans (congrArg some (by kernel_rfl))
  f329 := Tryz.func287.trans (congrArg some (by kernel_rfl))
  f330 := Tryz.func288.trans (congrArg some (by kernel_rfl))
  f331 := Tryz.func289.trans (congrArg some (by kernel_rfl))
  f332 := Tryz.func290.trans (congrArg some (by kernel_rfl))
  f343 := Tryz.func297.trans (congrArg some (by kernel_rfl))
  t0 := Tryz.underlying0
  a0 := Tryz.isAgg0
  z0 := Tryz.sizeOf0
  v0 := Tryz.zeroValue0
  t3 := Tryz.underlying3
  a3 := Tryz.isAgg3
  z3 := Tryz.sizeOf3
  v3 := Tryz.zeroValue3
  t4 := Tryz.underlying4
  a4 := Tryz.isAgg4
  z4 := Tryz.sizeOf4
  v4 := Tryz.zeroValue4
  t5 := Tryz.underlying5
  a5 := Tryz.isAgg5
  z5 := Tryz.sizeOf5
  v5 := Tryz.zeroValue5
  t9 := Tryz.underlying9
  a9 := Tryz.isAgg9
  z9 := Tryz.sizeOf9
  v9 := Tryz.zeroValue9
  t28 := Tryz.underlying61
  a28 := Tryz.isAgg61
  z28 := Tryz.sizeOf61
  v28 := Tryz.zeroValue61
  t46 := Tryz.underlying211
  a46 := Tryz.isAgg211
  z46 := Tryz.sizeOf211
  v46 := Tryz.zeroValue211
  t51 := Tryz.underlying243
  a51 := Tryz.isAgg243
  z51 := Tryz.sizeOf243
  v51 := Tryz.zeroValue243
  t53 := Tryz.underlying246
  a53 := Tryz.isAgg246
  z53 := Tryz.sizeOf246
  v53 := Tryz.zeroValue246
  t131 := Tryz.underlying262
  a131 := Tryz.isAgg262
  z131 := Tryz.sizeOf262
  v131 := Tryz.zeroValue262
  t182 := Tryz.underlying256
  a182 := Tryz.isAgg256
  z182 := Tryz.sizeOf256
  v182 := Tryz.zeroValue256
  t183 := Tryz.underlying257
  a183 := Tryz.isAgg257
  z183 := Tryz.sizeOf257
  v183 := Tryz.zeroValue257
  t218 := Tryz.underlying280
  a218 := Tryz.isAgg280
  z218 := Tryz.sizeOf280
  v218 := Tryz.zeroValue280
  t222 := Tryz.underlying284
  a222 := Tryz.isAgg284
  z222 := Tryz.sizeOf284
  v222 := Tryz.zeroValue284
  t228 := Tryz.underlying291
  a228 := Tryz.isAgg291
  z228 := Tryz.sizeOf291
  v228 := Tryz.zeroValue291
  t229 := Tryz.underlying292
  a229 := Tryz.isAgg292
  z229 := Tryz.sizeOf292
  v229 := Tryz.zeroValue292 }
end Go.Proofs
namespace Go.Proofs.YtaaajjinpppgeaaGreat
open Go Go.Abs
theorem sortOk : OrcOk Tryz.prog 184 sortO :=
  sort_wr Tryz.func184 rfl rfl (fun blk off cap zs w h1 h2 h3 => Any.slices_Sort_int Tryz.lays189 blk off cap zs w h1 h2 h3) (fun p cap w => Any.slices_Sort_int_none Tryz.lays189 p cap w)
end Go.Proofs.YtaaajjinpppgeaaGreat
