/- The library's sort and clone of ints lie in this program: which function and which type stands for which. -/
import Derived.Test.YtmoginoicilobaaGreatDoorBmP
import Derived.Test.YtmoginoicilobaaGreatDoorSrtO
import Derived.KernelRfl
set_option maxRecDepth 100000
open Go.Proofs.Tryz renaming func47 → TW, func91 → TV, prog → ah
namespace Go.BmP
open Go.Shelf Go.Proofs
def KL : Go.Shelf.Ren := ⟨fun | 189 => 47 | 125 => 63 | 257 => 62 | 128 => 89 | 129 => 90 | 294 => 80 | 295 => 81 | 296 => 82 | 297 => 83 | 298 => 84 | 299 => 85 | 216 => 86 | 300 => 87 | 301 => 88 | 328 => 105 | 329 => 106 | 330 => 107 | 331 => 108 | 332 => 109 | 215 => 91 | 343 => 114 | n => n,fun | 28 => 22 | 3 => 3 | 46 => 94 | 0 => 0 | 51 => 116 | 53 => 87 | 4 => 4 | 183 => 110 | 182 => 109 | 131 => 101 | 5 => 5 | 9 => 9 | 218 => 127 | 222 => 131 | 228 => 140 | 229 => 141 | n => n,fun n => n⟩
theorem YB : Lays.n189 ah KL where
 mixed := by kernel_rfl
 f125 := Go.Proofs.Tryz.func63.trans (congrArg some (by kernel_rfl))
 f128 := Go.Proofs.Tryz.func89.trans (congrArg some (by kernel_rfl))
 f129 := Go.Proofs.Tryz.func90.trans (congrArg some (by kernel_rfl))
 f189 := TW.trans (congrArg some (by kernel_rfl))
 f215 := TV.trans (congrArg some (by kernel_rfl))
 f216 := Go.Proofs.Tryz.func86.trans (congrArg some (by kernel_rfl))
 f257 := Go.Proofs.Tryz.func62.trans (congrArg some (by kernel_rfl))
 f294 := Go.Proofs.Tryz.func80.trans (congrArg some (by kernel_rfl))
 f295 := Go.Proofs.Tryz.func81.trans (congrArg some (by kernel_rfl))
 f296 := Go.Proofs.Tryz.func82.trans (congrArg some (by kernel_rfl))
 f297 := Go.Proofs.Tryz.func83.trans (congrArg some (by kernel_rfl))
 f298 := Go.Proofs.Tryz.func84.trans (congrArg some (by kernel_rfl))
 f299 := Go.Proofs.Tryz.func85.trans (congrArg some (by kernel_rfl))
 f300 := Go.Proofs.Tryz.func87.trans (congrArg some (by kernel_rfl))
 f301 := Go.Proofs.Tryz.func88.trans (congrArg some (by kernel_rfl))
 f328 := Go.Proofs.Tryz.func105.trans (congrArg some (by kernel_rfl))
 f329 := Go.Proofs.Tryz.func106.trans (congrArg some (by kernel_rfl))
 f330 := Go.Proofs.Tryz.func107.trans (congrArg some (by kernel_rfl))
 f331 := Go.Proofs.Tryz.func108.trans (congrArg some (by kernel_rfl))
 f332 := Go.Proofs.Tryz.func109.trans (congrArg some (by kernel_rfl))
 f343 := Go.Proofs.Tryz.func114.trans (congrArg some (by kernel_rfl))
 t0 := Go.Proofs.Tryz.underlying0
 a0 := Go.Proofs.Tryz.isAgg0
 z0 := Go.Proofs.Tryz.sizeOf0
 v0 := Go.Proofs.Tryz.zeroValue0
 t3 := Go.Proofs.Tryz.underlying3
 a3 := Go.Proofs.Tryz.isAgg3
 z3 := Go.Proofs.Tryz.sizeOf3
 v3 := Go.Proofs.Tryz.zeroValue3
 t4 := Go.Proofs.Tryz.underlying4
 a4 := Go.Proofs.Tryz.isAgg4
 z4 := Go.Proofs.Tryz.sizeOf4
 v4 := Go.Proofs.Tryz.zeroValue4
 t5 := Go.Proofs.Tryz.underlying5
 a5 := Go.Proofs.Tryz.isAgg5
 z5 := Go.Proofs.Tryz.sizeOf5
 v5 := Go.Proofs.Tryz.zeroValue5
 t9 := Go.Proofs.Tryz.underlying9
 a9 := Go.Proofs.Tryz.isAgg9
 z9 := Go.Proofs.Tryz.sizeOf9
 v9 := Go.Proofs.Tryz.zeroValue9
 t28 := Go.Proofs.Tryz.underlying22
 a28 := Go.Proofs.Tryz.isAgg22
 z28 := Go.Proofs.Tryz.sizeOf22
 v28 := Go.Proofs.Tryz.zeroValue22
 t46 := Go.Proofs.Tryz.underlying94
 a46 := Go.Proofs.Tryz.isAgg94
 z46 := Go.Proofs.Tryz.sizeOf94
 v46 := Go.Proofs.Tryz.zeroValue94
 t51 := Go.Proofs.Tryz.underlying116
 a51 := Go.Proofs.Tryz.isAgg116
 z51 := Go.Proofs.Tryz.sizeOf116
 v51 := Go.Proofs.Tryz.zeroValue116
 t53 := Go.Proofs.Tryz.underlying87
 a53 := Go.Proofs.Tryz.isAgg87
 z53 := Go.Proofs.Tryz.sizeOf87
 v53 := Go.Proofs.Tryz.zeroValue87
 t131 := Go.Proofs.Tryz.underlying101
 a131 := Go.Proofs.Tryz.isAgg101
 z131 := Go.Proofs.Tryz.sizeOf101
 v131 := Go.Proofs.Tryz.zeroValue101
 t182 := Go.Proofs.Tryz.underlying109
 a182 := Go.Proofs.Tryz.isAgg109
 z182 := Go.Proofs.Tryz.sizeOf109
 v182 := Go.Proofs.Tryz.zeroValue109
 t183 := Go.Proofs.Tryz.underlying110
 a183 := Go.Proofs.Tryz.isAgg110
 z183 := Go.Proofs.Tryz.sizeOf110
 v183 := Go.Proofs.Tryz.zeroValue110
 t218 := Go.Proofs.Tryz.underlying127
 a218 := Go.Proofs.Tryz.isAgg127
 z218 := Go.Proofs.Tryz.sizeOf127
 v218 := Go.Proofs.Tryz.zeroValue127
 t222 := Go.Proofs.Tryz.underlying131
 a222 := Go.Proofs.Tryz.isAgg131
 z222 := Go.Proofs.Tryz.sizeOf131
 v222 := Go.Proofs.Tryz.zeroValue131
 t228 := Go.Proofs.Tryz.underlying140
 a228 := Go.Proofs.Tryz.isAgg140
 z228 := Go.Proofs.Tryz.sizeOf140
 v228 := Go.Proofs.Tryz.zeroValue140
 t229 := Go.Proofs.Tryz.underlying141
 a229 := Go.Proofs.Tryz.isAgg141
 z229 := Go.Proofs.Tryz.sizeOf141
 v229 := Go.Proofs.Tryz.zeroValue141
end Go.BmP
