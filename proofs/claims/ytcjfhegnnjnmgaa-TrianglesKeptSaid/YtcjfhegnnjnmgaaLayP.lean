/- The library's sort and clone of ints lie in this program: which function and which type stands for which. -/
import Derived.Test.YtcjfhegnnjnmgaaBmP
import Derived.Test.YtcjfhegnnjnmgaaSrtO
import Derived.KernelRfl
set_option maxRecDepth 100000
namespace Go.BmP
open Go.Shelf Go.Proofs
def laysSort_ren : Go.Shelf.Ren := ⟨fun | 189 => 48 | 125 => 58 | 257 => 57 | 128 => 74 | 129 => 75 | 294 => 65 | 295 => 66 | 296 => 67 | 297 => 68 | 298 => 69 | 299 => 70 | 216 => 71 | 300 => 72 | 301 => 73 | 328 => 83 | 329 => 84 | 330 => 85 | 331 => 86 | 332 => 87 | 215 => 63 | 343 => 94 | n => n, fun | 28 => 22 | 3 => 3 | 46 => 87 | 0 => 0 | 51 => 103 | 53 => 90 | 4 => 4 | 183 => 97 | 182 => 96 | 131 => 72 | 5 => 5 | 9 => 9 | 218 => 110 | 222 => 114 | 228 => 119 | 229 => 120 | n => n, fun n => n⟩
theorem laysSort : Lays.n189 Go.Proofs.Try.prog laysSort_ren where
 mixed := by kernel_rfl
 f125 := Go.Proofs.Try.func58.trans (congrArg some (by kernel_rfl))
 f128 := Go.Proofs.Try.func74.trans (congrArg some (by kernel_rfl))
 f129 := Go.Proofs.Try.func75.trans (congrArg some (by kernel_rfl))
 f189 := Go.Proofs.Try.func48.trans (congrArg some (by kernel_rfl))
 f215 := Go.Proofs.Try.func63.trans (congrArg some (by kernel_rfl))
 f216 := Go.Proofs.Try.func71.trans (congrArg some (by kernel_rfl))
 f257 := Go.Proofs.Try.func57.trans (congrArg some (by kernel_rfl))
 f294 := Go.Proofs.Try.func65.trans (congrArg some (by kernel_rfl))
 f295 := Go.Proofs.Try.func66.trans (congrArg some (by kernel_rfl))
 f296 := Go.Proofs.Try.func67.trans (congrArg some (by kernel_rfl))
 f297 := Go.Proofs.Try.func68.trans (congrArg some (by kernel_rfl))
 f298 := Go.Proofs.Try.func69.trans (congrArg some (by kernel_rfl))
 f299 := Go.Proofs.Try.func70.trans (congrArg some (by kernel_rfl))
 f300 := Go.Proofs.Try.func72.trans (congrArg some (by kernel_rfl))
 f301 := Go.Proofs.Try.func73.trans (congrArg some (by kernel_rfl))
 f328 := Go.Proofs.Try.func83.trans (congrArg some (by kernel_rfl))
 f329 := Go.Proofs.Try.func84.trans (congrArg some (by kernel_rfl))
 f330 := Go.Proofs.Try.func85.trans (congrArg some (by kernel_rfl))
 f331 := Go.Proofs.Try.func86.trans (congrArg some (by kernel_rfl))
 f332 := Go.Proofs.Try.func87.trans (congrArg some (by kernel_rfl))
 f343 := Go.Proofs.Try.func94.trans (congrArg some (by kernel_rfl))
 t0 := Go.Proofs.Try.underlying0
 a0 := Go.Proofs.Try.isAgg0
 z0 := Go.Proofs.Try.sizeOf0
 v0 := Go.Proofs.Try.zeroValue0
 t3 := Go.Proofs.Try.underlying3
 a3 := Go.Proofs.Try.isAgg3
 z3 := Go.Proofs.Try.sizeOf3
 v3 := Go.Proofs.Try.zeroValue3
 t4 := Go.Proofs.Try.underlying4
 a4 := Go.Proofs.Try.isAgg4
 z4 := Go.Proofs.Try.sizeOf4
 v4 := Go.Proofs.Try.zeroValue4
 t5 := Go.Proofs.Try.underlying5
 a5 := Go.Proofs.Try.isAgg5
 z5 := Go.Proofs.Try.sizeOf5
 v5 := Go.Proofs.Try.zeroValue5
 t9 := Go.Proofs.Try.underlying9
 a9 := Go.Proofs.Try.isAgg9
 z9 := Go.Proofs.Try.sizeOf9
 v9 := Go.Proofs.Try.zeroValue9
 t28 := Go.Proofs.Try.underlying22
 a28 := Go.Proofs.Try.isAgg22
 z28 := Go.Proofs.Try.sizeOf22
 v28 := Go.Proofs.Try.zeroValue22
 t46 := Go.Proofs.Try.underlying87
 a46 := Go.Proofs.Try.isAgg87
 z46 := Go.Proofs.Try.sizeOf87
 v46 := Go.Proofs.Try.zeroValue87
 t51 := Go.Proofs.Try.underlying103
 a51 := Go.Proofs.Try.isAgg103
 z51 := Go.Proofs.Try.sizeOf103
 v51 := Go.Proofs.Try.zeroValue103
 t53 := Go.Proofs.Try.underlying90
 a53 := Go.Proofs.Try.isAgg90
 z53 := Go.Proofs.Try.sizeOf90
 v53 := Go.Proofs.Try.zeroValue90
 t131 := Go.Proofs.Try.underlying72
 a131 := Go.Proofs.Try.isAgg72
 z131 := Go.Proofs.Try.sizeOf72
 v131 := Go.Proofs.Try.zeroValue72
 t182 := Go.Proofs.Try.underlying96
 a182 := Go.Proofs.Try.isAgg96
 z182 := Go.Proofs.Try.sizeOf96
 v182 := Go.Proofs.Try.zeroValue96
 t183 := Go.Proofs.Try.underlying97
 a183 := Go.Proofs.Try.isAgg97
 z183 := Go.Proofs.Try.sizeOf97
 v183 := Go.Proofs.Try.zeroValue97
 t218 := Go.Proofs.Try.underlying110
 a218 := Go.Proofs.Try.isAgg110
 z218 := Go.Proofs.Try.sizeOf110
 v218 := Go.Proofs.Try.zeroValue110
 t222 := Go.Proofs.Try.underlying114
 a222 := Go.Proofs.Try.isAgg114
 z222 := Go.Proofs.Try.sizeOf114
 v222 := Go.Proofs.Try.zeroValue114
 t228 := Go.Proofs.Try.underlying119
 a228 := Go.Proofs.Try.isAgg119
 z228 := Go.Proofs.Try.sizeOf119
 v228 := Go.Proofs.Try.zeroValue119
 t229 := Go.Proofs.Try.underlying120
 a229 := Go.Proofs.Try.isAgg120
 z229 := Go.Proofs.Try.sizeOf120
 v229 := Go.Proofs.Try.zeroValue120
end Go.BmP
