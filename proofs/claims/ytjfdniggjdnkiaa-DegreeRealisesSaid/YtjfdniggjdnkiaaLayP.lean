/- The library's sort and clone of ints lie in this program: which function and which type stands for which. -/
import Derived.Test.YtjfdniggjdnkiaaBmP
import Derived.Test.YtjfdniggjdnkiaaSrtO
import Derived.KernelRfl
set_option maxRecDepth 100000
namespace Go.BmP
open Go.Shelf Go.Proofs
def laysSort_ren : Go.Shelf.Ren := ⟨fun | 189 => 31 | 125 => 48 | 257 => 47 | 128 => 70 | 129 => 71 | 294 => 61 | 295 => 62 | 296 => 63 | 297 => 64 | 298 => 65 | 299 => 66 | 216 => 67 | 300 => 68 | 301 => 69 | 328 => 84 | 329 => 85 | 330 => 86 | 331 => 87 | 332 => 88 | 215 => 89 | 343 => 102 | n => n, fun | 28 => 22 | 3 => 3 | 46 => 73 | 0 => 0 | 51 => 92 | 53 => 57 | 4 => 4 | 183 => 85 | 182 => 84 | 131 => 89 | 5 => 5 | 9 => 9 | 218 => 100 | 222 => 104 | 228 => 115 | 229 => 116 | n => n, fun n => n⟩
theorem laysSort : Lays.n189 Go.Proofs.Try.prog laysSort_ren where
 mixed := by kernel_rfl
 f125 := Go.Proofs.Try.func48.trans (congrArg some (by kernel_rfl))
 f128 := Go.Proofs.Try.func70.trans (congrArg some (by kernel_rfl))
 f129 := Go.Proofs.Try.func71.trans (congrArg some (by kernel_rfl))
 f189 := Go.Proofs.Try.func31.trans (congrArg some (by kernel_rfl))
 f215 := Go.Proofs.Try.func89.trans (congrArg some (by kernel_rfl))
 f216 := Go.Proofs.Try.func67.trans (congrArg some (by kernel_rfl))
 f257 := Go.Proofs.Try.func47.trans (congrArg some (by kernel_rfl))
 f294 := Go.Proofs.Try.func61.trans (congrArg some (by kernel_rfl))
 f295 := Go.Proofs.Try.func62.trans (congrArg some (by kernel_rfl))
 f296 := Go.Proofs.Try.func63.trans (congrArg some (by kernel_rfl))
 f297 := Go.Proofs.Try.func64.trans (congrArg some (by kernel_rfl))
 f298 := Go.Proofs.Try.func65.trans (congrArg some (by kernel_rfl))
 f299 := Go.Proofs.Try.func66.trans (congrArg some (by kernel_rfl))
 f300 := Go.Proofs.Try.func68.trans (congrArg some (by kernel_rfl))
 f301 := Go.Proofs.Try.func69.trans (congrArg some (by kernel_rfl))
 f328 := Go.Proofs.Try.func84.trans (congrArg some (by kernel_rfl))
 f329 := Go.Proofs.Try.func85.trans (congrArg some (by kernel_rfl))
 f330 := Go.Proofs.Try.func86.trans (congrArg some (by kernel_rfl))
 f331 := Go.Proofs.Try.func87.trans (congrArg some (by kernel_rfl))
 f332 := Go.Proofs.Try.func88.trans (congrArg some (by kernel_rfl))
 f343 := Go.Proofs.Try.func102.trans (congrArg some (by kernel_rfl))
 t0 := Go.Proofs.Try.underlying0
 a0 := Go.Proofs.Try.isAgg0
 z0 := Go.Proofs.Try.sizeOf0
 v0 := Go.Proofs.Try.zeroValue0
 t3 := Go.Proofs.Try.underlying3
 a3 := Go.Proofs.Try.isAgg3
 z3 := Go.Proofs.Try.sizeOf3
 v3 := Go.Proofs.Try.zeroValue3
 t4 := Go.Proofs.Try.underlying4
 a4 := Go.Proofs.Try.isAgg4
 z4 := Go.Proofs.Try.sizeOf4
 v4 := Go.Proofs.Try.zeroValue4
 t5 := Go.Proofs.Try.underlying5
 a5 := Go.Proofs.Try.isAgg5
 z5 := Go.Proofs.Try.sizeOf5
 v5 := Go.Proofs.Try.zeroValue5
 t9 := Go.Proofs.Try.underlying9
 a9 := Go.Proofs.Try.isAgg9
 z9 := Go.Proofs.Try.sizeOf9
 v9 := Go.Proofs.Try.zeroValue9
 t28 := Go.Proofs.Try.underlying22
 a28 := Go.Proofs.Try.isAgg22
 z28 := Go.Proofs.Try.sizeOf22
 v28 := Go.Proofs.Try.zeroValue22
 t46 := Go.Proofs.Try.underlying73
 a46 := Go.Proofs.Try.isAgg73
 z46 := Go.Proofs.Try.sizeOf73
 v46 := Go.Proofs.Try.zeroValue73
 t51 := Go.Proofs.Try.underlying92
 a51 := Go.Proofs.Try.isAgg92
 z51 := Go.Proofs.Try.sizeOf92
 v51 := Go.Proofs.Try.zeroValue92
 t53 := Go.Proofs.Try.underlying57
 a53 := Go.Proofs.Try.isAgg57
 z53 := Go.Proofs.Try.sizeOf57
 v53 := Go.Proofs.Try.zeroValue57
 t131 := Go.Proofs.Try.underlying89
 a131 := Go.Proofs.Try.isAgg89
 z131 := Go.Proofs.Try.sizeOf89
 v131 := Go.Proofs.Try.zeroValue89
 t182 := Go.Proofs.Try.underlying84
 a182 := Go.Proofs.Try.isAgg84
 z182 := Go.Proofs.Try.sizeOf84
 v182 := Go.Proofs.Try.zeroValue84
 t183 := Go.Proofs.Try.underlying85
 a183 := Go.Proofs.Try.isAgg85
 z183 := Go.Proofs.Try.sizeOf85
 v183 := Go.Proofs.Try.zeroValue85
 t218 := Go.Proofs.Try.underlying100
 a218 := Go.Proofs.Try.isAgg100
 z218 := Go.Proofs.Try.sizeOf100
 v218 := Go.Proofs.Try.zeroValue100
 t222 := Go.Proofs.Try.underlying104
 a222 := Go.Proofs.Try.isAgg104
 z222 := Go.Proofs.Try.sizeOf104
 v222 := Go.Proofs.Try.zeroValue104
 t228 := Go.Proofs.Try.underlying115
 a228 := Go.Proofs.Try.isAgg115
 z228 := Go.Proofs.Try.sizeOf115
 v228 := Go.Proofs.Try.zeroValue115
 t229 := Go.Proofs.Try.underlying116
 a229 := Go.Proofs.Try.isAgg116
 z229 := Go.Proofs.Try.sizeOf116
 v229 := Go.Proofs.Try.zeroValue116
end Go.BmP
