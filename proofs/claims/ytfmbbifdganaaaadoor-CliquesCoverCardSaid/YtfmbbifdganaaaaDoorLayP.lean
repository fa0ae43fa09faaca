/- The library's sort and clone of ints lie in this program: which function and which type stands for which. -/
import Derived.Test.YtfmbbifdganaaaaDoorBmP
import Derived.Test.YtfmbbifdganaaaaDoorSrtO
import Derived.KernelRfl
set_option maxRecDepth 100000
namespace Go.BmP
open Go.Shelf Go.Proofs
def laysSort_ren : Go.Shelf.Ren := ⟨fun | 189 => 38 | 125 => 49 | 257 => 52 | 128 => 62 | 129 => 63 | 294 => 65 | 295 => 66 | 296 => 67 | 297 => 68 | 298 => 69 | 299 => 70 | 216 => 71 | 300 => 72 | 301 => 73 | 328 => 79 | 329 => 75 | 330 => 76 | 331 => 80 | 332 => 81 | 215 => 64 | 343 => 83 | n => n, fun | 28 => 22 | 3 => 3 | 46 => 75 | 0 => 0 | 51 => 89 | 53 => 54 | 4 => 4 | 183 => 82 | 182 => 81 | 131 => 86 | 5 => 5 | 9 => 9 | 218 => 97 | 222 => 101 | 228 => 105 | 229 => 106 | n => n, fun n => n⟩
theorem laysSort : Lays.n189 Go.Proofs.Tryd.prog laysSort_ren where
 mixed := by kernel_rfl
 f125 := Go.Proofs.Tryd.func49.trans (congrArg some (by kernel_rfl))
 f128 := Go.Proofs.Tryd.func62.trans (congrArg some (by kernel_rfl))
 f129 := Go.Proofs.Tryd.func63.trans (congrArg some (by kernel_rfl))
 f189 := Go.Proofs.Tryd.func38.trans (congrArg some (by kernel_rfl))
 f215 := Go.Proofs.Tryd.func64.trans (congrArg some (by kernel_rfl))
 f216 := Go.Proofs.Tryd.func71.trans (congrArg some (by kernel_rfl))
 f257 := Go.Proofs.Tryd.func52.trans (congrArg some (by kernel_rfl))
 f294 := Go.Proofs.Tryd.func65.trans (congrArg some (by kernel_rfl))
 f295 := Go.Proofs.Tryd.func66.trans (congrArg some (by kernel_rfl))
 f296 := Go.Proofs.Tryd.func67.trans (congrArg some (by kernel_rfl))
 f297 := Go.Proofs.Tryd.func68.trans (congrArg some (by kernel_rfl))
 f298 := Go.Proofs.Tryd.func69.trans (congrArg some (by kernel_rfl))
 f299 := Go.Proofs.Tryd.func70.trans (congrArg some (by kernel_rfl))
 f300 := Go.Proofs.Tryd.func72.trans (congrArg some (by kernel_rfl))
 f301 := Go.Proofs.Tryd.func73.trans (congrArg some (by kernel_rfl))
 f328 := Go.Proofs.Tryd.func79.trans (congrArg some (by kernel_rfl))
 f329 := Go.Proofs.Tryd.func75.trans (congrArg some (by kernel_rfl))
 f330 := Go.Proofs.Tryd.func76.trans (congrArg some (by kernel_rfl))
 f331 := Go.Proofs.Tryd.func80.trans (congrArg some (by kernel_rfl))
 f332 := Go.Proofs.Tryd.func81.trans (congrArg some (by kernel_rfl))
 f343 := Go.Proofs.Tryd.func83.trans (congrArg some (by kernel_rfl))
 t0 := Go.Proofs.Tryd.underlying0
 a0 := Go.Proofs.Tryd.isAgg0
 z0 := Go.Proofs.Tryd.sizeOf0
 v0 := Go.Proofs.Tryd.zeroValue0
 t3 := Go.Proofs.Tryd.underlying3
 a3 := Go.Proofs.Tryd.isAgg3
 z3 := Go.Proofs.Tryd.sizeOf3
 v3 := Go.Proofs.Tryd.zeroValue3
 t4 := Go.Proofs.Tryd.underlying4
 a4 := Go.Proofs.Tryd.isAgg4
 z4 := Go.Proofs.Tryd.sizeOf4
 v4 := Go.Proofs.Tryd.zeroValue4
 t5 := Go.Proofs.Tryd.underlying5
 a5 := Go.Proofs.Tryd.isAgg5
 z5 := Go.Proofs.Tryd.sizeOf5
 v5 := Go.Proofs.Tryd.zeroValue5
 t9 := Go.Proofs.Tryd.underlying9
 a9 := Go.Proofs.Tryd.isAgg9
 z9 := Go.Proofs.Tryd.sizeOf9
 v9 := Go.Proofs.Tryd.zeroValue9
 t28 := Go.Proofs.Tryd.underlying22
 a28 := Go.Proofs.Tryd.isAgg22
 z28 := Go.Proofs.Tryd.sizeOf22
 v28 := Go.Proofs.Tryd.zeroValue22
 t46 := Go.Proofs.Tryd.underlying75
 a46 := Go.Proofs.Tryd.isAgg75
 z46 := Go.Proofs.Tryd.sizeOf75
 v46 := Go.Proofs.Tryd.zeroValue75
 t51 := Go.Proofs.Tryd.underlying89
 a51 := Go.Proofs.Tryd.isAgg89
 z51 := Go.Proofs.Tryd.sizeOf89
 v51 := Go.Proofs.Tryd.zeroValue89
 t53 := Go.Proofs.Tryd.underlying54
 a53 := Go.Proofs.Tryd.isAgg54
 z53 := Go.Proofs.Tryd.sizeOf54
 v53 := Go.Proofs.Tryd.zeroValue54
 t131 := Go.Proofs.Tryd.underlying86
 a131 := Go.Proofs.Tryd.isAgg86
 z131 := Go.Proofs.Tryd.sizeOf86
 v131 := Go.Proofs.Tryd.zeroValue86
 t182 := Go.Proofs.Tryd.underlying81
 a182 := Go.Proofs.Tryd.isAgg81
 z182 := Go.Proofs.Tryd.sizeOf81
 v182 := Go.Proofs.Tryd.zeroValue81
 t183 := Go.Proofs.Tryd.underlying82
 a183 := Go.Proofs.Tryd.isAgg82
 z183 := Go.Proofs.Tryd.sizeOf82
 v183 := Go.Proofs.Tryd.zeroValue82
 t218 := Go.Proofs.Tryd.underlying97
 a218 := Go.Proofs.Tryd.isAgg97
 z218 := Go.Proofs.Tryd.sizeOf97
 v218 := Go.Proofs.Tryd.zeroValue97
 t222 := Go.Proofs.Tryd.underlying101
 a222 := Go.Proofs.Tryd.isAgg101
 z222 := Go.Proofs.Tryd.sizeOf101
 v222 := Go.Proofs.Tryd.zeroValue101
 t228 := Go.Proofs.Tryd.underlying105
 a228 := Go.Proofs.Tryd.isAgg105
 z228 := Go.Proofs.Tryd.sizeOf105
 v228 := Go.Proofs.Tryd.zeroValue105
 t229 := Go.Proofs.Tryd.underlying106
 a229 := Go.Proofs.Tryd.isAgg106
 z229 := Go.Proofs.Tryd.sizeOf106
 v229 := Go.Proofs.Tryd.zeroValue106
end Go.BmP
