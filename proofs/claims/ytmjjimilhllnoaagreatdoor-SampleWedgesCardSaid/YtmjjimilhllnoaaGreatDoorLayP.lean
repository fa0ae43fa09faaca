/- The library's sort and clone of ints lie in this program: which function and which type stands for which. -/
import Derived.Test.YtmjjimilhllnoaaGreatDoorBmP
import Derived.Test.YtmjjimilhllnoaaGreatDoorSrtO
import Derived.KernelRfl
set_option maxRecDepth 100000
namespace Go.BmP
open Go.Shelf Go.Proofs
def laysSort_ren : Go.Shelf.Ren := ⟨fun | 189 => 28 | 125 => 44 | 257 => 43 | 128 => 73 | 129 => 74 | 294 => 64 | 295 => 65 | 296 => 66 | 297 => 67 | 298 => 68 | 299 => 69 | 216 => 70 | 300 => 71 | 301 => 72 | 328 => 93 | 329 => 94 | 330 => 95 | 331 => 96 | 332 => 97 | 215 => 79 | 343 => 102 | n => n, fun | 28 => 22 | 3 => 3 | 46 => 77 | 0 => 0 | 51 => 102 | 53 => 70 | 4 => 4 | 183 => 96 | 182 => 95 | 131 => 87 | 5 => 5 | 9 => 9 | 218 => 118 | 222 => 122 | 228 => 131 | 229 => 132 | n => n, fun n => n⟩
theorem laysSort : Lays.n189 Go.Proofs.Tryz.prog laysSort_ren where
 mixed := by kernel_rfl
 f125 := Go.Proofs.Tryz.func44.trans (congrArg some (by kernel_rfl))
 f128 := Go.Proofs.Tryz.func73.trans (congrArg some (by kernel_rfl))
 f129 := Go.Proofs.Tryz.func74.trans (congrArg some (by kernel_rfl))
 f189 := Go.Proofs.Tryz.func28.trans (congrArg some (by kernel_rfl))
 f215 := Go.Proofs.Tryz.func79.trans (congrArg some (by kernel_rfl))
 f216 := Go.Proofs.Tryz.func70.trans (congrArg some (by kernel_rfl))
 f257 := Go.Proofs.Tryz.func43.trans (congrArg some (by kernel_rfl))
 f294 := Go.Proofs.Tryz.func64.trans (congrArg some (by kernel_rfl))
 f295 := Go.Proofs.Tryz.func65.trans (congrArg some (by kernel_rfl))
 f296 := Go.Proofs.Tryz.func66.trans (congrArg some (by kernel_rfl))
 f297 := Go.Proofs.Tryz.func67.trans (congrArg some (by kernel_rfl))
 f298 := Go.Proofs.Tryz.func68.trans (congrArg some (by kernel_rfl))
 f299 := Go.Proofs.Tryz.func69.trans (congrArg some (by kernel_rfl))
 f300 := Go.Proofs.Tryz.func71.trans (congrArg some (by kernel_rfl))
 f301 := Go.Proofs.Tryz.func72.trans (congrArg some (by kernel_rfl))
 f328 := Go.Proofs.Tryz.func93.trans (congrArg some (by kernel_rfl))
 f329 := Go.Proofs.Tryz.func94.trans (congrArg some (by kernel_rfl))
 f330 := Go.Proofs.Tryz.func95.trans (congrArg some (by kernel_rfl))
 f331 := Go.Proofs.Tryz.func96.trans (congrArg some (by kernel_rfl))
 f332 := Go.Proofs.Tryz.func97.trans (congrArg some (by kernel_rfl))
 f343 := Go.Proofs.Tryz.func102.trans (congrArg some (by kernel_rfl))
 t0 := Go.Proofs.Tryz.underlying0
 a0 := Go.Proofs.Tryz.isAgg0
 z0 := Go.Proofs.Tryz.sizeOf0
 v0 := Go.Proofs.Tryz.zeroValue0
 t3 := Go.Proofs.Tryz.underlying3
 a3 := Go.Proofs.Tryz.isAgg3
 z3 := Go.Proofs.Tryz.sizeOf3
 v3 := Go.Proofs.Tryz.zeroValue3
 t4 := Go.Proofs.Tryz.underlying4
 a4 := Go.Proofs.Tryz.isAgg4
 z4 := Go.Proofs.Tryz.sizeOf4
 v4 := Go.Proofs.Tryz.zeroValue4
 t5 := Go.Proofs.Tryz.underlying5
 a5 := Go.Proofs.Tryz.isAgg5
 z5 := Go.Proofs.Tryz.sizeOf5
 v5 := Go.Proofs.Tryz.zeroValue5
 t9 := Go.Proofs.Tryz.underlying9
 a9 := Go.Proofs.Tryz.isAgg9
 z9 := Go.Proofs.Tryz.sizeOf9
 v9 := Go.Proofs.Tryz.zeroValue9
 t28 := Go.Proofs.Tryz.underlying22
 a28 := Go.Proofs.Tryz.isAgg22
 z28 := Go.Proofs.Tryz.sizeOf22
 v28 := Go.Proofs.Tryz.zeroValue22
 t46 := Go.Proofs.Tryz.underlying77
 a46 := Go.Proofs.Tryz.isAgg77
 z46 := Go.Proofs.Tryz.sizeOf77
 v46 := Go.Proofs.Tryz.zeroValue77
 t51 := Go.Proofs.Tryz.underlying102
 a51 := Go.Proofs.Tryz.isAgg102
 z51 := Go.Proofs.Tryz.sizeOf102
 v51 := Go.Proofs.Tryz.zeroValue102
 t53 := Go.Proofs.Tryz.underlying70
 a53 := Go.Proofs.Tryz.isAgg70
 z53 := Go.Proofs.Tryz.sizeOf70
 v53 := Go.Proofs.Tryz.zeroValue70
 t131 := Go.Proofs.Tryz.underlying87
 a131 := Go.Proofs.Tryz.isAgg87
 z131 := Go.Proofs.Tryz.sizeOf87
 v131 := Go.Proofs.Tryz.zeroValue87
 t182 := Go.Proofs.Tryz.underlying95
 a182 := Go.Proofs.Tryz.isAgg95
 z182 := Go.Proofs.Tryz.sizeOf95
 v182 := Go.Proofs.Tryz.zeroValue95
 t183 := Go.Proofs.Tryz.underlying96
 a183 := Go.Proofs.Tryz.isAgg96
 z183 := Go.Proofs.Tryz.sizeOf96
 v183 := Go.Proofs.Tryz.zeroValue96
 t218 := Go.Proofs.Tryz.underlying118
 a218 := Go.Proofs.Tryz.isAgg118
 z218 := Go.Proofs.Tryz.sizeOf118
 v218 := Go.Proofs.Tryz.zeroValue118
 t222 := Go.Proofs.Tryz.underlying122
 a222 := Go.Proofs.Tryz.isAgg122
 z222 := Go.Proofs.Tryz.sizeOf122
 v222 := Go.Proofs.Tryz.zeroValue122
 t228 := Go.Proofs.Tryz.underlying131
 a228 := Go.Proofs.Tryz.isAgg131
 z228 := Go.Proofs.Tryz.sizeOf131
 v228 := Go.Proofs.Tryz.zeroValue131
 t229 := Go.Proofs.Tryz.underlying132
 a229 := Go.Proofs.Tryz.isAgg132
 z229 := Go.Proofs.Tryz.sizeOf132
 v229 := Go.Proofs.Tryz.zeroValue132
end Go.BmP
