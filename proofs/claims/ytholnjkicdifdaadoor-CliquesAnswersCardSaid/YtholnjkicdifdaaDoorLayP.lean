/- The library's sort and clone of ints lie in this program: which function and which type stands for which. -/
import Derived.Test.YtholnjkicdifdaaDoorBmP
import Derived.Test.YtholnjkicdifdaaDoorSrtO
import Derived.KernelRfl
set_option maxRecDepth 100000
namespace Go.BmP
open Go.Shelf Go.Proofs
def laysSort_ren : Go.Shelf.Ren := ⟨fun | 189 => 33 | 125 => 53 | 257 => 52 | 128 => 69 | 129 => 70 | 294 => 60 | 295 => 61 | 296 => 62 | 297 => 63 | 298 => 64 | 299 => 65 | 216 => 66 | 300 => 67 | 301 => 68 | 328 => 72 | 329 => 73 | 330 => 74 | 331 => 75 | 332 => 76 | 215 => 71 | 343 => 77 | n => n,fun | 28 => 22 | 3 => 3 | 46 => 77 | 0 => 0 | 51 => 95 | 53 => 60 | 4 => 4 | 183 => 87 | 182 => 86 | 131 => 92 | 5 => 5 | 9 => 9 | 218 => 97 | 222 => 101 | 228 => 103 | 229 => 104 | n => n,fun n => n⟩
theorem laysSort : Lays.n189 Go.Proofs.Tryd.prog laysSort_ren where
 mixed := by kernel_rfl
 f125 := Go.Proofs.Tryd.func53.trans (congrArg some (by kernel_rfl))
 f128 := Go.Proofs.Tryd.func69.trans (congrArg some (by kernel_rfl))
 f129 := Go.Proofs.Tryd.func70.trans (congrArg some (by kernel_rfl))
 f189 := Go.Proofs.Tryd.func33.trans (congrArg some (by kernel_rfl))
 f215 := Go.Proofs.Tryd.func71.trans (congrArg some (by kernel_rfl))
 f216 := Go.Proofs.Tryd.func66.trans (congrArg some (by kernel_rfl))
 f257 := Go.Proofs.Tryd.func52.trans (congrArg some (by kernel_rfl))
 f294 := Go.Proofs.Tryd.func60.trans (congrArg some (by kernel_rfl))
 f295 := Go.Proofs.Tryd.func61.trans (congrArg some (by kernel_rfl))
 f296 := Go.Proofs.Tryd.func62.trans (congrArg some (by kernel_rfl))
 f297 := Go.Proofs.Tryd.func63.trans (congrArg some (by kernel_rfl))
 f298 := Go.Proofs.Tryd.func64.trans (congrArg some (by kernel_rfl))
 f299 := Go.Proofs.Tryd.func65.trans (congrArg some (by kernel_rfl))
 f300 := Go.Proofs.Tryd.func67.trans (congrArg some (by kernel_rfl))
 f301 := Go.Proofs.Tryd.func68.trans (congrArg some (by kernel_rfl))
 f328 := Go.Proofs.Tryd.func72.trans (congrArg some (by kernel_rfl))
 f329 := Go.Proofs.Tryd.func73.trans (congrArg some (by kernel_rfl))
 f330 := Go.Proofs.Tryd.func74.trans (congrArg some (by kernel_rfl))
 f331 := Go.Proofs.Tryd.func75.trans (congrArg some (by kernel_rfl))
 f332 := Go.Proofs.Tryd.func76.trans (congrArg some (by kernel_rfl))
 f343 := Go.Proofs.Tryd.func77.trans (congrArg some (by kernel_rfl))
 t0 := Go.Proofs.Tryd.underlying0
 a0 := Go.Proofs.Tryd.isAgg0
 z0 := Go.Proofs.Tryd.sizeOf0
 v0 := Go.Proofs.Tryd.zeroValue0
 t3 := Go.Proofs.Tryd.underlying3
 a3 := Go.Proofs.Tryd.isAgg3
 z3 := Go.Proofs.Tryd.sizeOf3
 v3 := Go.Proofs.Tryd.zeroValue3
 t4 := Go.Proofs.Tryd.underlying4
 a4 := Go.Proofs.Tryd.isAgg4
 z4 := Go.Proofs.Tryd.sizeOf4
 v4 := Go.Proofs.Tryd.zeroValue4
 t5 := Go.Proofs.Tryd.underlying5
 a5 := Go.Proofs.Tryd.isAgg5
 z5 := Go.Proofs.Tryd.sizeOf5
 v5 := Go.Proofs.Tryd.zeroValue5
 t9 := Go.Proofs.Tryd.underlying9
 a9 := Go.Proofs.Tryd.isAgg9
 z9 := Go.Proofs.Tryd.sizeOf9
 v9 := Go.Proofs.Tryd.zeroValue9
 t28 := Go.Proofs.Tryd.underlying22
 a28 := Go.Proofs.Tryd.isAgg22
 z28 := Go.Proofs.Tryd.sizeOf22
 v28 := Go.Proofs.Tryd.zeroValue22
 t46 := Go.Proofs.Tryd.underlying77
 a46 := Go.Proofs.Tryd.isAgg77
 z46 := Go.Proofs.Tryd.sizeOf77
 v46 := Go.Proofs.Tryd.zeroValue77
 t51 := Go.Proofs.Tryd.underlying95
 a51 := Go.Proofs.Tryd.isAgg95
 z51 := Go.Proofs.Tryd.sizeOf95
 v51 := Go.Proofs.Tryd.zeroValue95
 t53 := Go.Proofs.Tryd.underlying60
 a53 := Go.Proofs.Tryd.isAgg60
 z53 := Go.Proofs.Tryd.sizeOf60
 v53 := Go.Proofs.Tryd.zeroValue60
 t131 := Go.Proofs.Tryd.underlying92
 a131 := Go.Proofs.Tryd.isAgg92
 z131 := Go.Proofs.Tryd.sizeOf92
 v131 := Go.Proofs.Tryd.zeroValue92
 t182 := Go.Proofs.Tryd.underlying86
 a182 := Go.Proofs.Tryd.isAgg86
 z182 := Go.Proofs.Tryd.sizeOf86
 v182 := Go.Proofs.Tryd.zeroValue86
 t183 := Go.Proofs.Tryd.underlying87
 a183 := Go.Proofs.Tryd.isAgg87
 z183 := Go.Proofs.Tryd.sizeOf87
 v183 := Go.Proofs.Tryd.zeroValue87
 t218 := Go.Proofs.Tryd.underlying97
 a218 := Go.Proofs.Tryd.isAgg97
 z218 := Go.Proofs.Tryd.sizeOf97
 v218 := Go.Proofs.Tryd.zeroValue97
 t222 := Go.Proofs.Tryd.underlying101
 a222 := Go.Proofs.Tryd.isAgg101
 z222 := Go.Proofs.Tryd.sizeOf101
 v222 := Go.Proofs.Tryd.zeroValue101
 t228 := Go.Proofs.Tryd.underlying103
 a228 := Go.Proofs.Tryd.isAgg103
 z228 := Go.Proofs.Tryd.sizeOf103
 v228 := Go.Proofs.Tryd.zeroValue103
 t229 := Go.Proofs.Tryd.underlying104
 a229 := Go.Proofs.Tryd.isAgg104
 z229 := Go.Proofs.Tryd.sizeOf104
 v229 := Go.Proofs.Tryd.zeroValue104
end Go.BmP
