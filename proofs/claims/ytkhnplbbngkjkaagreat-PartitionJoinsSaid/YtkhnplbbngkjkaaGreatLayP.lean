/- The library's sort and clone of ints lie in this program: which function and which type stands for which. -/
import Derived.Test.YtkhnplbbngkjkaaGreatBmP
import Derived.Test.YtkhnplbbngkjkaaGreatCloQ
import Derived.KernelRfl
set_option maxRecDepth 100000
namespace Go.BmP
open Go.Shelf Go.Proofs
def laysSort_ren : Go.Shelf.Ren := ⟨fun | 189 => 84 | 125 => 53 | 257 => 94 | 128 => 71 | 129 => 72 | 294 => 97 | 295 => 98 | 296 => 99 | 297 => 100 | 298 => 101 | 299 => 102 | 216 => 103 | 300 => 104 | 301 => 105 | 328 => 106 | 329 => 87 | 330 => 88 | 331 => 107 | 332 => 108 | 215 => 54 | 343 => 109 | n => n, fun | 28 => 22 | 3 => 3 | 46 => 81 | 0 => 0 | 51 => 100 | 53 => 84 | 4 => 4 | 183 => 93 | 182 => 92 | 131 => 97 | 5 => 5 | 9 => 9 | 218 => 108 | 222 => 112 | 228 => 117 | 229 => 118 | n => n, fun n => n⟩
theorem laysSort : Lays.n189 Go.Proofs.Tryz.prog laysSort_ren where
 mixed := by kernel_rfl
 f125 := Go.Proofs.Tryz.func53.trans (congrArg some (by kernel_rfl))
 f128 := Go.Proofs.Tryz.func71.trans (congrArg some (by kernel_rfl))
 f129 := Go.Proofs.Tryz.func72.trans (congrArg some (by kernel_rfl))
 f189 := Go.Proofs.Tryz.func84.trans (congrArg some (by kernel_rfl))
 f215 := Go.Proofs.Tryz.func54.trans (congrArg some (by kernel_rfl))
 f216 := Go.Proofs.Tryz.func103.trans (congrArg some (by kernel_rfl))
 f257 := Go.Proofs.Tryz.func94.trans (congrArg some (by kernel_rfl))
 f294 := Go.Proofs.Tryz.func97.trans (congrArg some (by kernel_rfl))
 f295 := Go.Proofs.Tryz.func98.trans (congrArg some (by kernel_rfl))
 f296 := Go.Proofs.Tryz.func99.trans (congrArg some (by kernel_rfl))
 f297 := Go.Proofs.Tryz.func100.trans (congrArg some (by kernel_rfl))
 f298 := Go.Proofs.Tryz.func101.trans (congrArg some (by kernel_rfl))
 f299 := Go.Proofs.Tryz.func102.trans (congrArg some (by kernel_rfl))
 f300 := Go.Proofs.Tryz.func104.trans (congrArg some (by kernel_rfl))
 f301 := Go.Proofs.Tryz.func105.trans (congrArg some (by kernel_rfl))
 f328 := Go.Proofs.Tryz.func106.trans (congrArg some (by kernel_rfl))
 f329 := Go.Proofs.Tryz.func87.trans (congrArg some (by kernel_rfl))
 f330 := Go.Proofs.Tryz.func88.trans (congrArg some (by kernel_rfl))
 f331 := Go.Proofs.Tryz.func107.trans (congrArg some (by kernel_rfl))
 f332 := Go.Proofs.Tryz.func108.trans (congrArg some (by kernel_rfl))
 f343 := Go.Proofs.Tryz.func109.trans (congrArg some (by kernel_rfl))
 t0 := Go.Proofs.Tryz.underlying0
 a0 := Go.Proofs.Tryz.isAgg0
 z0 := Go.Proofs.Tryz.sizeOf0
 v0 := Go.Proofs.Tryz.zeroValue0
 t3 := Go.Proofs.Tryz.underlying3
 a3 := Go.Proofs.Tryz.isAgg3
 z3 := Go.Proofs.Tryz.sizeOf3
 v3 := Go.Proofs.Tryz.zeroValue3
 t4 := Go.Proofs.Tryz.underlying4
 a4 := Go.Proofs.Tryz.isAgg4
 z4 := Go.Proofs.Tryz.sizeOf4
 v4 := Go.Proofs.Tryz.zeroValue4
 t5 := Go.Proofs.Tryz.underlying5
 a5 := Go.Proofs.Tryz.isAgg5
 z5 := Go.Proofs.Tryz.sizeOf5
 v5 := Go.Proofs.Tryz.zeroValue5
 t9 := Go.Proofs.Tryz.underlying9
 a9 := Go.Proofs.Tryz.isAgg9
 z9 := Go.Proofs.Tryz.sizeOf9
 v9 := Go.Proofs.Tryz.zeroValue9
 t28 := Go.Proofs.Tryz.underlying22
 a28 := Go.Proofs.Tryz.isAgg22
 z28 := Go.Proofs.Tryz.sizeOf22
 v28 := Go.Proofs.Tryz.zeroValue22
 t46 := Go.Proofs.Tryz.underlying81
 a46 := Go.Proofs.Tryz.isAgg81
 z46 := Go.Proofs.Tryz.sizeOf81
 v46 := Go.Proofs.Tryz.zeroValue81
 t51 := Go.Proofs.Tryz.underlying100
 a51 := Go.Proofs.Tryz.isAgg100
 z51 := Go.Proofs.Tryz.sizeOf100
 v51 := Go.Proofs.Tryz.zeroValue100
 t53 := Go.Proofs.Tryz.underlying84
 a53 := Go.Proofs.Tryz.isAgg84
 z53 := Go.Proofs.Tryz.sizeOf84
 v53 := Go.Proofs.Tryz.zeroValue84
 t131 := Go.Proofs.Tryz.underlying97
 a131 := Go.Proofs.Tryz.isAgg97
 z131 := Go.Proofs.Tryz.sizeOf97
 v131 := Go.Proofs.Tryz.zeroValue97
 t182 := Go.Proofs.Tryz.underlying92
 a182 := Go.Proofs.Tryz.isAgg92
 z182 := Go.Proofs.Tryz.sizeOf92
 v182 := Go.Proofs.Tryz.zeroValue92
 t183 := Go.Proofs.Tryz.underlying93
 a183 := Go.Proofs.Tryz.isAgg93
 z183 := Go.Proofs.Tryz.sizeOf93
 v183 := Go.Proofs.Tryz.zeroValue93
 t218 := Go.Proofs.Tryz.underlying108
 a218 := Go.Proofs.Tryz.isAgg108
 z218 := Go.Proofs.Tryz.sizeOf108
 v218 := Go.Proofs.Tryz.zeroValue108
 t222 := Go.Proofs.Tryz.underlying112
 a222 := Go.Proofs.Tryz.isAgg112
 z222 := Go.Proofs.Tryz.sizeOf112
 v222 := Go.Proofs.Tryz.zeroValue112
 t228 := Go.Proofs.Tryz.underlying117
 a228 := Go.Proofs.Tryz.isAgg117
 z228 := Go.Proofs.Tryz.sizeOf117
 v228 := Go.Proofs.Tryz.zeroValue117
 t229 := Go.Proofs.Tryz.underlying118
 a229 := Go.Proofs.Tryz.isAgg118
 z229 := Go.Proofs.Tryz.sizeOf118
 v229 := Go.Proofs.Tryz.zeroValue118
def laysCompact_ren : Go.Shelf.Ren := ⟨fun | 20 => 85 | n => n, fun | 22 => 22 | 3 => 3 | 4 => 4 | 0 => 0 | n => n, fun n => n⟩
theorem laysCompact : Lays2.n20 Go.Proofs.Tryz.prog laysCompact_ren where
 mixed := by kernel_rfl
 f20 := Go.Proofs.Tryz.func85.trans (congrArg some (by kernel_rfl))
 t0 := Go.Proofs.Tryz.underlying0
 a0 := Go.Proofs.Tryz.isAgg0
 z0 := Go.Proofs.Tryz.sizeOf0
 v0 := Go.Proofs.Tryz.zeroValue0
 t3 := Go.Proofs.Tryz.underlying3
 a3 := Go.Proofs.Tryz.isAgg3
 z3 := Go.Proofs.Tryz.sizeOf3
 v3 := Go.Proofs.Tryz.zeroValue3
 t4 := Go.Proofs.Tryz.underlying4
 a4 := Go.Proofs.Tryz.isAgg4
 z4 := Go.Proofs.Tryz.sizeOf4
 v4 := Go.Proofs.Tryz.zeroValue4
 t22 := Go.Proofs.Tryz.underlying22
 a22 := Go.Proofs.Tryz.isAgg22
 z22 := Go.Proofs.Tryz.sizeOf22
 v22 := Go.Proofs.Tryz.zeroValue22
 i3 := by kernel_rfl
end Go.BmP
