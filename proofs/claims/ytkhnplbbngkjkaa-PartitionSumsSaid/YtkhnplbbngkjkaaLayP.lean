/- The library's sort and clone of ints lie in this program: which function and which type stands for which. -/
import Derived.Test.YtkhnplbbngkjkaaBmP
import Derived.Test.YtkhnplbbngkjkaaCloO
import Derived.KernelRfl
set_option maxRecDepth 100000
namespace Go.BmP
open Go.Shelf Go.Proofs
def laysSort_ren : Go.Shelf.Ren := ⟨fun | 189 => 67 | 125 => 45 | 257 => 74 | 128 => 63 | 129 => 64 | 294 => 76 | 295 => 77 | 296 => 78 | 297 => 79 | 298 => 80 | 299 => 81 | 216 => 82 | 300 => 83 | 301 => 84 | 328 => 85 | 329 => 70 | 330 => 71 | 331 => 86 | 332 => 87 | 215 => 46 | 343 => 88 | n => n, fun | 28 => 22 | 3 => 3 | 46 => 78 | 0 => 0 | 51 => 92 | 53 => 74 | 4 => 4 | 183 => 85 | 182 => 84 | 131 => 89 | 5 => 5 | 9 => 9 | 218 => 95 | 222 => 99 | 228 => 102 | 229 => 103 | n => n, fun n => n⟩
theorem laysSort : Lays.n189 Go.Proofs.Try.prog laysSort_ren where
 mixed := by kernel_rfl
 f125 := Go.Proofs.Try.func45.trans (congrArg some (by kernel_rfl))
 f128 := Go.Proofs.Try.func63.trans (congrArg some (by kernel_rfl))
 f129 := Go.Proofs.Try.func64.trans (congrArg some (by kernel_rfl))
 f189 := Go.Proofs.Try.func67.trans (congrArg some (by kernel_rfl))
 f215 := Go.Proofs.Try.func46.trans (congrArg some (by kernel_rfl))
 f216 := Go.Proofs.Try.func82.trans (congrArg some (by kernel_rfl))
 f257 := Go.Proofs.Try.func74.trans (congrArg some (by kernel_rfl))
 f294 := Go.Proofs.Try.func76.trans (congrArg some (by kernel_rfl))
 f295 := Go.Proofs.Try.func77.trans (congrArg some (by kernel_rfl))
 f296 := Go.Proofs.Try.func78.trans (congrArg some (by kernel_rfl))
 f297 := Go.Proofs.Try.func79.trans (congrArg some (by kernel_rfl))
 f298 := Go.Proofs.Try.func80.trans (congrArg some (by kernel_rfl))
 f299 := Go.Proofs.Try.func81.trans (congrArg some (by kernel_rfl))
 f300 := Go.Proofs.Try.func83.trans (congrArg some (by kernel_rfl))
 f301 := Go.Proofs.Try.func84.trans (congrArg some (by kernel_rfl))
 f328 := Go.Proofs.Try.func85.trans (congrArg some (by kernel_rfl))
 f329 := Go.Proofs.Try.func70.trans (congrArg some (by kernel_rfl))
 f330 := Go.Proofs.Try.func71.trans (congrArg some (by kernel_rfl))
 f331 := Go.Proofs.Try.func86.trans (congrArg some (by kernel_rfl))
 f332 := Go.Proofs.Try.func87.trans (congrArg some (by kernel_rfl))
 f343 := Go.Proofs.Try.func88.trans (congrArg some (by kernel_rfl))
 t0 := Go.Proofs.Try.underlying0
 a0 := Go.Proofs.Try.isAgg0
 z0 := Go.Proofs.Try.sizeOf0
 v0 := Go.Proofs.Try.zeroValue0
 t3 := Go.Proofs.Try.underlying3
 a3 := Go.Proofs.Try.isAgg3
 z3 := Go.Proofs.Try.sizeOf3
 v3 := Go.Proofs.Try.zeroValue3
 t4 := Go.Proofs.Try.underlying4
 a4 := Go.Proofs.Try.isAgg4
 z4 := Go.Proofs.Try.sizeOf4
 v4 := Go.Proofs.Try.zeroValue4
 t5 := Go.Proofs.Try.underlying5
 a5 := Go.Proofs.Try.isAgg5
 z5 := Go.Proofs.Try.sizeOf5
 v5 := Go.Proofs.Try.zeroValue5
 t9 := Go.Proofs.Try.underlying9
 a9 := Go.Proofs.Try.isAgg9
 z9 := Go.Proofs.Try.sizeOf9
 v9 := Go.Proofs.Try.zeroValue9
 t28 := Go.Proofs.Try.underlying22
 a28 := Go.Proofs.Try.isAgg22
 z28 := Go.Proofs.Try.sizeOf22
 v28 := Go.Proofs.Try.zeroValue22
 t46 := Go.Proofs.Try.underlying78
 a46 := Go.Proofs.Try.isAgg78
 z46 := Go.Proofs.Try.sizeOf78
 v46 := Go.Proofs.Try.zeroValue78
 t51 := Go.Proofs.Try.underlying92
 a51 := Go.Proofs.Try.isAgg92
 z51 := Go.Proofs.Try.sizeOf92
 v51 := Go.Proofs.Try.zeroValue92
 t53 := Go.Proofs.Try.underlying74
 a53 := Go.Proofs.Try.isAgg74
 z53 := Go.Proofs.Try.sizeOf74
 v53 := Go.Proofs.Try.zeroValue74
 t131 := Go.Proofs.Try.underlying89
 a131 := Go.Proofs.Try.isAgg89
 z131 := Go.Proofs.Try.sizeOf89
 v131 := Go.Proofs.Try.zeroValue89
 t182 := Go.Proofs.Try.underlying84
 a182 := Go.Proofs.Try.isAgg84
 z182 := Go.Proofs.Try.sizeOf84
 v182 := Go.Proofs.Try.zeroValue84
 t183 := Go.Proofs.Try.underlying85
 a183 := Go.Proofs.Try.isAgg85
 z183 := Go.Proofs.Try.sizeOf85
 v183 := Go.Proofs.Try.zeroValue85
 t218 := Go.Proofs.Try.underlying95
 a218 := Go.Proofs.Try.isAgg95
 z218 := Go.Proofs.Try.sizeOf95
 v218 := Go.Proofs.Try.zeroValue95
 t222 := Go.Proofs.Try.underlying99
 a222 := Go.Proofs.Try.isAgg99
 z222 := Go.Proofs.Try.sizeOf99
 v222 := Go.Proofs.Try.zeroValue99
 t228 := Go.Proofs.Try.underlying102
 a228 := Go.Proofs.Try.isAgg102
 z228 := Go.Proofs.Try.sizeOf102
 v228 := Go.Proofs.Try.zeroValue102
 t229 := Go.Proofs.Try.underlying103
 a229 := Go.Proofs.Try.isAgg103
 z229 := Go.Proofs.Try.sizeOf103
 v229 := Go.Proofs.Try.zeroValue103
def laysCompact_ren : Go.Shelf.Ren := ⟨fun | 20 => 68 | n => n, fun | 22 => 22 | 3 => 3 | 4 => 4 | 0 => 0 | n => n, fun n => n⟩
theorem laysCompact : Lays2.n20 Go.Proofs.Try.prog laysCompact_ren where
 mixed := by kernel_rfl
 f20 := Go.Proofs.Try.func68.trans (congrArg some (by kernel_rfl))
 t0 := Go.Proofs.Try.underlying0
 a0 := Go.Proofs.Try.isAgg0
 z0 := Go.Proofs.Try.sizeOf0
 v0 := Go.Proofs.Try.zeroValue0
 t3 := Go.Proofs.Try.underlying3
 a3 := Go.Proofs.Try.isAgg3
 z3 := Go.Proofs.Try.sizeOf3
 v3 := Go.Proofs.Try.zeroValue3
 t4 := Go.Proofs.Try.underlying4
 a4 := Go.Proofs.Try.isAgg4
 z4 := Go.Proofs.Try.sizeOf4
 v4 := Go.Proofs.Try.zeroValue4
 t22 := Go.Proofs.Try.underlying22
 a22 := Go.Proofs.Try.isAgg22
 z22 := Go.Proofs.Try.sizeOf22
 v22 := Go.Proofs.Try.zeroValue22
 i3 := by kernel_rfl
end Go.BmP
