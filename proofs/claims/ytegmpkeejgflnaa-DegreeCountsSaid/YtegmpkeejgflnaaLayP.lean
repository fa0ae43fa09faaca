/- The library's sort and clone of ints lie in this program: which function and which type stands for which. -/
import Derived.Test.YtegmpkeejgflnaaBmP
import Derived.Test.YtegmpkeejgflnaaRvO
import Derived.KernelRfl
set_option maxRecDepth 100000
namespace Go.BmP
open Go.Shelf Go.Proofs
def laysSort_ren : Go.Shelf.Ren := ⟨fun | 189 => 23 | 125 => 36 | 257 => 35 | 128 => 51 | 129 => 52 | 294 => 42 | 295 => 43 | 296 => 44 | 297 => 45 | 298 => 46 | 299 => 47 | 216 => 48 | 300 => 49 | 301 => 50 | 328 => 56 | 329 => 57 | 330 => 58 | 331 => 59 | 332 => 60 | 215 => 54 | 343 => 69 | n => n, fun | 28 => 25 | 3 => 3 | 46 => 61 | 0 => 0 | 51 => 78 | 53 => 46 | 4 => 4 | 183 => 70 | 182 => 69 | 131 => 75 | 5 => 5 | 9 => 9 | 218 => 82 | 222 => 86 | 228 => 93 | 229 => 94 | n => n, fun n => n⟩
theorem laysSort : Lays.n189 Go.Proofs.Try.prog laysSort_ren where
 mixed := by kernel_rfl
 f125 := Go.Proofs.Try.func36.trans (congrArg some (by kernel_rfl))
 f128 := Go.Proofs.Try.func51.trans (congrArg some (by kernel_rfl))
 f129 := Go.Proofs.Try.func52.trans (congrArg some (by kernel_rfl))
 f189 := Go.Proofs.Try.func23.trans (congrArg some (by kernel_rfl))
 f215 := Go.Proofs.Try.func54.trans (congrArg some (by kernel_rfl))
 f216 := Go.Proofs.Try.func48.trans (congrArg some (by kernel_rfl))
 f257 := Go.Proofs.Try.func35.trans (congrArg some (by kernel_rfl))
 f294 := Go.Proofs.Try.func42.trans (congrArg some (by kernel_rfl))
 f295 := Go.Proofs.Try.func43.trans (congrArg some (by kernel_rfl))
 f296 := Go.Proofs.Try.func44.trans (congrArg some (by kernel_rfl))
 f297 := Go.Proofs.Try.func45.trans (congrArg some (by kernel_rfl))
 f298 := Go.Proofs.Try.func46.trans (congrArg some (by kernel_rfl))
 f299 := Go.Proofs.Try.func47.trans (congrArg some (by kernel_rfl))
 f300 := Go.Proofs.Try.func49.trans (congrArg some (by kernel_rfl))
 f301 := Go.Proofs.Try.func50.trans (congrArg some (by kernel_rfl))
 f328 := Go.Proofs.Try.func56.trans (congrArg some (by kernel_rfl))
 f329 := Go.Proofs.Try.func57.trans (congrArg some (by kernel_rfl))
 f330 := Go.Proofs.Try.func58.trans (congrArg some (by kernel_rfl))
 f331 := Go.Proofs.Try.func59.trans (congrArg some (by kernel_rfl))
 f332 := Go.Proofs.Try.func60.trans (congrArg some (by kernel_rfl))
 f343 := Go.Proofs.Try.func69.trans (congrArg some (by kernel_rfl))
 t0 := Go.Proofs.Try.underlying0
 a0 := Go.Proofs.Try.isAgg0
 z0 := Go.Proofs.Try.sizeOf0
 v0 := Go.Proofs.Try.zeroValue0
 t3 := Go.Proofs.Try.underlying3
 a3 := Go.Proofs.Try.isAgg3
 z3 := Go.Proofs.Try.sizeOf3
 v3 := Go.Proofs.Try.zeroValue3
 t4 := Go.Proofs.Try.underlying4
 a4 := Go.Proofs.Try.isAgg4
 z4 := Go.Proofs.Try.sizeOf4
 v4 := Go.Proofs.Try.zeroValue4
 t5 := Go.Proofs.Try.underlying5
 a5 := Go.Proofs.Try.isAgg5
 z5 := Go.Proofs.Try.sizeOf5
 v5 := Go.Proofs.Try.zeroValue5
 t9 := Go.Proofs.Try.underlying9
 a9 := Go.Proofs.Try.isAgg9
 z9 := Go.Proofs.Try.sizeOf9
 v9 := Go.Proofs.Try.zeroValue9
 t28 := Go.Proofs.Try.underlying25
 a28 := Go.Proofs.Try.isAgg25
 z28 := Go.Proofs.Try.sizeOf25
 v28 := Go.Proofs.Try.zeroValue25
 t46 := Go.Proofs.Try.underlying61
 a46 := Go.Proofs.Try.isAgg61
 z46 := Go.Proofs.Try.sizeOf61
 v46 := Go.Proofs.Try.zeroValue61
 t51 := Go.Proofs.Try.underlying78
 a51 := Go.Proofs.Try.isAgg78
 z51 := Go.Proofs.Try.sizeOf78
 v51 := Go.Proofs.Try.zeroValue78
 t53 := Go.Proofs.Try.underlying46
 a53 := Go.Proofs.Try.isAgg46
 z53 := Go.Proofs.Try.sizeOf46
 v53 := Go.Proofs.Try.zeroValue46
 t131 := Go.Proofs.Try.underlying75
 a131 := Go.Proofs.Try.isAgg75
 z131 := Go.Proofs.Try.sizeOf75
 v131 := Go.Proofs.Try.zeroValue75
 t182 := Go.Proofs.Try.underlying69
 a182 := Go.Proofs.Try.isAgg69
 z182 := Go.Proofs.Try.sizeOf69
 v182 := Go.Proofs.Try.zeroValue69
 t183 := Go.Proofs.Try.underlying70
 a183 := Go.Proofs.Try.isAgg70
 z183 := Go.Proofs.Try.sizeOf70
 v183 := Go.Proofs.Try.zeroValue70
 t218 := Go.Proofs.Try.underlying82
 a218 := Go.Proofs.Try.isAgg82
 z218 := Go.Proofs.Try.sizeOf82
 v218 := Go.Proofs.Try.zeroValue82
 t222 := Go.Proofs.Try.underlying86
 a222 := Go.Proofs.Try.isAgg86
 z222 := Go.Proofs.Try.sizeOf86
 v222 := Go.Proofs.Try.zeroValue86
 t228 := Go.Proofs.Try.underlying93
 a228 := Go.Proofs.Try.isAgg93
 z228 := Go.Proofs.Try.sizeOf93
 v228 := Go.Proofs.Try.zeroValue93
 t229 := Go.Proofs.Try.underlying94
 a229 := Go.Proofs.Try.isAgg94
 z229 := Go.Proofs.Try.sizeOf94
 v229 := Go.Proofs.Try.zeroValue94
def laysRev_ren : Go.Shelf.Ren := ⟨fun | 112 => 24 | n => n, fun | 28 => 25 | 3 => 3 | 4 => 4 | 0 => 0 | n => n, fun n => n⟩
theorem laysRev : Lays.n112 Go.Proofs.Try.prog laysRev_ren where
 mixed := by kernel_rfl
 f112 := Go.Proofs.Try.func24.trans (congrArg some (by kernel_rfl))
 t0 := Go.Proofs.Try.underlying0
 a0 := Go.Proofs.Try.isAgg0
 z0 := Go.Proofs.Try.sizeOf0
 v0 := Go.Proofs.Try.zeroValue0
 t3 := Go.Proofs.Try.underlying3
 a3 := Go.Proofs.Try.isAgg3
 z3 := Go.Proofs.Try.sizeOf3
 v3 := Go.Proofs.Try.zeroValue3
 t4 := Go.Proofs.Try.underlying4
 a4 := Go.Proofs.Try.isAgg4
 z4 := Go.Proofs.Try.sizeOf4
 v4 := Go.Proofs.Try.zeroValue4
 t28 := Go.Proofs.Try.underlying25
 a28 := Go.Proofs.Try.isAgg25
 z28 := Go.Proofs.Try.sizeOf25
 v28 := Go.Proofs.Try.zeroValue25
end Go.BmP
