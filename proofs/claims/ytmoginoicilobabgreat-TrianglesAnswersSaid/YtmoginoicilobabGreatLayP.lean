/- The library's sort and clone of ints lie in this program: which function and which type stands for which. -/
import Derived.Test.YtmoginoicilobabGreatBmP
import Derived.Test.YtmoginoicilobabGreatSrtO
import Derived.KernelRfl
set_option maxRecDepth 100000
open Go.Proofs.Tryz renaming func57 → UI, func89 → UH, prog → af
namespace Go.BmP
open Go.Shelf Go.Proofs
def Kr : Go.Shelf.Ren := ⟨fun | 189 => 57 | 125 => 77 | 257 => 76 | 128 => 100 | 129 => 101 | 294 => 91 | 295 => 92 | 296 => 93 | 297 => 94 | 298 => 95 | 299 => 96 | 216 => 97 | 300 => 98 | 301 => 99 | 328 => 111 | 329 => 112 | 330 => 113 | 331 => 114 | 332 => 115 | 215 => 89 | 343 => 125 | n => n,fun | 28 => 22 | 3 => 3 | 46 => 101 | 0 => 0 | 51 => 121 | 53 => 88 | 4 => 4 | 183 => 115 | 182 => 114 | 131 => 91 | 5 => 5 | 9 => 9 | 218 => 129 | 222 => 133 | 228 => 142 | 229 => 143 | n => n,fun n => n⟩
theorem aaf : Lays.n189 af Kr where
 mixed := by kernel_rfl
 f125 := Go.Proofs.Tryz.func77.trans (congrArg some (by kernel_rfl))
 f128 := Go.Proofs.Tryz.func100.trans (congrArg some (by kernel_rfl))
 f129 := Go.Proofs.Tryz.func101.trans (congrArg some (by kernel_rfl))
 f189 := UI.trans (congrArg some (by kernel_rfl))
 f215 := UH.trans (congrArg some (by kernel_rfl))
 f216 := Go.Proofs.Tryz.func97.trans (congrArg some (by kernel_rfl))
 f257 := Go.Proofs.Tryz.func76.trans (congrArg some (by kernel_rfl))
 f294 := Go.Proofs.Tryz.func91.trans (congrArg some (by kernel_rfl))
 f295 := Go.Proofs.Tryz.func92.trans (congrArg some (by kernel_rfl))
 f296 := Go.Proofs.Tryz.func93.trans (congrArg some (by kernel_rfl))
 f297 := Go.Proofs.Tryz.func94.trans (congrArg some (by kernel_rfl))
 f298 := Go.Proofs.Tryz.func95.trans (congrArg some (by kernel_rfl))
 f299 := Go.Proofs.Tryz.func96.trans (congrArg some (by kernel_rfl))
 f300 := Go.Proofs.Tryz.func98.trans (congrArg some (by kernel_rfl))
 f301 := Go.Proofs.Tryz.func99.trans (congrArg some (by kernel_rfl))
 f328 := Go.Proofs.Tryz.func111.trans (congrArg some (by kernel_rfl))
 f329 := Go.Proofs.Tryz.func112.trans (congrArg some (by kernel_rfl))
 f330 := Go.Proofs.Tryz.func113.trans (congrArg some (by kernel_rfl))
 f331 := Go.Proofs.Tryz.func114.trans (congrArg some (by kernel_rfl))
 f332 := Go.Proofs.Tryz.func115.trans (congrArg some (by kernel_rfl))
 f343 := Go.Proofs.Tryz.func125.trans (congrArg some (by kernel_rfl))
 t0 := Go.Proofs.Tryz.underlying0
 a0 := Go.Proofs.Tryz.isAgg0
 z0 := Go.Proofs.Tryz.sizeOf0
 v0 := Go.Proofs.Tryz.zeroValue0
 t3 := Go.Proofs.Tryz.underlying3
 a3 := Go.Proofs.Tryz.isAgg3
 z3 := Go.Proofs.Tryz.sizeOf3
 v3 := Go.Proofs.Tryz.zeroValue3
 t4 := Go.Proofs.Tryz.underlying4
 a4 := Go.Proofs.Tryz.isAgg4
 z4 := Go.Proofs.Tryz.sizeOf4
 v4 := Go.Proofs.Tryz.zeroValue4
 t5 := Go.Proofs.Tryz.underlying5
 a5 := Go.Proofs.Tryz.isAgg5
 z5 := Go.Proofs.Tryz.sizeOf5
 v5 := Go.Proofs.Tryz.zeroValue5
 t9 := Go.Proofs.Tryz.underlying9
 a9 := Go.Proofs.Tryz.isAgg9
 z9 := Go.Proofs.Tryz.sizeOf9
 v9 := Go.Proofs.Tryz.zeroValue9
 t28 := Go.Proofs.Tryz.underlying22
 a28 := Go.Proofs.Tryz.isAgg22
 z28 := Go.Proofs.Tryz.sizeOf22
 v28 := Go.Proofs.Tryz.zeroValue22
 t46 := Go.Proofs.Tryz.underlying101
 a46 := Go.Proofs.Tryz.isAgg101
 z46 := Go.Proofs.Tryz.sizeOf101
 v46 := Go.Proofs.Tryz.zeroValue101
 t51 := Go.Proofs.Tryz.underlying121
 a51 := Go.Proofs.Tryz.isAgg121
 z51 := Go.Proofs.Tryz.sizeOf121
 v51 := Go.Proofs.Tryz.zeroValue121
 t53 := Go.Proofs.Tryz.underlying88
 a53 := Go.Proofs.Tryz.isAgg88
 z53 := Go.Proofs.Tryz.sizeOf88
 v53 := Go.Proofs.Tryz.zeroValue88
 t131 := Go.Proofs.Tryz.underlying91
 a131 := Go.Proofs.Tryz.isAgg91
 z131 := Go.Proofs.Tryz.sizeOf91
 v131 := Go.Proofs.Tryz.zeroValue91
 t182 := Go.Proofs.Tryz.underlying114
 a182 := Go.Proofs.Tryz.isAgg114
 z182 := Go.Proofs.Tryz.sizeOf114
 v182 := Go.Proofs.Tryz.zeroValue114
 t183 := Go.Proofs.Tryz.underlying115
 a183 := Go.Proofs.Tryz.isAgg115
 z183 := Go.Proofs.Tryz.sizeOf115
 v183 := Go.Proofs.Tryz.zeroValue115
 t218 := Go.Proofs.Tryz.underlying129
 a218 := Go.Proofs.Tryz.isAgg129
 z218 := Go.Proofs.Tryz.sizeOf129
 v218 := Go.Proofs.Tryz.zeroValue129
 t222 := Go.Proofs.Tryz.underlying133
 a222 := Go.Proofs.Tryz.isAgg133
 z222 := Go.Proofs.Tryz.sizeOf133
 v222 := Go.Proofs.Tryz.zeroValue133
 t228 := Go.Proofs.Tryz.underlying142
 a228 := Go.Proofs.Tryz.isAgg142
 z228 := Go.Proofs.Tryz.sizeOf142
 v228 := Go.Proofs.Tryz.zeroValue142
 t229 := Go.Proofs.Tryz.underlying143
 a229 := Go.Proofs.Tryz.isAgg143
 z229 := Go.Proofs.Tryz.sizeOf143
 v229 := Go.Proofs.Tryz.zeroValue143
end Go.BmP
