/- The library's sort and clone of ints lie in this program: which function and which type stands for which. -/
import Derived.Test.YtahcjjgkefjhbaaBmP
import Derived.Test.YtahcjjgkefjhbaaSrtO
import Derived.KernelRfl
set_option maxRecDepth 100000
namespace Go.BmP
open Go.Shelf Go.Proofs
def laysSort_ren : Go.Shelf.Ren := ⟨fun | 189 => 53 | 125 => 71 | 257 => 70 | 128 => 94 | 129 => 95 | 294 => 85 | 295 => 86 | 296 => 87 | 297 => 88 | 298 => 89 | 299 => 90 | 216 => 91 | 300 => 92 | 301 => 93 | 328 => 106 | 329 => 107 | 330 => 108 | 331 => 109 | 332 => 110 | 215 => 84 | 343 => 118 | n => n, fun | 28 => 22 | 3 => 3 | 46 => 100 | 0 => 0 | 51 => 123 | 53 => 83 | 4 => 4 | 183 => 117 | 182 => 116 | 131 => 91 | 5 => 5 | 9 => 9 | 218 => 129 | 222 => 133 | 228 => 139 | 229 => 140 | n => n, fun n => n⟩
theorem laysSort : Lays.n189 Go.Proofs.Try.prog laysSort_ren where
  mixed := by kernel_rfl
  f125 := Go.Proofs.Try.func71.trans (congrArg some (by kernel_rfl))
  f128 := Go.Proofs.Try.func94.trans (congrArg some (by kernel_rfl))
  f129 := Go.Proofs.Try.func95.trans (congrArg some (by kernel_rfl))
  f189 := Go.Proofs.Try.func53.trans (congrArg some (by kernel_rfl))
  f215 := Go.Proofs.Try.func84.trans (congrArg some (by kernel_rfl))
  f216 := Go.Proofs.Try.func91.trans (congrArg some (by kernel_rfl))
  f257 := Go.Proofs.Try.func70.trans (congrArg some (by kernel_rfl))
  f294 := Go.Proofs.Try.func85.trans (congrArg some (by kernel_rfl))
  f295 := Go.Proofs.Try.func86.trans (congrArg some (by kernel_rfl))
  f296 := Go.Proofs.Try.func87.trans (congrArg some (by kernel_rfl))
  f297 := Go.Proofs.Try.func88.trans (congrArg some (by kernel_rfl))
  f298 := Go.Proofs.Try.func89.trans (congrArg some (by kernel_rfl))
  f299 := Go.Proofs.Try.func90.trans (congrArg some (by kernel_rfl))
  f300 := Go.Proofs.Try.func92.trans (congrArg some (by kernel_rfl))
  f301 := Go.Proofs.Try.func93.trans (congrArg some (by kernel_rfl))
  f328 := Go.Proofs.Try.func106.trans (congrArg some (by kernel_rfl))
  f329 := Go.Proofs.Try.func107.trans (congrArg some (by kernel_rfl))
  f330 := Go.Proofs.Try.func108.trans (congrArg some (by kernel_rfl))
  f331 := Go.Proofs.Try.func109.trans (congrArg some (by kernel_rfl))
  f332 := Go.Proofs.Try.func110.trans (congrArg some (by kernel_rfl))
  f343 := Go.Proofs.Try.func118.trans (congrArg some (by kernel_rfl))
  t0 := Go.Proofs.Try.underlying0
  a0 := Go.Proofs.Try.isAgg0
  z0 := Go.Proofs.Try.sizeOf0
  v0 := Go.Proofs.Try.zeroValue0
  t3 := Go.Proofs.Try.underlying3
  a3 := Go.Proofs.Try.isAgg3
  z3 := Go.Proofs.Try.sizeOf3
  v3 := Go.Proofs.Try.zeroValue3
  t4 := Go.Proofs.Try.underlying4
  a4 := Go.Proofs.Try.isAgg4
  z4 := Go.Proofs.Try.sizeOf4
  v4 := Go.Proofs.Try.zeroValue4
  t5 := Go.Proofs.Try.underlying5
  a5 := Go.Proofs.Try.isAgg5
  z5 := Go.Proofs.Try.sizeOf5
  v5 := Go.Proofs.Try.zeroValue5
  t9 := Go.Proofs.Try.underlying9
  a9 := Go.Proofs.Try.isAgg9
  z9 := Go.Proofs.Try.sizeOf9
  v9 := Go.Proofs.Try.zeroValue9
  t28 := Go.Proofs.Try.underlying22
  a28 := Go.Proofs.Try.isAgg22
  z28 := Go.Proofs.Try.sizeOf22
  v28 := Go.Proofs.Try.zeroValue22
  t46 := Go.Proofs.Try.underlying100
  a46 := Go.Proofs.Try.isAgg100
  z46 := Go.Proofs.Try.sizeOf100
  v46 := Go.Proofs.Try.zeroValue100
  t51 := Go.Proofs.Try.underlying123
  a51 := Go.Proofs.Try.isAgg123
  z51 := Go.Proofs.Try.sizeOf123
  v51 := Go.Proofs.Try.zeroValue123
  t53 := Go.Proofs.Try.underlying83
  a53 := Go.Proofs.Try.isAgg83
  z53 := Go.Proofs.Try.sizeOf83
  v53 := Go.Proofs.Try.zeroValue83
  t131 := Go.Proofs.Try.underlying91
  a131 := Go.Proofs.Try.isAgg91
  z131 := Go.Proofs.Try.sizeOf91
  v131 := Go.Proofs.Try.zeroValue91
  t182 := Go.Proofs.Try.underlying116
  a182 := Go.Proofs.Try.isAgg116
  z182 := Go.Proofs.Try.sizeOf116
  v182 := Go.Proofs.Try.zeroValue116
  t183 := Go.Proofs.Try.underlying117
  a183 := Go.Proofs.Try.isAgg117
  z183 := Go.Proofs.Try.sizeOf117
  v183 := Go.Proofs.Try.zeroValue117
  t218 := Go.Proofs.Try.underlying129
  a218 := Go.Proofs.Try.isAgg129
  z218 := Go.Proofs.Try.sizeOf129
  v218 := Go.Proofs.Try.zeroValue129
  t222 := Go.Proofs.Try.underlying133
  a222 := Go.Proofs.Try.isAgg133
  z222 := Go.Proofs.Try.sizeOf133
  v222 := Go.Proofs.Try.zeroValue133
  t228 := Go.Proofs.Try.underlying139
  a228 := Go.Proofs.Try.isAgg139
  z228 := Go.Proofs.Try.sizeOf139
  v228 := Go.Proofs.Try.zeroValue139
  t229 := Go.Proofs.Try.underlying140
  a229 := Go.Proofs.Try.isAgg140
  z229 := Go.Proofs.Try.sizeOf140
  v229 := Go.Proofs.Try.zeroValue140
end Go.BmP
