/- The library's sort and clone of ints lie in this program: which function and which type stands for which. -/
import Derived.Test.YtikffbngaolphaaDoorBmP
import Derived.Test.YtikffbngaolphaaDoorCloO
import Derived.KernelRfl
set_option maxRecDepth 100000
namespace Go.BmP
open Go.Shelf Go.Proofs
def laysSort_ren : Go.Shelf.Ren := ⟨fun | 189 => 78 | 125 => 82 | 257 => 81 | 128 => 92 | 129 => 93 | 294 => 83 | 295 => 84 | 296 => 85 | 297 => 86 | 298 => 87 | 299 => 88 | 216 => 89 | 300 => 90 | 301 => 91 | 328 => 94 | 329 => 95 | 330 => 96 | 331 => 97 | 332 => 98 | 215 => 80 | 343 => 99 | n => n, fun | 28 => 22 | 3 => 3 | 46 => 44 | 0 => 0 | 51 => 119 | 53 => 71 | 4 => 4 | 183 => 111 | 182 => 110 | 131 => 116 | 5 => 5 | 9 => 9 | 218 => 120 | 222 => 124 | 228 => 126 | 229 => 127 | n => n, fun n => n⟩
theorem laysSort : Lays.n189 Go.Proofs.Tryd.prog laysSort_ren where
  mixed := by kernel_rfl
  f125 := Go.Proofs.Tryd.func82.trans (congrArg some (by kernel_rfl))
  f128 := Go.Proofs.Tryd.func92.trans (congrArg some (by kernel_rfl))
  f129 := Go.Proofs.Tryd.func93.trans (congrArg some (by kernel_rfl))
  f189 := Go.Proofs.Tryd.func78.trans (congrArg some (by kernel_rfl))
  f215 := Go.Proofs.Tryd.func80.trans (congrArg some (by kernel_rfl))
  f216 := Go.Proofs.Tryd.func89.trans (congrArg some (by kernel_rfl))
  f257 := Go.Proofs.Tryd.func81.trans (congrArg some (by kernel_rfl))
  f294 := Go.Proofs.Tryd.func83.trans (congrArg some (by kernel_rfl))
  f295 := Go.Proofs.Tryd.func84.trans (congrArg some (by kernel_rfl))
  f296 := Go.Proofs.Tryd.func85.trans (congrArg some (by kernel_rfl))
  f297 := Go.Proofs.Tryd.func86.trans (congrArg some (by kernel_rfl))
  f298 := Go.Proofs.Tryd.func87.trans (congrArg some (by kernel_rfl))
  f299 := Go.Proofs.Tryd.func88.trans (congrArg some (by kernel_rfl))
  f300 := Go.Proofs.Tryd.func90.trans (congrArg some (by kernel_rfl))
  f301 := Go.Proofs.Tryd.func91.trans (congrArg some (by kernel_rfl))
  f328 := Go.Proofs.Tryd.func94.trans (congrArg some (by kernel_rfl))
  f329 := Go.Proofs.Tryd.func95.trans (congrArg some (by kernel_rfl))
  f330 := Go.Proofs.Tryd.func96.trans (congrArg some (by kernel_rfl))
  f331 := Go.Proofs.Tryd.func97.trans (congrArg some (by kernel_rfl))
  f332 := Go.Proofs.Tryd.func98.trans (congrArg some (by kernel_rfl))
  f343 := Go.Proofs.Tryd.func99.trans (congrArg some (by kernel_rfl))
  t0 := Go.Proofs.Tryd.underlying0
  a0 := Go.Proofs.Tryd.isAgg0
  z0 := Go.Proofs.Tryd.sizeOf0
  v0 := Go.Proofs.Tryd.zeroValue0
  t3 := Go.Proofs.Tryd.underlying3
  a3 := Go.Proofs.Tryd.isAgg3
  z3 := Go.Proofs.Tryd.sizeOf3
  v3 := Go.Proofs.Tryd.zeroValue3
  t4 := Go.Proofs.Tryd.underlying4
  a4 := Go.Proofs.Tryd.isAgg4
  z4 := Go.Proofs.Tryd.sizeOf4
  v4 := Go.Proofs.Tryd.zeroValue4
  t5 := Go.Proofs.Tryd.underlying5
  a5 := Go.Proofs.Tryd.isAgg5
  z5 := Go.Proofs.Tryd.sizeOf5
  v5 := Go.Proofs.Tryd.zeroValue5
  t9 := Go.Proofs.Tryd.underlying9
  a9 := Go.Proofs.Tryd.isAgg9
  z9 := Go.Proofs.Tryd.sizeOf9
  v9 := Go.Proofs.Tryd.zeroValue9
  t28 := Go.Proofs.Tryd.underlying22
  a28 := Go.Proofs.Tryd.isAgg22
  z28 := Go.Proofs.Tryd.sizeOf22
  v28 := Go.Proofs.Tryd.zeroValue22
  t46 := Go.Proofs.Tryd.underlying44
  a46 := Go.Proofs.Tryd.isAgg44
  z46 := Go.Proofs.Tryd.sizeOf44
  v46 := Go.Proofs.Tryd.zeroValue44
  t51 := Go.Proofs.Tryd.underlying119
  a51 := Go.Proofs.Tryd.isAgg119
  z51 := Go.Proofs.Tryd.sizeOf119
  v51 := Go.Proofs.Tryd.zeroValue119
  t53 := Go.Proofs.Tryd.underlying71
  a53 := Go.Proofs.Tryd.isAgg71
  z53 := Go.Proofs.Tryd.sizeOf71
  v53 := Go.Proofs.Tryd.zeroValue71
  t131 := Go.Proofs.Tryd.underlying116
  a131 := Go.Proofs.Tryd.isAgg116
  z131 := Go.Proofs.Tryd.sizeOf116
  v131 := Go.Proofs.Tryd.zeroValue116
  t182 := Go.Proofs.Tryd.underlying110
  a182 := Go.Proofs.Tryd.isAgg110
  z182 := Go.Proofs.Tryd.sizeOf110
  v182 := Go.Proofs.Tryd.zeroValue110
  t183 := Go.Proofs.Tryd.underlying111
  a183 := Go.Proofs.Tryd.isAgg111
  z183 := Go.Proofs.Tryd.sizeOf111
  v183 := Go.Proofs.Tryd.zeroValue111
  t218 := Go.Proofs.Tryd.underlying120
  a218 := Go.Proofs.Tryd.isAgg120
  z218 := Go.Proofs.Tryd.sizeOf120
  v218 := Go.Proofs.Tryd.zeroValue120
  t222 := Go.Proofs.Tryd.underlying124
  a222 := Go.Proofs.Tryd.isAgg124
  z222 := Go.Proofs.Tryd.sizeOf124
  v222 := Go.Proofs.Tryd.zeroValue124
  t228 := Go.Proofs.Tryd.underlying126
  a228 := Go.Proofs.Tryd.isAgg126
  z228 := Go.Proofs.Tryd.sizeOf126
  v228 := Go.Proofs.Tryd.zeroValue126
  t229 := Go.Proofs.Tryd.underlying127
  a229 := Go.Proofs.Tryd.isAgg127
  z229 := Go.Proofs.Tryd.sizeOf127
  v229 := Go.Proofs.Tryd.zeroValue127
def laysClone_ren : Go.Shelf.Ren := ⟨fun | 15 => 67 | n => n, fun | 22 => 22 | 3 => 3 | 4 => 4 | n => n, fun n => n⟩
theorem laysClone : Lays2.n15 Go.Proofs.Tryd.prog laysClone_ren where
  mixed := by kernel_rfl
  f15 := Go.Proofs.Tryd.func67.trans (congrArg some (by kernel_rfl))
  t3 := Go.Proofs.Tryd.underlying3
  a3 := Go.Proofs.Tryd.isAgg3
  z3 := Go.Proofs.Tryd.sizeOf3
  v3 := Go.Proofs.Tryd.zeroValue3
  t4 := Go.Proofs.Tryd.underlying4
  a4 := Go.Proofs.Tryd.isAgg4
  z4 := Go.Proofs.Tryd.sizeOf4
  v4 := Go.Proofs.Tryd.zeroValue4
  t22 := Go.Proofs.Tryd.underlying22
  a22 := Go.Proofs.Tryd.isAgg22
  z22 := Go.Proofs.Tryd.sizeOf22
  v22 := Go.Proofs.Tryd.zeroValue22
  i3 := by kernel_rfl
def laysCompact_ren : Go.Shelf.Ren := ⟨fun | 20 => 79 | n => n, fun | 22 => 22 | 3 => 3 | 4 => 4 | 0 => 0 | n => n, fun n => n⟩
theorem laysCompact : Lays2.n20 Go.Proofs.Tryd.prog laysCompact_ren where
  mixed := by kernel_rfl
  f20 := Go.Proofs.Tryd.func79.trans (congrArg some (by kernel_rfl))
  t0 := Go.Proofs.Tryd.underlying0
  a0 := Go.Proofs.Tryd.isAgg0
  z0 := Go.Proofs.Tryd.sizeOf0
  v0 := Go.Proofs.Tryd.zeroValue0
  t3 := Go.Proofs.Tryd.underlying3
  a3 := Go.Proofs.Tryd.isAgg3
  z3 := Go.Proofs.Tryd.sizeOf3
  v3 := Go.Proofs.Tryd.zeroValue3
  t4 := Go.Proofs.Tryd.underlying4
  a4 := Go.Proofs.Tryd.isAgg4
  z4 := Go.Proofs.Tryd.sizeOf4
  v4 := Go.Proofs.Tryd.zeroValue4
  t22 := Go.Proofs.Tryd.underlying22
  a22 := Go.Proofs.Tryd.isAgg22
  z22 := Go.Proofs.Tryd.sizeOf22
  v22 := Go.Proofs.Tryd.zeroValue22
  i3 := by kernel_rfl
end Go.BmP
