/- The library's sort and clone of ints lie in this program: which function and which type stands for which. -/
import Derived.Test.YtcjfhegnnjnmgaaDoorBmP
import Derived.Test.YtcjfhegnnjnmgaaDoorSrtO
import Derived.KernelRfl
set_option maxRecDepth 100000
namespace Go.BmP
open Go.Shelf Go.Proofs
def laysSort_ren : Go.Shelf.Ren := ⟨fun | 189 => 46 | 125 => 58 | 257 => 61 | 128 => 72 | 129 => 73 | 294 => 75 | 295 => 76 | 296 => 77 | 297 => 78 | 298 => 79 | 299 => 80 | 216 => 81 | 300 => 82 | 301 => 83 | 328 => 90 | 329 => 86 | 330 => 87 | 331 => 91 | 332 => 92 | 215 => 74 | 343 => 94 | n => n, fun | 28 => 22 | 3 => 3 | 46 => 82 | 0 => 0 | 51 => 95 | 53 => 63 | 4 => 4 | 183 => 89 | 182 => 88 | 131 => 56 | 5 => 5 | 9 => 9 | 218 => 104 | 222 => 108 | 228 => 112 | 229 => 113 | n => n, fun n => n⟩
theorem laysSort : Lays.n189 Go.Proofs.Tryd.prog laysSort_ren where
  mixed := by kernel_rfl
  f125 := Go.Proofs.Tryd.func58.trans (congrArg some (by kernel_rfl))
  f128 := Go.Proofs.Tryd.func72.trans (congrArg some (by kernel_rfl))
  f129 := Go.Proofs.Tryd.func73.trans (congrArg some (by kernel_rfl))
  f189 := Go.Proofs.Tryd.func46.trans (congrArg some (by kernel_rfl))
  f215 := Go.Proofs.Tryd.func74.trans (congrArg some (by kernel_rfl))
  f216 := Go.Proofs.Tryd.func81.trans (congrArg some (by kernel_rfl))
  f257 := Go.Proofs.Tryd.func61.trans (congrArg some (by kernel_rfl))
  f294 := Go.Proofs.Tryd.func75.trans (congrArg some (by kernel_rfl))
  f295 := Go.Proofs.Tryd.func76.trans (congrArg some (by kernel_rfl))
  f296 := Go.Proofs.Tryd.func77.trans (congrArg some (by kernel_rfl))
  f297 := Go.Proofs.Tryd.func78.trans (congrArg some (by kernel_rfl))
  f298 := Go.Proofs.Tryd.func79.trans (congrArg some (by kernel_rfl))
  f299 := Go.Proofs.Tryd.func80.trans (congrArg some (by kernel_rfl))
  f300 := Go.Proofs.Tryd.func82.trans (congrArg some (by kernel_rfl))
  f301 := Go.Proofs.Tryd.func83.trans (congrArg some (by kernel_rfl))
  f328 := Go.Proofs.Tryd.func90.trans (congrArg some (by kernel_rfl))
  f329 := Go.Proofs.Tryd.func86.trans (congrArg some (by kernel_rfl))
  f330 := Go.Proofs.Tryd.func87.trans (congrArg some (by kernel_rfl))
  f331 := Go.Proofs.Tryd.func91.trans (congrArg some (by kernel_rfl))
  f332 := Go.Proofs.Tryd.func92.trans (congrArg some (by kernel_rfl))
  f343 := Go.Proofs.Tryd.func94.trans (congrArg some (by kernel_rfl))
  t0 := Go.Proofs.Tryd.underlying0
  a0 := Go.Proofs.Tryd.isAgg0
  z0 := Go.Proofs.Tryd.sizeOf0
  v0 := Go.Proofs.Tryd.zeroValue0
  t3 := Go.Proofs.Tryd.underlying3
  a3 := Go.Proofs.Tryd.isAgg3
  z3 := Go.Proofs.Tryd.sizeOf3
  v3 := Go.Proofs.Tryd.zeroValue3
  t4 := Go.Proofs.Tryd.underlying4
  a4 := Go.Proofs.Tryd.isAgg4
  z4 := Go.Proofs.Tryd.sizeOf4
  v4 := Go.Proofs.Tryd.zeroValue4
  t5 := Go.Proofs.Tryd.underlying5
  a5 := Go.Proofs.Tryd.isAgg5
  z5 := Go.Proofs.Tryd.sizeOf5
  v5 := Go.Proofs.Tryd.zeroValue5
  t9 := Go.Proofs.Tryd.underlying9
  a9 := Go.Proofs.Tryd.isAgg9
  z9 := Go.Proofs.Tryd.sizeOf9
  v9 := Go.Proofs.Tryd.zeroValue9
  t28 := Go.Proofs.Tryd.underlying22
  a28 := Go.Proofs.Tryd.isAgg22
  z28 := Go.Proofs.Tryd.sizeOf22
  v28 := Go.Proofs.Tryd.zeroValue22
  t46 := Go.Proofs.Tryd.underlying82
  a46 := Go.Proofs.Tryd.isAgg82
  z46 := Go.Proofs.Tryd.sizeOf82
  v46 := Go.Proofs.Tryd.zeroValue82
  t51 := Go.Proofs.Tryd.underlying95
  a51 := Go.Proofs.Tryd.isAgg95
  z51 := Go.Proofs.Tryd.sizeOf95
  v51 := Go.Proofs.Tryd.zeroValue95
  t53 := Go.Proofs.Tryd.underlying63
  a53 := Go.Proofs.Tryd.isAgg63
  z53 := Go.Proofs.Tryd.sizeOf63
  v53 := Go.Proofs.Tryd.zeroValue63
  t131 := Go.Proofs.Tryd.underlying56
  a131 := Go.Proofs.Tryd.isAgg56
  z131 := Go.Proofs.Tryd.sizeOf56
  v131 := Go.Proofs.Tryd.zeroValue56
  t182 := Go.Proofs.Tryd.underlying88
  a182 := Go.Proofs.Tryd.isAgg88
  z182 := Go.Proofs.Tryd.sizeOf88
  v182 := Go.Proofs.Tryd.zeroValue88
  t183 := Go.Proofs.Tryd.underlying89
  a183 := Go.Proofs.Tryd.isAgg89
  z183 := Go.Proofs.Tryd.sizeOf89
  v183 := Go.Proofs.Tryd.zeroValue89
  t218 := Go.Proofs.Tryd.underlying104
  a218 := Go.Proofs.Tryd.isAgg104
  z218 := Go.Proofs.Tryd.sizeOf104
  v218 := Go.Proofs.Tryd.zeroValue104
  t222 := Go.Proofs.Tryd.underlying108
  a222 := Go.Proofs.Tryd.isAgg108
  z222 := Go.Proofs.Tryd.sizeOf108
  v222 := Go.Proofs.Tryd.zeroValue108
  t228 := Go.Proofs.Tryd.underlying112
  a228 := Go.Proofs.Tryd.isAgg112
  z228 := Go.Proofs.Tryd.sizeOf112
  v228 := Go.Proofs.Tryd.zeroValue112
  t229 := Go.Proofs.Tryd.underlying113
  a229 := Go.Proofs.Tryd.isAgg113
  z229 := Go.Proofs.Tryd.sizeOf113
  v229 := Go.Proofs.Tryd.zeroValue113
end Go.BmP
