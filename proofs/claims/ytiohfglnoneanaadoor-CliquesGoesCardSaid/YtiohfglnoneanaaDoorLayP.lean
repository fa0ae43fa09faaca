/- The library's sort and clone of ints lie in this program: which function and which type stands for which. -/
import Derived.Test.YtiohfglnoneanaaDoorBmP
import Derived.Test.YtiohfglnoneanaaDoorSrtO
import Derived.Test.YtiohfglnoneanaaDoorCloW
import Derived.KernelRfl
set_option maxRecDepth 100000
namespace Go.BmP
open Go.Shelf Go.Proofs
def laysSort_ren : Go.Shelf.Ren := ⟨fun | 189 => 57 | 125 => 82 | 257 => 81 | 128 => 102 | 129 => 103 | 294 => 93 | 295 => 94 | 296 => 95 | 297 => 96 | 298 => 97 | 299 => 98 | 216 => 99 | 300 => 100 | 301 => 101 | 328 => 114 | 329 => 115 | 330 => 116 | 331 => 117 | 332 => 118 | 215 => 113 | 343 => 123 | n => n, fun | 28 => 32 | 3 => 3 | 46 => 27 | 0 => 0 | 51 => 113 | 53 => 72 | 4 => 4 | 183 => 106 | 182 => 105 | 131 => 82 | 5 => 5 | 9 => 9 | 218 => 120 | 222 => 124 | 228 => 129 | 229 => 130 | n => n, fun n => n⟩
theorem laysSort : Lays.n189 Go.Proofs.Tryd.prog laysSort_ren where
  mixed := by kernel_rfl
  f125 := Go.Proofs.Tryd.func82.trans (congrArg some (by kernel_rfl))
  f128 := Go.Proofs.Tryd.func102.trans (congrArg some (by kernel_rfl))
  f129 := Go.Proofs.Tryd.func103.trans (congrArg some (by kernel_rfl))
  f189 := Go.Proofs.Tryd.func57.trans (congrArg some (by kernel_rfl))
  f215 := Go.Proofs.Tryd.func113.trans (congrArg some (by kernel_rfl))
  f216 := Go.Proofs.Tryd.func99.trans (congrArg some (by kernel_rfl))
  f257 := Go.Proofs.Tryd.func81.trans (congrArg some (by kernel_rfl))
  f294 := Go.Proofs.Tryd.func93.trans (congrArg some (by kernel_rfl))
  f295 := Go.Proofs.Tryd.func94.trans (congrArg some (by kernel_rfl))
  f296 := Go.Proofs.Tryd.func95.trans (congrArg some (by kernel_rfl))
  f297 := Go.Proofs.Tryd.func96.trans (congrArg some (by kernel_rfl))
  f298 := Go.Proofs.Tryd.func97.trans (congrArg some (by kernel_rfl))
  f299 := Go.Proofs.Tryd.func98.trans (congrArg some (by kernel_rfl))
  f300 := Go.Proofs.Tryd.func100.trans (congrArg some (by kernel_rfl))
  f301 := Go.Proofs.Tryd.func101.trans (congrArg some (by kernel_rfl))
  f328 := Go.Proofs.Tryd.func114.trans (congrArg some (by kernel_rfl))
  f329 := Go.Proofs.Tryd.func115.trans (congrArg some (by kernel_rfl))
  f330 := Go.Proofs.Tryd.func116.trans (congrArg some (by kernel_rfl))
  f331 := Go.Proofs.Tryd.func117.trans (congrArg some (by kernel_rfl))
  f332 := Go.Proofs.Tryd.func118.trans (congrArg some (by kernel_rfl))
  f343 := Go.Proofs.Tryd.func123.trans (congrArg some (by kernel_rfl))
  t0 := Go.Proofs.Tryd.underlying0
  a0 := Go.Proofs.Tryd.isAgg0
  z0 := Go.Proofs.Tryd.sizeOf0
  v0 := Go.Proofs.Tryd.zeroValue0
  t3 := Go.Proofs.Tryd.underlying3
  a3 := Go.Proofs.Tryd.isAgg3
  z3 := Go.Proofs.Tryd.sizeOf3
  v3 := Go.Proofs.Tryd.zeroValue3
  t4 := Go.Proofs.Tryd.underlying4
  a4 := Go.Proofs.Tryd.isAgg4
  z4 := Go.Proofs.Tryd.sizeOf4
  v4 := Go.Proofs.Tryd.zeroValue4
  t5 := Go.Proofs.Tryd.underlying5
  a5 := Go.Proofs.Tryd.isAgg5
  z5 := Go.Proofs.Tryd.sizeOf5
  v5 := Go.Proofs.Tryd.zeroValue5
  t9 := Go.Proofs.Tryd.underlying9
  a9 := Go.Proofs.Tryd.isAgg9
  z9 := Go.Proofs.Tryd.sizeOf9
  v9 := Go.Proofs.Tryd.zeroValue9
  t28 := Go.Proofs.Tryd.underlying32
  a28 := Go.Proofs.Tryd.isAgg32
  z28 := Go.Proofs.Tryd.sizeOf32
  v28 := Go.Proofs.Tryd.zeroValue32
  t46 := Go.Proofs.Tryd.underlying27
  a46 := Go.Proofs.Tryd.isAgg27
  z46 := Go.Proofs.Tryd.sizeOf27
  v46 := Go.Proofs.Tryd.zeroValue27
  t51 := Go.Proofs.Tryd.underlying113
  a51 := Go.Proofs.Tryd.isAgg113
  z51 := Go.Proofs.Tryd.sizeOf113
  v51 := Go.Proofs.Tryd.zeroValue113
  t53 := Go.Proofs.Tryd.underlying72
  a53 := Go.Proofs.Tryd.isAgg72
  z53 := Go.Proofs.Tryd.sizeOf72
  v53 := Go.Proofs.Tryd.zeroValue72
  t131 := Go.Proofs.Tryd.underlying82
  a131 := Go.Proofs.Tryd.isAgg82
  z131 := Go.Proofs.Tryd.sizeOf82
  v131 := Go.Proofs.Tryd.zeroValue82
  t182 := Go.Proofs.Tryd.underlying105
  a182 := Go.Proofs.Tryd.isAgg105
  z182 := Go.Proofs.Tryd.sizeOf105
  v182 := Go.Proofs.Tryd.zeroValue105
  t183 := Go.Proofs.Tryd.underlying106
  a183 := Go.Proofs.Tryd.isAgg106
  z183 := Go.Proofs.Tryd.sizeOf106
  v183 := Go.Proofs.Tryd.zeroValue106
  t218 := Go.Proofs.Tryd.underlying120
  a218 := Go.Proofs.Tryd.isAgg120
  z218 := Go.Proofs.Tryd.sizeOf120
  v218 := Go.Proofs.Tryd.zeroValue120
  t222 := Go.Proofs.Tryd.underlying124
  a222 := Go.Proofs.Tryd.isAgg124
  z222 := Go.Proofs.Tryd.sizeOf124
  v222 := Go.Proofs.Tryd.zeroValue124
  t228 := Go.Proofs.Tryd.underlying129
  a228 := Go.Proofs.Tryd.isAgg129
  z228 := Go.Proofs.Tryd.sizeOf129
  v228 := Go.Proofs.Tryd.zeroValue129
  t229 := Go.Proofs.Tryd.underlying130
  a229 := Go.Proofs.Tryd.isAgg130
  z229 := Go.Proofs.Tryd.sizeOf130
  v229 := Go.Proofs.Tryd.zeroValue130
def laysClone_ren : Go.Shelf.Ren := ⟨fun | 15 => 54 | n => n, fun | 22 => 32 | 3 => 3 | 4 => 4 | n => n, fun n => n⟩
theorem laysClone : Lays2.n15 Go.Proofs.Tryd.prog laysClone_ren where
  mixed := by kernel_rfl
  f15 := Go.Proofs.Tryd.func54.trans (congrArg some (by kernel_rfl))
  t3 := Go.Proofs.Tryd.underlying3
  a3 := Go.Proofs.Tryd.isAgg3
  z3 := Go.Proofs.Tryd.sizeOf3
  v3 := Go.Proofs.Tryd.zeroValue3
  t4 := Go.Proofs.Tryd.underlying4
  a4 := Go.Proofs.Tryd.isAgg4
  z4 := Go.Proofs.Tryd.sizeOf4
  v4 := Go.Proofs.Tryd.zeroValue4
  t22 := Go.Proofs.Tryd.underlying32
  a22 := Go.Proofs.Tryd.isAgg32
  z22 := Go.Proofs.Tryd.sizeOf32
  v22 := Go.Proofs.Tryd.zeroValue32
  i3 := by kernel_rfl
end Go.BmP
