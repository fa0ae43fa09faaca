/- The library's sort and clone of ints lie in this program: which function and which type stands for which. -/
import Derived.Test.YteomjfokokneoaaDoorBmP
import Derived.Test.YteomjfokokneoaaDoorCloO
import Derived.KernelRfl
set_option maxRecDepth 100000
open Go.Proofs.Tryd renaming func73 → TD, func74 → TC, func75 → TB, isAgg0 → Cl, isAgg22 → BD, isAgg3 → Ck, isAgg4 → Cj, prog → aq, sizeOf0 → BC, sizeOf22 → An, sizeOf3 → BB, sizeOf4 → BA, underlying0 → x7, underlying22 → w7, underlying3 → x6, underlying4 → x5, zeroValue0 → ye, zeroValue22 → xZ, zeroValue3 → yd, zeroValue4 → yc
open Go.Shelf renaming Ren → w6
namespace Go.BmP
open Go.Shelf Go.Proofs
def JP : w6 := ⟨fun | 189 => 74 | 125 => 77 | 257 => 76 | 128 => 87 | 129 => 88 | 294 => 78 | 295 => 79 | 296 => 80 | 297 => 81 | 298 => 82 | 299 => 83 | 216 => 84 | 300 => 85 | 301 => 86 | 328 => 89 | 329 => 90 | 330 => 91 | 331 => 92 | 332 => 93 | 215 => 73 | 343 => 94 | n => n,fun | 28 => 22 | 3 => 3 | 46 => 103 | 0 => 0 | 51 => 118 | 53 => 65 | 4 => 4 | 183 => 110 | 182 => 109 | 131 => 115 | 5 => 5 | 9 => 9 | 218 => 119 | 222 => 123 | 228 => 125 | 229 => 126 | n => n,fun n => n⟩
theorem Xs : Lays.n189 aq JP where
 mixed := by kernel_rfl
 f125 := Go.Proofs.Tryd.func77.trans (congrArg some (by kernel_rfl))
 f128 := Go.Proofs.Tryd.func87.trans (congrArg some (by kernel_rfl))
 f129 := Go.Proofs.Tryd.func88.trans (congrArg some (by kernel_rfl))
 f189 := TC.trans (congrArg some (by kernel_rfl))
 f215 := TD.trans (congrArg some (by kernel_rfl))
 f216 := Go.Proofs.Tryd.func84.trans (congrArg some (by kernel_rfl))
 f257 := Go.Proofs.Tryd.func76.trans (congrArg some (by kernel_rfl))
 f294 := Go.Proofs.Tryd.func78.trans (congrArg some (by kernel_rfl))
 f295 := Go.Proofs.Tryd.func79.trans (congrArg some (by kernel_rfl))
 f296 := Go.Proofs.Tryd.func80.trans (congrArg some (by kernel_rfl))
 f297 := Go.Proofs.Tryd.func81.trans (congrArg some (by kernel_rfl))
 f298 := Go.Proofs.Tryd.func82.trans (congrArg some (by kernel_rfl))
 f299 := Go.Proofs.Tryd.func83.trans (congrArg some (by kernel_rfl))
 f300 := Go.Proofs.Tryd.func85.trans (congrArg some (by kernel_rfl))
 f301 := Go.Proofs.Tryd.func86.trans (congrArg some (by kernel_rfl))
 f328 := Go.Proofs.Tryd.func89.trans (congrArg some (by kernel_rfl))
 f329 := Go.Proofs.Tryd.func90.trans (congrArg some (by kernel_rfl))
 f330 := Go.Proofs.Tryd.func91.trans (congrArg some (by kernel_rfl))
 f331 := Go.Proofs.Tryd.func92.trans (congrArg some (by kernel_rfl))
 f332 := Go.Proofs.Tryd.func93.trans (congrArg some (by kernel_rfl))
 f343 := Go.Proofs.Tryd.func94.trans (congrArg some (by kernel_rfl))
 t0 := x7
 a0 := Cl
 z0 := BC
 v0 := ye
 t3 := x6
 a3 := Ck
 z3 := BB
 v3 := yd
 t4 := x5
 a4 := Cj
 z4 := BA
 v4 := yc
 t5 := Go.Proofs.Tryd.underlying5
 a5 := Go.Proofs.Tryd.isAgg5
 z5 := Go.Proofs.Tryd.sizeOf5
 v5 := Go.Proofs.Tryd.zeroValue5
 t9 := Go.Proofs.Tryd.underlying9
 a9 := Go.Proofs.Tryd.isAgg9
 z9 := Go.Proofs.Tryd.sizeOf9
 v9 := Go.Proofs.Tryd.zeroValue9
 t28 := w7
 a28 := BD
 z28 := An
 v28 := xZ
 t46 := Go.Proofs.Tryd.underlying103
 a46 := Go.Proofs.Tryd.isAgg103
 z46 := Go.Proofs.Tryd.sizeOf103
 v46 := Go.Proofs.Tryd.zeroValue103
 t51 := Go.Proofs.Tryd.underlying118
 a51 := Go.Proofs.Tryd.isAgg118
 z51 := Go.Proofs.Tryd.sizeOf118
 v51 := Go.Proofs.Tryd.zeroValue118
 t53 := Go.Proofs.Tryd.underlying65
 a53 := Go.Proofs.Tryd.isAgg65
 z53 := Go.Proofs.Tryd.sizeOf65
 v53 := Go.Proofs.Tryd.zeroValue65
 t131 := Go.Proofs.Tryd.underlying115
 a131 := Go.Proofs.Tryd.isAgg115
 z131 := Go.Proofs.Tryd.sizeOf115
 v131 := Go.Proofs.Tryd.zeroValue115
 t182 := Go.Proofs.Tryd.underlying109
 a182 := Go.Proofs.Tryd.isAgg109
 z182 := Go.Proofs.Tryd.sizeOf109
 v182 := Go.Proofs.Tryd.zeroValue109
 t183 := Go.Proofs.Tryd.underlying110
 a183 := Go.Proofs.Tryd.isAgg110
 z183 := Go.Proofs.Tryd.sizeOf110
 v183 := Go.Proofs.Tryd.zeroValue110
 t218 := Go.Proofs.Tryd.underlying119
 a218 := Go.Proofs.Tryd.isAgg119
 z218 := Go.Proofs.Tryd.sizeOf119
 v218 := Go.Proofs.Tryd.zeroValue119
 t222 := Go.Proofs.Tryd.underlying123
 a222 := Go.Proofs.Tryd.isAgg123
 z222 := Go.Proofs.Tryd.sizeOf123
 v222 := Go.Proofs.Tryd.zeroValue123
 t228 := Go.Proofs.Tryd.underlying125
 a228 := Go.Proofs.Tryd.isAgg125
 z228 := Go.Proofs.Tryd.sizeOf125
 v228 := Go.Proofs.Tryd.zeroValue125
 t229 := Go.Proofs.Tryd.underlying126
 a229 := Go.Proofs.Tryd.isAgg126
 z229 := Go.Proofs.Tryd.sizeOf126
 v229 := Go.Proofs.Tryd.zeroValue126
def Ze : w6 := ⟨fun | 15 => 67 | n => n,fun | 22 => 22 | 3 => 3 | 4 => 4 | n => n,fun n => n⟩
def Cr : w6 := ⟨fun | 20 => 75 | n => n,fun | 22 => 22 | 3 => 3 | 4 => 4 | 0 => 0 | n => n,fun n => n⟩
theorem MM : Lays2.n20 aq Cr where
 mixed := by kernel_rfl
 f20 := TB.trans (congrArg some (by kernel_rfl))
 t0 := x7
 a0 := Cl
 z0 := BC
 v0 := ye
 t3 := x6
 a3 := Ck
 z3 := BB
 v3 := yd
 t4 := x5
 a4 := Cj
 z4 := BA
 v4 := yc
 t22 := w7
 a22 := BD
 z22 := An
 v22 := xZ
 i3 := by kernel_rfl
end Go.BmP
