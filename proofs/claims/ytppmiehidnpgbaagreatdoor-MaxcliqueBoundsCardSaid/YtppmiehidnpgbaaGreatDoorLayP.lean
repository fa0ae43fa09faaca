/- The library's sort and clone of ints lie in this program: which function and which type stands for which. -/
import Derived.Test.YtppmiehidnpgbaaGreatDoorBmP
import Derived.Test.YtppmiehidnpgbaaGreatDoorCloO
import Derived.Test.YtppmiehidnpgbaaGreatDoorRvO
import Derived.KernelRfl
set_option maxRecDepth 100000
open Go.Proofs.Tryz renaming func28 → Vi, func82 → Vh, func84 → Vg, func85 → Vf, isAgg0 → qF, isAgg22 → qz, isAgg3 → qE, isAgg4 → qD, prog → ai, sizeOf0 → qy, sizeOf22 → pj, sizeOf3 → qx, sizeOf4 → qw, underlying0 → mU, underlying22 → me, underlying3 → mT, underlying4 → mS, zeroValue0 → nV, zeroValue22 → mR, zeroValue3 → nU, zeroValue4 → nT
open Go.Shelf renaming Ren → wL
namespace Go.BmP
open Go.Shelf Go.Proofs
def K4 : wL := ⟨fun | 189 => 84 | 125 => 88 | 257 => 87 | 128 => 98 | 129 => 99 | 294 => 89 | 295 => 90 | 296 => 91 | 297 => 92 | 298 => 93 | 299 => 94 | 216 => 95 | 300 => 96 | 301 => 97 | 328 => 100 | 329 => 101 | 330 => 102 | 331 => 103 | 332 => 104 | 215 => 82 | 343 => 105 | n => n,fun | 28 => 22 | 3 => 3 | 46 => 77 | 0 => 0 | 51 => 96 | 53 => 53 | 4 => 4 | 183 => 105 | 182 => 104 | 131 => 110 | 5 => 5 | 9 => 9 | 218 => 113 | 222 => 117 | 228 => 119 | 229 => 120 | n => n,fun n => n⟩
theorem Y5 : Lays.n189 ai K4 where
 mixed := by kernel_rfl
 f125 := Go.Proofs.Tryz.func88.trans (congrArg some (by kernel_rfl))
 f128 := Go.Proofs.Tryz.func98.trans (congrArg some (by kernel_rfl))
 f129 := Go.Proofs.Tryz.func99.trans (congrArg some (by kernel_rfl))
 f189 := Vg.trans (congrArg some (by kernel_rfl))
 f215 := Vh.trans (congrArg some (by kernel_rfl))
 f216 := Go.Proofs.Tryz.func95.trans (congrArg some (by kernel_rfl))
 f257 := Go.Proofs.Tryz.func87.trans (congrArg some (by kernel_rfl))
 f294 := Go.Proofs.Tryz.func89.trans (congrArg some (by kernel_rfl))
 f295 := Go.Proofs.Tryz.func90.trans (congrArg some (by kernel_rfl))
 f296 := Go.Proofs.Tryz.func91.trans (congrArg some (by kernel_rfl))
 f297 := Go.Proofs.Tryz.func92.trans (congrArg some (by kernel_rfl))
 f298 := Go.Proofs.Tryz.func93.trans (congrArg some (by kernel_rfl))
 f299 := Go.Proofs.Tryz.func94.trans (congrArg some (by kernel_rfl))
 f300 := Go.Proofs.Tryz.func96.trans (congrArg some (by kernel_rfl))
 f301 := Go.Proofs.Tryz.func97.trans (congrArg some (by kernel_rfl))
 f328 := Go.Proofs.Tryz.func100.trans (congrArg some (by kernel_rfl))
 f329 := Go.Proofs.Tryz.func101.trans (congrArg some (by kernel_rfl))
 f330 := Go.Proofs.Tryz.func102.trans (congrArg some (by kernel_rfl))
 f331 := Go.Proofs.Tryz.func103.trans (congrArg some (by kernel_rfl))
 f332 := Go.Proofs.Tryz.func104.trans (congrArg some (by kernel_rfl))
 f343 := Go.Proofs.Tryz.func105.trans (congrArg some (by kernel_rfl))
 t0 := mU
 a0 := qF
 z0 := qy
 v0 := nV
 t3 := mT
 a3 := qE
 z3 := qx
 v3 := nU
 t4 := mS
 a4 := qD
 z4 := qw
 v4 := nT
 t5 := Go.Proofs.Tryz.underlying5
 a5 := Go.Proofs.Tryz.isAgg5
 z5 := Go.Proofs.Tryz.sizeOf5
 v5 := Go.Proofs.Tryz.zeroValue5
 t9 := Go.Proofs.Tryz.underlying9
 a9 := Go.Proofs.Tryz.isAgg9
 z9 := Go.Proofs.Tryz.sizeOf9
 v9 := Go.Proofs.Tryz.zeroValue9
 t28 := me
 a28 := qz
 z28 := pj
 v28 := mR
 t46 := Go.Proofs.Tryz.underlying77
 a46 := Go.Proofs.Tryz.isAgg77
 z46 := Go.Proofs.Tryz.sizeOf77
 v46 := Go.Proofs.Tryz.zeroValue77
 t51 := Go.Proofs.Tryz.underlying96
 a51 := Go.Proofs.Tryz.isAgg96
 z51 := Go.Proofs.Tryz.sizeOf96
 v51 := Go.Proofs.Tryz.zeroValue96
 t53 := Go.Proofs.Tryz.underlying53
 a53 := Go.Proofs.Tryz.isAgg53
 z53 := Go.Proofs.Tryz.sizeOf53
 v53 := Go.Proofs.Tryz.zeroValue53
 t131 := Go.Proofs.Tryz.underlying110
 a131 := Go.Proofs.Tryz.isAgg110
 z131 := Go.Proofs.Tryz.sizeOf110
 v131 := Go.Proofs.Tryz.zeroValue110
 t182 := Go.Proofs.Tryz.underlying104
 a182 := Go.Proofs.Tryz.isAgg104
 z182 := Go.Proofs.Tryz.sizeOf104
 v182 := Go.Proofs.Tryz.zeroValue104
 t183 := Go.Proofs.Tryz.underlying105
 a183 := Go.Proofs.Tryz.isAgg105
 z183 := Go.Proofs.Tryz.sizeOf105
 v183 := Go.Proofs.Tryz.zeroValue105
 t218 := Go.Proofs.Tryz.underlying113
 a218 := Go.Proofs.Tryz.isAgg113
 z218 := Go.Proofs.Tryz.sizeOf113
 v218 := Go.Proofs.Tryz.zeroValue113
 t222 := Go.Proofs.Tryz.underlying117
 a222 := Go.Proofs.Tryz.isAgg117
 z222 := Go.Proofs.Tryz.sizeOf117
 v222 := Go.Proofs.Tryz.zeroValue117
 t228 := Go.Proofs.Tryz.underlying119
 a228 := Go.Proofs.Tryz.isAgg119
 z228 := Go.Proofs.Tryz.sizeOf119
 v228 := Go.Proofs.Tryz.zeroValue119
 t229 := Go.Proofs.Tryz.underlying120
 a229 := Go.Proofs.Tryz.isAgg120
 z229 := Go.Proofs.Tryz.sizeOf120
 v229 := Go.Proofs.Tryz.zeroValue120
def Cx : wL := ⟨fun | 20 => 85 | n => n,fun | 22 => 22 | 3 => 3 | 4 => 4 | 0 => 0 | n => n,fun n => n⟩
theorem Nh : Lays2.n20 ai Cx where
 mixed := by kernel_rfl
 f20 := Vf.trans (congrArg some (by kernel_rfl))
 t0 := mU
 a0 := qF
 z0 := qy
 v0 := nV
 t3 := mT
 a3 := qE
 z3 := qx
 v3 := nU
 t4 := mS
 a4 := qD
 z4 := qw
 v4 := nT
 t22 := me
 a22 := qz
 z22 := pj
 v22 := mR
 i3 := by kernel_rfl
def Ng : wL := ⟨fun | 112 => 28 | n => n,fun | 28 => 22 | 3 => 3 | 4 => 4 | 0 => 0 | n => n,fun n => n⟩
theorem abJ : Lays.n112 ai Ng where
 mixed := by kernel_rfl
 f112 := Vi.trans (congrArg some (by kernel_rfl))
 t0 := mU
 a0 := qF
 z0 := qy
 v0 := nV
 t3 := mT
 a3 := qE
 z3 := qx
 v3 := nU
 t4 := mS
 a4 := qD
 z4 := qw
 v4 := nT
 t28 := me
 a28 := qz
 z28 := pj
 v28 := mR
def aay : wL := ⟨fun | 15 => 83 | n => n,fun | 22 => 22 | 3 => 3 | 4 => 4 | n => n,fun n => n⟩
end Go.BmP
