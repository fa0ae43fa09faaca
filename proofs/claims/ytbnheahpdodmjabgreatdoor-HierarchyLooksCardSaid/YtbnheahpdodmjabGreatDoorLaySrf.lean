/- The library's sort by a comparison lies in this program: which function and which type stands for which. -/
import Derived.Test.YtbnheahpdodmjabGreatDoorBmP
import Derived.Shelf.SlSortCmp.NoneTotal
import Derived.KernelRfl
set_option maxRecDepth 100000
open Go.Proofs.Tryz renaming func96 → BX, isAgg0 → rM, isAgg103 → AY, isAgg114 → AX, isAgg3 → rL, isAgg4 → rK, isAgg5 → BW, isAgg72 → BL, isAgg9 → BV, prog → ak, sizeOf0 → qO, sizeOf103 → zj, sizeOf114 → zi, sizeOf3 → qN, sizeOf4 → qM, sizeOf5 → BK, sizeOf72 → AW, sizeOf9 → BJ, underlying0 → oR, underlying103 → wU, underlying114 → wT, underlying3 → oQ, underlying4 → oP, underlying5 → yQ, underlying72 → xV, underlying9 → yP, zeroValue0 → oY, zeroValue103 → xU, zeroValue114 → xT, zeroValue3 → oX, zeroValue4 → oW, zeroValue5 → yZ, zeroValue72 → yO, zeroValue9 → yY
open Go.Shelf renaming Ren → zh
namespace Go.BmP
open Go.Shelf Go.Proofs
def Uz:zh:=⟨fun|6=>57|15=>79|14=>78|28=>95|29=>96|20=>87|21=>88|22=>89|23=>90|24=>91|25=>92|26=>93|27=>94|46=>100|47=>101|48=>102|49=>103|50=>104|57=>112|n=>n,fun|22=>22|24=>26|25=>89|3=>3|39=>103|0=>0|53=>114|55=>72|4=>4|46=>108|45=>107|50=>85|5=>5|9=>9|66=>119|70=>123|76=>131|77=>132|n=>n,fun n=>n⟩
theorem aiL:SlLaysF0.n6 ak Uz where
 mixed:=by kernel_rfl
 f6 := ⟨"slices.SortFunc[[]cohesion/api.Part,cohesion/api.Part]", of_decide_eq_true (by kernel_rfl), Go.Proofs.Tryz.func57.trans (congrArg some (by kernel_rfl))⟩
 f14 := ⟨"slices.pdqsortCmpFunc[cohesion/api.Part]", of_decide_eq_true (by kernel_rfl), Go.Proofs.Tryz.func78.trans (congrArg some (by kernel_rfl))⟩
 f15:=Go.Proofs.Tryz.func79.trans (congrArg some (by kernel_rfl))
 f20 := ⟨"slices.insertionSortCmpFunc[cohesion/api.Part]", of_decide_eq_true (by kernel_rfl), Go.Proofs.Tryz.func87.trans (congrArg some (by kernel_rfl))⟩
 f21 := ⟨"slices.heapSortCmpFunc[cohesion/api.Part]", of_decide_eq_true (by kernel_rfl), Go.Proofs.Tryz.func88.trans (congrArg some (by kernel_rfl))⟩
 f22 := ⟨"slices.breakPatternsCmpFunc[cohesion/api.Part]", of_decide_eq_true (by kernel_rfl), Go.Proofs.Tryz.func89.trans (congrArg some (by kernel_rfl))⟩
 f23 := ⟨"slices.choosePivotCmpFunc[cohesion/api.Part]", of_decide_eq_true (by kernel_rfl), Go.Proofs.Tryz.func90.trans (congrArg some (by kernel_rfl))⟩
 f24 := ⟨"slices.reverseRangeCmpFunc[cohesion/api.Part]", of_decide_eq_true (by kernel_rfl), Go.Proofs.Tryz.func91.trans (congrArg some (by kernel_rfl))⟩
 f25 := ⟨"slices.partialInsertionSortCmpFunc[cohesion/api.Part]", of_decide_eq_true (by kernel_rfl), Go.Proofs.Tryz.func92.trans (congrArg some (by kernel_rfl))⟩
 f26 := ⟨"slices.partitionEqualCmpFunc[cohesion/api.Part]", of_decide_eq_true (by kernel_rfl), Go.Proofs.Tryz.func93.trans (congrArg some (by kernel_rfl))⟩
 f27 := ⟨"slices.partitionCmpFunc[cohesion/api.Part]", of_decide_eq_true (by kernel_rfl), Go.Proofs.Tryz.func94.trans (congrArg some (by kernel_rfl))⟩
 f28:=Go.Proofs.Tryz.func95.trans (congrArg some (by kernel_rfl))
 f29:=BX.trans (congrArg some (by kernel_rfl))
 f46 := ⟨"slices.siftDownCmpFunc[cohesion/api.Part]", of_decide_eq_true (by kernel_rfl), Go.Proofs.Tryz.func100.trans (congrArg some (by kernel_rfl))⟩
 f47:=Go.Proofs.Tryz.func101.trans (congrArg some (by kernel_rfl))
 f48:=Go.Proofs.Tryz.func102.trans (congrArg some (by kernel_rfl))
 f49 := ⟨"slices.medianAdjacentCmpFunc[cohesion/api.Part]", of_decide_eq_true (by kernel_rfl), Go.Proofs.Tryz.func103.trans (congrArg some (by kernel_rfl))⟩
 f50 := ⟨"slices.medianCmpFunc[cohesion/api.Part]", of_decide_eq_true (by kernel_rfl), Go.Proofs.Tryz.func104.trans (congrArg some (by kernel_rfl))⟩
 f57 := ⟨"slices.order2CmpFunc[cohesion/api.Part]", of_decide_eq_true (by kernel_rfl), Go.Proofs.Tryz.func112.trans (congrArg some (by kernel_rfl))⟩
 t0:=oR
 a0:=rM
 z0:=qO
 v0:=oY
 t3:=oQ
 a3:=rL
 z3:=qN
 v3:=oX
 t4:=oP
 a4:=rK
 z4:=qM
 v4:=oW
 t5:=yQ
 a5:=BW
 z5:=BK
 v5:=yZ
 t9:=yP
 a9:=BV
 z9:=BJ
 v9:=yY
 t22:=Go.Proofs.Tryz.underlying22
 a22:=Go.Proofs.Tryz.isAgg22
 z22:=Go.Proofs.Tryz.sizeOf22
 v22:=Go.Proofs.Tryz.zeroValue22
 t25:=Go.Proofs.Tryz.underlying89
 a25:=Go.Proofs.Tryz.isAgg89
 z25:=Go.Proofs.Tryz.sizeOf89
 v25:=Go.Proofs.Tryz.zeroValue89
 t39:=wU
 a39:=AY
 z39:=zj
 v39:=xU
 t45:=Go.Proofs.Tryz.underlying107
 a45:=Go.Proofs.Tryz.isAgg107
 z45:=Go.Proofs.Tryz.sizeOf107
 v45:=Go.Proofs.Tryz.zeroValue107
 t46:=Go.Proofs.Tryz.underlying108
 a46:=Go.Proofs.Tryz.isAgg108
 z46:=Go.Proofs.Tryz.sizeOf108
 v46:=Go.Proofs.Tryz.zeroValue108
 t50:=Go.Proofs.Tryz.underlying85
 a50:=Go.Proofs.Tryz.isAgg85
 z50:=Go.Proofs.Tryz.sizeOf85
 v50:=Go.Proofs.Tryz.zeroValue85
 t53:=wT
 a53:=AX
 z53:=zi
 v53:=xT
 t55:=xV
 a55:=BL
 z55:=AW
 v55:=yO
 t66:=Go.Proofs.Tryz.underlying119
 a66:=Go.Proofs.Tryz.isAgg119
 z66:=Go.Proofs.Tryz.sizeOf119
 v66:=Go.Proofs.Tryz.zeroValue119
 t70:=Go.Proofs.Tryz.underlying123
 a70:=Go.Proofs.Tryz.isAgg123
 z70:=Go.Proofs.Tryz.sizeOf123
 v70:=Go.Proofs.Tryz.zeroValue123
 t76:=Go.Proofs.Tryz.underlying131
 a76:=Go.Proofs.Tryz.isAgg131
 z76:=Go.Proofs.Tryz.sizeOf131
 v76:=Go.Proofs.Tryz.zeroValue131
 t77:=Go.Proofs.Tryz.underlying132
 a77:=Go.Proofs.Tryz.isAgg132
 z77:=Go.Proofs.Tryz.sizeOf132
 v77:=Go.Proofs.Tryz.zeroValue132
end Go.BmP
