/- The library's sort by a comparison lies in this program: which function and which type stands for which. -/
import Derived.Test.YtbnheahpdodmjaaGreatDoorBmP
import Derived.Shelf.SlSortCmp.NoneTotal
import Derived.KernelRfl
set_option maxRecDepth 100000
open Go.Proofs.Tryz renaming func89 → BC, isAgg0 → qX, isAgg110 → Ax, isAgg3 → qW, isAgg4 → qV, isAgg5 → BB, isAgg66 → Bo, isAgg9 → BA, isAgg98 → Bn, prog → aj, sizeOf0 → qo, sizeOf110 → yK, sizeOf3 → ql, sizeOf4 → qk, sizeOf5 → Bl, sizeOf66 → Aw, sizeOf9 → Bk, sizeOf98 → Av, underlying0 → od, underlying110 → wj, underlying3 → ob, underlying4 → oa, underlying5 → yq, underlying66 → xt, underlying9 → yp, underlying98 → xq, zeroValue0 → oA, zeroValue110 → xp, zeroValue3 → ox, zeroValue4 → ot, zeroValue5 → yD, zeroValue66 → yn, zeroValue9 → yC, zeroValue98 → ym
open Go.Shelf renaming Ren → yJ
namespace Go.BmP
open Go.Shelf Go.Proofs
def S4:yJ:=⟨fun|6=>51|15=>71|14=>70|28=>88|29=>89|20=>80|21=>81|22=>82|23=>83|24=>84|25=>85|26=>86|27=>87|46=>93|47=>94|48=>95|49=>96|50=>97|57=>105|n=>n,fun|22=>22|24=>36|25=>85|3=>3|39=>98|0=>0|53=>110|55=>66|4=>4|46=>104|45=>103|50=>81|5=>5|9=>9|66=>115|70=>119|76=>127|77=>128|n=>n,fun n=>n⟩
theorem ag9:SlLaysF0.n6 aj S4 where
 mixed:=by kernel_rfl
 f6 := ⟨"slices.SortFunc[[]cohesion/api.Part,cohesion/api.Part]", of_decide_eq_true (by kernel_rfl), Go.Proofs.Tryz.func51.trans (congrArg some (by kernel_rfl))⟩
 f14 := ⟨"slices.pdqsortCmpFunc[cohesion/api.Part]", of_decide_eq_true (by kernel_rfl), Go.Proofs.Tryz.func70.trans (congrArg some (by kernel_rfl))⟩
 f15:=Go.Proofs.Tryz.func71.trans (congrArg some (by kernel_rfl))
 f20 := ⟨"slices.insertionSortCmpFunc[cohesion/api.Part]", of_decide_eq_true (by kernel_rfl), Go.Proofs.Tryz.func80.trans (congrArg some (by kernel_rfl))⟩
 f21 := ⟨"slices.heapSortCmpFunc[cohesion/api.Part]", of_decide_eq_true (by kernel_rfl), Go.Proofs.Tryz.func81.trans (congrArg some (by kernel_rfl))⟩
 f22 := ⟨"slices.breakPatternsCmpFunc[cohesion/api.Part]", of_decide_eq_true (by kernel_rfl), Go.Proofs.Tryz.func82.trans (congrArg some (by kernel_rfl))⟩
 f23 := ⟨"slices.choosePivotCmpFunc[cohesion/api.Part]", of_decide_eq_true (by kernel_rfl), Go.Proofs.Tryz.func83.trans (congrArg some (by kernel_rfl))⟩
 f24 := ⟨"slices.reverseRangeCmpFunc[cohesion/api.Part]", of_decide_eq_true (by kernel_rfl), Go.Proofs.Tryz.func84.trans (congrArg some (by kernel_rfl))⟩
 f25 := ⟨"slices.partialInsertionSortCmpFunc[cohesion/api.Part]", of_decide_eq_true (by kernel_rfl), Go.Proofs.Tryz.func85.trans (congrArg some (by kernel_rfl))⟩
 f26 := ⟨"slices.partitionEqualCmpFunc[cohesion/api.Part]", of_decide_eq_true (by kernel_rfl), Go.Proofs.Tryz.func86.trans (congrArg some (by kernel_rfl))⟩
 f27 := ⟨"slices.partitionCmpFunc[cohesion/api.Part]", of_decide_eq_true (by kernel_rfl), Go.Proofs.Tryz.func87.trans (congrArg some (by kernel_rfl))⟩
 f28:=Go.Proofs.Tryz.func88.trans (congrArg some (by kernel_rfl))
 f29:=BC.trans (congrArg some (by kernel_rfl))
 f46 := ⟨"slices.siftDownCmpFunc[cohesion/api.Part]", of_decide_eq_true (by kernel_rfl), Go.Proofs.Tryz.func93.trans (congrArg some (by kernel_rfl))⟩
 f47:=Go.Proofs.Tryz.func94.trans (congrArg some (by kernel_rfl))
 f48:=Go.Proofs.Tryz.func95.trans (congrArg some (by kernel_rfl))
 f49 := ⟨"slices.medianAdjacentCmpFunc[cohesion/api.Part]", of_decide_eq_true (by kernel_rfl), Go.Proofs.Tryz.func96.trans (congrArg some (by kernel_rfl))⟩
 f50 := ⟨"slices.medianCmpFunc[cohesion/api.Part]", of_decide_eq_true (by kernel_rfl), Go.Proofs.Tryz.func97.trans (congrArg some (by kernel_rfl))⟩
 f57 := ⟨"slices.order2CmpFunc[cohesion/api.Part]", of_decide_eq_true (by kernel_rfl), Go.Proofs.Tryz.func105.trans (congrArg some (by kernel_rfl))⟩
 t0:=od
 a0:=qX
 z0:=qo
 v0:=oA
 t3:=ob
 a3:=qW
 z3:=ql
 v3:=ox
 t4:=oa
 a4:=qV
 z4:=qk
 v4:=ot
 t5:=yq
 a5:=BB
 z5:=Bl
 v5:=yD
 t9:=yp
 a9:=BA
 z9:=Bk
 v9:=yC
 t22:=Go.Proofs.Tryz.underlying22
 a22:=Go.Proofs.Tryz.isAgg22
 z22:=Go.Proofs.Tryz.sizeOf22
 v22:=Go.Proofs.Tryz.zeroValue22
 t25:=Go.Proofs.Tryz.underlying85
 a25:=Go.Proofs.Tryz.isAgg85
 z25:=Go.Proofs.Tryz.sizeOf85
 v25:=Go.Proofs.Tryz.zeroValue85
 t39:=xq
 a39:=Bn
 z39:=Av
 v39:=ym
 t45:=Go.Proofs.Tryz.underlying103
 a45:=Go.Proofs.Tryz.isAgg103
 z45:=Go.Proofs.Tryz.sizeOf103
 v45:=Go.Proofs.Tryz.zeroValue103
 t46:=Go.Proofs.Tryz.underlying104
 a46:=Go.Proofs.Tryz.isAgg104
 z46:=Go.Proofs.Tryz.sizeOf104
 v46:=Go.Proofs.Tryz.zeroValue104
 t50:=Go.Proofs.Tryz.underlying81
 a50:=Go.Proofs.Tryz.isAgg81
 z50:=Go.Proofs.Tryz.sizeOf81
 v50:=Go.Proofs.Tryz.zeroValue81
 t53:=wj
 a53:=Ax
 z53:=yK
 v53:=xp
 t55:=xt
 a55:=Bo
 z55:=Aw
 v55:=yn
 t66:=Go.Proofs.Tryz.underlying115
 a66:=Go.Proofs.Tryz.isAgg115
 z66:=Go.Proofs.Tryz.sizeOf115
 v66:=Go.Proofs.Tryz.zeroValue115
 t70:=Go.Proofs.Tryz.underlying119
 a70:=Go.Proofs.Tryz.isAgg119
 z70:=Go.Proofs.Tryz.sizeOf119
 v70:=Go.Proofs.Tryz.zeroValue119
 t76:=Go.Proofs.Tryz.underlying127
 a76:=Go.Proofs.Tryz.isAgg127
 z76:=Go.Proofs.Tryz.sizeOf127
 v76:=Go.Proofs.Tryz.zeroValue127
 t77:=Go.Proofs.Tryz.underlying128
 a77:=Go.Proofs.Tryz.isAgg128
 z77:=Go.Proofs.Tryz.sizeOf128
 v77:=Go.Proofs.Tryz.zeroValue128
end Go.BmP
