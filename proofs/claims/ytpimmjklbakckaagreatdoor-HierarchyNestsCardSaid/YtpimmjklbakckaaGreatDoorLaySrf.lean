/- The library's sort by a comparison lies in this program: which function and which type stands for which. -/
import Derived.Test.YtpimmjklbakckaaGreatDoorBmP
import Derived.Shelf.SlSortCmp.NoneTotal
import Derived.KernelRfl
set_option maxRecDepth 100000
open Go.Proofs.Tryz renaming func32 → VE, func53 → VC, func69 → Vz, func70 → yN, func75 → Vx, func76 → Vv, isAgg0 → ph, isAgg103 → Vs, isAgg111 → Vr, isAgg112 → Vq, isAgg3 → pg, isAgg4 → pf, isAgg5 → yM, isAgg51 → yC, isAgg64 → Vp, isAgg83 → yB, isAgg87 → Vo, isAgg88 → Vn, isAgg9 → yL, isAgg94 → yA, isAgg99 → Vm, prog → aj, sizeOf0 → n9, sizeOf103 → Vl, sizeOf111 → Vk, sizeOf112 → Vj, sizeOf3 → nZ, sizeOf4 → nY, sizeOf5 → yz, sizeOf51 → xD, sizeOf64 → Vi, sizeOf83 → xC, sizeOf87 → Vh, sizeOf88 → Vg, sizeOf9 → yy, sizeOf94 → xB, sizeOf99 → Vf, underlying0 → lM, underlying103 → Ve, underlying111 → Vd, underlying112 → Vc, underlying3 → lK, underlying4 → lJ, underlying5 → vK, underlying51 → uE, underlying64 → Vb, underlying83 → uD, underlying87 → Va, underlying88 → U9, underlying9 → vJ, underlying94 → uC, underlying99 → U8, zeroValue0 → lS, zeroValue103 → U7, zeroValue111 → U6, zeroValue112 → U5, zeroValue3 → lR, zeroValue4 → lQ, zeroValue5 → vS, zeroValue51 → vI, zeroValue64 → U4, zeroValue83 → vH, zeroValue87 → U0, zeroValue88 → UZ, zeroValue9 → vR, zeroValue94 → vG, zeroValue99 → UY
open Go.Shelf renaming Ren → vY
namespace Go.BmP
open Go.Shelf Go.Proofs
def Nj:vY:=⟨fun|6=>32|15=>53|14=>52|28=>69|29=>70|20=>61|21=>62|22=>63|23=>64|24=>65|25=>66|26=>67|27=>68|46=>74|47=>75|48=>76|49=>77|50=>78|57=>86|n=>n,fun|22=>29|24=>36|25=>69|3=>3|39=>83|0=>0|53=>94|55=>51|4=>4|46=>88|45=>87|50=>64|5=>5|9=>9|66=>99|70=>103|76=>111|77=>112|n=>n,fun n=>n⟩
theorem abF:SlLaysF0.n6 aj Nj where
 mixed:=by kernel_rfl
 f6 := ⟨"slices.SortFunc[[]cohesion/api.Part,cohesion/api.Part]", of_decide_eq_true (by kernel_rfl), VE.trans (congrArg some (by kernel_rfl))⟩
 f14 := ⟨"slices.pdqsortCmpFunc[cohesion/api.Part]", of_decide_eq_true (by kernel_rfl), Go.Proofs.Tryz.func52.trans (congrArg some (by kernel_rfl))⟩
 f15:=VC.trans (congrArg some (by kernel_rfl))
 f20 := ⟨"slices.insertionSortCmpFunc[cohesion/api.Part]", of_decide_eq_true (by kernel_rfl), Go.Proofs.Tryz.func61.trans (congrArg some (by kernel_rfl))⟩
 f21 := ⟨"slices.heapSortCmpFunc[cohesion/api.Part]", of_decide_eq_true (by kernel_rfl), Go.Proofs.Tryz.func62.trans (congrArg some (by kernel_rfl))⟩
 f22 := ⟨"slices.breakPatternsCmpFunc[cohesion/api.Part]", of_decide_eq_true (by kernel_rfl), Go.Proofs.Tryz.func63.trans (congrArg some (by kernel_rfl))⟩
 f23 := ⟨"slices.choosePivotCmpFunc[cohesion/api.Part]", of_decide_eq_true (by kernel_rfl), Go.Proofs.Tryz.func64.trans (congrArg some (by kernel_rfl))⟩
 f24 := ⟨"slices.reverseRangeCmpFunc[cohesion/api.Part]", of_decide_eq_true (by kernel_rfl), Go.Proofs.Tryz.func65.trans (congrArg some (by kernel_rfl))⟩
 f25 := ⟨"slices.partialInsertionSortCmpFunc[cohesion/api.Part]", of_decide_eq_true (by kernel_rfl), Go.Proofs.Tryz.func66.trans (congrArg some (by kernel_rfl))⟩
 f26 := ⟨"slices.partitionEqualCmpFunc[cohesion/api.Part]", of_decide_eq_true (by kernel_rfl), Go.Proofs.Tryz.func67.trans (congrArg some (by kernel_rfl))⟩
 f27 := ⟨"slices.partitionCmpFunc[cohesion/api.Part]", of_decide_eq_true (by kernel_rfl), Go.Proofs.Tryz.func68.trans (congrArg some (by kernel_rfl))⟩
 f28:=Vz.trans (congrArg some (by kernel_rfl))
 f29:=yN.trans (congrArg some (by kernel_rfl))
 f46 := ⟨"slices.siftDownCmpFunc[cohesion/api.Part]", of_decide_eq_true (by kernel_rfl), Go.Proofs.Tryz.func74.trans (congrArg some (by kernel_rfl))⟩
 f47:=Vx.trans (congrArg some (by kernel_rfl))
 f48:=Vv.trans (congrArg some (by kernel_rfl))
 f49 := ⟨"slices.medianAdjacentCmpFunc[cohesion/api.Part]", of_decide_eq_true (by kernel_rfl), Go.Proofs.Tryz.func77.trans (congrArg some (by kernel_rfl))⟩
 f50 := ⟨"slices.medianCmpFunc[cohesion/api.Part]", of_decide_eq_true (by kernel_rfl), Go.Proofs.Tryz.func78.trans (congrArg some (by kernel_rfl))⟩
 f57 := ⟨"slices.order2CmpFunc[cohesion/api.Part]", of_decide_eq_true (by kernel_rfl), Go.Proofs.Tryz.func86.trans (congrArg some (by kernel_rfl))⟩
 t0:=lM
 a0:=ph
 z0:=n9
 v0:=lS
 t3:=lK
 a3:=pg
 z3:=nZ
 v3:=lR
 t4:=lJ
 a4:=pf
 z4:=nY
 v4:=lQ
 t5:=vK
 a5:=yM
 z5:=yz
 v5:=vS
 t9:=vJ
 a9:=yL
 z9:=yy
 v9:=vR
 t22:=Go.Proofs.Tryz.underlying29
 a22:=Go.Proofs.Tryz.isAgg29
 z22:=Go.Proofs.Tryz.sizeOf29
 v22:=Go.Proofs.Tryz.zeroValue29
 t25:=Go.Proofs.Tryz.underlying69
 a25:=Go.Proofs.Tryz.isAgg69
 z25:=Go.Proofs.Tryz.sizeOf69
 v25:=Go.Proofs.Tryz.zeroValue69
 t39:=uD
 a39:=yB
 z39:=xC
 v39:=vH
 t45:=Va
 a45:=Vo
 z45:=Vh
 v45:=U0
 t46:=U9
 a46:=Vn
 z46:=Vg
 v46:=UZ
 t50:=Vb
 a50:=Vp
 z50:=Vi
 v50:=U4
 t53:=uC
 a53:=yA
 z53:=xB
 v53:=vG
 t55:=uE
 a55:=yC
 z55:=xD
 v55:=vI
 t66:=U8
 a66:=Vm
 z66:=Vf
 v66:=UY
 t70:=Ve
 a70:=Vs
 z70:=Vl
 v70:=U7
 t76:=Vd
 a76:=Vr
 z76:=Vk
 v76:=U6
 t77:=Vc
 a77:=Vq
 z77:=Vj
 v77:=U5
end Go.BmP
