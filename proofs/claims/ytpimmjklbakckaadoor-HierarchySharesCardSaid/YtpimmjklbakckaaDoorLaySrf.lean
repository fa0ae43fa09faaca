/- The library's sort by a comparison lies in this program: which function and which type stands for which. -/
import Derived.Test.YtpimmjklbakckaaDoorBmP
import Derived.Shelf.SlSortCmp.NoneTotal
import Derived.KernelRfl
set_option maxRecDepth 100000
open Go.Proofs.Tryd renaming func30 → S6, func48 → S4, func64 → SY, func65 → xH, func70 → SV, func71 → SU, isAgg0 → pd, isAgg101 → SQ, isAgg109 → SP, isAgg110 → SO, isAgg3 → o9, isAgg4 → o8, isAgg49 → xt, isAgg5 → xG, isAgg64 → SN, isAgg81 → xq, isAgg85 → SM, isAgg86 → SL, isAgg9 → xF, isAgg92 → xp, isAgg97 → SK, prog → ak, sizeOf0 → nX, sizeOf101 → SJ, sizeOf109 → SI, sizeOf110 → SH, sizeOf3 → nW, sizeOf4 → nV, sizeOf49 → wB, sizeOf5 → xn, sizeOf64 → SG, sizeOf81 → wA, sizeOf85 → SF, sizeOf86 → SE, sizeOf9 → xm, sizeOf92 → wz, sizeOf97 → SD, underlying0 → lP, underlying101 → SC, underlying109 → SA, underlying110 → Sz, underlying3 → lN, underlying4 → lM, underlying49 → uc, underlying5 → uR, underlying64 → Sy, underlying81 → ub, underlying85 → Sx, underlying86 → Sw, underlying9 → uQ, underlying92 → ua, underlying97 → Sv, zeroValue0 → lU, zeroValue101 → Su, zeroValue109 → Ss, zeroValue110 → Sr, zeroValue3 → lT, zeroValue4 → lS, zeroValue49 → uP, zeroValue5 → uZ, zeroValue64 → Sq, zeroValue81 → uO, zeroValue85 → Sp, zeroValue86 → Sn, zeroValue9 → uY, zeroValue92 → uM, zeroValue97 → Sm
open Go.Shelf renaming Ren → u6
namespace Go.BmP
open Go.Shelf Go.Proofs
def KW:u6:=⟨fun|6=>30|15=>48|14=>47|28=>64|29=>65|20=>56|21=>57|22=>58|23=>59|24=>60|25=>61|26=>62|27=>63|46=>69|47=>70|48=>71|49=>72|50=>73|57=>81|n=>n,fun|22=>29|24=>54|25=>69|3=>3|39=>81|0=>0|53=>92|55=>49|4=>4|46=>86|45=>85|50=>64|5=>5|9=>9|66=>97|70=>101|76=>109|77=>110|n=>n,fun n=>n⟩
theorem Zx:SlLaysF0.n6 ak KW where
 mixed:=by kernel_rfl
 f6 := ⟨"slices.SortFunc[[]cohesion/api.Part,cohesion/api.Part]", of_decide_eq_true (by kernel_rfl), S6.trans (congrArg some (by kernel_rfl))⟩
 f14 := ⟨"slices.pdqsortCmpFunc[cohesion/api.Part]", of_decide_eq_true (by kernel_rfl), Go.Proofs.Tryd.func47.trans (congrArg some (by kernel_rfl))⟩
 f15:=S4.trans (congrArg some (by kernel_rfl))
 f20 := ⟨"slices.insertionSortCmpFunc[cohesion/api.Part]", of_decide_eq_true (by kernel_rfl), Go.Proofs.Tryd.func56.trans (congrArg some (by kernel_rfl))⟩
 f21 := ⟨"slices.heapSortCmpFunc[cohesion/api.Part]", of_decide_eq_true (by kernel_rfl), Go.Proofs.Tryd.func57.trans (congrArg some (by kernel_rfl))⟩
 f22 := ⟨"slices.breakPatternsCmpFunc[cohesion/api.Part]", of_decide_eq_true (by kernel_rfl), Go.Proofs.Tryd.func58.trans (congrArg some (by kernel_rfl))⟩
 f23 := ⟨"slices.choosePivotCmpFunc[cohesion/api.Part]", of_decide_eq_true (by kernel_rfl), Go.Proofs.Tryd.func59.trans (congrArg some (by kernel_rfl))⟩
 f24 := ⟨"slices.reverseRangeCmpFunc[cohesion/api.Part]", of_decide_eq_true (by kernel_rfl), Go.Proofs.Tryd.func60.trans (congrArg some (by kernel_rfl))⟩
 f25 := ⟨"slices.partialInsertionSortCmpFunc[cohesion/api.Part]", of_decide_eq_true (by kernel_rfl), Go.Proofs.Tryd.func61.trans (congrArg some (by kernel_rfl))⟩
 f26 := ⟨"slices.partitionEqualCmpFunc[cohesion/api.Part]", of_decide_eq_true (by kernel_rfl), Go.Proofs.Tryd.func62.trans (congrArg some (by kernel_rfl))⟩
 f27 := ⟨"slices.partitionCmpFunc[cohesion/api.Part]", of_decide_eq_true (by kernel_rfl), Go.Proofs.Tryd.func63.trans (congrArg some (by kernel_rfl))⟩
 f28:=SY.trans (congrArg some (by kernel_rfl))
 f29:=xH.trans (congrArg some (by kernel_rfl))
 f46 := ⟨"slices.siftDownCmpFunc[cohesion/api.Part]", of_decide_eq_true (by kernel_rfl), Go.Proofs.Tryd.func69.trans (congrArg some (by kernel_rfl))⟩
 f47:=SV.trans (congrArg some (by kernel_rfl))
 f48:=SU.trans (congrArg some (by kernel_rfl))
 f49 := ⟨"slices.medianAdjacentCmpFunc[cohesion/api.Part]", of_decide_eq_true (by kernel_rfl), Go.Proofs.Tryd.func72.trans (congrArg some (by kernel_rfl))⟩
 f50 := ⟨"slices.medianCmpFunc[cohesion/api.Part]", of_decide_eq_true (by kernel_rfl), Go.Proofs.Tryd.func73.trans (congrArg some (by kernel_rfl))⟩
 f57 := ⟨"slices.order2CmpFunc[cohesion/api.Part]", of_decide_eq_true (by kernel_rfl), Go.Proofs.Tryd.func81.trans (congrArg some (by kernel_rfl))⟩
 t0:=lP
 a0:=pd
 z0:=nX
 v0:=lU
 t3:=lN
 a3:=o9
 z3:=nW
 v3:=lT
 t4:=lM
 a4:=o8
 z4:=nV
 v4:=lS
 t5:=uR
 a5:=xG
 z5:=xn
 v5:=uZ
 t9:=uQ
 a9:=xF
 z9:=xm
 v9:=uY
 t22:=Go.Proofs.Tryd.underlying29
 a22:=Go.Proofs.Tryd.isAgg29
 z22:=Go.Proofs.Tryd.sizeOf29
 v22:=Go.Proofs.Tryd.zeroValue29
 t25:=Go.Proofs.Tryd.underlying69
 a25:=Go.Proofs.Tryd.isAgg69
 z25:=Go.Proofs.Tryd.sizeOf69
 v25:=Go.Proofs.Tryd.zeroValue69
 t39:=ub
 a39:=xq
 z39:=wA
 v39:=uO
 t45:=Sx
 a45:=SM
 z45:=SF
 v45:=Sp
 t46:=Sw
 a46:=SL
 z46:=SE
 v46:=Sn
 t50:=Sy
 a50:=SN
 z50:=SG
 v50:=Sq
 t53:=ua
 a53:=xp
 z53:=wz
 v53:=uM
 t55:=uc
 a55:=xt
 z55:=wB
 v55:=uP
 t66:=Sv
 a66:=SK
 z66:=SD
 v66:=Sm
 t70:=SC
 a70:=SQ
 z70:=SJ
 v70:=Su
 t76:=SA
 a76:=SP
 z76:=SI
 v76:=Ss
 t77:=Sz
 a77:=SO
 z77:=SH
 v77:=Sr
end Go.BmP
