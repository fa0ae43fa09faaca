/- The library's sort by a comparison lies in this program: which function and which type stands for which. -/
import Derived.Test.YtkhnplbbngkjkaaGreatBmP
import Derived.Shelf.SlSortCmp.NoneTotal
import Derived.KernelRfl
import Derived.Shelf.SlicesE.DeleteFunc
import Derived.Ground.SlgfProg
set_option maxRecDepth 100000
namespace Go.BmP
open Go.Shelf Go.Proofs
def laysSrf_ren : Go.Shelf.Ren := ⟨fun | 6 => 38 | 15 => 53 | 14 => 57 | 28 => 71 | 29 => 72 | 20 => 74 | 21 => 75 | 22 => 76 | 23 => 77 | 24 => 78 | 25 => 79 | 26 => 80 | 27 => 81 | 46 => 91 | 47 => 87 | 48 => 88 | 49 => 92 | 50 => 93 | 57 => 96 | n => n, fun | 22 => 69 | 24 => 71 | 25 => 73 | 3 => 3 | 39 => 81 | 0 => 0 | 53 => 100 | 55 => 84 | 4 => 4 | 46 => 93 | 45 => 92 | 50 => 97 | 5 => 5 | 9 => 9 | 66 => 108 | 70 => 112 | 76 => 117 | 77 => 118 | n => n, fun n => n⟩
theorem laysSrf : SlLaysF0.n6 Go.Proofs.Tryz.prog laysSrf_ren where
 mixed := by kernel_rfl
 f6 := ⟨"slices.SortFunc[[]cohesion/partition.part,cohesion/partition.part]", of_decide_eq_true (by kernel_rfl), Go.Proofs.Tryz.func38.trans (congrArg some (by kernel_rfl))⟩
 f14 := ⟨"slices.pdqsortCmpFunc[cohesion/partition.part]", of_decide_eq_true (by kernel_rfl), Go.Proofs.Tryz.func57.trans (congrArg some (by kernel_rfl))⟩
 f15 := Go.Proofs.Tryz.func53.trans (congrArg some (by kernel_rfl))
 f20 := ⟨"slices.insertionSortCmpFunc[cohesion/partition.part]", of_decide_eq_true (by kernel_rfl), Go.Proofs.Tryz.func74.trans (congrArg some (by kernel_rfl))⟩
 f21 := ⟨"slices.heapSortCmpFunc[cohesion/partition.part]", of_decide_eq_true (by kernel_rfl), Go.Proofs.Tryz.func75.trans (congrArg some (by kernel_rfl))⟩
 f22 := ⟨"slices.breakPatternsCmpFunc[cohesion/partition.part]", of_decide_eq_true (by kernel_rfl), Go.Proofs.Tryz.func76.trans (congrArg some (by kernel_rfl))⟩
 f23 := ⟨"slices.choosePivotCmpFunc[cohesion/partition.part]", of_decide_eq_true (by kernel_rfl), Go.Proofs.Tryz.func77.trans (congrArg some (by kernel_rfl))⟩
 f24 := ⟨"slices.reverseRangeCmpFunc[cohesion/partition.part]", of_decide_eq_true (by kernel_rfl), Go.Proofs.Tryz.func78.trans (congrArg some (by kernel_rfl))⟩
 f25 := ⟨"slices.partialInsertionSortCmpFunc[cohesion/partition.part]", of_decide_eq_true (by kernel_rfl), Go.Proofs.Tryz.func79.trans (congrArg some (by kernel_rfl))⟩
 f26 := ⟨"slices.partitionEqualCmpFunc[cohesion/partition.part]", of_decide_eq_true (by kernel_rfl), Go.Proofs.Tryz.func80.trans (congrArg some (by kernel_rfl))⟩
 f27 := ⟨"slices.partitionCmpFunc[cohesion/partition.part]", of_decide_eq_true (by kernel_rfl), Go.Proofs.Tryz.func81.trans (congrArg some (by kernel_rfl))⟩
 f28 := Go.Proofs.Tryz.func71.trans (congrArg some (by kernel_rfl))
 f29 := Go.Proofs.Tryz.func72.trans (congrArg some (by kernel_rfl))
 f46 := ⟨"slices.siftDownCmpFunc[cohesion/partition.part]", of_decide_eq_true (by kernel_rfl), Go.Proofs.Tryz.func91.trans (congrArg some (by kernel_rfl))⟩
 f47 := Go.Proofs.Tryz.func87.trans (congrArg some (by kernel_rfl))
 f48 := Go.Proofs.Tryz.func88.trans (congrArg some (by kernel_rfl))
 f49 := ⟨"slices.medianAdjacentCmpFunc[cohesion/partition.part]", of_decide_eq_true (by kernel_rfl), Go.Proofs.Tryz.func92.trans (congrArg some (by kernel_rfl))⟩
 f50 := ⟨"slices.medianCmpFunc[cohesion/partition.part]", of_decide_eq_true (by kernel_rfl), Go.Proofs.Tryz.func93.trans (congrArg some (by kernel_rfl))⟩
 f57 := ⟨"slices.order2CmpFunc[cohesion/partition.part]", of_decide_eq_true (by kernel_rfl), Go.Proofs.Tryz.func96.trans (congrArg some (by kernel_rfl))⟩
 t0 := Go.Proofs.Tryz.underlying0
 a0 := Go.Proofs.Tryz.isAgg0
 z0 := Go.Proofs.Tryz.sizeOf0
 v0 := Go.Proofs.Tryz.zeroValue0
 t3 := Go.Proofs.Tryz.underlying3
 a3 := Go.Proofs.Tryz.isAgg3
 z3 := Go.Proofs.Tryz.sizeOf3
 v3 := Go.Proofs.Tryz.zeroValue3
 t4 := Go.Proofs.Tryz.underlying4
 a4 := Go.Proofs.Tryz.isAgg4
 z4 := Go.Proofs.Tryz.sizeOf4
 v4 := Go.Proofs.Tryz.zeroValue4
 t5 := Go.Proofs.Tryz.underlying5
 a5 := Go.Proofs.Tryz.isAgg5
 z5 := Go.Proofs.Tryz.sizeOf5
 v5 := Go.Proofs.Tryz.zeroValue5
 t9 := Go.Proofs.Tryz.underlying9
 a9 := Go.Proofs.Tryz.isAgg9
 z9 := Go.Proofs.Tryz.sizeOf9
 v9 := Go.Proofs.Tryz.zeroValue9
 t22 := Go.Proofs.Tryz.underlying69
 a22 := Go.Proofs.Tryz.isAgg69
 z22 := Go.Proofs.Tryz.sizeOf69
 v22 := Go.Proofs.Tryz.zeroValue69
 t25 := Go.Proofs.Tryz.underlying73
 a25 := Go.Proofs.Tryz.isAgg73
 z25 := Go.Proofs.Tryz.sizeOf73
 v25 := Go.Proofs.Tryz.zeroValue73
 t39 := Go.Proofs.Tryz.underlying81
 a39 := Go.Proofs.Tryz.isAgg81
 z39 := Go.Proofs.Tryz.sizeOf81
 v39 := Go.Proofs.Tryz.zeroValue81
 t45 := Go.Proofs.Tryz.underlying92
 a45 := Go.Proofs.Tryz.isAgg92
 z45 := Go.Proofs.Tryz.sizeOf92
 v45 := Go.Proofs.Tryz.zeroValue92
 t46 := Go.Proofs.Tryz.underlying93
 a46 := Go.Proofs.Tryz.isAgg93
 z46 := Go.Proofs.Tryz.sizeOf93
 v46 := Go.Proofs.Tryz.zeroValue93
 t50 := Go.Proofs.Tryz.underlying97
 a50 := Go.Proofs.Tryz.isAgg97
 z50 := Go.Proofs.Tryz.sizeOf97
 v50 := Go.Proofs.Tryz.zeroValue97
 t53 := Go.Proofs.Tryz.underlying100
 a53 := Go.Proofs.Tryz.isAgg100
 z53 := Go.Proofs.Tryz.sizeOf100
 v53 := Go.Proofs.Tryz.zeroValue100
 t55 := Go.Proofs.Tryz.underlying84
 a55 := Go.Proofs.Tryz.isAgg84
 z55 := Go.Proofs.Tryz.sizeOf84
 v55 := Go.Proofs.Tryz.zeroValue84
 t66 := Go.Proofs.Tryz.underlying108
 a66 := Go.Proofs.Tryz.isAgg108
 z66 := Go.Proofs.Tryz.sizeOf108
 v66 := Go.Proofs.Tryz.zeroValue108
 t70 := Go.Proofs.Tryz.underlying112
 a70 := Go.Proofs.Tryz.isAgg112
 z70 := Go.Proofs.Tryz.sizeOf112
 v70 := Go.Proofs.Tryz.zeroValue112
 t76 := Go.Proofs.Tryz.underlying117
 a76 := Go.Proofs.Tryz.isAgg117
 z76 := Go.Proofs.Tryz.sizeOf117
 v76 := Go.Proofs.Tryz.zeroValue117
 t77 := Go.Proofs.Tryz.underlying118
 a77 := Go.Proofs.Tryz.isAgg118
 z77 := Go.Proofs.Tryz.sizeOf118
 v77 := Go.Proofs.Tryz.zeroValue118
end Go.BmP
/- The library's sort by a comparison lies in this program: which function and which type stands for which. -/
set_option maxRecDepth 100000
namespace Go.BmP
open Go.Shelf Go.Proofs
def laysSrj_ren : Go.Shelf.Ren := ⟨fun | 6 => 29 | 15 => 53 | 14 => 52 | 28 => 71 | 29 => 72 | 20 => 63 | 21 => 64 | 22 => 65 | 23 => 66 | 24 => 67 | 25 => 68 | 26 => 69 | 27 => 70 | 46 => 86 | 47 => 87 | 48 => 88 | 49 => 89 | 50 => 90 | 57 => 95 | n => n, fun | 22 => 27 | 24 => 43 | 25 => 65 | 3 => 3 | 39 => 81 | 0 => 0 | 53 => 100 | 55 => 84 | 4 => 4 | 46 => 93 | 45 => 92 | 50 => 97 | 5 => 5 | 9 => 9 | 66 => 108 | 70 => 112 | 76 => 117 | 77 => 118 | n => n, fun n => n⟩
theorem laysSrj : SlLaysF0.n6 Go.Proofs.Tryz.prog laysSrj_ren where
 mixed := by kernel_rfl
 f6 := ⟨"slices.SortFunc[[]cohesion/api.Edge,cohesion/api.Edge]", of_decide_eq_true (by kernel_rfl), Go.Proofs.Tryz.func29.trans (congrArg some (by kernel_rfl))⟩
 f14 := ⟨"slices.pdqsortCmpFunc[cohesion/api.Edge]", of_decide_eq_true (by kernel_rfl), Go.Proofs.Tryz.func52.trans (congrArg some (by kernel_rfl))⟩
 f15 := Go.Proofs.Tryz.func53.trans (congrArg some (by kernel_rfl))
 f20 := ⟨"slices.insertionSortCmpFunc[cohesion/api.Edge]", of_decide_eq_true (by kernel_rfl), Go.Proofs.Tryz.func63.trans (congrArg some (by kernel_rfl))⟩
 f21 := ⟨"slices.heapSortCmpFunc[cohesion/api.Edge]", of_decide_eq_true (by kernel_rfl), Go.Proofs.Tryz.func64.trans (congrArg some (by kernel_rfl))⟩
 f22 := ⟨"slices.breakPatternsCmpFunc[cohesion/api.Edge]", of_decide_eq_true (by kernel_rfl), Go.Proofs.Tryz.func65.trans (congrArg some (by kernel_rfl))⟩
 f23 := ⟨"slices.choosePivotCmpFunc[cohesion/api.Edge]", of_decide_eq_true (by kernel_rfl), Go.Proofs.Tryz.func66.trans (congrArg some (by kernel_rfl))⟩
 f24 := ⟨"slices.reverseRangeCmpFunc[cohesion/api.Edge]", of_decide_eq_true (by kernel_rfl), Go.Proofs.Tryz.func67.trans (congrArg some (by kernel_rfl))⟩
 f25 := ⟨"slices.partialInsertionSortCmpFunc[cohesion/api.Edge]", of_decide_eq_true (by kernel_rfl), Go.Proofs.Tryz.func68.trans (congrArg some (by kernel_rfl))⟩
 f26 := ⟨"slices.partitionEqualCmpFunc[cohesion/api.Edge]", of_decide_eq_true (by kernel_rfl), Go.Proofs.Tryz.func69.trans (congrArg some (by kernel_rfl))⟩
 f27 := ⟨"slices.partitionCmpFunc[cohesion/api.Edge]", of_decide_eq_true (by kernel_rfl), Go.Proofs.Tryz.func70.trans (congrArg some (by kernel_rfl))⟩
 f28 := Go.Proofs.Tryz.func71.trans (congrArg some (by kernel_rfl))
 f29 := Go.Proofs.Tryz.func72.trans (congrArg some (by kernel_rfl))
 f46 := ⟨"slices.siftDownCmpFunc[cohesion/api.Edge]", of_decide_eq_true (by kernel_rfl), Go.Proofs.Tryz.func86.trans (congrArg some (by kernel_rfl))⟩
 f47 := Go.Proofs.Tryz.func87.trans (congrArg some (by kernel_rfl))
 f48 := Go.Proofs.Tryz.func88.trans (congrArg some (by kernel_rfl))
 f49 := ⟨"slices.medianAdjacentCmpFunc[cohesion/api.Edge]", of_decide_eq_true (by kernel_rfl), Go.Proofs.Tryz.func89.trans (congrArg some (by kernel_rfl))⟩
 f50 := ⟨"slices.medianCmpFunc[cohesion/api.Edge]", of_decide_eq_true (by kernel_rfl), Go.Proofs.Tryz.func90.trans (congrArg some (by kernel_rfl))⟩
 f57 := ⟨"slices.order2CmpFunc[cohesion/api.Edge]", of_decide_eq_true (by kernel_rfl), Go.Proofs.Tryz.func95.trans (congrArg some (by kernel_rfl))⟩
 t0 := Go.Proofs.Tryz.underlying0
 a0 := Go.Proofs.Tryz.isAgg0
 z0 := Go.Proofs.Tryz.sizeOf0
 v0 := Go.Proofs.Tryz.zeroValue0
 t3 := Go.Proofs.Tryz.underlying3
 a3 := Go.Proofs.Tryz.isAgg3
 z3 := Go.Proofs.Tryz.sizeOf3
 v3 := Go.Proofs.Tryz.zeroValue3
 t4 := Go.Proofs.Tryz.underlying4
 a4 := Go.Proofs.Tryz.isAgg4
 z4 := Go.Proofs.Tryz.sizeOf4
 v4 := Go.Proofs.Tryz.zeroValue4
 t5 := Go.Proofs.Tryz.underlying5
 a5 := Go.Proofs.Tryz.isAgg5
 z5 := Go.Proofs.Tryz.sizeOf5
 v5 := Go.Proofs.Tryz.zeroValue5
 t9 := Go.Proofs.Tryz.underlying9
 a9 := Go.Proofs.Tryz.isAgg9
 z9 := Go.Proofs.Tryz.sizeOf9
 v9 := Go.Proofs.Tryz.zeroValue9
 t22 := Go.Proofs.Tryz.underlying27
 a22 := Go.Proofs.Tryz.isAgg27
 z22 := Go.Proofs.Tryz.sizeOf27
 v22 := Go.Proofs.Tryz.zeroValue27
 t25 := Go.Proofs.Tryz.underlying65
 a25 := Go.Proofs.Tryz.isAgg65
 z25 := Go.Proofs.Tryz.sizeOf65
 v25 := Go.Proofs.Tryz.zeroValue65
 t39 := Go.Proofs.Tryz.underlying81
 a39 := Go.Proofs.Tryz.isAgg81
 z39 := Go.Proofs.Tryz.sizeOf81
 v39 := Go.Proofs.Tryz.zeroValue81
 t45 := Go.Proofs.Tryz.underlying92
 a45 := Go.Proofs.Tryz.isAgg92
 z45 := Go.Proofs.Tryz.sizeOf92
 v45 := Go.Proofs.Tryz.zeroValue92
 t46 := Go.Proofs.Tryz.underlying93
 a46 := Go.Proofs.Tryz.isAgg93
 z46 := Go.Proofs.Tryz.sizeOf93
 v46 := Go.Proofs.Tryz.zeroValue93
 t50 := Go.Proofs.Tryz.underlying97
 a50 := Go.Proofs.Tryz.isAgg97
 z50 := Go.Proofs.Tryz.sizeOf97
 v50 := Go.Proofs.Tryz.zeroValue97
 t53 := Go.Proofs.Tryz.underlying100
 a53 := Go.Proofs.Tryz.isAgg100
 z53 := Go.Proofs.Tryz.sizeOf100
 v53 := Go.Proofs.Tryz.zeroValue100
 t55 := Go.Proofs.Tryz.underlying84
 a55 := Go.Proofs.Tryz.isAgg84
 z55 := Go.Proofs.Tryz.sizeOf84
 v55 := Go.Proofs.Tryz.zeroValue84
 t66 := Go.Proofs.Tryz.underlying108
 a66 := Go.Proofs.Tryz.isAgg108
 z66 := Go.Proofs.Tryz.sizeOf108
 v66 := Go.Proofs.Tryz.zeroValue108
 t70 := Go.Proofs.Tryz.underlying112
 a70 := Go.Proofs.Tryz.isAgg112
 z70 := Go.Proofs.Tryz.sizeOf112
 v70 := Go.Proofs.Tryz.zeroValue112
 t76 := Go.Proofs.Tryz.underlying117
 a76 := Go.Proofs.Tryz.isAgg117
 z76 := Go.Proofs.Tryz.sizeOf117
 v76 := Go.Proofs.Tryz.zeroValue117
 t77 := Go.Proofs.Tryz.underlying118
 a77 := Go.Proofs.Tryz.isAgg118
 z77 := Go.Proofs.Tryz.sizeOf118
 v77 := Go.Proofs.Tryz.zeroValue118
end Go.BmP
/- A function of the library lies in this program: which function and which type stands for which. -/
set_option maxRecDepth 100000
namespace Go.BmP
open Go.Shelf Go.Proofs
def laysDlf_ren : Go.Shelf.Ren := ⟨fun | 10 => 24 | 6 => 45 | n => n, fun | 22 => 22 | 23 => 3 | 25 => 58 | 3 => 3 | 4 => 4 | 0 => 0 | n => n, fun n => n⟩
theorem laysDlf : SlLaysH.n10 Go.Proofs.Tryz.prog laysDlf_ren where
 mixed := by kernel_rfl
 f6 := ⟨"slices.IndexFunc[[]int,int]", of_decide_eq_true (by kernel_rfl), Go.Proofs.Tryz.func45.trans (congrArg some (by kernel_rfl))⟩
 f10 := ⟨"slices.DeleteFunc[[]int,int]", of_decide_eq_true (by kernel_rfl), Go.Proofs.Tryz.func24.trans (congrArg some (by kernel_rfl))⟩
 t0 := Go.Proofs.Tryz.underlying0
 a0 := Go.Proofs.Tryz.isAgg0
 z0 := Go.Proofs.Tryz.sizeOf0
 v0 := Go.Proofs.Tryz.zeroValue0
 t3 := Go.Proofs.Tryz.underlying3
 a3 := Go.Proofs.Tryz.isAgg3
 z3 := Go.Proofs.Tryz.sizeOf3
 v3 := Go.Proofs.Tryz.zeroValue3
 t4 := Go.Proofs.Tryz.underlying4
 a4 := Go.Proofs.Tryz.isAgg4
 z4 := Go.Proofs.Tryz.sizeOf4
 v4 := Go.Proofs.Tryz.zeroValue4
 t22 := Go.Proofs.Tryz.underlying22
 a22 := Go.Proofs.Tryz.isAgg22
 z22 := Go.Proofs.Tryz.sizeOf22
 v22 := Go.Proofs.Tryz.zeroValue22
 a23 := Go.Proofs.Tryz.isAgg3
 z23 := Go.Proofs.Tryz.sizeOf3
 t25 := Go.Proofs.Tryz.underlying58
 a25 := Go.Proofs.Tryz.isAgg58
 z25 := Go.Proofs.Tryz.sizeOf58
 v25 := Go.Proofs.Tryz.zeroValue58
end Go.BmP
