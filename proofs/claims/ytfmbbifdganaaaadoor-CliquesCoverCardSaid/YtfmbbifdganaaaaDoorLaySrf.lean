/- The library's sort by a comparison lies in this program: which function and which type stands for which. -/
import Derived.Test.YtfmbbifdganaaaaDoorBmP
import Derived.Shelf.SlSortCmp.NoneTotal
import Derived.KernelRfl
set_option maxRecDepth 100000
namespace Go.BmP
open Go.Shelf Go.Proofs
def laysSrf_ren : Go.Shelf.Ren := ⟨fun | 6 => 29 | 15 => 49 | 14 => 48 | 28 => 62 | 29 => 63 | 20 => 54 | 21 => 55 | 22 => 56 | 23 => 57 | 24 => 58 | 25 => 59 | 26 => 60 | 27 => 61 | 46 => 74 | 47 => 75 | 48 => 76 | 49 => 77 | 50 => 78 | 57 => 82 | n => n, fun | 22 => 27 | 24 => 37 | 25 => 61 | 3 => 3 | 39 => 75 | 0 => 0 | 53 => 89 | 55 => 54 | 4 => 4 | 46 => 82 | 45 => 81 | 50 => 86 | 5 => 5 | 9 => 9 | 66 => 97 | 70 => 101 | 76 => 105 | 77 => 106 | n => n, fun n => n⟩
theorem laysSrf : SlLaysF0.n6 Go.Proofs.Tryd.prog laysSrf_ren where
 mixed := by kernel_rfl
 f6 := ⟨"slices.SortFunc[[]cohesion/api.Edge,cohesion/api.Edge]", of_decide_eq_true (by kernel_rfl), Go.Proofs.Tryd.func29.trans (congrArg some (by kernel_rfl))⟩
 f14 := ⟨"slices.pdqsortCmpFunc[cohesion/api.Edge]", of_decide_eq_true (by kernel_rfl), Go.Proofs.Tryd.func48.trans (congrArg some (by kernel_rfl))⟩
 f15 := Go.Proofs.Tryd.func49.trans (congrArg some (by kernel_rfl))
 f20 := ⟨"slices.insertionSortCmpFunc[cohesion/api.Edge]", of_decide_eq_true (by kernel_rfl), Go.Proofs.Tryd.func54.trans (congrArg some (by kernel_rfl))⟩
 f21 := ⟨"slices.heapSortCmpFunc[cohesion/api.Edge]", of_decide_eq_true (by kernel_rfl), Go.Proofs.Tryd.func55.trans (congrArg some (by kernel_rfl))⟩
 f22 := ⟨"slices.breakPatternsCmpFunc[cohesion/api.Edge]", of_decide_eq_true (by kernel_rfl), Go.Proofs.Tryd.func56.trans (congrArg some (by kernel_rfl))⟩
 f23 := ⟨"slices.choosePivotCmpFunc[cohesion/api.Edge]", of_decide_eq_true (by kernel_rfl), Go.Proofs.Tryd.func57.trans (congrArg some (by kernel_rfl))⟩
 f24 := ⟨"slices.reverseRangeCmpFunc[cohesion/api.Edge]", of_decide_eq_true (by kernel_rfl), Go.Proofs.Tryd.func58.trans (congrArg some (by kernel_rfl))⟩
 f25 := ⟨"slices.partialInsertionSortCmpFunc[cohesion/api.Edge]", of_decide_eq_true (by kernel_rfl), Go.Proofs.Tryd.func59.trans (congrArg some (by kernel_rfl))⟩
 f26 := ⟨"slices.partitionEqualCmpFunc[cohesion/api.Edge]", of_decide_eq_true (by kernel_rfl), Go.Proofs.Tryd.func60.trans (congrArg some (by kernel_rfl))⟩
 f27 := ⟨"slices.partitionCmpFunc[cohesion/api.Edge]", of_decide_eq_true (by kernel_rfl), Go.Proofs.Tryd.func61.trans (congrArg some (by kernel_rfl))⟩
 f28 := Go.Proofs.Tryd.func62.trans (congrArg some (by kernel_rfl))
 f29 := Go.Proofs.Tryd.func63.trans (congrArg some (by kernel_rfl))
 f46 := ⟨"slices.siftDownCmpFunc[cohesion/api.Edge]", of_decide_eq_true (by kernel_rfl), Go.Proofs.Tryd.func74.trans (congrArg some (by kernel_rfl))⟩
 f47 := Go.Proofs.Tryd.func75.trans (congrArg some (by kernel_rfl))
 f48 := Go.Proofs.Tryd.func76.trans (congrArg some (by kernel_rfl))
 f49 := ⟨"slices.medianAdjacentCmpFunc[cohesion/api.Edge]", of_decide_eq_true (by kernel_rfl), Go.Proofs.Tryd.func77.trans (congrArg some (by kernel_rfl))⟩
 f50 := ⟨"slices.medianCmpFunc[cohesion/api.Edge]", of_decide_eq_true (by kernel_rfl), Go.Proofs.Tryd.func78.trans (congrArg some (by kernel_rfl))⟩
 f57 := ⟨"slices.order2CmpFunc[cohesion/api.Edge]", of_decide_eq_true (by kernel_rfl), Go.Proofs.Tryd.func82.trans (congrArg some (by kernel_rfl))⟩
 t0 := Go.Proofs.Tryd.underlying0
 a0 := Go.Proofs.Tryd.isAgg0
 z0 := Go.Proofs.Tryd.sizeOf0
 v0 := Go.Proofs.Tryd.zeroValue0
 t3 := Go.Proofs.Tryd.underlying3
 a3 := Go.Proofs.Tryd.isAgg3
 z3 := Go.Proofs.Tryd.sizeOf3
 v3 := Go.Proofs.Tryd.zeroValue3
 t4 := Go.Proofs.Tryd.underlying4
 a4 := Go.Proofs.Tryd.isAgg4
 z4 := Go.Proofs.Tryd.sizeOf4
 v4 := Go.Proofs.Tryd.zeroValue4
 t5 := Go.Proofs.Tryd.underlying5
 a5 := Go.Proofs.Tryd.isAgg5
 z5 := Go.Proofs.Tryd.sizeOf5
 v5 := Go.Proofs.Tryd.zeroValue5
 t9 := Go.Proofs.Tryd.underlying9
 a9 := Go.Proofs.Tryd.isAgg9
 z9 := Go.Proofs.Tryd.sizeOf9
 v9 := Go.Proofs.Tryd.zeroValue9
 t22 := Go.Proofs.Tryd.underlying27
 a22 := Go.Proofs.Tryd.isAgg27
 z22 := Go.Proofs.Tryd.sizeOf27
 v22 := Go.Proofs.Tryd.zeroValue27
 t25 := Go.Proofs.Tryd.underlying61
 a25 := Go.Proofs.Tryd.isAgg61
 z25 := Go.Proofs.Tryd.sizeOf61
 v25 := Go.Proofs.Tryd.zeroValue61
 t39 := Go.Proofs.Tryd.underlying75
 a39 := Go.Proofs.Tryd.isAgg75
 z39 := Go.Proofs.Tryd.sizeOf75
 v39 := Go.Proofs.Tryd.zeroValue75
 t45 := Go.Proofs.Tryd.underlying81
 a45 := Go.Proofs.Tryd.isAgg81
 z45 := Go.Proofs.Tryd.sizeOf81
 v45 := Go.Proofs.Tryd.zeroValue81
 t46 := Go.Proofs.Tryd.underlying82
 a46 := Go.Proofs.Tryd.isAgg82
 z46 := Go.Proofs.Tryd.sizeOf82
 v46 := Go.Proofs.Tryd.zeroValue82
 t50 := Go.Proofs.Tryd.underlying86
 a50 := Go.Proofs.Tryd.isAgg86
 z50 := Go.Proofs.Tryd.sizeOf86
 v50 := Go.Proofs.Tryd.zeroValue86
 t53 := Go.Proofs.Tryd.underlying89
 a53 := Go.Proofs.Tryd.isAgg89
 z53 := Go.Proofs.Tryd.sizeOf89
 v53 := Go.Proofs.Tryd.zeroValue89
 t55 := Go.Proofs.Tryd.underlying54
 a55 := Go.Proofs.Tryd.isAgg54
 z55 := Go.Proofs.Tryd.sizeOf54
 v55 := Go.Proofs.Tryd.zeroValue54
 t66 := Go.Proofs.Tryd.underlying97
 a66 := Go.Proofs.Tryd.isAgg97
 z66 := Go.Proofs.Tryd.sizeOf97
 v66 := Go.Proofs.Tryd.zeroValue97
 t70 := Go.Proofs.Tryd.underlying101
 a70 := Go.Proofs.Tryd.isAgg101
 z70 := Go.Proofs.Tryd.sizeOf101
 v70 := Go.Proofs.Tryd.zeroValue101
 t76 := Go.Proofs.Tryd.underlying105
 a76 := Go.Proofs.Tryd.isAgg105
 z76 := Go.Proofs.Tryd.sizeOf105
 v76 := Go.Proofs.Tryd.zeroValue105
 t77 := Go.Proofs.Tryd.underlying106
 a77 := Go.Proofs.Tryd.isAgg106
 z77 := Go.Proofs.Tryd.sizeOf106
 v77 := Go.Proofs.Tryd.zeroValue106
end Go.BmP
