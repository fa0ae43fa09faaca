/- The library's sort by a comparison lies in this program: which function and which type stands for which. -/
import Derived.Test.YtkhnplbbngkjkaaBmP
import Derived.Shelf.SlSortCmp.NoneTotal
import Derived.KernelRfl
import Derived.Shelf.SlicesE.DeleteFunc
import Derived.Ground.SlgfProg
set_option maxRecDepth 100000
namespace Go.BmP
open Go.Shelf Go.Proofs
def laysSrf_ren : Go.Shelf.Ren := ⟨fun | 6 => 29 | 15 => 45 | 14 => 44 | 28 => 63 | 29 => 64 | 20 => 55 | 21 => 56 | 22 => 57 | 23 => 58 | 24 => 59 | 25 => 60 | 26 => 61 | 27 => 62 | 46 => 69 | 47 => 70 | 48 => 71 | 49 => 72 | 50 => 73 | 57 => 75 | n => n, fun | 22 => 58 | 24 => 60 | 25 => 64 | 3 => 3 | 39 => 78 | 0 => 0 | 53 => 92 | 55 => 74 | 4 => 4 | 46 => 85 | 45 => 84 | 50 => 89 | 5 => 5 | 9 => 9 | 66 => 95 | 70 => 99 | 76 => 102 | 77 => 103 | n => n, fun n => n⟩
theorem laysSrf : SlLaysF0.n6 Go.Proofs.Try.prog laysSrf_ren where
 mixed := by kernel_rfl
 f6 := ⟨"slices.SortFunc[[]cohesion/partition.part,cohesion/partition.part]", of_decide_eq_true (by kernel_rfl), Go.Proofs.Try.func29.trans (congrArg some (by kernel_rfl))⟩
 f14 := ⟨"slices.pdqsortCmpFunc[cohesion/partition.part]", of_decide_eq_true (by kernel_rfl), Go.Proofs.Try.func44.trans (congrArg some (by kernel_rfl))⟩
 f15 := Go.Proofs.Try.func45.trans (congrArg some (by kernel_rfl))
 f20 := ⟨"slices.insertionSortCmpFunc[cohesion/partition.part]", of_decide_eq_true (by kernel_rfl), Go.Proofs.Try.func55.trans (congrArg some (by kernel_rfl))⟩
 f21 := ⟨"slices.heapSortCmpFunc[cohesion/partition.part]", of_decide_eq_true (by kernel_rfl), Go.Proofs.Try.func56.trans (congrArg some (by kernel_rfl))⟩
 f22 := ⟨"slices.breakPatternsCmpFunc[cohesion/partition.part]", of_decide_eq_true (by kernel_rfl), Go.Proofs.Try.func57.trans (congrArg some (by kernel_rfl))⟩
 f23 := ⟨"slices.choosePivotCmpFunc[cohesion/partition.part]", of_decide_eq_true (by kernel_rfl), Go.Proofs.Try.func58.trans (congrArg some (by kernel_rfl))⟩
 f24 := ⟨"slices.reverseRangeCmpFunc[cohesion/partition.part]", of_decide_eq_true (by kernel_rfl), Go.Proofs.Try.func59.trans (congrArg some (by kernel_rfl))⟩
 f25 := ⟨"slices.partialInsertionSortCmpFunc[cohesion/partition.part]", of_decide_eq_true (by kernel_rfl), Go.Proofs.Try.func60.trans (congrArg some (by kernel_rfl))⟩
 f26 := ⟨"slices.partitionEqualCmpFunc[cohesion/partition.part]", of_decide_eq_true (by kernel_rfl), Go.Proofs.Try.func61.trans (congrArg some (by kernel_rfl))⟩
 f27 := ⟨"slices.partitionCmpFunc[cohesion/partition.part]", of_decide_eq_true (by kernel_rfl), Go.Proofs.Try.func62.trans (congrArg some (by kernel_rfl))⟩
 f28 := Go.Proofs.Try.func63.trans (congrArg some (by kernel_rfl))
 f29 := Go.Proofs.Try.func64.trans (congrArg some (by kernel_rfl))
 f46 := ⟨"slices.siftDownCmpFunc[cohesion/partition.part]", of_decide_eq_true (by kernel_rfl), Go.Proofs.Try.func69.trans (congrArg some (by kernel_rfl))⟩
 f47 := Go.Proofs.Try.func70.trans (congrArg some (by kernel_rfl))
 f48 := Go.Proofs.Try.func71.trans (congrArg some (by kernel_rfl))
 f49 := ⟨"slices.medianAdjacentCmpFunc[cohesion/partition.part]", of_decide_eq_true (by kernel_rfl), Go.Proofs.Try.func72.trans (congrArg some (by kernel_rfl))⟩
 f50 := ⟨"slices.medianCmpFunc[cohesion/partition.part]", of_decide_eq_true (by kernel_rfl), Go.Proofs.Try.func73.trans (congrArg some (by kernel_rfl))⟩
 f57 := ⟨"slices.order2CmpFunc[cohesion/partition.part]", of_decide_eq_true (by kernel_rfl), Go.Proofs.Try.func75.trans (congrArg some (by kernel_rfl))⟩
 t0 := Go.Proofs.Try.underlying0
 a0 := Go.Proofs.Try.isAgg0
 z0 := Go.Proofs.Try.sizeOf0
 v0 := Go.Proofs.Try.zeroValue0
 t3 := Go.Proofs.Try.underlying3
 a3 := Go.Proofs.Try.isAgg3
 z3 := Go.Proofs.Try.sizeOf3
 v3 := Go.Proofs.Try.zeroValue3
 t4 := Go.Proofs.Try.underlying4
 a4 := Go.Proofs.Try.isAgg4
 z4 := Go.Proofs.Try.sizeOf4
 v4 := Go.Proofs.Try.zeroValue4
 t5 := Go.Proofs.Try.underlying5
 a5 := Go.Proofs.Try.isAgg5
 z5 := Go.Proofs.Try.sizeOf5
 v5 := Go.Proofs.Try.zeroValue5
 t9 := Go.Proofs.Try.underlying9
 a9 := Go.Proofs.Try.isAgg9
 z9 := Go.Proofs.Try.sizeOf9
 v9 := Go.Proofs.Try.zeroValue9
 t22 := Go.Proofs.Try.underlying58
 a22 := Go.Proofs.Try.isAgg58
 z22 := Go.Proofs.Try.sizeOf58
 v22 := Go.Proofs.Try.zeroValue58
 t25 := Go.Proofs.Try.underlying64
 a25 := Go.Proofs.Try.isAgg64
 z25 := Go.Proofs.Try.sizeOf64
 v25 := Go.Proofs.Try.zeroValue64
 t39 := Go.Proofs.Try.underlying78
 a39 := Go.Proofs.Try.isAgg78
 z39 := Go.Proofs.Try.sizeOf78
 v39 := Go.Proofs.Try.zeroValue78
 t45 := Go.Proofs.Try.underlying84
 a45 := Go.Proofs.Try.isAgg84
 z45 := Go.Proofs.Try.sizeOf84
 v45 := Go.Proofs.Try.zeroValue84
 t46 := Go.Proofs.Try.underlying85
 a46 := Go.Proofs.Try.isAgg85
 z46 := Go.Proofs.Try.sizeOf85
 v46 := Go.Proofs.Try.zeroValue85
 t50 := Go.Proofs.Try.underlying89
 a50 := Go.Proofs.Try.isAgg89
 z50 := Go.Proofs.Try.sizeOf89
 v50 := Go.Proofs.Try.zeroValue89
 t53 := Go.Proofs.Try.underlying92
 a53 := Go.Proofs.Try.isAgg92
 z53 := Go.Proofs.Try.sizeOf92
 v53 := Go.Proofs.Try.zeroValue92
 t55 := Go.Proofs.Try.underlying74
 a55 := Go.Proofs.Try.isAgg74
 z55 := Go.Proofs.Try.sizeOf74
 v55 := Go.Proofs.Try.zeroValue74
 t66 := Go.Proofs.Try.underlying95
 a66 := Go.Proofs.Try.isAgg95
 z66 := Go.Proofs.Try.sizeOf95
 v66 := Go.Proofs.Try.zeroValue95
 t70 := Go.Proofs.Try.underlying99
 a70 := Go.Proofs.Try.isAgg99
 z70 := Go.Proofs.Try.sizeOf99
 v70 := Go.Proofs.Try.zeroValue99
 t76 := Go.Proofs.Try.underlying102
 a76 := Go.Proofs.Try.isAgg102
 z76 := Go.Proofs.Try.sizeOf102
 v76 := Go.Proofs.Try.zeroValue102
 t77 := Go.Proofs.Try.underlying103
 a77 := Go.Proofs.Try.isAgg103
 z77 := Go.Proofs.Try.sizeOf103
 v77 := Go.Proofs.Try.zeroValue103
end Go.BmP
/- A function of the library lies in this program: which function and which type stands for which. -/
set_option maxRecDepth 100000
namespace Go.BmP
open Go.Shelf Go.Proofs
def laysDlf_ren : Go.Shelf.Ren := ⟨fun | 10 => 24 | 6 => 41 | n => n, fun | 22 => 22 | 23 => 3 | 25 => 55 | 3 => 3 | 4 => 4 | 0 => 0 | n => n, fun n => n⟩
theorem laysDlf : SlLaysH.n10 Go.Proofs.Try.prog laysDlf_ren where
 mixed := by kernel_rfl
 f6 := ⟨"slices.IndexFunc[[]int,int]", of_decide_eq_true (by kernel_rfl), Go.Proofs.Try.func41.trans (congrArg some (by kernel_rfl))⟩
 f10 := ⟨"slices.DeleteFunc[[]int,int]", of_decide_eq_true (by kernel_rfl), Go.Proofs.Try.func24.trans (congrArg some (by kernel_rfl))⟩
 t0 := Go.Proofs.Try.underlying0
 a0 := Go.Proofs.Try.isAgg0
 z0 := Go.Proofs.Try.sizeOf0
 v0 := Go.Proofs.Try.zeroValue0
 t3 := Go.Proofs.Try.underlying3
 a3 := Go.Proofs.Try.isAgg3
 z3 := Go.Proofs.Try.sizeOf3
 v3 := Go.Proofs.Try.zeroValue3
 t4 := Go.Proofs.Try.underlying4
 a4 := Go.Proofs.Try.isAgg4
 z4 := Go.Proofs.Try.sizeOf4
 v4 := Go.Proofs.Try.zeroValue4
 t22 := Go.Proofs.Try.underlying22
 a22 := Go.Proofs.Try.isAgg22
 z22 := Go.Proofs.Try.sizeOf22
 v22 := Go.Proofs.Try.zeroValue22
 a23 := Go.Proofs.Try.isAgg3
 z23 := Go.Proofs.Try.sizeOf3
 t25 := Go.Proofs.Try.underlying55
 a25 := Go.Proofs.Try.isAgg55
 z25 := Go.Proofs.Try.sizeOf55
 v25 := Go.Proofs.Try.zeroValue55
end Go.BmP
