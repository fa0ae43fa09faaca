/- The library's sort by a comparison lies in this program: which function and which type stands for which. -/
import Derived.Test.YtjfdniggjdnkiaaBmP
import Derived.Shelf.SlSortCmp.NoneTotal
import Derived.KernelRfl
set_option maxRecDepth 100000
namespace Go.BmP
open Go.Shelf Go.Proofs
def laysSrn_ren : Go.Shelf.Ren := ⟨fun | 6 => 45 | 15 => 48 | 14 => 60 | 28 => 70 | 29 => 71 | 20 => 76 | 21 => 77 | 22 => 78 | 23 => 79 | 24 => 80 | 25 => 81 | 26 => 82 | 27 => 83 | 46 => 99 | 47 => 85 | 48 => 86 | 49 => 100 | 50 => 101 | 57 => 106 | n => n, fun | 22 => 66 | 24 => 68 | 25 => 70 | 3 => 3 | 39 => 73 | 0 => 0 | 53 => 92 | 55 => 57 | 4 => 4 | 46 => 85 | 45 => 84 | 50 => 89 | 5 => 5 | 9 => 9 | 66 => 100 | 70 => 104 | 76 => 115 | 77 => 116 | n => n, fun n => n⟩
theorem laysSrn : SlLaysF0.n6 Go.Proofs.Try.prog laysSrn_ren where
  mixed := by kernel_rfl
  f6 := ⟨"slices.SortFunc[[]cohesion/degree.need,cohesion/degree.need]", of_decide_eq_true (by kernel_rfl), Go.Proofs.Try.func45.trans (congrArg some (by kernel_rfl))⟩
  f14 := ⟨"slices.pdqsortCmpFunc[cohesion/degree.need]", of_decide_eq_true (by kernel_rfl), Go.Proofs.Try.func60.trans (congrArg some (by kernel_rfl))⟩
  f15 := Go.Proofs.Try.func48.trans (congrArg some (by kernel_rfl))
  f20 := ⟨"slices.insertionSortCmpFunc[cohesion/degree.need]", of_decide_eq_true (by kernel_rfl), Go.Proofs.Try.func76.trans (congrArg some (by kernel_rfl))⟩
  f21 := ⟨"slices.heapSortCmpFunc[cohesion/degree.need]", of_decide_eq_true (by kernel_rfl), Go.Proofs.Try.func77.trans (congrArg some (by kernel_rfl))⟩
  f22 := ⟨"slices.breakPatternsCmpFunc[cohesion/degree.need]", of_decide_eq_true (by kernel_rfl), Go.Proofs.Try.func78.trans (congrArg some (by kernel_rfl))⟩
  f23 := ⟨"slices.choosePivotCmpFunc[cohesion/degree.need]", of_decide_eq_true (by kernel_rfl), Go.Proofs.Try.func79.trans (congrArg some (by kernel_rfl))⟩
  f24 := ⟨"slices.reverseRangeCmpFunc[cohesion/degree.need]", of_decide_eq_true (by kernel_rfl), Go.Proofs.Try.func80.trans (congrArg some (by kernel_rfl))⟩
  f25 := ⟨"slices.partialInsertionSortCmpFunc[cohesion/degree.need]", of_decide_eq_true (by kernel_rfl), Go.Proofs.Try.func81.trans (congrArg some (by kernel_rfl))⟩
  f26 := ⟨"slices.partitionEqualCmpFunc[cohesion/degree.need]", of_decide_eq_true (by kernel_rfl), Go.Proofs.Try.func82.trans (congrArg some (by kernel_rfl))⟩
  f27 := ⟨"slices.partitionCmpFunc[cohesion/degree.need]", of_decide_eq_true (by kernel_rfl), Go.Proofs.Try.func83.trans (congrArg some (by kernel_rfl))⟩
  f28 := Go.Proofs.Try.func70.trans (congrArg some (by kernel_rfl))
  f29 := Go.Proofs.Try.func71.trans (congrArg some (by kernel_rfl))
  f46 := ⟨"slices.siftDownCmpFunc[cohesion/degree.need]", of_decide_eq_true (by kernel_rfl), Go.Proofs.Try.func99.trans (congrArg some (by kernel_rfl))⟩
  f47 := Go.Proofs.Try.func85.trans (congrArg some (by kernel_rfl))
  f48 := Go.Proofs.Try.func86.trans (congrArg some (by kernel_rfl))
  f49 := ⟨"slices.medianAdjacentCmpFunc[cohesion/degree.need]", of_decide_eq_true (by kernel_rfl), Go.Proofs.Try.func100.trans (congrArg some (by kernel_rfl))⟩
  f50 := ⟨"slices.medianCmpFunc[cohesion/degree.need]", of_decide_eq_true (by kernel_rfl), Go.Proofs.Try.func101.trans (congrArg some (by kernel_rfl))⟩
  f57 := ⟨"slices.order2CmpFunc[cohesion/degree.need]", of_decide_eq_true (by kernel_rfl), Go.Proofs.Try.func106.trans (congrArg some (by kernel_rfl))⟩
  t0 := Go.Proofs.Try.underlying0
  a0 := Go.Proofs.Try.isAgg0
  z0 := Go.Proofs.Try.sizeOf0
  v0 := Go.Proofs.Try.zeroValue0
  t3 := Go.Proofs.Try.underlying3
  a3 := Go.Proofs.Try.isAgg3
  z3 := Go.Proofs.Try.sizeOf3
  v3 := Go.Proofs.Try.zeroValue3
  t4 := Go.Proofs.Try.underlying4
  a4 := Go.Proofs.Try.isAgg4
  z4 := Go.Proofs.Try.sizeOf4
  v4 := Go.Proofs.Try.zeroValue4
  t5 := Go.Proofs.Try.underlying5
  a5 := Go.Proofs.Try.isAgg5
  z5 := Go.Proofs.Try.sizeOf5
  v5 := Go.Proofs.Try.zeroValue5
  t9 := Go.Proofs.Try.underlying9
  a9 := Go.Proofs.Try.isAgg9
  z9 := Go.Proofs.Try.sizeOf9
  v9 := Go.Proofs.Try.zeroValue9
  t22 := Go.Proofs.Try.underlying66
  a22 := Go.Proofs.Try.isAgg66
  z22 := Go.Proofs.Try.sizeOf66
  v22 := Go.Proofs.Try.zeroValue66
  t25 := Go.Proofs.Try.underlying70
  a25 := Go.Proofs.Try.isAgg70
  z25 := Go.Proofs.Try.sizeOf70
  v25 := Go.Proofs.Try.zeroValue70
  t39 := Go.Proofs.Try.underlying73
  a39 := Go.Proofs.Try.isAgg73
  z39 := Go.Proofs.Try.sizeOf73
  v39 := Go.Proofs.Try.zeroValue73
  t45 := Go.Proofs.Try.underlying84
  a45 := Go.Proofs.Try.isAgg84
  z45 := Go.Proofs.Try.sizeOf84
  v45 := Go.Proofs.Try.zeroValue84
  t46 := Go.Proofs.Try.underlying85
  a46 := Go.Proofs.Try.isAgg85
  z46 := Go.Proofs.Try.sizeOf85
  v46 := Go.Proofs.Try.zeroValue85
  t50 := Go.Proofs.Try.underlying89
  a50 := Go.Proofs.Try.isAgg89
  z50 := Go.Proofs.Try.sizeOf89
  v50 := Go.Proofs.Try.zeroValue89
  t53 := Go.Proofs.Try.underlying92
  a53 := Go.Proofs.Try.isAgg92
  z53 := Go.Proofs.Try.sizeOf92
  v53 := Go.Proofs.Try.zeroValue92
  t55 := Go.Proofs.Try.underlying57
  a55 := Go.Proofs.Try.isAgg57
  z55 := Go.Proofs.Try.sizeOf57
  v55 := Go.Proofs.Try.zeroValue57
  t66 := Go.Proofs.Try.underlying100
  a66 := Go.Proofs.Try.isAgg100
  z66 := Go.Proofs.Try.sizeOf100
  v66 := Go.Proofs.Try.zeroValue100
  t70 := Go.Proofs.Try.underlying104
  a70 := Go.Proofs.Try.isAgg104
  z70 := Go.Proofs.Try.sizeOf104
  v70 := Go.Proofs.Try.zeroValue104
  t76 := Go.Proofs.Try.underlying115
  a76 := Go.Proofs.Try.isAgg115
  z76 := Go.Proofs.Try.sizeOf115
  v76 := Go.Proofs.Try.zeroValue115
  t77 := Go.Proofs.Try.underlying116
  a77 := Go.Proofs.Try.isAgg116
  z77 := Go.Proofs.Try.sizeOf116
  v77 := Go.Proofs.Try.zeroValue116
end Go.BmP
