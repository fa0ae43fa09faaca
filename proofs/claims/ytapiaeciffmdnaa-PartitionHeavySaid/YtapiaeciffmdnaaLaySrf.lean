/- The library's sort by a comparison lies in this program: which function and which type stands for which. -/
import Derived.Test.YtapiaeciffmdnaaBmP
import Derived.Shelf.SlSortCmp.NoneTotal
import Derived.KernelRfl
set_option maxRecDepth 100000
namespace Go.BmP
open Go.Shelf Go.Proofs
def laysSrf_ren : Go.Shelf.Ren := ⟨fun | 6 => 28 | 15 => 43 | 14 => 42 | 28 => 61 | 29 => 62 | 20 => 53 | 21 => 54 | 22 => 55 | 23 => 56 | 24 => 57 | 25 => 58 | 26 => 59 | 27 => 60 | 46 => 67 | 47 => 68 | 48 => 69 | 49 => 70 | 50 => 71 | 57 => 73 | n => n, fun | 22 => 58 | 24 => 60 | 25 => 64 | 3 => 3 | 39 => 77 | 0 => 0 | 53 => 91 | 55 => 73 | 4 => 4 | 46 => 84 | 45 => 83 | 50 => 88 | 5 => 5 | 9 => 9 | 66 => 94 | 70 => 98 | 76 => 101 | 77 => 102 | n => n, fun n => n⟩
theorem laysSrf : SlLaysF0.n6 Go.Proofs.Try.prog laysSrf_ren where
  mixed := by kernel_rfl
  f6 := ⟨"slices.SortFunc[[]cohesion/partition.part,cohesion/partition.part]", of_decide_eq_true (by kernel_rfl), Go.Proofs.Try.func28.trans (congrArg some (by kernel_rfl))⟩
  f14 := ⟨"slices.pdqsortCmpFunc[cohesion/partition.part]", of_decide_eq_true (by kernel_rfl), Go.Proofs.Try.func42.trans (congrArg some (by kernel_rfl))⟩
  f15 := Go.Proofs.Try.func43.trans (congrArg some (by kernel_rfl))
  f20 := ⟨"slices.insertionSortCmpFunc[cohesion/partition.part]", of_decide_eq_true (by kernel_rfl), Go.Proofs.Try.func53.trans (congrArg some (by kernel_rfl))⟩
  f21 := ⟨"slices.heapSortCmpFunc[cohesion/partition.part]", of_decide_eq_true (by kernel_rfl), Go.Proofs.Try.func54.trans (congrArg some (by kernel_rfl))⟩
  f22 := ⟨"slices.breakPatternsCmpFunc[cohesion/partition.part]", of_decide_eq_true (by kernel_rfl), Go.Proofs.Try.func55.trans (congrArg some (by kernel_rfl))⟩
  f23 := ⟨"slices.choosePivotCmpFunc[cohesion/partition.part]", of_decide_eq_true (by kernel_rfl), Go.Proofs.Try.func56.trans (congrArg some (by kernel_rfl))⟩
  f24 := ⟨"slices.reverseRangeCmpFunc[cohesion/partition.part]", of_decide_eq_true (by kernel_rfl), Go.Proofs.Try.func57.trans (congrArg some (by kernel_rfl))⟩
  f25 := ⟨"slices.partialInsertionSortCmpFunc[cohesion/partition.part]", of_decide_eq_true (by kernel_rfl), Go.Proofs.Try.func58.trans (congrArg some (by kernel_rfl))⟩
  f26 := ⟨"slices.partitionEqualCmpFunc[cohesion/partition.part]", of_decide_eq_true (by kernel_rfl), Go.Proofs.Try.func59.trans (congrArg some (by kernel_rfl))⟩
  f27 := ⟨"slices.partitionCmpFunc[cohesion/partition.part]", of_decide_eq_true (by kernel_rfl), Go.Proofs.Try.func60.trans (congrArg some (by kernel_rfl))⟩
  f28 := Go.Proofs.Try.func61.trans (congrArg some (by kernel_rfl))
  f29 := Go.Proofs.Try.func62.trans (congrArg some (by kernel_rfl))
  f46 := ⟨"slices.siftDownCmpFunc[cohesion/partition.part]", of_decide_eq_true (by kernel_rfl), Go.Proofs.Try.func67.trans (congrArg some (by kernel_rfl))⟩
  f47 := Go.Proofs.Try.func68.trans (congrArg some (by kernel_rfl))
  f48 := Go.Proofs.Try.func69.trans (congrArg some (by kernel_rfl))
  f49 := ⟨"slices.medianAdjacentCmpFunc[cohesion/partition.part]", of_decide_eq_true (by kernel_rfl), Go.Proofs.Try.func70.trans (congrArg some (by kernel_rfl))⟩
  f50 := ⟨"slices.medianCmpFunc[cohesion/partition.part]", of_decide_eq_true (by kernel_rfl), Go.Proofs.Try.func71.trans (congrArg some (by kernel_rfl))⟩
  f57 := ⟨"slices.order2CmpFunc[cohesion/partition.part]", of_decide_eq_true (by kernel_rfl), Go.Proofs.Try.func73.trans (congrArg some (by kernel_rfl))⟩
  t0 := Go.Proofs.Try.underlying0
  a0 := Go.Proofs.Try.isAgg0
  z0 := Go.Proofs.Try.sizeOf0
  v0 := Go.Proofs.Try.zeroValue0
  t3 := Go.Proofs.Try.underlying3
  a3 := Go.Proofs.Try.isAgg3
  z3 := Go.Proofs.Try.sizeOf3
  v3 := Go.Proofs.Try.zeroValue3
  t4 := Go.Proofs.Try.underlying4
  a4 := Go.Proofs.Try.isAgg4
  z4 := Go.Proofs.Try.sizeOf4
  v4 := Go.Proofs.Try.zeroValue4
  t5 := Go.Proofs.Try.underlying5
  a5 := Go.Proofs.Try.isAgg5
  z5 := Go.Proofs.Try.sizeOf5
  v5 := Go.Proofs.Try.zeroValue5
  t9 := Go.Proofs.Try.underlying9
  a9 := Go.Proofs.Try.isAgg9
  z9 := Go.Proofs.Try.sizeOf9
  v9 := Go.Proofs.Try.zeroValue9
  t22 := Go.Proofs.Try.underlying58
  a22 := Go.Proofs.Try.isAgg58
  z22 := Go.Proofs.Try.sizeOf58
  v22 := Go.Proofs.Try.zeroValue58
  t25 := Go.Proofs.Try.underlying64
  a25 := Go.Proofs.Try.isAgg64
  z25 := Go.Proofs.Try.sizeOf64
  v25 := Go.Proofs.Try.zeroValue64
  t39 := Go.Proofs.Try.underlying77
  a39 := Go.Proofs.Try.isAgg77
  z39 := Go.Proofs.Try.sizeOf77
  v39 := Go.Proofs.Try.zeroValue77
  t45 := Go.Proofs.Try.underlying83
  a45 := Go.Proofs.Try.isAgg83
  z45 := Go.Proofs.Try.sizeOf83
  v45 := Go.Proofs.Try.zeroValue83
  t46 := Go.Proofs.Try.underlying84
  a46 := Go.Proofs.Try.isAgg84
  z46 := Go.Proofs.Try.sizeOf84
  v46 := Go.Proofs.Try.zeroValue84
  t50 := Go.Proofs.Try.underlying88
  a50 := Go.Proofs.Try.isAgg88
  z50 := Go.Proofs.Try.sizeOf88
  v50 := Go.Proofs.Try.zeroValue88
  t53 := Go.Proofs.Try.underlying91
  a53 := Go.Proofs.Try.isAgg91
  z53 := Go.Proofs.Try.sizeOf91
  v53 := Go.Proofs.Try.zeroValue91
  t55 := Go.Proofs.Try.underlying73
  a55 := Go.Proofs.Try.isAgg73
  z55 := Go.Proofs.Try.sizeOf73
  v55 := Go.Proofs.Try.zeroValue73
  t66 := Go.Proofs.Try.underlying94
  a66 := Go.Proofs.Try.isAgg94
  z66 := Go.Proofs.Try.sizeOf94
  v66 := Go.Proofs.Try.zeroValue94
  t70 := Go.Proofs.Try.underlying98
  a70 := Go.Proofs.Try.isAgg98
  z70 := Go.Proofs.Try.sizeOf98
  v70 := Go.Proofs.Try.zeroValue98
  t76 := Go.Proofs.Try.underlying101
  a76 := Go.Proofs.Try.isAgg101
  z76 := Go.Proofs.Try.sizeOf101
  v76 := Go.Proofs.Try.zeroValue101
  t77 := Go.Proofs.Try.underlying102
  a77 := Go.Proofs.Try.isAgg102
  z77 := Go.Proofs.Try.sizeOf102
  v77 := Go.Proofs.Try.zeroValue102
end Go.BmP
