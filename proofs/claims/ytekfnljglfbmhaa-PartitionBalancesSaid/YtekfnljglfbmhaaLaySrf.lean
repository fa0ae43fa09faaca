/- The library's sort by a comparison lies in this program: which function and which type stands for which. -/
import Derived.Test.YtekfnljglfbmhaaBmP
import Derived.Shelf.SlSortCmp.NoneTotal
import Derived.KernelRfl
set_option maxRecDepth 100000
namespace Go.BmP
open Go.Shelf Go.Proofs
def laysSrf_ren : Go.Shelf.Ren := ⟨fun | 6 => 26 | 15 => 51 | 14 => 50 | 28 => 67 | 29 => 68 | 20 => 59 | 21 => 60 | 22 => 61 | 23 => 62 | 24 => 63 | 25 => 64 | 26 => 65 | 27 => 66 | 46 => 73 | 47 => 74 | 48 => 75 | 49 => 76 | 50 => 77 | 57 => 82 | n => n, fun | 22 => 57 | 24 => 59 | 25 => 63 | 3 => 3 | 39 => 80 | 0 => 0 | 53 => 93 | 55 => 76 | 4 => 4 | 46 => 86 | 45 => 85 | 50 => 90 | 5 => 5 | 9 => 9 | 66 => 97 | 70 => 101 | 76 => 105 | 77 => 106 | n => n, fun n => n⟩
theorem laysSrf : SlLaysF0.n6 Go.Proofs.Try.prog laysSrf_ren where
  mixed := by kernel_rfl
  f6 := ⟨"slices.SortFunc[[]cohesion/partition.part,cohesion/partition.part]", of_decide_eq_true (by kernel_rfl), Go.Proofs.Try.func26.trans (congrArg some (by kernel_rfl))⟩
  f14 := ⟨"slices.pdqsortCmpFunc[cohesion/partition.part]", of_decide_eq_true (by kernel_rfl), Go.Proofs.Try.func50.trans (congrArg some (by kernel_rfl))⟩
  f15 := Go.Proofs.Try.func51.trans (congrArg some (by kernel_rfl))
  f20 := ⟨"slices.insertionSortCmpFunc[cohesion/partition.part]", of_decide_eq_true (by kernel_rfl), Go.Proofs.Try.func59.trans (congrArg some (by kernel_rfl))⟩
  f21 := ⟨"slices.heapSortCmpFunc[cohesion/partition.part]", of_decide_eq_true (by kernel_rfl), Go.Proofs.Try.func60.trans (congrArg some (by kernel_rfl))⟩
  f22 := ⟨"slices.breakPatternsCmpFunc[cohesion/partition.part]", of_decide_eq_true (by kernel_rfl), Go.Proofs.Try.func61.trans (congrArg some (by kernel_rfl))⟩
  f23 := ⟨"slices.choosePivotCmpFunc[cohesion/partition.part]", of_decide_eq_true (by kernel_rfl), Go.Proofs.Try.func62.trans (congrArg some (by kernel_rfl))⟩
  f24 := ⟨"slices.reverseRangeCmpFunc[cohesion/partition.part]", of_decide_eq_true (by kernel_rfl), Go.Proofs.Try.func63.trans (congrArg some (by kernel_rfl))⟩
  f25 := ⟨"slices.partialInsertionSortCmpFunc[cohesion/partition.part]", of_decide_eq_true (by kernel_rfl), Go.Proofs.Try.func64.trans (congrArg some (by kernel_rfl))⟩
  f26 := ⟨"slices.partitionEqualCmpFunc[cohesion/partition.part]", of_decide_eq_true (by kernel_rfl), Go.Proofs.Try.func65.trans (congrArg some (by kernel_rfl))⟩
  f27 := ⟨"slices.partitionCmpFunc[cohesion/partition.part]", of_decide_eq_true (by kernel_rfl), Go.Proofs.Try.func66.trans (congrArg some (by kernel_rfl))⟩
  f28 := Go.Proofs.Try.func67.trans (congrArg some (by kernel_rfl))
  f29 := Go.Proofs.Try.func68.trans (congrArg some (by kernel_rfl))
  f46 := ⟨"slices.siftDownCmpFunc[cohesion/partition.part]", of_decide_eq_true (by kernel_rfl), Go.Proofs.Try.func73.trans (congrArg some (by kernel_rfl))⟩
  f47 := Go.Proofs.Try.func74.trans (congrArg some (by kernel_rfl))
  f48 := Go.Proofs.Try.func75.trans (congrArg some (by kernel_rfl))
  f49 := ⟨"slices.medianAdjacentCmpFunc[cohesion/partition.part]", of_decide_eq_true (by kernel_rfl), Go.Proofs.Try.func76.trans (congrArg some (by kernel_rfl))⟩
  f50 := ⟨"slices.medianCmpFunc[cohesion/partition.part]", of_decide_eq_true (by kernel_rfl), Go.Proofs.Try.func77.trans (congrArg some (by kernel_rfl))⟩
  f57 := ⟨"slices.order2CmpFunc[cohesion/partition.part]", of_decide_eq_true (by kernel_rfl), Go.Proofs.Try.func82.trans (congrArg some (by kernel_rfl))⟩
  t0 := Go.Proofs.Try.underlying0
  a0 := Go.Proofs.Try.isAgg0
  z0 := Go.Proofs.Try.sizeOf0
  v0 := Go.Proofs.Try.zeroValue0
  t3 := Go.Proofs.Try.underlying3
  a3 := Go.Proofs.Try.isAgg3
  z3 := Go.Proofs.Try.sizeOf3
  v3 := Go.Proofs.Try.zeroValue3
  t4 := Go.Proofs.Try.underlying4
  a4 := Go.Proofs.Try.isAgg4
  z4 := Go.Proofs.Try.sizeOf4
  v4 := Go.Proofs.Try.zeroValue4
  t5 := Go.Proofs.Try.underlying5
  a5 := Go.Proofs.Try.isAgg5
  z5 := Go.Proofs.Try.sizeOf5
  v5 := Go.Proofs.Try.zeroValue5
  t9 := Go.Proofs.Try.underlying9
  a9 := Go.Proofs.Try.isAgg9
  z9 := Go.Proofs.Try.sizeOf9
  v9 := Go.Proofs.Try.zeroValue9
  t22 := Go.Proofs.Try.underlying57
  a22 := Go.Proofs.Try.isAgg57
  z22 := Go.Proofs.Try.sizeOf57
  v22 := Go.Proofs.Try.zeroValue57
  t25 := Go.Proofs.Try.underlying63
  a25 := Go.Proofs.Try.isAgg63
  z25 := Go.Proofs.Try.sizeOf63
  v25 := Go.Proofs.Try.zeroValue63
  t39 := Go.Proofs.Try.underlying80
  a39 := Go.Proofs.Try.isAgg80
  z39 := Go.Proofs.Try.sizeOf80
  v39 := Go.Proofs.Try.zeroValue80
  t45 := Go.Proofs.Try.underlying85
  a45 := Go.Proofs.Try.isAgg85
  z45 := Go.Proofs.Try.sizeOf85
  v45 := Go.Proofs.Try.zeroValue85
  t46 := Go.Proofs.Try.underlying86
  a46 := Go.Proofs.Try.isAgg86
  z46 := Go.Proofs.Try.sizeOf86
  v46 := Go.Proofs.Try.zeroValue86
  t50 := Go.Proofs.Try.underlying90
  a50 := Go.Proofs.Try.isAgg90
  z50 := Go.Proofs.Try.sizeOf90
  v50 := Go.Proofs.Try.zeroValue90
  t53 := Go.Proofs.Try.underlying93
  a53 := Go.Proofs.Try.isAgg93
  z53 := Go.Proofs.Try.sizeOf93
  v53 := Go.Proofs.Try.zeroValue93
  t55 := Go.Proofs.Try.underlying76
  a55 := Go.Proofs.Try.isAgg76
  z55 := Go.Proofs.Try.sizeOf76
  v55 := Go.Proofs.Try.zeroValue76
  t66 := Go.Proofs.Try.underlying97
  a66 := Go.Proofs.Try.isAgg97
  z66 := Go.Proofs.Try.sizeOf97
  v66 := Go.Proofs.Try.zeroValue97
  t70 := Go.Proofs.Try.underlying101
  a70 := Go.Proofs.Try.isAgg101
  z70 := Go.Proofs.Try.sizeOf101
  v70 := Go.Proofs.Try.zeroValue101
  t76 := Go.Proofs.Try.underlying105
  a76 := Go.Proofs.Try.isAgg105
  z76 := Go.Proofs.Try.sizeOf105
  v76 := Go.Proofs.Try.zeroValue105
  t77 := Go.Proofs.Try.underlying106
  a77 := Go.Proofs.Try.isAgg106
  z77 := Go.Proofs.Try.sizeOf106
  v77 := Go.Proofs.Try.zeroValue106
end Go.BmP
