/- A function of the library lies in this program: which function and which type stands for which. -/
import Derived.Test.YtkhnplbbngkjkaaBmP
import Derived.Shelf.SlicesE.DeleteFunc
import Derived.Ground.SlgfProg
import Derived.KernelRfl
set_option maxRecDepth 100000
namespace Go.BmP
open Go.Shelf Go.Proofs
def laysDlf_ren : Go.Shelf.Ren := ⟨fun | 10 => 24 | 6 => 41 | n => n, fun | 22 => 22 | 23 => 3 | 25 => 55 | 3 => 3 | 4 => 4 | 0 => 0 | n => n, fun n => n⟩
theorem laysDlf : SlLaysH.n10 Go.Proofs.Try.prog laysDlf_ren where
  mixed := by kernel_rfl
  f6 := ⟨"slices.IndexFunc[[]int,int]", of_decide_eq_true (by kernel_rfl), Go.Proofs.Try.func41.trans (congrArg some (by kernel_rfl))⟩
  f10 := ⟨"slices.DeleteFunc[[]int,int]", of_decide_eq_true (by kernel_rfl), Go.Proofs.Try.func24.trans (congrArg some (by kernel_rfl))⟩
  t0 := Go.Proofs.Try.underlying0
  a0 := Go.Proofs.Try.isAgg0
  z0 := Go.Proofs.Try.sizeOf0
  v0 := Go.Proofs.Try.zeroValue0
  t3 := Go.Proofs.Try.underlying3
  a3 := Go.Proofs.Try.isAgg3
  z3 := Go.Proofs.Try.sizeOf3
  v3 := Go.Proofs.Try.zeroValue3
  t4 := Go.Proofs.Try.underlying4
  a4 := Go.Proofs.Try.isAgg4
  z4 := Go.Proofs.Try.sizeOf4
  v4 := Go.Proofs.Try.zeroValue4
  t22 := Go.Proofs.Try.underlying22
  a22 := Go.Proofs.Try.isAgg22
  z22 := Go.Proofs.Try.sizeOf22
  v22 := Go.Proofs.Try.zeroValue22
  a23 := Go.Proofs.Try.isAgg3
  z23 := Go.Proofs.Try.sizeOf3
  t25 := Go.Proofs.Try.underlying55
  a25 := Go.Proofs.Try.isAgg55
  z25 := Go.Proofs.Try.sizeOf55
  v25 := Go.Proofs.Try.zeroValue55
end Go.BmP
