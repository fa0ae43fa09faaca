/- The library's sort and clone of ints lie in this program: which function and which type stands for which. -/
import Derived.Test.YtobfcahkijmebaaBmP
import Derived.Test.YtobfcahkijmebaaCloO
import Derived.KernelRfl
set_option maxRecDepth 100000
namespace Go.BmP
open Go.Shelf Go.Proofs
def laysSort_ren : Go.Shelf.Ren := ⟨fun | 189 => 37 | 125 => 42 | 257 => 41 | 128 => 52 | 129 => 53 | 294 => 43 | 295 => 44 | 296 => 45 | 297 => 46 | 298 => 47 | 299 => 48 | 216 => 49 | 300 => 50 | 301 => 51 | 328 => 54 | 329 => 55 | 330 => 56 | 331 => 57 | 332 => 58 | 215 => 40 | 343 => 59 | n => n, fun | 28 => 22 | 3 => 3 | 46 => 44 | 0 => 0 | 51 => 55 | 53 => 57 | 4 => 4 | 183 => 47 | 182 => 46 | 131 => 52 | 5 => 5 | 9 => 9 | 218 => 58 | 222 => 62 | 228 => 64 | 229 => 65 | n => n, fun n => n⟩
theorem laysSort : Lays.n189 Go.Proofs.Try.prog laysSort_ren where
  mixed := by kernel_rfl
  f125 := Go.Proofs.Try.func42.trans (congrArg some (by kernel_rfl))
  f128 := Go.Proofs.Try.func52.trans (congrArg some (by kernel_rfl))
  f129 := Go.Proofs.Try.func53.trans (congrArg some (by kernel_rfl))
  f189 := Go.Proofs.Try.func37.trans (congrArg some (by kernel_rfl))
  f215 := Go.Proofs.Try.func40.trans (congrArg some (by kernel_rfl))
  f216 := Go.Proofs.Try.func49.trans (congrArg some (by kernel_rfl))
  f257 := Go.Proofs.Try.func41.trans (congrArg some (by kernel_rfl))
  f294 := Go.Proofs.Try.func43.trans (congrArg some (by kernel_rfl))
  f295 := Go.Proofs.Try.func44.trans (congrArg some (by kernel_rfl))
  f296 := Go.Proofs.Try.func45.trans (congrArg some (by kernel_rfl))
  f297 := Go.Proofs.Try.func46.trans (congrArg some (by kernel_rfl))
  f298 := Go.Proofs.Try.func47.trans (congrArg some (by kernel_rfl))
  f299 := Go.Proofs.Try.func48.trans (congrArg some (by kernel_rfl))
  f300 := Go.Proofs.Try.func50.trans (congrArg some (by kernel_rfl))
  f301 := Go.Proofs.Try.func51.trans (congrArg some (by kernel_rfl))
  f328 := Go.Proofs.Try.func54.trans (congrArg some (by kernel_rfl))
  f329 := Go.Proofs.Try.func55.trans (congrArg some (by kernel_rfl))
  f330 := Go.Proofs.Try.func56.trans (congrArg some (by kernel_rfl))
  f331 := Go.Proofs.Try.func57.trans (congrArg some (by kernel_rfl))
  f332 := Go.Proofs.Try.func58.trans (congrArg some (by kernel_rfl))
  f343 := Go.Proofs.Try.func59.trans (congrArg some (by kernel_rfl))
  t0 := Go.Proofs.Try.underlying0
  a0 := Go.Proofs.Try.isAgg0
  z0 := Go.Proofs.Try.sizeOf0
  v0 := Go.Proofs.Try.zeroValue0
  t3 := Go.Proofs.Try.underlying3
  a3 := Go.Proofs.Try.isAgg3
  z3 := Go.Proofs.Try.sizeOf3
  v3 := Go.Proofs.Try.zeroValue3
  t4 := Go.Proofs.Try.underlying4
  a4 := Go.Proofs.Try.isAgg4
  z4 := Go.Proofs.Try.sizeOf4
  v4 := Go.Proofs.Try.zeroValue4
  t5 := Go.Proofs.Try.underlying5
  a5 := Go.Proofs.Try.isAgg5
  z5 := Go.Proofs.Try.sizeOf5
  v5 := Go.Proofs.Try.zeroValue5
  t9 := Go.Proofs.Try.underlying9
  a9 := Go.Proofs.Try.isAgg9
  z9 := Go.Proofs.Try.sizeOf9
  v9 := Go.Proofs.Try.zeroValue9
  t28 := Go.Proofs.Try.underlying22
  a28 := Go.Proofs.Try.isAgg22
  z28 := Go.Proofs.Try.sizeOf22
  v28 := Go.Proofs.Try.zeroValue22
  t46 := Go.Proofs.Try.underlying44
  a46 := Go.Proofs.Try.isAgg44
  z46 := Go.Proofs.Try.sizeOf44
  v46 := Go.Proofs.Try.zeroValue44
  t51 := Go.Proofs.Try.underlying55
  a51 := Go.Proofs.Try.isAgg55
  z51 := Go.Proofs.Try.sizeOf55
  v51 := Go.Proofs.Try.zeroValue55
  t53 := Go.Proofs.Try.underlying57
  a53 := Go.Proofs.Try.isAgg57
  z53 := Go.Proofs.Try.sizeOf57
  v53 := Go.Proofs.Try.zeroValue57
  t131 := Go.Proofs.Try.underlying52
  a131 := Go.Proofs.Try.isAgg52
  z131 := Go.Proofs.Try.sizeOf52
  v131 := Go.Proofs.Try.zeroValue52
  t182 := Go.Proofs.Try.underlying46
  a182 := Go.Proofs.Try.isAgg46
  z182 := Go.Proofs.Try.sizeOf46
  v182 := Go.Proofs.Try.zeroValue46
  t183 := Go.Proofs.Try.underlying47
  a183 := Go.Proofs.Try.isAgg47
  z183 := Go.Proofs.Try.sizeOf47
  v183 := Go.Proofs.Try.zeroValue47
  t218 := Go.Proofs.Try.underlying58
  a218 := Go.Proofs.Try.isAgg58
  z218 := Go.Proofs.Try.sizeOf58
  v218 := Go.Proofs.Try.zeroValue58
  t222 := Go.Proofs.Try.underlying62
  a222 := Go.Proofs.Try.isAgg62
  z222 := Go.Proofs.Try.sizeOf62
  v222 := Go.Proofs.Try.zeroValue62
  t228 := Go.Proofs.Try.underlying64
  a228 := Go.Proofs.Try.isAgg64
  z228 := Go.Proofs.Try.sizeOf64
  v228 := Go.Proofs.Try.zeroValue64
  t229 := Go.Proofs.Try.underlying65
  a229 := Go.Proofs.Try.isAgg65
  z229 := Go.Proofs.Try.sizeOf65
  v229 := Go.Proofs.Try.zeroValue65
def laysClone_ren : Go.Shelf.Ren := ⟨fun | 15 => 36 | n => n, fun | 22 => 22 | 3 => 3 | 4 => 4 | n => n, fun n => n⟩
theorem laysClone : Lays2.n15 Go.Proofs.Try.prog laysClone_ren where
  mixed := by kernel_rfl
  f15 := Go.Proofs.Try.func36.trans (congrArg some (by kernel_rfl))
  t3 := Go.Proofs.Try.underlying3
  a3 := Go.Proofs.Try.isAgg3
  z3 := Go.Proofs.Try.sizeOf3
  v3 := Go.Proofs.Try.zeroValue3
  t4 := Go.Proofs.Try.underlying4
  a4 := Go.Proofs.Try.isAgg4
  z4 := Go.Proofs.Try.sizeOf4
  v4 := Go.Proofs.Try.zeroValue4
  t22 := Go.Proofs.Try.underlying22
  a22 := Go.Proofs.Try.isAgg22
  z22 := Go.Proofs.Try.sizeOf22
  v22 := Go.Proofs.Try.zeroValue22
  i3 := by kernel_rfl
def laysCompact_ren : Go.Shelf.Ren := ⟨fun | 20 => 38 | n => n, fun | 22 => 22 | 3 => 3 | 4 => 4 | 0 => 0 | n => n, fun n => n⟩
theorem laysCompact : Lays2.n20 Go.Proofs.Try.prog laysCompact_ren where
  mixed := by kernel_rfl
  f20 := Go.Proofs.Try.func38.trans (congrArg some (by kernel_rfl))
  t0 := Go.Proofs.Try.underlying0
  a0 := Go.Proofs.Try.isAgg0
  z0 := Go.Proofs.Try.sizeOf0
  v0 := Go.Proofs.Try.zeroValue0
  t3 := Go.Proofs.Try.underlying3
  a3 := Go.Proofs.Try.isAgg3
  z3 := Go.Proofs.Try.sizeOf3
  v3 := Go.Proofs.Try.zeroValue3
  t4 := Go.Proofs.Try.underlying4
  a4 := Go.Proofs.Try.isAgg4
  z4 := Go.Proofs.Try.sizeOf4
  v4 := Go.Proofs.Try.zeroValue4
  t22 := Go.Proofs.Try.underlying22
  a22 := Go.Proofs.Try.isAgg22
  z22 := Go.Proofs.Try.sizeOf22
  v22 := Go.Proofs.Try.zeroValue22
  i3 := by kernel_rfl
end Go.BmP
