/- The library's sort and clone of ints lie in this program: which function and which type stands for which. -/
import Derived.Test.YtdkdlkajcjbakaaBmP
import Derived.Test.YtdkdlkajcjbakaaSrtO
import Derived.KernelRfl
set_option maxRecDepth 100000
namespace Go.BmP
open Go.Shelf Go.Proofs
def laysSort_ren : Go.Shelf.Ren := ⟨fun | 189 => 23 | 125 => 36 | 257 => 35 | 128 => 54 | 129 => 55 | 294 => 45 | 295 => 46 | 296 => 47 | 297 => 48 | 298 => 49 | 299 => 50 | 216 => 51 | 300 => 52 | 301 => 53 | 328 => 60 | 329 => 61 | 330 => 62 | 331 => 63 | 332 => 64 | 215 => 65 | 343 => 67 | n => n, fun | 28 => 22 | 3 => 3 | 46 => 42 | 0 => 0 | 51 => 87 | 53 => 89 | 4 => 4 | 183 => 79 | 182 => 78 | 131 => 84 | 5 => 5 | 9 => 9 | 218 => 92 | 222 => 96 | 228 => 99 | 229 => 100 | n => n, fun n => n⟩
theorem laysSort : Lays.n189 Go.Proofs.Try.prog laysSort_ren where
  mixed := by kernel_rfl
  f125 := Go.Proofs.Try.func36.trans (congrArg some (by kernel_rfl))
  f128 := Go.Proofs.Try.func54.trans (congrArg some (by kernel_rfl))
  f129 := Go.Proofs.Try.func55.trans (congrArg some (by kernel_rfl))
  f189 := Go.Proofs.Try.func23.trans (congrArg some (by kernel_rfl))
  f215 := Go.Proofs.Try.func65.trans (congrArg some (by kernel_rfl))
  f216 := Go.Proofs.Try.func51.trans (congrArg some (by kernel_rfl))
  f257 := Go.Proofs.Try.func35.trans (congrArg some (by kernel_rfl))
  f294 := Go.Proofs.Try.func45.trans (congrArg some (by kernel_rfl))
  f295 := Go.Proofs.Try.func46.trans (congrArg some (by kernel_rfl))
  f296 := Go.Proofs.Try.func47.trans (congrArg some (by kernel_rfl))
  f297 := Go.Proofs.Try.func48.trans (congrArg some (by kernel_rfl))
  f298 := Go.Proofs.Try.func49.trans (congrArg some (by kernel_rfl))
  f299 := Go.Proofs.Try.func50.trans (congrArg some (by kernel_rfl))
  f300 := Go.Proofs.Try.func52.trans (congrArg some (by kernel_rfl))
  f301 := Go.Proofs.Try.func53.trans (congrArg some (by kernel_rfl))
  f328 := Go.Proofs.Try.func60.trans (congrArg some (by kernel_rfl))
  f329 := Go.Proofs.Try.func61.trans (congrArg some (by kernel_rfl))
  f330 := Go.Proofs.Try.func62.trans (congrArg some (by kernel_rfl))
  f331 := Go.Proofs.Try.func63.trans (congrArg some (by kernel_rfl))
  f332 := Go.Proofs.Try.func64.trans (congrArg some (by kernel_rfl))
  f343 := Go.Proofs.Try.func67.trans (congrArg some (by kernel_rfl))
  t0 := Go.Proofs.Try.underlying0
  a0 := Go.Proofs.Try.isAgg0
  z0 := Go.Proofs.Try.sizeOf0
  v0 := Go.Proofs.Try.zeroValue0
  t3 := Go.Proofs.Try.underlying3
  a3 := Go.Proofs.Try.isAgg3
  z3 := Go.Proofs.Try.sizeOf3
  v3 := Go.Proofs.Try.zeroValue3
  t4 := Go.Proofs.Try.underlying4
  a4 := Go.Proofs.Try.isAgg4
  z4 := Go.Proofs.Try.sizeOf4
  v4 := Go.Proofs.Try.zeroValue4
  t5 := Go.Proofs.Try.underlying5
  a5 := Go.Proofs.Try.isAgg5
  z5 := Go.Proofs.Try.sizeOf5
  v5 := Go.Proofs.Try.zeroValue5
  t9 := Go.Proofs.Try.underlying9
  a9 := Go.Proofs.Try.isAgg9
  z9 := Go.Proofs.Try.sizeOf9
  v9 := Go.Proofs.Try.zeroValue9
  t28 := Go.Proofs.Try.underlying22
  a28 := Go.Proofs.Try.isAgg22
  z28 := Go.Proofs.Try.sizeOf22
  v28 := Go.Proofs.Try.zeroValue22
  t46 := Go.Proofs.Try.underlying42
  a46 := Go.Proofs.Try.isAgg42
  z46 := Go.Proofs.Try.sizeOf42
  v46 := Go.Proofs.Try.zeroValue42
  t51 := Go.Proofs.Try.underlying87
  a51 := Go.Proofs.Try.isAgg87
  z51 := Go.Proofs.Try.sizeOf87
  v51 := Go.Proofs.Try.zeroValue87
  t53 := Go.Proofs.Try.underlying89
  a53 := Go.Proofs.Try.isAgg89
  z53 := Go.Proofs.Try.sizeOf89
  v53 := Go.Proofs.Try.zeroValue89
  t131 := Go.Proofs.Try.underlying84
  a131 := Go.Proofs.Try.isAgg84
  z131 := Go.Proofs.Try.sizeOf84
  v131 := Go.Proofs.Try.zeroValue84
  t182 := Go.Proofs.Try.underlying78
  a182 := Go.Proofs.Try.isAgg78
  z182 := Go.Proofs.Try.sizeOf78
  v182 := Go.Proofs.Try.zeroValue78
  t183 := Go.Proofs.Try.underlying79
  a183 := Go.Proofs.Try.isAgg79
  z183 := Go.Proofs.Try.sizeOf79
  v183 := Go.Proofs.Try.zeroValue79
  t218 := Go.Proofs.Try.underlying92
  a218 := Go.Proofs.Try.isAgg92
  z218 := Go.Proofs.Try.sizeOf92
  v218 := Go.Proofs.Try.zeroValue92
  t222 := Go.Proofs.Try.underlying96
  a222 := Go.Proofs.Try.isAgg96
  z222 := Go.Proofs.Try.sizeOf96
  v222 := Go.Proofs.Try.zeroValue96
  t228 := Go.Proofs.Try.underlying99
  a228 := Go.Proofs.Try.isAgg99
  z228 := Go.Proofs.Try.sizeOf99
  v228 := Go.Proofs.Try.zeroValue99
  t229 := Go.Proofs.Try.underlying100
  a229 := Go.Proofs.Try.isAgg100
  z229 := Go.Proofs.Try.sizeOf100
  v229 := Go.Proofs.Try.zeroValue100
end Go.BmP
