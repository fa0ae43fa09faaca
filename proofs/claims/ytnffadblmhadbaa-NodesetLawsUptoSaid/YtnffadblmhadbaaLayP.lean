/- The library's sort and clone of ints lie in this program: which function and which type stands for which. -/
import Derived.Test.YtnffadblmhadbaaAmP
import Derived.Test.YtnffadblmhadbaaAmS
import Derived.Shelf.Slices.Clone
import Derived.Shelf.Slices.CompactI
import Derived.KernelRfl
set_option maxRecDepth 100000
namespace Go.AmP
open Go.Shelf Go.Proofs
def laysSort_ren : Go.Shelf.Ren := ⟨fun | 189 => 26 | 125 => 31 | 257 => 30 | 128 => 41 | 129 => 42 | 294 => 32 | 295 => 33 | 296 => 34 | 297 => 35 | 298 => 36 | 299 => 37 | 216 => 38 | 300 => 39 | 301 => 40 | 328 => 43 | 329 => 44 | 330 => 45 | 331 => 46 | 332 => 47 | 215 => 29 | 343 => 48 | n => n, fun | 28 => 22 | 3 => 3 | 46 => 40 | 0 => 0 | 51 => 51 | 53 => 53 | 4 => 4 | 183 => 43 | 182 => 42 | 131 => 48 | 5 => 5 | 9 => 9 | 218 => 54 | 222 => 58 | 228 => 60 | 229 => 61 | n => n, fun n => n⟩
theorem laysSort : Lays.n189 Go.Proofs.Try.prog laysSort_ren where
  mixed := by kernel_rfl
  f125 := Go.Proofs.Try.func31.trans (congrArg some (by kernel_rfl))
  f128 := Go.Proofs.Try.func41.trans (congrArg some (by kernel_rfl))
  f129 := Go.Proofs.Try.func42.trans (congrArg some (by kernel_rfl))
  f189 := Go.Proofs.Try.func26.trans (congrArg some (by kernel_rfl))
  f215 := Go.Proofs.Try.func29.trans (congrArg some (by kernel_rfl))
  f216 := Go.Proofs.Try.func38.trans (congrArg some (by kernel_rfl))
  f257 := Go.Proofs.Try.func30.trans (congrArg some (by kernel_rfl))
  f294 := Go.Proofs.Try.func32.trans (congrArg some (by kernel_rfl))
  f295 := Go.Proofs.Try.func33.trans (congrArg some (by kernel_rfl))
  f296 := Go.Proofs.Try.func34.trans (congrArg some (by kernel_rfl))
  f297 := Go.Proofs.Try.func35.trans (congrArg some (by kernel_rfl))
  f298 := Go.Proofs.Try.func36.trans (congrArg some (by kernel_rfl))
  f299 := Go.Proofs.Try.func37.trans (congrArg some (by kernel_rfl))
  f300 := Go.Proofs.Try.func39.trans (congrArg some (by kernel_rfl))
  f301 := Go.Proofs.Try.func40.trans (congrArg some (by kernel_rfl))
  f328 := Go.Proofs.Try.func43.trans (congrArg some (by kernel_rfl))
  f329 := Go.Proofs.Try.func44.trans (congrArg some (by kernel_rfl))
  f330 := Go.Proofs.Try.func45.trans (congrArg some (by kernel_rfl))
  f331 := Go.Proofs.Try.func46.trans (congrArg some (by kernel_rfl))
  f332 := Go.Proofs.Try.func47.trans (congrArg some (by kernel_rfl))
  f343 := Go.Proofs.Try.func48.trans (congrArg some (by kernel_rfl))
  t0 := Go.Proofs.Try.underlying0
  a0 := Go.Proofs.Try.isAgg0
  z0 := Go.Proofs.Try.sizeOf0
  v0 := Go.Proofs.Try.zeroValue0
  t3 := Go.Proofs.Try.underlying3
  a3 := Go.Proofs.Try.isAgg3
  z3 := Go.Proofs.Try.sizeOf3
  v3 := Go.Proofs.Try.zeroValue3
  t4 := Go.Proofs.Try.underlying4
  a4 := Go.Proofs.Try.isAgg4
  z4 := Go.Proofs.Try.sizeOf4
  v4 := Go.Proofs.Try.zeroValue4
  t5 := Go.Proofs.Try.underlying5
  a5 := Go.Proofs.Try.isAgg5
  z5 := Go.Proofs.Try.sizeOf5
  v5 := Go.Proofs.Try.zeroValue5
  t9 := Go.Proofs.Try.underlying9
  a9 := Go.Proofs.Try.isAgg9
  z9 := Go.Proofs.Try.sizeOf9
  v9 := Go.Proofs.Try.zeroValue9
  t28 := Go.Proofs.Try.underlying22
  a28 := Go.Proofs.Try.isAgg22
  z28 := Go.Proofs.Try.sizeOf22
  v28 := Go.Proofs.Try.zeroValue22
  t46 := Go.Proofs.Try.underlying40
  a46 := Go.Proofs.Try.isAgg40
  z46 := Go.Proofs.Try.sizeOf40
  v46 := Go.Proofs.Try.zeroValue40
  t51 := Go.Proofs.Try.underlying51
  a51 := Go.Proofs.Try.isAgg51
  z51 := Go.Proofs.Try.sizeOf51
  v51 := Go.Proofs.Try.zeroValue51
  t53 := Go.Proofs.Try.underlying53
  a53 := Go.Proofs.Try.isAgg53
  z53 := Go.Proofs.Try.sizeOf53
  v53 := Go.Proofs.Try.zeroValue53
  t131 := Go.Proofs.Try.underlying48
  a131 := Go.Proofs.Try.isAgg48
  z131 := Go.Proofs.Try.sizeOf48
  v131 := Go.Proofs.Try.zeroValue48
  t182 := Go.Proofs.Try.underlying42
  a182 := Go.Proofs.Try.isAgg42
  z182 := Go.Proofs.Try.sizeOf42
  v182 := Go.Proofs.Try.zeroValue42
  t183 := Go.Proofs.Try.underlying43
  a183 := Go.Proofs.Try.isAgg43
  z183 := Go.Proofs.Try.sizeOf43
  v183 := Go.Proofs.Try.zeroValue43
  t218 := Go.Proofs.Try.underlying54
  a218 := Go.Proofs.Try.isAgg54
  z218 := Go.Proofs.Try.sizeOf54
  v218 := Go.Proofs.Try.zeroValue54
  t222 := Go.Proofs.Try.underlying58
  a222 := Go.Proofs.Try.isAgg58
  z222 := Go.Proofs.Try.sizeOf58
  v222 := Go.Proofs.Try.zeroValue58
  t228 := Go.Proofs.Try.underlying60
  a228 := Go.Proofs.Try.isAgg60
  z228 := Go.Proofs.Try.sizeOf60
  v228 := Go.Proofs.Try.zeroValue60
  t229 := Go.Proofs.Try.underlying61
  a229 := Go.Proofs.Try.isAgg61
  z229 := Go.Proofs.Try.sizeOf61
  v229 := Go.Proofs.Try.zeroValue61
def laysClone_ren : Go.Shelf.Ren := ⟨fun | 15 => 25 | n => n, fun | 22 => 22 | 3 => 3 | 4 => 4 | n => n, fun n => n⟩
theorem laysClone : Lays2.n15 Go.Proofs.Try.prog laysClone_ren where
  mixed := by kernel_rfl
  f15 := Go.Proofs.Try.func25.trans (congrArg some (by kernel_rfl))
  t3 := Go.Proofs.Try.underlying3
  a3 := Go.Proofs.Try.isAgg3
  z3 := Go.Proofs.Try.sizeOf3
  v3 := Go.Proofs.Try.zeroValue3
  t4 := Go.Proofs.Try.underlying4
  a4 := Go.Proofs.Try.isAgg4
  z4 := Go.Proofs.Try.sizeOf4
  v4 := Go.Proofs.Try.zeroValue4
  t22 := Go.Proofs.Try.underlying22
  a22 := Go.Proofs.Try.isAgg22
  z22 := Go.Proofs.Try.sizeOf22
  v22 := Go.Proofs.Try.zeroValue22
  i3 := by kernel_rfl
def laysCompact_ren : Go.Shelf.Ren := ⟨fun | 20 => 27 | n => n, fun | 22 => 22 | 3 => 3 | 4 => 4 | 0 => 0 | n => n, fun n => n⟩
theorem laysCompact : Lays2.n20 Go.Proofs.Try.prog laysCompact_ren where
  mixed := by kernel_rfl
  f20 := Go.Proofs.Try.func27.trans (congrArg some (by kernel_rfl))
  t0 := Go.Proofs.Try.underlying0
  a0 := Go.Proofs.Try.isAgg0
  z0 := Go.Proofs.Try.sizeOf0
  v0 := Go.Proofs.Try.zeroValue0
  t3 := Go.Proofs.Try.underlying3
  a3 := Go.Proofs.Try.isAgg3
  z3 := Go.Proofs.Try.sizeOf3
  v3 := Go.Proofs.Try.zeroValue3
  t4 := Go.Proofs.Try.underlying4
  a4 := Go.Proofs.Try.isAgg4
  z4 := Go.Proofs.Try.sizeOf4
  v4 := Go.Proofs.Try.zeroValue4
  t22 := Go.Proofs.Try.underlying22
  a22 := Go.Proofs.Try.isAgg22
  z22 := Go.Proofs.Try.sizeOf22
  v22 := Go.Proofs.Try.zeroValue22
  i3 := by kernel_rfl
end Go.AmP
