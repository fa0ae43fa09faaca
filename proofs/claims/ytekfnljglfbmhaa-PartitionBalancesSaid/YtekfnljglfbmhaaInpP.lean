/- The library's sort by a comparison stands in the configuration. -/
import Derived.Test.YtekfnljglfbmhaaCfS
import Derived.Test.YtekfnljglfbmhaaLaySrf
import Derived.Test.YtekfnljglfbmhaaZ01
namespace Go.BmP
open Go.Am Go.Bm Go.Shelf
theorem cfgSInp : InpOK Go.Proofs.Try.prog cfgS := by
  intro f g hf
  have hf' : inpS f = some g := hf
  unfold inpS at hf'
  split at hf'
  · rename_i e
    subst e
    cases hf'
    exact ⟨⟨_, _, sSlicesSortFuncPartitionPartPartitionPart⟩, fun k xs es ys res hg _ _ => srf_inp laysSrf Go.Proofs.Try.isAgg59 Go.Proofs.Try.sizeOf59 totP (Go.Proofs.enters_of Go.Proofs.Try.func27 (by kernel_rfl) rfl) Go.BmZ.make1_ok hg⟩
  · cases hf'
theorem cfgSOrc : OrcOKB Go.Proofs.Try.prog cfgS := by
  intro f g md q hf hq args H r H' hH hg _ X φ w B vargs hl hs _
  have hf' : orcF f = some g := hf
  cases hf'
#print axioms cfgSInp
#print axioms cfgSOrc
end Go.BmP
