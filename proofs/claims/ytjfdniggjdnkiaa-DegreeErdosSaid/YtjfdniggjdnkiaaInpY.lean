/- The library's sort and clone of ints, and degree.realise stand in the configuration. -/
import Derived.Test.YtjfdniggjdnkiaaCfS
import Derived.Test.YtjfdniggjdnkiaaLayP
import Derived.Test.YtjfdniggjdnkiaaRzO
namespace Go.BmP
open Go.Am Go.Bm Go.Shelf
theorem cfgSInp : InpOK Go.Proofs.Try.prog cfgS := by
  refine ⟨?_, EatOK.none fun _ => rfl⟩
  intro f g hf
  have hf' : inpS f = some g := hf
  unfold inpS at hf'
  split at hf'
  · rename_i e
    subst e
    cases hf'
    exact ⟨⟨_, _, sSlicesSortIntInt⟩, fun k xs es ys res hg _ _ => sort_inp laysSort hg⟩
  · cases hf'
theorem cfgSOrc : OrcOKB Go.Proofs.Try.prog cfgS := by
  intro f g md q hf hq args H r H' hH hg _ X φ w B vargs hl hs _
  have hf' : orcF f = some g := hf
  unfold orcF at hf'
  split at hf'
  · rename_i e
    subst e
    cases hf'
    exact cloW_orc hg hl hs
  · split at hf'
    · rename_i e
      subst e
      cases hf'
      exact rz_orc hg hl hs
    · cases hf'
#print axioms cfgSInp
#print axioms cfgSOrc
end Go.BmP
