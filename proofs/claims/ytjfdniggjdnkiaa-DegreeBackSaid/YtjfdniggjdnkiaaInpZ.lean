/- The library's sort of ints, and its sort by a comparison and Compact of edges, and degree.realise stand in the configuration. -/
import Derived.Test.YtjfdniggjdnkiaaCfS
import Derived.Test.YtjfdniggjdnkiaaLayP
import Derived.Test.YtjfdniggjdnkiaaLaySrf
import Derived.Test.YtjfdniggjdnkiaaZ02
import Derived.Test.YtjfdniggjdnkiaaCpcO
import Derived.Test.YtjfdniggjdnkiaaRzO
namespace Go.BmP
open Go.Am Go.Bm Go.Shelf
theorem cfgSInp : InpOK Go.Proofs.Try.prog cfgS := by
 refine ⟨?_, EatOK.none fun _ => rfl⟩
 intro f g hf
 have hf' : inpS f = some g := hf
 unfold inpS at hf'
 split at hf'
 ·rename_i e
  subst e
  cases hf'
  exact ⟨⟨_, _, sQu⟩, fun k xs es ys res hg _ _ => sort_inp laysSort hg⟩
 ·split at hf'
  ·rename_i e
   subst e
   cases hf'
   exact ⟨⟨_, _, sQK⟩, fun k xs es ys res hg _ _ => srf_inp laysSrf Go.Proofs.Try.isAgg50 Go.Proofs.Try.sizeOf50 totO (Go.Proofs.enters_of Go.Proofs.Try.func49 (by kernel_rfl) rfl) Go.BmZ.order_ok hg⟩
  ·split at hf'
   ·rename_i e
    subst e
    cases hf'
    exact ⟨⟨_, _, sQL⟩, fun k xs es ys res hg _ _ => cpe_inp hg⟩
   ·cases hf'
theorem cfgSOrc : OrcOKB Go.Proofs.Try.prog cfgS := by
 intro f g md q hf hq args H r H' hH hg _ X φ w B vargs hl hs _
 have hf' : orcF f = some g := hf
 unfold orcF at hf'
 split at hf'
 ·rename_i e
  subst e
  cases hf'
  exact cloW_orc hg hl hs
 ·split at hf'
  ·rename_i e
   subst e
   cases hf'
   exact rz_orc hg hl hs
  ·cases hf'
end Go.BmP
