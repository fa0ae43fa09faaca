/- The library's sort, reverse and clone of ints, and degree.Graphic of two lists stand in the configuration. -/
import Derived.Test.YtegmpkeejgflnaaCfS
import Derived.Test.YtegmpkeejgflnaaLayP
import Derived.Test.YtegmpkeejgflnaaDgO
namespace Go.BmP
open Go.Am Go.Bm Go.Shelf
theorem cfgSInp : InpOK Go.Proofs.Try.prog cfgS := by
 refine ⟨?_, EatOK.none fun _ => rfl⟩
 intro f g hf
 have hf' : inpS f = some g := hf
 unfold inpS at hf'
 split at hf'
 ·rename_i e
  subst e
  cases hf'
  exact ⟨⟨_, _, sQu⟩, fun k xs es ys res hg _ _ => sort_inp laysSort hg⟩
 ·split at hf'
  ·rename_i e
   subst e
   cases hf'
   exact ⟨⟨_, _, sQv⟩, fun k xs es ys res hg _ _ => rev_inp laysRev hg⟩
  ·cases hf'
theorem cfgSOrc : OrcOKB Go.Proofs.Try.prog cfgS := by
 intro f g md q hf hq args H r H' hH hg _ X φ w B vargs hl hs _
 have hf' : orcF f = some g := hf
 unfold orcF at hf'
 split at hf'
 ·rename_i e
  subst e
  cases hf'
  exact cloW_orc hg hl hs
 ·split at hf'
  ·rename_i e
   subst e
   cases hf'
   exact dg_orc hg hl hs
  ·cases hf'
end Go.BmP
