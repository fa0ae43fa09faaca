/- The library's sort and clone of ints, and its clone and Insert of pairs stand in the configuration. -/
import Derived.Test.YtcjfhegnnjnmgaaCfS
import Derived.Test.YtcjfhegnnjnmgaaLayP
namespace Go.BmP
open Go.Am Go.Bm Go.Shelf
theorem cfgSInp : InpOK Go.Proofs.Try.prog cfgS := by
 constructor
 ·intro f g hf
  have hf' : inpS f = some g := hf
  unfold inpS at hf'
  split at hf'
  ·rename_i e
   subst e
   cases hf'
   exact ⟨⟨_, _, sSlicesSortIntInt⟩, fun k xs es ys res hg _ _ => sort_inp laysSort hg⟩
  ·cases hf'
 ·intro f g hf
  have hf' : eatS f = some g := hf
  unfold eatS at hf'
  split at hf'
  ·rename_i e
   subst e
   cases hf'
   exact ⟨⟨_, _, sSlicesInsertApiEdgeApiEdge⟩, insOK⟩
  ·split at hf'
   ·rename_i e
    subst e
    cases hf'
    exact ⟨⟨_, _, sSlicesDeleteApiEdgeApiEdge⟩, delOK⟩
   ·cases hf'
theorem cfgSOrc : OrcOKB Go.Proofs.Try.prog cfgS := by
 intro f g md q hf hq args H r H' hH hg _ X φ w B vargs hl hs _
 have hf' : orcF f = some g := hf
 unfold orcF at hf'
 split at hf'
 ·rename_i e
  subst e
  cases hf'
  exact cloW_orc hg hl hs
 ·split at hf'
  ·rename_i e
   subst e
   cases hf'
   exact cloE_orc hg hl hs
  ·cases hf'
end Go.BmP
