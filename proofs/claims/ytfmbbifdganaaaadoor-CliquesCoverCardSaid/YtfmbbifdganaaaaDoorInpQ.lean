/- The library's sort of ints, and its sort by a comparison and Compact of edges stand in the configuration. -/
import Derived.Test.YtfmbbifdganaaaaDoorCfS
import Derived.Test.YtfmbbifdganaaaaDoorLayP
import Derived.Test.YtfmbbifdganaaaaDoorLaySrf
import Derived.Test.YtfmbbifdganaaaaDoorZ02
import Derived.Test.YtfmbbifdganaaaaDoorCpcO
namespace Go.BmP
open Go.Am Go.Bm Go.Shelf
theorem cfgSInp : InpOK Go.Proofs.Tryd.prog cfgS := by
 refine ⟨?_, EatOK.none fun _ => rfl⟩
 intro f g hf
 have hf' : inpS f = some g := hf
 unfold inpS at hf'
 split at hf'
 ·rename_i e
  subst e
  cases hf'
  exact ⟨⟨_, _, sQJ⟩, fun k xs es ys res hg _ _ => sort_inp laysSort hg⟩
 ·split at hf'
  ·rename_i e
   subst e
   cases hf'
   exact ⟨⟨_, _, sQA⟩, fun k xs es ys res hg _ _ => srf_inp laysSrf Go.Proofs.Tryd.isAgg37 Go.Proofs.Tryd.sizeOf37 totO (Go.Proofs.enters_of Go.Proofs.Tryd.func30 (by kernel_rfl) rfl) Go.BmZ.order_ok hg⟩
  ·split at hf'
   ·rename_i e
    subst e
    cases hf'
    exact ⟨⟨_, _, sQC⟩, fun k xs es ys res hg _ _ => cpe_inp hg⟩
   ·cases hf'
theorem cfgSOrc : OrcOKB Go.Proofs.Tryd.prog cfgS := by
 intro f g md q hf hq args H r H' hH hg _ X φ w B vargs hl hs _
 have hf' : orcF f = some g := hf
 unfold orcF at hf'
 split at hf'
 ·rename_i e
  subst e
  cases hf'
  exact cloW_orc hg hl hs
 ·cases hf'
end Go.BmP
