/- The library's sort and clone of ints stand in the configuration. -/
import Derived.Test.YtholnjkicdifdaaDoorCfS
import Derived.Test.YtholnjkicdifdaaDoorLayP
import Derived.Test.YtholnjkicdifdaaDoorCloI
namespace Go.BmP
open Go.Am Go.Bm Go.Shelf
theorem cfgSInp : InpOK Go.Proofs.Tryd.prog cfgS := by
 refine ⟨?_,EatOK.none fun _ => rfl⟩;intro f g hf;have hf' : inpS f = some g := hf;unfold inpS at hf';split at hf'
 ·rename_i e;subst e;cases hf';exact ⟨⟨_,_,sQE⟩,fun k xs es ys res hg _ _ => sort_inp laysSort hg⟩
 ·cases hf'
theorem cfgSOrc : OrcOKB Go.Proofs.Tryd.prog cfgS := by
 intro f g md q hf hq args H r H' hH hg _ X φ w B vargs hl hs _;have hf' : orcF f = some g := hf;unfold orcF at hf';split at hf'
 ·rename_i e;subst e;cases hf';exact cloW_orc hg hl hs
 ·cases hf'
end Go.BmP
