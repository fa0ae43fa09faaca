/- The library's sort and clone of ints stand in the configuration. -/
import Derived.Test.YtmoginoicilobaaGreatDoorCfS
import Derived.Test.YtmoginoicilobaaGreatDoorLayP
open Go.Proofs.Tryz renaming prog → ah
namespace Go.BmP
open Go.Am Go.Bm Go.Shelf
theorem ab1 : vU ah aj := by
 refine ⟨?_,Jy.none fun _ => rfl⟩;intro f g hf;have Zc : KR f = some g := hf;unfold KR at Zc;split at Zc
 ·rename_i e;subst e;cases Zc;exact ⟨⟨_,_,sQS⟩,fun k xs es ys res hg _ _ => We YB hg⟩
 ·cases Zc
theorem ab0 : vT ah aj := by
 intro f g md q hf hq args H r H' hH hg _ X φ w B vargs hl hs _;have Zc : orcF f = some g := hf;unfold orcF at Zc;split at Zc
 ·rename_i e;subst e;cases Zc;exact ZL hg hl hs
 ·cases Zc
end Go.BmP
