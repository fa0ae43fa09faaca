/- The library's sort, compact, reverse and clone of ints stand in the configuration. -/
import Derived.Test.YtmildmgogdmknaaGreatDoorCfS
import Derived.Test.YtmildmgogdmknaaGreatDoorLayP
open Go.Proofs.Tryz renaming prog → aj
namespace Go.BmP
open Go.Am Go.Bm Go.Shelf
theorem ah2:AG aj aq:=by
 refine⟨?_,PL.none fun _=>rfl⟩;intro f g hf;have Xf:MW f=some g:=hf;unfold MW at Xf;split at Xf
 ·rename_i e;subst e;cases Xf;exact⟨⟨_,_,sQd3⟩,fun k xs es ys res hg _ _=>acn aeJ hg⟩
 ·split at Xf
  ·rename_i e;subst e;cases Xf;exact⟨⟨_,_,sQd4⟩,fun k xs es ys res hg _ _=>Vq Ud hg⟩
  ·split at Xf
   ·rename_i e;subst e;cases Xf;exact⟨⟨_,_,sQJ⟩,fun k xs es ys res hg _ _=>agl ag9 hg⟩
   ·cases Xf
theorem ah1:AD aj aq:=by
 intro f g md q hf hq args H r H' hH hg _ X φ w B vargs hl hs _;have Xf:orcF f=some g:=hf;unfold orcF at Xf;split at Xf
 ·rename_i e;subst e;cases Xf;exact ahI hg hl hs
 ·cases Xf
end Go.BmP
