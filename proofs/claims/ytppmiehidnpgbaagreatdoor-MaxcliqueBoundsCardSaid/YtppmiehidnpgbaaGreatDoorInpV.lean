/- The library's sort, compact, reverse and clone of ints stand in the configuration. -/
import Derived.Test.YtppmiehidnpgbaaGreatDoorCfS
import Derived.Test.YtppmiehidnpgbaaGreatDoorLayP
open Go.Proofs.Tryz renaming prog → ai
namespace Go.BmP
open Go.Am Go.Bm Go.Shelf
theorem acG : vP ai au := by
 refine ⟨?_,JO.none fun _ => rfl⟩;intro f g hf;have Qo : Hw f = some g := hf;unfold Hw at Qo;split at Qo
 ·rename_i e;subst e;cases Qo;exact ⟨⟨_,_,sQb9⟩,fun k xs es ys res hg _ _ => Xq Y5 hg⟩
 ·split at Qo
  ·rename_i e;subst e;cases Qo;exact ⟨⟨_,_,sQc0⟩,fun k xs es ys res hg _ _ => On Nh hg⟩
  ·split at Qo
   ·rename_i e;subst e;cases Qo;exact ⟨⟨_,_,sQz⟩,fun k xs es ys res hg _ _ => aaT abJ hg⟩
   ·cases Qo
theorem acF : vL ai au := by
 intro f g md q hf hq args H r H' hH hg _ X φ w B vargs hl hs _;have Qo : orcF f = some g := hf;unfold orcF at Qo;split at Qo
 ·rename_i e;subst e;cases Qo;exact ack hg hl hs
 ·cases Qo
end Go.BmP
