/- The library's sort, compact and clone of ints stand in the configuration. -/
import Derived.Test.YteomjfokokneoaaDoorCfS
import Derived.Test.YteomjfokokneoaaDoorLayP
open Go.Proofs.Tryd renaming prog → aq
namespace Go.BmP
open Go.Am Go.Bm Go.Shelf
theorem abh : vo aq aA := by
 refine ⟨?_,Jc.none fun _ => rfl⟩;intro f g hf;have UP : JT f = some g := hf;unfold JT at UP;split at UP
 ·rename_i e;subst e;cases UP;exact ⟨⟨_,_,sJa9⟩,fun k xs es ys res hg _ _ => VR Xs hg⟩
 ·split at UP
  ·rename_i e;subst e;cases UP;exact ⟨⟨_,_,sJb0⟩,fun k xs es ys res hg _ _ => NI MM hg⟩
  ·cases UP
theorem abg : vl aq aA := by
 intro f g md q hf hq args H r H' hH hg _ X φ w B vargs hl hs _;have UP : orcF f = some g := hf;unfold orcF at UP;split at UP
 ·rename_i e;subst e;cases UP;exact aaX hg hl hs
 ·cases UP
end Go.BmP
