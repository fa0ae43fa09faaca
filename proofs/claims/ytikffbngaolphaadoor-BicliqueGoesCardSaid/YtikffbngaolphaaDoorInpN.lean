/- A configuration that knows no function ahead. -/
import Derived.Test.YtikffbngaolphaaDoorCfS
namespace Go.BmP
open Go.Am Go.Bm
theorem cfgSInp : InpOK Go.Proofs.Tryd.prog cfgS := by
  intro f g hf
  have hf' : inpS f = some g := hf
  cases hf'
theorem cfgSOrc : OrcOKB Go.Proofs.Tryd.prog cfgS := by
  intro f g md q hf hq args H r H' hH hg _ X φ w B vargs hl hs _
  have hf' : orcF f = some g := hf
  cases hf'
#print axioms cfgSInp
#print axioms cfgSOrc
end Go.BmP
