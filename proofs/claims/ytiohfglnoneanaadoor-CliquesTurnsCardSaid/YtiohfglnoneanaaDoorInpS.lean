/- The library's sort stands in the configuration. -/
import Derived.Test.YtiohfglnoneanaaDoorCfS
import Derived.Test.YtiohfglnoneanaaDoorLayP
namespace Go.BmP
open Go.Am Go.Bm Go.Shelf
theorem cfgSInp : InpOK Go.Proofs.Tryd.prog cfgS := by
  intro f g hf
  have hf' : (if f = nSlicesSortIntInt then some srtG else none) = some g := hf
  split at hf'
  case isFalse => cases hf'
  rename_i e
  subst e
  cases hf'
  exact ⟨⟨_, _, sSlicesSortIntInt⟩, fun k xs es ys res hg _ _ => sort_inp laysSort hg⟩
#print axioms cfgSInp
end Go.BmP
