/- maxclique.Bound, Colours and Proper of the cycle of five stand in the configuration. -/
import Derived.Test.YtoobjomjclombaaDoorCfS
import Derived.Test.YtoobjomjclombaaDoorMxO
namespace Go.BmP
open Go.Am Go.Bm
theorem cfgSInp : InpOK Go.Proofs.Tryd.prog cfgS := ⟨(fun f g hf => by cases hf),EatOK.none fun _ => rfl⟩
theorem cfgSOrc : OrcOKB Go.Proofs.Tryd.prog cfgS := by
 intro f g md q hf hq args H r H' hH hg _ X φ w B vargs hl hs hG
 have hG' : Am.GlOK Go.AmP.cfgM X φ w := fun i => hG i
 have hf' : orcF f = some g := hf
 unfold orcF at hf'
 split at hf'
 ·rename_i e
  subst e
  cases hf'
  exact mb_orc hg hl hs hG'
 ·split at hf'
  ·rename_i e
   subst e
   cases hf'
   exact mc_orc hg hl hs hG'
  ·split at hf'
   ·rename_i e
    subst e
    cases hf'
    exact mp_orc hg hl hs hG'
   ·cases hf'
end Go.BmP
