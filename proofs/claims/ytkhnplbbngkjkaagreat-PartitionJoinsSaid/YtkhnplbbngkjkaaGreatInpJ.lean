/- The library's sort and Compact of ints, its sort by a comparison, its clone and its DeleteFunc stand in the configuration. -/
import Derived.Test.YtkhnplbbngkjkaaGreatCfS
import Derived.Test.YtkhnplbbngkjkaaGreatLayP
import Derived.Test.YtkhnplbbngkjkaaGreatLayDlf
import Derived.Test.YtkhnplbbngkjkaaGreatZ03
import Derived.Test.YtkhnplbbngkjkaaGreatDlfQ
import Derived.Test.YtkhnplbbngkjkaaGreatCpcO
namespace Go.BmP
open Go.Am Go.Bm Go.Shelf
theorem cfgSInp : InpOK Go.Proofs.Tryz.prog cfgS := by
 constructor
 ·intro f g hf
  have hf' : inpS f = some g := hf
  unfold inpS at hf'
  split at hf'
  ·rename_i e
   subst e
   cases hf'
   exact ⟨⟨_, _, sQ8⟩, fun k xs es ys res hg _ _ => sort_inp laysSort hg⟩
  ·split at hf'
   ·rename_i e
    subst e
    cases hf'
    exact ⟨⟨_, _, sQ9⟩, fun k xs es ys res hg _ _ => compact_inp laysCompact hg⟩
   ·split at hf'
    ·rename_i e
     subst e
     cases hf'
     exact ⟨⟨_, _, sQJ⟩, fun k xs es ys res hg _ _ => srf_inp laysSrf Go.Proofs.Tryz.isAgg71 Go.Proofs.Tryz.sizeOf71 totP (Go.Proofs.enters_of Go.Proofs.Tryz.func39 (by kernel_rfl) rfl) Go.BmZ.make1_ok hg⟩
    ·split at hf'
     ·rename_i e
      subst e
      cases hf'
      exact ⟨⟨_, _, sQA⟩, fun k xs es ys res hg _ _ => srf_inp laysSrj Go.Proofs.Tryz.isAgg43 Go.Proofs.Tryz.sizeOf43 totO (Go.Proofs.enters_of Go.Proofs.Tryz.func30 (by kernel_rfl) rfl) Go.BmZ.join1_ok hg⟩
     ·split at hf'
      ·rename_i e
       subst e
       cases hf'
       exact ⟨⟨_, _, sQE⟩, fun k xs es ys res hg _ _ => cpe_inp hg⟩
      ·cases hf'
 ·intro f g hf
  have hf' : eatS f = some g := hf
  unfold eatS at hf'
  split at hf'
  ·rename_i e
   subst e
   cases hf'
   exact ⟨⟨_, _, sQv⟩, dlf_ok⟩
  ·cases hf'
theorem cfgSOrc : OrcOKB Go.Proofs.Tryz.prog cfgS := by
 intro f g md q hf hq args H r H' hH hg _ X φ w B vargs hl hs _
 have hf' : orcF f = some g := hf
 unfold orcF at hf'
 split at hf'
 ·rename_i e
  subst e
  cases hf'
  exact clo_orc hg hl hs
 ·split at hf'
  ·rename_i e
   subst e
   cases hf'
   exact cloE_orc hg hl hs
  ·cases hf'
end Go.BmP
