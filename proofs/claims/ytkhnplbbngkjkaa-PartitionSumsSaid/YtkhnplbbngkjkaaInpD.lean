/- The library's sort and Compact of ints, its sort by a comparison, its clone and its DeleteFunc stand in the configuration. -/
import Derived.Test.YtkhnplbbngkjkaaCfS
import Derived.Test.YtkhnplbbngkjkaaLayP
import Derived.Test.YtkhnplbbngkjkaaLayDlf
import Derived.Test.YtkhnplbbngkjkaaZ01
import Derived.Test.YtkhnplbbngkjkaaDlfO
namespace Go.BmP
open Go.Am Go.Bm Go.Shelf
theorem cfgSInp : InpOK Go.Proofs.Try.prog cfgS := by
 constructor
 ·intro f g hf
  have hf' : inpS f = some g := hf
  unfold inpS at hf'
  split at hf'
  ·rename_i e
   subst e
   cases hf'
   exact ⟨⟨_, _, sQ0⟩, fun k xs es ys res hg _ _ => sort_inp laysSort hg⟩
  ·split at hf'
   ·rename_i e
    subst e
    cases hf'
    exact ⟨⟨_, _, sQ1⟩, fun k xs es ys res hg _ _ => compact_inp laysCompact hg⟩
   ·split at hf'
    ·rename_i e
     subst e
     cases hf'
     exact ⟨⟨_, _, sQA⟩, fun k xs es ys res hg _ _ => srf_inp laysSrf Go.Proofs.Try.isAgg60 Go.Proofs.Try.sizeOf60 totP (Go.Proofs.enters_of Go.Proofs.Try.func30 (by kernel_rfl) rfl) Go.BmZ.make1_ok hg⟩
    ·cases hf'
 ·intro f g hf
  have hf' : eatS f = some g := hf
  unfold eatS at hf'
  split at hf'
  ·rename_i e
   subst e
   cases hf'
   exact ⟨⟨_, _, sQv⟩, dlf_ok⟩
  ·cases hf'
theorem cfgSOrc : OrcOKB Go.Proofs.Try.prog cfgS := by
 intro f g md q hf hq args H r H' hH hg _ X φ w B vargs hl hs _
 have hf' : orcF f = some g := hf
 unfold orcF at hf'
 split at hf'
 ·rename_i e
  subst e
  cases hf'
  exact clo_orc hg hl hs
 ·cases hf'
end Go.BmP
