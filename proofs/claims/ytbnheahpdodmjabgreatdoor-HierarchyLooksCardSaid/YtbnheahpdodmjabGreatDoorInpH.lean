/- The library's functions stand in the configuration. -/
import Derived.Test.YtbnheahpdodmjabGreatDoorLayP
import Derived.Test.YtbnheahpdodmjabGreatDoorLaySrf
import Derived.Test.YtbnheahpdodmjabGreatDoorHcZ
open Go.Proofs.Tryz renaming prog → ak
namespace Go.BmP
open Go.Am Go.Bm Go.Shelf
theorem ajB:wO ak aq:=by
 refine⟨?_,QF.none fun _=>rfl⟩;intro f g hf;have Vs:Mh f=some g:=hf;unfold Mh at Vs;split at Vs
 ·rename_i e;subst e;cases Vs;exact⟨⟨_,_,sQc4⟩,fun k xs es ys res hg _ _=>adR af2 hg⟩
 ·split at Vs
  ·rename_i e;subst e;cases Vs;exact⟨⟨_,_,sQc5⟩,fun k xs es ys res hg _ _=>VU UA hg⟩
  ·split at Vs
   ·rename_i e;subst e;cases Vs;exact⟨⟨_,_,sQ2⟩,fun k xs es ys res hg _ _=>alF aiL Go.Proofs.Tryz.isAgg26 Go.Proofs.Tryz.sizeOf26 (Go.Proofs.enters_of Go.Proofs.Tryz.func58 (by kernel_rfl) rfl) Go.BmZ.an4 hg⟩
   ·cases Vs
theorem ajA:xQ ak aq:=by
 intro f g md q hf hq args H r H' hH hg _ X φ w B vargs hl hs _;have Vs:orcF f=some g:=hf;unfold orcF at Vs;split at Vs
 ·rename_i e;subst e;cases Vs;exact ajh hg hl hs
 ·split at Vs
  ·rename_i e;subst e;cases Vs;exact agc af3 hg hl hs
  ·cases Vs
theorem akZ {w:World} {a:Option Addr} {len cap:Nat} {zs:List Int} (h:QE .i64 w a len cap zs):(zs.take len).length<=9223372036854775807:=by
 rcases h with⟨_,rfl,_,rfl⟩|⟨y,_,h4,h5,h6,_⟩
 ·simp
 ·rw[List.length_take];have:maxLen=9223372036854775807:=rfl;omega
end Go.BmP
