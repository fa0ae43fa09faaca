/- The library's functions stand in the configuration. -/
import Derived.Test.YtpimmjklbakckaaDoorLayP
import Derived.Test.YtpimmjklbakckaaDoorLaySrf
import Derived.Test.YtpimmjklbakckaaDoorHcZ
open Go.Proofs.Tryd renaming func31 → S5, prog → ak
namespace Go.BmP
open Go.Am Go.Bm Go.Shelf
theorem aaJ:tl ak aD:=by
 refine⟨?_,HK.none fun _=>rfl⟩;intro f g hf;have LD:Eu f=some g:=hf;unfold Eu at LD;split at LD
 ·rename_i e;subst e;cases LD;exact⟨⟨_,_,sQ3⟩,fun k xs es ys res hg _ _=>UN Ws hg⟩
 ·split at LD
  ·rename_i e;subst e;cases LD;exact⟨⟨_,_,sQ4⟩,fun k xs es ys res hg _ _=>Mb KX hg⟩
  ·split at LD
   ·rename_i e;subst e;cases LD;exact⟨⟨_,_,sQB⟩,fun k xs es ys res hg _ _=>acL Zx Go.Proofs.Tryd.isAgg54 Go.Proofs.Tryd.sizeOf54 (Go.Proofs.enters_of S5 (by kernel_rfl) rfl) Go.BmZ.afP hg⟩
   ·cases LD
theorem aaI:tY ak aD:=by
 intro f g md q hf hq args H r H' hH hg _ X φ w B vargs hl hs _;have LD:VJ f=some g:=hf;unfold VJ at LD;split at LD
 ·rename_i e;subst e;cases LD;exact aap hg hl hs
 ·split at LD
  ·rename_i e;subst e;cases LD;exact WA Wt hg hl hs
  ·cases LD
theorem acm {w:World} {a:Option Addr} {len cap:Nat} {zs:List Int} (h:X6 .i64 w a len cap zs):(zs.take len).length<=9223372036854775807:=by
 rcases h with⟨_,rfl,_,rfl⟩|⟨y,_,h4,h5,h6,_⟩
 ·simp
 ·rw[List.length_take];have:maxLen=9223372036854775807:=rfl;omega
end Go.BmP
