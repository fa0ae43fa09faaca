/- The library's functions stand in the configuration. -/
import Derived.Test.YtpimmjklbakckaaGreatDoorLayP
import Derived.Test.YtpimmjklbakckaaGreatDoorLaySrf
import Derived.Test.YtpimmjklbakckaaGreatDoorHcZ
open Go.Proofs.Tryz renaming func33 → VD, prog → aj
namespace Go.BmP
open Go.Am Go.Bm Go.Shelf
theorem acw:tM aj aC:=by
 refine⟨?_,JZ.none fun _=>rfl⟩;intro f g hf;have N6:Gw f=some g:=hf;unfold Gw at N6;split at N6
 ·rename_i e;subst e;cases N6;exact⟨⟨_,_,sQ8⟩,fun k xs es ys res hg _ _=>Xv Zc hg⟩
 ·split at N6
  ·rename_i e;subst e;cases N6;exact⟨⟨_,_,sQ9⟩,fun k xs es ys res hg _ _=>OD Nk hg⟩
  ·split at N6
   ·rename_i e;subst e;cases N6;exact⟨⟨_,_,sQD⟩,fun k xs es ys res hg _ _=>aeC abF Go.Proofs.Tryz.isAgg36 Go.Proofs.Tryz.sizeOf36 (Go.Proofs.enters_of VD (by kernel_rfl) rfl) Go.BmZ.ahy hg⟩
   ·cases N6
theorem acv:uA aj aC:=by
 intro f g md q hf hq args H r H' hH hg _ X φ w B vargs hl hs _;have N6:Ym f=some g:=hf;unfold Ym at N6;split at N6
 ·rename_i e;subst e;cases N6;exact ab9 hg hl hs
 ·split at N6
  ·rename_i e;subst e;cases N6;exact Zk Zd hg hl hs
  ·cases N6
theorem aed {w:World} {a:Option Addr} {len cap:Nat} {zs:List Int} (h:aaC .i64 w a len cap zs):(zs.take len).length<=9223372036854775807:=by
 rcases h with⟨_,rfl,_,rfl⟩|⟨y,_,h4,h5,h6,_⟩
 ·simp
 ·rw[List.length_take];have:maxLen=9223372036854775807:=rfl;omega
end Go.BmP
