/- The library's functions stand in the configuration. -/
import Derived.Test.YtbnheahpdodmjaaGreatDoorLayP
import Derived.Test.YtbnheahpdodmjaaGreatDoorLaySrf
import Derived.Test.YtbnheahpdodmjaaGreatDoorHcZ
open Go.Proofs.Tryz renaming prog → aj
namespace Go.BmP
open Go.Am Go.Bm Go.Shelf
theorem ah5:v8 aj an:=by
 refine⟨?_,Pn.none fun _=>rfl⟩;intro f g hf;have TW:Lj f=some g:=hf;unfold Lj at TW;split at TW
 ·rename_i e;subst e;cases TW;exact⟨⟨_,_,sQb7⟩,fun k xs es ys res hg _ _=>acq aeu hg⟩
 ·split at TW
  ·rename_i e;subst e;cases TW;exact⟨⟨_,_,sQb8⟩,fun k xs es ys res hg _ _=>Ut S5 hg⟩
  ·split at TW
   ·rename_i e;subst e;cases TW;exact⟨⟨_,_,sQW⟩,fun k xs es ys res hg _ _=>aj5 ag9 Go.Proofs.Tryz.isAgg36 Go.Proofs.Tryz.sizeOf36 (Go.Proofs.enters_of Go.Proofs.Tryz.func52 (by kernel_rfl) rfl) Go.BmZ.amN hg⟩
   ·cases TW
theorem ah4:xl aj an:=by
 intro f g md q hf hq args H r H' hH hg _ X φ w B vargs hl hs _;have TW:orcF f=some g:=hf;unfold orcF at TW;split at TW
 ·rename_i e;subst e;cases TW;exact ahL hg hl hs
 ·split at TW
  ·rename_i e;subst e;cases TW;exact aeE aev hg hl hs
  ·cases TW
theorem ajj {w:World} {a:Option Addr} {len cap:Nat} {zs:List Int} (h:Pm .i64 w a len cap zs):(zs.take len).length<=9223372036854775807:=by
 rcases h with⟨_,rfl,_,rfl⟩|⟨y,_,h4,h5,h6,_⟩
 ·simp
 ·rw[List.length_take];have:maxLen=9223372036854775807:=rfl;omega
end Go.BmP
