/- nodeset.merged: its loop and its answer. -/
import Derived.Test.YtbnheahpdodmjaaGreatDoorR02d
set_option linter.unusedSimpArgs false
set_option linter.unusedVariables false
set_option maxRecDepth 100000
set_option maxHeartbeats 4000000
open Bool renaming false_eq_true → bk
open List renaming append_assoc → dJ, append_nil → jv, drop_length → bY, drop_succ_cons → nk, drop_zero → ct, length_append → bK, length_cons → cc, length_nil → eH, length_replicate → cV, take_append_of_le_length → dv, take_length → fe, take_succ_cons → nj, take_zero → qi
open Nat renaming le_of_ble_eq_true → aB, le_refl → aO
namespace Go.BmP
open Go.Am Go.Bm
def sq (b:Bool) (l:List Int):AV:=if b then .own 1 (ints l) else .list 1 (ints l)
theorem Dr (l:List Int):sq true l=.own 1 (ints l):=rfl
theorem B9 (l:List Int):sq false l=.list 1 (ints l):=rfl
def Ap (f:Nat) (keep:Bool->Bool->Bool):Prop:=(∃q,an.fn f=some (⟨false,false,true⟩,q))/\∀ p r,bu an f [.bool p,.bool r] []=some (.bool (keep p r),[])
theorem abM:Ap nQb4 (fun _ r=>!r):=by
 refine⟨⟨_,sQb4⟩,fun p r=>?_⟩;rw[eO sQb4 (aB rfl)];unfold qQb4 cQb4;simp[acW,acV,bM,bI]
def jk:Bool->Int->Env
 |true,_=>[]
 |false,x=>[(10,.int .i64 x),(80,.bool false)]
def yt (f:Nat) (b1 b2:Bool) (A B out:List Int) (J:Env):St:=⟨(0,sq b1 A)::(1,sq b2 B)::(2,.func (.func f) [] [])::(7,.own 1 (ints out))::J,[]⟩
theorem agX (f:Nat) (b1 b2:Bool) (out:List Int):aY an 0 (.loop jr) (yt f b1 b2 [] [] out [])=some (.exit 0,⟨[(0,sq b1 []),(1,sq b2 []),(2,.func (.func f) [] []),(7,.own 1 (ints out)),(30,.bool false)],[]⟩):=by
 cases b1<;>cases b2<;>(simp only[yt,Dr,B9]; exact bt (by unfold jr; simp[jo,jm,jl,jj,ji,jh,iX,jJ,jI,jH,gT,gS,gR,gQ,gP,gO,gC,dE]))
theorem amp (f:Nat) (b1 b2:Bool) (A B out:List Int) (k:Bool) (x:Int):aY an 0 jr (yt f b1 b2 A B out (jk k x))=aY an 0 jr (yt f b1 b2 A B out []):=by
 cases k
 case true=>rfl
 unfold jr
 have e:aY an 0 (.pI iX false [] [0,1,2,7,30]) (yt f b1 b2 A B out (jk false x))=aY an 0 (.pI iX false [] [0,1,2,7,30]) (yt f b1 b2 A B out []):=by
  cases A with
  |nil=>cases b1<;>cases b2<;>(simp only[yt,Dr,B9,jk]; simp[jo,jm,jl,jj,ji,jh,iX,jJ,jI,jH,gT,gS,gR,gQ,gP,gO,gC,dE,ah])
  |cons a r=>
    have h0:(0:Int)<(r.length:Int)+1:=by omega
    cases b1<;>cases b2<;>(simp only[yt,Dr,B9,jk]; simp[jo,jm,jl,jj,ji,jh,iX,jJ,jI,jH,gT,gS,gR,gQ,gP,gO,gC,dE,ah,h0])
 rw[ft,ft,e,<-ft,<-ft]
/- nodeset.merged: rounds of its loop. -/
theorem amr (f:Nat) (keep:Bool->Bool->Bool) (hk:Ap f keep) (x:Int) (r:List Int) (out:List Int) (hL:out.length+1<=4294967296) (b1 b2:Bool):aY an 0 jr (yt f b1 b2 (x::r) [] out [])=some (.normal,yt f false b2 r [] (out++sK (keep true false) x []) (jk (keep true false) x)):=by
 obtain⟨⟨q,hf⟩,hc⟩:=hk;have h0:(0:Int)<(r.length:Int)+1:=by omega
 have h1:¬((r.length:Int)+1=0):=by omega
 have h2:(1:Int)<=(r.length:Int)+1:=by omega
 have h3:1+r.length<=r.length+1:=by omega
 have wh:=hc true false
 cases hkv:keep true false<;>rw[hkv] at wh<;>cases b1<;>cases b2 <;>
  (simp only[yt,Dr,B9,jk,sK,bk,if_true,if_false,jv]
   unfold jr;simp[jo,jm,jl,jj,ji,jh,iX,jJ,jI,jH,gT,gS,gR,gQ,gP,gO,gC,dE,jV,ah,h0,h1,h2,h3,hf,wh,idx,lU,hL,cO,fZ,dZ,nk,ct,nj,qi])
/- nodeset.merged: rounds of its loop. -/
theorem amq (f:Nat) (keep:Bool->Bool->Bool) (hk:Ap f keep) (y:Int) (s:List Int) (out:List Int) (hL:out.length+1<=4294967296) (b1 b2:Bool):aY an 0 jr (yt f b1 b2 [] (y::s) out [])=some (.normal,yt f b1 false [] s (out++sK (keep false true) y []) (jk (keep false true) y)):=by
 obtain⟨⟨q,hf⟩,hc⟩:=hk;have k0:(0:Int)<(s.length:Int)+1:=by omega
 have k1:¬((s.length:Int)+1=0):=by omega
 have k2:(1:Int)<=(s.length:Int)+1:=by omega
 have k3:1+s.length<=s.length+1:=by omega
 have wh:=hc false true
 cases hkv:keep false true<;>rw[hkv] at wh<;>cases b1<;>cases b2 <;>
  (simp only[yt,Dr,B9,jk,sK,bk,if_true,if_false,jv]
   unfold jr;simp[jo,jm,jl,jj,ji,jh,iX,jJ,jI,jH,gT,gS,gR,gQ,gP,gO,gC,dE,jV,ah,k0,k1,k2,k3,hf,wh,idx,lU,hL,cO,fZ,dZ,nk,ct,nj,qi])
/- nodeset.merged: rounds of its loop. -/
theorem akK (f:Nat) (keep:Bool->Bool->Bool) (hk:Ap f keep) (x y:Int) (r s:List Int) (hxy:x<y) (out:List Int) (hL:out.length+1<=4294967296) (b1 b2:Bool):aY an 0 jr (yt f b1 b2 (x::r) (y::s) out [])=some (.normal,yt f false b2 r (y::s) (out++sK (keep true false) x []) (jk (keep true false) x)):=by
 obtain⟨⟨q,hf⟩,hc⟩:=hk;have h0:(0:Int)<(r.length:Int)+1:=by omega
 have h1:¬((r.length:Int)+1=0):=by omega
 have h2:(1:Int)<=(r.length:Int)+1:=by omega
 have h3:1+r.length<=r.length+1:=by omega
 have k0:(0:Int)<(s.length:Int)+1:=by omega
 have k1:¬((s.length:Int)+1=0):=by omega
 have k2:(1:Int)<=(s.length:Int)+1:=by omega
 have k3:1+s.length<=s.length+1:=by omega
 have c1:x<=y:=by omega
 have c2:¬y<=x:=by omega
 have wh:=hc true false
 cases hkv:keep true false<;>rw[hkv] at wh<;>cases b1<;>cases b2 <;>
  (simp only[yt,Dr,B9,jk,sK,bk,if_true,if_false,jv]
   unfold jr;simp[jo,jm,jl,jj,ji,jh,iX,jJ,jI,jH,gT,gS,gR,gQ,gP,gO,gC,dE,jV,ah,h0,h1,h2,h3,k0,k1,k2,k3,c1,c2,hf,wh,idx,lU,hL,cO,fZ,dZ,nk,ct,nj,qi])
/- nodeset.merged: rounds of its loop. -/
theorem akL (f:Nat) (keep:Bool->Bool->Bool) (hk:Ap f keep) (x y:Int) (r s:List Int) (hxy:y<x) (out:List Int) (hL:out.length+1<=4294967296) (b1 b2:Bool):aY an 0 jr (yt f b1 b2 (x::r) (y::s) out [])=some (.normal,yt f b1 false (x::r) s (out++sK (keep false true) y []) (jk (keep false true) y)):=by
 obtain⟨⟨q,hf⟩,hc⟩:=hk;have h0:(0:Int)<(r.length:Int)+1:=by omega
 have h1:¬((r.length:Int)+1=0):=by omega
 have h2:(1:Int)<=(r.length:Int)+1:=by omega
 have h3:1+r.length<=r.length+1:=by omega
 have k0:(0:Int)<(s.length:Int)+1:=by omega
 have k1:¬((s.length:Int)+1=0):=by omega
 have k2:(1:Int)<=(s.length:Int)+1:=by omega
 have k3:1+s.length<=s.length+1:=by omega
 have c1:y<=x:=by omega
 have c2:¬x<=y:=by omega
 have wh:=hc false true
 cases hkv:keep false true<;>rw[hkv] at wh<;>cases b1<;>cases b2 <;>
  (simp only[yt,Dr,B9,jk,sK,bk,if_true,if_false,jv]
   unfold jr;simp[jo,jm,jl,jj,ji,jh,iX,jJ,jI,jH,gT,gS,gR,gQ,gP,gO,gC,dE,jV,ah,h0,h1,h2,h3,k0,k1,k2,k3,c1,c2,hf,wh,idx,lU,hL,cO,fZ,dZ,nk,ct,nj,qi])
/- nodeset.merged: rounds of its loop. -/
theorem akM (f:Nat) (keep:Bool->Bool->Bool) (hk:Ap f keep) (x:Int) (r s:List Int) (out:List Int) (hL:out.length+1<=4294967296) (b1 b2:Bool):aY an 0 jr (yt f b1 b2 (x::r) (x::s) out [])=some (.normal,yt f false false r s (out++sK (keep true true) x []) (jk (keep true true) x)):=by
 obtain⟨⟨q,hf⟩,hc⟩:=hk;have h0:(0:Int)<(r.length:Int)+1:=by omega
 have h1:¬((r.length:Int)+1=0):=by omega
 have h2:(1:Int)<=(r.length:Int)+1:=by omega
 have h3:1+r.length<=r.length+1:=by omega
 have k0:(0:Int)<(s.length:Int)+1:=by omega
 have k1:¬((s.length:Int)+1=0):=by omega
 have k2:(1:Int)<=(s.length:Int)+1:=by omega
 have k3:1+s.length<=s.length+1:=by omega
 have wh:=hc true true
 cases hkv:keep true true<;>rw[hkv] at wh<;>cases b1<;>cases b2 <;>
  (simp only[yt,Dr,B9,jk,sK,bk,if_true,if_false,jv]
   unfold jr;simp[jo,jm,jl,jj,ji,jh,iX,jJ,jI,jH,gT,gS,gR,gQ,gP,gO,gC,dE,jV,ah,h0,h1,h2,h3,k0,k1,k2,k3,hf,wh,idx,lU,hL,cO,fZ,dZ,nk,ct,nj,qi])
/- nodeset.merged as a whole; Union, Meet, Minus, Of, Within. -/
theorem iU (l:List Int):im (ints l)=true:=by
 induction l with
 |nil=>rfl
 |cons x r ih=>simp only[ints,List.map_cons,im,clean] at ih ⊢; rw[ih]; rfl
theorem zx (c:Bool) (x:Int) (m:List Int):sK c x m=sK c x []++m:=by cases c<;>rfl
theorem aeh (f:Nat) (keep:Bool->Bool->Bool) (hk:Ap f keep) (A B:List Int):∀(b1 b2:Bool) (out:List Int),out.length+A.length+B.length<=4294967296->∃b1' b2',aY an 0 (.loop jr) (yt f b1 b2 A B out [])=some (.exit 0,⟨[(0,sq b1' []),(1,sq b2' []),(2,.func (.func f) [] []),(7,.own 1 (ints (out++yu keep A B))),(30,.bool false)],[]⟩):=by
 have go:∀{k:Bool} {x:Int} {b1 b2:Bool} {A B out:List Int},aY an 0 (.loop jr) (yt f b1 b2 A B out (jk k x))=aY an 0 (.loop jr) (yt f b1 b2 A B out []):=by
  intro k x b1 b2 A B out;rw[tF,tF,amp]
 have pl:∀(c:Bool) (x:Int) (o:List Int),(o++sK c x []).length<=o.length+1:=by
  intro c x o; cases c<;>simp[sK]
 induction A,B using yu.induct with
 |case1=>intro b1 b2 out h; exact⟨b1,b2,by rw[yu,jv]; exact agX f b1 b2 out⟩
 |case2 x r ih=>
   intro b1 b2 out h;simp only[cc,eH] at h;have:=pl (keep true false) x out;obtain⟨c1,c2,e⟩:=ih false b2 (out++sK (keep true false) x []) (by simp only[eH]; omega);refine⟨c1,c2,?_⟩;rw[aV (amr f keep hk x r out (by omega) b1 b2),go,e,yu,zx (keep true false) x (yu keep r []),dJ]
 |case3 y s ih=>
   intro b1 b2 out h;simp only[cc,eH] at h;have:=pl (keep false true) y out;obtain⟨c1,c2,e⟩:=ih b1 false (out++sK (keep false true) y []) (by simp only[eH]; omega);refine⟨c1,c2,?_⟩;rw[aV (amq f keep hk y s out (by omega) b1 b2),go,e,yu,zx (keep false true) y (yu keep [] s),dJ]
 |case4 x r y s bF ih=>
   intro b1 b2 out h;simp only[cc] at h;have:=pl (keep true false) x out;obtain⟨c1,c2,e⟩:=ih false b2 (out++sK (keep true false) x []) (by simp only[cc]; omega);refine⟨c1,c2,?_⟩;rw[aV (akK f keep hk x y r s bF out (by omega) b1 b2),go,e,yu,if_pos bF,zx (keep true false) x (yu keep r (y::s)),dJ]
 |case5 x r y s hn bF ih=>
   intro b1 b2 out h;simp only[cc] at h;have:=pl (keep false true) y out;obtain⟨c1,c2,e⟩:=ih b1 false (out++sK (keep false true) y []) (by simp only[cc]; omega);refine⟨c1,c2,?_⟩;rw[aV (akL f keep hk x y r s bF out (by omega) b1 b2),go,e,yu,if_neg hn,if_pos bF,zx (keep false true) y (yu keep (x::r) s),dJ]
 |case6 x r y s hn hn2 ih=>
   obtain rfl:x=y:=by omega
   intro b1 b2 out h;simp only[cc] at h;have:=pl (keep true true) x out;obtain⟨c1,c2,e⟩:=ih false false (out++sK (keep true true) x []) (by omega);refine⟨c1,c2,?_⟩;rw[aV (akM f keep hk x r s out (by omega) b1 b2),go,e,yu,if_neg hn,if_neg hn2,zx (keep true true) x (yu keep r s),dJ]
theorem l7:bu an KQ [.list 1 []] []=some (.list 1 [],[]):=O8 (by simp[MP,oQb6,gClo])
theorem xb (x:Int) (r:List Int) (hl:r.length+1<=4294967296):bu an KQ [.list 1 (ints (x::r))] []=some (.own 1 (ints (x::r)),[]):=by
 rw[ab8 (by simp[MP,oQb6,gClo,jV]) MK (aB rfl)];unfold qQb6 cQb6;simp[acU,acT,acS,acR,jV,ah,hl,lU,bM,bI,v7,K1,Nr,Nq,cO,List.take_take,Nat.min_self,fe,AV.cells,AV.leaf]
theorem tg (l:List Int) (h:l.length<=4294967296):Vv 1 (ints l) []=some (ints (js l),none):=by
 have e:mL (ints l)=some l:=uA l;unfold Vv;simp only[ah,lU,h,if_true,e];rfl
theorem vV (l:List Int) (h:l.length<=4294967296):W3 1 (ints l) []=some (ints (dd l++List.replicate (l.length-(dd l).length) 0),some (dd l).length):=by
 have e:mL (ints l)=some l:=uA l;unfold W3;simp only[ah,lU,h,if_true,e];rfl
theorem oD:Vv 1 [] []=some ([],none):=tg [] (by simp)
theorem o8:W3 1 [] []=some ([],some 0):=vV [] (by simp)
def yj:C:=.seq (.pI jo false [] [0,1,2]) (.seq (.pI jm false [] [0,1,2]) (.seq (.pI jl false [] [0,1,2]) (.seq (.pI jj false [] [0,1,2]) (.seq (.pI ji false [] [0,1,2]) (.pI jh false [] [0,1,2,7])))))
theorem aeg (f:Nat):aY an 0 yj ⟨[(0,.list 1 (ints [])),(1,.list 1 (ints [])),(2,.func (.func f) [] [])],[]⟩=some (.normal,yt f false false [] [] [] []):=by
 unfold yj;simp only[yt,B9,dE];simp[jo,jm,jl,jj,ji,jh,iX,jJ,jI,jH,gT,gS,gR,gQ,gP,gO,gC,l7,oD,o8,MK,Qk,Qj,Qi]
theorem aef (f:Nat) (y:Int) (s:List Int) (hl:s.length+1<=4294967296):aY an 0 yj ⟨[(0,.list 1 (ints [])),(1,.list 1 (ints (y::s))),(2,.func (.func f) [] [])],[]⟩=some (.normal,yt f false true [] (dw (y::s)) [] []):=by
 have hc:=xb y s hl;have MY:(y::s).length<=4294967296:=by simpa using hl
 have h1:=tg (y::s) MY;have e2:(js (y::s)).length=(y::s).length:=l5 _;have h2:=vV (js (y::s)) (by omega);have e3:dd (js (y::s))=dw (y::s):=rfl;have e4:=nM (y::s);rw[e2,e3] at h2;generalize y::s=b at *;by_cases hm:b.length<=(dw b).length
 ·have hm2:b.length-(dw b).length=0:=by omega
  have hm3:(dw b).length=b.length:=by omega
  unfold yj;simp only[yt,B9,Dr,dE];simp[jo,jm,jl,jj,ji,jh,iX,jJ,jI,jH,gT,gS,gR,gQ,gP,gO,gC,l7,oD,o8,hc,h1,h2,e2,e4,hm,hm2,hm3,MK,Qk,Qj,Qi,ah,cO,fe,bK,cV,bY,fZ,iU,dv,aO]
 ·unfold yj;have e5:(dw b).length+(b.length-(dw b).length)=b.length:=by omega
  simp only[yt,B9,Dr,dE];simp[jo,jm,jl,jj,ji,jh,iX,jJ,jI,jH,gT,gS,gR,gQ,gP,gO,gC,l7,oD,o8,hc,h1,h2,e2,e4,e5,hm,MK,Qk,Qj,Qi,ah,cO,fe,bK,cV,bY,fZ,iU,dv,aO]
theorem aee (f:Nat) (y:Int) (s:List Int) (hl:s.length+1<=4294967296):aY an 0 yj ⟨[(0,.list 1 (ints (y::s))),(1,.list 1 (ints [])),(2,.func (.func f) [] [])],[]⟩=some (.normal,yt f true false (dw (y::s)) [] [] []):=by
 have hc:=xb y s hl;have MY:(y::s).length<=4294967296:=by simpa using hl
 have h1:=tg (y::s) MY;have e2:(js (y::s)).length=(y::s).length:=l5 _;have h2:=vV (js (y::s)) (by omega);have e3:dd (js (y::s))=dw (y::s):=rfl;have e4:=nM (y::s);rw[e2,e3] at h2;generalize y::s=b at *;by_cases hm:b.length<=(dw b).length
 ·have hm2:b.length-(dw b).length=0:=by omega
  have hm3:(dw b).length=b.length:=by omega
  unfold yj;simp only[yt,B9,Dr,dE];simp[jo,jm,jl,jj,ji,jh,iX,jJ,jI,jH,gT,gS,gR,gQ,gP,gO,gC,l7,oD,o8,hc,h1,h2,e2,e4,hm,hm2,hm3,MK,Qk,Qj,Qi,ah,cO,fe,bK,cV,bY,fZ,iU,dv,aO]
 ·unfold yj;have e5:(dw b).length+(b.length-(dw b).length)=b.length:=by omega
  simp only[yt,B9,Dr,dE];simp[jo,jm,jl,jj,ji,jh,iX,jJ,jI,jH,gT,gS,gR,gQ,gP,gO,gC,l7,oD,o8,hc,h1,h2,e2,e4,e5,hm,MK,Qk,Qj,Qi,ah,cO,fe,bK,cV,bY,fZ,iU,dv,aO]
theorem aed (f:Nat) (x y:Int) (r s:List Int) (hl:r.length+1<=4294967296) (kl:s.length+1<=4294967296):aY an 0 yj ⟨[(0,.list 1 (ints (x::r))),(1,.list 1 (ints (y::s))),(2,.func (.func f) [] [])],[]⟩=some (.normal,yt f true true (dw (x::r)) (dw (y::s)) [] []):=by
 have HP:=xb x r hl;have hla':(x::r).length<=4294967296:=by simpa using hl
 have h1a:=tg (x::r) hla';have e2a:(js (x::r)).length=(x::r).length:=l5 _;have h2a:=vV (js (x::r)) (by omega);have e3a:dd (js (x::r))=dw (x::r):=rfl;have e4a:=nM (x::r);rw[e2a,e3a] at h2a;have hcb:=xb y s kl;have hlb':(y::s).length<=4294967296:=by simpa using kl
 have h1b:=tg (y::s) hlb';have e2b:(js (y::s)).length=(y::s).length:=l5 _;have h2b:=vV (js (y::s)) (by omega);have e3b:dd (js (y::s))=dw (y::s):=rfl;have e4b:=nM (y::s);rw[e2b,e3b] at h2b;generalize x::r=a at *;generalize y::s=b at *;unfold yj;simp only[yt,B9,Dr,dE];by_cases hma:a.length<=(dw a).length
 ·have hma2:a.length-(dw a).length=0:=by omega
  have hma3:(dw a).length=a.length:=by omega
  by_cases hmb:b.length<=(dw b).length
  ·have hmb2:b.length-(dw b).length=0:=by omega
   have hmb3:(dw b).length=b.length:=by omega
   simp[jo,jm,jl,jj,ji,jh,iX,jJ,jI,jH,gT,gS,gR,gQ,gP,gO,gC,l7,oD,o8,HP,h1a,h2a,e2a,e4a,hma,hma2,hma3,hcb,h1b,h2b,e2b,e4b,hmb,hmb2,hmb3,MK,Qk,Qj,Qi,ah,cO,fe,bK,cV,bY,fZ,iU,dv,aO]
  ·have e5b:(dw b).length+(b.length-(dw b).length)=b.length:=by omega
   simp[jo,jm,jl,jj,ji,jh,iX,jJ,jI,jH,gT,gS,gR,gQ,gP,gO,gC,l7,oD,o8,HP,h1a,h2a,e2a,e4a,hma,hma2,hma3,hcb,h1b,h2b,e2b,e4b,hmb,e5b,MK,Qk,Qj,Qi,ah,cO,fe,bK,cV,bY,fZ,iU,dv,aO]
 ·have e5a:(dw a).length+(a.length-(dw a).length)=a.length:=by omega
  by_cases hmb:b.length<=(dw b).length
  ·have hmb2:b.length-(dw b).length=0:=by omega
   have hmb3:(dw b).length=b.length:=by omega
   simp[jo,jm,jl,jj,ji,jh,iX,jJ,jI,jH,gT,gS,gR,gQ,gP,gO,gC,l7,oD,o8,HP,h1a,h2a,e2a,e4a,hma,e5a,hcb,h1b,h2b,e2b,e4b,hmb,hmb2,hmb3,MK,Qk,Qj,Qi,ah,cO,fe,bK,cV,bY,fZ,iU,dv,aO]
  ·have e5b:(dw b).length+(b.length-(dw b).length)=b.length:=by omega
   simp[jo,jm,jl,jj,ji,jh,iX,jJ,jI,jH,gT,gS,gR,gQ,gP,gO,gC,l7,oD,o8,HP,h1a,h2a,e2a,e4a,hma,e5a,hcb,h1b,h2b,e2b,e4b,hmb,e5b,MK,Qk,Qj,Qi,ah,cO,fe,bK,cV,bY,fZ,iU,dv,aO]
theorem agW (f:Nat) (a b:List Int) (ha:a.length<=4294967296) (hb:b.length<=4294967296):∃b1 b2,aY an 0 yj ⟨[(0,.list 1 (ints a)),(1,.list 1 (ints b)),(2,.func (.func f) [] [])],[]⟩=some (.normal,yt f b1 b2 (dw a) (dw b) [] []):=by
 cases a with
 |nil=>cases b with
   |nil=>exact⟨_,_,aeg f⟩
   |cons y s=>exact⟨_,_,aef f y s (by simpa using hb)⟩
 |cons x r=>cases b with
   |nil=>exact⟨_,_,aee f x r (by simpa using ha)⟩
   |cons y s=>exact⟨_,_,aed f x y r s (by simpa using ha) (by simpa using hb)⟩
theorem seq_assoc {c:eI} {b:Nat} {x y z:C} {s:St}:aY c b (.seq (.seq x y) z) s=aY c b (.seq x (.seq y z)) s:=by
 rw[ft,ft,ft];cases e:aY c b x s with
 |none=>rfl
 |some w=>
   obtain⟨ex,s'⟩:=w;cases ex with
   |normal=>rw[oC,oC,ft]
   |exit i=>rfl
   |ret=>rfl
theorem vA {c:eI} {b:Nat} {x y z:C} (h:∀s,aY c b y s=aY c b z s) (s:St):aY c b (.seq x y) s=aY c b (.seq x z) s:=by
 rw[ft,ft];cases e:aY c b x s with
 |none=>rfl
 |some w=>
   obtain⟨ex,s'⟩:=w;cases ex with
   |normal=>rw[oC,oC,h]
   |exit i=>rfl
   |ret=>rfl
theorem Wm (f:Nat) (keep:Bool->Bool->Bool) (hk:Ap f keep) (a b:List Int) (hl:a.length+b.length<=4294967296):bu an Wf [.list 1 (ints a),.list 1 (ints b),.func (.func f) [] []] []=some (.list 1 (ints (yu keep (dw a) (dw b))),[]):=by
 rw[eO sQb3 (aB rfl)];obtain⟨b1,b2,h⟩:=agW f a b (by omega) (by omega);have la:=nM a;have lb:=nM b;obtain⟨c1,c2,h'⟩:=aeh f keep hk (dw a) (dw b) b1 b2 [] (by simp only[eH]; omega)
 have e:aY an ([]:Heap).length qQb3.body ⟨dH 0 [.list 1 (ints a),.list 1 (ints b),.func (.func f) [] []],[]⟩=aY an 0 (.seq yj (.seq (.aJ 0 (.loop jr)) (.seq (.pI gC false [] [6]) .ret))) ⟨[(0,.list 1 (ints a)),(1,.list 1 (ints b)),(2,.func (.func f) [] [])],[]⟩:=by
  exact (vA (fun s=>(vA (fun s=>(vA (fun s=>(vA (fun s=>(vA (fun s=>rfl) s).trans seq_assoc.symm) s).trans seq_assoc.symm) s).trans seq_assoc.symm) s).trans seq_assoc.symm) _).trans seq_assoc.symm
 rw[e,ft,h,oC,ft,OZ,h',afA,if_pos rfl,oC,List.nil_append];cases c1<;>cases c2<;>(simp only[Dr,B9]; simp[jo,jm,jl,jj,ji,jh,iX,jJ,jI,jH,gT,gS,gR,gQ,gP,gO,gC,qQb3,dE,ah,cO,bM,bI])
theorem Wa (a b:List Int) (hl:a.length+b.length<=4294967296):bu an Wi [.list 1 (ints a),.list 1 (ints b)] []=some (.list 1 (ints (minus a b)),[]):=by
 rw[eO sQa7 (aB rfl)];have h:=Wm nQb4 (fun _ r=>!r) abM a b hl;have e:yu (fun _ r=>!r) (dw a) (dw b)=minus a b:=rfl;rw[e] at h;unfold qQa7 cQa7;simp[ac8,ac7,h,sQb3,iQb3,ah,bM,bI,Ew]
theorem ur (a b:List Int) (hl:a.length+b.length<=4294967296):bu an nQ1 [.list 1 (ints a),.list 1 (ints b)] []=some (.bool (a.all fun x=>decide (x∈b)),[]):=by
 rw[eO sQ1 (aB rfl)];have h:=Wa a b hl
 have e:((minus a b).length:Int)=0 ↔ (a.all fun x=>decide (x∈b))=true:=by
  have h0:((minus a b).length:Int)=0 ↔ minus a b=[]:=by rw[<-List.length_eq_zero_iff]; omega
  rw[h0,List.eq_nil_iff_forall_not_mem,List.all_eq_true];simp only[(nG a b).2,decide_eq_true_eq,not_and,Decidable.not_not]
 unfold qQ1 cQ1;cases hx:a.all fun x=>decide (x∈b)
 ·rw[hx] at e;have e':¬((minus a b).length:Int)=0:=fun k=>absurd (e.1 k) (by simp);have e'':¬minus a b=[]:=fun k=>e' (by rw[k]; rfl);simp[adk,adj,h,e',e'',sQa7,iQa7,ah,bM,bI]
 ·have e':((minus a b).length:Int)=0:=e.2 hx;simp[adk,adj,h,e',sQa7,iQa7,ah,bM,bI]
end Go.BmP
