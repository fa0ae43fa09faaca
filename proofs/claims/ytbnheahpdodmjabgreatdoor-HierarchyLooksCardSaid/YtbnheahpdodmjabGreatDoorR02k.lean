/- nodeset.merged: its loop and its answer. -/
import Derived.Test.YtbnheahpdodmjabGreatDoorR02d
set_option linter.unusedSimpArgs false
set_option linter.unusedVariables false
set_option maxRecDepth 100000
set_option maxHeartbeats 4000000
open Bool renaming false_eq_true → bH
open List renaming append_assoc → dS, append_nil → jE, drop_length → cE, drop_succ_cons → nE, drop_zero → cP, length_append → bO, length_cons → cH, length_nil → gG, length_replicate → cY, take_append_of_le_length → dD, take_length → fk, take_succ_cons → nD, take_zero → qK
open Nat renaming le_of_ble_eq_true → au, le_refl → aJ
namespace Go.BmP
open Go.Am Go.Bm
def sq (b:Bool) (l:List Int):AV:=if b then .own 1 (ints l) else .list 1 (ints l)
theorem D4 (l:List Int):sq true l=.own 1 (ints l):=rfl
theorem Cl (l:List Int):sq false l=.list 1 (ints l):=rfl
def AP (f:Nat) (keep:Bool->Bool->Bool):Prop:=(∃q,aq.fn f=some (⟨false,false,true⟩,q))/\∀ p r,bJ aq f [.bool p,.bool r] []=some (.bool (keep p r),[])
theorem ac6:AP nQc1 (fun _ r=>!r):=by
 refine⟨⟨_,sQc1⟩,fun p r=>?_⟩;rw[dZ sQc1 (au rfl)];unfold qQc1 cQc1;simp[aes,aer,bL,bC]
def jk:Bool->Int->Env
 |true,_=>[]
 |false,x=>[(10,.int .i64 x),(80,.bool false)]
def yR (f:Nat) (b1 b2:Bool) (A B out:List Int) (J:Env):St:=⟨(0,sq b1 A)::(1,sq b2 B)::(2,.func (.func f) [] [])::(7,.own 1 (ints out))::J,[]⟩
theorem aix (f:Nat) (b1 b2:Bool) (out:List Int):aW aq 0 (.loop jy) (yR f b1 b2 [] [] out [])=some (.exit 0,⟨[(0,sq b1 []),(1,sq b2 []),(2,.func (.func f) [] []),(7,.own 1 (ints out)),(30,.bool false)],[]⟩):=by
 cases b1<;>cases b2<;>(simp only[yR,D4,Cl]; exact bn (by unfold jy; simp[jw,jv,ju,jt,js,jr,je,jT,jS,jR,ig,ib,ia,hU,gY,gX,gN,dT]))
theorem anH (f:Nat) (b1 b2:Bool) (A B out:List Int) (k:Bool) (x:Int):aW aq 0 jy (yR f b1 b2 A B out (jk k x))=aW aq 0 jy (yR f b1 b2 A B out []):=by
 cases k
 case true=>rfl
 unfold jy
 have e:aW aq 0 (.qT je false [] [0,1,2,7,30]) (yR f b1 b2 A B out (jk false x))=aW aq 0 (.qT je false [] [0,1,2,7,30]) (yR f b1 b2 A B out []):=by
  cases A with
  |nil=>cases b1<;>cases b2<;>(simp only[yR,D4,Cl,jk]; simp[jw,jv,ju,jt,js,jr,je,jT,jS,jR,ig,ib,ia,hU,gY,gX,gN,dT,ah])
  |cons a r=>
    have h0:(0:Int)<(r.length:Int)+1:=by omega
    cases b1<;>cases b2<;>(simp only[yR,D4,Cl,jk]; simp[jw,jv,ju,jt,js,jr,je,jT,jS,jR,ig,ib,ia,hU,gY,gX,gN,dT,ah,h0])
 rw[fF,fF,e,<-fF,<-fF]
/- nodeset.merged: rounds of its loop. -/
theorem anJ (f:Nat) (keep:Bool->Bool->Bool) (hk:AP f keep) (x:Int) (r:List Int) (out:List Int) (hL:out.length+1<=4294967296) (b1 b2:Bool):aW aq 0 jy (yR f b1 b2 (x::r) [] out [])=some (.normal,yR f false b2 r [] (out++tf (keep true false) x []) (jk (keep true false) x)):=by
 obtain⟨⟨q,hf⟩,hc⟩:=hk;have h0:(0:Int)<(r.length:Int)+1:=by omega
 have h1:¬((r.length:Int)+1=0):=by omega
 have h2:(1:Int)<=(r.length:Int)+1:=by omega
 have h3:1+r.length<=r.length+1:=by omega
 have wR:=hc true false
 cases hkv:keep true false<;>rw[hkv] at wR<;>cases b1<;>cases b2 <;>
  (simp only[yR,D4,Cl,jk,tf,bH,if_true,if_false,jE]
   unfold jy;simp[jw,jv,ju,jt,js,jr,je,jT,jS,jR,ig,ib,ia,hU,gY,gX,gN,dT,kc,ah,h0,h1,h2,h3,hf,wR,idx,ks,hL,dh,gz,cZ,nE,cP,nD,qK])
/- nodeset.merged: rounds of its loop. -/
theorem anI (f:Nat) (keep:Bool->Bool->Bool) (hk:AP f keep) (y:Int) (s:List Int) (out:List Int) (hL:out.length+1<=4294967296) (b1 b2:Bool):aW aq 0 jy (yR f b1 b2 [] (y::s) out [])=some (.normal,yR f b1 false [] s (out++tf (keep false true) y []) (jk (keep false true) y)):=by
 obtain⟨⟨q,hf⟩,hc⟩:=hk;have k0:(0:Int)<(s.length:Int)+1:=by omega
 have k1:¬((s.length:Int)+1=0):=by omega
 have k2:(1:Int)<=(s.length:Int)+1:=by omega
 have k3:1+s.length<=s.length+1:=by omega
 have wR:=hc false true
 cases hkv:keep false true<;>rw[hkv] at wR<;>cases b1<;>cases b2 <;>
  (simp only[yR,D4,Cl,jk,tf,bH,if_true,if_false,jE]
   unfold jy;simp[jw,jv,ju,jt,js,jr,je,jT,jS,jR,ig,ib,ia,hU,gY,gX,gN,dT,kc,ah,k0,k1,k2,k3,hf,wR,idx,ks,hL,dh,gz,cZ,nE,cP,nD,qK])
/- nodeset.merged: rounds of its loop. -/
theorem amm (f:Nat) (keep:Bool->Bool->Bool) (hk:AP f keep) (x y:Int) (r s:List Int) (hxy:x<y) (out:List Int) (hL:out.length+1<=4294967296) (b1 b2:Bool):aW aq 0 jy (yR f b1 b2 (x::r) (y::s) out [])=some (.normal,yR f false b2 r (y::s) (out++tf (keep true false) x []) (jk (keep true false) x)):=by
 obtain⟨⟨q,hf⟩,hc⟩:=hk;have h0:(0:Int)<(r.length:Int)+1:=by omega
 have h1:¬((r.length:Int)+1=0):=by omega
 have h2:(1:Int)<=(r.length:Int)+1:=by omega
 have h3:1+r.length<=r.length+1:=by omega
 have k0:(0:Int)<(s.length:Int)+1:=by omega
 have k1:¬((s.length:Int)+1=0):=by omega
 have k2:(1:Int)<=(s.length:Int)+1:=by omega
 have k3:1+s.length<=s.length+1:=by omega
 have c1:x<=y:=by omega
 have c2:¬y<=x:=by omega
 have wR:=hc true false
 cases hkv:keep true false<;>rw[hkv] at wR<;>cases b1<;>cases b2 <;>
  (simp only[yR,D4,Cl,jk,tf,bH,if_true,if_false,jE]
   unfold jy;simp[jw,jv,ju,jt,js,jr,je,jT,jS,jR,ig,ib,ia,hU,gY,gX,gN,dT,kc,ah,h0,h1,h2,h3,k0,k1,k2,k3,c1,c2,hf,wR,idx,ks,hL,dh,gz,cZ,nE,cP,nD,qK])
/- nodeset.merged: rounds of its loop. -/
theorem amn (f:Nat) (keep:Bool->Bool->Bool) (hk:AP f keep) (x y:Int) (r s:List Int) (hxy:y<x) (out:List Int) (hL:out.length+1<=4294967296) (b1 b2:Bool):aW aq 0 jy (yR f b1 b2 (x::r) (y::s) out [])=some (.normal,yR f b1 false (x::r) s (out++tf (keep false true) y []) (jk (keep false true) y)):=by
 obtain⟨⟨q,hf⟩,hc⟩:=hk;have h0:(0:Int)<(r.length:Int)+1:=by omega
 have h1:¬((r.length:Int)+1=0):=by omega
 have h2:(1:Int)<=(r.length:Int)+1:=by omega
 have h3:1+r.length<=r.length+1:=by omega
 have k0:(0:Int)<(s.length:Int)+1:=by omega
 have k1:¬((s.length:Int)+1=0):=by omega
 have k2:(1:Int)<=(s.length:Int)+1:=by omega
 have k3:1+s.length<=s.length+1:=by omega
 have c1:y<=x:=by omega
 have c2:¬x<=y:=by omega
 have wR:=hc false true
 cases hkv:keep false true<;>rw[hkv] at wR<;>cases b1<;>cases b2 <;>
  (simp only[yR,D4,Cl,jk,tf,bH,if_true,if_false,jE]
   unfold jy;simp[jw,jv,ju,jt,js,jr,je,jT,jS,jR,ig,ib,ia,hU,gY,gX,gN,dT,kc,ah,h0,h1,h2,h3,k0,k1,k2,k3,c1,c2,hf,wR,idx,ks,hL,dh,gz,cZ,nE,cP,nD,qK])
/- nodeset.merged: rounds of its loop. -/
theorem amo (f:Nat) (keep:Bool->Bool->Bool) (hk:AP f keep) (x:Int) (r s:List Int) (out:List Int) (hL:out.length+1<=4294967296) (b1 b2:Bool):aW aq 0 jy (yR f b1 b2 (x::r) (x::s) out [])=some (.normal,yR f false false r s (out++tf (keep true true) x []) (jk (keep true true) x)):=by
 obtain⟨⟨q,hf⟩,hc⟩:=hk;have h0:(0:Int)<(r.length:Int)+1:=by omega
 have h1:¬((r.length:Int)+1=0):=by omega
 have h2:(1:Int)<=(r.length:Int)+1:=by omega
 have h3:1+r.length<=r.length+1:=by omega
 have k0:(0:Int)<(s.length:Int)+1:=by omega
 have k1:¬((s.length:Int)+1=0):=by omega
 have k2:(1:Int)<=(s.length:Int)+1:=by omega
 have k3:1+s.length<=s.length+1:=by omega
 have wR:=hc true true
 cases hkv:keep true true<;>rw[hkv] at wR<;>cases b1<;>cases b2 <;>
  (simp only[yR,D4,Cl,jk,tf,bH,if_true,if_false,jE]
   unfold jy;simp[jw,jv,ju,jt,js,jr,je,jT,jS,jR,ig,ib,ia,hU,gY,gX,gN,dT,kc,ah,h0,h1,h2,h3,k0,k1,k2,k3,hf,wR,idx,ks,hL,dh,gz,cZ,nE,cP,nD,qK])
/- nodeset.merged as a whole; Union, Meet, Minus, Of, Within. -/
theorem jc (l:List Int):iB (ints l)=true:=by
 induction l with
 |nil=>rfl
 |cons x r ih=>simp only[ints,List.map_cons,iB,clean] at ih ⊢; rw[ih]; rfl
theorem zU (c:Bool) (x:Int) (m:List Int):tf c x m=tf c x []++m:=by cases c<;>rfl
theorem afO (f:Nat) (keep:Bool->Bool->Bool) (hk:AP f keep) (A B:List Int):∀(b1 b2:Bool) (out:List Int),out.length+A.length+B.length<=4294967296->∃b1' b2',aW aq 0 (.loop jy) (yR f b1 b2 A B out [])=some (.exit 0,⟨[(0,sq b1' []),(1,sq b2' []),(2,.func (.func f) [] []),(7,.own 1 (ints (out++yS keep A B))),(30,.bool false)],[]⟩):=by
 have go:∀{k:Bool} {x:Int} {b1 b2:Bool} {A B out:List Int},aW aq 0 (.loop jy) (yR f b1 b2 A B out (jk k x))=aW aq 0 (.loop jy) (yR f b1 b2 A B out []):=by
  intro k x b1 b2 A B out;rw[uB,uB,anH]
 have pl:∀(c:Bool) (x:Int) (o:List Int),(o++tf c x []).length<=o.length+1:=by
  intro c x o; cases c<;>simp[tf]
 induction A,B using yS.induct with
 |case1=>intro b1 b2 out h; exact⟨b1,b2,by rw[yS,jE]; exact aix f b1 b2 out⟩
 |case2 x r ih=>
   intro b1 b2 out h;simp only[cH,gG] at h;have:=pl (keep true false) x out;obtain⟨c1,c2,e⟩:=ih false b2 (out++tf (keep true false) x []) (by simp only[gG]; omega);refine⟨c1,c2,?_⟩;rw[aS (anJ f keep hk x r out (by omega) b1 b2),go,e,yS,zU (keep true false) x (yS keep r []),dS]
 |case3 y s ih=>
   intro b1 b2 out h;simp only[cH,gG] at h;have:=pl (keep false true) y out;obtain⟨c1,c2,e⟩:=ih b1 false (out++tf (keep false true) y []) (by simp only[gG]; omega);refine⟨c1,c2,?_⟩;rw[aS (anI f keep hk y s out (by omega) b1 b2),go,e,yS,zU (keep false true) y (yS keep [] s),dS]
 |case4 x r y s bE ih=>
   intro b1 b2 out h;simp only[cH] at h;have:=pl (keep true false) x out;obtain⟨c1,c2,e⟩:=ih false b2 (out++tf (keep true false) x []) (by simp only[cH]; omega);refine⟨c1,c2,?_⟩;rw[aS (amm f keep hk x y r s bE out (by omega) b1 b2),go,e,yS,if_pos bE,zU (keep true false) x (yS keep r (y::s)),dS]
 |case5 x r y s hn bE ih=>
   intro b1 b2 out h;simp only[cH] at h;have:=pl (keep false true) y out;obtain⟨c1,c2,e⟩:=ih b1 false (out++tf (keep false true) y []) (by simp only[cH]; omega);refine⟨c1,c2,?_⟩;rw[aS (amn f keep hk x y r s bE out (by omega) b1 b2),go,e,yS,if_neg hn,if_pos bE,zU (keep false true) y (yS keep (x::r) s),dS]
 |case6 x r y s hn hn2 ih=>
   obtain rfl:x=y:=by omega
   intro b1 b2 out h;simp only[cH] at h;have:=pl (keep true true) x out;obtain⟨c1,c2,e⟩:=ih false false (out++tf (keep true true) x []) (by omega);refine⟨c1,c2,?_⟩;rw[aS (amo f keep hk x r s out (by omega) b1 b2),go,e,yS,if_neg hn,if_neg hn2,zU (keep true true) x (yS keep r s),dS]
theorem mg:bJ aq LI [.list 1 []] []=some (.list 1 [],[]):=Qu (by simp[NO,oQc3,gClo])
theorem xI (x:Int) (r:List Int) (hl:r.length+1<=4294967296):bJ aq LI [.list 1 (ints (x::r))] []=some (.own 1 (ints (x::r)),[]):=by
 rw[adz (by simp[NO,oQc3,gClo,kc]) NJ (au rfl)];unfold qQc3 cQc3;simp[aeq,aep,aeo,aen,kc,ah,hl,ks,bL,bC,wN,LU,Ow,Ov,dh,List.take_take,Nat.min_self,fk,AV.cells,AV.leaf]
theorem tP (l:List Int) (h:l.length<=4294967296):WR 1 (ints l) []=some (ints (jz l),none):=by
 have e:mP (ints l)=some l:=vm l;unfold WR;simp only[ah,ks,h,if_true,e];rfl
theorem wI (l:List Int) (h:l.length<=4294967296):Yv 1 (ints l) []=some (ints (dd l++List.replicate (l.length-(dd l).length) 0),some (dd l).length):=by
 have e:mP (ints l)=some l:=vm l;unfold Yv;simp only[ah,ks,h,if_true,e];rfl
theorem o8:WR 1 [] []=some ([],none):=tP [] (by simp)
theorem pQ:Yv 1 [] []=some ([],some 0):=wI [] (by simp)
def yK:C:=.seq (.qT jw false [] [0,1,2]) (.seq (.qT jv false [] [0,1,2]) (.seq (.qT ju false [] [0,1,2]) (.seq (.qT jt false [] [0,1,2]) (.seq (.qT js false [] [0,1,2]) (.qT jr false [] [0,1,2,7])))))
theorem afN (f:Nat):aW aq 0 yK ⟨[(0,.list 1 (ints [])),(1,.list 1 (ints [])),(2,.func (.func f) [] [])],[]⟩=some (.normal,yR f false false [] [] [] []):=by
 unfold yK;simp only[yR,Cl,dT];simp[jw,jv,ju,jt,js,jr,je,jT,jS,jR,ig,ib,ia,hU,gY,gX,gN,mg,o8,pQ,NJ,RJ,RI,RH]
theorem afM (f:Nat) (y:Int) (s:List Int) (hl:s.length+1<=4294967296):aW aq 0 yK ⟨[(0,.list 1 (ints [])),(1,.list 1 (ints (y::s))),(2,.func (.func f) [] [])],[]⟩=some (.normal,yR f false true [] (dE (y::s)) [] []):=by
 have hc:=xI y s hl;have NY:(y::s).length<=4294967296:=by simpa using hl
 have h1:=tP (y::s) NY;have e2:(jz (y::s)).length=(y::s).length:=l9 _;have h2:=wI (jz (y::s)) (by omega);have e3:dd (jz (y::s))=dE (y::s):=rfl;have e4:=oE (y::s);rw[e2,e3] at h2;generalize y::s=b at *;by_cases hm:b.length<=(dE b).length
 ·have hm2:b.length-(dE b).length=0:=by omega
  have hm3:(dE b).length=b.length:=by omega
  unfold yK;simp only[yR,Cl,D4,dT];simp[jw,jv,ju,jt,js,jr,je,jT,jS,jR,ig,ib,ia,hU,gY,gX,gN,mg,o8,pQ,hc,h1,h2,e2,e4,hm,hm2,hm3,NJ,RJ,RI,RH,ah,dh,fk,bO,cY,cE,gz,jc,dD,aJ]
 ·unfold yK;have e5:(dE b).length+(b.length-(dE b).length)=b.length:=by omega
  simp only[yR,Cl,D4,dT];simp[jw,jv,ju,jt,js,jr,je,jT,jS,jR,ig,ib,ia,hU,gY,gX,gN,mg,o8,pQ,hc,h1,h2,e2,e4,e5,hm,NJ,RJ,RI,RH,ah,dh,fk,bO,cY,cE,gz,jc,dD,aJ]
theorem afL (f:Nat) (y:Int) (s:List Int) (hl:s.length+1<=4294967296):aW aq 0 yK ⟨[(0,.list 1 (ints (y::s))),(1,.list 1 (ints [])),(2,.func (.func f) [] [])],[]⟩=some (.normal,yR f true false (dE (y::s)) [] [] []):=by
 have hc:=xI y s hl;have NY:(y::s).length<=4294967296:=by simpa using hl
 have h1:=tP (y::s) NY;have e2:(jz (y::s)).length=(y::s).length:=l9 _;have h2:=wI (jz (y::s)) (by omega);have e3:dd (jz (y::s))=dE (y::s):=rfl;have e4:=oE (y::s);rw[e2,e3] at h2;generalize y::s=b at *;by_cases hm:b.length<=(dE b).length
 ·have hm2:b.length-(dE b).length=0:=by omega
  have hm3:(dE b).length=b.length:=by omega
  unfold yK;simp only[yR,Cl,D4,dT];simp[jw,jv,ju,jt,js,jr,je,jT,jS,jR,ig,ib,ia,hU,gY,gX,gN,mg,o8,pQ,hc,h1,h2,e2,e4,hm,hm2,hm3,NJ,RJ,RI,RH,ah,dh,fk,bO,cY,cE,gz,jc,dD,aJ]
 ·unfold yK;have e5:(dE b).length+(b.length-(dE b).length)=b.length:=by omega
  simp only[yR,Cl,D4,dT];simp[jw,jv,ju,jt,js,jr,je,jT,jS,jR,ig,ib,ia,hU,gY,gX,gN,mg,o8,pQ,hc,h1,h2,e2,e4,e5,hm,NJ,RJ,RI,RH,ah,dh,fk,bO,cY,cE,gz,jc,dD,aJ]
theorem afK (f:Nat) (x y:Int) (r s:List Int) (hl:r.length+1<=4294967296) (kl:s.length+1<=4294967296):aW aq 0 yK ⟨[(0,.list 1 (ints (x::r))),(1,.list 1 (ints (y::s))),(2,.func (.func f) [] [])],[]⟩=some (.normal,yR f true true (dE (x::r)) (dE (y::s)) [] []):=by
 have H6:=xI x r hl;have hla':(x::r).length<=4294967296:=by simpa using hl
 have h1a:=tP (x::r) hla';have e2a:(jz (x::r)).length=(x::r).length:=l9 _;have h2a:=wI (jz (x::r)) (by omega);have e3a:dd (jz (x::r))=dE (x::r):=rfl;have e4a:=oE (x::r);rw[e2a,e3a] at h2a;have hcb:=xI y s kl;have hlb':(y::s).length<=4294967296:=by simpa using kl
 have h1b:=tP (y::s) hlb';have e2b:(jz (y::s)).length=(y::s).length:=l9 _;have h2b:=wI (jz (y::s)) (by omega);have e3b:dd (jz (y::s))=dE (y::s):=rfl;have e4b:=oE (y::s);rw[e2b,e3b] at h2b;generalize x::r=a at *;generalize y::s=b at *;unfold yK;simp only[yR,Cl,D4,dT];by_cases hma:a.length<=(dE a).length
 ·have hma2:a.length-(dE a).length=0:=by omega
  have hma3:(dE a).length=a.length:=by omega
  by_cases hmb:b.length<=(dE b).length
  ·have hmb2:b.length-(dE b).length=0:=by omega
   have hmb3:(dE b).length=b.length:=by omega
   simp[jw,jv,ju,jt,js,jr,je,jT,jS,jR,ig,ib,ia,hU,gY,gX,gN,mg,o8,pQ,H6,h1a,h2a,e2a,e4a,hma,hma2,hma3,hcb,h1b,h2b,e2b,e4b,hmb,hmb2,hmb3,NJ,RJ,RI,RH,ah,dh,fk,bO,cY,cE,gz,jc,dD,aJ]
  ·have e5b:(dE b).length+(b.length-(dE b).length)=b.length:=by omega
   simp[jw,jv,ju,jt,js,jr,je,jT,jS,jR,ig,ib,ia,hU,gY,gX,gN,mg,o8,pQ,H6,h1a,h2a,e2a,e4a,hma,hma2,hma3,hcb,h1b,h2b,e2b,e4b,hmb,e5b,NJ,RJ,RI,RH,ah,dh,fk,bO,cY,cE,gz,jc,dD,aJ]
 ·have e5a:(dE a).length+(a.length-(dE a).length)=a.length:=by omega
  by_cases hmb:b.length<=(dE b).length
  ·have hmb2:b.length-(dE b).length=0:=by omega
   have hmb3:(dE b).length=b.length:=by omega
   simp[jw,jv,ju,jt,js,jr,je,jT,jS,jR,ig,ib,ia,hU,gY,gX,gN,mg,o8,pQ,H6,h1a,h2a,e2a,e4a,hma,e5a,hcb,h1b,h2b,e2b,e4b,hmb,hmb2,hmb3,NJ,RJ,RI,RH,ah,dh,fk,bO,cY,cE,gz,jc,dD,aJ]
  ·have e5b:(dE b).length+(b.length-(dE b).length)=b.length:=by omega
   simp[jw,jv,ju,jt,js,jr,je,jT,jS,jR,ig,ib,ia,hU,gY,gX,gN,mg,o8,pQ,H6,h1a,h2a,e2a,e4a,hma,e5a,hcb,h1b,h2b,e2b,e4b,hmb,e5b,NJ,RJ,RI,RH,ah,dh,fk,bO,cY,cE,gz,jc,dD,aJ]
theorem aiw (f:Nat) (a b:List Int) (ha:a.length<=4294967296) (hb:b.length<=4294967296):∃b1 b2,aW aq 0 yK ⟨[(0,.list 1 (ints a)),(1,.list 1 (ints b)),(2,.func (.func f) [] [])],[]⟩=some (.normal,yR f b1 b2 (dE a) (dE b) [] []):=by
 cases a with
 |nil=>cases b with
   |nil=>exact⟨_,_,afN f⟩
   |cons y s=>exact⟨_,_,afM f y s (by simpa using hb)⟩
 |cons x r=>cases b with
   |nil=>exact⟨_,_,afL f x r (by simpa using ha)⟩
   |cons y s=>exact⟨_,_,afK f x y r s (by simpa using ha) (by simpa using hb)⟩
theorem seq_assoc {c:eS} {b:Nat} {x y z:C} {s:St}:aW c b (.seq (.seq x y) z) s=aW c b (.seq x (.seq y z)) s:=by
 rw[fF,fF,fF];cases e:aW c b x s with
 |none=>rfl
 |some w=>
   obtain⟨ex,s'⟩:=w;cases ex with
   |normal=>rw[o7,o7,fF]
   |exit i=>rfl
   |ret=>rfl
theorem vT {c:eS} {b:Nat} {x y z:C} (h:∀s,aW c b y s=aW c b z s) (s:St):aW c b (.seq x y) s=aW c b (.seq x z) s:=by
 rw[fF,fF];cases e:aW c b x s with
 |none=>rfl
 |some w=>
   obtain⟨ex,s'⟩:=w;cases ex with
   |normal=>rw[o7,o7,h]
   |exit i=>rfl
   |ret=>rfl
theorem XK (f:Nat) (keep:Bool->Bool->Bool) (hk:AP f keep) (a b:List Int) (hl:a.length+b.length<=4294967296):bJ aq Xz [.list 1 (ints a),.list 1 (ints b),.func (.func f) [] []] []=some (.list 1 (ints (yS keep (dE a) (dE b))),[]):=by
 rw[dZ sQc0 (au rfl)];obtain⟨b1,b2,h⟩:=aiw f a b (by omega) (by omega);have la:=oE a;have lb:=oE b;obtain⟨c1,c2,h'⟩:=afO f keep hk (dE a) (dE b) b1 b2 [] (by simp only[gG]; omega)
 have e:aW aq ([]:Heap).length qQc0.body ⟨dP 0 [.list 1 (ints a),.list 1 (ints b),.func (.func f) [] []],[]⟩=aW aq 0 (.seq yK (.seq (.aH 0 (.loop jy)) (.seq (.qT gN false [] [6]) .ret))) ⟨[(0,.list 1 (ints a)),(1,.list 1 (ints b)),(2,.func (.func f) [] [])],[]⟩:=by
  exact (vT (fun s=>(vT (fun s=>(vT (fun s=>(vT (fun s=>(vT (fun s=>rfl) s).trans seq_assoc.symm) s).trans seq_assoc.symm) s).trans seq_assoc.symm) s).trans seq_assoc.symm) _).trans seq_assoc.symm
 rw[e,fF,h,o7,fF,Qn,h',ahc,if_pos rfl,o7,List.nil_append];cases c1<;>cases c2<;>(simp only[D4,Cl]; simp[jw,jv,ju,jt,js,jr,je,jT,jS,jR,ig,ib,ia,hU,gY,gX,gN,qQc0,dT,ah,dh,bL,bC])
theorem Xu (a b:List Int) (hl:a.length+b.length<=4294967296):bJ aq XC [.list 1 (ints a),.list 1 (ints b)] []=some (.list 1 (ints (minus a b)),[]):=by
 rw[dZ sQb5 (au rfl)];have h:=XK nQc1 (fun _ r=>!r) ac6 a b hl;have e:yS (fun _ r=>!r) (dE a) (dE b)=minus a b:=rfl;rw[e] at h;unfold qQb5 cQb5;simp[aeE,aeD,h,sQc0,iQc0,ah,bL,bC,kB]
theorem ve (a b:List Int) (hl:a.length+b.length<=4294967296):bJ aq nQ7 [.list 1 (ints a),.list 1 (ints b)] []=some (.bool (a.all fun x=>decide (x∈b)),[]):=by
 rw[dZ sQ7 (au rfl)];have h:=Xu a b hl
 have e:((minus a b).length:Int)=0 ↔ (a.all fun x=>decide (x∈b))=true:=by
  have h0:((minus a b).length:Int)=0 ↔ minus a b=[]:=by rw[<-List.length_eq_zero_iff]; omega
  rw[h0,List.eq_nil_iff_forall_not_mem,List.all_eq_true];simp only[(oA a b).2,decide_eq_true_eq,not_and,Decidable.not_not]
 unfold qQ7 cQ7;cases hx:a.all fun x=>decide (x∈b)
 ·rw[hx] at e;have e':¬((minus a b).length:Int)=0:=fun k=>absurd (e.1 k) (by simp);have e'':¬minus a b=[]:=fun k=>e' (by rw[k]; rfl);simp[aeY,aeX,h,e',e'',sQb5,iQb5,ah,bL,bC]
 ·have e':((minus a b).length:Int)=0:=e.2 hx;simp[aeY,aeX,h,e',sQb5,iQb5,ah,bL,bC]
end Go.BmP
