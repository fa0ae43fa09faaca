/- nodeset.merged: its loop and its answer. -/
import Derived.Test.YtpimmjklbakckaaDoorR02d
set_option linter.unusedSimpArgs false
set_option linter.unusedVariables false
set_option maxRecDepth 100000
set_option maxHeartbeats 4000000
open Bool renaming false_eq_true → bk
open List renaming append_assoc → dQ, append_nil → jb, drop_length → dn, drop_succ_cons → kI, drop_zero → dN, length_append → bw, length_cons → dz, length_nil → fD, length_replicate → cJ, take_append_of_le_length → cZ, take_length → eE, take_succ_cons → kH, take_zero → nU
open Nat renaming le_of_ble_eq_true → aF, le_refl → aG
namespace Go.BmP
open Go.Am Go.Bm
def sq (b:Bool) (l:List Int):AV:=if b then .own 1 (ints l) else .list 1 (ints l)
theorem zk (l:List Int):sq true l=.own 1 (ints l):=rfl
theorem yc (l:List Int):sq false l=.list 1 (ints l):=rfl
def wu (f:Nat) (keep:Bool->Bool->Bool):Prop:=(∃q,aD.fn f=some (⟨false,false,true⟩,q))/\∀ p r,bS aD f [.bool p,.bool r] []=some (.bool (keep p r),[])
theorem Tu:wu nQ0 (fun _ r=>!r):=by
 refine⟨⟨_,sQ0⟩,fun p r=>?_⟩;rw[fZ sQ0 (aF rfl)];unfold qQ0 cQ0;simp[abP,abO,cB,bU]
def jk:Bool->Int->Env
 |true,_=>[]
 |false,x=>[(10,.int .i64 x),(80,.bool false)]
def uS (f:Nat) (b1 b2:Bool) (A B out:List Int) (J:Env):St:=⟨(0,sq b1 A)::(1,sq b2 B)::(2,.func (.func f) [] [])::(7,.own 1 (ints out))::J,[]⟩
theorem Zo (f:Nat) (b1 b2:Bool) (out:List Int):bh aD 0 (.loop lE) (uS f b1 b2 [] [] out [])=some (.exit 0,⟨[(0,sq b1 []),(1,sq b2 []),(2,.func (.func f) [] []),(7,.own 1 (ints out)),(30,.bool false)],[]⟩):=by
 cases b1<;>cases b2<;>(simp only[uS,zk,yc]; exact cv (by unfold lE; simp[lx,lr,lk,lj,lg,k9,km,l8,l7,l6,iF,iE,iD,iC,iB,iA,ig,dT]))
theorem afp (f:Nat) (b1 b2:Bool) (A B out:List Int) (k:Bool) (x:Int):bh aD 0 lE (uS f b1 b2 A B out (jk k x))=bh aD 0 lE (uS f b1 b2 A B out []):=by
 cases k
 case true=>rfl
 unfold lE
 have e:bh aD 0 (.rW km false [] [0,1,2,7,30]) (uS f b1 b2 A B out (jk false x))=bh aD 0 (.rW km false [] [0,1,2,7,30]) (uS f b1 b2 A B out []):=by
  cases A with
  |nil=>cases b1<;>cases b2<;>(simp only[uS,zk,yc,jk]; simp[lx,lr,lk,lj,lg,k9,km,l8,l7,l6,iF,iE,iD,iC,iB,iA,ig,dT,ah])
  |cons a r=>
    have h0:(0:Int)<(r.length:Int)+1:=by omega
    cases b1<;>cases b2<;>(simp only[uS,zk,yc,jk]; simp[lx,lr,lk,lj,lg,k9,km,l8,l7,l6,iF,iE,iD,iC,iB,iA,ig,dT,ah,h0])
 rw[eQ,eQ,e,<-eQ,<-eQ]
/- nodeset.merged: rounds of its loop. -/
theorem afr (f:Nat) (keep:Bool->Bool->Bool) (hk:wu f keep) (x:Int) (r:List Int) (out:List Int) (hL:out.length+1<=4294967296) (b1 b2:Bool):bh aD 0 lE (uS f b1 b2 (x::r) [] out [])=some (.normal,uS f false b2 r [] (out++qd (keep true false) x []) (jk (keep true false) x)):=by
 obtain⟨⟨q,hf⟩,hc⟩:=hk;have h0:(0:Int)<(r.length:Int)+1:=by omega
 have h1:¬((r.length:Int)+1=0):=by omega
 have h2:(1:Int)<=(r.length:Int)+1:=by omega
 have h3:1+r.length<=r.length+1:=by omega
 have tq:=hc true false
 cases Us:keep true false<;>rw[Us] at tq<;>cases b1<;>cases b2 <;>
  (simp only[uS,zk,yc,jk,qd,bk,if_true,if_false,jb]
   unfold lE;simp[lx,lr,lk,lj,lg,k9,km,l8,l7,l6,iF,iE,iD,iC,iB,iA,ig,dT,jS,ah,h0,h1,h2,h3,hf,tq,idx,p7,hL,dC,fw,fY,kI,dN,kH,nU])
/- nodeset.merged: rounds of its loop. -/
theorem afq (f:Nat) (keep:Bool->Bool->Bool) (hk:wu f keep) (y:Int) (s:List Int) (out:List Int) (hL:out.length+1<=4294967296) (b1 b2:Bool):bh aD 0 lE (uS f b1 b2 [] (y::s) out [])=some (.normal,uS f b1 false [] s (out++qd (keep false true) y []) (jk (keep false true) y)):=by
 obtain⟨⟨q,hf⟩,hc⟩:=hk;have k0:(0:Int)<(s.length:Int)+1:=by omega
 have k1:¬((s.length:Int)+1=0):=by omega
 have k2:(1:Int)<=(s.length:Int)+1:=by omega
 have k3:1+s.length<=s.length+1:=by omega
 have tq:=hc false true
 cases Us:keep false true<;>rw[Us] at tq<;>cases b1<;>cases b2 <;>
  (simp only[uS,zk,yc,jk,qd,bk,if_true,if_false,jb]
   unfold lE;simp[lx,lr,lk,lj,lg,k9,km,l8,l7,l6,iF,iE,iD,iC,iB,iA,ig,dT,jS,ah,k0,k1,k2,k3,hf,tq,idx,p7,hL,dC,fw,fY,kI,dN,kH,nU])
/- nodeset.merged: rounds of its loop. -/
theorem adr (f:Nat) (keep:Bool->Bool->Bool) (hk:wu f keep) (x y:Int) (r s:List Int) (hxy:x<y) (out:List Int) (hL:out.length+1<=4294967296) (b1 b2:Bool):bh aD 0 lE (uS f b1 b2 (x::r) (y::s) out [])=some (.normal,uS f false b2 r (y::s) (out++qd (keep true false) x []) (jk (keep true false) x)):=by
 obtain⟨⟨q,hf⟩,hc⟩:=hk;have h0:(0:Int)<(r.length:Int)+1:=by omega
 have h1:¬((r.length:Int)+1=0):=by omega
 have h2:(1:Int)<=(r.length:Int)+1:=by omega
 have h3:1+r.length<=r.length+1:=by omega
 have k0:(0:Int)<(s.length:Int)+1:=by omega
 have k1:¬((s.length:Int)+1=0):=by omega
 have k2:(1:Int)<=(s.length:Int)+1:=by omega
 have k3:1+s.length<=s.length+1:=by omega
 have c1:x<=y:=by omega
 have c2:¬y<=x:=by omega
 have tq:=hc true false
 cases Us:keep true false<;>rw[Us] at tq<;>cases b1<;>cases b2 <;>
  (simp only[uS,zk,yc,jk,qd,bk,if_true,if_false,jb]
   unfold lE;simp[lx,lr,lk,lj,lg,k9,km,l8,l7,l6,iF,iE,iD,iC,iB,iA,ig,dT,jS,ah,h0,h1,h2,h3,k0,k1,k2,k3,c1,c2,hf,tq,idx,p7,hL,dC,fw,fY,kI,dN,kH,nU])
/- nodeset.merged: rounds of its loop. -/
theorem ads (f:Nat) (keep:Bool->Bool->Bool) (hk:wu f keep) (x y:Int) (r s:List Int) (hxy:y<x) (out:List Int) (hL:out.length+1<=4294967296) (b1 b2:Bool):bh aD 0 lE (uS f b1 b2 (x::r) (y::s) out [])=some (.normal,uS f b1 false (x::r) s (out++qd (keep false true) y []) (jk (keep false true) y)):=by
 obtain⟨⟨q,hf⟩,hc⟩:=hk;have h0:(0:Int)<(r.length:Int)+1:=by omega
 have h1:¬((r.length:Int)+1=0):=by omega
 have h2:(1:Int)<=(r.length:Int)+1:=by omega
 have h3:1+r.length<=r.length+1:=by omega
 have k0:(0:Int)<(s.length:Int)+1:=by omega
 have k1:¬((s.length:Int)+1=0):=by omega
 have k2:(1:Int)<=(s.length:Int)+1:=by omega
 have k3:1+s.length<=s.length+1:=by omega
 have c1:y<=x:=by omega
 have c2:¬x<=y:=by omega
 have tq:=hc false true
 cases Us:keep false true<;>rw[Us] at tq<;>cases b1<;>cases b2 <;>
  (simp only[uS,zk,yc,jk,qd,bk,if_true,if_false,jb]
   unfold lE;simp[lx,lr,lk,lj,lg,k9,km,l8,l7,l6,iF,iE,iD,iC,iB,iA,ig,dT,jS,ah,h0,h1,h2,h3,k0,k1,k2,k3,c1,c2,hf,tq,idx,p7,hL,dC,fw,fY,kI,dN,kH,nU])
/- nodeset.merged: rounds of its loop. -/
theorem adt (f:Nat) (keep:Bool->Bool->Bool) (hk:wu f keep) (x:Int) (r s:List Int) (out:List Int) (hL:out.length+1<=4294967296) (b1 b2:Bool):bh aD 0 lE (uS f b1 b2 (x::r) (x::s) out [])=some (.normal,uS f false false r s (out++qd (keep true true) x []) (jk (keep true true) x)):=by
 obtain⟨⟨q,hf⟩,hc⟩:=hk;have h0:(0:Int)<(r.length:Int)+1:=by omega
 have h1:¬((r.length:Int)+1=0):=by omega
 have h2:(1:Int)<=(r.length:Int)+1:=by omega
 have h3:1+r.length<=r.length+1:=by omega
 have k0:(0:Int)<(s.length:Int)+1:=by omega
 have k1:¬((s.length:Int)+1=0):=by omega
 have k2:(1:Int)<=(s.length:Int)+1:=by omega
 have k3:1+s.length<=s.length+1:=by omega
 have tq:=hc true true
 cases Us:keep true true<;>rw[Us] at tq<;>cases b1<;>cases b2 <;>
  (simp only[uS,zk,yc,jk,qd,bk,if_true,if_false,jb]
   unfold lE;simp[lx,lr,lk,lj,lg,k9,km,l8,l7,l6,iF,iE,iD,iC,iB,iA,ig,dT,jS,ah,h0,h1,h2,h3,k0,k1,k2,k3,hf,tq,idx,p7,hL,dC,fw,fY,kI,dN,kH,nU])
/- nodeset.merged as a whole; Union, Meet, Minus, Of, Within. -/
theorem gO (l:List Int):gn (ints l)=true:=by
 induction l with
 |nil=>rfl
 |cons x r ih=>simp only[ints,List.map_cons,gn,clean] at ih ⊢; rw[ih]; rfl
theorem vp (c:Bool) (x:Int) (m:List Int):qd c x m=qd c x []++m:=by cases c<;>rfl
theorem Wc (f:Nat) (keep:Bool->Bool->Bool) (hk:wu f keep) (A B:List Int):∀(b1 b2:Bool) (out:List Int),out.length+A.length+B.length<=4294967296->∃b1' b2',bh aD 0 (.loop lE) (uS f b1 b2 A B out [])=some (.exit 0,⟨[(0,sq b1' []),(1,sq b2' []),(2,.func (.func f) [] []),(7,.own 1 (ints (out++uT keep A B))),(30,.bool false)],[]⟩):=by
 have go:∀{k:Bool} {x:Int} {b1 b2:Bool} {A B out:List Int},bh aD 0 (.loop lE) (uS f b1 b2 A B out (jk k x))=bh aD 0 (.loop lE) (uS f b1 b2 A B out []):=by
  intro k x b1 b2 A B out;rw[qR,qR,afp]
 have pl:∀(c:Bool) (x:Int) (o:List Int),(o++qd c x []).length<=o.length+1:=by
  intro c x o; cases c<;>simp[qd]
 induction A,B using uT.induct with
 |case1=>intro b1 b2 out h; exact⟨b1,b2,by rw[uT,jb]; exact Zo f b1 b2 out⟩
 |case2 x r ih=>
   intro b1 b2 out h;simp only[dz,fD] at h;have:=pl (keep true false) x out;obtain⟨c1,c2,e⟩:=ih false b2 (out++qd (keep true false) x []) (by simp only[fD]; omega);refine⟨c1,c2,?_⟩;rw[bI (afr f keep hk x r out (by omega) b1 b2),go,e,uT,vp (keep true false) x (uT keep r []),dQ]
 |case3 y s ih=>
   intro b1 b2 out h;simp only[dz,fD] at h;have:=pl (keep false true) y out;obtain⟨c1,c2,e⟩:=ih b1 false (out++qd (keep false true) y []) (by simp only[fD]; omega);refine⟨c1,c2,?_⟩;rw[bI (afq f keep hk y s out (by omega) b1 b2),go,e,uT,vp (keep false true) y (uT keep [] s),dQ]
 |case4 x r y s bY ih=>
   intro b1 b2 out h;simp only[dz] at h;have:=pl (keep true false) x out;obtain⟨c1,c2,e⟩:=ih false b2 (out++qd (keep true false) x []) (by simp only[dz]; omega);refine⟨c1,c2,?_⟩;rw[bI (adr f keep hk x y r s bY out (by omega) b1 b2),go,e,uT,if_pos bY,vp (keep true false) x (uT keep r (y::s)),dQ]
 |case5 x r y s hn bY ih=>
   intro b1 b2 out h;simp only[dz] at h;have:=pl (keep false true) y out;obtain⟨c1,c2,e⟩:=ih b1 false (out++qd (keep false true) y []) (by simp only[dz]; omega);refine⟨c1,c2,?_⟩;rw[bI (ads f keep hk x y r s bY out (by omega) b1 b2),go,e,uT,if_neg hn,if_pos bY,vp (keep false true) y (uT keep (x::r) s),dQ]
 |case6 x r y s hn Yh ih=>
   obtain rfl:x=y:=by omega
   intro b1 b2 out h;simp only[dz] at h;have:=pl (keep true true) x out;obtain⟨c1,c2,e⟩:=ih false false (out++qd (keep true true) x []) (by omega);refine⟨c1,c2,?_⟩;rw[bI (adt f keep hk x r s out (by omega) b1 b2),go,e,uT,if_neg hn,if_neg Yh,vp (keep true true) x (uT keep r s),dQ]
theorem jV:bS aD Yd [.list 1 []] []=some (.list 1 [],[]):=HB (by simp[FP,oQ2,TQ])
theorem tR (x:Int) (r:List Int) (hl:r.length+1<=4294967296):bS aD Yd [.list 1 (ints (x::r))] []=some (.own 1 (ints (x::r)),[]):=by
 rw[Ub (by simp[FP,oQ2,TQ,jS]) Yb (aF rfl)];unfold qQ2 cQ2;simp[abN,abM,abL,abK,jS,ah,hl,p7,cB,bU,Fl,Wm,UI,UH,dC,List.take_take,Nat.min_self,eE,AV.cells,AV.leaf]
theorem qy (l:List Int) (h:l.length<=4294967296):M6 1 (ints l) []=some (ints (iM l),none):=by
 have e:j7 (ints l)=some l:=rK l;unfold M6;simp only[ah,p7,h,if_true,e];rfl
theorem td (l:List Int) (h:l.length<=4294967296):Ol 1 (ints l) []=some (ints (dd l++List.replicate (l.length-(dd l).length) 0),some (dd l).length):=by
 have e:j7 (ints l)=some l:=rK l;unfold Ol;simp only[ah,p7,h,if_true,e];rfl
theorem lY:M6 1 [] []=some ([],none):=qy [] (by simp)
theorem mJ:Ol 1 [] []=some ([],some 0):=td [] (by simp)
def uJ:C:=.seq (.rW lx false [] [0,1,2]) (.seq (.rW lr false [] [0,1,2]) (.seq (.rW lk false [] [0,1,2]) (.seq (.rW lj false [] [0,1,2]) (.seq (.rW lg false [] [0,1,2]) (.rW k9 false [] [0,1,2,7])))))
theorem Wb (f:Nat):bh aD 0 uJ ⟨[(0,.list 1 (ints [])),(1,.list 1 (ints [])),(2,.func (.func f) [] [])],[]⟩=some (.normal,uS f false false [] [] [] []):=by
 unfold uJ;simp only[uS,yc,dT];simp[lx,lr,lk,lj,lg,k9,km,l8,l7,l6,iF,iE,iD,iC,iB,iA,ig,jV,lY,mJ,Yb,ZI,ZH,ZG]
theorem Wa (f:Nat) (y:Int) (s:List Int) (hl:s.length+1<=4294967296):bh aD 0 uJ ⟨[(0,.list 1 (ints [])),(1,.list 1 (ints (y::s))),(2,.func (.func f) [] [])],[]⟩=some (.normal,uS f false true [] (dt (y::s)) [] []):=by
 have hc:=tR y s hl;have TH:(y::s).length<=4294967296:=by simpa using hl
 have h1:=qy (y::s) TH;have e2:(iM (y::s)).length=(y::s).length:=jR _;have h2:=td (iM (y::s)) (by omega);have e3:dd (iM (y::s))=dt (y::s):=rfl;have e4:=nf (y::s);rw[e2,e3] at h2;generalize y::s=b at *;by_cases hm:b.length<=(dt b).length
 ·have Yi:b.length-(dt b).length=0:=by omega
  have hm3:(dt b).length=b.length:=by omega
  unfold uJ;simp only[uS,yc,zk,dT];simp[lx,lr,lk,lj,lg,k9,km,l8,l7,l6,iF,iE,iD,iC,iB,iA,ig,jV,lY,mJ,hc,h1,h2,e2,e4,hm,Yi,hm3,Yb,ZI,ZH,ZG,ah,dC,eE,bw,cJ,dn,fw,gO,cZ,aG]
 ·unfold uJ;have e5:(dt b).length+(b.length-(dt b).length)=b.length:=by omega
  simp only[uS,yc,zk,dT];simp[lx,lr,lk,lj,lg,k9,km,l8,l7,l6,iF,iE,iD,iC,iB,iA,ig,jV,lY,mJ,hc,h1,h2,e2,e4,e5,hm,Yb,ZI,ZH,ZG,ah,dC,eE,bw,cJ,dn,fw,gO,cZ,aG]
theorem V9 (f:Nat) (y:Int) (s:List Int) (hl:s.length+1<=4294967296):bh aD 0 uJ ⟨[(0,.list 1 (ints (y::s))),(1,.list 1 (ints [])),(2,.func (.func f) [] [])],[]⟩=some (.normal,uS f true false (dt (y::s)) [] [] []):=by
 have hc:=tR y s hl;have TH:(y::s).length<=4294967296:=by simpa using hl
 have h1:=qy (y::s) TH;have e2:(iM (y::s)).length=(y::s).length:=jR _;have h2:=td (iM (y::s)) (by omega);have e3:dd (iM (y::s))=dt (y::s):=rfl;have e4:=nf (y::s);rw[e2,e3] at h2;generalize y::s=b at *;by_cases hm:b.length<=(dt b).length
 ·have Yi:b.length-(dt b).length=0:=by omega
  have hm3:(dt b).length=b.length:=by omega
  unfold uJ;simp only[uS,yc,zk,dT];simp[lx,lr,lk,lj,lg,k9,km,l8,l7,l6,iF,iE,iD,iC,iB,iA,ig,jV,lY,mJ,hc,h1,h2,e2,e4,hm,Yi,hm3,Yb,ZI,ZH,ZG,ah,dC,eE,bw,cJ,dn,fw,gO,cZ,aG]
 ·unfold uJ;have e5:(dt b).length+(b.length-(dt b).length)=b.length:=by omega
  simp only[uS,yc,zk,dT];simp[lx,lr,lk,lj,lg,k9,km,l8,l7,l6,iF,iE,iD,iC,iB,iA,ig,jV,lY,mJ,hc,h1,h2,e2,e4,e5,hm,Yb,ZI,ZH,ZG,ah,dC,eE,bw,cJ,dn,fw,gO,cZ,aG]
theorem V8 (f:Nat) (x y:Int) (r s:List Int) (hl:r.length+1<=4294967296) (kl:s.length+1<=4294967296):bh aD 0 uJ ⟨[(0,.list 1 (ints (x::r))),(1,.list 1 (ints (y::s))),(2,.func (.func f) [] [])],[]⟩=some (.normal,uS f true true (dt (x::r)) (dt (y::s)) [] []):=by
 have BT:=tR x r hl;have hla':(x::r).length<=4294967296:=by simpa using hl
 have h1a:=qy (x::r) hla';have e2a:(iM (x::r)).length=(x::r).length:=jR _;have h2a:=td (iM (x::r)) (by omega);have e3a:dd (iM (x::r))=dt (x::r):=rfl;have e4a:=nf (x::r);rw[e2a,e3a] at h2a;have hcb:=tR y s kl;have hlb':(y::s).length<=4294967296:=by simpa using kl
 have h1b:=qy (y::s) hlb';have e2b:(iM (y::s)).length=(y::s).length:=jR _;have h2b:=td (iM (y::s)) (by omega);have e3b:dd (iM (y::s))=dt (y::s):=rfl;have e4b:=nf (y::s);rw[e2b,e3b] at h2b;generalize x::r=a at *;generalize y::s=b at *;unfold uJ;simp only[uS,yc,zk,dT];by_cases hma:a.length<=(dt a).length
 ·have hma2:a.length-(dt a).length=0:=by omega
  have hma3:(dt a).length=a.length:=by omega
  by_cases hmb:b.length<=(dt b).length
  ·have hmb2:b.length-(dt b).length=0:=by omega
   have hmb3:(dt b).length=b.length:=by omega
   simp[lx,lr,lk,lj,lg,k9,km,l8,l7,l6,iF,iE,iD,iC,iB,iA,ig,jV,lY,mJ,BT,h1a,h2a,e2a,e4a,hma,hma2,hma3,hcb,h1b,h2b,e2b,e4b,hmb,hmb2,hmb3,Yb,ZI,ZH,ZG,ah,dC,eE,bw,cJ,dn,fw,gO,cZ,aG]
  ·have e5b:(dt b).length+(b.length-(dt b).length)=b.length:=by omega
   simp[lx,lr,lk,lj,lg,k9,km,l8,l7,l6,iF,iE,iD,iC,iB,iA,ig,jV,lY,mJ,BT,h1a,h2a,e2a,e4a,hma,hma2,hma3,hcb,h1b,h2b,e2b,e4b,hmb,e5b,Yb,ZI,ZH,ZG,ah,dC,eE,bw,cJ,dn,fw,gO,cZ,aG]
 ·have e5a:(dt a).length+(a.length-(dt a).length)=a.length:=by omega
  by_cases hmb:b.length<=(dt b).length
  ·have hmb2:b.length-(dt b).length=0:=by omega
   have hmb3:(dt b).length=b.length:=by omega
   simp[lx,lr,lk,lj,lg,k9,km,l8,l7,l6,iF,iE,iD,iC,iB,iA,ig,jV,lY,mJ,BT,h1a,h2a,e2a,e4a,hma,e5a,hcb,h1b,h2b,e2b,e4b,hmb,hmb2,hmb3,Yb,ZI,ZH,ZG,ah,dC,eE,bw,cJ,dn,fw,gO,cZ,aG]
  ·have e5b:(dt b).length+(b.length-(dt b).length)=b.length:=by omega
   simp[lx,lr,lk,lj,lg,k9,km,l8,l7,l6,iF,iE,iD,iC,iB,iA,ig,jV,lY,mJ,BT,h1a,h2a,e2a,e4a,hma,e5a,hcb,h1b,h2b,e2b,e4b,hmb,e5b,Yb,ZI,ZH,ZG,ah,dC,eE,bw,cJ,dn,fw,gO,cZ,aG]
theorem Zn (f:Nat) (a b:List Int) (ha:a.length<=4294967296) (hb:b.length<=4294967296):∃b1 b2,bh aD 0 uJ ⟨[(0,.list 1 (ints a)),(1,.list 1 (ints b)),(2,.func (.func f) [] [])],[]⟩=some (.normal,uS f b1 b2 (dt a) (dt b) [] []):=by
 cases a with
 |nil=>cases b with
   |nil=>exact⟨_,_,Wb f⟩
   |cons y s=>exact⟨_,_,Wa f y s (by simpa using hb)⟩
 |cons x r=>cases b with
   |nil=>exact⟨_,_,V9 f x r (by simpa using ha)⟩
   |cons y s=>exact⟨_,_,V8 f x y r s (by simpa using ha) (by simpa using hb)⟩
theorem seq_assoc {c:dM} {b:Nat} {x y z:C} {s:St}:bh c b (.seq (.seq x y) z) s=bh c b (.seq x (.seq y z)) s:=by
 rw[eQ,eQ,eQ];cases e:bh c b x s with
 |none=>rfl
 |some w=>
   obtain⟨ex,s'⟩:=w;cases ex with
   |normal=>rw[lX,lX,eQ]
   |exit i=>rfl
   |ret=>rfl
theorem sE {c:dM} {b:Nat} {x y z:C} (h:∀s,bh c b y s=bh c b z s) (s:St):bh c b (.seq x y) s=bh c b (.seq x z) s:=by
 rw[eQ,eQ];cases e:bh c b x s with
 |none=>rfl
 |some w=>
   obtain⟨ex,s'⟩:=w;cases ex with
   |normal=>rw[lX,lX,h]
   |exit i=>rfl
   |ret=>rfl
theorem NI (f:Nat) (keep:Bool->Bool->Bool) (hk:wu f keep) (a b:List Int) (hl:a.length+b.length<=4294967296):bS aD nQZ [.list 1 (ints a),.list 1 (ints b),.func (.func f) [] []] []=some (.list 1 (ints (uT keep (dt a) (dt b))),[]):=by
 rw[fZ sQZ (aF rfl)];obtain⟨b1,b2,h⟩:=Zn f a b (by omega) (by omega);have la:=nf a;have lb:=nf b;obtain⟨c1,c2,h'⟩:=Wc f keep hk (dt a) (dt b) b1 b2 [] (by simp only[fD]; omega)
 have e:bh aD ([]:Heap).length qQZ.body ⟨dL 0 [.list 1 (ints a),.list 1 (ints b),.func (.func f) [] []],[]⟩=bh aD 0 (.seq uJ (.seq (.aN 0 (.loop lE)) (.seq (.rW ig false [] [6]) .ret))) ⟨[(0,.list 1 (ints a)),(1,.list 1 (ints b)),(2,.func (.func f) [] [])],[]⟩:=by
  exact (sE (fun s=>(sE (fun s=>(sE (fun s=>(sE (fun s=>(sE (fun s=>rfl) s).trans seq_assoc.symm) s).trans seq_assoc.symm) s).trans seq_assoc.symm) s).trans seq_assoc.symm) _).trans seq_assoc.symm
 rw[e,eQ,h,lX,eQ,Hr,h',XT,if_pos rfl,lX,List.nil_append];cases c1<;>cases c2<;>(simp only[zk,yc]; simp[lx,lr,lk,lj,lg,k9,km,l8,l7,l6,iF,iE,iD,iC,iB,iA,ig,qQZ,dT,ah,dC,cB,bU])
theorem NB (a b:List Int) (hl:a.length+b.length<=4294967296):bS aD nQU [.list 1 (ints a),.list 1 (ints b)] []=some (.list 1 (ints (minus a b)),[]):=by
 rw[fZ sQU (aF rfl)];have h:=NI nQ0 (fun _ r=>!r) Tu a b hl;have e:uT (fun _ r=>!r) (dt a) (dt b)=minus a b:=rfl;rw[e] at h;unfold qQU cQU;simp[abz,aby,h,sQZ,iQZ,ah,cB,bU,uF]
theorem rE (a b:List Int) (hl:a.length+b.length<=4294967296):bS aD nQG [.list 1 (ints a),.list 1 (ints b)] []=some (.bool (a.all fun x=>decide (x∈b)),[]):=by
 rw[fZ sQG (aF rfl)];have h:=NB a b hl
 have e:((minus a b).length:Int)=0 ↔ (a.all fun x=>decide (x∈b))=true:=by
  have h0:((minus a b).length:Int)=0 ↔ minus a b=[]:=by rw[<-List.length_eq_zero_iff]; omega
  rw[h0,List.eq_nil_iff_forall_not_mem,List.all_eq_true];simp only[(NH a b).2,decide_eq_true_eq,not_and,Decidable.not_not]
 unfold qQG cQG;cases hx:a.all fun x=>decide (x∈b)
 ·rw[hx] at e;have e':¬((minus a b).length:Int)=0:=fun k=>absurd (e.1 k) (by simp);have e'':¬minus a b=[]:=fun k=>e' (by rw[k]; rfl);simp[Vk,Vj,h,e',e'',sQU,iQU,ah,cB,bU]
 ·have e':((minus a b).length:Int)=0:=e.2 hx;simp[Vk,Vj,h,e',sQU,iQU,ah,cB,bU]
end Go.BmP
