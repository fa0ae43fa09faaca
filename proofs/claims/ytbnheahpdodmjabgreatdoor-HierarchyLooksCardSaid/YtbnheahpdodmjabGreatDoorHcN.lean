/- core.Numbers. -/
import Derived.Test.YtbnheahpdodmjabGreatDoorLfP
import Derived.Test.YtbnheahpdodmjabGreatDoorDegC
import Derived.Test.YtbnheahpdodmjabGreatDoorHcE
set_option linter.unusedSimpArgs false
set_option linter.unusedVariables false
set_option maxRecDepth 100000
set_option maxHeartbeats 8000000
open List renaming drop_eq_getElem_cons → bz, drop_length → cE, drop_zero → cP, length_cons → cH, mem_cons → aO, mem_cons_of_mem → cK, replicate → bh, take_of_length_le → aT
open Nat renaming le_of_ble_eq_true → au, or_lt_two_pow → BU, pow_lt_pow_right → oU
open Option.some renaming injEq → af
open Prod renaming fst → eU
namespace Go.BmP
open Go.Am Go.Bm
theorem agV {N:Nat} {Es:List Ed} (hG:uQ (N:Int) Es) (hE:Es.length<1000000) (h0:0<N):∃o ds,AO (eK N Es) (2 ^ N-1) o ds/\bJ aq nQI [.agg [.int .i64 N,.list 2 (fe Es)]] [uh N (fe Es)]=some (.dR [.sl 1 3 0 N,.int .i64 0],[uh N (fe Es),uh N (fe Es),some (ints (ns o)),some (ints (sK o ds 0 (bh N 0)))]):=by
 obtain⟨o,ds,hp,pr⟩:=afa hG hE h0;refine⟨o,ds,hp,?_⟩;have g:=agD (N:Int) Es (by omega);rw[tE.2 hG] at g;obtain⟨a1,a2,a3,a4,a5,a6,a7,a8,a9,aa,ab⟩:=bg (ns o);obtain⟨b1,b2,b3,b4,b5,b6,b7,b8,b9,ba,bb⟩:=bg (sK o ds 0 (bh N 0));rw[dZ sQI (au rfl)];unfold uh at *;generalize ints (ns o)=O1 at *;generalize ints (sK o ds 0 (bh N 0))=L1 at *;generalize fe Es=Y at *;unfold qQI cQI;simp[akq,akp,ako,akn,akm,akl,g,pr,a1,a2,a3,a4,a5,a6,a7,a8,a9,aa,ab,b1,b2,b3,b4,b5,b6,b7,b8,b9,ba,bb,aH,bL,bC,fW,dm,dc,pl,fx,cN,jD,jC,dn,de,bX,dB,eX,iH,dJ,iC,ke,fI,sQ0,iQ0,sQZ,iQZ]
/- The sets of a level: hierarchy.Cores$1. -/
def hH (N:Nat) (Y O1 L1 E1:List AV):Heap:=[uh N Y,uh N Y,some O1,some L1,some [.sl 1 3 0 N],some E1]
def Vz (k:Int):List Int->Nat->Nat->Nat
 |[],_,m=>m
 |n::r,v,m=>Vz k r (v+1) (if k<=n then m ||| 2 ^ v else m)
def c1St (N:Nat) (Y O1 L1 E1:List AV) (k:Int) (m:Nat) (i:Int) (J:Env):St:=⟨(0,.int .i64 k)::(2,.ptr 0 0)::(5,.int .u64 m)::(8,.sl 1 3 0 N)::(9,.int .i64 N)::(10,.int .i64 i)::J,hH N Y O1 L1 E1⟩
theorem Gf (f:Nat->Rt):∀(l:List Int) (n:Nat),fj f n (ints l)=ints l
 |[],_=>rfl
 |x::r,n=>by
   show AV.int .i64 x::fj f (n+1) (ints r)=_;rw[Gf f r]; rfl
theorem acs (N:Nat) (hN:N<=64) (Y O1 E1:List AV) (L:List Int) (hL:L.length=N) (k:Int):∀(n i m:Nat),i+n=N->m<18446744073709551616->aW aq 6 (.loop abL) (c1St N Y O1 (ints L) E1 k m i [])=some (.exit 0,c1St N Y O1 (ints L) E1 k (Vz k (L.drop i) i m) N [(11,.bool false)])
 |0,i,m,hi,hm=>by
   obtain rfl:i=N:=by omega
   rw[<-hL,cE,hL];refine bn ?_;unfold c1St hH uh Vz abL;generalize ints L=L1 at *;simp[aai,aah,aag,aaf,aae,aad,aac,aab,aaa]
 |n+1,i,m,hi,hm=>by
   have bE:i<L.length:=by omega
   have h64:i<64:=by omega
   have p64:2 ^ i<18446744073709551616:=by
    have:=oU (a:=2) (by decide) h64;rw[show (18446744073709551616:Nat)=2 ^ 64 from rfl]; exact this
   have o64:m ||| 2 ^ i<18446744073709551616:=BU (n:=64) hm p64
   have ih:=acs N hN Y O1 E1 L hL k n (i+1) (if k<=L[i] then m ||| 2 ^ i else m) (by omega) (by split<;>assumption);rw[bz bE,Vz];refine (aS ?_).trans ih;have k1:(i:Int)<N:=by omega
   have kn:i<N:=by omega
   have hw:=dA (i:=i) (by omega);have g3:(ints L)[i]?=some (.int .i64 L[i]):=by rw[List.getElem?_eq_getElem (by rw[ah]; exact bE),bu]
   have g4:∀h,(ints L)[i]'h=.int .i64 L[i]:=fun h=>bu _ _ _;have ll:=ah L;have mb:=EV i h64;have w1:=u64_or_nat m (2 ^ i) hm p64;obtain⟨b1,b2,b3,b4,b5,b6,b7,b8,b9,ba,bb⟩:=bg L;have n1:∀f n,fj f n (ints L)=ints L:=fun f n=>Gf f L n;clear ih;unfold c1St hH uh abL;generalize ints L=L1 at *;generalize L[i]=x at *;generalize (m ||| 2 ^ i:Nat)=M2 at *;generalize (2 ^ i:Nat)=p at *;by_cases q:k<=x<;>simp[aai,aah,aag,aaf,aae,aad,aac,aab,aaa,k1,kn,hi,hw,g3,g4,ll,hL,bE,q,n1,mb,w1,b1,b2,b3,b4,b5,b6,b7,b8,b9,ba,bb,idx,aH,gn,sQM,iQM]
theorem Mw (k:Int):∀(L:List Int) (v m:Nat),v+L.length<=64->m<18446744073709551616->Vz k L v m<18446744073709551616
 |[],_,m,_,hm=>hm
 |n::r,v,m,hv,hm=>by
   rw[Vz];rw[cH] at hv;refine Mw k r (v+1) _ (by omega) ?_;split
   ·have h64:v<64:=by omega
    have p64:2 ^ v<18446744073709551616:=by
     have:=oU (a:=2) (by decide) h64;rw[show (18446744073709551616:Nat)=2 ^ 64 from rfl]; exact this
    exact BU (n:=64) hm p64
   ·exact hm
theorem RU (k:Int):∀(L:List Int) (v m j:Nat),(Vz k L v m).testBit j=(m.testBit j||(decide (v<=j)&&decide (j-v<L.length)&&decide (k<=L.getD (j-v) 0)))
 |[],v,m,j=>by simp[Vz]
 |n::r,v,m,j=>by
   rw[Vz,RU k r]
   have e:(if k<=n then m ||| 2 ^ v else m).testBit j=(m.testBit j||(decide (v=j)&&decide (k<=n))):=by
    split
    ·rename_i h; rw[Nat.testBit_or,Nat.testBit_two_pow]; simp[h]
    ·rename_i h; simp[h]
   rw[e,Bool.or_assoc];congr 1;by_cases h1:v=j
   ·subst h1;have h3:¬(v+1<=v):=by omega
    simp[h3]
   ·by_cases h2:v<=j
    ·obtain⟨t,rfl⟩:∃t,j=v+1+t:=⟨j-(v+1),by omega⟩;rw[show v+1+t-v=t+1 by omega,show v+1+t-(v+1)=t by omega];have h3:¬v=v+1+t:=by omega
     have h4:v<=v+1+t:=by omega
     have h5:v+1<=v+1+t:=by omega
     simp[h3,h4,h5]<;>rfl
    ·have h3:¬v+1<=j:=by omega
     simp[h1,h2,h3]
structure Lm (D:List AV):Prop where
 bo:dz D=[]
 ow:bS D=false
 mp:∀g,dp g D=D
 pl:dc D=true
 pt:dJ D=[]
 np:∀b,lH b D=true
 pp:dm D=true
theorem E0 {D:List AV} (h:Lm D) (p:Rt) (f:Nat->Rt) (j:Nat):Sc p f j D=none:=Sb (by rw[h.bo]; simp)
theorem vj {D:List AV} (h:Lf D) (p:Rt) (f:Nat->Rt) (j:Nat):Sc p f j D=none:=Sb (by rw[h.bo]; simp)
theorem am3 {N:Nat} {Es:List Ed} (hG:uQ (N:Int) Es) (hE:Es.length<1000000) (o L:List Int) (hL:L.length=N) (E1:List AV) (hE1:Lm E1) (k:Int) :
  ∃ l,(FE (eK N Es) (Vz k L 0 0) (Vz k L 0 0) l/\l.length<=64)/\bJ aq nQL [.int .i64 k,.ptr 4 0,.ptr 0 0] (hH N (fe Es) (ints o) (ints L) E1)=some (.list 1 (gJ l),hH N (fe Es) (ints o) (ints L) E1):=by
 have hN:N<=64:=by have:=hG.1.2; omega
 have gl:=Mw k L 0 0 (by omega) (by omega)
 obtain⟨l,l1,l2⟩:=Yc hG hE gl (fun j hj=>by
  rw[RU] at hj;simp at hj;omega)
 refine⟨l,l1,?_⟩;have lp:=acs N hN (fe Es) (ints o) E1 L hL k N 0 0 (by omega) (by omega);rw[cP] at lp;have x1:=vj (bg o);have x2:=vj (bg L);have x3:=E0 hE1;obtain⟨a1,a2,a3,a4,a5,a6,a7,a8,a9,aa,ab⟩:=bg o;obtain⟨b1,b2,b3,b4,b5,b6,b7,b8,b9,ba,bb⟩:=bg L;obtain⟨c1,c2,c3,c4,c5,c6,c8⟩:=hE1;have ll:=ah L;rw[dZ sQL (au rfl)];unfold c1St hH uh at *;simp only[fH] at lp;generalize Vz k L 0 0=M at *;generalize gJ l=G at *;generalize ints o=O1 at *;generalize ints L=L1 at *;generalize fe Es=Y at *;unfold qQL cQL;simp[aai,aah,aag,aaf,aae,aad,aac,aab,aaa,x1,x2,x3,lp,l2,ll,hL,a1,a2,a3,a4,a5,a6,a7,a8,a9,aa,ab,b1,b2,b3,b4,b5,b6,b7,b8,b9,ba,bb,c1,c2,c3,c4,c5,c6,c8,aH,gn,bL,bC,eR,fW,dm,dc,pl,fx,cN,jD,jC,dn,de,bX,dB,eX,iH,dJ,iC,ke,fI,sQN,iQN]
/- hierarchy.gathered: the sets of a level. -/
theorem qb (a:List (List Int × Int)):Lm (DD a):=by
 induction a with
 |nil=>exact⟨rfl,rfl,fun _=>rfl,rfl,rfl,fun _=>rfl,rfl⟩
 |cons p r ih=>
   refine⟨ih.bo,ih.ow,fun g=>?_,?_,ih.pt,fun b=>ih.np b,?_⟩
   ·show AV.dR [.str (oB p.1),.int .i64 p.2]::dp g (DD r)=_;rw[ih.mp]; rfl
   ·show (true&&dc (DD r))=true;rw[ih.pl]; rfl
   ·show (true&&dm (DD r))=true;rw[ih.pp]; rfl
def Ix:AV:=.func (.func nQL) [] [.ptr 4 0,.ptr 0 0]
def rh (a:List (List Int × Int)):List AV:=a.map fun p=>bw (0,-1,p.1)
theorem zV (a:List (List Int × Int)):(rh a).length=a.length:=List.length_map _
def N8 (N:Nat) (Y O1 L1:List AV) (a:List (List Int × Int)) (k:Int) (most:Int) (gs:List Nat) (i:Int) (J:Env):St:=
 ⟨(1,Ix)::(5,qp 5)::(6,.own 3 (rh a))::(7,.int .i64 k)::(17,.int .i64 most)::(18,.int .i64 k)::(23,.list 1 (gJ gs))::(24,.int .i64 gs.length)::(25,.int .i64 i)::J,hH N Y O1 L1 (DD a)⟩
theorem amM {N:Nat} {Y:List AV} (o L:List Int) (a:List (List Int × Int)) (ha:∀p∈a,Lo p.1) (SG:a.length<=1000) (k most:Int) (gs:List Nat) (i:Nat) (hi:i<gs.length) (uT:gs.length<=1000) (hs:Lo (bZ gs[i])) (hf:rC a (bZ gs[i]) 0=none) :
  aW aq 5 Mb (N8 N Y (ints o) (ints L) a k most gs i [])=some (.normal,N8 N Y (ints o) (ints L) (iQ a (bZ gs[i]) k) k most gs (i+1:Nat) []):=by
 have k1:(i:Int)<gs.length:=by omega
 have hw:=dA (i:=i) (by omega);have g3:(gJ gs)[i]?=some (.list 1 (ints (bZ gs[i]))):=by simp[gJ,hi]
 have g4:∀h,(gJ gs)[i]'h=.list 1 (ints (bZ gs[i])):=fun h=>by simp[gJ]
 have gl:=gI gs;have bl:=nt gs[i];have kr:=RC (bZ gs[i]) (by omega) hs;have mf:=Bf hs ha 0;rw[hf] at mf;have mp:=abw (bZ gs[i]) k a;rw[hf] at mp
 have kq:Bi .Du (.str (oB (bZ gs[i]))) (.str (oB (bZ gs[i])))=some true:=by
  simp only[Bi,af]; exact (MapKept.bytes_beq _ _).2 rfl
 have us:=AZ a (bZ gs[i]) k;rw[hf] at us
 have pA:rh (iQ a (bZ gs[i]) k)=rh a++[bw (0,-1,bZ gs[i])]:=by
  have e:∀b:List (List Int × Int),rh b=(b.map eU).map fun s=>bw (0,-1,s):=fun b=>by simp[rh]
  rw[e,us,e]; simp
 have pl:=zV a;have hL1:a.length+1<=4294967296:=by omega
 have tk1:(rh a).take a.length=rh a:=aT (by omega);have tk2:(rh a++[bw (0,-1,bZ gs[i])]).take (a.length+1)=rh a++[bw (0,-1,bZ gs[i])]:=aT (by simp[pl]);have x1:=vj (bg o);have x2:=vj (bg L);have x3:=E0 (qb a);have x4:=E0 (qb (iQ a (bZ gs[i]) k));obtain⟨a1,a2,a3,a4,a5,a6,a7,a8,a9,aa,ab⟩:=bg o;obtain⟨b1,b2,b3,b4,b5,b6,b7,b8,b9,ba,bb⟩:=bg L;obtain⟨c1,c2,c3,c4,c5,c6,c8⟩:=qb a;obtain⟨d1,d2,d3,d4,d5,d6,d8⟩:=qb (iQ a (bZ gs[i]) k);unfold N8 hH uh Ix;rw[pA];unfold bw at *;generalize DD (iQ a (bZ gs[i]) k)=E2 at *;generalize DD a=E1 at *;generalize rh a=Pa at *;generalize oB (bZ gs[i])=K at *;generalize ints (bZ gs[i])=S1 at *;generalize gJ gs=G at *;generalize ints o=O1 at *;generalize ints L=L1 at *;unfold Mb;simp[rf,rb,q9,q8,q7,q6,qZ,qY,qX,qW,lC,lx,lr,lk,lj,lg,k9,k8,k7,kZ,kY,kX,kW,kV,kU,kT,kS,kR,kQ,kP,kO,kN,k1,hw,g3,g4,gl,hi,kr,mf,mp,kq,hL1,ks,pl,tk1,tk2,x1,x2,x3,x4,a1,a2,a3,a4,a5,a6,a7,a8,a9,aa,ab,b1,b2,b3,b4,b5,b6,b7,b8,b9,ba,bb,c1,c2,c3,c4,c5,c6,c8,d1,d2,d3,d4,d5,d6,d8,mapOf,qp,mgv,idx,aH,dc,pl,kB,fz,FG,Iw,rep,fa,sQ1,iQ1]
theorem amL {N:Nat} {Y:List AV} (o L:List Int) (a:List (List Int × Int)) (ha:∀p∈a,Lo p.1) (SG:a.length<=1000) (k most:Int) (gs:List Nat) (i:Nat) (hi:i<gs.length) (uT:gs.length<=1000) (hs:Lo (bZ gs[i])) {n:Nat} {z:Int} (hf:rC a (bZ gs[i]) 0=some (n,.int .i64 z)) :
  aW aq 5 Mb (N8 N Y (ints o) (ints L) a k most gs i [])=some (.normal,N8 N Y (ints o) (ints L) (iQ a (bZ gs[i]) k) k most gs (i+1:Nat) []):=by
 have k1:(i:Int)<gs.length:=by omega
 have hw:=dA (i:=i) (by omega);have g3:(gJ gs)[i]?=some (.list 1 (ints (bZ gs[i]))):=by simp[gJ,hi]
 have g4:∀h,(gJ gs)[i]'h=.list 1 (ints (bZ gs[i])):=fun h=>by simp[gJ]
 have gl:=gI gs;have bl:=nt gs[i];have kr:=RC (bZ gs[i]) (by omega) hs;have mf:=Bf hs ha 0;rw[hf] at mf;have mp:=abw (bZ gs[i]) k a;rw[hf] at mp
 have kq:Bi .Du (.str (oB (bZ gs[i]))) (.str (oB (bZ gs[i])))=some true:=by
  simp only[Bi,af]; exact (MapKept.bytes_beq _ _).2 rfl
 have us:=AZ a (bZ gs[i]) k;rw[hf] at us
 have pA:rh (iQ a (bZ gs[i]) k)=rh a:=by
  have e:∀b:List (List Int × Int),rh b=(b.map eU).map fun s=>bw (0,-1,s):=fun b=>by simp[rh]
  rw[e,us,e]; simp
 have pl:=zV a;have x1:=vj (bg o);have x2:=vj (bg L);have x3:=E0 (qb a);have x4:=E0 (qb (iQ a (bZ gs[i]) k));obtain⟨a1,a2,a3,a4,a5,a6,a7,a8,a9,aa,ab⟩:=bg o;obtain⟨b1,b2,b3,b4,b5,b6,b7,b8,b9,ba,bb⟩:=bg L;obtain⟨c1,c2,c3,c4,c5,c6,c8⟩:=qb a;obtain⟨d1,d2,d3,d4,d5,d6,d8⟩:=qb (iQ a (bZ gs[i]) k);unfold N8 hH uh Ix;rw[pA];generalize DD (iQ a (bZ gs[i]) k)=E2 at *;generalize DD a=E1 at *;generalize rh a=Pa at *;generalize oB (bZ gs[i])=K at *;generalize ints (bZ gs[i])=S1 at *;generalize gJ gs=G at *;generalize ints o=O1 at *;generalize ints L=L1 at *;unfold Mb;simp[rf,rb,q9,q8,q7,q6,qZ,qY,qX,qW,lC,lx,lr,lk,lj,lg,k9,k8,k7,kZ,kY,kX,kW,kV,kU,kT,kS,kR,kQ,kP,kO,kN,k1,hw,g3,g4,gl,hi,kr,mf,mp,kq,pl,x1,x2,x3,x4,a1,a2,a3,a4,a5,a6,a7,a8,a9,aa,ab,b1,b2,b3,b4,b5,b6,b7,b8,b9,ba,bb,c1,c2,c3,c4,c5,c6,c8,d1,d2,d3,d4,d5,d6,d8,mapOf,qp,mgv,idx,aH,dc,pl,kB,fz,FG,Iw,rep,fa,sQ1,iQ1]
theorem VE:∀{a:List (List Int × Int)} {s:List Int} {i:Nat} {p:Nat × AV},rC a s i=some p->∃n z,p=(n,.int .i64 z)
 |[],_,_,_,h=>by cases h
 |(t,j)::r,s,i,p,h=>by
   unfold rC at h;split at h
   ·simp only[af] at h; subst h; exact⟨_,_,rfl⟩
   ·exact VE h
theorem zk:∀{a:List (List Int × Int)} {s:List Int} {k:Int} {p:List Int × Int},p∈iQ a s k->p.1=s\/p∈a
 |[],s,k,p,h=>by simp[iQ] at h; subst h; exact .inl rfl
 |(t,j)::r,s,k,p,h=>by
   unfold iQ at h;split at h
   ·rename_i e;rcases aO.1 h with rfl|h
    ·exact .inl e
    ·exact .inr (cK _ h)
   ·rcases aO.1 h with rfl|h
    ·exact .inr List.mem_cons_self
    ·exact (zk h).imp id fun h=>cK _ h
theorem Jc:∀(a:List (List Int × Int)) (s:List Int) (k:Int),(iQ a s k).length<=a.length+1
 |[],s,k=>by simp[iQ]
 |(t,j)::r,s,k=>by
   have:=Jc r s k;unfold iQ;split<;>simp only[cH]<;>omega
def pZ (k:Int) (a:List (List Int × Int)) (l:List (List Int)):List (List Int × Int):=l.foldl (fun a s=>iQ a s k) a
theorem ab4 {N:Nat} {Y:List AV} (o L:List Int) (k most:Int) (gs:List Nat) (uT:gs.length<=64) (hs:∀R∈gs,Lo (bZ R)):∀(n i:Nat) (a:List (List Int × Int)),(∀p∈a,Lo p.1)->i+n=gs.length->a.length+n<=1000 ->
  aW aq 5 (.loop Mb) (N8 N Y (ints o) (ints L) a k most gs i [])=some (.exit 2,N8 N Y (ints o) (ints L) (pZ k a ((gs.drop i).map bZ)) k most gs gs.length [(26,.bool false)])
 |0,i,a,ha,hi,SG=>by
   obtain rfl:i=gs.length:=by omega
   rw[cE];have e:pZ k a (([]:List Nat).map bZ)=a:=rfl;rw[e];refine bn ?_;have gl:=gI gs;obtain⟨c1,c2,c3,c4,c5,c6,c8⟩:=qb a;unfold N8 hH uh Ix;generalize DD a=E1 at *;generalize rh a=Pa at *;generalize gJ gs=G at *;generalize ints o=O1 at *;generalize ints L=L1 at *;unfold Mb;simp[rf,rb,q9,q8,q7,q6,qZ,qY,qX,qW,lC,lx,lr,lk,lj,lg,k9,k8,k7,kZ,kY,kX,kW,kV,kU,kT,kS,kR,kQ,kP,kO,kN,qp]
 |n+1,i,a,ha,hi,SG=>by
   have bE:i<gs.length:=by omega
   have hsi:=hs gs[i] (List.getElem_mem bE);have ul:=Jc a (bZ gs[i]) k;have ih:=ab4 (Y:=Y) (N:=N) o L k most gs uT hs n (i+1) (iQ a (bZ gs[i]) k) (fun p hp=>(zk hp).elim (fun e=>by rw[e]; exact hsi) (ha p)) (by omega) (by omega);rw[bz bE,List.map_cons];have e:pZ k a (bZ gs[i]::(gs.drop (i+1)).map bZ)=pZ k (iQ a (bZ gs[i]) k) ((gs.drop (i+1)).map bZ):=rfl;rw[e];cases hf:rC a (bZ gs[i]) 0 with
   |none=>exact (aS (amM o L a ha (by omega) k most gs i bE (by omega) hsi hf)).trans ih
   |some p=>
     obtain⟨m,z,rfl⟩:=VE hf;exact (aS (amL o L a ha (by omega) k most gs i bE (by omega) hsi hf)).trans ih
/- hierarchy.gathered: all levels. -/
theorem abC (R:Nat):Lo (bZ R):=fun x hx=>by
 obtain⟨j,rfl,h,_⟩:=gk.1 hx;omega
def Yi (N:Nat) (Y O1 L1:List AV) (a:List (List Int × Int)) (k:Int) (most:Int) (J:Env):St:=
 ⟨(1,Ix)::(5,qp 5)::(6,.own 3 (rh a))::(17,.int .i64 most)::(18,.int .i64 k)::J,hH N Y O1 L1 (DD a)⟩
theorem agF {N:Nat} {Es:List Ed} (hG:uQ (N:Int) Es) (hE:Es.length<1000000) (o L:List Int) (hL:L.length=N) (a:List (List Int × Int)) (ha:∀p∈a,Lo p.1) (k:Nat) (hk:k<100) (most:Int) (hm:(k:Int)<most) (SG:a.length<=900) :
  ∃ l,(FE (eK N Es) (Vz k L 0 0) (Vz k L 0 0) l/\l.length<=64)/\aW aq 5 PM (Yi N (fe Es) (ints o) (ints L) a k most [])=some (.normal,Yi N (fe Es) (ints o) (ints L) (pZ k a (l.map bZ)) (k+1:Nat) most []):=by
 obtain⟨l,l1,l2⟩:=am3 hG hE o L hL (DD a) (qb a) k;refine⟨l,l1,?_⟩;have lp:=ab4 (Y:=fe Es) (N:=N) o L k most l l1.2 (fun R _=>abC R) l.length 0 a ha (by omega) (by have:=l1.2; omega);rw[cP] at lp;have hw:=dA (i:=k) (by omega);have gl:=gI l;have x1:=vj (bg o);have x2:=vj (bg L);have x3:=E0 (qb a);have x4:=E0 (qb (pZ k a (l.map bZ)));obtain⟨a1,a2,a3,a4,a5,a6,a7,a8,a9,aa,ab⟩:=bg o;obtain⟨b1,b2,b3,b4,b5,b6,b7,b8,b9,ba,bb⟩:=bg L;obtain⟨c1,c2,c3,c4,c5,c6,c8⟩:=qb a;obtain⟨d1,d2,d3,d4,d5,d6,d8⟩:=qb (pZ k a (l.map bZ));unfold N8 Yi hH uh Ix qp at *;simp only[fH] at lp;generalize DD (pZ k a (l.map bZ))=E2 at *;generalize rh (pZ k a (l.map bZ))=Pb at *;generalize DD a=E1 at *;generalize rh a=Pa at *;generalize gJ l=G at *;generalize ints o=O1 at *;generalize ints L=L1 at *;generalize fe Es=Y at *;unfold PM;simp[rf,rb,q9,q8,q7,q6,qZ,qY,qX,qW,lC,lx,lr,lk,lj,lg,k9,k8,k7,kZ,kY,kX,kW,kV,kU,kT,kS,kR,kQ,kP,kO,kN,l2,lp,hm,hw,gl,x1,x2,x3,x4,a1,a2,a3,a4,a5,a6,a7,a8,a9,aa,ab,b1,b2,b3,b4,b5,b6,b7,b8,b9,ba,bb,c1,c2,c3,c4,c5,c6,c8,d1,d2,d3,d4,d5,d6,d8,qp,kB,aH,fW,dm,dc,pl,fx,cN,jD,jC,dn,de,bX,dB,eX,iH,dJ,iC,sQL,iQL]
inductive YR (A:List Nat) (L:List Int):Nat->Nat->List (List Int × Int)->List (List Int × Int)->Prop
 |nil (k:Nat) (a:List (List Int × Int)):YR A L k 0 a a
 |cons (k n:Nat) (a b:List (List Int × Int)) (l:List Nat) (h1:FE A (Vz k L 0 0) (Vz k L 0 0) l) (h2:YR A L (k+1) n (pZ k a (l.map bZ)) b):YR A L k (n+1) a b
theorem abz (k:Int):∀(l:List Nat) (a:List (List Int × Int)),(∀p∈a,Lo p.1)->∀p∈pZ k a (l.map bZ),Lo p.1
 |[],a,ha=>ha
 |R::r,a,ha=>abz k r (iQ a (bZ R) k) fun p hp=>(zk hp).elim (fun e=>by rw[e]; exact abC R) (ha p)
theorem LO (k:Int):∀(l:List Nat) (a:List (List Int × Int)),(pZ k a (l.map bZ)).length<=a.length+l.length
 |[],a=>Nat.le_refl _
 |R::r,a=>by
   have h1:=LO k r (iQ a (bZ R) k);have h2:=Jc a (bZ R) k;rw[cH];have e:pZ k a ((R::r).map bZ)=pZ k (iQ a (bZ R) k) (r.map bZ):=rfl;rw[e]; omega
theorem ab3 {N:Nat} {Es:List Ed} (hG:uQ (N:Int) Es) (hE:Es.length<1000000) (o L:List Int) (hL:L.length=N) (M:Nat) (hM:M<=14):∀(n k:Nat) (a:List (List Int × Int)),k+n=M->(∀p∈a,Lo p.1)->a.length<=64*k ->
  ∃ b,(YR (eK N Es) L k n a b/\(∀p∈b,Lo p.1)/\b.length<=900)/\aW aq 5 (.loop PM) (Yi N (fe Es) (ints o) (ints L) a k M [])=some (.exit 0,Yi N (fe Es) (ints o) (ints L) b M M [(19,.bool false)])
 |0,k,a,hk,ha,SG=>by
   obtain rfl:k=M:=by omega
   refine⟨a,⟨.nil _ _,ha,by omega⟩,?_⟩;refine bn ?_;unfold Yi hH uh Ix qp;generalize DD a=E1 at *;generalize rh a=Pa at *;generalize ints o=O1 at *;generalize ints L=L1 at *;generalize fe Es=Y at *;unfold PM;simp[rf,rb,q9,q8,q7,q6,qZ,qY,qX,qW,lC,lx,lr,lk,lj,lg,k9,k8,k7,kZ,kY,kX,kW,kV,kU,kT,kS,kR,kQ,kP,kO,kN]
 |n+1,k,a,hk,ha,SG=>by
   obtain⟨l,⟨l1,l3⟩,l2⟩:=agF hG hE o L hL a ha k (by omega) (M:Int) (by omega) (by omega);have h1:=LO k l a;obtain⟨b,⟨b1,b2⟩,b3⟩:=ab3 hG hE o L hL M hM n (k+1) (pZ k a (l.map bZ)) (by omega) (abz k l a ha) (by omega);exact⟨b,⟨.cons k n a b l l1 b1,b2⟩,(aS l2).trans b3⟩
end Go.BmP
