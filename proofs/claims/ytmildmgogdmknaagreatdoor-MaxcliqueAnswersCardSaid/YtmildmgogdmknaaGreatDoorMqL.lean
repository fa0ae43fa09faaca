/- mk.Light, mk.Spoilt. -/
import Derived.Test.YtmildmgogdmknaaGreatDoorMqJ
import Derived.Test.YtmildmgogdmknaaGreatDoorMbM
import Derived.Test.YtmildmgogdmknaaGreatDoorCoA
set_option linter.unusedSimpArgs false
set_option linter.unusedVariables false
set_option maxRecDepth 100000
set_option maxHeartbeats 8000000
open Bool renaming and_eq_true → ae, eq_iff_iff → m8, true_and → dI
open List renaming all_eq_true → gL, eq_nil_of_length_eq_zero → dC, getElem_mem → cI, length_set → bI, mem_or_eq_of_mem_set → jw, take_of_length_le → aZ
open Nat renaming le_of_ble_eq_true → ah
open Option.some renaming inj → dv
namespace Go.BmP
open Go.Am Go.Bm
def gA (n:Int) (F:List Ed):AV:=.agg [.int .i64 n,.list 2 (bU F)]
theorem abF (n:Int) (F:List Ed) (m:Int) (hm:0<=m/\m<=1000):bp aq nQc [gA n F,.int .i64 m] []=some (.bool (decide (n<=m)&&decide ((F.length:Int)<=m*m)),[]):=by
 rw[pM sQc (ah rfl)];have lF:=az F
 have w:IntKind.i64.wrap (m*m)=m*m:=by
  obtain⟨h0,h1⟩:=hm;have:m*m<=1000*1000:=Int.mul_le_mul h1 h1 h0 (by omega);have:0<=m*m:=Int.mul_nonneg h0 h0;exact fE (by omega) (by omega)
 unfold gA;generalize bU F=Y at *;by_cases k:n<=m
 ·by_cases q:(F.length:Int)<=m*m
  ·unfold qQc cQc;simp[YV,YU,k,q,w,lF,aO,bk,bf]
  ·unfold qQc cQc;simp[YV,YU,k,q,w,lF,aO,bk,bf]
 ·unfold qQc cQc;simp[YV,YU,k,aO,bk,bf]
def Low (F:List Ed) (m:Int):Prop:=∀e∈F,(0<=e.1/\e.1<m)/\(0<=e.2/\e.2<m)
theorem IX (F:List Ed) (i:Nat) (u v:Int):(bU F).set i (.agg [.int .i64 u,.int .i64 v])=bU (F.set i (u,v)):=by simp[bU,List.map_set,bW]
theorem af5 (l:List Int) (hl:l.length<=500) (a:Nat) (N:Int) (hN:0<=N/\N<=64) (Es:List Ed) (hE:Es.length<=10000) (hL:Low Es 9):∃n' Es' a',bp aq nQg [.ptr 0 0,gA N Es] [dk l a]=some (gA n' Es',[dk l a'])/\Es'.length<=Es.length+1/\∀ e∈Es',e.1<11/\e.2<11:=by
 have lE:=az Es;have kE:=au Es;have aE:=aA Es;have tE:(bU Es).take Es.length=bU Es:=aZ (by omega);have mE:Es.length<=4294967296:=by omega
 have n1:=jI l hl a 6 (by omega) [] ⟨fun _=>rfl,rfl,fun _ _=>rfl,fun _=>rfl,fun _ _=>rfl⟩;obtain⟨b0,b1⟩:=w8 l a (n:=6) (by omega);generalize Bt l a 6=a1 at *;generalize DR l a 6=c at *;have lo:∀e∈Es,e.1<11/\e.2<11:=fun e he=>by have:=hL e he; omega
 by_cases c0:c=0
 ·subst c0;have n2:=jI l hl a1 70 (by omega) [] ⟨fun _=>rfl,rfl,fun _ _=>rfl,fun _=>rfl,fun _ _=>rfl⟩;obtain⟨d0,d1⟩:=w8 l a1 (n:=70) (by omega);generalize Bt l a1 70=a2 at *;generalize DR l a1 70=d at *;have w:IntKind.i64.wrap (d-2)=d-2:=fE (by omega) (by omega);refine⟨d-2,Es,a2,?_,by omega,lo⟩;rw[pM sQg (ah rfl)];unfold gA dk at *;generalize bU Es=Y at *;unfold Zq cQg;simp[ye,yd,yc,yb,ya,xZ,xY,xX,xW,xV,qG,qF,qE,qD,qC,qB,qA,qz,qy,qx,n1,n2,w,lE,aE,tE,mE,jx,aO,bk,bf,iD,fu,cX,dP,pl,NA,Ry]
 by_cases c1:c=1
 ·subst c1;by_cases z:Es.length=0
  ·skip
   obtain rfl:Es=[]:=dC z;rw[rZ] at *;refine⟨N,[],a1,?_,by simp,by simp⟩;rw[pM sQg (ah rfl)];unfold gA dk at *;unfold Zq cQg;simp[ye,yd,yc,yb,ya,xZ,xY,xX,xW,xV,qG,qF,qE,qD,qC,qB,qA,qz,qy,qx,n1,rZ,jx,aO,bk,bf,iD,fu,cX,dP,pl,NA,Ry]
  ·have z1:(0:Int)<Es.length:=by omega
   have z2:0<Es.length:=by omega
   have n2:=jI l hl a1 (Es.length:Int) (by omega) [] ⟨fun _=>rfl,rfl,fun _ _=>rfl,fun _=>rfl,fun _ _=>rfl⟩;obtain⟨d0,d1⟩:=w8 l a1 (n:=(Es.length:Int)) (by omega);generalize Bt l a1 (Es.length:Int)=a2 at *;obtain⟨i,hi⟩:∃i:Nat,DR l a1 (Es.length:Int)=(i:Int):=⟨(DR l a1 (Es.length:Int)).toNat,by omega⟩;rw[hi] at n2 d1;clear hi d0;have il:i<Es.length:=by omega
   obtain⟨u,v,Sj⟩:∃u v:Int,Es[i]=(u,v):=⟨_,_,rfl⟩;have bE:=hL _ (cI il);rw[Sj] at bE;have gE:∀h,(bU Es)[i]'h=.agg [.int .i64 u,.int .i64 v]:=fun h=>by rw[bw,Sj]; rfl
   have sE:=IX Es i v u;have l1:(bU (Es.set i (v,u))).length=Es.length:=by rw[az,bI]
   have tS:(bU (Es.set i (v,u))).take Es.length=bU (Es.set i (v,u)):=aZ (by omega);refine⟨N,Es.set i (v,u),a2,?_,by rw[bI]; omega,fun e he=>?_⟩
   ·rw[pM sQg (ah rfl)];unfold gA dk at *;generalize bU (Es.set i (v,u))=Y2 at *;clear Sj hL lo bE;generalize bU Es=Y at *;unfold Zq cQg;simp[ye,yd,yc,yb,ya,xZ,xY,xX,xW,xV,qG,qF,qE,qD,qC,qB,qA,qz,qy,qx,n1,n2,z2,d1,il,gE,sE,l1,tS,List.set_set,bI,List.getElem_set_self,lE,aE,tE,mE,jx,idx,aO,bk,bf,iD,fu,cX,dP,pl,NA,Ry]
   ·rcases jw he with q|q
    ·exact lo e q
    ·subst q; simp only; omega
 by_cases c2:c=2
 ·subst c2;by_cases z:Es.length=0
  ·skip
   obtain rfl:Es=[]:=dC z;rw[rZ] at *;refine⟨N,[],a1,?_,by simp,by simp⟩;rw[pM sQg (ah rfl)];unfold gA dk at *;unfold Zq cQg;simp[ye,yd,yc,yb,ya,xZ,xY,xX,xW,xV,qG,qF,qE,qD,qC,qB,qA,qz,qy,qx,n1,rZ,jx,aO,bk,bf,iD,fu,cX,dP,pl,NA,Ry]
  by_cases zz:Es.length=1
  ·have z1:¬(1:Int)<Es.length:=by omega
   have z2:¬1<Es.length:=by omega
   refine⟨N,Es,a1,?_,by omega,lo⟩;rw[pM sQg (ah rfl)];unfold gA dk at *;generalize bU Es=Y at *;unfold Zq cQg;simp[ye,yd,yc,yb,ya,xZ,xY,xX,xW,xV,qG,qF,qE,qD,qC,qB,qA,qz,qy,qx,n1,z1,lE,aE,tE,mE,jx,aO,bk,bf,iD,fu,cX,dP,pl,NA,Ry]
  ·have z1:(1:Int)<Es.length:=by omega
   have z2:1<Es.length:=by omega
   obtain⟨m,hm⟩:∃m:Nat,Es.length=m+2:=⟨Es.length-2,by omega⟩;have w:IntKind.i64.wrap ((Es.length:Int)-1)=((m+1:Nat):Int):=by rw[fE (by omega) (by omega)]; omega
   have il:0<Es.length:=by omega
   have jl:m+1<Es.length:=by omega
   obtain⟨u,v,Sj⟩:∃u v:Int,Es[0]=(u,v):=⟨_,_,rfl⟩;obtain⟨x,y,hxy⟩:∃x y:Int,Es[m+1]=(x,y):=⟨_,_,rfl⟩;have bE:=hL _ (cI il);have bE2:=hL _ (cI jl);rw[Sj] at bE;rw[hxy] at bE2;have g0:∀h,(bU Es)[0]'h=.agg [.int .i64 u,.int .i64 v]:=fun h=>by rw[bw,Sj]; rfl
   have g1:∀h,(bU Es)[m+1]'h=.agg [.int .i64 x,.int .i64 y]:=fun h=>by rw[bw,hxy]; rfl
   have s0:=IX Es 0 x y;have s1:=IX (Es.set 0 (x,y)) (m+1) u v;have g3:∀h,(bU (Es.set 0 (x,y)))[m+1]'h=.agg [.int .i64 x,.int .i64 y]:=fun h=>by rw[bw,List.getElem_set_ne (by omega),hxy]; rfl
   have l0:(bU (Es.set 0 (x,y))).length=Es.length:=by rw[az,bI]
   have l1:(bU ((Es.set 0 (x,y)).set (m+1) (u,v))).length=Es.length:=by rw[az,bI,bI]
   have tS:(bU ((Es.set 0 (x,y)).set (m+1) (u,v))).take Es.length=bU ((Es.set 0 (x,y)).set (m+1) (u,v)):=aZ (by omega);have j1:((m:Int)+1)<Es.length:=by omega
   have j2:¬((m:Int)+1)<0:=by omega
   have j3:(0:Int)<=(m:Int)+1:=by omega
   refine⟨N,(Es.set 0 (x,y)).set (m+1) (u,v),a1,?_,by rw[bI,bI]; omega,fun e he=>?_⟩
   ·rw[pM sQg (ah rfl)];unfold gA dk at *;generalize bU ((Es.set 0 (x,y)).set (m+1) (u,v))=Y2 at *;generalize bU (Es.set 0 (x,y))=Y1 at *;clear Sj hL lo bE bE2 hxy;generalize bU Es=Y at *;unfold Zq cQg;simp[ye,yd,yc,yb,ya,xZ,xY,xX,xW,xV,qG,qF,qE,qD,qC,qB,qA,qz,qy,qx,n1,z1,w,il,jl,g0,g1,g3,s0,s1,l0,l1,tS,j1,j3,lE,aE,tE,mE,jx,idx,aO,bk,bf,iD,fu,cX,dP,pl,NA,Ry]
   ·rcases jw he with q|q
    ·rcases jw q with q|q
     ·exact lo e q
     ·subst q; simp only; omega
    ·subst q; simp only; omega
 by_cases c3:c=3
 ·subst c3;by_cases z:Es.length=0
  ·skip
   obtain rfl:Es=[]:=dC z;rw[rZ] at *;refine⟨N,[],a1,?_,by simp,by simp⟩;rw[pM sQg (ah rfl)];unfold gA dk at *;unfold Zq cQg;simp[ye,yd,yc,yb,ya,xZ,xY,xX,xW,xV,qG,qF,qE,qD,qC,qB,qA,qz,qy,qx,n1,rZ,jx,aO,bk,bf,iD,fu,cX,dP,pl,NA,Ry]
  ·have z1:(0:Int)<Es.length:=by omega
   have z2:0<Es.length:=by omega
   obtain⟨m,hm⟩:∃m:Nat,Es.length=m+1:=⟨Es.length-1,by omega⟩;have w:IntKind.i64.wrap ((Es.length:Int)-1)=(m:Int):=by rw[fE (by omega) (by omega)]; omega
   have jl:m<Es.length:=by omega
   have jl2:(m:Int)<Es.length:=by omega
   obtain⟨x,y,hxy⟩:∃x y:Int,Es[m]=(x,y):=⟨_,_,rfl⟩;have bE:=hL _ (cI jl);rw[hxy] at bE;have g1:∀h,(bU Es)[m]'h=.agg [.int .i64 x,.int .i64 y]:=fun h=>by rw[bw,hxy]; rfl
   have sn:=Ps Es x y;have l1:(bU (Es++[(x,y)])).length=Es.length+1:=by rw[az]; simp
   have tS:(bU (Es++[(x,y)])).take (Es.length+1)=bU (Es++[(x,y)]):=aZ (by omega);have mE2:Es.length+1<=4294967296:=by omega
   refine⟨N,Es++[(x,y)],a1,?_,by simp,fun e he=>?_⟩
   ·rw[pM sQg (ah rfl)];unfold gA dk at *;generalize bU (Es++[(x,y)])=Y2 at *;clear hL lo bE hxy;generalize bU Es=Y at *;unfold Zq cQg;simp[ye,yd,yc,yb,ya,xZ,xY,xX,xW,xV,qG,qF,qE,qD,qC,qB,qA,qz,qy,qx,n1,z2,w,jl,jl2,g1,sn,l1,tS,mE2,lE,aE,tE,mE,jx,idx,aO,bk,bf,iD,fu,cX,dP,pl,NA,Ry]
   ·rcases List.mem_append.1 he with q|q
    ·exact lo e q
    ·rw[List.mem_singleton] at q; subst q; simp only; omega
 by_cases c4:c=4
 ·subst c4;by_cases z:Es.length=0
  ·skip
   obtain rfl:Es=[]:=dC z;rw[rZ] at *;refine⟨N,[],a1,?_,by simp,by simp⟩;rw[pM sQg (ah rfl)];unfold gA dk at *;unfold Zq cQg;simp[ye,yd,yc,yb,ya,xZ,xY,xX,xW,xV,qG,qF,qE,qD,qC,qB,qA,qz,qy,qx,n1,rZ,jx,aO,bk,bf,iD,fu,cX,dP,pl,NA,Ry]
  ·have z1:(0:Int)<Es.length:=by omega
   have z2:0<Es.length:=by omega
   have n2:=jI l hl a1 (Es.length:Int) (by omega) [] ⟨fun _=>rfl,rfl,fun _ _=>rfl,fun _=>rfl,fun _ _=>rfl⟩;obtain⟨d0,d1⟩:=w8 l a1 (n:=(Es.length:Int)) (by omega);generalize Bt l a1 (Es.length:Int)=a2 at *;obtain⟨i,hi⟩:∃i:Nat,DR l a1 (Es.length:Int)=(i:Int):=⟨(DR l a1 (Es.length:Int)).toNat,by omega⟩;rw[hi] at n2 d1;clear hi d0;have n3:=jI l hl a2 5 (by omega) [] ⟨fun _=>rfl,rfl,fun _ _=>rfl,fun _=>rfl,fun _ _=>rfl⟩;obtain⟨f0,f1⟩:=w8 l a2 (n:=5) (by omega);generalize Bt l a2 5=a3 at *;generalize DR l a2 5=d at *;have il:i<Es.length:=by omega
   obtain⟨u,v,Sj⟩:∃u v:Int,Es[i]=(u,v):=⟨_,_,rfl⟩;have bE:=hL _ (cI il);rw[Sj] at bE;have gE:∀h,(bU Es)[i]'h=.agg [.int .i64 u,.int .i64 v]:=fun h=>by rw[bw,Sj]; rfl
   have w1:IntKind.i64.wrap (d-2)=d-2:=fE (by omega) (by omega);have w2:IntKind.i64.wrap (v+(d-2))=v+(d-2):=fE (by omega) (by omega);have sE:=IX Es i u (v+(d-2));have l1:(bU (Es.set i (u,v+(d-2)))).length=Es.length:=by rw[az,bI]
   have tS:(bU (Es.set i (u,v+(d-2)))).take Es.length=bU (Es.set i (u,v+(d-2))):=aZ (by omega);refine⟨N,Es.set i (u,v+(d-2)),a3,?_,by rw[bI]; omega,fun e he=>?_⟩
   ·rw[pM sQg (ah rfl)];unfold gA dk at *;generalize bU (Es.set i (u,v+(d-2)))=Y2 at *;clear Sj hL lo bE;generalize bU Es=Y at *;unfold Zq cQg;simp[ye,yd,yc,yb,ya,xZ,xY,xX,xW,xV,qG,qF,qE,qD,qC,qB,qA,qz,qy,qx,n1,n2,n3,z2,d1,il,gE,w1,w2,sE,l1,tS,lE,aE,tE,mE,jx,idx,aO,bk,bf,iD,fu,cX,dP,pl,NA,Ry]
   ·rcases jw he with q|q
    ·exact lo e q
    ·subst q; simp only; omega
 refine⟨N,Es,a1,?_,by omega,lo⟩;rw[pM sQg (ah rfl)];unfold gA dk at *;generalize bU Es=Y at *;unfold Zq cQg;simp[ye,yd,yc,yb,ya,xZ,xY,xX,xW,xV,qG,qF,qE,qD,qC,qB,qA,qz,qy,qx,n1,c0,c1,c2,c3,c4,lE,aE,tE,mE,jx,aO,bk,bf,iD,fu,cX,dP,pl,NA,Ry]
/- What all six functions of maxclique say of any graph: the same as the reference. -/
structure VV (n:Int) (Fs:List Ed):Prop where
 be:∃(O:List Int) (e:Int),O.length<=64/\bp aq WU [gA n Fs] []=some (.dJ [.list 1 (ints O),.int .i64 e],[])/\bp aq nQi [gA n Fs] []=some (.dJ [.list 1 (ints O),.int .i64 e],[])
 bo:∃(m e:Int),bp aq TU [gA n Fs] []=some (.dJ [.int .i64 m,.int .i64 e],[])/\bp aq nQk [gA n Fs] []=some (.dJ [.int .i64 m,.int .i64 e],[])
 cs:∃(O:List Int) (e:Int),O.length<=64/\bp aq Sd [gA n Fs] []=some (.dJ [.list 1 (ints O),.int .i64 e],[])/\bp aq nQm [gA n Fs] []=some (.dJ [.list 1 (ints O),.int .i64 e],[])
 co:∀s:List Int,s.length<=100->∃(O:List Int) (e:Int),O.length<=64/\bp aq Z2 [gA n Fs,.list 1 (ints s)] []=some (.dJ [.list 1 (ints O),.int .i64 e],[])/\bp aq Z0 [gA n Fs,.list 1 (ints s)] []=some (.dJ [.list 1 (ints O),.int .i64 e],[])
 pr:∀s:List Int,s.length<=100->∃b:Bool,bp aq TQ [gA n Fs,.list 1 (ints s)] []=some (.bool b,[])/\bp aq nQt [gA n Fs,.list 1 (ints s)] []=some (.bool b,[])
 ab:∀(s:List Int) (k:Int),s.length<=100->∃(b:Bool) (e:Int),bp aq nQv [gA n Fs,.list 1 (ints s),.int .i64 k] []=some (.dJ [.bool b,.int .i64 e],[])/\bp aq nQw [gA n Fs,.list 1 (ints s),.int .i64 k] []=some (.dJ [.bool b,.int .i64 e],[])
theorem aeR {N:Nat} {Es:List Ed} (h:jh (N:Int) Es) (S:List Int):isR N Es S=isB N Es S:=by
 unfold isR isB;congr 1;rw[m8,decide_eq_true_eq,decide_eq_true_eq];exact⟨fun k=>k.imp fun q=>(FY h _ _).1 q,fun k=>k.imp fun q=>(FY h _ _).2 q⟩
theorem aln {N:Nat} {Es:List Ed} (hG:jh (N:Int) Es) (hE:Es.length<1000000) (hm:(py N Es N 0 []).length<=1000000):VV (N:Int) Es:=by
 have hN:N<=64:=by have:=hG.1.2; omega
 have hX:∀X∈py N Es N 0 [],X.length<=64:=fun X h=>by
  have:=((xg hG X).1 h).1;exact Wd this.up (Ll hG this)
 constructor
 ·obtain⟨O,⟨lgO,fsO⟩,bO⟩:=ab7 hG hN hE;have rb:=abn hG hE hm;have hc:=adE lgO.1
  have key:=aeD fsO lgO (l:=py N Es N 0 []) (fun X hX=>(xg hG X).1 hX) (by rw[aaE hG]; exact Dt) (fun hO=>by
   refine (xg hG _).2 (ag5 hG lgO ?_);obtain⟨x,hx⟩:=List.exists_mem_of_ne_nil _ hO;have:=lgO.1.2 x hx;omega) (fun h0=>by
   refine List.eq_nil_iff_forall_not_mem.2 fun X hX=>?_;have hM:=(xg hG X).1 hX;obtain⟨q1,_⟩:=Lk hM.1;have l1:=lgO.2 _ q1;rw[List.length_map,h0] at l1;exact hM.2.1 (dC (by simpa using l1)))
  rw[key] at rb;exact⟨nz O,0,Wd hc.up (Ll hG hc),bO,rb⟩
 ·by_cases h0:N=0
  ·subst h0
   have:Es=[]:=by
    cases Es with
    |nil=>rfl
    |cons e r=>have:=hG.2.2 e List.mem_cons_self; omega
   subst this;exact⟨0,0,T5,abm⟩
  ·obtain⟨o,ds,L,K,hp,hL,hK,_,kN,mb⟩:=T4 hG hE (by omega);exact⟨_,0,mb,acN hG hE (by omega) hp hL hK kN⟩
 ·obtain⟨o,ds,hp,cr⟩:=HZ hG hE;obtain⟨ol,_,nd,om⟩:=vE hN hp;obtain⟨q1,q2,q3,q4⟩:=u7 hN ol nd om;have lg:(rN (dj N Es) N (ns o).reverse).length=N:=(xj (pn hG) _ _ q3 (qb _ _)).1.len;exact⟨_,0,by omega,cr,FO hG hE hp⟩
 ·intro s hs;by_cases hb:s.length=N/\cV s=dN N
  ·have hO:∀v∈s,0<=v/\v<(N:Int):=fun v hv=>by
    have:=((eY s).2 v).2 hv;rw[hb.2] at this;exact (Ju hN v).1 this
   have lg:(rN (dj N Es) N s).length=N:=(xj (pn hG) _ _ hO (qb _ _)).1.len;exact⟨_,0,by omega,LN hG hE s hb.1 hb.2 hO,SU hG hE s hb.1 hb.2 hO⟩
  ·exact⟨[],4,by simp,aev hG hE s (by omega) hb,acL hG hE s (by omega) hb⟩
 ·intro s hs;exact⟨_,aes hG hE s (by omega),acu hG hE s (by omega)⟩
 ·intro s k hs;have ra:=Ww hG hE hm hX s (by omega) k;rw[aeR hG] at ra;cases hb:isB N Es s with
  |false=>
    rw[hb] at ra;exact⟨false,4,afN hG hE s (by omega) k hb,ra⟩
  |true=>
    rw[hb] at ra;have hc:=aaz.1 hb;have sl:=Wd hc.up (Ll hG hc);obtain⟨r,g1,ay⟩:=aca hG hN hE s sl hb;refine⟨_,0,ay k,?_⟩
    have e:(true&&(decide (k<=(s.length:Int))||(py N Es N 0 []).any (abQ s k)))=decide (k<=(s.length:Int)+r):=by
     rw[dI,m8,decide_eq_true_eq,acb hG hc g1 k,Bool.or_eq_true,decide_eq_true_eq,List.any_eq_true,Or.comm];refine or_congr ⟨?_,?_⟩ Iff.rfl
     ·rintro⟨X,h1,h2⟩;unfold abQ at h2;rw[ae,decide_eq_true_eq,gL] at h2;exact⟨X,(xg hG X).1 h1,fun x hx=>by simpa using h2.2 x hx,h2.1⟩
     ·rintro⟨X,h1,h2,h3⟩;refine⟨X,(xg hG X).2 h1,?_⟩;unfold abQ;rw[ae,decide_eq_true_eq,gL];exact⟨h3,fun x hx=>by simpa using h2 x hx⟩
    rw[e] at ra;exact ra
theorem aaa (n:Int) (Fs:List Ed) (hE:Fs.length<1000000) (h0:tt n Fs≠0):VV n Fs where
 be:=⟨[],_,by simp,alm n Fs hE _ rfl h0,ajO n Fs hE _ rfl h0⟩
 bo:=⟨0,_,ana n Fs hE _ rfl h0,amq n Fs hE _ rfl h0⟩
 cs:=⟨[],_,by simp,aeu n Fs hE _ rfl h0,acK n Fs hE _ rfl h0⟩
 co:=fun s _=>⟨[],_,by simp,am9 n Fs hE _ rfl h0 s,amp n Fs hE _ rfl h0 s⟩
 pr:=fun s _=>⟨false,am8 n Fs hE _ rfl h0 s,amn n Fs hE _ rfl h0 s⟩
 ab:=fun s k _=>⟨false,_,alo n Fs hE _ rfl h0 s k,ajP n Fs hE _ rfl h0 s k⟩
theorem Q8 (n:Int) (Fs:List Ed) (m:Nat) (hm:m<=19) (hE:Fs.length<1000000) (hl:∀e∈Fs,e.1<(m:Int)/\e.2<(m:Int)):VV n Fs:=by
 by_cases h0:tt n Fs=0
 ·have h:=eB.1 h0;obtain⟨N,rfl⟩:∃N:Nat,n=(N:Int):=⟨n.toNat,by have:=h.1; omega⟩;have:=ag0 h m hl;have hn:=h.1.2;have p:2 ^ m<=2 ^ 19:=Nat.pow_le_pow_right (by decide) hm;exact aln h hE (by rw[aaE h]; have:(2:Nat) ^ 19=524288:=rfl; omega)
 ·exact aaa n Fs hE h0
theorem ag1 (n:Int) (F:List Ed) (hn:n<=9) (hE:F.length<=81):VV n F:=by
 by_cases h0:tt n F=0
 ·have h:=eB.1 h0;exact Q8 n F 9 (by omega) (by omega) fun e he=>by have:=h.2.2 e he; omega
 ·exact aaa n F (by omega) h0
/- The law's rounds: one size, one list, one graph. -/
theorem Jr:Rest []:=⟨fun _=>rfl,rfl,fun _ _=>rfl,fun _=>rfl,fun _ _=>rfl⟩
theorem GG (L:List Int) (h:L.length<=64):bp aq TR [.list 1 (ints L),.list 1 (ints L)] []=some (.int .i64 0,[]):=by
 have:=RR L L (by omega) (by omega)
 rwa [sA.2 rfl] at this
def SC (n0:Int) (F0:List Ed) (l:List Int) (a:Nat) (n:Int) (F:List Ed):Heap:=[some [.int .i64 n0,.list 2 (bU F0)],dk l a,some [.int .i64 n,.list 2 (bU F)]]
def maE (st:List Int) (k:Int) (s:List Int) (GS:List AV) (i:Int) (SS:List AV) (j:Int) (NS:List AV) (q:Int) (J:Env):Env:=(1,.list 1 (ints st))::(3,.int .i64 k)::(9,.ptr 1 0)::(12,.ptr 2 0)::(26,.list 1 (ints s))::(60,.own 2 GS)::(61,.int .i64 3)::(62,.int .i64 i)::(139,.own 1 SS)::(140,.int .i64 3)::(141,.int .i64 j)::(187,.own 1 NS)::(188,.int .i64 2)::(189,.int .i64 q)::J
theorem ai9 (n0:Int) (F0:List Ed) (l:List Int) (a:Nat) (n:Int) (F:List Ed) (hC:VV n F) (st:List Int) (k:Int) (s:List Int) (hs:s.length<=100) (GS:List AV) (i:Int) (SS:List AV) (j:Int) (ks:List Int) (hl:ks.length=2) (q:Nat) (hq:q<2) :
  aW aq 0 Uo ⟨maE st k s GS i SS j (ints ks) q [],SC n0 F0 l a n F⟩=some (.normal,⟨maE st k s GS i SS j (ints ks) ((q+1:Nat):Int) [],SC n0 F0 l a n F⟩):=by
 have hq2:q<ks.length:=by omega
 have g1:∀h,(ints ks)[q]'h=.int .i64 ks[q]:=fun h=>aM _ _ _
 have lk:=af ks;have h1:(q:Int)<2:=by omega
 have hw:=dM (i:=q) (by omega);obtain⟨b,e,a1,a2⟩:=hC.ab s ks[q] hs;have ps:=cY s;have cs:=ak s;unfold gA at *;clear hC;unfold maE SC dk;generalize ks[q]=x at *;generalize ints ks=K1 at *;generalize ints s=S1 at *;generalize ints st=T1 at *;generalize bU F=Y at *;generalize bU F0=Y0 at *;generalize ints l=D1 at *;unfold Uo;simp[qQ,qP,qO,qN,qM,qL,qK,h1,hq,hw,hl,lk,g1,a1,a2,idx,aO,gK,clean,sQv,iQv,sQw,iQw]
theorem alr (n0:Int) (F0:List Ed) (l:List Int) (a:Nat) (n:Int) (F:List Ed) (hC:VV n F) (st:List Int) (k:Int) (s:List Int) (hs:s.length<=100) (GS:List AV) (i:Int) (SS:List AV) (j:Int) (ks:List Int) (hl:ks.length=2) :
  aW aq 0 (.loop Uo) ⟨maE st k s GS i SS j (ints ks) 0 [],SC n0 F0 l a n F⟩=some (.exit 4,⟨maE st k s GS i SS j (ints ks) 2 [(190,.bool false)],SC n0 F0 l a n F⟩):=by
 have e0:=ai9 n0 F0 l a n F hC st k s hs GS i SS j ks hl 0 (by omega);have e1:=ai9 n0 F0 l a n F hC st k s hs GS i SS j ks hl 1 (by omega);refine (aS e0).trans ((aS e1).trans (bq ?_));unfold maE SC dk;generalize ints ks=K1 at *;generalize ints s=S1 at *;generalize ints st=T1 at *;generalize bU F=Y at *;generalize bU F0=Y0 at *;generalize ints l=D1 at *;unfold Uo;simp[qQ,qP,qO,qN,qM,qL,qK]
def maL (st:List Int) (k:Int) (GS:List AV) (i:Int) (SS:List AV) (j:Int) (J:Env):Env:=(1,.list 1 (ints st))::(3,.int .i64 k)::(9,.ptr 1 0)::(12,.ptr 2 0)::(60,.own 2 GS)::(61,.int .i64 3)::(62,.int .i64 i)::(139,.own 1 SS)::(140,.int .i64 3)::(141,.int .i64 j)::J
theorem alp (n0:Int) (F0:List Ed) (l:List Int) (hl:l.length<=500) (a:Nat) (n:Int) (F:List Ed) (hC:VV n F) (st:List Int) (k:Int) (GS:List AV) (i:Int) (ss:List (List Int)) (h3:ss.length=3) (hs:∀S∈ss,S.length<=100) (j:Nat) (hj:j<3) :
  ∃ a',aW aq 0 Un ⟨maL st k GS i (iC ss) j [],SC n0 F0 l a n F⟩=some (.normal,⟨maL st k GS i (iC ss) ((j+1:Nat):Int) [],SC n0 F0 l a' n F⟩):=by
 have Sl:j<ss.length:=by omega
 have hS:=hs _ (cI Sl);obtain⟨g2,g1⟩:=Rb ss j Sl;have lg:=eL ss;have h1:(j:Int)<3:=by omega
 have hw:=dM (i:=j) (by omega);generalize ss[j]=s at *;obtain⟨O,e,lO,c1,c2⟩:=hC.co s hS;obtain⟨b1,p1,p2⟩:=hC.pr s hS;obtain⟨b2,p3,p4⟩:=hC.pr O (by omega);have k1:=GG O lO;have nx:=jI l hl a 7 (by omega) [] Jr;generalize Bt l a 7=a1 at *;generalize DR l a 7=d at *;have lp:=alr n0 F0 l a1 n F hC st k s hS GS i (iC ss) j [k,d] rfl;refine⟨a1,?_⟩;rw[show ints [k,d]=[.int .i64 k,.int .i64 d] from rfl] at lp;have pO:=cY O;have pS:=cY s;have cO:=ak O;unfold gA at *;clear hC hs;unfold maE SC at lp;unfold maL SC;unfold dk at *;generalize ints O=O1 at *;generalize ints s=S1 at *;generalize iC ss=SS at *;generalize ints st=T1 at *;generalize bU F=Y at *;generalize bU F0=Y0 at *;generalize ints l=D1 at *;unfold Un;simp[qX,qW,qV,qU,qT,qS,qR,qJ,h1,hj,hw,h3,lg,g1,c1,c2,p1,p2,p3,p4,k1,nx,lp,idx,aO,dP,pl,sQq,iQq,sQr,iQr,sQs,iQs,sQt,iQt,sQn,iQn,NA,Ry]
theorem aab (n0:Int) (F0:List Ed) (l:List Int) (hl:l.length<=500) (n:Int) (F:List Ed) (hC:VV n F) (st:List Int) (k:Int) (GS:List AV) (i:Int) (ss:List (List Int)) (h3:ss.length=3) (hs:∀S∈ss,S.length<=100):∀(m j a:Nat),j+m=3 ->
  ∃ a',aW aq 0 (.loop Un) ⟨maL st k GS i (iC ss) j [],SC n0 F0 l a n F⟩=some (.exit 2,⟨maL st k GS i (iC ss) 3 [(142,.bool false)],SC n0 F0 l a' n F⟩)
 |0,j,a,hj=>by
   obtain rfl:j=3:=by omega
   refine⟨a,bq ?_⟩;unfold maL SC dk;generalize iC ss=SS at *;generalize ints st=T1 at *;generalize bU F=Y at *;generalize bU F0=Y0 at *;generalize ints l=D1 at *;unfold Un;simp[qX,qW,qV,qU,qT,qS,qR,qJ]
 |m+1,j,a,hj=>by
   obtain⟨a1,e⟩:=alp n0 F0 l hl a n F hC st k GS i ss h3 hs j (by omega);obtain⟨a',e2⟩:=aab n0 F0 l hl n F hC st k GS i ss h3 hs m (j+1) a1 (by omega);exact⟨a',(aS e).trans e2⟩
def maO (st:List Int) (k:Int) (GS:List AV) (i:Int) (J:Env):Env:=(1,.list 1 (ints st))::(3,.int .i64 k)::(9,.ptr 1 0)::(60,.own 2 GS)::(61,.int .i64 3)::(62,.int .i64 i)::J
def maB (n0:Int) (F0:List Ed) (l:List Int) (a:Nat):Heap:=[some [.int .i64 n0,.list 2 (bU F0)],dk l a]
theorem alq (n:Int):∃M:Nat,M<=70/\uJ true [.int .i64 0,(uJ false [.int .i64 n,.int .i64 70]).getD .any]=some (.int .i64 M)/\uJ false [.int .i64 n,.int .i64 70]=some (.int .i64 (if (70:Int)<n then 70 else n))/\(if (0:Int)<(if (70:Int)<n then 70 else n) then (if (70:Int)<n then 70 else n) else 0)=(M:Int):=by
 refine⟨(if (0:Int)<(if (70:Int)<n then 70 else n) then (if (70:Int)<n then 70 else n) else 0).toNat,?_,?_,?_,?_⟩
 ·split<;>(try split)<;>omega
 ·simp only[uJ,zX,Option.getD_some];congr 2;simp only[Bool.false_eq_true,if_false,if_true,gt_iff_lt];split<;>(try split)<;>omega
 ·simp only[uJ,zX];rfl
 ·split<;>(try split)<;>omega
theorem aeA (n0:Int) (F0:List Ed) (l:List Int) (hl:l.length<=500) (a:Nat) (n:Int) (F:List Ed) (hC:F.length<=40->VV n F) (st:List Int) (Ih:st.length<=70) (k:Int) (GS:List AV) (i:Nat) (hi:i<3) (lG:GS.length=3) (g:GS[i]?=some (gA n F)) :
  ∃ a',aW aq 0 O3 ⟨maO st k GS i [],maB n0 F0 l a⟩=some (.normal,⟨maO st k GS ((i+1:Nat):Int) [],maB n0 F0 l a'⟩):=by
 have i3:(i:Int)<3:=by omega
 have hw:=dM (i:=i) (by omega);have g':∀h:i<GS.length,GS[i]=gA n F:=fun h=>by rw[List.getElem?_eq_getElem h] at g; exact dv g
 have lF:=az F;have iG:i<GS.length:=by omega
 by_cases k2:F.length<=40
 case neg=>
  refine⟨a,?_⟩;have k3:(40:Int)<F.length:=by omega
  have k4:40<F.length:=by omega
  unfold gA at *;unfold maO maB dk;generalize ints st=T1 at *;generalize bU F=Y at *;generalize bU F0=Y0 at *;generalize ints l=D1 at *;clear hC;unfold O3;simp[yj,yh,yg,yf,re,q9,q8,q7,q6,q5,qZ,qY,qI,i3,hi,hw,lG,g',lF,k3,idx,aO]
 have hC:=hC k2;have k3:¬(40:Int)<F.length:=by omega
 have k4:¬40<F.length:=by omega
 obtain⟨O,e,lO,c1,c2⟩:=hC.be;obtain⟨m,f,b1,b2⟩:=hC.bo;obtain⟨P,e3,lP,d1,d2⟩:=hC.cs;have q1:=GG O lO;have q2:=GG P lP;obtain⟨M,M70,x0,x1,x2⟩:=alq n;obtain⟨o1,a1,n1,hp⟩:=WY l hl M (by omega) [] Jr a;obtain⟨o2,a2,n2,lo2,_,_⟩:=af7 l hl 5 (by omega) [] Jr a1;have lo1:o1.length=M:=by rw[hp.length_eq]; simp[Ir]
 obtain⟨a3,lp⟩:=aab n0 F0 l hl n F hC st k GS i [st,o1,o2] rfl (by
  intro S hS;simp only[List.mem_cons,List.not_mem_nil,or_false] at hS;rcases hS with rfl|rfl|rfl<;>omega) 3 0 a2 rfl
 refine⟨a3,?_⟩;rw[show iC [st,o1,o2]=[.list 1 (ints st),.list 1 (ints o1),.list 1 (ints o2)] from rfl,fi] at lp;rw[show ((5:Nat):Int)=5 from rfl] at n2;have pO:=cY O;have pP:=cY P;have po1:=cY o1;have po2:=cY o2;unfold gA at *;unfold maL SC at lp;unfold maO maB;unfold dk at *;clear hC hp;generalize ints O=O1 at *;generalize ints P=P1 at *;generalize ints o1=Q1 at *;generalize ints o2=Q2 at *;generalize ints st=T1 at *;generalize bU F=Y at *;generalize bU F0=Y0 at *;generalize ints l=D1 at *;unfold O3;simp[yj,yh,yg,yf,re,q9,q8,q7,q6,q5,qZ,qY,qI,i3,hi,hw,lG,g',lF,k3,c1,c2,b1,b2,d1,d2,q1,q2,x2,n1,n2,lp,idx,aO,dP,pl,sQh,iQh,sQi,iQi,sQj,iQj,sQk,iQk,sQl,iQl,sQm,iQm,sQn,iQn,sQo,iQo,sQp,iQp]
/- The law: all functions answer as the reference does. -/
theorem awMq:bp aq nQd [] []=some (.bool true,[]):=by
 have k1:bp aq WU [G9] []=some (.dJ [.list 1 (ints [0,1]),.int .i64 0],[]):=fF.2 ⟨3000,alF⟩;have k2:bp aq Sd [G9] []=some (.dJ [.list 1 (ints [2,1,0,1,0]),.int .i64 0],[]):=fF.2 ⟨3000,alE⟩;have k3:bp aq TQ [G9,.list 1 (ints [2,1,0,1,0])] []=some (.bool true,[]):=fF.2 ⟨3000,alD⟩;have k4:bp aq TU [G9] []=some (.dJ [.int .i64 3,.int .i64 0],[]):=fF.2 ⟨3000,ahc⟩;have k5:bp aq nQx [.int .i64 5,.list 2 [.agg [.int .i64 0,.int .i64 1],.agg [.int .i64 1,.int .i64 2],.agg [.int .i64 2,.int .i64 3],.agg [.int .i64 3,.int .i64 4],.agg [.int .i64 4,.int .i64 0]]] []=some (.dJ [G9,.int .i64 0],[]):=fF.2 ⟨3000,k_of⟩;have k6:bp aq TR [.list 1 (ints [0,1]),.list 1 [.int .i64 0,.int .i64 1]] []=some (.int .i64 0,[]):=fF.2 ⟨3000,ank⟩;unfold G9 at *;have p1:=cY [0,1];have p2:=cY [2,1,0,1,0];generalize ints [0,1]=I1 at *;generalize ints [2,1,0,1,0]=I2 at *;generalize bU cyc9=Y at *;rw[pM sQd (ah rfl)];unfold qQd cQd;simp[aiz,aiy,aix,aiw,aiv,aiu,k1,k2,k3,k4,k5,k6,aO,bk,bf,dP,pl,sQx,iQx,sQh,iQh,sQj,iQj,sQl,iQl,sQs,iQs,sQn,iQn]
theorem L7:∀l:List Ed,jS (bU l) (bU l)=true
 |[]=>rfl
 |e::r=>by
   have:=L7 r;rw[aff];simp only[jS,o9,this,Bool.and_self,decide_true]
theorem aej (l:List Int) (n:Int) (F:List Ed):bp aq nQe [.list 1 (ints l)] [some [.int .i64 n,.list 2 (bU F)]]=some (.ptr 1 0,[some [.int .i64 n,.list 2 (bU F)],dk l 0]):=by
 rw[pM sQe (ah rfl)];generalize bU F=Y;unfold qQe cQe dk;simp[ait,ais,iD,fu,fI,dq,cZ,bk,bf]
theorem anB (x y z:AV):∀i:Nat,i<3->([x,y,z]:List AV)[i]?=some (if i=0 then x else if i=1 then y else z)
 |0,_=>rfl
 |1,_=>rfl
 |2,_=>rfl
 |i+3,h=>by omega
theorem aac (n0:Int) (F0:List Ed) (l:List Int) (hl:l.length<=500) (N1 n2 n3:Int) (F1 F2 F3:List Ed) (h1:VV N1 F1) (h2:F2.length<=40->VV n2 F2) (h3:F3.length<=40->VV n3 F3) (st:List Int) (Ih:st.length<=70) (m:Int):∀k i a:Nat,i+k=3 ->
  ∃ a',aW aq 0 (.loop O3) ⟨maO st m [gA N1 F1,gA n2 F2,gA n3 F3] i [],maB n0 F0 l a⟩=some (.exit 0,⟨maO st m [gA N1 F1,gA n2 F2,gA n3 F3] 3 [(63,.bool false)],maB n0 F0 l a'⟩)
 |0,i,a,hi=>by
   obtain rfl:i=3:=by omega
   refine⟨a,bq ?_⟩;unfold maO maB gA dk;generalize ints st=T1 at *;generalize bU F0=Y0 at *;generalize bU F1=Y1 at *;generalize bU F2=Y2 at *;generalize bU F3=Y3 at *;generalize ints l=D1 at *;unfold O3;simp[yj,yh,yg,yf,re,q9,q8,q7,q6,q5,qZ,qY,qI]
 |k+1,i,a,hi=>by
   have key:∃(n:Int) (F:List Ed),(F.length<=40->VV n F)/\([gA N1 F1,gA n2 F2,gA n3 F3]:List AV)[i]?=some (gA n F):=by
    rw[anB _ _ _ i (by omega)];by_cases e0:i=0
    ·exact⟨N1,F1,fun _=>h1,by rw[if_pos e0]⟩
    ·rw[if_neg e0];by_cases e1:i=1
     ·exact⟨n2,F2,h2,by rw[if_pos e1]⟩
     ·exact⟨n3,F3,h3,by rw[if_neg e1]⟩
   obtain⟨n,F,hC,hg⟩:=key;obtain⟨a1,e⟩:=aeA n0 F0 l hl a n F hC st Ih m [gA N1 F1,gA n2 F2,gA n3 F3] i (by omega) rfl hg;obtain⟨a',e2⟩:=aac n0 F0 l hl N1 n2 n3 F1 F2 F3 h1 h2 h3 st Ih m k (i+1) a1 (by omega);exact⟨a',(aS e).trans e2⟩
theorem aex (l st:List Int) (n0:Int) (F0:List Ed) (m:Int):bp aq nQa [.list 1 (ints l),.list 1 (ints st),.agg [.int .i64 n0,.list 2 (bU F0)],.int .i64 m] []=some (.bool true,[]):=by
 rw[pM sQa (ah rfl)];have aw:=awMq;have few:=ahr l;have lt:=abF n0 F0 9 (by omega);have lS:=af st;by_cases hl:(l.length:Int)<=500
 case neg=>
  unfold gA at *;generalize ints st=T1 at *;generalize bU F0=Y0 at *;generalize ints l=D1 at *;unfold qQa cQa;simp[yq,yp,yn,ym,yl,yk,qH,few,hl,aw,bk,bf,sQb,iQb,sQd,iQd]
 by_cases hs:st.length<=70
 case neg=>
  have h1:(70:Int)<st.length:=by omega
  have h2:70<st.length:=by omega
  unfold gA at *;generalize ints st=T1 at *;generalize bU F0=Y0 at *;generalize ints l=D1 at *;unfold qQa cQa;simp[yq,yp,yn,ym,yl,yk,qH,few,hl,aw,lS,h1,bk,bf,sQb,iQb,sQd,iQd]
 have h1:¬(70:Int)<st.length:=by omega
 have h2:¬70<st.length:=by omega
 by_cases hg:n0<=9/\F0.length<=81
 case neg=>
  have e:(decide (n0<=9)&&decide ((F0.length:Int)<=9*9))=false:=by
   rw[Bool.and_eq_false_iff,decide_eq_false_iff_not,decide_eq_false_iff_not];by_cases q:n0<=9
   ·exact .inr (by have:¬F0.length<=81:=fun k=>hg ⟨q,k⟩; omega)
   ·exact .inl q
  rw[e] at lt;unfold gA at *;generalize ints st=T1 at *;generalize bU F0=Y0 at *;generalize ints l=D1 at *;unfold qQa cQa;simp[yq,yp,yn,ym,yl,yk,qH,few,hl,aw,lt,lS,h1,aO,bk,bf,sQb,iQb,sQd,iQd,sQc,iQc]
 obtain⟨g1,g2⟩:=hg;rw[decide_eq_true g1,dI,decide_eq_true (show (F0.length:Int)<=9*9 by omega)] at lt;have hl5:l.length<=500:=by omega
 have n1:=aej l n0 F0;obtain⟨N,Es,a1,m1,hG,hN,hEl⟩:=abK l hl5 8 (by omega) 0;obtain⟨n3,F3,a2,m2,hF3,hb3⟩:=af5 l hl5 a1 N (by omega) Es (by omega) fun e he=>by have:=hG.2.2 e he; omega
 have c1:VV N Es:=Q8 N Es 8 (by omega) (by omega) fun e he=>by have:=hG.2.2 e he; omega
 have c2:F0.length<=40->VV n0 F0:=fun _=>ag1 n0 F0 g1 g2;have c3:F3.length<=40->VV n3 F3:=fun _=>Q8 n3 F3 11 (by omega) (by omega) fun e he=>by have:=hb3 e he; omega
 obtain⟨a3,lp⟩:=aac n0 F0 l hl5 N n0 n3 Es F0 F3 c1 c2 c3 st hs m 3 0 a2 rfl;rw[show ((8:Nat):Int)=8 from rfl] at m1;have av0:=L7 F0;have av1:=L7 Es;unfold maO maB at lp;unfold gA at *;unfold dk at *;simp only[fi] at n1 m1 lp;clear hG hEl hF3 hb3 c1 c2 c3;generalize ints st=T1 at *;generalize bU F3=Y3 at *;generalize bU Es=Y1 at *;generalize bU F0=Y0 at *;generalize ints l=D1 at *;unfold qQa cQa;simp[yq,yp,yn,ym,yl,yk,qH,few,hl,aw,lt,lS,h1,n1,m1,m2,lp,aO,bk,bf,fu,cX,dP,pl,fa,dD,dt,dH,gR,s5,gY,sQb,iQb,sQd,iQd,sQc,iQc,sQe,iQe,sQf,iQf,sQg,iQg]
end Go.BmP
