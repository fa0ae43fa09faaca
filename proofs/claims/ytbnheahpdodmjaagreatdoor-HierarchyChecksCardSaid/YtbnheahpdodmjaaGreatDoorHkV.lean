/- HierarchyChecks: the loop over the lists. -/
import Derived.Test.YtbnheahpdodmjaaGreatDoorHkO
set_option linter.unusedSimpArgs false
set_option linter.unusedVariables false
set_option maxRecDepth 100000
set_option maxHeartbeats 8000000
open List renaming getD_eq_getElem?_getD → au, getElem?_eq_getElem → ai, getElem?_eq_none → cE, getElem_mem → eG, length_cons → cc, length_map → aQ, length_nil → eH, length_set → bG, map_cons → dp, map_nil → we, map_set → Dd, mem_cons → aG, take_of_length_le → aK
open Nat renaming le_of_ble_eq_true → aB, zero_le → jN
open Option.some renaming inj → bm
namespace Go.BmP
open Go.Am Go.Bm
def XF (Zs:List (List Pt)):List AV:=Zs.map fun p=>.list 3 (p.map bH)
def Ib (N:Nat) (Es:List Ed) (Pv:List AV) (Zs:List (List Pt)) (l1:List Int) (a i:Nat) (J:Env):St:=⟨(6,.ptr 1 0)::(7,.list 3 Pv)::(97,.own 1 (XF Zs))::(98,.int .i64 Zs.length)::(99,.int .i64 i)::J,[dk l1 a,some [.int .i64 N,.list 2 (dA Es)]]⟩
theorem aez {N:Nat} {Es:List Ed} {P:List Pt} (hN:N<=64) (hP:P.length<=900) (vd:∀p∈P,p.2.2.length<=64) (c1:bu an Oe [.agg [.int .i64 N,.list 2 (dA Es)]] []=some (.dt [.list 3 (P.map bH),.int .i64 0],[])) (c2:bu an Of [.agg [.int .i64 N,.list 2 (dA Es)]] []=some (.dt [.list 3 (P.map bH),.int .i64 0],[]))
  (Pv:List AV) (Zs:List (List Pt)) (hZ:Zs.length<=100) (hz:∀p∈Zs,p.length<=100000/\∀ j,(bR p j).length<=9223372036854775807) (l1:List Int) (a i:Nat) (hi:i<Zs.length) :
  aY an 0 Tj (Ib N Es Pv Zs l1 a i [])=some (.normal,Ib N Es Pv Zs l1 a (i+1) []):=by
 have k1:(i:Int)<Zs.length:=by omega
 have hw:=dO (i:=i) (by omega);have lz:(XF Zs).length=Zs.length:=aQ _;have g3:(XF Zs)[i]?=some (.list 3 (Zs[i].map bH)):=by unfold XF; rw[List.getElem?_map,ai hi]; rfl
 have bF:i<(XF Zs).length:=by omega
 have g4:∀h,(XF Zs)[i]'h=.list 3 (Zs[i].map bH):=fun h=>by
  rw[ai h] at g3;exact bm g3
 obtain⟨z1,z2⟩:=hz _ (eG hi);have r1:=wT hP vd c1 hN Zs[i] z1 z2;have r2:=agb hP vd c2 hN Zs[i] z1 z2;obtain⟨a1,a2,a3,a4,a5,a6,a7,a8,a9,aa,ab⟩:=bj l1;obtain⟨b1,b2,b3,b4,b5,b6,b7,b8⟩:=gU Zs[i];clear c1 c2;unfold Ib dk;generalize F6 N P Zs[i]=c at *;generalize Zs[i].map bH=Z1 at *;generalize XF Zs=ZV at *;generalize ints l1=L1 at *;generalize dA Es=Y at *;unfold Tj;simp[BQ,BP,BO,BN,BM,BL,BK,BJ,BI,BH,u6,u5,u4,uZ,uY,uX,uW,uV,uU,uT,uS,uR,uQ,uP,uO,uM,uL,k1,hi,hw,lz,g3,g4,bF,r1,r2,a1,a2,a3,a4,a5,a6,a7,a8,a9,aa,ab,b1,b2,b3,b4,b5,b6,b7,b8,idx,aJ,jR,eZ,dq,pl,kg,eJ,pE,qS,gW,ga,eS,lj,pB,zz,iy,yz,tS,nJ,sQh,iQh,sQi,iQi]
theorem wL {N:Nat} {Es:List Ed} {P:List Pt} (hN:N<=64) (hP:P.length<=900) (vd:∀p∈P,p.2.2.length<=64) (c1:bu an Oe [.agg [.int .i64 N,.list 2 (dA Es)]] []=some (.dt [.list 3 (P.map bH),.int .i64 0],[])) (c2:bu an Of [.agg [.int .i64 N,.list 2 (dA Es)]] []=some (.dt [.list 3 (P.map bH),.int .i64 0],[]))
  (Pv:List AV) (Zs:List (List Pt)) (hZ:Zs.length<=100) (hz:∀p∈Zs,p.length<=100000/\∀ j,(bR p j).length<=9223372036854775807) (l1:List Int) (a:Nat):∀(n i:Nat),i+n=Zs.length ->
  aY an 0 (.loop Tj) (Ib N Es Pv Zs l1 a i [])=some (.exit 1,Ib N Es Pv Zs l1 a Zs.length [(100,.bool false)])
 |0,i,hi=>by
   obtain rfl:i=Zs.length:=by omega
   refine bt ?_;unfold Ib dk;generalize XF Zs=ZV at *;generalize ints l1=L1 at *;generalize dA Es=Y at *;unfold Tj;simp[BQ,BP,BO,BN,BM,BL,BK,BJ,BI,BH,u6,u5,u4,uZ,uY,uX,uW,uV,uU,uT,uS,uR,uQ,uP,uO,uM,uL]
 |n+1,i,hi=>(aV (aez hN hP vd c1 c2 Pv Zs hZ hz l1 a i (by omega))).trans (wL hN hP vd c1 c2 Pv Zs hZ hz l1 a n (i+1) (by omega))
/- HierarchyChecks: the law where the graph has no parts, and where the list that came in is long. -/
theorem aeV (Z:List Pt) (l:List Int) (hZ:20<Z.length):bu an nQa [.list 3 (Z.map bH),.list 1 (ints l)] []=some (.bool true,[]):=by
 have aw:=Xl;have lz:(Z.map bH).length=Z.length:=aQ _;have k1:(20:Int)<Z.length:=by omega
 rw[eO sQa (aB rfl)];generalize Z.map bH=Zv at *;generalize ints l=l1 at *;unfold qQa cQa;simp[BQ,BP,BO,BN,BM,BL,BK,BJ,BI,BH,u6,u5,u4,uZ,uY,uX,uW,uV,uU,uT,uS,uR,uQ,uP,uO,uM,uL,aw,lz,k1,aJ,bM,bI,dq,pl,sQb,iQb]
theorem ahk (Z:List Pt) (l:List Int) (hZ:Z.length<=20) (hZs:∀j,(bR Z j).length<=9223372036854775807) (hl:l.length<=9223372036854775807) {N a':Nat} {Es:List Ed} (n2:bu an nQd [.ptr 0 0,.int .i64 8] [dk l 0]=some (.agg [.int .i64 N,.list 2 (dA Es)],[dk l a'])) (hN:N<=8)
  (c1:bu an Oe [.agg [.int .i64 N,.list 2 (dA Es)]] []=some (.dt [.list 3 [],.int .i64 0],[])) (c2:bu an Of [.agg [.int .i64 N,.list 2 (dA Es)]] []=some (.dt [.list 3 [],.int .i64 0],[])) :
  bu an nQa [.list 3 (Z.map bH),.list 1 (ints l)] []=some (.bool true,[]):=by
 have n1:=AN l;have aw:=Xl;have lz:(Z.map bH).length=Z.length:=aQ _;have k1:¬(20:Int)<Z.length:=by omega
 have hz:∀p∈[([]:List Pt),[],Z],p.length<=100000/\∀ j,(bR p j).length<=9223372036854775807:=fun p hp=>by
  rcases aG.1 hp with rfl|hp
  ·exact⟨by simp,fun j=>by simp[bR]⟩
  ·rcases aG.1 hp with rfl|hp
   ·exact⟨by simp,fun j=>by simp[bR]⟩
   ·have:p=Z:=by simpa using hp
    subst this;exact⟨by omega,hZs⟩
 have lo:=wL (N:=N) (Es:=Es) (P:=[]) (by omega) (by simp) (fun p hp=>by cases hp) c1 c2 [] [[],[],Z] (by simp) hz l a' 3 0 (by simp);have ck:=wT (N:=N) (Es:=Es) (H:=[]) (by simp) (fun p hp=>by cases hp) c1 (by omega) [] (by simp) (fun j=>by simp[bR]);have cz:F6 N [] []=0:=rfl;rw[cz] at ck;obtain⟨y1,y2,y3,y4,y5,y6,y7,y8,y9,ya,yb⟩:=bj l;obtain⟨g1,g2,g3,g4,g5,g6,g7,g8⟩:=gU Z;rw[eO sQa (aB rfl)];unfold Ib dk XF at *;rw[show ([]:List Pt).map bH=[] from rfl] at *;simp only[fU,dp,we,cc,eH] at lo n1 n2;rw[show ((0+1+1+1:Nat):Int)=3 from rfl] at lo;generalize Z.map bH=Zv at *;generalize ints l=l1 at *;generalize dA Es=Y at *;unfold qQa cQa;simp[BQ,BP,BO,BN,BM,BL,BK,BJ,BI,BH,u6,u5,u4,uZ,uY,uX,uW,uV,uU,uT,uS,uR,uQ,uP,uO,uM,uL,aw,lz,k1,n1,n2,c1,c2,lo,ck,y1,y2,y3,y4,y5,y6,y7,y8,y9,ya,yb,g1,g2,g3,g4,g5,g6,g7,g8,aJ,bM,bI,mM,jR,eZ,dq,pl,kg,eJ,pE,qS,gW,ga,wx,nu,iP,gM,eS,lj,pB,zz,iy,yz,tS,nJ,fz,E8,E7,rep,eK,sQc,iQc,sQd,iQd,sQe,iQe,sQh,iQh,sQb,iQb]
/- HierarchyChecks: the law where a level is changed. -/
theorem Dt (P:List Pt) (i:Nat) (x:Pt) (m:Nat) (hP:∀j,(bR P j).length<=m) (hx:x.2.2.length<=m) (j:Nat):(bR (P.set i x) j).length<=m:=by
 unfold bR;by_cases e:i=j
 ·subst e;rw[au,List.getElem?_set,if_pos rfl];split
  ·exact hx
  ·exact jN _
 ·have:=hP j;unfold bR at this;rw[au,List.getElem?_set_ne e,<-au];exact this
theorem ahl (Z P:List Pt) (l:List Int) (hZ:Z.length<=20) (hZs:∀j,(bR Z j).length<=9223372036854775807) (hl:l.length<=9223372036854775807) {N a':Nat} {Es:List Ed} (n2:bu an nQd [.ptr 0 0,.int .i64 8] [dk l 0]=some (.agg [.int .i64 N,.list 2 (dA Es)],[dk l a'])) (hN:N<=8) (hP:P.length<=900) (vd:∀p∈P,p.2.2.length<=64) (ED:F6 N P P=0)
  (c1:bu an Oe [.agg [.int .i64 N,.list 2 (dA Es)]] []=some (.dt [.list 3 (P.map bH),.int .i64 0],[])) (c2:bu an Of [.agg [.int .i64 N,.list 2 (dA Es)]] []=some (.dt [.list 3 (P.map bH),.int .i64 0],[]))
  (i:Nat) (hi:i<P.length) (q1:yc l a' (P.length:Int)=(i:Int)) (q2:yc l (oh l a' (P.length:Int)) 5=0) :
  bu an nQa [.list 3 (Z.map bH),.list 1 (ints l)] []=some (.bool true,[]):=by
 have n1:=AN l;have n3:=fT l hl a' (P.length:Int) (by omega) [] ⟨fun _=>rfl,rfl,fun _ _=>rfl,fun _=>rfl,fun _ _=>rfl⟩;rw[q1] at n3;have n4:=fT l hl (oh l a' (P.length:Int)) 5 (by omega) [] ⟨fun _=>rfl,rfl,fun _ _=>rfl,fun _=>rfl,fun _ _=>rfl⟩;rw[q2] at n4;have n5:=fT l hl (oh l (oh l a' (P.length:Int)) 5) 3 (by omega) [] ⟨fun _=>rfl,rfl,fun _ _=>rfl,fun _=>rfl,fun _ _=>rfl⟩;have aw:=Xl;have lz:(Z.map bH).length=Z.length:=aQ _;have lP:(P.map bH).length=P.length:=aQ _;have k1:¬(20:Int)<Z.length:=by omega
 have k2:(0:Int)<P.length:=by omega
 have k3:(i:Int)<P.length:=by omega
 have g3:=rR P i hi;have bF:i<(P.map bH).length:=by omega
 have g4:∀h,(P.map bH)[i]'h=.agg [.int .i64 P[i].1,.int .i64 P[i].2.1,.list 1 (ints P[i].2.2)]:=fun h=>by
  rw[ai h] at g3;exact bm g3
 have Ql:=vd _ (eG hi)
 have sl:∀j,(bR P j).length<=64:=fun j=>by
  by_cases h:j<P.length
  ·exact vd _ (at_mem h)
  ·unfold bR;rw[au,cE (by omega)];exact jN _
 generalize hb:IntKind.i64.wrap (P[i].1+IntKind.i64.wrap (yc l (oh l (oh l a' (P.length:Int)) 5) 3-1))=Mf;have st:(P.map bH).set i (.agg [.int .i64 Mf,.int .i64 P[i].2.1,.list 1 (ints P[i].2.2)])=(P.set i (Mf,P[i].2.1,P[i].2.2)).map bH:=by rw[Dd]; rfl
 have XO:=Dt P i (Mf,P[i].2.1,P[i].2.2) 64 sl Ql;have lB:(P.set i (Mf,P[i].2.1,P[i].2.2)).length=P.length:=bG
 have hz:∀p∈[P,P.set i (Mf,P[i].2.1,P[i].2.2),Z],p.length<=100000/\∀ j,(bR p j).length<=9223372036854775807:=fun p hp=>by
  rcases aG.1 hp with rfl|hp
  ·exact⟨by omega,fun j=>by have:=sl j; omega⟩
  ·rcases aG.1 hp with rfl|hp
   ·exact⟨by omega,fun j=>by have:=XO j; omega⟩
   ·have:p=Z:=by simpa using hp
    subst this;exact⟨by omega,hZs⟩
 have lo:=wL (N:=N) (Es:=Es) (P:=P) (by omega) hP vd c1 c2 (P.map bH) [P,P.set i (Mf,P[i].2.1,P[i].2.2),Z] (by simp) hz l (oh l (oh l (oh l a' (P.length:Int)) 5) 3) 3 0 (by simp);have ck:=wT (N:=N) (Es:=Es) (H:=P) hP vd c1 (by omega) P (by omega) (fun j=>by have:=sl j; omega);rw[ED] at ck;have tkp:(P.map bH).take P.length=P.map bH:=aK (by omega);have UY:∀x,((P.map bH).set i x).take P.length=(P.map bH).set i x:=fun x=>aK (by rw[bG]; omega);have lBv:((P.set i (Mf,P[i].2.1,P[i].2.2)).map bH).length=P.length:=by rw[aQ,lB]
 have tkb:((P.set i (Mf,P[i].2.1,P[i].2.2)).map bH).take P.length=(P.set i (Mf,P[i].2.1,P[i].2.2)).map bH:=aK (by omega);have al:=iV P;have kL:P.length<=4294967296:=by omega
 have k2n:0<P.length:=by omega
 have nP:¬P.length=0:=by omega
 obtain⟨y1,y2,y3,y4,y5,y6,y7,y8,y9,ya,yb⟩:=bj l;obtain⟨z1,z2,z3,z4,z5,z6,z7,z8,z9,za,zb⟩:=bj P[i].2.2;obtain⟨g1,g2,g3',g4',g5,g6,g7,g8⟩:=gU Z;obtain⟨h1,h2,h3,h4,h5,h6,h7,h8⟩:=gU P;obtain⟨j1,j2,j3,j4,j5,j6,j7,j8⟩:=gU (P.set i (Mf,P[i].2.1,P[i].2.2));rw[eO sQa (aB rfl)];clear hz XO q1 q2 ED vd;unfold Ib dk XF at *;simp only[fU,dp,we,cc,eH] at lo n1 n2;rw[show ((0+1+1+1:Nat):Int)=3 from rfl] at lo;generalize (P.set i (Mf,P[i].2.1,P[i].2.2)).map bH=Bv at *;generalize P.map bH=Pv at *;generalize Z.map bH=Zv at *;generalize ints l=l1 at *;generalize ints P[i].2.2=S1 at *;generalize P[i].1=x1 at *;generalize P[i].2.1=x2 at *;generalize dA Es=Y at *;unfold qQa cQa;simp[BQ,BP,BO,BN,BM,BL,BK,BJ,BI,BH,u6,u5,u4,uZ,uY,uX,uW,uV,uU,uT,uS,uR,uQ,uP,uO,uM,uL,aw,lz,lP,k1,k2,k2n,k3,kL,nP,hi,bF,g3,g4,n1,n2,n3,n4,n5,c1,c2,lo,ck,hb,st,tkp,UY,lBv,tkb,al,lU,y1,y2,y3,y4,y5,y6,y7,y8,y9,ya,yb,z1,z2,z3,z4,z5,z6,z7,z8,z9,za,zb,g1,g2,g3',g4',g5,g6,g7,g8,h1,h2,h3,h4,h5,h6,h7,h8,j1,j2,j3,j4,j5,j6,j7,j8,idx,aJ,bM,bI,mM,jR,eZ,dq,pl,kg,eJ,pE,qS,gW,ga,wx,nu,iP,gM,eS,lj,pB,zz,iy,yz,tS,nJ,fz,E8,E7,rep,eK,sQc,iQc,sQd,iQd,sQf,iQf,sQe,iQe,sQh,iQh,sQb,iQb]
/- HierarchyChecks: the law where a parent is changed. -/
theorem ahj (Z P:List Pt) (l:List Int) (hZ:Z.length<=20) (hZs:∀j,(bR Z j).length<=9223372036854775807) (hl:l.length<=9223372036854775807) {N a':Nat} {Es:List Ed} (n2:bu an nQd [.ptr 0 0,.int .i64 8] [dk l 0]=some (.agg [.int .i64 N,.list 2 (dA Es)],[dk l a'])) (hN:N<=8) (hP:P.length<=900) (vd:∀p∈P,p.2.2.length<=64) (ED:F6 N P P=0)
  (c1:bu an Oe [.agg [.int .i64 N,.list 2 (dA Es)]] []=some (.dt [.list 3 (P.map bH),.int .i64 0],[])) (c2:bu an Of [.agg [.int .i64 N,.list 2 (dA Es)]] []=some (.dt [.list 3 (P.map bH),.int .i64 0],[]))
  (i:Nat) (hi:i<P.length) (q1:yc l a' (P.length:Int)=(i:Int)) (q2:yc l (oh l a' (P.length:Int)) 5=1) :
  bu an nQa [.list 3 (Z.map bH),.list 1 (ints l)] []=some (.bool true,[]):=by
 have n1:=AN l;have n3:=fT l hl a' (P.length:Int) (by omega) [] ⟨fun _=>rfl,rfl,fun _ _=>rfl,fun _=>rfl,fun _ _=>rfl⟩;rw[q1] at n3;have n4:=fT l hl (oh l a' (P.length:Int)) 5 (by omega) [] ⟨fun _=>rfl,rfl,fun _ _=>rfl,fun _=>rfl,fun _ _=>rfl⟩;rw[q2] at n4;have n5:=fT l hl (oh l (oh l a' (P.length:Int)) 5) ((P.length:Int)+1) (by omega) [] ⟨fun _=>rfl,rfl,fun _ _=>rfl,fun _=>rfl,fun _ _=>rfl⟩;have aw:=Xl;have lz:(Z.map bH).length=Z.length:=aQ _;have lP:(P.map bH).length=P.length:=aQ _;have k1:¬(20:Int)<Z.length:=by omega
 have k2:(0:Int)<P.length:=by omega
 have k3:(i:Int)<P.length:=by omega
 have g3:=rR P i hi;have bF:i<(P.map bH).length:=by omega
 have g4:∀h,(P.map bH)[i]'h=.agg [.int .i64 P[i].1,.int .i64 P[i].2.1,.list 1 (ints P[i].2.2)]:=fun h=>by
  rw[ai h] at g3;exact bm g3
 have Ql:=vd _ (eG hi)
 have sl:∀j,(bR P j).length<=64:=fun j=>by
  by_cases h:j<P.length
  ·exact vd _ (at_mem h)
  ·unfold bR;rw[au,cE (by omega)];exact jN _
 generalize hb:IntKind.i64.wrap (yc l (oh l (oh l a' (P.length:Int)) 5) ((P.length:Int)+1)-1)=Mf;have wl:IntKind.i64.wrap ((P.length:Int)+1)=(P.length:Int)+1:=nn (by omega) (by omega);have st:(P.map bH).set i (.agg [.int .i64 P[i].1,.int .i64 Mf,.list 1 (ints P[i].2.2)])=(P.set i (P[i].1,Mf,P[i].2.2)).map bH:=by rw[Dd]; rfl
 have XO:=Dt P i (P[i].1,Mf,P[i].2.2) 64 sl Ql;have lB:(P.set i (P[i].1,Mf,P[i].2.2)).length=P.length:=bG
 have hz:∀p∈[P,P.set i (P[i].1,Mf,P[i].2.2),Z],p.length<=100000/\∀ j,(bR p j).length<=9223372036854775807:=fun p hp=>by
  rcases aG.1 hp with rfl|hp
  ·exact⟨by omega,fun j=>by have:=sl j; omega⟩
  ·rcases aG.1 hp with rfl|hp
   ·exact⟨by omega,fun j=>by have:=XO j; omega⟩
   ·have:p=Z:=by simpa using hp
    subst this;exact⟨by omega,hZs⟩
 have lo:=wL (N:=N) (Es:=Es) (P:=P) (by omega) hP vd c1 c2 (P.map bH) [P,P.set i (P[i].1,Mf,P[i].2.2),Z] (by simp) hz l (oh l (oh l (oh l a' (P.length:Int)) 5) ((P.length:Int)+1)) 3 0 (by simp);have ck:=wT (N:=N) (Es:=Es) (H:=P) hP vd c1 (by omega) P (by omega) (fun j=>by have:=sl j; omega);rw[ED] at ck;have tkp:(P.map bH).take P.length=P.map bH:=aK (by omega);have UY:∀x,((P.map bH).set i x).take P.length=(P.map bH).set i x:=fun x=>aK (by rw[bG]; omega);have lBv:((P.set i (P[i].1,Mf,P[i].2.2)).map bH).length=P.length:=by rw[aQ,lB]
 have tkb:((P.set i (P[i].1,Mf,P[i].2.2)).map bH).take P.length=(P.set i (P[i].1,Mf,P[i].2.2)).map bH:=aK (by omega);have al:=iV P;have kL:P.length<=4294967296:=by omega
 have k2n:0<P.length:=by omega
 have nP:¬P.length=0:=by omega
 obtain⟨y1,y2,y3,y4,y5,y6,y7,y8,y9,ya,yb⟩:=bj l;obtain⟨z1,z2,z3,z4,z5,z6,z7,z8,z9,za,zb⟩:=bj P[i].2.2;obtain⟨g1,g2,g3',g4',g5,g6,g7,g8⟩:=gU Z;obtain⟨h1,h2,h3,h4,h5,h6,h7,h8⟩:=gU P;obtain⟨j1,j2,j3,j4,j5,j6,j7,j8⟩:=gU (P.set i (P[i].1,Mf,P[i].2.2));rw[eO sQa (aB rfl)];clear hz XO q1 q2 ED vd;unfold Ib dk XF at *;simp only[fU,dp,we,cc,eH] at lo n1 n2;rw[show ((0+1+1+1:Nat):Int)=3 from rfl] at lo;generalize (P.set i (P[i].1,Mf,P[i].2.2)).map bH=Bv at *;generalize P.map bH=Pv at *;generalize Z.map bH=Zv at *;generalize ints l=l1 at *;generalize ints P[i].2.2=S1 at *;generalize P[i].1=x1 at *;generalize P[i].2.1=x2 at *;generalize dA Es=Y at *;unfold qQa cQa;simp[BQ,BP,BO,BN,BM,BL,BK,BJ,BI,BH,u6,u5,u4,uZ,uY,uX,uW,uV,uU,uT,uS,uR,uQ,uP,uO,uM,uL,aw,lz,lP,k1,k2,k2n,k3,kL,nP,hi,bF,g3,g4,n1,n2,n3,n4,n5,c1,c2,lo,ck,hb,wl,st,tkp,UY,lBv,tkb,al,lU,y1,y2,y3,y4,y5,y6,y7,y8,y9,ya,yb,z1,z2,z3,z4,z5,z6,z7,z8,z9,za,zb,g1,g2,g3',g4',g5,g6,g7,g8,h1,h2,h3,h4,h5,h6,h7,h8,j1,j2,j3,j4,j5,j6,j7,j8,idx,aJ,bM,bI,mM,jR,eZ,dq,pl,kg,eJ,pE,qS,gW,ga,wx,nu,iP,gM,eS,lj,pB,zz,iy,yz,tS,nJ,fz,E8,E7,rep,eK,sQc,iQc,sQd,iQd,sQf,iQf,sQe,iQe,sQh,iQh,sQb,iQb]
end Go.BmP
