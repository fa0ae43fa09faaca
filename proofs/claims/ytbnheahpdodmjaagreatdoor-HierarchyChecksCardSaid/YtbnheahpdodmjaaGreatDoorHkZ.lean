/- HierarchyChecks: the law where a part is left out. -/
import Derived.Test.YtbnheahpdodmjaaGreatDoorHkV
set_option linter.unusedSimpArgs false
set_option linter.unusedVariables false
set_option maxRecDepth 100000
set_option maxHeartbeats 8000000
open List renaming getD_eq_getElem?_getD → au, getElem?_eq_getElem → ai, getElem?_eq_none → cE, getElem_mem → eG, length_cons → cc, length_map → aQ, length_nil → eH, length_set → bG, map_cons → dp, map_drop → Ar, map_nil → we, map_set → Dd, mem_cons → aG, take_of_length_le → aK
open Nat renaming le_of_ble_eq_true → aB, zero_le → jN
open Option.some renaming inj → bm
namespace Go.BmP
open Go.Am Go.Bm
theorem ahm (Z P:List Pt) (l:List Int) (hZ:Z.length<=20) (hZs:∀j,(bR Z j).length<=9223372036854775807) (hl:l.length<=9223372036854775807) {N a':Nat} {Es:List Ed} (n2:bu an nQd [.ptr 0 0,.int .i64 8] [dk l 0]=some (.agg [.int .i64 N,.list 2 (dA Es)],[dk l a'])) (hN:N<=8) (hP:P.length<=900) (vd:∀p∈P,p.2.2.length<=64) (ED:F6 N P P=0)
  (c1:bu an Oe [.agg [.int .i64 N,.list 2 (dA Es)]] []=some (.dt [.list 3 (P.map bH),.int .i64 0],[])) (c2:bu an Of [.agg [.int .i64 N,.list 2 (dA Es)]] []=some (.dt [.list 3 (P.map bH),.int .i64 0],[]))
  (i:Nat) (hi:i<P.length) (q1:yc l a' (P.length:Int)=(i:Int)) (q2:yc l (oh l a' (P.length:Int)) 5=3) :
  bu an nQa [.list 3 (Z.map bH),.list 1 (ints l)] []=some (.bool true,[]):=by
 have n1:=AN l;have n3:=fT l hl a' (P.length:Int) (by omega) [] ⟨fun _=>rfl,rfl,fun _ _=>rfl,fun _=>rfl,fun _ _=>rfl⟩;rw[q1] at n3;have n4:=fT l hl (oh l a' (P.length:Int)) 5 (by omega) [] ⟨fun _=>rfl,rfl,fun _ _=>rfl,fun _=>rfl,fun _ _=>rfl⟩;rw[q2] at n4;have aw:=Xl;have lz:(Z.map bH).length=Z.length:=aQ _;have lP:(P.map bH).length=P.length:=aQ _;have k1:¬(20:Int)<Z.length:=by omega
 have k2:(0:Int)<P.length:=by omega
 have k3:(i:Int)<P.length:=by omega
 have g3:=rR P i hi;have bF:i<(P.map bH).length:=by omega
 have g4:∀h,(P.map bH)[i]'h=.agg [.int .i64 P[i].1,.int .i64 P[i].2.1,.list 1 (ints P[i].2.2)]:=fun h=>by
  rw[ai h] at g3;exact bm g3
 have Ql:=vd _ (eG hi)
 have sl:∀j,(bR P j).length<=64:=fun j=>by
  by_cases h:j<P.length
  ·exact vd _ (at_mem h)
  ·unfold bR;rw[au,cE (by omega)];exact jN _
 have st:(P.map bH).take i++(P.map bH).drop (i+1)=(P.eraseIdx i).map bH:=by rw[List.eraseIdx_eq_take_drop_succ,List.map_append,List.map_take,Ar]
 have XO:∀j,(bR (P.eraseIdx i) j).length<=64:=fun j=>by
  by_cases h:j<(P.eraseIdx i).length
  ·exact vd _ (List.mem_of_mem_eraseIdx (at_mem h))
  ·unfold bR;rw[au,cE (by omega)];exact jN _
 have lB:(P.eraseIdx i).length=P.length-1:=List.length_eraseIdx_of_lt hi
 have hz:∀p∈[P,P.eraseIdx i,Z],p.length<=100000/\∀ j,(bR p j).length<=9223372036854775807:=fun p hp=>by
  rcases aG.1 hp with rfl|hp
  ·exact⟨by omega,fun j=>by have:=sl j; omega⟩
  ·rcases aG.1 hp with rfl|hp
   ·exact⟨by omega,fun j=>by have:=XO j; omega⟩
   ·have:p=Z:=by simpa using hp
    subst this;exact⟨by omega,hZs⟩
 have lo:=wL (N:=N) (Es:=Es) (P:=P) (by omega) hP vd c1 c2 (P.map bH) [P,P.eraseIdx i,Z] (by simp) hz l (oh l (oh l a' (P.length:Int)) 5) 3 0 (by simp);have ck:=wT (N:=N) (Es:=Es) (H:=P) hP vd c1 (by omega) P (by omega) (fun j=>by have:=sl j; omega);rw[ED] at ck;have tkp:(P.map bH).take P.length=P.map bH:=aK (by omega);have lBv:((P.eraseIdx i).map bH).length=P.length-1:=by rw[aQ,lB]
 have tkb:((P.eraseIdx i).map bH).take (P.length-1)=(P.eraseIdx i).map bH:=aK (by omega);have wl:IntKind.i64.wrap ((i:Int)+1)=(i:Int)+1:=nn (by omega) (by omega);have e1:(i:Int)+1<=P.length:=by omega
 have e2:i+1<=P.length:=by omega
 have e8:(0:Int)<=(i:Int)+1:=by omega
 have e3:i<=P.length:=by omega
 have e4:(i:Int)<=P.length:=by omega
 have e5:i+(P.length-(i+1))=P.length-1:=by omega
 have e6:i+(P.length-(i+1))<=4294967296:=by omega
 have e7:P.length-1<=4294967296:=by omega
 have ld:((P.map bH).drop (i+1)).length=P.length-(i+1):=by rw[List.length_drop,lP]
 have tkd:((P.map bH).drop (i+1)).take (P.length-(i+1))=(P.map bH).drop (i+1):=aK (by omega);have ald:bC (aA ((P.map bH).drop (i+1)))=true:=by rw[<-Ar]; exact iV _
 have al:=iV P;have kL:P.length<=4294967296:=by omega
 have k2n:0<P.length:=by omega
 have nP:¬P.length=0:=by omega
 obtain⟨y1,y2,y3,y4,y5,y6,y7,y8,y9,ya,yb⟩:=bj l;obtain⟨z1,z2,z3,z4,z5,z6,z7,z8,z9,za,zb⟩:=bj P[i].2.2;obtain⟨g1,g2,g3',g4',g5,g6,g7,g8⟩:=gU Z;obtain⟨h1,h2,h3,h4,h5,h6,h7,h8⟩:=gU P;obtain⟨j1,j2,j3,j4,j5,j6,j7,j8⟩:=gU (P.eraseIdx i);rw[eO sQa (aB rfl)];clear hz XO q1 q2 ED vd;unfold Ib dk XF at *;simp only[fU,dp,we,cc,eH] at lo n1 n2;rw[show ((0+1+1+1:Nat):Int)=3 from rfl] at lo;generalize (P.eraseIdx i).map bH=Bv at *;generalize P.map bH=Pv at *;generalize Z.map bH=Zv at *;generalize ints l=l1 at *;generalize ints P[i].2.2=S1 at *;generalize P[i].1=x1 at *;generalize P[i].2.1=x2 at *;generalize dA Es=Y at *;unfold qQa cQa;simp[BQ,BP,BO,BN,BM,BL,BK,BJ,BI,BH,u6,u5,u4,uZ,uY,uX,uW,uV,uU,uT,uS,uR,uQ,uP,uO,uM,uL,aw,lz,lP,k1,k2,k2n,k3,kL,nP,hi,bF,g3,g4,n1,n2,n3,n4,c1,c2,lo,ck,wl,e1,e2,e3,e4,e5,e6,e7,e8,ld,tkd,ald,st,tkp,lBv,tkb,al,lU,y1,y2,y3,y4,y5,y6,y7,y8,y9,ya,yb,z1,z2,z3,z4,z5,z6,z7,z8,z9,za,zb,g1,g2,g3',g4',g5,g6,g7,g8,h1,h2,h3,h4,h5,h6,h7,h8,j1,j2,j3,j4,j5,j6,j7,j8,idx,aJ,bM,bI,mM,jR,eZ,dq,pl,kg,eJ,pE,qS,gW,ga,wx,nu,iP,gM,eS,lj,pB,zz,iy,yz,tS,nJ,fz,E8,E7,rep,eK,sQc,iQc,sQd,iQd,sQf,iQf,sQe,iQe,sQh,iQh,sQb,iQb]
/- HierarchyChecks: the law where two parts are swapped. -/
theorem ahh (Z P:List Pt) (l:List Int) (hZ:Z.length<=20) (hZs:∀j,(bR Z j).length<=9223372036854775807) (hl:l.length<=9223372036854775807) {N a':Nat} {Es:List Ed} (n2:bu an nQd [.ptr 0 0,.int .i64 8] [dk l 0]=some (.agg [.int .i64 N,.list 2 (dA Es)],[dk l a'])) (hN:N<=8) (hP:P.length<=900) (vd:∀p∈P,p.2.2.length<=64) (ED:F6 N P P=0)
  (c1:bu an Oe [.agg [.int .i64 N,.list 2 (dA Es)]] []=some (.dt [.list 3 (P.map bH),.int .i64 0],[])) (c2:bu an Of [.agg [.int .i64 N,.list 2 (dA Es)]] []=some (.dt [.list 3 (P.map bH),.int .i64 0],[]))
  (i:Nat) (hi:i<P.length) (q1:yc l a' (P.length:Int)=(i:Int)) (q2:yc l (oh l a' (P.length:Int)) 5=4) :
  bu an nQa [.list 3 (Z.map bH),.list 1 (ints l)] []=some (.bool true,[]):=by
 have n1:=AN l;have n3:=fT l hl a' (P.length:Int) (by omega) [] ⟨fun _=>rfl,rfl,fun _ _=>rfl,fun _=>rfl,fun _ _=>rfl⟩;rw[q1] at n3;have n4:=fT l hl (oh l a' (P.length:Int)) 5 (by omega) [] ⟨fun _=>rfl,rfl,fun _ _=>rfl,fun _=>rfl,fun _ _=>rfl⟩;rw[q2] at n4;have aw:=Xl;have lz:(Z.map bH).length=Z.length:=aQ _;have lP:(P.map bH).length=P.length:=aQ _;have k1:¬(20:Int)<Z.length:=by omega
 have k2:(0:Int)<P.length:=by omega
 have k3:(i:Int)<P.length:=by omega
 have g3:=rR P i hi;have bF:i<(P.map bH).length:=by omega
 have g4:∀h,(P.map bH)[i]'h=.agg [.int .i64 P[i].1,.int .i64 P[i].2.1,.list 1 (ints P[i].2.2)]:=fun h=>by
  rw[ai h] at g3;exact bm g3
 have Ql:=vd _ (eG hi)
 have sl:∀j,(bR P j).length<=64:=fun j=>by
  by_cases h:j<P.length
  ·exact vd _ (at_mem h)
  ·unfold bR;rw[au,cE (by omega)];exact jN _
 have h0:0<P.length:=by omega
 obtain⟨x0,yx⟩:∃x,x=P[0]:=⟨_,rfl⟩;have p3:=rR P 0 h0;rw[<-yx] at p3
 have p4:∀h,(P.map bH)[0]'h=.agg [.int .i64 x0.1,.int .i64 x0.2.1,.list 1 (ints x0.2.2)]:=fun h=>by
  rw[ai h] at p3;exact bm p3
 have st:((P.map bH).set 0 (.agg [.int .i64 P[i].1,.int .i64 P[i].2.1,.list 1 (ints P[i].2.2)])).set i (.agg [.int .i64 x0.1,.int .i64 x0.2.1,.list 1 (ints x0.2.2)])=((P.set 0 P[i]).set i x0).map bH:=by rw[Dd,Dd]; rfl
 have XO:=Dt (P.set 0 P[i]) i x0 64 (Dt P 0 P[i] 64 sl Ql) (by rw[yx]; exact vd _ (eG h0));have lB:((P.set 0 P[i]).set i x0).length=P.length:=by rw[bG,bG]
 have hz:∀p∈[P,(P.set 0 P[i]).set i x0,Z],p.length<=100000/\∀ j,(bR p j).length<=9223372036854775807:=fun p hp=>by
  rcases aG.1 hp with rfl|hp
  ·exact⟨by omega,fun j=>by have:=sl j; omega⟩
  ·rcases aG.1 hp with rfl|hp
   ·exact⟨by omega,fun j=>by have:=XO j; omega⟩
   ·have:p=Z:=by simpa using hp
    subst this;exact⟨by omega,hZs⟩
 have lo:=wL (N:=N) (Es:=Es) (P:=P) (by omega) hP vd c1 c2 (P.map bH) [P,(P.set 0 P[i]).set i x0,Z] (by simp) hz l (oh l (oh l a' (P.length:Int)) 5) 3 0 (by simp);have ck:=wT (N:=N) (Es:=Es) (H:=P) hP vd c1 (by omega) P (by omega) (fun j=>by have:=sl j; omega);rw[ED] at ck;have tkp:(P.map bH).take P.length=P.map bH:=aK (by omega);have UY:∀x,((P.map bH).set 0 x).take P.length=(P.map bH).set 0 x:=fun x=>aK (by rw[bG]; omega);have tkt:∀x y,(((P.map bH).set 0 x).set i y).take P.length=((P.map bH).set 0 x).set i y:=fun x y=>aK (by rw[bG,bG]; omega);have ls:∀x,((P.map bH).set 0 x).length=P.length:=fun x=>by rw[bG,lP]
 have h0v:0<(P.map bH).length:=by omega
 obtain⟨w1,w2,w3,w4,w5,w6,w7,w8,w9,wa,wb⟩:=bj x0.2.2;have lBv:(((P.set 0 P[i]).set i x0).map bH).length=P.length:=by rw[aQ,lB]
 have tkb:(((P.set 0 P[i]).set i x0).map bH).take P.length=((P.set 0 P[i]).set i x0).map bH:=aK (by omega);have al:=iV P;have kL:P.length<=4294967296:=by omega
 have k2n:0<P.length:=by omega
 have nP:¬P.length=0:=by omega
 obtain⟨y1,y2,y3,y4,y5,y6,y7,y8,y9,ya,yb⟩:=bj l;obtain⟨z1,z2,z3,z4,z5,z6,z7,z8,z9,za,zb⟩:=bj P[i].2.2;obtain⟨g1,g2,g3',g4',g5,g6,g7,g8⟩:=gU Z;obtain⟨h1,h2,h3,h4,h5,h6,h7,h8⟩:=gU P;obtain⟨j1,j2,j3,j4,j5,j6,j7,j8⟩:=gU ((P.set 0 P[i]).set i x0);rw[eO sQa (aB rfl)];clear hz XO q1 q2 ED vd;unfold Ib dk XF at *;simp only[fU,dp,we,cc,eH] at lo n1 n2;rw[show ((0+1+1+1:Nat):Int)=3 from rfl] at lo;generalize ((P.set 0 P[i]).set i x0).map bH=Bv at *;generalize P.map bH=Pv at *;generalize Z.map bH=Zv at *;generalize ints l=l1 at *;clear yx;generalize ints P[i].2.2=S1 at *;generalize ints x0.2.2=S0 at *;generalize P[i].1=x1 at *;generalize P[i].2.1=x2 at *;generalize dA Es=Y at *;unfold qQa cQa;simp[BQ,BP,BO,BN,BM,BL,BK,BJ,BI,BH,u6,u5,u4,uZ,uY,uX,uW,uV,uU,uT,uS,uR,uQ,uP,uO,uM,uL,aw,lz,lP,k1,k2,k2n,k3,kL,nP,hi,bF,g3,g4,n1,n2,n3,n4,c1,c2,lo,ck,st,p3,p4,h0,h0v,ls,tkt,w1,w2,w3,w4,w5,w6,w7,w8,w9,wa,wb,tkp,UY,lBv,tkb,al,lU,y1,y2,y3,y4,y5,y6,y7,y8,y9,ya,yb,z1,z2,z3,z4,z5,z6,z7,z8,z9,za,zb,g1,g2,g3',g4',g5,g6,g7,g8,h1,h2,h3,h4,h5,h6,h7,h8,j1,j2,j3,j4,j5,j6,j7,j8,idx,aJ,bM,bI,mM,jR,eZ,dq,pl,kg,eJ,pE,qS,gW,ga,wx,nu,iP,gM,eS,lj,pB,zz,iy,yz,tS,nJ,fz,E8,E7,rep,eK,sQc,iQc,sQd,iQd,sQf,iQf,sQe,iQe,sQh,iQh,sQb,iQb]
/- HierarchyChecks: the law where a set is changed. -/
theorem ahi (Z P:List Pt) (l:List Int) (hZ:Z.length<=20) (hZs:∀j,(bR Z j).length<=9223372036854775807) (hl:l.length<=9223372036854775807) {N a':Nat} {Es:List Ed} (n2:bu an nQd [.ptr 0 0,.int .i64 8] [dk l 0]=some (.agg [.int .i64 N,.list 2 (dA Es)],[dk l a'])) (hN:N<=8) (hP:P.length<=900) (vd:∀p∈P,p.2.2.length<=64) (ED:F6 N P P=0)
  (c1:bu an Oe [.agg [.int .i64 N,.list 2 (dA Es)]] []=some (.dt [.list 3 (P.map bH),.int .i64 0],[])) (c2:bu an Of [.agg [.int .i64 N,.list 2 (dA Es)]] []=some (.dt [.list 3 (P.map bH),.int .i64 0],[]))
  (i:Nat) (hi:i<P.length) (q1:yc l a' (P.length:Int)=(i:Int)) (q2:yc l (oh l a' (P.length:Int)) 5=2) :
  bu an nQa [.list 3 (Z.map bH),.list 1 (ints l)] []=some (.bool true,[]):=by
 have n1:=AN l;have n3:=fT l hl a' (P.length:Int) (by omega) [] ⟨fun _=>rfl,rfl,fun _ _=>rfl,fun _=>rfl,fun _ _=>rfl⟩;rw[q1] at n3;have n4:=fT l hl (oh l a' (P.length:Int)) 5 (by omega) [] ⟨fun _=>rfl,rfl,fun _ _=>rfl,fun _=>rfl,fun _ _=>rfl⟩;rw[q2] at n4;obtain⟨o,a5,n5,on,_⟩:=af1 l hl 8 (by omega) [] ⟨fun _=>rfl,rfl,fun _ _=>rfl,fun _=>rfl,fun _ _=>rfl⟩ (oh l (oh l a' (P.length:Int)) 5);rw[show ((8:Nat):Int)=8 from rfl] at n5;have aw:=Xl;have lz:(Z.map bH).length=Z.length:=aQ _;have lP:(P.map bH).length=P.length:=aQ _;have k1:¬(20:Int)<Z.length:=by omega
 have k2:(0:Int)<P.length:=by omega
 have k3:(i:Int)<P.length:=by omega
 have g3:=rR P i hi;have bF:i<(P.map bH).length:=by omega
 have g4:∀h,(P.map bH)[i]'h=.agg [.int .i64 P[i].1,.int .i64 P[i].2.1,.list 1 (ints P[i].2.2)]:=fun h=>by
  rw[ai h] at g3;exact bm g3
 have Ql:=vd _ (eG hi)
 have sl:∀j,(bR P j).length<=64:=fun j=>by
  by_cases h:j<P.length
  ·exact vd _ (at_mem h)
  ·unfold bR;rw[au,cE (by omega)];exact jN _
 have st:(P.map bH).set i (.agg [.int .i64 P[i].1,.int .i64 P[i].2.1,.list 1 (ints o)])=(P.set i (P[i].1,P[i].2.1,o)).map bH:=by rw[Dd]; rfl
 have XO:=Dt P i (P[i].1,P[i].2.1,o) 64 sl (by show o.length<=64; omega);have lB:(P.set i (P[i].1,P[i].2.1,o)).length=P.length:=bG
 have hz:∀p∈[P,P.set i (P[i].1,P[i].2.1,o),Z],p.length<=100000/\∀ j,(bR p j).length<=9223372036854775807:=fun p hp=>by
  rcases aG.1 hp with rfl|hp
  ·exact⟨by omega,fun j=>by have:=sl j; omega⟩
  ·rcases aG.1 hp with rfl|hp
   ·exact⟨by omega,fun j=>by have:=XO j; omega⟩
   ·have:p=Z:=by simpa using hp
    subst this;exact⟨by omega,hZs⟩
 have lo:=wL (N:=N) (Es:=Es) (P:=P) (by omega) hP vd c1 c2 (P.map bH) [P,P.set i (P[i].1,P[i].2.1,o),Z] (by simp) hz l a5 3 0 (by simp);have ck:=wT (N:=N) (Es:=Es) (H:=P) hP vd c1 (by omega) P (by omega) (fun j=>by have:=sl j; omega);rw[ED] at ck;have tkp:(P.map bH).take P.length=P.map bH:=aK (by omega);have UY:∀x,((P.map bH).set i x).take P.length=(P.map bH).set i x:=fun x=>aK (by rw[bG]; omega);have lBv:((P.set i (P[i].1,P[i].2.1,o)).map bH).length=P.length:=by rw[aQ,lB]
 have tkb:((P.set i (P[i].1,P[i].2.1,o)).map bH).take P.length=(P.set i (P[i].1,P[i].2.1,o)).map bH:=aK (by omega);have al:=iV P;have kL:P.length<=4294967296:=by omega
 have k2n:0<P.length:=by omega
 have nP:¬P.length=0:=by omega
 obtain⟨y1,y2,y3,y4,y5,y6,y7,y8,y9,ya,yb⟩:=bj l;obtain⟨z1,z2,z3,z4,z5,z6,z7,z8,z9,za,zb⟩:=bj P[i].2.2;obtain⟨w1,w2,w3,w4,w5,w6,w7,w8,w9,wa,wb⟩:=bj o;obtain⟨g1,g2,g3',g4',g5,g6,g7,g8⟩:=gU Z;obtain⟨h1,h2,h3,h4,h5,h6,h7,h8⟩:=gU P;obtain⟨j1,j2,j3,j4,j5,j6,j7,j8⟩:=gU (P.set i (P[i].1,P[i].2.1,o));rw[eO sQa (aB rfl)];clear hz XO q1 q2 ED vd;unfold Ib dk XF at *;simp only[fU,dp,we,cc,eH] at lo n1 n2;rw[show ((0+1+1+1:Nat):Int)=3 from rfl] at lo;generalize (P.set i (P[i].1,P[i].2.1,o)).map bH=Bv at *;generalize P.map bH=Pv at *;generalize Z.map bH=Zv at *;generalize ints l=l1 at *;generalize ints P[i].2.2=S1 at *;generalize ints o=O1 at *;generalize P[i].1=x1 at *;generalize P[i].2.1=x2 at *;generalize dA Es=Y at *;unfold qQa cQa;simp[BQ,BP,BO,BN,BM,BL,BK,BJ,BI,BH,u6,u5,u4,uZ,uY,uX,uW,uV,uU,uT,uS,uR,uQ,uP,uO,uM,uL,aw,lz,lP,k1,k2,k2n,k3,kL,nP,hi,bF,g3,g4,n1,n2,n3,n4,n5,c1,c2,lo,ck,st,w1,w2,w3,w4,w5,w6,w7,w8,w9,wa,wb,tkp,UY,lBv,tkb,al,lU,y1,y2,y3,y4,y5,y6,y7,y8,y9,ya,yb,z1,z2,z3,z4,z5,z6,z7,z8,z9,za,zb,g1,g2,g3',g4',g5,g6,g7,g8,h1,h2,h3,h4,h5,h6,h7,h8,j1,j2,j3,j4,j5,j6,j7,j8,idx,aJ,bM,bI,mM,jR,eZ,dq,pl,kg,eJ,pE,qS,gW,ga,wx,nu,iP,gM,eS,lj,pB,zz,iy,yz,tS,nJ,fz,E8,E7,rep,eK,sQc,iQc,sQd,iQd,sQf,iQf,sQg,iQg,sQe,iQe,sQh,iQh,sQb,iQb]
/- HierarchyChecks: the law. -/
theorem TZ (Z:List Pt) (l:List Int) (hZs:∀z∈Z,z.2.2.length<=9223372036854775807) (hl:l.length<=9223372036854775807):bu an nQa [.list 3 (Z.map bH),.list 1 (ints l)] []=some (.bool true,[]):=by
 by_cases hZ:20<Z.length
 ·exact aeV Z l hZ
 have hZ':Z.length<=20:=by omega
 have zs:∀j,(bR Z j).length<=9223372036854775807:=fun j=>by
  by_cases h:j<Z.length
  ·exact hZs _ (at_mem h)
  ·unfold bR;rw[au,cE (by omega)];exact jN _
 obtain⟨N,Es,a',n2,hG,hN,hE⟩:=abT l hl 8 (by omega) 0;rw[show ((8:Nat):Int)=8 from rfl] at n2;obtain⟨P,⟨hP,vd,L,hL,hH⟩,c1,c2⟩:=W6 hG (by omega) (by omega);have ED:=afp hL hH;by_cases h0:P=[]
 ·subst h0;exact ahk Z l hZ' zs hl n2 hN c1 c2
 ·have hp:0<P.length:=List.length_pos_iff.2 h0;obtain⟨u0,u1⟩:=KH l a' (n:=(P.length:Int)) (by omega);obtain⟨i,q1⟩:∃i:Nat,yc l a' (P.length:Int)=(i:Int):=⟨(yc l a' (P.length:Int)).toNat,by omega⟩;have hi:i<P.length:=by omega
  obtain⟨v0,v1⟩:=KH l (oh l a' (P.length:Int)) (n:=5) (by omega);by_cases e0:yc l (oh l a' (P.length:Int)) 5=0
  ·exact ahl Z P l hZ' zs hl n2 hN hP vd ED c1 c2 i hi q1 e0
  by_cases e1:yc l (oh l a' (P.length:Int)) 5=1
  ·exact ahj Z P l hZ' zs hl n2 hN hP vd ED c1 c2 i hi q1 e1
  by_cases e2:yc l (oh l a' (P.length:Int)) 5=2
  ·exact ahi Z P l hZ' zs hl n2 hN hP vd ED c1 c2 i hi q1 e2
  by_cases e3:yc l (oh l a' (P.length:Int)) 5=3
  ·exact ahm Z P l hZ' zs hl n2 hN hP vd ED c1 c2 i hi q1 e3
  ·exact ahh Z P l hZ' zs hl n2 hN hP vd ED c1 c2 i hi q1 (by omega)
end Go.BmP
