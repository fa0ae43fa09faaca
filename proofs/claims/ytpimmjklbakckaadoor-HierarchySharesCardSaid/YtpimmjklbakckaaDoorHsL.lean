/- HierarchyShares: the law. -/
import Derived.Test.YtpimmjklbakckaaDoorHnC
set_option linter.unusedSimpArgs false
set_option linter.unusedVariables false
set_option maxRecDepth 100000
set_option maxHeartbeats 8000000
open Option.some renaming inj → bJ
namespace Go.BmP
open Go.Am Go.Bm
theorem JU (N:Nat) (Y:List AV):Rest [qa N Y]:=⟨fun _=>rfl,rfl,fun _ _=>rfl,fun _=>rfl,fun _ _=>rfl⟩
theorem Oo {N:Nat} {Es:List Ed} (hG:Jz (N:Int) Es) (hE:Es.length<1000000) (h0:0<N) (h13:N<=13) :
  ∃ L P,(Fw (jL N Es) N L/\HOK2 (jL N Es) N L P)/\bS aD Yc [.agg [.int .i64 N,.list 2 (iQ Es)]] []=some (.dA [.list 3 (P.map en),.int .i64 0],[]):=by
 obtain⟨L,b,⟨h1,h2,h3⟩,h4⟩:=On hG hE h0 h13;exact⟨L,mD b,⟨h1,h2,fun i hi=>WZ b i hi,fun i k tr hk=>W0 h3 tr hk⟩,h4⟩
theorem aes {A:List Nat} {N:Nat} {L:List Int} {P:List Pt} (h:HOK A N L P) (j:Nat):(cq P j).length<=64:=by
 by_cases q:j<P.length
 ·obtain⟨_,R,_,_,_,e⟩:=h.lv j q;rw[e]; exact v7 R
 ·unfold cq;rw[List.getD_eq_getElem?_getD,List.getElem?_eq_none (by omega)];exact Nat.zero_le _
theorem Lu (l:List Int) (hl:l.length<=9223372036854775807):bS aD nQa [.list 1 (ints l)] []=some (.bool true,[]):=by
 have n1:=Zk l;obtain⟨N,Es,a',n2,hG,hN,hE⟩:=TN l hl 9 (by omega) 0;have aw:=aw18;obtain⟨y1,y2,y3,y4,y5,y6,y7,y8,y9,ya,yb⟩:=bT l;rw[show ((9:Nat):Int)=9 from rfl] at n2;rw[fZ sQa (Nat.le_of_ble_eq_true rfl)];by_cases h0:N=0
 ·subst h0
  have e:Es=[]:=by
   cases Es with
   |nil=>rfl
   |cons x r=>
     have:=hG.2.2 x List.mem_cons_self;omega
  subst e;have cz:=Om;rw[show iQ []=[] from rfl] at n2;unfold dk at *;simp only[mB] at n1 n2;generalize ints l=l1 at *;unfold qQa cQa;simp[P5,P4,P3,P0,PZ,PY,PX,PW,PV,PU,Ic,Ib,Ia,H9,H8,n1,n2,cz,aw,y1,y2,y3,y4,y5,y6,y7,y8,y9,ya,yb,aN,cB,bU,ku,kK,fo,eC,pl,gQ,dh,kS,lQ,eU,eB,ye,rM,ir,gL,cT,ft,hU,nn,eV,mP,mQ,il,sQb,iQb,sQc,iQc,sQd,iQd,sQe,iQe]
 ·have hp:0<N:=by omega
  obtain⟨L,P,⟨hL,hH⟩,cr⟩:=Oo hG (by omega) hp (by omega);have n3:=qL l hl a' (N:Int) (by omega) [qa N (iQ Es)] (JU N (iQ Es));obtain⟨u0,u1⟩:=DW l a' (n:=(N:Int)) (by omega);obtain⟨u,hu⟩:∃u:Nat,DX l a' (N:Int)=(u:Int):=⟨(DX l a' (N:Int)).toNat,by omega⟩;rw[hu] at n3 u0 u1;have n4:=qL l hl (AJ l a' (N:Int)) (N:Int) (by omega) [qa N (iQ Es)] (JU N (iQ Es));obtain⟨v0,v1⟩:=DW l (AJ l a' (N:Int)) (n:=(N:Int)) (by omega);obtain⟨v,hv⟩:∃v:Nat,DX l (AJ l a' (N:Int)) (N:Int)=(v:Int):=⟨(DX l (AJ l a' (N:Int)) (N:Int)).toNat,by omega⟩;rw[hv] at n4 v0 v1;have huN:u<N:=by omega
  have hvN:v<N:=by omega
  have hN64:N<=64:=by omega
  have hS:=(xl hG).1;have hx:∀x∈L,x<=64:=fun x hx=>by have:=(Lh hL (xl hG).2.2 x hx).2; omega
  have hP:=hH.ok.len;have hs:=aes hH.ok;have fu:=G5 (u:Int) 64 P hP hs;have fv:=G5 (v:Int) 64 P hP hs;have sh:=Lv (u:Int) (v:Int) P hP hs;obtain⟨cu1,cu2,_⟩:=EB hN64 hL hx hH.ok huN;obtain⟨cv1,cv2,_⟩:=EB hN64 hL hx hH.ok hvN;have pu:=G4 P hP _ cu1 cu2;have pv:=G4 P hP _ cv1 cv2;have pl:=HX hS hN64 hL hx hH huN hvN;have lu:=AF P P.length (o7 P (rb P u 64) P.length 0 (-1));have lv:=AF P P.length (o7 P (rb P v 64) P.length 0 (-1));have mr:=Wg (fx P P.length (o7 P (rb P u 64) P.length 0 (-1))) (fx P P.length (o7 P (rb P v 64) P.length 0 (-1))) (by omega) (by omega);generalize o7 P (rb P u 64) P.length 0 (-1)=fU at *;generalize o7 P (rb P v 64) P.length 0 (-1)=fV at *
  have lB:(meet (fx P P.length fU) (fx P P.length fV)).length<=900:=by
   obtain⟨mu,mm⟩:=nA (fx P P.length fU) (fx P P.length fV);have:=D7 (mu.imp fun{a b} h=>by omega) fun x hx=>((mm x).1 hx).1;omega
  generalize meet (fx P P.length fU) (fx P P.length fV)=B at *;generalize o7 P (Eo P u v) P.length 0 (-1)=a at *;obtain⟨g1,g2,g3,g4,g5,g6,g7,g8⟩:=Eh P;obtain⟨b1,b2,b3,b4,b5,b6,b7,b8,b9,ba,bb⟩:=bT B;obtain⟨c1,c2,c3,c4,c5,c6,c7,c8,c9,ca,cb⟩:=bT (fx P P.length fU);obtain⟨d1,d2,d3,d4,d5,d6,d7,d8,d9,da,db⟩:=bT (fx P P.length fV);have hr:=RI a B (by omega);have lBi:=ah B;have ll:(P.map en).length=P.length:=List.length_map _;have nz1:¬(N:Int)=0:=by omega
  clear hH hL hx hG hS;unfold dk at *;simp only[mB] at n1 n2;generalize P.map en=Pv at *;generalize ints (fx P P.length fU)=I1 at *;generalize ints (fx P P.length fV)=I2 at *;generalize iQ Es=Y at *;generalize ints l=l1 at *;rcases pl with⟨e1,e2⟩|⟨e1,e2,e3⟩
  ·subst e1;subst e2;rw[show ints []=[] from rfl] at *;unfold qQa cQa;simp[P5,P4,P3,P0,PZ,PY,PX,PW,PV,PU,Ic,Ib,Ia,H9,H8,n1,n2,n3,n4,cr,fu,fv,sh,pu,pv,mr,hr,lBi,ll,nz1,h0,aw,g1,g2,g3,g4,g5,g6,g7,g8,b1,b2,b3,b4,b5,b6,b7,b8,b9,ba,bb,c1,c2,c3,c4,c5,c6,c7,c8,c9,ca,cb,d1,d2,d3,d4,d5,d6,d7,d8,d9,da,db,y1,y2,y3,y4,y5,y6,y7,y8,y9,ya,yb,aN,cB,bU,ku,kK,fo,eC,pl,gQ,dh,kS,lQ,eU,eB,ye,rM,ir,gL,cT,ft,hU,nn,eV,mP,mQ,il,sQb,iQb,sQc,iQc,sQf,iQf,sQd,iQd,sQg,iQg,sQi,iQi,sQh,iQh,sQj,iQj,sQk,iQk,sQe,iQe]
  ·have q1:¬a<0:=by omega
   rw[decide_eq_true e2] at hr;have lp:0<B.length:=List.length_pos_of_mem e2;obtain⟨m,hm⟩:∃m,B.length=m+1:=⟨B.length-1,by omega⟩;rw[hm] at lBi e3 lB;rw[Nat.add_sub_cancel] at e3
   have g9:(ints B)[m]?=some (.int .i64 a):=by
    unfold ints;rw[List.getElem?_map,e3]; rfl
   have ZU:m<(ints B).length:=by omega
   have g9':∀h,(ints B)[m]'h=.int .i64 a:=fun h=>by
    rw[List.getElem?_eq_getElem h] at g9;exact bJ g9
   have wm:IntKind.i64.wrap ((m:Int)+1-1)=(m:Int):=by rw[show (m:Int)+1-1=m by omega]; exact qc (by omega) (by omega)
   have wm2:IntKind.i64.wrap (m:Int)=(m:Int):=qc (by omega) (by omega);have im:(m:Int)<(m:Int)+1:=by omega
   clear e3;generalize ints B=IB at *;unfold qQa cQa;simp[P5,P4,P3,P0,PZ,PY,PX,PW,PV,PU,Ic,Ib,Ia,H9,H8,n1,n2,n3,n4,cr,fu,fv,sh,pu,pv,mr,hr,lBi,ll,nz1,h0,q1,g9,g9',ZU,wm,wm2,im,aw,g1,g2,g3,g4,g5,g6,g7,g8,b1,b2,b3,b4,b5,b6,b7,b8,b9,ba,bb,c1,c2,c3,c4,c5,c6,c7,c8,c9,ca,cb,d1,d2,d3,d4,d5,d6,d7,d8,d9,da,db,y1,y2,y3,y4,y5,y6,y7,y8,y9,ya,yb,idx,aN,cB,bU,ku,kK,fo,eC,pl,gQ,dh,kS,lQ,eU,eB,ye,rM,ir,gL,cT,ft,hU,nn,eV,mP,mQ,il,sQb,iQb,sQc,iQc,sQf,iQf,sQd,iQd,sQg,iQg,sQi,iQi,sQh,iQh,sQj,iQj,sQk,iQk,sQe,iQe]
end Go.BmP
