/- hierarchy.Find. -/
import Derived.Test.YtpimmjklbakckaaGreatDoorHcX
set_option linter.unusedSimpArgs false
set_option linter.unusedVariables false
set_option maxRecDepth 100000
set_option maxHeartbeats 8000000
open List renaming getD_eq_getElem?_getD → aH, getElem?_eq_getElem → aq, getElem_mem → nP, length_map → cN, length_take → bj
open Nat renaming le_of_ble_eq_true → aF
open Option.some renaming inj → bK
namespace Go.BmP
open Go.Am Go.Bm
def hF (x lv:Int):Heap:=[some [.int .i64 x],some [.int .i64 lv]]
def hF3 (x lv:Int) (p:Pt):Heap:=[some [.int .i64 x],some [.int .i64 lv],some [.int .i64 p.1,.int .i64 p.2.1,.list 1 (ints p.2.2)]]
theorem Wz (x lv:Int) (p:Pt) (hp:p.2.2.length<=100000):bU aC nQw [dZ p,.ptr 1 0,.ptr 0 0] (hF3 x lv p)=some (.bool (decide (p.1<=lv)&&decide (x∈p.2.2)),hF3 x lv p):=by
 obtain⟨a,b,s⟩:=p;have nh:=YN x s (by simp at hp; omega);obtain⟨b1,b2,b3,b4,b5,b6,b7,b8,b9,ba,bb⟩:=bM s;rw[fK sQw (aF rfl)];unfold hF3 dZ;simp only;generalize decide (x∈s)=D at *;generalize ints s=S1 at *;unfold qQw cQw;by_cases q:a<=lv
 ·simp[XS,XR,nh,q,b1,b2,b3,b4,b5,b6,b7,b8,b9,ba,bb,An,aJ,zi,cc,bR,sW,lN,fI,eE,pl,iu,dD,lV,mO,fy,eX,dn,gn,ja,rh,fD,qR,o7,iX,sQx,iQx]
 ·simp[XS,XR,nh,q,b1,b2,b3,b4,b5,b6,b7,b8,b9,ba,bb,An,aJ,zi,cc,bR,sW,lN,fI,eE,pl,iu,dD,lV,mO,fy,eX,dn,gn,ja,rh,fD,qR,o7,iX,sQx,iQx]
def K1:AV:=.func (.func nQw) [] [.ptr 1 0,.ptr 0 0]
def Ib (x lv:Int) (Pv:List AV) (n:Nat) (a:Int) (i:Int) (J:Env):St:=⟨(0,.list 3 Pv)::(1,K1)::(5,.int .i64 a)::(8,.list 3 Pv)::(9,.int .i64 n)::(10,.int .i64 i)::J,hF x lv⟩
theorem BT (P:List Pt) (i:Nat) (hi:i<P.length):(P.map dZ)[i]?=some (.agg [.int .i64 (nS P i),.int .i64 (kJ P i),.list 1 (ints (bZ P i))]):=by
 unfold nS kJ bZ;rw[List.getElem?_map,aH,aq hi];rfl
theorem aas (x lv:Int) (P:List Pt) (hP:P.length<=900) (hs:∀j,(bZ P j).length<=64) (i:Nat) (hi:i<P.length) (a:Int) (ha:a=-1\/(0<=a/\a<i)) :
  bg aC 2 Dr (Ib x lv (P.map dZ) P.length a i [])=some (.normal,Ib x lv (P.map dZ) P.length (Rh P (HD P x lv) a i) (i+1:Nat) []):=by
 have k1:(i:Int)<P.length:=by omega
 have hw:=eO (i:=i) (by omega);have g3:=BT P i hi;have ll:(P.map dZ).length=P.length:=cN _;have bQ:i<(P.map dZ).length:=by omega
 have g4:∀h,(P.map dZ)[i]'h=.agg [.int .i64 (nS P i),.int .i64 (kJ P i),.list 1 (ints (bZ P i))]:=fun h=>by
  rw[aq h] at g3;exact bK g3
 have fr:=Wz x lv (nS P i,kJ P i,bZ P i) (by have:=hs i; simp; omega);have ek:(decide (nS P i<=lv)&&decide (x∈bZ P i))=HD P x lv i:=rfl;obtain⟨b1,b2,b3,b4,b5,b6,b7,b8,b9,ba,bb⟩:=bM (bZ P i);unfold hF3 dZ at fr;simp only[ek] at fr;cases hk:HD P x lv i with
 |false=>
   have e:Rh P (HD P x lv) a i=a:=by unfold Rh; rw[hk]; rfl
   rw[e];rw[hk] at fr;unfold Ib hF K1;generalize P.map dZ=Pv at *;generalize ints (bZ P i)=S1 at *;generalize nS P i=l1 at *;unfold Dr;simp[E6,E5,E4,E3,E0,EZ,EY,EX,EW,k1,hw,g3,g4,ll,bQ,hi,fr,b1,b2,b3,b4,b5,b6,b7,b8,b9,ba,bb,idx,An,aJ,zi,bR,sW,lN,fI,eE,pl,iu,dD,lV,mO,fy,eX,dn,gn,ja,rh,fD,qR,o7,iX,sQw,iQw]
 |true=>
   rw[hk] at fr;by_cases q:a<0
   ·have e:Rh P (HD P x lv) a i=i:=by unfold Rh; rw[hk]; simp[q]
    rw[e];unfold Ib hF K1;generalize P.map dZ=Pv at *;generalize ints (bZ P i)=S1 at *;generalize nS P i=l1 at *;unfold Dr;simp[E6,E5,E4,E3,E0,EZ,EY,EX,EW,k1,hw,g3,g4,ll,bQ,hi,fr,q,b1,b2,b3,b4,b5,b6,b7,b8,b9,ba,bb,idx,An,aJ,zi,bR,sW,lN,fI,eE,pl,iu,dD,lV,mO,fy,eX,dn,gn,ja,rh,fD,qR,o7,iX,sQw,iQw]
   ·have a0:0<=a:=by omega
    have ai:a<i:=by omega
    have an:a.toNat<P.length:=by omega
    have f3:=BT P a.toNat an;have flt:a.toNat<(P.map dZ).length:=by omega
    have f4:∀h,(P.map dZ)[a.toNat]'h=.agg [.int .i64 (nS P a.toNat),.int .i64 (kJ P a.toNat),.list 1 (ints (bZ P a.toNat))]:=fun h=>by
     rw[aq h] at f3;exact bK f3
    have aP:a<(P.length:Int):=by omega
    by_cases z:nS P a.toNat<=nS P i
    ·have e:Rh P (HD P x lv) a i=i:=by unfold Rh; rw[hk]; simp[z]
     rw[e];unfold Ib hF K1;generalize P.map dZ=Pv at *;generalize ints (bZ P i)=S1 at *;generalize nS P i=l1 at *;generalize Z8:a.toNat=pn at *;generalize ints (bZ P pn)=S3 at *;generalize nS P pn=l3 at *;unfold Dr;simp[E6,E5,E4,E3,E0,EZ,EY,EX,EW,k1,hw,g3,g4,ll,bQ,hi,fr,q,a0,ai,an,f3,f4,flt,aP,z,Z8,b1,b2,b3,b4,b5,b6,b7,b8,b9,ba,bb,idx,An,aJ,zi,bR,sW,lN,fI,eE,pl,iu,dD,lV,mO,fy,eX,dn,gn,ja,rh,fD,qR,o7,iX,sQw,iQw]
    ·have e:Rh P (HD P x lv) a i=a:=by unfold Rh; rw[hk]; simp[z,q]
     rw[e];unfold Ib hF K1;generalize P.map dZ=Pv at *;generalize ints (bZ P i)=S1 at *;generalize nS P i=l1 at *;generalize Z8:a.toNat=pn at *;generalize ints (bZ P pn)=S3 at *;generalize nS P pn=l3 at *;unfold Dr;simp[E6,E5,E4,E3,E0,EZ,EY,EX,EW,k1,hw,g3,g4,ll,bQ,hi,fr,q,a0,ai,an,f3,f4,flt,aP,z,Z8,b1,b2,b3,b4,b5,b6,b7,b8,b9,ba,bb,idx,An,aJ,zi,bR,sW,lN,fI,eE,pl,iu,dD,lV,mO,fy,eX,dn,gn,ja,rh,fD,qR,o7,iX,sQw,iQw]
theorem UK (x lv:Int) (P:List Pt) (hP:P.length<=900) (hs:∀j,(bZ P j).length<=64):∀(n i:Nat) (a:Int),i+n=P.length->(a=-1\/(0<=a/\a<i)) ->
  bg aC 2 (.loop Dr) (Ib x lv (P.map dZ) P.length a i [])=some (.exit 0,Ib x lv (P.map dZ) P.length (La P (HD P x lv) n i a) P.length [(11,.bool false)])
 |0,i,a,hi,ha=>by
   obtain rfl:i=P.length:=by omega
   refine bI ?_;have e:La P (HD P x lv) 0 P.length a=a:=rfl;rw[e];unfold Ib hF K1;generalize P.map dZ=Pv at *;unfold Dr;simp[E6,E5,E4,E3,E0,EZ,EY,EX,EW]
 |n+1,i,a,hi,ha=>(bk (aas x lv P hP hs i (by omega) a ha)).trans (UK x lv P hP hs n (i+1) (Rh P (HD P x lv) a i) (by omega) (by
   unfold Rh;split
   ·right; omega
   ·rcases ha with h|h
    ·exact .inl h
    ·right; omega))
theorem Wq (x lv:Int) (P:List Pt) (hP:P.length<=900) (hs:∀j,(bZ P j).length<=64):bU aC nQi [.list 3 (P.map dZ),.int .i64 x,.int .i64 lv] []=some (.int .i64 (La P (HD P x lv) P.length 0 (-1)),[]):=by
 have lp:=UK x lv P hP hs P.length 0 (-1) (by omega) (.inl rfl);have ll:(P.map dZ).length=P.length:=cN _
 have br:bU aC nQv [.list 3 (P.map dZ),K1] (hF x lv)=some (.int .i64 (La P (HD P x lv) P.length 0 (-1)),hF x lv):=by
  rw[fK sQv (aF rfl)];unfold Ib hF K1 at *;simp only[jJ] at lp;generalize La P (HD P x lv) P.length 0 (-1)=z at *;generalize P.map dZ=Pv at *;unfold qQv cQv;simp[E6,E5,E4,E3,E0,EZ,EY,EX,EW,lp,ll,An,aJ,zi,cc,bR,sW,lN,fI,eE,pl,iu,dD,lV,mO,fy,eX,dn,gn,ja,rh,fD,qR,o7,iX]
 rw[fK sQi (aF rfl)];obtain⟨g1,g2,g3,g4,g5,g6,g7,g8⟩:=Gm P;unfold hF K1 at *;generalize La P (HD P x lv) P.length 0 (-1)=z at *;generalize P.map dZ=Pv at *;unfold qQi cQi;simp[ac2,ac1,br,ll,g1,g2,g3,g4,g5,g6,g7,g8,An,aJ,zi,cc,bR,sW,lN,fI,eE,pl,iu,dD,lV,mO,fy,eX,dn,gn,ja,rh,fD,qR,o7,iX,sQv,iQv]
/- HierarchyNests: what is asked of a part. -/
theorem Co {A:List Nat} {N:Nat} {L:List Int} {P:List Pt} (h:OU A N L P) (j:Nat):(bZ P j).length<=64:=by
 by_cases q:j<P.length
 ·obtain⟨_,R,_,_,_,e⟩:=h.lv j q;rw[e]; exact tJ R
 ·unfold bZ;rw[aH,List.getElem?_eq_none (by omega)];exact Nat.zero_le _
def nyE (Pv L1:List AV) (n i:Nat) (J:Env):Env:=(3,.ptr 1 0)::(4,.list 3 Pv)::(6,.list 1 L1)::(9,.ptr 2 0)::(34,.list 3 Pv)::(35,.int .i64 n)::(36,.int .i64 i)::J
def nyH (Z:List Int) (a:Nat) (N:Nat) (Y:List AV) (P:List Pt) (i:Nat):Heap:=[some [.list 1 (ints Z),.int .i64 a],my N Y,some [.int .i64 (nS P i),.int .i64 (kJ P i),.list 1 (ints (bZ P i))]]
def Qd (Z:List Int) (a:Nat) (N:Nat) (Y:List AV) (P:List Pt) (L1:List AV) (i j:Nat) (J:Env):St:=⟨nyE (P.map dZ) L1 P.length i ((89,.list 3 ((P.map dZ).take i))::(90,.int .i64 i)::(91,.int .i64 j)::J),nyH Z a N Y P i⟩
theorem YG (Z:List Int) (a:Nat) {A:List Nat} {N:Nat} {L:List Int} {P:List Pt} (hS:D3 A) (h:OU A N L P) (Y:List AV) (i:Nat) (hi:i<P.length) (j:Nat) (hj:j<i) :
  bg aC 0 Nz (Qd Z a N Y P (ints L) i j [])=some (.normal,Qd Z a N Y P (ints L) i (j+1) []):=by
 have hP:=h.len;have k1:(j:Int)<i:=by omega
 have hw:=eO (i:=j) (by omega);have lt:((P.map dZ).take i).length=i:=by rw[bj,cN]; omega
 have bQ:j<((P.map dZ).take i).length:=by omega
 have g3:((P.map dZ).take i)[j]?=some (.agg [.int .i64 (nS P j),.int .i64 (kJ P j),.list 1 (ints (bZ P j))]):=by
  rw[List.getElem?_take,if_pos hj]; exact BT P j (by omega)
 have g4:∀h,((P.map dZ).take i)[j]'h=.agg [.int .i64 (nS P j),.int .i64 (kJ P j),.list 1 (ints (bZ P j))]:=fun h=>by
  rw[aq h] at g3;exact bK g3
 have s1:=Co h i;have s2:=Co h j;have mr:=Ge (bZ P i) (bZ P j) (by omega) (by omega);have lm:=ah (meet (bZ P i) (bZ P j));have li:=ah (bZ P i);have two:=ZB hS h hj hi
 have key:(meet (bZ P i) (bZ P j)).length=0\/(0<(meet (bZ P i) (bZ P j)).length/\(meet (bZ P i) (bZ P j)).length=(bZ P i).length):=by
  rcases two with e|e
  ·left; rw[e]; rfl
  ·rw[e]; omega
 obtain⟨b1,b2,b3,b4,b5,b6,b7,b8,b9,ba,bb⟩:=bM (bZ P i);obtain⟨c1,c2,c3,c4,c5,c6,c7,c8,c9,ca,cb⟩:=bM (bZ P j);obtain⟨d1,d2,d3,d4,d5,d6,d7,d8,d9,da,db⟩:=bM (meet (bZ P i) (bZ P j));clear two;obtain⟨z1,z2,z3,z4,z5,z6,z7,z8,z9,za,zb⟩:=bM Z;unfold Qd nyE nyH my;generalize ints Z=Zl at *;generalize (P.map dZ).take i=Pi at *;generalize P.map dZ=Pv at *;generalize ints (meet (bZ P i) (bZ P j))=S3 at *;generalize (meet (bZ P i) (bZ P j)).length=ml at *;generalize ints (bZ P i)=S1 at *;generalize ints (bZ P j)=S2 at *;generalize (bZ P i).length=sl at *;generalize ints L=L1 at *;unfold Nz;rcases key with q|⟨q1,q2⟩
 ·subst q;simp[uZ,uY,uX,uW,uV,uU,uT,uS,uR,uQ,p9,p8,p7,pZ,pY,pX,pW,pT,pS,pR,pQ,pP,pO,pN,pK,pJ,pI,pH,pG,pF,pE,pD,pB,pz,py,px,k1,hw,g3,g4,lt,bQ,mr,lm,li,b1,b2,b3,b4,b5,b6,b7,b8,b9,ba,bb,c1,c2,c3,c4,c5,c6,c7,c8,c9,ca,cb,d1,d2,d3,d4,d5,d6,d7,d8,d9,da,db,z1,z2,z3,z4,z5,z6,z7,z8,z9,za,zb,idx,aJ,lN,fI,eE,pl,iu,dD,lV,mO,fy,eX,dn,gn,ja,rh,fD,qR,o7,iX,sQg,iQg]
 ·subst q2;have q3:(0:Int)<ml:=by omega
  simp[uZ,uY,uX,uW,uV,uU,uT,uS,uR,uQ,p9,p8,p7,pZ,pY,pX,pW,pT,pS,pR,pQ,pP,pO,pN,pK,pJ,pI,pH,pG,pF,pE,pD,pB,pz,py,px,k1,hw,g3,g4,lt,bQ,mr,lm,li,q1,q3,b1,b2,b3,b4,b5,b6,b7,b8,b9,ba,bb,c1,c2,c3,c4,c5,c6,c7,c8,c9,ca,cb,d1,d2,d3,d4,d5,d6,d7,d8,d9,da,db,z1,z2,z3,z4,z5,z6,z7,z8,z9,za,zb,idx,aJ,lN,fI,eE,pl,iu,dD,lV,mO,fy,eX,dn,gn,ja,rh,fD,qR,o7,iX,sQg,iQg]
theorem TH (Z:List Int) (a:Nat) {A:List Nat} {N:Nat} {L:List Int} {P:List Pt} (hS:D3 A) (h:OU A N L P) (Y:List AV) (i:Nat) (hi:i<P.length):∀(n j:Nat),j+n=i ->
  bg aC 0 (.loop Nz) (Qd Z a N Y P (ints L) i j [])=some (.exit 2,Qd Z a N Y P (ints L) i i [(92,.bool false)])
 |0,j,hj=>by
   obtain rfl:j=i:=by omega
   refine bI ?_;obtain⟨z1,z2,z3,z4,z5,z6,z7,z8,z9,za,zb⟩:=bM Z;unfold Qd nyE nyH my;generalize ints Z=Zl at *;generalize (P.map dZ).take j=Pi at *;generalize P.map dZ=Pv at *;generalize ints (bZ P j)=S1 at *;generalize ints L=L1 at *;unfold Nz;simp[uZ,uY,uX,uW,uV,uU,uT,uS,uR,uQ,p9,p8,p7,pZ,pY,pX,pW,pT,pS,pR,pQ,pP,pO,pN,pK,pJ,pI,pH,pG,pF,pE,pD,pB,pz,py,px]
 |n+1,j,hj=>(bk (YG Z a hS h Y i hi j (by omega))).trans (TH Z a hS h Y i hi n (j+1) (by omega))
def Qf (Z:List Int) (a:Nat) (N:Nat) (Y:List AV) (P:List Pt) (L1:List AV) (i j:Nat) (J:Env):St:=⟨nyE (P.map dZ) L1 P.length i ((112,.list 1 (ints (bZ P i)))::(113,.int .i64 (bZ P i).length)::(114,.int .i64 j)::J),nyH Z a N Y P i⟩
theorem YI (Z:List Int) (a:Nat) {N:Nat} {Es:List Ed} (hG:vW (N:Int) Es) (hE:Es.length<1000000) {L:List Int} {P:List Pt} (hL:nj (ft N Es) N L) (h:OU (ft N Es) N L P) (i:Nat) (hi:i<P.length) (j:Nat) (hj:j<(bZ P i).length) :
  bg aC 0 Ny (Qf Z a N (fi Es) P (ints L) i j [])=some (.normal,Qf Z a N (fi Es) P (ints L) i (j+1) []):=by
 have hN:N<=64:=by have:=hG.1.2; omega
 have hP:=h.len;have s1:=Co h i;have k1:(j:Int)<(bZ P i).length:=by omega
 have hw:=eO (i:=j) (by omega);have li:=ah (bZ P i)
 obtain⟨v,hv⟩:∃v:Nat,(bZ P i)[j]=(v:Int):=by
  obtain⟨_,R,_,_,_,e⟩:=h.lv i hi;have hm:(bZ P i)[j]∈cz R:=by rw[<-e]; exact nP hj
  obtain⟨u,hu,_⟩:=ff.1 hm;exact⟨u,hu⟩
 have hvm:(v:Int)∈bZ P i:=by rw[<-hv]; exact nP hj
 have hvN:v<N:=by have:=(KK h hi hvm).1; have:=hL.1; omega
 have g4:∀h,(ints (bZ P i))[j]'h=.int .i64 (v:Int):=fun h=>by rw[bm,hv]
 have g3:(ints (bZ P i))[j]?=some (.int .i64 (v:Int)):=by rw[aq (by omega),g4]
 have nr:=wN hG hE (v:=(v:Int)) (by omega) (by omega);have eb:cz ((ft N Es).getD v 0)=yF N Es v:=UL hG hvN;have dg:=abM hN hL h hi hvm;rw[eb] at dg;have lb:(yF N Es (v:Int)).length<=64:=by rw[<-eb]; exact tJ _
 have mr:=Ge (yF N Es (v:Int)) (bZ P i) (by omega) (by omega);have lm:=ah (meet (yF N Es (v:Int)) (bZ P i));have q:¬((meet (yF N Es (v:Int)) (bZ P i)).length:Int)<nS P i:=by omega
 obtain⟨b1,b2,b3,b4,b5,b6,b7,b8,b9,ba,bb⟩:=bM (bZ P i);obtain⟨c1,c2,c3,c4,c5,c6,c7,c8,c9,ca,cb⟩:=bM (yF N Es (v:Int));obtain⟨d1,d2,d3,d4,d5,d6,d7,d8,d9,da,db⟩:=bM (meet (yF N Es (v:Int)) (bZ P i));clear dg hv hvm eb;obtain⟨z1,z2,z3,z4,z5,z6,z7,z8,z9,za,zb⟩:=bM Z;unfold Qf nyE nyH my;generalize ints Z=Zl at *;generalize P.map dZ=Pv at *;generalize ints (meet (yF N Es (v:Int)) (bZ P i))=S3 at *;generalize (meet (yF N Es (v:Int)) (bZ P i)).length=ml at *;generalize ints (yF N Es (v:Int))=S2 at *;generalize ints (bZ P i)=S1 at *;generalize (bZ P i).length=sl at *;generalize ints L=L1 at *;generalize fi Es=Y at *;unfold Ny;simp[uZ,uY,uX,uW,uV,uU,uT,uS,uR,uQ,p9,p8,p7,pZ,pY,pX,pW,pT,pS,pR,pQ,pP,pO,pN,pK,pJ,pI,pH,pG,pF,pE,pD,pB,pz,py,px,k1,hj,hw,g3,g4,li,mr,nr,lm,q,b1,b2,b3,b4,b5,b6,b7,b8,b9,ba,bb,c1,c2,c3,c4,c5,c6,c7,c8,c9,ca,cb,d1,d2,d3,d4,d5,d6,d7,d8,d9,da,db,z1,z2,z3,z4,z5,z6,z7,z8,z9,za,zb,idx,aJ,lN,fI,eE,pl,iu,dD,lV,mO,fy,eX,dn,gn,ja,rh,fD,qR,o7,iX,sQg,iQg,sQh,iQh]
theorem TJ (Z:List Int) (a:Nat) {N:Nat} {Es:List Ed} (hG:vW (N:Int) Es) (hE:Es.length<1000000) {L:List Int} {P:List Pt} (hL:nj (ft N Es) N L) (h:OU (ft N Es) N L P) (i:Nat) (hi:i<P.length):∀(n j:Nat),j+n=(bZ P i).length ->
  bg aC 0 (.loop Ny) (Qf Z a N (fi Es) P (ints L) i j [])=some (.exit 4,Qf Z a N (fi Es) P (ints L) i (bZ P i).length [(115,.bool false)])
 |0,j,hj=>by
   obtain rfl:j=(bZ P i).length:=by omega
   refine bI ?_;obtain⟨z1,z2,z3,z4,z5,z6,z7,z8,z9,za,zb⟩:=bM Z;unfold Qf nyE nyH my;generalize ints Z=Zl at *;generalize P.map dZ=Pv at *;generalize ints (bZ P i)=S1 at *;generalize (bZ P i).length=sl at *;generalize ints L=L1 at *;generalize fi Es=Y at *;unfold Ny;simp[uZ,uY,uX,uW,uV,uU,uT,uS,uR,uQ,p9,p8,p7,pZ,pY,pX,pW,pT,pS,pR,pQ,pP,pO,pN,pK,pJ,pI,pH,pG,pF,pE,pD,pB,pz,py,px]
 |n+1,j,hj=>(bk (YI Z a hG hE hL h i hi j (by omega))).trans (TJ Z a hG hE hL h i hi n (j+1) (by omega))
/- HierarchyNests: all parts, all numbers. -/
def MS (Z:List Int) (a:Nat) (N:Nat) (Y Pv L1:List AV) (n i:Nat) (J:Env):St:=⟨(3,.ptr 1 0)::(4,.list 3 Pv)::(6,.list 1 L1)::(34,.list 3 Pv)::(35,.int .i64 n)::(36,.int .i64 i)::J,[some [.list 1 (ints Z),.int .i64 a],my N Y]⟩
theorem YH (Z:List Int) (a:Nat) {N:Nat} {Es:List Ed} (hG:vW (N:Int) Es) (hE:Es.length<1000000) {L:List Int} {P:List Pt} (hL:nj (ft N Es) N L) (h:OU (ft N Es) N L P) (i:Nat) (hi:i<P.length) :
  bg aC 0 Jl (MS Z a N (fi Es) (P.map dZ) (ints L) P.length i [])=some (.normal,MS Z a N (fi Es) (P.map dZ) (ints L) P.length (i+1) []):=by
 have hS:=(yx hG).1;have hP:=h.len;have k1:(i:Int)<P.length:=by omega
 have hw:=eO (i:=i) (by omega);have ll:(P.map dZ).length=P.length:=cN _;have bQ:i<(P.map dZ).length:=by omega
 have lt:((P.map dZ).take i).length=i:=by rw[bj,cN]; omega
 have g3:=BT P i hi
 have g4:∀h,(P.map dZ)[i]'h=.agg [.int .i64 (nS P i),.int .i64 (kJ P i),.list 1 (ints (bZ P i))]:=fun h=>by
  rw[aq h] at g3;exact bK g3
 have Wc:=TH Z a hS h (fi Es) i hi i 0 (by omega);have W8:=TJ Z a hG hE hL h i hi (bZ P i).length 0 (by omega);have hle:i<=P.length:=by omega
 have li:=ah (bZ P i);have s1:=Co h i;obtain⟨b1,b2,b3,b4,b5,b6,b7,b8,b9,ba,bb⟩:=bM (bZ P i);obtain⟨y1,y2,y3,y4,y5,y6,y7,y8,y9,ya,yb⟩:=bM Z;unfold Qd nyE nyH my at Wc;unfold Qf nyE nyH my at W8;simp only[jJ] at Wc W8;rcases h.par i hi with q|q
 ·rw[q] at g3 g4 Wc W8;have q1:¬(i:Int)<=-1:=by omega
  clear h hL;unfold MS my;generalize ints Z=Zl at *;generalize P.map dZ=Pv at *;generalize ints (bZ P i)=S1 at *;generalize (bZ P i).length=sl at *;generalize ints L=L1 at *;generalize fi Es=Y at *;generalize nS P i=l1 at *;unfold Jl;simp[uZ,uY,uX,uW,uV,uU,uT,uS,uR,uQ,p9,p8,p7,pZ,pY,pX,pW,pT,pS,pR,pQ,pP,pO,pN,pK,pJ,pI,pH,pG,pF,pE,pD,pB,pz,py,px,k1,hi,hle,hw,ll,bQ,lt,g3,g4,Wc,W8,li,q1,b1,b2,b3,b4,b5,b6,b7,b8,b9,ba,bb,y1,y2,y3,y4,y5,y6,y7,y8,y9,ya,yb,idx,aJ,lN,fI,eE,pl,iu,dD,lV,mO,fy,eX,dn,gn,ja,rh,fD,qR,o7,iX]
 ·obtain⟨q0,q1,q2,q3⟩:=q;have hp:=abL hS h hi q0;have an:(kJ P i).toNat<P.length:=by omega
  have f3:=BT P (kJ P i).toNat an;have flt:(kJ P i).toNat<(P.map dZ).length:=by omega
  have f4:∀h,(P.map dZ)[(kJ P i).toNat]'h=.agg [.int .i64 (nS P (kJ P i).toNat),.int .i64 (kJ P (kJ P i).toNat),.list 1 (ints (bZ P (kJ P i).toNat))]:=fun h=>by
   rw[aq h] at f3;exact bK f3
  have aP:kJ P i<(P.length:Int):=by omega
  have z1:¬nS P i<=nS P (kJ P i).toNat:=by omega
  have z2:¬(i:Int)<=kJ P i:=by omega
  have z3:¬kJ P i < -1:=by omega
  have z5:¬((bZ P (kJ P i).toNat).length:Int)<=(bZ P i).length:=by omega
  have z6:¬(bZ P (kJ P i).toNat).length<=(bZ P i).length:=by omega
  have s2:=Co h (kJ P i).toNat;have wr:=PA (bZ P i) (bZ P (kJ P i).toNat) (by omega) (by omega);rw[show ((bZ P i).all fun x=>decide (x∈bZ P (kJ P i).toNat))=DP (bZ P i) (bZ P (kJ P i).toNat) from rfl,q3] at wr;have lj:=ah (bZ P (kJ P i).toNat);obtain⟨c1,c2,c3,c4,c5,c6,c7,c8,c9,ca,cb⟩:=bM (bZ P (kJ P i).toNat);clear h hL hp;unfold MS my;generalize ints Z=Zl at *;generalize P.map dZ=Pv at *;generalize Z8:(kJ P i).toNat=pn at *;generalize ints (bZ P pn)=S2 at *;generalize (bZ P pn).length=sm at *;generalize nS P pn=l2 at *;generalize kJ P i=pp at *;generalize ints (bZ P i)=S1 at *;generalize (bZ P i).length=sl at *;generalize ints L=L1 at *;generalize fi Es=Y at *;generalize nS P i=l1 at *;unfold Jl;simp[uZ,uY,uX,uW,uV,uU,uT,uS,uR,uQ,p9,p8,p7,pZ,pY,pX,pW,pT,pS,pR,pQ,pP,pO,pN,pK,pJ,pI,pH,pG,pF,pE,pD,pB,pz,py,px,k1,hi,hle,hw,ll,bQ,lt,g3,g4,f3,f4,flt,aP,z1,z2,z3,z5,z6,q0,Z8,an,wr,lj,Wc,W8,li,b1,b2,b3,b4,b5,b6,b7,b8,b9,ba,bb,c1,c2,c3,c4,c5,c6,c7,c8,c9,ca,cb,y1,y2,y3,y4,y5,y6,y7,y8,y9,ya,yb,idx,aJ,lN,fI,eE,pl,iu,dD,lV,mO,fy,eX,dn,gn,ja,rh,fD,qR,o7,iX,sQf,iQf]
theorem TI (Z:List Int) (a:Nat) {N:Nat} {Es:List Ed} (hG:vW (N:Int) Es) (hE:Es.length<1000000) {L:List Int} {P:List Pt} (hL:nj (ft N Es) N L) (h:OU (ft N Es) N L P):∀(n i:Nat),i+n=P.length ->
  bg aC 0 (.loop Jl) (MS Z a N (fi Es) (P.map dZ) (ints L) P.length i [])=some (.exit 0,MS Z a N (fi Es) (P.map dZ) (ints L) P.length P.length [(37,.bool false)])
 |0,i,hi=>by
   obtain rfl:i=P.length:=by omega
   refine bI ?_;unfold MS my;generalize ints Z=Zl at *;generalize P.map dZ=Pv at *;generalize ints L=L1 at *;generalize fi Es=Y at *;unfold Jl;simp[uZ,uY,uX,uW,uV,uU,uT,uS,uR,uQ,p9,p8,p7,pZ,pY,pX,pW,pT,pS,pR,pQ,pP,pO,pN,pK,pJ,pI,pH,pG,pF,pE,pD,pB,pz,py,px]
 |n+1,i,hi=>(bk (YH Z a hG hE hL h i (by omega))).trans (TI Z a hG hE hL h n (i+1) (by omega))
def Qc (Pv L1:List AV) (n i:Nat) (J:Env):St:=⟨(4,.list 3 Pv)::(130,.list 1 L1)::(131,.int .i64 n)::(132,.int .i64 i)::J,[]⟩
theorem YF {A:List Nat} {N:Nat} (hN:N<=64) {L:List Int} {P:List Pt} (hL:nj A N L) (hx:∀x∈L,x<=64) (h:OU A N L P) (i:Nat) (hi:i<N) :
  bg aC 0 Nx (Qc (P.map dZ) (ints L) N i [])=some (.normal,Qc (P.map dZ) (ints L) N (i+1) []):=by
 have hP:=h.len;have k1:(i:Int)<N:=by omega
 have hw:=eO (i:=i) (by omega);have ln:=hL.1;have bQ:i<L.length:=by omega
 have lL:=ah L;have g4:∀h,(ints L)[i]'h=.int .i64 L[i]:=fun h=>bm _ _ _;have g3:(ints L)[i]?=some (.int .i64 L[i]):=by rw[aq (by omega),g4]
 have fr:=Wq (i:Int) 64 P hP (Co h);obtain⟨f1,f2,f3⟩:=ZC hN hL hx h hi;have e:L.getD i 0=L[i]:=by rw[aH,aq bQ]; rfl
 rw[e] at f3;have ll:(P.map dZ).length=P.length:=cN _;generalize La P (HD P (i:Int) 64) P.length 0 (-1)=a at *;have an:a.toNat<P.length:=by omega
 have flt:a.toNat<(P.map dZ).length:=by omega
 have f4:=BT P a.toNat an
 have f5:∀h,(P.map dZ)[a.toNat]'h=.agg [.int .i64 (nS P a.toNat),.int .i64 (kJ P a.toNat),.list 1 (ints (bZ P a.toNat))]:=fun h=>by
  rw[aq h] at f4;exact bK f4
 rw[f3] at f4 f5;have a1:¬a<0:=by omega
 have a2:¬(P.length:Int)<=a:=by omega
 obtain⟨b1,b2,b3,b4,b5,b6,b7,b8,b9,ba,bb⟩:=bM L;obtain⟨g1',g2',g3',g4',g5',g6',g7',g8'⟩:=Gm P;clear h hL hx e f3;unfold Qc;generalize P.map dZ=Pv at *;generalize Z8:a.toNat=pn at *;generalize ints (bZ P pn)=S2 at *;generalize L[i]=z at *;generalize ints L=L1 at *;unfold Nx;simp[uZ,uY,uX,uW,uV,uU,uT,uS,uR,uQ,p9,p8,p7,pZ,pY,pX,pW,pT,pS,pR,pQ,pP,pO,pN,pK,pJ,pI,pH,pG,pF,pE,pD,pB,pz,py,px,k1,hi,hw,ll,lL,ln,bQ,g3,g4,fr,f1,f2,f4,f5,flt,an,Z8,a1,a2,b1,b2,b3,b4,b5,b6,b7,b8,b9,ba,bb,g1',g2',g3',g4',g5',g6',g7',g8',idx,aJ,lN,fI,eE,pl,iu,dD,lV,mO,fy,eX,dn,gn,ja,rh,fD,qR,o7,iX,sQi,iQi]
theorem TG {A:List Nat} {N:Nat} (hN:N<=64) {L:List Int} {P:List Pt} (hL:nj A N L) (hx:∀x∈L,x<=64) (h:OU A N L P):∀(n i:Nat),i+n=N ->
  bg aC 0 (.loop Nx) (Qc (P.map dZ) (ints L) N i [])=some (.exit 6,Qc (P.map dZ) (ints L) N N [(133,.bool false)])
 |0,i,hi=>by
   obtain rfl:i=N:=by omega
   refine bI ?_;unfold Qc;generalize P.map dZ=Pv at *;generalize ints L=L1 at *;unfold Nx;simp[uZ,uY,uX,uW,uV,uU,uT,uS,uR,uQ,p9,p8,p7,pZ,pY,pX,pW,pT,pS,pR,pQ,pP,pO,pN,pK,pJ,pI,pH,pG,pF,pE,pD,pB,pz,py,px]
 |n+1,i,hi=>(bk (YF hN hL hx h i (by omega))).trans (TG hN hL hx h n (i+1) (by omega))
/- HierarchyNests: the example of chapter 18, and the graph without nodes. -/
def isBH (b:Bool):Option (AV × Heap)->Bool
 |some (.bool c,[])=>b == c
 |_=>false
theorem abJ {b:Bool} {r:Option (AV × Heap)} (h:isBH b r=true):r=some (.bool b,[]):=by
 unfold isBH at h;split at h
 ·rw[eq_of_beq h]
 ·cases h
theorem afp:isBH true (kz aC 2000 nQj [] [])=true:=by kernel_rfl
theorem aw18:bU aC nQj [] []=some (.bool true,[]):=gL.2 ⟨2000,abJ afp⟩
def isT0:Option (AV × Heap)->Bool
 |some (.dF [.list 3 [],.int .i64 0],[])=>true
 |_=>false
theorem abH {r:Option (AV × Heap)} (h:isT0 r=true):r=some (.dF [.list 3 [],.int .i64 0],[]):=by
 unfold isT0 at h;split at h
 ·rfl
 ·cases h
theorem ahi:isT0 (kz aC 300 nQd [.agg [.int .i64 0,.list 2 []]] [])=true:=by kernel_rfl
theorem Q1:bU aC nQd [.agg [.int .i64 0,.list 2 []]] []=some (.dF [.list 3 [],.int .i64 0],[]):=gL.2 ⟨300,abH ahi⟩
end Go.BmP
