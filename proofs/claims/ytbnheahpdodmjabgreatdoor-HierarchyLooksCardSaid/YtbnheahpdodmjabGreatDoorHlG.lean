/- HierarchyLooks: the inner loop: what is found in a list of parts by four numbers. -/
import Derived.Test.YtbnheahpdodmjabGreatDoorHlD
set_option linter.unusedSimpArgs false
set_option linter.unusedVariables false
set_option maxRecDepth 100000
set_option maxHeartbeats 16000000
open List renaming getElem?_eq_getElem → aj, length_map → aX
open Nat renaming le_of_ble_eq_true → au
open Option.some renaming inj → bj
namespace Go.BmP
open Go.Am Go.Bm
abbrev Qd:=Int × Int × Int × Int
def qdV (c:Qd):AV:=.agg [.int .i64 c.1,.int .i64 c.2.1,.int .i64 c.2.2.1,.int .i64 c.2.2.2]
def XN (Zv Av Bv Pv Lv:List AV) (x y lv at':Int) (j:Nat) (Cs:List Qd) (k:Nat) (l:List Int) (a:Nat) (J:Env):St:=
 ⟨(0,.list 3 Zv)::(2,.int .i64 x)::(3,.int .i64 y)::(4,.int .i64 lv)::(5,.int .i64 at')::(15,.ptr 0 0)::(16,.list 3 Av)::(18,.list 3 Bv)::(21,.list 3 Pv)::(62,.own 1 Lv)::(63,.int .i64 2)::(64,.int .i64 j)::(86,.own 4 (Cs.map qdV))::(87,.int .i64 Cs.length)::(88,.int .i64 k)::J,[dk l a]⟩
theorem afY (Zv Av Bv Lv:List AV) (P:List Pt) (hF:sS P) (x y lv at':Int) (j:Nat) (Cs:List Qd) (hC:Cs.length<=100) (k:Nat) (hk:k<Cs.length) (l:List Int) (a:Nat) :
  aW aq 0 UJ (XN Zv Av Bv (P.map bw) Lv x y lv at' j Cs k l a [])=some (.normal,XN Zv Av Bv (P.map bw) Lv x y lv at' j Cs (k+1) l a []):=by
 have k1:(k:Int)<Cs.length:=by omega
 have hw:=dA (i:=k) (by omega);have lc:(Cs.map qdV).length=Cs.length:=aX _;have bE:k<(Cs.map qdV).length:=by omega
 have g3:(Cs.map qdV)[k]?=some (.agg [.int .i64 Cs[k].1,.int .i64 Cs[k].2.1,.int .i64 Cs[k].2.2.1,.int .i64 Cs[k].2.2.2]):=by rw[List.getElem?_map,aj hk]; rfl
 have g4:∀h,(Cs.map qdV)[k]'h=.agg [.int .i64 Cs[k].1,.int .i64 Cs[k].2.1,.int .i64 Cs[k].2.2.1,.int .i64 Cs[k].2.2.2]:=fun h=>by
  rw[aj h] at g3;exact bj g3
 have r1:=adg Cs[k].1 Cs[k].2.2.1 P hF.l hF.s;have r2:=ad7 Cs[k].1 Cs[k].2.2.1 P hF.l hF.s;have r3:=Vj Cs[k].1 Cs[k].2.1 P hF.l hF.s;have r4:=adY Cs[k].1 Cs[k].2.1 P hF.l hF.s;have r5:=adf P hF.l Cs[k].2.2.2;have r6:=acO P hF.l Cs[k].2.2.2;have r7:=agv P hF.l Cs[k].2.2.2;have r8:=aej P hF.l Cs[k].2.2.2;have r9:=vW (phA P Cs[k].2.2.2) (phA P Cs[k].2.2.2) (by have:=aa2 P Cs[k].2.2.2; have:=hF.l; omega) (by have:=aa2 P Cs[k].2.2.2; have:=hF.l; omega);have ra:=vW (chA P Cs[k].2.2.2) (chA P Cs[k].2.2.2) (by have:=acq P Cs[k].2.2.2; have:=hF.l; omega) (by have:=acq P Cs[k].2.2.2; have:=hF.l; omega);rw[decide_eq_true rfl] at r9 ra;obtain⟨a1,a2,a3,a4,a5,a6,a7,a8,a9,aa,ab⟩:=bg (phA P Cs[k].2.2.2);obtain⟨b1,b2,b3,b4,b5,b6,b7,b8,b9,ba,bb⟩:=bg (chA P Cs[k].2.2.2);obtain⟨d1,d2,d3,d4,d5,d6,d7,d8,d9,da,db⟩:=bg l;obtain⟨c1,c2,c3,c4,c5,c6,c7,c8⟩:=jf P;unfold XN dk;generalize MY P (DS P Cs[k].1 Cs[k].2.2.1) P.length 0 (-1)=z1 at *;generalize MY P (DT P Cs[k].1 Cs[k].2.1) P.length 0 (-1)=z2 at *;generalize ints (phA P Cs[k].2.2.2)=O1 at *;generalize ints (chA P Cs[k].2.2.2)=O2 at *;generalize ints l=L1 at *;generalize P.map bw=Pv at *;generalize Cs.map qdV=Cv at *;generalize Cs[k].1=q1 at *;generalize Cs[k].2.1=q2 at *;generalize Cs[k].2.2.1=q3 at *;generalize Cs[k].2.2.2=q4 at *;unfold UJ;simp[ub,ua,tZ,tY,tX,tW,tV,tU,tT,tS,ox,ot,oq,om,oi,oh,oe,od,ob,oa,n9,nZ,nY,nX,nW,nV,nU,nT,nS,nQ,nP,k1,hk,hw,lc,bE,g3,g4,r1,r2,r3,r4,r5,r6,r7,r8,r9,ra,a1,a2,a3,a4,a5,a6,a7,a8,a9,aa,ab,b1,b2,b3,b4,b5,b6,b7,b8,b9,ba,bb,c1,c2,c3,c4,c5,c6,c7,c8,d1,d2,d3,d4,d5,d6,d7,d8,d9,da,db,idx,aH,gn,kB,fW,dm,dc,pl,fx,cN,jD,jC,dn,de,bX,dB,eX,iH,dJ,iC,ke,fI,fz,FG,sQg,iQg,sQh,iQh,sQi,iQi,sQj,iQj,sQl,iQl,sQm,iQm,sQn,iQn,sQo,iQo,sQk,iQk]
theorem abD (Zv Av Bv Lv:List AV) (P:List Pt) (hF:sS P) (x y lv at':Int) (j:Nat) (Cs:List Qd) (hC:Cs.length<=100) (l:List Int) (a:Nat):∀(n k:Nat),k+n=Cs.length ->
  aW aq 0 (.loop UJ) (XN Zv Av Bv (P.map bw) Lv x y lv at' j Cs k l a [])=some (.exit 4,XN Zv Av Bv (P.map bw) Lv x y lv at' j Cs Cs.length l a [(89,.bool false)])
 |0,k,hk=>by
   obtain rfl:k=Cs.length:=by omega
   refine bn ?_;unfold XN dk;generalize P.map bw=Pv at *;generalize Cs.map qdV=Cv at *;generalize ints l=L1 at *;unfold UJ;simp[ub,ua,tZ,tY,tX,tW,tV,tU,tT,tS,ox,ot,oq,om,oi,oh,oe,od,ob,oa,n9,nZ,nY,nX,nW,nV,nU,nT,nS,nQ,nP]
 |n+1,k,hk=>(aS (afY Zv Av Bv Lv P hF x y lv at' j Cs hC k (by omega) l a)).trans (abD Zv Av Bv Lv P hF x y lv at' j Cs hC l a n (k+1) (by omega))
/- HierarchyLooks: the loops over the lists. -/
def XM (Zv Av Bv:List AV) (x y lv at':Int) (j:Nat) (l:List Int) (a:Nat) (J:Env):St:=
 ⟨(0,.list 3 Zv)::(2,.int .i64 x)::(3,.int .i64 y)::(4,.int .i64 lv)::(5,.int .i64 at')::(15,.ptr 0 0)::(16,.list 3 Av)::(18,.list 3 Bv)::(62,.own 1 [.list 3 Av,.list 3 Zv])::(63,.int .i64 2)::(64,.int .i64 j)::J,[dk l a]⟩
theorem Uv (A B Z:List Pt) (hA:sS A) (hZ:sS Z) (x y lv at':Int) (j:Nat) (hj:j<2) (P:List Pt) (hP:P=if j=0 then A else Z) (l:List Int) (hl:l.length<=9223372036854775807) (a:Nat) :
  ∃ a',aW aq 0 PJ (XM (Z.map bw) (A.map bw) (B.map bw) x y lv at' j l a [])=some (.normal,XM (Z.map bw) (A.map bw) (B.map bw) x y lv at' (j+1) l a' []):=by
 have hF:sS P:=by rw[hP]; split<;>assumption
 have hPl:=hF.l;have n1:=pE l hl a 8 (by omega) [] ⟨fun _=>rfl,rfl,fun _ _=>rfl,fun _=>rfl,fun _ _=>rfl⟩;have n2:=pE l hl (tx l a 8) 8 (by omega) [] ⟨fun _=>rfl,rfl,fun _ _=>rfl,fun _=>rfl,fun _ _=>rfl⟩;have n3:=pE l hl (tx l (tx l a 8) 8) 5 (by omega) [] ⟨fun _=>rfl,rfl,fun _ _=>rfl,fun _=>rfl,fun _ _=>rfl⟩;have n4:=pE l hl (tx l (tx l (tx l a 8) 8) 5) ((P.length:Int)+2) (by omega) [] ⟨fun _=>rfl,rfl,fun _ _=>rfl,fun _=>rfl,fun _ _=>rfl⟩;obtain⟨u0,u1⟩:=Rk l (tx l (tx l (tx l a 8) 8) 5) (n:=(P.length:Int)+2) (by omega);have w2:IntKind.i64.wrap ((P.length:Int)+2)=(P.length:Int)+2:=adE (j:=P.length+2) (by omega) (by omega);generalize Lw l a 8=v1 at *;generalize Lw l (tx l a 8) 8=v2 at *;generalize Lw l (tx l (tx l a 8) 8) 5=v3 at *;generalize Lw l (tx l (tx l (tx l a 8) 8) 5) ((P.length:Int)+2)=v4 at *;generalize tx l (tx l (tx l (tx l a 8) 8) 5) ((P.length:Int)+2)=a4 at *;generalize tx l (tx l (tx l a 8) 8) 5=a3 at *;generalize tx l (tx l a 8) 8=a2 at *;generalize tx l a 8=a1 at *;generalize hv5:IntKind.i64.wrap (v4-1)=v5 at *;have lo:=abD (Z.map bw) (A.map bw) (B.map bw) [.list 3 (A.map bw),.list 3 (Z.map bw)] P hF x y lv at' j [(x,y,lv,at'),(v1,v2,v3,v5)] (by simp) l a4 2 0 (by simp);refine⟨a4,?_⟩;have lP:(P.map bw).length=P.length:=aX _;have hw:=dA (i:=j) (by omega);have k1:(j:Int)<2:=by omega
 obtain⟨d1,d2,d3,d4,d5,d6,d7,d8,d9,da,db⟩:=bg l;obtain⟨e1,e2,e3,e4,e5,e6,e7,e8⟩:=jf A;obtain⟨f1,f2,f3,f4,f5,f6,f7,f8⟩:=jf Z;unfold XN dk qdV at lo;simp only[fH,List.map_cons,List.map_nil,List.length_cons,List.length_nil] at lo;rw[show ((0+1+1:Nat):Int)=2 from rfl] at lo;unfold dk at n1 n2 n3 n4;unfold XM dk;have SE:j=0\/j=1:=by omega
 rcases SE with rfl|rfl
 ·rw[if_pos rfl] at hP;subst hP;generalize P.map bw=Av at *;generalize Z.map bw=Zv at *;generalize B.map bw=Bv at *;generalize ints l=L1 at *;simp only[fH] at lo ⊢;unfold PJ;simp[ub,ua,tZ,tY,tX,tW,tV,tU,tT,tS,ox,ot,oq,om,oi,oh,oe,od,ob,oa,n9,nZ,nY,nX,nW,nV,nU,nT,nS,nQ,nP,lo,lP,n1,n2,n3,n4,w2,hv5,d1,d2,d3,d4,d5,d6,d7,d8,d9,da,db,e1,e2,e3,e4,e5,e6,e7,e8,f1,f2,f3,f4,f5,f6,f7,f8,idx,aH,gn,kB,ks,fW,dm,dc,pl,fx,cN,jD,jC,dn,de,bX,dB,eX,iH,dJ,iC,ke,fI,fz,FG,Iw,rep,sQf,iQf]
 ·rw[if_neg (by omega)] at hP;subst hP;generalize A.map bw=Av at *;generalize P.map bw=Zv at *;generalize B.map bw=Bv at *;generalize ints l=L1 at *;rw[show ((1:Nat):Int)=1 from rfl] at *;have w22:IntKind.i64.wrap 2=2:=rfl;unfold PJ;simp[ub,ua,tZ,tY,tX,tW,tV,tU,tT,tS,ox,ot,oq,om,oi,oh,oe,od,ob,oa,n9,nZ,nY,nX,nW,nV,nU,nT,nS,nQ,nP,w22,lo,lP,n1,n2,n3,n4,w2,hv5,d1,d2,d3,d4,d5,d6,d7,d8,d9,da,db,e1,e2,e3,e4,e5,e6,e7,e8,f1,f2,f3,f4,f5,f6,f7,f8,idx,aH,gn,kB,ks,fW,dm,dc,pl,fx,cN,jD,jC,dn,de,bX,dB,eX,iH,dJ,iC,ke,fI,fz,FG,Iw,rep,sQf,iQf]
theorem aiI (A B Z:List Pt) (hA:sS A) (hZ:sS Z) (x y lv at':Int) (l:List Int) (hl:l.length<=9223372036854775807) (a:Nat) :
  ∃ a',aW aq 0 (.loop PJ) (XM (Z.map bw) (A.map bw) (B.map bw) x y lv at' 0 l a [])=some (.exit 2,XM (Z.map bw) (A.map bw) (B.map bw) x y lv at' 2 l a' [(65,.bool false)]):=by
 obtain⟨a1,h1⟩:=Uv A B Z hA hZ x y lv at' 0 (by omega) A (by rw[if_pos rfl]) l hl a;obtain⟨a2,h2⟩:=Uv A B Z hA hZ x y lv at' 1 (by omega) Z (by rw[if_neg (by omega)]) l hl a1;refine⟨a2,(aS h1).trans ((aS h2).trans (bn ?_))⟩;unfold XM dk;generalize A.map bw=Av at *;generalize Z.map bw=Zv at *;generalize B.map bw=Bv at *;generalize ints l=L1 at *;unfold PJ;simp[ub,ua,tZ,tY,tX,tW,tV,tU,tT,tS,ox,ot,oq,om,oi,oh,oe,od,ob,oa,n9,nZ,nY,nX,nW,nV,nU,nT,nS,nQ,nP]
def XP (Pv Qv Rv Sv:List AV) (k:Nat) (J:Env):St:=⟨(152,.own 2 [.agg [.list 3 Pv,.list 3 Qv],.agg [.list 3 Rv,.list 3 Sv]])::(153,.int .i64 2)::(154,.int .i64 k)::J,[]⟩
theorem Uy (P Q R S:List Pt) (hP:sS P) (hQ:sS Q) (hR:sS R) (hS:sS S) (k:Nat) (hk:k<2) :
  aW aq 0 PI (XP (P.map bw) (Q.map bw) (R.map bw) (S.map bw) k [])=some (.normal,XP (P.map bw) (Q.map bw) (R.map bw) (S.map bw) (k+1) []):=by
 have go:∀(X Y:List Pt),sS X->sS Y->(∃Z1 Z2:List Int,bJ aq nQp [.list 3 (X.map bw),.list 3 (Y.map bw)] []=some (.dR [.list 1 (ints Z1),.list 1 (ints Z2)],[])/\bJ aq nQq [.list 3 (X.map bw),.list 3 (Y.map bw)] []=some (.dR [.list 1 (ints Z1),.list 1 (ints Z2)],[])/\bJ aq Xy [.list 1 (ints Z1),.list 1 (ints Z1)] []=some (.bool true,[])/\bJ aq Xy [.list 1 (ints Z2),.list 1 (ints Z2)] []=some (.bool true,[])):=fun X Y hX hY=>by
  have s1:=vW (IV X Y) (IV X Y) (by have:=IU X Y; have:=hX.l; omega) (by have:=IU X Y; have:=hX.l; omega);have s2:=vW (IV Y X) (IV Y X) (by have:=IU Y X; have:=hY.l; omega) (by have:=IU Y X; have:=hY.l; omega);rw[decide_eq_true rfl] at s1 s2;exact⟨_,_,agw X Y hX hY,aek X Y hX hY,s1,s2⟩
 obtain⟨e1,e2,e3,e4,e5,e6,e7,e8⟩:=jf P;obtain⟨f1,f2,f3,f4,f5,f6,f7,f8⟩:=jf Q;obtain⟨g1,g2,g3,g4,g5,g6,g7,g8⟩:=jf R;obtain⟨i1,i2,i3,i4,i5,i6,i7,i8⟩:=jf S;have hk2:k=0\/k=1:=by omega
 unfold XP;rcases hk2 with rfl|rfl
 ·obtain⟨Z1,Z2,r1,r2,r3,r4⟩:=go P Q hP hQ;obtain⟨a1,a2,a3,a4,a5,a6,a7,a8,a9,aa,ab⟩:=bg Z1;obtain⟨b1,b2,b3,b4,b5,b6,b7,b8,b9,ba,bb⟩:=bg Z2;clear go;generalize P.map bw=Pv at *;generalize Q.map bw=Qv at *;generalize R.map bw=Rv at *;generalize S.map bw=Sv at *;generalize ints Z1=O1 at *;generalize ints Z2=O2 at *;simp only[fH];unfold PI;simp[ub,ua,tZ,tY,tX,tW,tV,tU,tT,tS,ox,ot,oq,om,oi,oh,oe,od,ob,oa,n9,nZ,nY,nX,nW,nV,nU,nT,nS,nQ,nP,r1,r2,r3,r4,a1,a2,a3,a4,a5,a6,a7,a8,a9,aa,ab,b1,b2,b3,b4,b5,b6,b7,b8,b9,ba,bb,e1,e2,e3,e4,e5,e6,e7,e8,f1,f2,f3,f4,f5,f6,f7,f8,g1,g2,g3,g4,g5,g6,g7,g8,i1,i2,i3,i4,i5,i6,i7,i8,idx,aH,gn,kB,fW,dm,dc,pl,fx,cN,jD,jC,dn,de,bX,dB,eX,iH,dJ,iC,ke,fI,fz,FG,sQp,iQp,sQq,iQq,sQk,iQk]
 ·obtain⟨Z1,Z2,r1,r2,r3,r4⟩:=go R S hR hS;obtain⟨a1,a2,a3,a4,a5,a6,a7,a8,a9,aa,ab⟩:=bg Z1;obtain⟨b1,b2,b3,b4,b5,b6,b7,b8,b9,ba,bb⟩:=bg Z2;clear go;generalize P.map bw=Pv at *;generalize Q.map bw=Qv at *;generalize R.map bw=Rv at *;generalize S.map bw=Sv at *;generalize ints Z1=O1 at *;generalize ints Z2=O2 at *;rw[show ((1:Nat):Int)=1 from rfl];have w22:IntKind.i64.wrap 2=2:=rfl;unfold PI;simp[ub,ua,tZ,tY,tX,tW,tV,tU,tT,tS,ox,ot,oq,om,oi,oh,oe,od,ob,oa,n9,nZ,nY,nX,nW,nV,nU,nT,nS,nQ,nP,w22,r1,r2,r3,r4,a1,a2,a3,a4,a5,a6,a7,a8,a9,aa,ab,b1,b2,b3,b4,b5,b6,b7,b8,b9,ba,bb,e1,e2,e3,e4,e5,e6,e7,e8,f1,f2,f3,f4,f5,f6,f7,f8,g1,g2,g3,g4,g5,g6,g7,g8,i1,i2,i3,i4,i5,i6,i7,i8,idx,aH,gn,kB,fW,dm,dc,pl,fx,cN,jD,jC,dn,de,bX,dB,eX,iH,dJ,iC,ke,fI,fz,FG,sQp,iQp,sQq,iQq,sQk,iQk]
theorem aiK (P Q R S:List Pt) (hP:sS P) (hQ:sS Q) (hR:sS R) (hS:sS S) :
  aW aq 0 (.loop PI) (XP (P.map bw) (Q.map bw) (R.map bw) (S.map bw) 0 [])=some (.exit 6,XP (P.map bw) (Q.map bw) (R.map bw) (S.map bw) 2 [(155,.bool false)]):=by
 refine (aS (Uy P Q R S hP hQ hR hS 0 (by omega))).trans ((aS (Uy P Q R S hP hQ hR hS 1 (by omega))).trans (bn ?_));unfold XP;generalize P.map bw=Pv at *;generalize Q.map bw=Qv at *;generalize R.map bw=Rv at *;generalize S.map bw=Sv at *;unfold PI;simp[ub,ua,tZ,tY,tX,tW,tV,tU,tT,tS,ox,ot,oq,om,oi,oh,oe,od,ob,oa,n9,nZ,nY,nX,nW,nV,nU,nT,nS,nQ,nP]
/- HierarchyLooks: the law. -/
def Jq (Zv:List AV) (L1:List AV) (x y lv at':Int) (n i:Nat) (J:Env):St:=
 ⟨(0,.list 3 Zv)::(1,.list 1 L1)::(2,.int .i64 x)::(3,.int .i64 y)::(4,.int .i64 lv)::(5,.int .i64 at')::(34,.list 3 Zv)::(35,.int .i64 n)::(36,.int .i64 i)::J,[]⟩
def shrt (p:Pt):Bool:=decide (p.2.2.length<=40)
theorem S7 (Z:List Pt) (hZ:Z.length<=20) (hs:∀z∈Z,z.2.2.length<=9223372036854775807) (l:List Int) (x y lv at':Int):∀(n i:Nat),i+n=Z.length ->
  aW aq 0 (.loop UK) (Jq (Z.map bw) (ints l) x y lv at' Z.length i []) =
   if (Z.drop i).all shrt=true then some (.exit 0,Jq (Z.map bw) (ints l) x y lv at' Z.length Z.length [(37,.bool false)]) else some (.ret,⟨[(12,.bool true)],[]⟩)
 |0,i,hi=>by
   obtain rfl:i=Z.length:=by omega
   rw[List.drop_length,List.all_nil,if_pos rfl];refine bn ?_;unfold Jq;generalize Z.map bw=Zv at *;generalize ints l=L1 at *;unfold UK;simp[ub,ua,tZ,tY,tX,tW,tV,tU,tT,tS,ox,ot,oq,om,oi,oh,oe,od,ob,oa,n9,nZ,nY,nX,nW,nV,nU,nT,nS,nQ,nP]
 |n+1,i,hi=>by
   have h1:i<Z.length:=by omega
   have k1:(i:Int)<Z.length:=by omega
   have hw:=dA (i:=i) (by omega);have g3:=Lc Z i h1;have lz:(Z.map bw).length=Z.length:=aX _;have bE:i<(Z.map bw).length:=by omega
   have g4:∀h,(Z.map bw)[i]'h=.agg [.int .i64 Z[i].1,.int .i64 Z[i].2.1,.list 1 (ints Z[i].2.2)]:=fun h=>by
    rw[aj h] at g3;exact bj g3
   have ih:=S7 Z hZ hs l x y lv at' n (i+1) (by omega);have aw:=aw18;have lb:=hs _ (List.getElem_mem h1);have ls:=ah Z[i].2.2;obtain⟨b1,b2,b3,b4,b5,b6,b7,b8,b9,ba,bb⟩:=bg Z[i].2.2;rw[List.drop_eq_getElem_cons h1,List.all_cons];by_cases q:Z[i].2.2.length<=40
   ·have e:shrt Z[i]=true:=decide_eq_true q;rw[e,Bool.true_and];refine (aS ?_).trans ih;clear ih;have q':¬(40:Int)<(Z[i].2.2.length:Int):=by omega
    unfold Jq;generalize Z.map bw=Zv at *;generalize ints l=L1 at *;generalize ints Z[i].2.2=S1 at *;unfold UK;simp[ub,ua,tZ,tY,tX,tW,tV,tU,tT,tS,ox,ot,oq,om,oi,oh,oe,od,ob,oa,n9,nZ,nY,nX,nW,nV,nU,nT,nS,nQ,nP,k1,h1,hw,g3,g4,lz,bE,ls,q',b1,b2,b3,b4,b5,b6,b7,b8,b9,ba,bb,idx,kB,aH,gn,dc,pl,dn,de]
   ·have e:shrt Z[i]=false:=decide_eq_false q;rw[e,Bool.false_and,if_neg Bool.false_ne_true];refine dM ?_;clear ih;have q':(40:Int)<(Z[i].2.2.length:Int):=by omega
    unfold Jq;generalize Z.map bw=Zv at *;generalize ints l=L1 at *;generalize ints Z[i].2.2=S1 at *;unfold UK;simp[ub,ua,tZ,tY,tX,tW,tV,tU,tT,tS,ox,ot,oq,om,oi,oh,oe,od,ob,oa,n9,nZ,nY,nX,nW,nV,nU,nT,nS,nQ,nP,k1,h1,hw,g3,g4,lz,bE,ls,q',aw,b1,b2,b3,b4,b5,b6,b7,b8,b9,ba,bb,idx,kB,aH,gn,dc,pl,dn,de,sQb,iQb]
theorem R0 {P:List Pt} (h1:P.length<=900) (h2:∀p∈P,p.2.2.length<=64):sS P:=⟨h1,fun j=>by
 by_cases h:j<P.length
 ·exact h2 _ (at_mem h)
 ·unfold bM;rw[List.getD_eq_getElem?_getD,List.getElem?_eq_none (by omega)];exact Nat.zero_le _⟩
theorem X4 (Z:List Pt) (l:List Int) (x y lv at':Int) (hZs:∀z∈Z,z.2.2.length<=9223372036854775807) (hl:l.length<=9223372036854775807) :
  bJ aq nQa [.list 3 (Z.map bw),.list 1 (ints l),.int .i64 x,.int .i64 y,.int .i64 lv,.int .i64 at'] []=some (.bool true,[]):=by
 have aw:=aw18;have lz:(Z.map bw).length=Z.length:=aX _;by_cases hZ:20<Z.length
 ·have k1:(20:Int)<Z.length:=by omega
  rw[dZ sQa (au rfl)];generalize Z.map bw=Zv at *;generalize ints l=l1 at *;unfold qQa cQa;simp[ub,ua,tZ,tY,tX,tW,tV,tU,tT,tS,ox,ot,oq,om,oi,oh,oe,od,ob,oa,n9,nZ,nY,nX,nW,nV,nU,nT,nS,nQ,nP,aw,lz,k1,aH,bL,bC,dc,pl,sQb,iQb]
 have k1:¬(20:Int)<Z.length:=by omega
 have w0:=S7 Z (by omega) hZs l x y lv at' Z.length 0 (by omega);rw[List.drop_zero] at w0;by_cases hA:Z.all shrt=true
 case neg=>
  rw[if_neg hA] at w0;unfold Jq at w0;simp only[fH] at w0;rw[dZ sQa (au rfl)];generalize Z.map bw=Zv at *;generalize ints l=l1 at *;unfold qQa cQa;simp[ub,ua,tZ,tY,tX,tW,tV,tU,tT,tS,ox,ot,oq,om,oi,oh,oe,od,ob,oa,n9,nZ,nY,nX,nW,nV,nU,nT,nS,nQ,nP,w0,aw,lz,k1,aH,bL,bC,dc,pl,sQb,iQb]
 rw[if_pos hA] at w0
 have fZ:sS Z:=R0 (by omega) fun p hp=>by
  have:=List.all_eq_true.1 hA p hp;have:=of_decide_eq_true this;omega
 have n1:=ais l;obtain⟨N,Es,a',n2,hG,hN,hE⟩:=PY l hl 8 (by omega) 0;rw[show ((8:Nat):Int)=8 from rfl] at n2;obtain⟨A,⟨hA1,hA2,_⟩,_,c2⟩:=MK hG (by omega) (by omega);obtain⟨N2,Es2,a2,n3,hG2,hN2,hE2⟩:=PY l hl 8 (by omega) a';rw[show ((8:Nat):Int)=8 from rfl] at n3;obtain⟨B,⟨hB1,hB2,_⟩,_,c3⟩:=MK hG2 (by omega) (by omega);have fA:=R0 hA1 hA2;have fB:=R0 hB1 hB2;obtain⟨a3,lo⟩:=aiI A B Z fA fZ x y lv at' l hl a2;have ld:=aiK A B Z A fA fB fZ fA;obtain⟨d1,d2,d3,d4,d5,d6,d7,d8,d9,da,db⟩:=bg l;obtain⟨e1,e2,e3,e4,e5,e6,e7,e8⟩:=jf A;obtain⟨f1,f2,f3,f4,f5,f6,f7,f8⟩:=jf Z;obtain⟨g1,g2,g3,g4,g5,g6,g7,g8⟩:=jf B;rw[dZ sQa (au rfl)];unfold Jq at w0;unfold XM dk at lo;unfold XP at ld;unfold dk at n1 n2 n3;simp only[fH] at w0 lo ld n1 n2;rw[show ((2:Nat):Int)=2 from rfl] at lo ld;clear hA hZs hG hG2 hA1 hA2 hB1 hB2 fA fB fZ;generalize Z.map bw=Zv at *;generalize A.map bw=Av at *;generalize B.map bw=Bv at *;generalize ints l=l1 at *;generalize fe Es=Y at *;generalize fe Es2=Y2 at *;unfold qQa cQa;simp[ub,ua,tZ,tY,tX,tW,tV,tU,tT,tS,ox,ot,oq,om,oi,oh,oe,od,ob,oa,n9,nZ,nY,nX,nW,nV,nU,nT,nS,nQ,nP,w0,aw,lz,k1,n1,n2,n3,c2,c3,lo,ld,d1,d2,d3,d4,d5,d6,d7,d8,d9,da,db,e1,e2,e3,e4,e5,e6,e7,e8,f1,f2,f3,f4,f5,f6,f7,f8,g1,g2,g3,g4,g5,g6,g7,g8,idx,aH,bL,bC,eR,fW,dm,dc,pl,fx,cN,jD,jC,dn,de,D8,xD,jU,jj,bX,dB,eX,iH,dJ,iC,ke,fI,fz,FG,Iw,rep,fa,sQc,iQc,sQe,iQe,sQd,iQd,sQb,iQb]
end Go.BmP
