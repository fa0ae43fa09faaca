/- hierarchy.missing and ref18.missing: the indices of the parts that another list does not have; Changed of both sides. -/
import Derived.Test.YtbnheahpdodmjabGreatDoorHlS
set_option linter.unusedSimpArgs false
set_option linter.unusedVariables false
set_option maxRecDepth 100000
set_option maxHeartbeats 8000000
open Bool renaming false_ne_true → iI, false_or → Su
open List renaming any_cons → Ss, drop_eq_getElem_cons → bz, drop_length → cE, drop_zero → cP, getElem?_eq_getElem → aj, length_map → aX, take_of_length_le → aT
open Nat renaming le_of_ble_eq_true → au, le_refl → aJ
open Option.some renaming inj → bj
namespace Go.BmP
open Go.Am Go.Bm
def Nv (p q:Pt):Bool:=decide (p.1=q.1)&&decide (p.2.2=q.2.2)
def hQ (p:Pt):Heap:=[some [.int .i64 p.1,.int .i64 p.2.1,.list 1 (ints p.2.2)]]
theorem X0 (p q:Pt) (hp:p.2.2.length<=1000):bJ aq nQX [bw q,.ptr 0 0] (hQ p)=some (.bool (Nv p q),hQ p):=by
 have h2:=adb p q hp;rw[show (decide (p.1=q.1)&&decide (p.2.2=q.2.2))=Nv p q from rfl] at h2;generalize Nv p q=z at *;obtain⟨a1,a2,a3,a4,a5,a6,a7,a8,a9,aa,ab⟩:=bg p.2.2;obtain⟨b1,b2,b3,b4,b5,b6,b7,b8,b9,ba,bb⟩:=bg q.2.2;rw[dZ sQX (au rfl)];unfold bw hQ at *;generalize ints p.2.2=S1 at *;generalize ints q.2.2=T1 at *;unfold qQX cQX;cases z<;>simp[akk,akj,h2,a1,a2,a3,a4,a5,a6,a7,a8,a9,aa,ab,b1,b2,b3,b4,b5,b6,b7,b8,b9,ba,bb,kB,aH,gn,bL,bC,eR,fW,dm,dc,pl,fx,cN,jD,jC,dn,de,bX,dB,eX,iH,dJ,iC,ke,fI,sQY,iQY]
def fsG (p:Pt):List Pt->Nat->Int
 |[],_=>-1
 |q::r,i=>if Nv p q=true then i else fsG p r (i+1)
theorem RW (p:Pt):∀(Q:List Pt) (i:Nat),(Q.any (Nv p)=true/\(i:Int)<=fsG p Q i)\/(Q.any (Nv p)=false/\fsG p Q i=-1)
 |[],i=>.inr ⟨rfl,rfl⟩
 |q::r,i=>by
   unfold fsG;rw[Ss];cases h:Nv p q with
   |true=>left; exact⟨by rw[Bool.true_or],by rw[if_pos rfl]; exact Int.le_refl _⟩
   |false=>
     rw[Su,if_neg iI];rcases RW p r (i+1) with⟨h1,h2⟩|⟨h1,h2⟩
     ·left; exact⟨h1,by omega⟩
     ·right; exact⟨h1,h2⟩
def Oa:AV:=.func (.func nQX) [] [.ptr 0 0]
def U5 (Qv:List AV) (n i:Nat) (p:Pt) (J:Env):St:=⟨(0,.list 3 Qv)::(1,Oa)::(7,.int .i64 n)::(8,.int .i64 i)::J,hQ p⟩
theorem af9 (p:Pt) (hp:p.2.2.length<=1000) (Q:List Pt) (Iv:Q.length<=900) (i:Nat) (hi:i<Q.length) :
  aW aq 1 L6 (U5 (Q.map bw) Q.length i p [])=if Nv p Q[i]=true then some (.ret,⟨[(4,.int .i64 i)],hQ p⟩) else some (.normal,U5 (Q.map bw) Q.length (i+1) p []):=by
 have k1:(i:Int)<Q.length:=by omega
 have hw:=dA (i:=i) (by omega);have g3:=Lc Q i hi;have lq:(Q.map bw).length=Q.length:=aX _;have bE:i<(Q.map bw).length:=by omega
 have g4:∀h,(Q.map bw)[i]'h=.agg [.int .i64 Q[i].1,.int .i64 Q[i].2.1,.list 1 (ints Q[i].2.2)]:=fun h=>by
  rw[aj h] at g3;exact bj g3
 have h1:=X0 p Q[i] hp;obtain⟨a1,a2,a3,a4,a5,a6,a7,a8,a9,aa,ab⟩:=bg p.2.2;obtain⟨b1,b2,b3,b4,b5,b6,b7,b8,b9,ba,bb⟩:=bg Q[i].2.2;generalize Nv p Q[i]=z at *;unfold U5 hQ Oa at *;unfold bw at h1;generalize Q.map bw=Q1 at *;generalize ints p.2.2=S1 at *;generalize ints Q[i].2.2=T1 at *;generalize Q[i].1=y1 at *;generalize Q[i].2.1=y2 at *;generalize p.1=x1 at *;generalize p.2.1=x2 at *;unfold L6;cases z<;>simp[KF,KE,KD,KC,KB,KA,Kz,Ky,k1,hi,hw,g3,g4,lq,bE,h1,a1,a2,a3,a4,a5,a6,a7,a8,a9,aa,ab,b1,b2,b3,b4,b5,b6,b7,b8,b9,ba,bb,idx,kB,aH,gn,bC,eR,fW,dm,dc,pl,fx,cN,jD,jC,dn,de,bX,dB,eX,iH,dJ,iC,ke,fI,bS,sQX,iQX]
theorem abR (p:Pt) (hp:p.2.2.length<=1000) (Q:List Pt) (Iv:Q.length<=900):∀(n i:Nat),i+n=Q.length ->
  aW aq 1 (.loop L6) (U5 (Q.map bw) Q.length i p [])=if (Q.drop i).any (Nv p)=true then some (.ret,⟨[(4,.int .i64 (fsG p (Q.drop i) i))],hQ p⟩) else some (.exit 0,U5 (Q.map bw) Q.length Q.length p [(9,.bool false)])
 |0,i,hi=>by
   obtain rfl:i=Q.length:=by omega
   rw[cE,List.any_nil,if_neg iI];refine bn ?_;unfold U5 hQ Oa;generalize Q.map bw=Q1 at *;generalize ints p.2.2=S1 at *;unfold L6;simp[KF,KE,KD,KC,KB,KA,Kz,Ky]
 |n+1,i,hi=>by
   have h1:i<Q.length:=by omega
   have rd:=af9 p hp Q Iv i h1;rw[bz h1,Ss];unfold fsG;cases z:Nv p Q[i] with
   |true=>
     rw[z,if_pos rfl] at rd;rw[Bool.true_or,if_pos rfl,if_pos rfl];exact dM rd
   |false=>
     rw[z,if_neg iI] at rd;rw[Su,if_neg iI];exact (aS rd).trans (abR p hp Q Iv n (i+1) (by omega))
theorem aiM (p:Pt) (hp:p.2.2.length<=1000) (Q:List Pt) (Iv:Q.length<=900):bJ aq XG [.list 3 (Q.map bw),Oa] (hQ p)=some (.int .i64 (fsG p Q 0),hQ p):=by
 have lp:=abR p hp Q Iv Q.length 0 (by omega);have lq:(Q.map bw).length=Q.length:=aX _;obtain⟨a1,a2,a3,a4,a5,a6,a7,a8,a9,aa,ab⟩:=bg p.2.2;rw[dZ sQa6 (au rfl)];rw[cP] at lp;rcases RW p Q 0 with⟨e1,e2⟩|⟨e1,e2⟩
 ·rw[e1,if_pos rfl] at lp;unfold U5 hQ Oa at *;simp only[fH] at lp;generalize fsG p Q 0=v at *;generalize Q.map bw=Q1 at *;generalize ints p.2.2=S1 at *;unfold qQa6 cQa6;simp[KF,KE,KD,KC,KB,KA,Kz,Ky,lp,lq,a1,a2,a3,a4,a5,a6,a7,a8,a9,aa,ab,kB,aH,bL,bC,eR,fW,dm,dc,pl,jC]
 ·rw[e1,if_neg iI] at lp;rw[e2];unfold U5 hQ Oa at *;simp only[fH] at lp;generalize Q.map bw=Q1 at *;generalize ints p.2.2=S1 at *;unfold qQa6 cQa6;simp[KF,KE,KD,KC,KB,KA,Kz,Ky,lp,lq,a1,a2,a3,a4,a5,a6,a7,a8,a9,aa,ab,kB,aH,bL,bC,eR,fW,dm,dc,pl,jC]
theorem ajf (p:Pt) (hp:p.2.2.length<=1000) (Q:List Pt) (Iv:Q.length<=900):bJ aq nQW [.list 3 (Q.map bw),Oa] (hQ p)=some (.bool (Q.any (Nv p)),hQ p):=by
 have lp:=aiM p hp Q Iv;obtain⟨a1,a2,a3,a4,a5,a6,a7,a8,a9,aa,ab⟩:=bg p.2.2;obtain⟨g1,g2,g3,g4,g5,g6,g7,g8⟩:=jf Q;rw[dZ sQW (au rfl)];rcases RW p Q 0 with⟨e1,e2⟩|⟨e1,e2⟩
 ·rw[e1];have q0:0<=fsG p Q 0:=by omega
  unfold hQ Oa at *;generalize fsG p Q 0=v at *;generalize Q.map bw=Q1 at *;generalize ints p.2.2=S1 at *;unfold qQW cQW;simp[aeQ,aeP,lp,q0,g1,g2,g3,g4,g5,g6,g7,g8,a1,a2,a3,a4,a5,a6,a7,a8,a9,aa,ab,kB,aH,gn,bL,bC,eR,fW,dm,dc,pl,fx,cN,jD,jC,dn,de,bX,dB,eX,iH,dJ,iC,ke,fI,bS,sQa6,iQa6]
 ·rw[e1];rw[e2] at lp;unfold hQ Oa at *;generalize Q.map bw=Q1 at *;generalize ints p.2.2=S1 at *;unfold qQW cQW;simp[aeQ,aeP,lp,g1,g2,g3,g4,g5,g6,g7,g8,a1,a2,a3,a4,a5,a6,a7,a8,a9,aa,ab,kB,aH,gn,bL,bC,eR,fW,dm,dc,pl,fx,cN,jD,jC,dn,de,bX,dB,eX,iH,dJ,iC,ke,fI,bS,sQa6,iQa6]
def msG (P Q:List Pt):Nat->Nat->List Int->List Int
 |0,_,o=>o
 |n+1,i,o=>msG P Q n (i+1) (if Q.any (Nv (iJ P i,ij P i,bM P i))=true then o else o++[(i:Int)])
theorem abv (P Q:List Pt):∀(n i:Nat) (o:List Int),(msG P Q n i o).length<=o.length+n
 |0,i,o=>aJ _
 |n+1,i,o=>by
   have:=abv P Q n (i+1) (if Q.any (Nv (iJ P i,ij P i,bM P i))=true then o else o++[(i:Int)]);unfold msG;refine Nat.le_trans this ?_;split
   ·omega
   ·simp; omega
def IV (P Q:List Pt):List Int:=msG P Q P.length 0 []
theorem IU (P Q:List Pt):(IV P Q).length<=P.length:=by unfold IV; have:=abv P Q P.length 0 []; simpa using this
def Vo (Pv Qv:List AV) (o:List Int) (n i:Nat) (J:Env):St:=⟨(1,.list 3 Qv)::(5,.own 1 (ints o))::(8,.list 3 Pv)::(9,.int .i64 n)::(10,.int .i64 i)::J,[]⟩
theorem agq (P Q:List Pt) (hP:P.length<=900) (hs:∀j,(bM P j).length<=64) (Iv:Q.length<=900) (o:List Int) (ho:o.length<=900) (i:Nat) (hi:i<P.length) :
  aW aq 0 PO (Vo (P.map bw) (Q.map bw) o P.length i [])=some (.normal,Vo (P.map bw) (Q.map bw) (if Q.any (Nv (iJ P i,ij P i,bM P i))=true then o else o++[(i:Int)]) P.length (i+1) []):=by
 have k1:(i:Int)<P.length:=by omega
 have hw:=dA (i:=i) (by omega);have g3:=px P i hi;have ll:(P.map bw).length=P.length:=aX _;have bE:i<(P.map bw).length:=by omega
 have g4:∀h,(P.map bw)[i]'h=.agg [.int .i64 (iJ P i),.int .i64 (ij P i),.list 1 (ints (bM P i))]:=fun h=>by
  rw[aj h] at g3;exact bj g3
 have cn:=ajf (iJ P i,ij P i,bM P i) (by have:=hs i; simp; omega) Q Iv;obtain⟨b1,b2,b3,b4,b5,b6,b7,b8,b9,ba,bb⟩:=bg (bM P i);obtain⟨c1,c2,c3,c4,c5,c6,c7,c8⟩:=jf Q;have lo:=ah o;have Ry:o.length+1<=4294967296:=by omega
 have tk:(ints o++[AV.int .i64 (i:Int)]).take (o.length+1)=ints (o++[(i:Int)]):=by rw[cZ,aT (by rw[ah]; simp)]
 have Oq:(ints o).take o.length=ints o:=aT (by omega);have sn:=cZ o (i:Int);unfold hQ Oa at cn;simp only at cn;cases z:Q.any (Nv (iJ P i,ij P i,bM P i)) with
 |true=>
   rw[z] at cn;rw[if_pos rfl];unfold Vo;generalize ints (o++[(i:Int)])=O2 at *;generalize ints o=O1 at *;generalize P.map bw=Pv at *;generalize Q.map bw=Qv at *;generalize ints (bM P i)=S1 at *;unfold PO;simp[TI,TH,TG,TF,TE,TD,TC,TB,TA,k1,hw,g3,g4,ll,bE,hi,cn,c1,c2,c3,c4,c5,c6,c7,c8,b1,b2,b3,b4,b5,b6,b7,b8,b9,ba,bb,idx,kB,aH,gn,bC,eR,fW,dm,dc,pl,fx,cN,jD,jC,dn,de,bX,dB,eX,iH,dJ,iC,ke,fI,bS,sQW,iQW]
 |false=>
   rw[z] at cn;rw[if_neg iI];unfold Vo;generalize ints (o++[(i:Int)])=O2 at *;generalize ints o=O1 at *;generalize P.map bw=Pv at *;generalize Q.map bw=Qv at *;generalize ints (bM P i)=S1 at *;unfold PO;simp[TI,TH,TG,TF,TE,TD,TC,TB,TA,k1,hw,g3,g4,ll,bE,hi,cn,lo,Ry,ks,tk,Oq,sn,c1,c2,c3,c4,c5,c6,c7,c8,b1,b2,b3,b4,b5,b6,b7,b8,b9,ba,bb,idx,kB,aH,gn,bC,eR,fW,dm,dc,pl,fx,cN,jD,jC,dn,de,bX,dB,eX,iH,dJ,iC,ke,fI,bS,sQW,iQW]
theorem abW (P Q:List Pt) (hP:P.length<=900) (hs:∀j,(bM P j).length<=64) (Iv:Q.length<=900):∀(n i:Nat) (o:List Int),i+n=P.length->o.length<=i ->
  aW aq 0 (.loop PO) (Vo (P.map bw) (Q.map bw) o P.length i [])=some (.exit 0,Vo (P.map bw) (Q.map bw) (msG P Q n i o) P.length P.length [(11,.bool false)])
 |0,i,o,hi,ho=>by
   obtain rfl:i=P.length:=by omega
   refine bn ?_;have e:msG P Q 0 P.length o=o:=rfl;rw[e];unfold Vo;generalize P.map bw=Pv at *;generalize Q.map bw=Qv at *;generalize ints o=O1 at *;unfold PO;simp[TI,TH,TG,TF,TE,TD,TC,TB,TA]
 |n+1,i,o,hi,ho=>(aS (agq P Q hP hs Iv o (by omega) i (by omega))).trans (abW P Q hP hs Iv n (i+1) _ (by omega) (by
   split
   ·omega
   ·simp; omega))
theorem PU (P Q:List Pt) (hP:P.length<=900) (hs:∀j,(bM P j).length<=64) (Iv:Q.length<=900):bJ aq nQG [.list 3 (P.map bw),.list 3 (Q.map bw)] []=some (.list 1 (ints (IV P Q)),[]):=by
 have lp:=abW P Q hP hs Iv P.length 0 [] (by omega) (aJ _);rw[show msG P Q P.length 0 []=IV P Q from rfl] at lp;have ll:(P.map bw).length=P.length:=aX _;rw[dZ sQG (au rfl)];unfold Vo at lp;rw[show ints []=[] from rfl] at lp;simp only[fH] at lp;generalize ints (IV P Q)=O1 at *;generalize P.map bw=Pv at *;generalize Q.map bw=Qv at *;unfold qQG cQG;simp[TI,TH,TG,TF,TE,TD,TC,TB,TA,lp,ll,aH,bL,bC,eR,fW,dm,dc,pl]
/- ref18.missing; Changed of both sides. -/
def Jt (Pv Qv:List AV) (o:List Int) (n i m k:Nat) (f:Bool) (p:Pt) (J:Env):St:=
 ⟨(1,.list 3 Qv)::(5,.own 1 (ints o))::(6,.int .i64 i)::(7,.ptr 0 0)::(8,.bool f)::(11,.list 3 Pv)::(12,.int .i64 n)::(13,.int .i64 i)::(18,.list 3 Qv)::(19,.int .i64 m)::(20,.int .i64 k)::J,hQ p⟩
theorem acP (p:Pt) (hp:p.2.2.length<=1000) (Pv:List AV) (Q:List Pt) (Iv:Q.length<=900) (hQs:∀x∈Q,x.2.2.length<=1000) (o:List Int) (n i:Nat) (f:Bool) (k:Nat) (hk:k<Q.length) :
  aW aq 0 US (Jt Pv (Q.map bw) o n i Q.length k f p [])=some (.normal,Jt Pv (Q.map bw) o n i Q.length (k+1) (f||Nv p Q[k]) p []):=by
 have k1:(k:Int)<Q.length:=by omega
 have hw:=dA (i:=k) (by omega);have g3:=Lc Q k hk;have lq:(Q.map bw).length=Q.length:=aX _;have bE:k<(Q.map bw).length:=by omega
 have g4:∀h,(Q.map bw)[k]'h=.agg [.int .i64 Q[k].1,.int .i64 Q[k].2.1,.list 1 (ints Q[k].2.2)]:=fun h=>by
  rw[aj h] at g3;exact bj g3
 have h1:=vW p.2.2 Q[k].2.2 (by omega) (by have:=hQs _ (List.getElem_mem hk); omega);obtain⟨a1,a2,a3,a4,a5,a6,a7,a8,a9,aa,ab⟩:=bg p.2.2;obtain⟨b1,b2,b3,b4,b5,b6,b7,b8,b9,ba,bb⟩:=bg Q[k].2.2;unfold Nv;generalize hz:decide (p.2.2=Q[k].2.2)=z at *;unfold Jt hQ;generalize Q.map bw=Q1 at *;generalize ints p.2.2=S1 at *;generalize ints Q[k].2.2=T1 at *;generalize ints o=O1 at *;clear hz hQs hp;generalize Q[k].1=y1 at *;generalize Q[k].2.1=y2 at *;generalize p.1=x1 at *;generalize p.2.1=x2 at *;unfold US;cases f with
 |true=>simp[Ek,Ej,Ei,Eh,Eg,Ef,Ee,Ec,Eb,Ea,xc,xb,w9,w8,w7,k1,hk,hw,g3,g4,lq,bE,a1,a2,a3,a4,a5,a6,a7,a8,a9,aa,ab,b1,b2,b3,b4,b5,b6,b7,b8,b9,ba,bb,idx,kB,aH,gn,dc,pl,dn,de]
 |false=>
   by_cases q:x1=y1
   ·subst q;cases z<;>simp[Ek,Ej,Ei,Eh,Eg,Ef,Ee,Ec,Eb,Ea,xc,xb,w9,w8,w7,k1,hk,hw,g3,g4,lq,bE,h1,a1,a2,a3,a4,a5,a6,a7,a8,a9,aa,ab,b1,b2,b3,b4,b5,b6,b7,b8,b9,ba,bb,idx,kB,aH,gn,dc,pl,dn,de,sQk,iQk]
   ·cases z<;>simp[Ek,Ej,Ei,Eh,Eg,Ef,Ee,Ec,Eb,Ea,xc,xb,w9,w8,w7,k1,hk,hw,g3,g4,lq,bE,q,a1,a2,a3,a4,a5,a6,a7,a8,a9,aa,ab,b1,b2,b3,b4,b5,b6,b7,b8,b9,ba,bb,idx,kB,aH,gn,dc,pl,dn,de]
theorem Tc (p:Pt) (hp:p.2.2.length<=1000) (Pv:List AV) (Q:List Pt) (Iv:Q.length<=900) (hQs:∀x∈Q,x.2.2.length<=1000) (o:List Int) (n i:Nat):∀(m k:Nat) (f:Bool),k+m=Q.length ->
  aW aq 0 (.loop US) (Jt Pv (Q.map bw) o n i Q.length k f p [])=some (.exit 2,Jt Pv (Q.map bw) o n i Q.length Q.length (f||(Q.drop k).any (Nv p)) p [(21,.bool false)])
 |0,k,f,hk=>by
   obtain rfl:k=Q.length:=by omega
   rw[cE,List.any_nil,Bool.or_false];refine bn ?_;unfold Jt hQ;generalize Q.map bw=Q1 at *;generalize ints p.2.2=S1 at *;generalize ints o=O1 at *;unfold US;simp[Ek,Ej,Ei,Eh,Eg,Ef,Ee,Ec,Eb,Ea,xc,xb,w9,w8,w7]
 |m+1,k,f,hk=>by
   have h1:k<Q.length:=by omega
   have ih:=Tc p hp Pv Q Iv hQs o n i m (k+1) (f||Nv p Q[k]) (by omega);rw[bz h1,Ss,<-Bool.or_assoc];exact (aS (acP p hp Pv Q Iv hQs o n i f k h1)).trans ih
def GU (Pv Qv:List AV) (o:List Int) (n i:Nat) (J:Env):St:=⟨(1,.list 3 Qv)::(5,.own 1 (ints o))::(11,.list 3 Pv)::(12,.int .i64 n)::(13,.int .i64 i)::J,[]⟩
theorem acM (P Q:List Pt) (hP:P.length<=900) (hs:∀j,(bM P j).length<=64) (Iv:Q.length<=900) (hQs:∀x∈Q,x.2.2.length<=1000) (o:List Int) (ho:o.length<=900) (i:Nat) (hi:i<P.length) :
  aW aq 0 PN (GU (P.map bw) (Q.map bw) o P.length i [])=some (.normal,GU (P.map bw) (Q.map bw) (if Q.any (Nv (iJ P i,ij P i,bM P i))=true then o else o++[(i:Int)]) P.length (i+1) []):=by
 have k1:(i:Int)<P.length:=by omega
 have hw:=dA (i:=i) (by omega);have g3:=px P i hi;have ll:(P.map bw).length=P.length:=aX _;have lq:(Q.map bw).length=Q.length:=aX _;have bE:i<(P.map bw).length:=by omega
 have g4:∀h,(P.map bw)[i]'h=.agg [.int .i64 (iJ P i),.int .i64 (ij P i),.list 1 (ints (bM P i))]:=fun h=>by
  rw[aj h] at g3;exact bj g3
 have lp:=Tc (iJ P i,ij P i,bM P i) (by have:=hs i; simp; omega) (P.map bw) Q Iv hQs o P.length i Q.length 0 false (by omega);rw[cP,Su] at lp;obtain⟨b1,b2,b3,b4,b5,b6,b7,b8,b9,ba,bb⟩:=bg (bM P i);have lo:=ah o;have Ry:o.length+1<=4294967296:=by omega
 have tk:(ints o++[AV.int .i64 (i:Int)]).take (o.length+1)=ints (o++[(i:Int)]):=by rw[cZ,aT (by rw[ah]; simp)]
 have Oq:(ints o).take o.length=ints o:=aT (by omega);have sn:=cZ o (i:Int);unfold Jt hQ at lp;simp only[fH] at lp;cases z:Q.any (Nv (iJ P i,ij P i,bM P i)) with
 |true=>
   rw[z] at lp;rw[if_pos rfl];unfold GU;generalize ints (o++[(i:Int)])=O2 at *;generalize ints o=O1 at *;generalize P.map bw=Pv at *;generalize Q.map bw=Qv at *;generalize ints (bM P i)=S1 at *;unfold PN;simp[Ek,Ej,Ei,Eh,Eg,Ef,Ee,Ec,Eb,Ea,xc,xb,w9,w8,w7,k1,hw,g3,g4,ll,lq,bE,hi,lp,b1,b2,b3,b4,b5,b6,b7,b8,b9,ba,bb,idx,kB,aH,gn,dc,pl,dn,de]
 |false=>
   rw[z] at lp;rw[if_neg iI];unfold GU;generalize ints (o++[(i:Int)])=O2 at *;generalize ints o=O1 at *;generalize P.map bw=Pv at *;generalize Q.map bw=Qv at *;generalize ints (bM P i)=S1 at *;unfold PN;simp[Ek,Ej,Ei,Eh,Eg,Ef,Ee,Ec,Eb,Ea,xc,xb,w9,w8,w7,k1,hw,g3,g4,ll,lq,bE,hi,lp,lo,Ry,ks,tk,Oq,sn,b1,b2,b3,b4,b5,b6,b7,b8,b9,ba,bb,idx,kB,aH,gn,dc,pl,dn,de]
theorem S6 (P Q:List Pt) (hP:P.length<=900) (hs:∀j,(bM P j).length<=64) (Iv:Q.length<=900) (hQs:∀x∈Q,x.2.2.length<=1000):∀(n i:Nat) (o:List Int),i+n=P.length->o.length<=i ->
  aW aq 0 (.loop PN) (GU (P.map bw) (Q.map bw) o P.length i [])=some (.exit 0,GU (P.map bw) (Q.map bw) (msG P Q n i o) P.length P.length [(14,.bool false)])
 |0,i,o,hi,ho=>by
   obtain rfl:i=P.length:=by omega
   refine bn ?_;have e:msG P Q 0 P.length o=o:=rfl;rw[e];unfold GU;generalize P.map bw=Pv at *;generalize Q.map bw=Qv at *;generalize ints o=O1 at *;unfold PN;simp[Ek,Ej,Ei,Eh,Eg,Ef,Ee,Ec,Eb,Ea,xc,xb,w9,w8,w7]
 |n+1,i,o,hi,ho=>(aS (acM P Q hP hs Iv hQs o (by omega) i (by omega))).trans (S6 P Q hP hs Iv hQs n (i+1) _ (by omega) (by
   split
   ·omega
   ·simp; omega))
theorem OC (P Q:List Pt) (hP:P.length<=900) (hs:∀j,(bM P j).length<=64) (Iv:Q.length<=900) (hQs:∀x∈Q,x.2.2.length<=1000):bJ aq nQH [.list 3 (P.map bw),.list 3 (Q.map bw)] []=some (.list 1 (ints (IV P Q)),[]):=by
 have lp:=S6 P Q hP hs Iv hQs P.length 0 [] (by omega) (aJ _);rw[show msG P Q P.length 0 []=IV P Q from rfl] at lp;have ll:(P.map bw).length=P.length:=aX _;rw[dZ sQH (au rfl)];unfold GU at lp;rw[show ints []=[] from rfl] at lp;simp only[fH] at lp;generalize ints (IV P Q)=O1 at *;generalize P.map bw=Pv at *;generalize Q.map bw=Qv at *;unfold qQH cQH;simp[Ek,Ej,Ei,Eh,Eg,Ef,Ee,Ec,Eb,Ea,xc,xb,w9,w8,w7,lp,ll,aH,bL,bC,eR,fW,dm,dc,pl]
structure sS (P:List Pt):Prop where
 l:P.length<=900
 s:∀j,(bM P j).length<=64
theorem sS.m {P:List Pt} (h:sS P):∀x∈P,x.2.2.length<=1000:=fun x hx=>by
 obtain⟨i,hi,rfl⟩:=List.getElem_of_mem hx;have:=h.s i;unfold bM at this;rw[List.getD_eq_getElem?_getD,aj hi] at this;have e:(some P[i]).getD (0,0,[])=P[i]:=rfl;rw[e] at this;omega
theorem agw (P Q:List Pt) (h:sS P) (k:sS Q):bJ aq nQp [.list 3 (P.map bw),.list 3 (Q.map bw)] []=some (.dR [.list 1 (ints (IV P Q)),.list 1 (ints (IV Q P))],[]):=by
 have r1:=PU P Q h.l h.s k.l;have r2:=PU Q P k.l k.s h.l;obtain⟨c1,c2,c3,c4,c5,c6,c7,c8⟩:=jf Q;obtain⟨d1,d2,d3,d4,d5,d6,d7,d8⟩:=jf P;obtain⟨a1,a2,a3,a4,a5,a6,a7,a8,a9,aa,ab⟩:=bg (IV P Q);obtain⟨b1,b2,b3,b4,b5,b6,b7,b8,b9,ba,bb⟩:=bg (IV Q P);rw[dZ sQp (au rfl)];generalize ints (IV P Q)=O1 at *;generalize ints (IV Q P)=O2 at *;generalize P.map bw=Pv at *;generalize Q.map bw=Qv at *;unfold qQp cQp;simp[akc,akb,r1,r2,c1,c2,c3,c4,c5,c6,c7,c8,d1,d2,d3,d4,d5,d6,d7,d8,a1,a2,a3,a4,a5,a6,a7,a8,a9,aa,ab,b1,b2,b3,b4,b5,b6,b7,b8,b9,ba,bb,aH,bL,bC,eR,fW,dm,dc,pl,sQG,iQG]
theorem aek (P Q:List Pt) (h:sS P) (k:sS Q):bJ aq nQq [.list 3 (P.map bw),.list 3 (Q.map bw)] []=some (.dR [.list 1 (ints (IV P Q)),.list 1 (ints (IV Q P))],[]):=by
 have r1:=OC P Q h.l h.s k.l k.m;have r2:=OC Q P k.l k.s h.l h.m;obtain⟨c1,c2,c3,c4,c5,c6,c7,c8⟩:=jf Q;obtain⟨d1,d2,d3,d4,d5,d6,d7,d8⟩:=jf P;obtain⟨a1,a2,a3,a4,a5,a6,a7,a8,a9,aa,ab⟩:=bg (IV P Q);obtain⟨b1,b2,b3,b4,b5,b6,b7,b8,b9,ba,bb⟩:=bg (IV Q P);rw[dZ sQq (au rfl)];generalize ints (IV P Q)=O1 at *;generalize ints (IV Q P)=O2 at *;generalize P.map bw=Pv at *;generalize Q.map bw=Qv at *;unfold qQq cQq;simp[aka,aj9,r1,r2,c1,c2,c3,c4,c5,c6,c7,c8,d1,d2,d3,d4,d5,d6,d7,d8,a1,a2,a3,a4,a5,a6,a7,a8,a9,aa,ab,b1,b2,b3,b4,b5,b6,b7,b8,b9,ba,bb,aH,bL,bC,eR,fW,dm,dc,pl,sQH,iQH]
end Go.BmP
