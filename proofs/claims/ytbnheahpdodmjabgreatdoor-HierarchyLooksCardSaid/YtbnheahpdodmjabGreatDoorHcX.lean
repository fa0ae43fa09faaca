/- The hierarchy of cores, plain: the list of parts. -/
import Derived.Test.YtbnheahpdodmjabGreatDoorHcT
set_option linter.unusedSimpArgs false
set_option linter.unusedVariables false
open Bool renaming and_eq_true → ae
open List renaming getD_eq_getElem?_getD → aG, getElem?_eq_getElem → aj, getElem_mem → mV, getElem_of_mem → oO, length_map → aX, mem_cons_of_mem → cK, mem_cons_self → cI, mem_map → jZ, nodup_nil → uY, not_mem_nil → uR, pairwise_map → qL, replicate → bh, take_of_length_le → aT
open Nat renaming le_of_ble_eq_true → au, testBit_and → bW, zero_le → yM
open Option renaming getD_some → eJ
open Prod renaming fst → eU
namespace Go.BmP
open Go.Am Go.Bm
def iJ (P:List Pt) (i:Nat):Int:=(P.getD i (0,0,[])).1
theorem uq {P P':List Pt} (h:∀j,bM P j=bM P' j) (i:Nat):∀(n k:Nat) (p:Int),mY P i n k p=mY P' i n k p
 |0,k,p=>rfl
 |n+1,k,p=>by
   have e:iL P i p k=iL P' i p k:=by unfold iL zX; rw[h i,h k,h p.toNat]
   show mY P i n (k+1) (iL P i p k)=mY P' i n (k+1) (iL P' i p k);rw[e,uq h i n]
def QC (P:List Pt) (i:Nat) (p:Int):Prop:=p=-1\/(0<=p/\p<i/\(bM P i).length<(bM P p.toNat).length/\D3 (bM P i) (bM P p.toNat)=true)
theorem aia {P:List Pt} {i:Nat} {p:Int} (h:QC P i p) {k:Nat} (hk:k<i):QC P i (iL P i p k):=by
 unfold iL;split
 ·rename_i q;unfold zX at q;simp only[ae,decide_eq_true_eq] at q;have e:((k:Nat):Int).toNat=k:=by omega
  right;rw[e];exact⟨by omega,by omega,q.1,q.2.1⟩
 ·exact h
theorem aa8 {P:List Pt} {i:Nat}:∀(n k:Nat) (p:Int),k+n=i->QC P i p->QC P i (mY P i n k p)
 |0,k,p,_,h=>h
 |n+1,k,p,hk,h=>aa8 n (k+1) (iL P i p k) (by omega) (aia h (by omega))
theorem aa7 (P:List Pt) (i:Nat) (hi:i<P.length):(xk P i).getD i (0,0,[])=((P.getD i (0,0,[])).1,mY P i i 0 (ij P i),bM P i):=by
 unfold xk;rw[aG,List.getElem?_set,if_pos rfl,if_pos hi];rfl
theorem afg (P:List Pt) (i j:Nat) (hi:i<P.length):iJ (xk P i) j=iJ P j:=by
 unfold iJ;by_cases e:i=j
 ·subst e; rw[aa7 P i hi]
 ·rw[ED P i j e]
theorem oH:∀(n i:Nat) (P:List Pt),i+n=P.length->(sM n i P).length=P.length/\(∀j,bM (sM n i P) j=bM P j)/\(∀j,iJ (sM n i P) j=iJ P j)/\(∀j,j<i->ij (sM n i P) j=ij P j)/\∀ j,i<=j->j<P.length->ij (sM n i P) j=mY P j j 0 (ij P j)
 |0,i,P,hi=>⟨rfl,fun _=>rfl,fun _=>rfl,fun _ _=>rfl,fun j h1 h2=>by omega⟩
 |n+1,i,P,hi=>by
   have bE:i<P.length:=by omega
   obtain⟨a1,a2,a3,a4,a5⟩:=oH n (i+1) (xk P i) (by rw[uk]; omega);have e:sM (n+1) i P=sM n (i+1) (xk P i):=rfl;rw[e];have g:=fun j (h:i≠j)=>show ij (xk P i) j=ij P j by unfold ij; rw[ED P i j h]
   refine⟨by rw[a1,uk],fun j=>by rw[a2,Lj P i j bE],fun j=>by rw[a3,afg P i j bE],fun j hj=>by rw[a4 j (by omega),g j (by omega)],fun j h1 h2=>?_⟩;rcases Nat.eq_or_lt_of_le h1 with rfl|h1
   ·rw[a4 i (by omega)];unfold ij;rw[aa7 P i bE];rfl
   ·rw[a5 j h1 (by rw[uk]; exact h2),g j (by omega),uq (fun j=>Lj P i j bE)]
structure HOK (A:List Nat) (N:Nat) (L:List Int) (P:List Pt):Prop where
 len:P.length<=900
 lv:∀i,i<P.length->∃j R:Nat,iJ P i=(j:Int)/\j<=64/\Grp A (EZ L j) R/\bM P i=bZ R
 asc:∀i k,i<k->k<P.length->iJ P i<=iJ P k
 par:∀i,i<P.length->QC P i (ij P i)
 all:∀v:Nat,v<N->∃i,i<P.length/\(v:Int)∈bM P i/\L.getD v 0<=iJ P i
def prt (b:List (List Int × Int)):List Pt:=oC (b.map fun p=>(p.2,-1,p.1))
def ik (b:List (List Int × Int)):List Pt:=sM (prt b).length 0 (prt b)
theorem II {b:List (List Int × Int)} (hn:(b.map eU).Nodup):U0 (b.map fun p=>((p.2,-1,p.1):Pt))=true:=by
 rw[wB,qL];unfold List.Nodup at hn;rw[qL] at hn;exact hn.imp fun h e=>h e.2
theorem aaY (b:List (List Int × Int)):(prt b).length=b.length:=by unfold prt; rw[mZ,aX]
theorem Ba {b:List (List Int × Int)} {x:Pt}:x∈prt b ↔ ∃p∈b,(p.2,-1,p.1)=x:=by
 unfold prt;rw[(lK _).mem_iff,jZ]
theorem at_mem {P:List Pt} {i:Nat} (h:i<P.length):P.getD i (0,0,[])∈P:=by
 rw[aG,aj h];exact mV h
theorem U6 {A:List Nat} {N:Nat} {L:List Int} (h:rG A N L) (hI:∀a j,(A.getD a 0).testBit j=true->j<N):∀x∈L,0<=x/\x<=(N:Int):=fun x hx=>by
 obtain⟨i,hi,rfl⟩:=oO hx;obtain⟨x,e,q⟩:=h.2 i (by have:=h.1; omega);rw[aG,aj hi] at e;simp only[eJ] at e;rw[e];rcases (q x).1 (Nat.le_refl _) with r|⟨m',s,b,g⟩
 ·omega
 ·have g1:=g i b;unfold dgM at g1;rw[<-M6] at g1
  have:=xm (A:=bZ (m' &&& A.getD i 0)) (B:=(List.range N).map fun n=>((n:Nat):Int)) ((pS _).imp fun{a b} h=>by omega) fun y hy=>by
   obtain⟨j,rfl,j2,j3⟩:=gk.1 hy;rw[bW,ae] at j3;exact jZ.2 ⟨j,List.mem_range.2 (hI i j j3.2),rfl⟩
  rw[aX,List.length_range] at this;omega
theorem aiR {A:List Nat} {N M:Nat} {L:List Int} (hS:GK A) (hN:N<=64) (hM:M<=64) (hL:rG A N L) (hx:∀x∈L,x<=(M:Int)) (hg:∀m v:Nat,m<18446744073709551616->m.testBit v=true->(∀j,m.testBit j=true->j<N)->∃R,pT A m (2 ^ v) R) {b:List (List Int × Int)} (hb:YR A L 0 (M+1) [] b) (hl:b.length<=900):HOK A N L (ik b):=by
 have w:∀k,EZ L k<18446744073709551616:=fun k=>Mw k L 0 0 (by have:=hL.1; omega) (by omega);have hn:(b.map eU).Nodup:=LP hb uY;have bi:=anM w hb uY (fun p h=>absurd h uR);have be:=(anN w hS hb uY).2;obtain⟨s1,s2,s3,s4,s5⟩:=oH (prt b).length 0 (prt b) (by omega)
 have pm:∀i,i<(prt b).length->ij (prt b) i=-1:=fun i hi=>by
  obtain⟨p,_,e⟩:=Ba.1 (at_mem hi);unfold ij; rw[<-e]
 have asc:(prt b).Pairwise fun x y=>wQ x y=true:=xt (II hn);refine⟨by unfold ik; rw[s1,aaY]; exact hl,fun i hi=>?_,fun i k wS hk=>?_,fun i hi=>?_,fun v hv=>?_⟩
 ·unfold ik at *;rw[s1] at hi;rw[s2,s3];obtain⟨p,hp,e⟩:=Ba.1 (at_mem hi);obtain⟨j,j1,j2,R,j3,j4⟩:=bi p hp;refine⟨j,R,?_,by omega,j3,?_⟩
  ·unfold iJ; rw[<-e]; exact j2
  ·unfold bM; rw[<-e]; exact j4
 ·unfold ik at *;rw[s1] at hk;rw[s3,s3];have:=List.pairwise_iff_getElem.1 asc i k (by omega) hk wS;unfold iJ;rw[aG,aj (by omega),aG,aj hk];rcases th.1 this with h|h
  ·exact Int.le_of_lt h
  ·exact Int.le_of_eq h.1
 ·unfold ik at *;rw[s1] at hi;rw[s5 i (by omega) hi];have:=aa8 (P:=prt b) (i:=i) i 0 (ij (prt b) i) (by omega) (.inl (pm i hi));unfold QC at *;rw[s2];rcases this with h|h
  ·exact .inl h
  ·exact .inr ⟨h.1,h.2.1,by rw[s2]; exact h.2.2.1,by rw[s2]; exact h.2.2.2⟩
 ·obtain⟨x,e,q⟩:=hL.2 v hv;have hv2:v<L.length:=by have:=hL.1; omega
  have hm:L.getD v 0∈L:=by
   rw[aG,aj hv2];exact mV hv2
  have hxM:=hx _ hm;have vb:(EZ L x).testBit v=true:=EY.2 ⟨hv2,by omega⟩;obtain⟨R,hR⟩:=hg (EZ L x) v (w x) vb fun j hj=>by have:=(EY.1 hj).1; have:=hL.1; omega
  have hG:Grp A (EZ L x) R:=⟨v,vb,hR⟩;obtain⟨y,y1,y2⟩:=be (bZ R) x (by omega) (by omega) ⟨R,hG,rfl⟩;obtain⟨i,hi,e2⟩:=oO (Ba.2 ⟨_,y2,rfl⟩);unfold ik;refine⟨i,by rw[s1]; exact hi,?_,?_⟩
  ·rw[s2];unfold bM;rw[aG,aj hi,eJ,e2];exact (iO (Yb hG)).2 (hR.sub v (wV v))
  ·rw[s3,e];unfold iJ;rw[aG,aj hi,eJ,e2];exact y1
theorem agp {A:List Nat} {N:Nat} {L:List Int} {P:List Pt} (hS:GK A) (h:HOK A N L P) {i k:Nat} (hk:k<i) (hi:i<P.length):meet (bM P i) (bM P k)=[]\/meet (bM P i) (bM P k)=bM P i:=by
 obtain⟨j,R,j1,_,j2,j3⟩:=h.lv i hi;obtain⟨j',S,k1,_,k2,k3⟩:=h.lv k (by omega);have hle:=h.asc k i hk hi;obtain⟨mu,mm⟩:=tB (bM P i) (bM P k);by_cases q:meet (bM P i) (bM P k)=[]
 ·exact .inl q
 ·obtain⟨x,hx⟩:=List.exists_mem_of_ne_nil _ q;obtain⟨x1,x2⟩:=(mm x).1 hx;rw[j3] at x1;rw[k3] at x2;obtain⟨u,rfl,u1,u2⟩:=gk.1 x1;have u3:=(iO (Yb k2)).1 x2;have s:=Ms hS (aiB (by omega:j'<=j)) j2 k2 u2 u3;right;refine tK mu (by rw[j3]; exact pS _) fun y=>?_;rw[mm];constructor
  ·exact fun z=>z.1
  ·intro z;refine⟨z,?_⟩;rw[j3] at z;rw[k3];obtain⟨u,rfl,u1,u2⟩:=gk.1 z;exact (iO (Yb k2)).2 (s u u2)
def DS (P:List Pt) (v lv:Int) (i:Nat):Bool:=decide (iJ P i<=lv)&&decide (v∈bM P i)
def tn (P:List Pt) (kp:Nat->Bool) (at':Int) (i:Nat):Int:=if (kp i&&(decide (at'<0)||decide (iJ P at'.toNat<=iJ P i)))=true then i else at'
def MY (P:List Pt) (kp:Nat->Bool):Nat->Nat->Int->Int
 |0,_,a=>a
 |n+1,i,a=>MY P kp n (i+1) (tn P kp a i)
/- hierarchy.gathered, as a whole. -/
set_option maxRecDepth 100000
set_option maxHeartbeats 8000000
theorem alH {b:List (List Int × Int)} (hn:(b.map eU).Nodup) (iZ:∀p∈b,p.1.length<=64):okP (b.map fun p=>((p.2,-1,p.1):Pt))=true:=by
 unfold okP;rw[II hn,Bool.true_and,List.all_eq_true];intro z hz;obtain⟨p,hp,rfl⟩:=jZ.1 hz;have:=iZ p hp;exact decide_eq_true (by simp; omega)
theorem ae5 {nC:Nat} {b:List (List Int × Int)} (hn:(b.map eU).Nodup) (iZ:∀p∈b,p.1.length<=64) (hl:b.length<=900):psG nC 3 (LQ b b.length) [.func (.func nC) [] []]=some ((prt b).map bw,none):=by
 have e:LQ b b.length=(b.map fun p=>((p.2,-1,p.1):Pt)).map bw:=by rw[aiD,List.map_map]; rfl
 rw[e];simp only[psG];rw[if_pos ⟨trivial,trivial,by rw[aX,aX]; unfold ks; omega⟩,Pj];simp only;rw[if_pos (alH hn iZ)];rfl
theorem alG {b:List (List Int × Int)} (iZ:∀p∈b,p.1.length<=64) (j:Nat):(bM (prt b) j).length<=64:=by
 unfold bM;by_cases h:j<(prt b).length
 ·obtain⟨p,hp,e⟩:=Ba.1 (at_mem h);rw[<-e];exact iZ p hp
 ·rw[aG,List.getElem?_eq_none (by omega)];exact yM _
theorem ah4 (b:List (List Int × Int)) (j:Nat) (h:j<(prt b).length):ij (prt b) j=-1:=by
 obtain⟨p,_,e⟩:=Ba.1 (at_mem h);unfold ij; rw[<-e]
theorem anL {A:List Nat} {L:List Int} {k n:Nat} {a b:List (List Int × Int)} (h:YR A L k n a b):(∀p∈a,p.1.length<=64)->∀p∈b,p.1.length<=64:=by
 induction h with
 |nil=>exact id
 |cons k n a b l _ _ ih=>
   intro ha;refine ih ?_
   have:∀(l:List Nat) (a:List (List Int × Int)),(∀p∈a,p.1.length<=64)->∀p∈pZ k a (l.map bZ),p.1.length<=64:=by
    intro l
    induction l with
    |nil=>exact fun a ha=>ha
    |cons R r ih2=>exact fun a ha=>ih2 (iQ a (bZ R) k) fun p hp=>(zk hp).elim (fun e=>by rw[e]; exact nt R) (ha p)
   exact this l a ha
structure Lg (D:List AV):Prop where
 bo:dz D=[]
 ow:bS D=false
 mp:∀g,dp g D=D
 pl:dc D=true
 pt:dJ D=[]
 np:∀b,lH b D=true
 av:fI D D=true
 pp:dm D=true
theorem jf (P:List Pt):Lg (P.map bw):=by
 induction P with
 |nil=>exact⟨rfl,rfl,fun _=>rfl,rfl,rfl,fun _=>rfl,rfl,rfl⟩
 |cons p r ih=>
   rw[List.map_cons];obtain⟨c1,c2,c3,c4,c5,c6,c7,c8⟩:=ih;generalize r.map bw=R1 at *;unfold bw;obtain⟨b1,b2,b3,b4,b5,b6,b7,b8,b9,ba,bb⟩:=bg p.2.2;generalize ints p.2.2=S1 at *;refine⟨?_,?_,fun g=>?_,?_,?_,fun b=>?_,?_,?_⟩
   ·simp[dz,aV,c1]
   ·simp[bS,c2]
   ·simp[dp,cW,c3]
   ·simp[dc,pl,c4,b4]
   ·simp[dJ,iH,c5]
   ·simp[lH,vf,c6]
   ·simp[fI,ke,c7,b7]
   ·simp[dm,fW,c8]
theorem RV {N:Nat} {Es:List Ed} (hG:uQ (N:Int) Es) (hE:Es.length<1000000) (o L:List Int) (hL:L.length=N) (M:Nat) (hM:M<=13) :
  ∃ b,(YR (eK N Es) L 0 (M+1) [] b/\b.length<=900)/\bJ aq nQJ [.int .i64 M,Ix] (hC N (fe Es) (ints o) (ints L))=some (.list 3 ((ik b).map bw),hC N (fe Es) (ints o) (ints L)):=by
 obtain⟨b,⟨b1,b2,b3⟩,lp1⟩:=ab3 hG hE o L hL (M+1) (by omega) (M+1) 0 [] (by omega) (fun p h=>absurd h uR) (yM _);refine⟨b,⟨b1,b3⟩,?_⟩;have hn:(b.map eU).Nodup:=LP b1 uY;have iZ:=anL b1 (fun p h=>absurd h uR);have lp2:=ab2 (N:=N) (Y:=fe Es) o L b b2 hn b3 iZ b.length 0 (by omega);have pl:=aaY b;have lp3:=ab0 (N:=N) (Y:=fe Es) o L (prt b).length 0 (prt b) (by omega) (by omega) (alG iZ) (fun j _ h=>ah4 b j h);have ps:=ae5 (nC:=nQ3) hn iZ b3;have la:=Dr b b.length
 have hw:IntKind.i64.wrap ((M:Int)+1)=(M+1:Nat):=by
  have:=dA (i:=M) (by omega);simpa using this
 have zl:LQ b 0=rh b:=afW b;have lpa:=zV b
 have lh:((ik b).map bw).length=b.length:=by
  unfold ik;rw[aX,(oH (prt b).length 0 (prt b) (by omega)).1,pl]
 have tkh:((ik b).map bw).take b.length=(ik b).map bw:=aT (by omega);obtain⟨g1,g2,g3,g4,g5,g6,g7,g8⟩:=jf (ik b);have eh:sM b.length 0 (prt b)=ik b:=by unfold ik; rw[pl]
 have ehl:(ik b).length=b.length:=by rw[aX] at lh; exact lh
 have tkl:(LQ b b.length).take b.length=LQ b b.length:=aT (by omega);have dpl:(LQ b b.length).drop b.length=[]:=List.drop_eq_nil_of_le (by omega);have lq:((prt b).map bw).length=b.length:=by rw[aX,pl]
 obtain⟨a1,a2,a3,a4,a5,a6,a7,a8,a9,aa,ab⟩:=bg o;obtain⟨b1',b2',b3',b4,b5,b6,b7,b8,b9,ba,bb⟩:=bg L;obtain⟨c1,c2,c3,c4,c5,c6,c8⟩:=qb b;have x1:=vj (bg o);have x2:=vj (bg L);have x3:=E0 (qb b);rw[dZ sQJ (au rfl)];unfold Yi Yh Yg hH hC uh qp at *;rw[zl] at lp2;simp only[fH,pl] at lp1 lp2 lp3;change aW aq 5 (.loop PM) ⟨(1,Ix)::(5,.func (.yield 0) [] [.ptr 5 0])::(6,.own 3 [])::(17,.int .i64 (M+1:Nat))::(18,.int .i64 0)::[],[some [.int .i64 N,.list 2 (fe Es)],some [.int .i64 N,.list 2 (fe Es)],some (ints o),some (ints L),some [.sl 1 3 0 N],some []]⟩=_ at lp1;rw[eh] at lp3;rw[ehl] at lp3;generalize (ik b).map bw=Ph at *;generalize (prt b).map bw=Pp at *;generalize LQ b b.length=Pl at *;generalize rh b=Pa at *;generalize DD b=E1 at *;generalize ints o=O1 at *;generalize ints L=L1 at *;generalize fe Es=Y at *;have e1:((M+1:Nat):Int)=(M:Int)+1:=by omega
 rw[e1] at lp1 hw;unfold Ix at *;unfold qQJ cQJ;simp[rf,rb,q9,q8,q7,q6,qZ,qY,qX,qW,lC,lx,lr,lk,lj,lg,k9,k8,k7,kZ,kY,kX,kW,kV,kU,kT,kS,kR,kQ,kP,kO,kN,lp1,lp2,lp3,hw,la,lpa,lh,lq,tkh,tkl,dpl,List.append_nil,g1,g2,g3,g4,g5,g6,g7,g8,ps,x1,x2,x3,a1,a2,a3,a4,a5,a6,a7,a8,a9,aa,ab,b1',b2',b3',b4,b5,b6,b7,b8,b9,ba,bb,c1,c2,c3,c4,c5,c6,c8,mapOf,qp,kB,aH,gn,bL,bC,eR,fW,dm,dc,pl,fx,cN,jD,jC,dn,de,bX,dB,eX,iH,dJ,iC,ke,fI,sQ2,iQ2]
/- hierarchy.Cores. -/
theorem aee {N:Nat} {Es:List Ed} (hG:uQ (N:Int) Es) (m v:Nat) (hm:m<18446744073709551616) (hv:m.testBit v=true) (hj:∀j,m.testBit j=true->j<N):∃R,pT (eK N Es) m (2 ^ v) R:=by
 have hN:N<=64:=by have:=hG.1.2; omega
 have p64:2 ^ v<18446744073709551616:=by
  have:=Nat.pow_lt_pow_right (a:=2) (by decide) (show v<64 by have:=hj v hv; omega);rw[show (18446744073709551616:Nat)=2 ^ 64 from rfl]; exact this
 obtain⟨R,r1,_⟩:=OE (A:=eK N Es) (W:=m) (f:=2 ^ v) (by rw[(lV hG).1]; omega) (acG hG) hm p64 fun j h=>by rw[(lV hG).1]; exact hj j h
 have e:2 ^ v &&& m=2 ^ v:=by
  apply Nat.eq_of_testBit_eq;intro j;rw[bW,Nat.testBit_two_pow];by_cases e:v=j
  ·subst e; simp[hv]
  ·simp[e]
 rw[e] at r1;exact⟨R,r1⟩
theorem Yx {N:Nat} {Es:List Ed} (hG:uQ (N:Int) Es) (hE:Es.length<1000000) (h0:0<N) (h13:N<=13) :
  ∃ L b M,(rG (eK N Es) N L/\HOK (eK N Es) N L (ik b)/\(b.map eU).Nodup/\YR (eK N Es) L 0 (M+1) [] b/\(∀x∈L,x<=(M:Int))/\((M:Nat):Int)∈L)/\bJ aq nQr [.agg [.int .i64 N,.list 2 (fe Es)]] []=some (.dR [.list 3 ((ik b).map bw),.int .i64 0],[]):=by
 have hN:N<=64:=by omega
 obtain⟨o,ds,hp,nr⟩:=agV hG hE h0;have ln:(sK o ds 0 (bh N 0)).length=N:=by rw[Lh,List.length_replicate]
 have hL:=ae8 hN hp ln;generalize sK o ds 0 (bh N 0)=L at *;obtain⟨s1,s2,s3⟩:=tH hG;have bd:=U6 hL s3
 obtain⟨d,L',rfl⟩:∃d L',L=d::L':=by
  cases L with
  |nil=>simp at ln; omega
  |cons d r=>exact⟨d,r,rfl⟩
 obtain⟨m1,m2,m3⟩:=afI L' d
 have mb:0<=Ue d L'/\Ue d L'<=(N:Int):=by
  have b1:=bd d cI;rcases m3 with m3|m3
  ·omega
  ·have:=bd _ (cK d m3); omega
 obtain⟨M,hM⟩:∃M:Nat,Ue d L'=M:=⟨(Ue d L').toNat,by omega⟩
 have hx:∀x∈d::L',x<=(M:Int):=fun x hx=>by
  rw[<-hM];rcases List.mem_cons.1 hx with rfl|hx
  ·exact m1
  ·exact m2 x hx
 obtain⟨b,⟨b1,b2⟩,gr⟩:=RV hG hE (ns o) (d::L') ln M (by omega);have mr:=aiA d L' (by simp at ln; omega);rw[hM] at mr
 refine⟨d::L',b,M,⟨hL,aiR s1 hN (by omega) hL hx (aee hG) b1 b2,LP b1 uY,b1,hx,by
  rw[<-hM];rcases m3 with m3|m3
  ·rw[m3]; exact cI
  ·exact cK d m3⟩,?_⟩
 have ll:=ah (d::L');rw[ln] at ll;have tk:(ints (d::L')).take N=ints (d::L'):=aT (by omega);have n0:¬(N:Int)=0:=by omega
 have n0':¬N=0:=by omega
 obtain⟨a1,a2,a3,a4,a5,a6,a7,a8,a9,aa,ab⟩:=bg (ns o);obtain⟨b1',b2',b3',b4,b5,b6,b7,b8,b9,ba,bb⟩:=bg (d::L');have x1:=vj (bg (ns o));have x2:=vj (bg (d::L'));have n1:∀f n,fj f n (ints (d::L'))=ints (d::L'):=fun f n=>Gf f (d::L') n;obtain⟨g1,g2,g3,g4,g5,g6,g7,g8⟩:=jf (ik b);rw[dZ sQr (au rfl)];unfold hC uh Ix at *;generalize (ik b).map bw=Ph at *;generalize ints (ns o)=O1 at *;generalize ints (d::L')=L1 at *;generalize fe Es=Y at *;unfold qQr cQr;simp[aj8,aj7,aj6,aj5,aj4,nr,mr,gr,ll,tk,n0,n0',g1,g2,g3,g4,g5,g6,g7,g8,n1,x1,x2,a1,a2,a3,a4,a5,a6,a7,a8,a9,aa,ab,b1',b2',b3',b4,b5,b6,b7,b8,b9,ba,bb,kB,aH,gn,bL,bC,eR,fW,dm,dc,pl,fx,cN,jD,jC,dn,de,bX,dB,eX,iH,dJ,iC,ke,fI,sQK,iQK,sQI,iQI,sQJ,iQJ]
end Go.BmP
