/- The hierarchy of cores, plain: the list of parts. -/
import Derived.Test.YtbnheahpdodmjaaGreatDoorHcT
set_option linter.unusedSimpArgs false
set_option linter.unusedVariables false
open Bool renaming and_eq_true → ae
open List renaming getD_eq_getElem?_getD → au, getElem?_eq_getElem → ai, getElem_mem → eG, getElem_of_mem → n9, length_map → aQ, mem_cons_of_mem → cH, mem_cons_self → cF, mem_map → jP, nodup_nil → uf, not_mem_nil → tW, pairwise_map → qj, replicate → aW, take_of_length_le → aK
open Nat renaming le_of_ble_eq_true → aB, testBit_and → bU, zero_le → jN
open Option renaming getD_some → dY
open Prod renaming fst → eP
namespace Go.BmP
open Go.Am Go.Bm
def yG (P:List Pt) (i:Nat):Int:=(P.getD i (0,0,[])).1
theorem tw {P P':List Pt} (h:∀j,bR P j=bR P' j) (i:Nat):∀(n k:Nat) (p:Int),mS P i n k p=mS P' i n k p
 |0,k,p=>rfl
 |n+1,k,p=>by
   have e:iA P i p k=iA P' i p k:=by unfold iA zB; rw[h i,h k,h p.toNat]
   show mS P i n (k+1) (iA P i p k)=mS P' i n (k+1) (iA P' i p k);rw[e,tw h i n]
def Pj (P:List Pt) (i:Nat) (p:Int):Prop:=p=-1\/(0<=p/\p<i/\(bR P i).length<(bR P p.toNat).length/\Dq (bR P i) (bR P p.toNat)=true)
theorem agC {P:List Pt} {i:Nat} {p:Int} (h:Pj P i p) {k:Nat} (hk:k<i):Pj P i (iA P i p k):=by
 unfold iA;split
 ·rename_i q;unfold zB at q;simp only[ae,decide_eq_true_eq] at q;have e:((k:Nat):Int).toNat=k:=by omega
  right;rw[e];exact⟨by omega,by omega,q.1,q.2.1⟩
 ·exact h
theorem ZT {P:List Pt} {i:Nat}:∀(n k:Nat) (p:Int),k+n=i->Pj P i p->Pj P i (mS P i n k p)
 |0,k,p,_,h=>h
 |n+1,k,p,hk,h=>ZT n (k+1) (iA P i p k) (by omega) (agC h (by omega))
theorem ZS (P:List Pt) (i:Nat) (hi:i<P.length):(wG P i).getD i (0,0,[])=((P.getD i (0,0,[])).1,mS P i i 0 (pj P i),bR P i):=by
 unfold wG;rw[au,List.getElem?_set,if_pos rfl,if_pos hi];rfl
theorem adE (P:List Pt) (i j:Nat) (hi:i<P.length):yG (wG P i) j=yG P j:=by
 unfold yG;by_cases e:i=j
 ·subst e; rw[ZS P i hi]
 ·rw[D3 P i j e]
theorem nQ:∀(n i:Nat) (P:List Pt),i+n=P.length->(rT n i P).length=P.length/\(∀j,bR (rT n i P) j=bR P j)/\(∀j,yG (rT n i P) j=yG P j)/\(∀j,j<i->pj (rT n i P) j=pj P j)/\∀ j,i<=j->j<P.length->pj (rT n i P) j=mS P j j 0 (pj P j)
 |0,i,P,hi=>⟨rfl,fun _=>rfl,fun _=>rfl,fun _ _=>rfl,fun j h1 h2=>by omega⟩
 |n+1,i,P,hi=>by
   have bF:i<P.length:=by omega
   obtain⟨a1,a2,a3,a4,a5⟩:=nQ n (i+1) (wG P i) (by rw[tv]; omega);have e:rT (n+1) i P=rT n (i+1) (wG P i):=rfl;rw[e];have g:=fun j (h:i≠j)=>show pj (wG P i) j=pj P j by unfold pj; rw[D3 P i j h]
   refine⟨by rw[a1,tv],fun j=>by rw[a2,Kx P i j bF],fun j=>by rw[a3,adE P i j bF],fun j hj=>by rw[a4 j (by omega),g j (by omega)],fun j h1 h2=>?_⟩;rcases Nat.eq_or_lt_of_le h1 with rfl|h1
   ·rw[a4 i (by omega)];unfold pj;rw[ZS P i bF];rfl
   ·rw[a5 j h1 (by rw[tv]; exact h2),g j (by omega),tw (fun j=>Kx P i j bF)]
structure HOK (A:List Nat) (N:Nat) (L:List Int) (P:List Pt):Prop where
 len:P.length<=900
 lv:∀i,i<P.length->∃j R:Nat,yG P i=(j:Int)/\j<=64/\Grp A (En L j) R/\bR P i=bW R
 asc:∀i k,i<k->k<P.length->yG P i<=yG P k
 par:∀i,i<P.length->Pj P i (pj P i)
 all:∀v:Nat,v<N->∃i,i<P.length/\(v:Int)∈bR P i/\L.getD v 0<=yG P i
def prt (b:List (List Int × Int)):List Pt:=nI (b.map fun p=>(p.2,-1,p.1))
def gV (b:List (List Int × Int)):List Pt:=rT (prt b).length 0 (prt b)
theorem Iw {b:List (List Int × Int)} (hn:(b.map eP).Nodup):TA (b.map fun p=>((p.2,-1,p.1):Pt))=true:=by
 rw[vQ,qj];unfold List.Nodup at hn;rw[qj] at hn;exact hn.imp fun h e=>h e.2
theorem ZJ (b:List (List Int × Int)):(prt b).length=b.length:=by unfold prt; rw[mT,aQ]
theorem AJ {b:List (List Int × Int)} {x:Pt}:x∈prt b ↔ ∃p∈b,(p.2,-1,p.1)=x:=by
 unfold prt;rw[(lC _).mem_iff,jP]
theorem at_mem {P:List Pt} {i:Nat} (h:i<P.length):P.getD i (0,0,[])∈P:=by
 rw[au,ai h];exact eG h
theorem TC {A:List Nat} {N:Nat} {L:List Int} (h:sG A N L) (hI:∀a j,(A.getD a 0).testBit j=true->j<N):∀x∈L,0<=x/\x<=(N:Int):=fun x hx=>by
 obtain⟨i,hi,rfl⟩:=n9 hx;obtain⟨x,e,q⟩:=h.2 i (by have:=h.1; omega);rw[au,ai hi] at e;simp only[dY] at e;rw[e];rcases (q x).1 (Nat.le_refl _) with r|⟨m',s,b,g⟩
 ·omega
 ·have g1:=g i b;unfold dgM at g1;rw[<-Mc] at g1
  have:=u9 (A:=bW (m' &&& A.getD i 0)) (B:=(List.range N).map fun n=>((n:Nat):Int)) ((nA _).imp fun{a b} h=>by omega) fun y hy=>by
   obtain⟨j,rfl,j2,j3⟩:=fG.1 hy;rw[bU,ae] at j3;exact jP.2 ⟨j,List.mem_range.2 (hI i j j3.2),rfl⟩
  rw[aQ,List.length_range] at this;omega
theorem ahf {A:List Nat} {N M:Nat} {L:List Int} (hS:Im A) (hN:N<=64) (hM:M<=64) (hL:sG A N L) (hx:∀x∈L,x<=(M:Int)) (hg:∀m v:Nat,m<18446744073709551616->m.testBit v=true->(∀j,m.testBit j=true->j<N)->∃R,pd A m (2 ^ v) R) {b:List (List Int × Int)} (hb:Xs A L 0 (M+1) [] b) (hl:b.length<=900):HOK A N L (gV b):=by
 have w:∀k,En L k<18446744073709551616:=fun k=>LB k L 0 0 (by have:=hL.1; omega) (by omega);have hn:(b.map eP).Nodup:=KX hb uf;have bi:=amu w hb uf (fun p h=>absurd h tW);have be:=(amv w hS hb uf).2;obtain⟨s1,s2,s3,s4,s5⟩:=nQ (prt b).length 0 (prt b) (by omega)
 have pm:∀i,i<(prt b).length->pj (prt b) i=-1:=fun i hi=>by
  obtain⟨p,_,e⟩:=AJ.1 (at_mem hi);unfold pj; rw[<-e]
 have asc:(prt b).Pairwise fun x y=>wg x y=true:=wM (Iw hn);refine⟨by unfold gV; rw[s1,ZJ]; exact hl,fun i hi=>?_,fun i k wi hk=>?_,fun i hi=>?_,fun v hv=>?_⟩
 ·unfold gV at *;rw[s1] at hi;rw[s2,s3];obtain⟨p,hp,e⟩:=AJ.1 (at_mem hi);obtain⟨j,j1,j2,R,j3,j4⟩:=bi p hp;refine⟨j,R,?_,by omega,j3,?_⟩
  ·unfold yG; rw[<-e]; exact j2
  ·unfold bR; rw[<-e]; exact j4
 ·unfold gV at *;rw[s1] at hk;rw[s3,s3];have:=List.pairwise_iff_getElem.1 asc i k (by omega) hk wi;unfold yG;rw[au,ai (by omega),au,ai hk];rcases sN.1 this with h|h
  ·exact Int.le_of_lt h
  ·exact Int.le_of_eq h.1
 ·unfold gV at *;rw[s1] at hi;rw[s5 i (by omega) hi];have:=ZT (P:=prt b) (i:=i) i 0 (pj (prt b) i) (by omega) (.inl (pm i hi));unfold Pj at *;rw[s2];rcases this with h|h
  ·exact .inl h
  ·exact .inr ⟨h.1,h.2.1,by rw[s2]; exact h.2.2.1,by rw[s2]; exact h.2.2.2⟩
 ·obtain⟨x,e,q⟩:=hL.2 v hv;have hv2:v<L.length:=by have:=hL.1; omega
  have hm:L.getD v 0∈L:=by
   rw[au,ai hv2];exact eG hv2
  have hxM:=hx _ hm;have vb:(En L x).testBit v=true:=AR.2 ⟨hv2,by omega⟩;obtain⟨R,hR⟩:=hg (En L x) v (w x) vb fun j hj=>by have:=(AR.1 hj).1; have:=hL.1; omega
  have hG:Grp A (En L x) R:=⟨v,vb,hR⟩;obtain⟨y,y1,y2⟩:=be (bW R) x (by omega) (by omega) ⟨R,hG,rfl⟩;obtain⟨i,hi,e2⟩:=n9 (AJ.2 ⟨_,y2,rfl⟩);unfold gV;refine⟨i,by rw[s1]; exact hi,?_,?_⟩
  ·rw[s2];unfold bR;rw[au,ai hi,dY,e2];exact (iF (WH hG)).2 (hR.sub v (wk v))
  ·rw[s3,e];unfold yG;rw[au,ai hi,dY,e2];exact y1
theorem aeQ {A:List Nat} {N:Nat} {L:List Int} {P:List Pt} (hS:Im A) (h:HOK A N L P) {i k:Nat} (hk:k<i) (hi:i<P.length):meet (bR P i) (bR P k)=[]\/meet (bR P i) (bR P k)=bR P i:=by
 obtain⟨j,R,j1,_,j2,j3⟩:=h.lv i hi;obtain⟨j',S,k1,_,k2,k3⟩:=h.lv k (by omega);have hle:=h.asc k i hk hi;obtain⟨mu,mm⟩:=sX (bR P i) (bR P k);by_cases q:meet (bR P i) (bR P k)=[]
 ·exact .inl q
 ·obtain⟨x,hx⟩:=List.exists_mem_of_ne_nil _ q;obtain⟨x1,x2⟩:=(mm x).1 hx;rw[j3] at x1;rw[k3] at x2;obtain⟨u,rfl,u1,u2⟩:=fG.1 x1;have u3:=(iF (WH k2)).1 x2;have s:=Lv hS (ag1 (by omega:j'<=j)) j2 k2 u2 u3;right;refine ta mu (by rw[j3]; exact nA _) fun y=>?_;rw[mm];constructor
  ·exact fun z=>z.1
  ·intro z;refine⟨z,?_⟩;rw[j3] at z;rw[k3];obtain⟨u,rfl,u1,u2⟩:=fG.1 z;exact (iF (WH k2)).2 (s u u2)
def kpP (P:List Pt) (v lv:Int) (i:Nat):Bool:=decide (yG P i<=lv)&&decide (v∈bR P i)
def bsS (P:List Pt) (kp:Nat->Bool) (at':Int) (i:Nat):Int:=if (kp i&&(decide (at'<0)||decide (yG P at'.toNat<=yG P i)))=true then i else at'
def bsG (P:List Pt) (kp:Nat->Bool):Nat->Nat->Int->Int
 |0,_,a=>a
 |n+1,i,a=>bsG P kp n (i+1) (bsS P kp a i)
/- hierarchy.gathered, as a whole. -/
set_option maxRecDepth 100000
set_option maxHeartbeats 8000000
theorem aj7 {b:List (List Int × Int)} (hn:(b.map eP).Nodup) (iR:∀p∈b,p.1.length<=64):okP (b.map fun p=>((p.2,-1,p.1):Pt))=true:=by
 unfold okP;rw[Iw hn,Bool.true_and,List.all_eq_true];intro z hz;obtain⟨p,hp,rfl⟩:=jP.1 hz;have:=iR p hp;exact decide_eq_true (by simp; omega)
theorem adr {nC:Nat} {b:List (List Int × Int)} (hn:(b.map eP).Nodup) (iR:∀p∈b,p.1.length<=64) (hl:b.length<=900):psG nC 3 (KY b b.length) [.func (.func nC) [] []]=some ((prt b).map bH,none):=by
 have e:KY b b.length=(b.map fun p=>((p.2,-1,p.1):Pt)).map bH:=by rw[ag3,List.map_map]; rfl
 rw[e];simp only[psG];rw[if_pos ⟨trivial,trivial,by rw[aQ,aQ]; unfold lU; omega⟩,N6];simp only;rw[if_pos (aj7 hn iR)];rfl
theorem aj6 {b:List (List Int × Int)} (iR:∀p∈b,p.1.length<=64) (j:Nat):(bR (prt b) j).length<=64:=by
 unfold bR;by_cases h:j<(prt b).length
 ·obtain⟨p,hp,e⟩:=AJ.1 (at_mem h);rw[<-e];exact iR p hp
 ·rw[au,List.getElem?_eq_none (by omega)];exact jN _
theorem agw (b:List (List Int × Int)) (j:Nat) (h:j<(prt b).length):pj (prt b) j=-1:=by
 obtain⟨p,_,e⟩:=AJ.1 (at_mem h);unfold pj; rw[<-e]
theorem amt {A:List Nat} {L:List Int} {k n:Nat} {a b:List (List Int × Int)} (h:Xs A L k n a b):(∀p∈a,p.1.length<=64)->∀p∈b,p.1.length<=64:=by
 induction h with
 |nil=>exact id
 |cons k n a b l _ _ ih=>
   intro ha;refine ih ?_
   have:∀(l:List Nat) (a:List (List Int × Int)),(∀p∈a,p.1.length<=64)->∀p∈pk k a (l.map bW),p.1.length<=64:=by
    intro l
    induction l with
    |nil=>exact fun a ha=>ha
    |cons R r ih2=>exact fun a ha=>ih2 (iH a (bW R) k) fun p hp=>(yM hp).elim (fun e=>by rw[e]; exact mY R) (ha p)
   exact this l a ha
structure Lg (D:List AV):Prop where
 bo:dn D=[]
 ow:bT D=false
 mp:∀g,dc g D=D
 pl:dq D=true
 pt:iy D=[]
 np:∀b,lk b D=true
 av:nJ D D=true
 pp:eZ D=true
theorem gU (P:List Pt):Lg (P.map bH):=by
 induction P with
 |nil=>exact⟨rfl,rfl,fun _=>rfl,rfl,rfl,fun _=>rfl,rfl,rfl⟩
 |cons p r ih=>
   rw[List.map_cons];obtain⟨c1,c2,c3,c4,c5,c6,c7,c8⟩:=ih;generalize r.map bH=R1 at *;unfold bH;obtain⟨b1,b2,b3,b4,b5,b6,b7,b8,b9,ba,bb⟩:=bj p.2.2;generalize ints p.2.2=S1 at *;refine⟨?_,?_,fun g=>?_,?_,?_,fun b=>?_,?_,?_⟩
   ·simp[dn,aS,c1]
   ·simp[bT,c2]
   ·simp[dc,cT,c3]
   ·simp[dq,pl,c4,b4]
   ·simp[iy,zz,c5]
   ·simp[lk,uu,c6]
   ·simp[nJ,tS,c7,b7]
   ·simp[eZ,jR,c8]
theorem Qx {N:Nat} {Es:List Ed} (hG:tV (N:Int) Es) (hE:Es.length<1000000) (o L:List Int) (hL:L.length=N) (M:Nat) (hM:M<=13) :
  ∃ b,(Xs (eB N Es) L 0 (M+1) [] b/\b.length<=900)/\bu an nQB [.int .i64 M,Ik] (hC N (dA Es) (ints o) (ints L))=some (.list 3 ((gV b).map bH),hC N (dA Es) (ints o) (ints L)):=by
 obtain⟨b,⟨b1,b2,b3⟩,lp1⟩:=aaO hG hE o L hL (M+1) (by omega) (M+1) 0 [] (by omega) (fun p h=>absurd h tW) (jN _);refine⟨b,⟨b1,b3⟩,?_⟩;have hn:(b.map eP).Nodup:=KX b1 uf;have iR:=amt b1 (fun p h=>absurd h tW);have lp2:=aaN (N:=N) (Y:=dA Es) o L b b2 hn b3 iR b.length 0 (by omega);have pl:=ZJ b;have lp3:=aaL (N:=N) (Y:=dA Es) o L (prt b).length 0 (prt b) (by omega) (by omega) (aj6 iR) (fun j _ h=>agw b j h);have ps:=adr (nC:=nQX) hn iR b3;have la:=CQ b b.length
 have hw:IntKind.i64.wrap ((M:Int)+1)=(M+1:Nat):=by
  have:=dO (i:=M) (by omega);simpa using this
 have zl:KY b 0=qH b:=aep b;have lpa:=zy b
 have lh:((gV b).map bH).length=b.length:=by
  unfold gV;rw[aQ,(nQ (prt b).length 0 (prt b) (by omega)).1,pl]
 have tkh:((gV b).map bH).take b.length=(gV b).map bH:=aK (by omega);obtain⟨g1,g2,g3,g4,g5,g6,g7,g8⟩:=gU (gV b);have eh:rT b.length 0 (prt b)=gV b:=by unfold gV; rw[pl]
 have ehl:(gV b).length=b.length:=by rw[aQ] at lh; exact lh
 have tkl:(KY b b.length).take b.length=KY b b.length:=aK (by omega);have dpl:(KY b b.length).drop b.length=[]:=List.drop_eq_nil_of_le (by omega);have lq:((prt b).map bH).length=b.length:=by rw[aQ,pl]
 obtain⟨a1,a2,a3,a4,a5,a6,a7,a8,a9,aa,ab⟩:=bj o;obtain⟨b1',b2',b3',b4,b5,b6,b7,b8,b9,ba,bb⟩:=bj L;obtain⟨c1,c2,c3,c4,c5,c6,c8⟩:=px b;have x1:=ux (bj o);have x2:=ux (bj L);have x3:=Eo (px b);rw[eO sQB (aB rfl)];unfold WO WN WM hH hC tt pQ at *;rw[zl] at lp2;simp only[fU,pl] at lp1 lp2 lp3;change aY an 5 (.loop Ow) ⟨(1,Ik)::(5,.func (.yield 0) [] [.ptr 5 0])::(6,.own 3 [])::(17,.int .i64 (M+1:Nat))::(18,.int .i64 0)::[],[some [.int .i64 N,.list 2 (dA Es)],some [.int .i64 N,.list 2 (dA Es)],some (ints o),some (ints L),some [.sl 1 3 0 N],some []]⟩=_ at lp1;rw[eh] at lp3;rw[ehl] at lp3;generalize (gV b).map bH=Ph at *;generalize (prt b).map bH=Pp at *;generalize KY b b.length=Pl at *;generalize qH b=Pa at *;generalize C0 b=E1 at *;generalize ints o=O1 at *;generalize ints L=L1 at *;generalize dA Es=Y at *;have e1:((M+1:Nat):Int)=(M:Int)+1:=by omega
 rw[e1] at lp1 hw;unfold Ik at *;unfold qQB cQB;simp[qG,qF,qE,qD,qC,qB,qA,qz,qy,qx,k8,k7,kZ,kY,kX,kW,kV,kU,kT,kS,kR,kQ,kP,kO,kN,kM,kK,kJ,kI,kH,kG,kF,lp1,lp2,lp3,hw,la,lpa,lh,lq,tkh,tkl,dpl,List.append_nil,g1,g2,g3,g4,g5,g6,g7,g8,ps,x1,x2,x3,a1,a2,a3,a4,a5,a6,a7,a8,a9,aa,ab,b1',b2',b3',b4,b5,b6,b7,b8,b9,ba,bb,c1,c2,c3,c4,c5,c6,c8,mapOf,pQ,Ew,aJ,Vy,bM,bI,mM,jR,eZ,dq,pl,kg,eJ,pE,qS,gW,ga,eS,lj,pB,zz,iy,yz,tS,nJ,sQW,iQW]
/- hierarchy.Cores. -/
theorem acI {N:Nat} {Es:List Ed} (hG:tV (N:Int) Es) (m v:Nat) (hm:m<18446744073709551616) (hv:m.testBit v=true) (hj:∀j,m.testBit j=true->j<N):∃R,pd (eB N Es) m (2 ^ v) R:=by
 have hN:N<=64:=by have:=hG.1.2; omega
 have p64:2 ^ v<18446744073709551616:=by
  have:=Nat.pow_lt_pow_right (a:=2) (by decide) (show v<64 by have:=hj v hv; omega);rw[show (18446744073709551616:Nat)=2 ^ 64 from rfl]; exact this
 obtain⟨R,r1,_⟩:=Nw (A:=eB N Es) (W:=m) (f:=2 ^ v) (by rw[(lM hG).1]; omega) (abl hG) hm p64 fun j h=>by rw[(lM hG).1]; exact hj j h
 have e:2 ^ v &&& m=2 ^ v:=by
  apply Nat.eq_of_testBit_eq;intro j;rw[bU,Nat.testBit_two_pow];by_cases e:v=j
  ·subst e; simp[hv]
  ·simp[e]
 rw[e] at r1;exact⟨R,r1⟩
theorem W5 {N:Nat} {Es:List Ed} (hG:tV (N:Int) Es) (hE:Es.length<1000000) (h0:0<N) (h13:N<=13) :
  ∃ L b M,(sG (eB N Es) N L/\HOK (eB N Es) N L (gV b)/\(b.map eP).Nodup/\Xs (eB N Es) L 0 (M+1) [] b/\(∀x∈L,x<=(M:Int))/\((M:Nat):Int)∈L)/\bu an Oe [.agg [.int .i64 N,.list 2 (dA Es)]] []=some (.dt [.list 3 ((gV b).map bH),.int .i64 0],[]):=by
 have hN:N<=64:=by omega
 obtain⟨o,ds,hp,nr⟩:=afk hG hE h0;have ln:(rS o ds 0 (aW N 0)).length=N:=by rw[Kv,List.length_replicate]
 have hL:=adu hN hp ln;generalize rS o ds 0 (aW N 0)=L at *;obtain⟨s1,s2,s3⟩:=s7 hG;have bd:=TC hL s3
 obtain⟨d,L',rfl⟩:∃d L',L=d::L':=by
  cases L with
  |nil=>simp at ln; omega
  |cons d r=>exact⟨d,r,rfl⟩
 obtain⟨m1,m2,m3⟩:=aeb L' d
 have mb:0<=SG d L'/\SG d L'<=(N:Int):=by
  have b1:=bd d cF;rcases m3 with m3|m3
  ·omega
  ·have:=bd _ (cH d m3); omega
 obtain⟨M,hM⟩:∃M:Nat,SG d L'=M:=⟨(SG d L').toNat,by omega⟩
 have hx:∀x∈d::L',x<=(M:Int):=fun x hx=>by
  rw[<-hM];rcases List.mem_cons.1 hx with rfl|hx
  ·exact m1
  ·exact m2 x hx
 obtain⟨b,⟨b1,b2⟩,gr⟩:=Qx hG hE (ns o) (d::L') ln M (by omega);have mr:=ag0 d L' (by simp at ln; omega);rw[hM] at mr
 refine⟨d::L',b,M,⟨hL,ahf s1 hN (by omega) hL hx (acI hG) b1 b2,KX b1 uf,b1,hx,by
  rw[<-hM];rcases m3 with m3|m3
  ·rw[m3]; exact cF
  ·exact cH d m3⟩,?_⟩
 have ll:=ah (d::L');rw[ln] at ll;have tk:(ints (d::L')).take N=ints (d::L'):=aK (by omega);have n0:¬(N:Int)=0:=by omega
 have n0':¬N=0:=by omega
 obtain⟨a1,a2,a3,a4,a5,a6,a7,a8,a9,aa,ab⟩:=bj (ns o);obtain⟨b1',b2',b3',b4,b5,b6,b7,b8,b9,ba,bb⟩:=bj (d::L');have x1:=ux (bj (ns o));have x2:=ux (bj (d::L'));have n1:∀f n,fc f n (ints (d::L'))=ints (d::L'):=fun f n=>FF f (d::L') n;obtain⟨g1,g2,g3,g4,g5,g6,g7,g8⟩:=gU (gV b);rw[eO sQj (aB rfl)];unfold hC tt Ik at *;generalize (gV b).map bH=Ph at *;generalize ints (ns o)=O1 at *;generalize ints (d::L')=L1 at *;generalize dA Es=Y at *;unfold qQj cQj;simp[aiD,aiC,aiB,aiA,aiz,nr,mr,gr,ll,tk,n0,n0',g1,g2,g3,g4,g5,g6,g7,g8,n1,x1,x2,a1,a2,a3,a4,a5,a6,a7,a8,a9,aa,ab,b1',b2',b3',b4,b5,b6,b7,b8,b9,ba,bb,Ew,aJ,Vy,bM,bI,mM,jR,eZ,dq,pl,kg,eJ,pE,qS,gW,ga,eS,lj,pB,zz,iy,yz,tS,nJ,sQC,iQC,sQA,iQA,sQB,iQB]
end Go.BmP
