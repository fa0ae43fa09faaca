/- The hierarchy of cores, plain: the list of parts. -/
import Derived.Test.YtpimmjklbakckaaDoorHcT
set_option linter.unusedSimpArgs false
set_option linter.unusedVariables false
open Bool renaming and_eq_true → ae
open List renaming all_eq_true → rT, exists_mem_of_ne_nil → HO, getD_eq_getElem?_getD → aT, getElem?_eq_getElem → aB, getElem_mem → xE, getElem_of_mem → Sl, length_map → cS, mem_map → rS, nodup_nil → rn, not_mem_nil → u5, replicate → aV, take_of_length_le → dE
open Nat renaming eq_or_lt_of_le → gT, le_of_ble_eq_true → aF, le_of_lt_succ → uW, testBit_and → cV, zero_le → Jn
open Option renaming getD_some → eX
open Prod renaming fst → dW
namespace Go.BmP
open Go.Am Go.Bm
def nE (P:List Pt) (i:Nat):Int:=(P.getD i (0,0,[])).1
theorem DM {P P':List Pt} (h:∀j,cq P j=cq P' j) (i:Nat):∀(n k:Nat) (p:Int),AG P i n k p=AG P' i n k p
 |0,k,p=>rfl
 |n+1,k,p=>by
   have e:pS P i p k=pS P' i p k:=by unfold pS FO; rw[h i,h k,h p.toNat]
   show AG P i n (k+1) (pS P i p k)=AG P' i n (k+1) (pS P' i p k);rw[e,DM h i n]
def HI (P:List Pt) (i:Nat) (p:Int):Prop:=p=-1\/(0<=p/\p<i/\(cq P i).length<(cq P p.toNat).length/\Ce (cq P i) (cq P p.toNat)=true)
theorem Y1 {P:List Pt} {i:Nat} {p:Int} (h:HI P i p) {k:Nat} (hk:k<i):HI P i (pS P i p k):=by
 unfold pS;split
 ·rename_i q;unfold FO at q;simp only[ae,decide_eq_true_eq] at q;have e:((k:Nat):Int).toNat=k:=by omega
  right;rw[e];exact⟨by omega,by omega,q.1,q.2.1⟩
 ·exact h
theorem QV {P:List Pt} {i:Nat}:∀(n k:Nat) (p:Int),k+n=i->HI P i p->HI P i (AG P i n k p)
 |0,k,p,_,h=>h
 |n+1,k,p,hk,h=>QV n (k+1) (pS P i p k) (by omega) (Y1 h (by omega))
theorem QU (P:List Pt) (i:Nat) (hi:i<P.length):(tC P i).getD i (0,0,[])=((P.getD i (0,0,[])).1,AG P i i 0 (mT P i),cq P i):=by
 unfold tC;rw[aT,List.getElem?_set,if_pos rfl,if_pos hi];rfl
theorem VF (P:List Pt) (i j:Nat) (hi:i<P.length):nE (tC P i) j=nE P j:=by
 unfold nE;by_cases e:i=j
 ·subst e; rw[QU P i hi]
 ·rw[zt P i j e]
theorem oO:∀(n i:Nat) (P:List Pt),i+n=P.length->(pT n i P).length=P.length/\(∀j,cq (pT n i P) j=cq P j)/\(∀j,nE (pT n i P) j=nE P j)/\(∀j,j<i->mT (pT n i P) j=mT P j)/\∀ j,i<=j->j<P.length->mT (pT n i P) j=AG P j j 0 (mT P j)
 |0,i,P,hi=>⟨rfl,fun _=>rfl,fun _=>rfl,fun _ _=>rfl,fun j h1 h2=>by omega⟩
 |n+1,i,P,hi=>by
   have bY:i<P.length:=by omega
   obtain⟨a1,a2,a3,a4,a5⟩:=oO n (i+1) (tC P i) (by rw[qH]; omega);have e:pT (n+1) i P=pT n (i+1) (tC P i):=rfl;rw[e];have g:=fun j (h:i≠j)=>show mT (tC P i) j=mT P j by unfold mT; rw[zt P i j h]
   refine⟨by rw[a1,qH],fun j=>by rw[a2,DL P i j bY],fun j=>by rw[a3,VF P i j bY],fun j hj=>by rw[a4 j (by omega),g j (by omega)],fun j h1 h2=>?_⟩;rcases gT h1 with rfl|h1
   ·rw[a4 i (by omega)];unfold mT;rw[QU P i bY];rfl
   ·rw[a5 j h1 (by rw[qH]; exact h2),g j (by omega),DM (fun j=>DL P i j bY)]
structure HOK (A:List Nat) (N:Nat) (L:List Int) (P:List Pt):Prop where
 len:P.length<=900
 lv:∀i,i<P.length->∃j R:Nat,nE P i=(j:Int)/\j<=64/\Grp A (Ye L j) R/\cq P i=cI R
 asc:∀i k,i<k->k<P.length->nE P i<=nE P k
 par:∀i,i<P.length->HI P i (mT P i)
 all:∀v:Nat,v<N->∃i,i<P.length/\(v:Int)∈cq P i/\L.getD v 0<=nE P i
def prt (b:List (List Int × Int)):List Pt:=kW (b.map fun p=>(p.2,-1,p.1))
def mD (b:List (List Int × Int)):List Pt:=pT (prt b).length 0 (prt b)
theorem QJ {b:List (List Int × Int)} (hn:(b.map dW).Nodup):Lc (b.map fun p=>((p.2,-1,p.1):Pt))=true:=by
 rw[vL,List.pairwise_map];unfold List.Nodup at hn;rw[List.pairwise_map] at hn;exact hn.imp fun h e=>h e.2
theorem QI (b:List (List Int × Int)):(prt b).length=b.length:=by unfold prt; rw[ko,cS]
theorem zp {b:List (List Int × Int)} {x:Pt}:x∈prt b ↔ ∃p∈b,(p.2,-1,p.1)=x:=by
 unfold prt;rw[(lF _).mem_iff,rS]
theorem at_mem {P:List Pt} {i:Nat} (h:i<P.length):P.getD i (0,0,[])∈P:=by
 rw[aT,aB h];exact xE h
theorem Lh {A:List Nat} {N:Nat} {L:List Int} (h:Fw A N L) (hI:∀a j,(A.getD a 0).testBit j=true->j<N):∀x∈L,0<=x/\x<=(N:Int):=fun x hx=>by
 obtain⟨i,hi,rfl⟩:=Sl hx;obtain⟨x,e,q⟩:=h.2 i (by have:=h.1; omega);rw[aT,aB hi] at e;simp only[eX] at e;rw[e];rcases (q x).1 (Nat.le_refl _) with r|⟨m',s,b,g⟩
 ·omega
 ·have g1:=g i b;unfold Xu at g1;rw[<-XV] at g1
  have:=D7 (A:=cI (m' &&& A.getD i 0)) (B:=(List.range N).map fun n=>((n:Nat):Int)) ((rQ _).imp fun{a b} h=>by omega) fun y hy=>by
   obtain⟨j,rfl,j2,j3⟩:=jJ.1 hy;rw[cV,ae] at j3;exact rS.2 ⟨j,List.mem_range.2 (hI i j j3.2),rfl⟩
  rw[cS,List.length_range] at this;omega
theorem ZX {A:List Nat} {N M:Nat} {L:List Int} (hS:Cp A) (hN:N<=64) (hM:M<=64) (hL:Fw A N L) (hx:∀x∈L,x<=(M:Int)) (hg:∀m v:Nat,m<18446744073709551616->m.testBit v=true->(∀j,m.testBit j=true->j<N)->∃R,wj A m (2 ^ v) R) {b:List (List Int × Int)} (hb:Yp A L 0 (M+1) [] b) (hl:b.length<=900):HOK A N L (mD b):=by
 have w:∀k,Ye L k<18446744073709551616:=fun k=>N5 k L 0 0 (by have:=hL.1; omega) (by omega);have hn:(b.map dW).Nodup:=Ee hb rn;have bi:=afu w hb rn (fun p h=>absurd h u5);have be:=(afv w hS hb rn).2;obtain⟨s1,s2,s3,s4,s5⟩:=oO (prt b).length 0 (prt b) (by omega)
 have pm:∀i,i<(prt b).length->mT (prt b) i=-1:=fun i hi=>by
  obtain⟨p,_,e⟩:=zp.1 (at_mem hi);unfold mT; rw[<-e]
 have asc:(prt b).Pairwise fun x y=>Cg x y=true:=yF (QJ hn);refine⟨by unfold mD; rw[s1,QI]; exact hl,fun i hi=>?_,fun i k tr hk=>?_,fun i hi=>?_,fun v hv=>?_⟩
 ·unfold mD at *;rw[s1] at hi;rw[s2,s3];obtain⟨p,hp,e⟩:=zp.1 (at_mem hi);obtain⟨j,j1,j2,R,j3,j4⟩:=bi p hp;refine⟨j,R,?_,by omega,j3,?_⟩
  ·unfold nE; rw[<-e]; exact j2
  ·unfold cq; rw[<-e]; exact j4
 ·unfold mD at *;rw[s1] at hk;rw[s3,s3];have:=List.pairwise_iff_getElem.1 asc i k (by omega) hk tr;unfold nE;rw[aT,aB (by omega),aT,aB hk];rcases tE.1 this with h|h
  ·exact Int.le_of_lt h
  ·exact Int.le_of_eq h.1
 ·unfold mD at *;rw[s1] at hi;rw[s5 i (by omega) hi];have:=QV (P:=prt b) (i:=i) i 0 (mT (prt b) i) (by omega) (.inl (pm i hi));unfold HI at *;rw[s2];rcases this with h|h
  ·exact .inl h
  ·exact .inr ⟨h.1,h.2.1,by rw[s2]; exact h.2.2.1,by rw[s2]; exact h.2.2.2⟩
 ·obtain⟨x,e,q⟩:=hL.2 v hv;have ZL:v<L.length:=by have:=hL.1; omega
  have hm:L.getD v 0∈L:=by
   rw[aT,aB ZL];exact xE ZL
  have hxM:=hx _ hm;have vb:(Ye L x).testBit v=true:=CB.2 ⟨ZL,by omega⟩;obtain⟨R,hR⟩:=hg (Ye L x) v (w x) vb fun j hj=>by have:=(CB.1 hj).1; have:=hL.1; omega
  have hG:Grp A (Ye L x) R:=⟨v,vb,hR⟩;obtain⟨y,y1,y2⟩:=be (cI R) x (by omega) (by omega) ⟨R,hG,rfl⟩;obtain⟨i,hi,e2⟩:=Sl (zp.2 ⟨_,y2,rfl⟩);unfold mD;refine⟨i,by rw[s1]; exact hi,?_,?_⟩
  ·rw[s2];unfold cq;rw[aT,aB hi,eX,e2];exact (lK (yP hG)).2 (hR.sub v (Cu v))
  ·rw[s3,e];unfold nE;rw[aT,aB hi,eX,e2];exact y1
theorem ZQ {A:List Nat} {N:Nat} {L:List Int} {P:List Pt} (hS:Cp A) (h:HOK A N L P) {i:Nat} (hi:i<P.length) (hp:0<=mT P i):mT P i<i/\nE P (mT P i).toNat<nE P i/\(∀x∈cq P i,x∈cq P (mT P i).toNat)/\(cq P i).length<(cq P (mT P i).toNat).length:=by
 rcases h.par i hi with e|⟨a,b,c,d⟩
 ·omega
 ·have sub:∀x∈cq P i,x∈cq P (mT P i).toNat:=fun x hx=>by
   have:=rT.1 d x hx;exact of_decide_eq_true this
  refine⟨b,?_,sub,c⟩;have hk:(mT P i).toNat<P.length:=by omega
  have:=h.asc (mT P i).toNat i (by omega) hi;rcases Int.lt_or_le (nE P (mT P i).toNat) (nE P i) with q|q
  ·exact q
  ·obtain⟨j,R,j1,_,j2,j3⟩:=h.lv i hi;obtain⟨k,S,k1,_,k2,k3⟩:=h.lv _ hk;obtain rfl:j=k:=by omega
   have tn:cq P i≠[]:=fun e=>by
    obtain⟨v,v1,v2⟩:=j2;have:=(lK v2.lt).2 (v2.sub v (Cu v));rw[<-j3,e] at this;cases this
   obtain⟨x,hx⟩:=HO _ tn;have hx2:=sub x hx;rw[j3] at hx;rw[k3] at hx2;obtain⟨u,rfl,u1,u2⟩:=jJ.1 hx;have u3:=(lK (yP k2)).1 hx2;have s:=s9 hS (fun _ h=>h) k2 j2 u3 u2
   have:=D7 (A:=cI S) (B:=cI R) ((rQ _).imp fun{a b} h=>by omega) fun y hy=>by
    obtain⟨u,rfl,u1,u2⟩:=jJ.1 hy;exact (lK (yP j2)).2 (s u u2)
   rw[j3,k3] at c;omega
theorem WT {A:List Nat} {N:Nat} {L:List Int} {P:List Pt} (hS:Cp A) (h:HOK A N L P) {i k:Nat} (hk:k<i) (hi:i<P.length):meet (cq P i) (cq P k)=[]\/meet (cq P i) (cq P k)=cq P i:=by
 obtain⟨j,R,j1,_,j2,j3⟩:=h.lv i hi;obtain⟨j',S,k1,_,k2,k3⟩:=h.lv k (by omega);have hle:=h.asc k i hk hi;obtain⟨mu,mm⟩:=nA (cq P i) (cq P k);by_cases q:meet (cq P i) (cq P k)=[]
 ·exact .inl q
 ·obtain⟨x,hx⟩:=HO _ q;obtain⟨x1,x2⟩:=(mm x).1 hx;rw[j3] at x1;rw[k3] at x2;obtain⟨u,rfl,u1,u2⟩:=jJ.1 x1;have u3:=(lK (yP k2)).1 x2;have s:=s9 hS (Zs (by omega:j'<=j)) j2 k2 u2 u3;right;refine CU mu (by rw[j3]; exact rQ _) fun y=>?_;rw[mm];constructor
  ·exact fun z=>z.1
  ·intro z;refine⟨z,?_⟩;rw[j3] at z;rw[k3];obtain⟨u,rfl,u1,u2⟩:=jJ.1 z;exact (lK (yP k2)).2 (s u u2)
theorem ZR {A:List Nat} {N:Nat} {L:List Int} {P:List Pt} (h:HOK A N L P) {i v:Nat} (hi:i<P.length) (hv:(v:Int)∈cq P i):v<L.length/\nE P i<=L.getD v 0:=by
 obtain⟨j,R,j1,_,j2,j3⟩:=h.lv i hi;rw[j3,lK (yP j2)] at hv;obtain⟨u,u1,u2⟩:=j2;have:=CB.1 (u2.win v hv);exact⟨this.1,by omega⟩
def rb (P:List Pt) (v lv:Int) (i:Nat):Bool:=decide (nE P i<=lv)&&decide (v∈cq P i)
def B8 (P:List Pt) (kp:Nat->Bool) (at':Int) (i:Nat):Int:=if (kp i&&(decide (at'<0)||decide (nE P at'.toNat<=nE P i)))=true then i else at'
def o7 (P:List Pt) (kp:Nat->Bool):Nat->Nat->Int->Int
 |0,_,a=>a
 |n+1,i,a=>o7 P kp n (i+1) (B8 P kp a i)
theorem CN {P:List Pt} {kp:Nat->Bool}:∀(n i:Nat) (a:Int),((a=-1/\∀ j,j<i->kp j=false)\/(0<=a/\a<i/\kp a.toNat=true/\∀ j,j<i->kp j=true->nE P j<=nE P a.toNat)) ->
  ((o7 P kp n i a=-1/\∀ j,j<i+n->kp j=false)\/(0<=o7 P kp n i a/\o7 P kp n i a<(i+n:Nat)/\kp (o7 P kp n i a).toNat=true/\∀ j,j<i+n->kp j=true->nE P j<=nE P (o7 P kp n i a).toNat))
 |0,i,a,h=>h
 |n+1,i,a,h=>by
   have e:o7 P kp (n+1) i a=o7 P kp n (i+1) (B8 P kp a i):=rfl;rw[e,show i+(n+1)=i+1+n by omega];refine CN n (i+1) (B8 P kp a i) ?_;unfold B8;split
   ·rename_i q;simp only[ae,Bool.or_eq_true,decide_eq_true_eq] at q;right;have ei:((i:Nat):Int).toNat=i:=by omega
    rw[ei];refine⟨by omega,by omega,q.1,fun j hj hk=>?_⟩;rcases gT (uW hj) with rfl|hj
    ·exact Int.le_refl _
    ·rcases h with⟨_,h⟩|⟨h1,h2,h3,h4⟩
     ·rw[h j hj] at hk; cases hk
     ·have:=h4 j hj hk;rcases q.2 with q|q<;>omega
   ·rename_i q;rcases h with⟨h1,h⟩|⟨h1,h2,h3,h4⟩
    ·left;refine⟨h1,fun j hj=>?_⟩;rcases gT (uW hj) with rfl|hj
     ·cases hk:kp j with
      |false=>rfl
      |true=>exact absurd (by rw[hk,h1]; rfl) q
     ·exact h j hj
    ·right;refine⟨h1,by omega,h3,fun j hj hk=>?_⟩;rcases gT (uW hj) with rfl|hj
     ·rcases Int.lt_or_le (nE P a.toNat) (nE P j) with z|z
      ·exact absurd (by rw[hk]; simp; right; omega) q
      ·exact z
     ·exact h4 j hj hk
theorem EB {A:List Nat} {N:Nat} {L:List Int} {P:List Pt} (hN:N<=64) (hL:Fw A N L) (hx:∀x∈L,x<=64) (h:HOK A N L P) {v:Nat} (hv:v<N):0<=o7 P (rb P v 64) P.length 0 (-1)/\o7 P (rb P v 64) P.length 0 (-1)<(P.length:Int)/\nE P (o7 P (rb P v 64) P.length 0 (-1)).toNat=L.getD v 0:=by
 have s:=CN (P:=P) (kp:=rb P v 64) P.length 0 (-1) (.inl ⟨rfl,fun j hj=>by omega⟩);rw[Nat.zero_add] at s;obtain⟨i,i1,i2,i3⟩:=h.all v hv
 have kk:∀j,j<P.length->(rb P v 64 j=true ↔ (v:Int)∈cq P j):=fun j hj=>by
  unfold rb;rw[ae,decide_eq_true_eq,decide_eq_true_eq];obtain⟨a,R,a1,a2,_⟩:=h.lv j hj;exact⟨fun z=>z.2,fun z=>⟨by omega,z⟩⟩
 have ki:=(kk i i1).2 i2;rcases s with⟨_,s⟩|⟨s1,s2,s3,s4⟩
 ·rw[s i i1] at ki; cases ki
 ·generalize o7 P (rb P v 64) P.length 0 (-1)=a at *;have ha:a.toNat<P.length:=by omega
  have n:=(ZR h ha ((kk _ ha).1 s3)).2;have:=s4 i i1 ki;exact⟨s1,s2,by omega⟩
/- hierarchy.gathered, as a whole. -/
set_option maxRecDepth 100000
set_option maxHeartbeats 8000000
theorem acN {b:List (List Int × Int)} (hn:(b.map dW).Nodup) (qe:∀p∈b,p.1.length<=64):okP (b.map fun p=>((p.2,-1,p.1):Pt))=true:=by
 unfold okP;rw[QJ hn,Bool.true_and,rT];intro z hz;obtain⟨p,hp,rfl⟩:=rS.1 hz;have:=qe p hp;exact decide_eq_true (by simp; omega)
theorem Vr {nC:Nat} {b:List (List Int × Int)} (hn:(b.map dW).Nodup) (qe:∀p∈b,p.1.length<=64) (hl:b.length<=900):psG nC 3 (Ef b b.length) [.func (.func nC) [] []]=some ((prt b).map en,none):=by
 have e:Ef b b.length=(b.map fun p=>((p.2,-1,p.1):Pt)).map en:=by rw[Zu,List.map_map]; rfl
 rw[e];simp only[psG];rw[if_pos ⟨trivial,trivial,by rw[cS,cS]; unfold p7; omega⟩,GI];simp only;rw[if_pos (acN hn qe)];rfl
theorem acM {b:List (List Int × Int)} (qe:∀p∈b,p.1.length<=64) (j:Nat):(cq (prt b) j).length<=64:=by
 unfold cq;by_cases h:j<(prt b).length
 ·obtain⟨p,hp,e⟩:=zp.1 (at_mem h);rw[<-e];exact qe p hp
 ·rw[aT,List.getElem?_eq_none (by omega)];exact Jn _
theorem YU (b:List (List Int × Int)) (j:Nat) (h:j<(prt b).length):mT (prt b) j=-1:=by
 obtain⟨p,_,e⟩:=zp.1 (at_mem h);unfold mT; rw[<-e]
theorem aft {A:List Nat} {L:List Int} {k n:Nat} {a b:List (List Int × Int)} (h:Yp A L k n a b):(∀p∈a,p.1.length<=64)->∀p∈b,p.1.length<=64:=by
 induction h with
 |nil=>exact id
 |cons k n a b l _ _ ih=>
   intro ha;refine ih ?_
   have:∀(l:List Nat) (a:List (List Int × Int)),(∀p∈a,p.1.length<=64)->∀p∈rh k a (l.map cI),p.1.length<=64:=by
    intro l
    induction l with
    |nil=>exact fun a ha=>ha
    |cons R r ih2=>exact fun a ha=>ih2 (iV a (cI R) k) fun p hp=>(zj hp).elim (fun e=>by rw[e]; exact v7 R) (ha p)
   exact this l a ha
structure Lg (D:List AV):Prop where
 bo:cU D=[]
 ow:bF D=false
 mp:∀g,cK g D=D
 pl:eC D=true
 pt:eV D=[]
 np:∀b,jG b D=true
 av:il D D=true
 pp:fo D=true
theorem Eh (P:List Pt):Lg (P.map en):=by
 induction P with
 |nil=>exact⟨rfl,rfl,fun _=>rfl,rfl,rfl,fun _=>rfl,rfl,rfl⟩
 |cons p r ih=>
   rw[List.map_cons];obtain⟨c1,c2,c3,c4,c5,c6,c7,c8⟩:=ih;generalize r.map en=R1 at *;unfold en;obtain⟨b1,b2,b3,b4,b5,b6,b7,b8,b9,ba,bb⟩:=bT p.2.2;generalize ints p.2.2=S1 at *;refine⟨?_,?_,fun g=>?_,?_,?_,fun b=>?_,?_,?_⟩
   ·simp[cU,aI,c1]
   ·simp[bF,c2]
   ·simp[cK,cC,c3]
   ·simp[eC,pl,c4,b4]
   ·simp[eV,nn,c5]
   ·simp[jG,rF,c6]
   ·simp[il,mQ,c7,b7]
   ·simp[fo,kK,c8]
theorem IX {N:Nat} {Es:List Ed} (hG:Jz (N:Int) Es) (hE:Es.length<1000000) (o L:List Int) (hL:L.length=N) (M:Nat) (hM:M<=13) :
  ∃ b,(Yp (jL N Es) L 0 (M+1) [] b/\b.length<=900)/\bS aD nQm [.int .i64 M,Co] (hC N (iQ Es) (ints o) (ints L))=some (.list 3 ((mD b).map en),hC N (iQ Es) (ints o) (ints L)):=by
 obtain⟨b,⟨b1,b2,b3⟩,lp1⟩:=RN hG hE o L hL (M+1) (by omega) (M+1) 0 [] (by omega) (fun p h=>absurd h u5) (Jn _);refine⟨b,⟨b1,b3⟩,?_⟩;have hn:(b.map dW).Nodup:=Ee b1 rn;have qe:=aft b1 (fun p h=>absurd h u5);have lp2:=RM (N:=N) (Y:=iQ Es) o L b b2 hn b3 qe b.length 0 (by omega);have pl:=QI b;have lp3:=RK (N:=N) (Y:=iQ Es) o L (prt b).length 0 (prt b) (by omega) (by omega) (acM qe) (fun j _ h=>YU b j h);have ps:=Vr (nC:=Ts) hn qe b3;have la:=yD b b.length
 have hw:IntKind.i64.wrap ((M:Int)+1)=(M+1:Nat):=by
  have:=fT (i:=M) (by omega);simpa using this
 have zl:Ef b 0=oN b:=Wl b;have lpa:=vq b
 have lh:((mD b).map en).length=b.length:=by
  unfold mD;rw[cS,(oO (prt b).length 0 (prt b) (by omega)).1,pl]
 have tkh:((mD b).map en).take b.length=(mD b).map en:=dE (by omega);obtain⟨g1,g2,g3,g4,g5,g6,g7,g8⟩:=Eh (mD b);have eh:pT b.length 0 (prt b)=mD b:=by unfold mD; rw[pl]
 have ehl:(mD b).length=b.length:=by rw[cS] at lh; exact lh
 have tkl:(Ef b b.length).take b.length=Ef b b.length:=dE (by omega);have dpl:(Ef b b.length).drop b.length=[]:=List.drop_eq_nil_of_le (by omega);have lq:((prt b).map en).length=b.length:=by rw[cS,pl]
 obtain⟨a1,a2,a3,a4,a5,a6,a7,a8,a9,aa,ab⟩:=bT o;obtain⟨b1',b2',b3',b4,b5,b6,b7,b8,b9,ba,bb⟩:=bT L;obtain⟨c1,c2,c3,c4,c5,c6,c8⟩:=mU b;have x1:=rH (bT o);have x2:=rH (bT L);have x3:=zO (mU b);rw[fZ sQm (aF rfl)];unfold N7 N6 N3 hH hC qa nB at *;rw[zl] at lp2;simp only[mB,pl] at lp1 lp2 lp3;change bh aD 5 (.loop G0) ⟨(1,Co)::(5,.func (.yield 0) [] [.ptr 5 0])::(6,.own 3 [])::(17,.int .i64 (M+1:Nat))::(18,.int .i64 0)::[],[some [.int .i64 N,.list 2 (iQ Es)],some [.int .i64 N,.list 2 (iQ Es)],some (ints o),some (ints L),some [.sl 1 3 0 N],some []]⟩=_ at lp1;rw[eh] at lp3;rw[ehl] at lp3;generalize (mD b).map en=Ph at *;generalize (prt b).map en=Pp at *;generalize Ef b b.length=Pl at *;generalize oN b=Pa at *;generalize yQ b=E1 at *;generalize ints o=O1 at *;generalize ints L=L1 at *;generalize iQ Es=Y at *;have e1:((M+1:Nat):Int)=(M:Int)+1:=by omega
 rw[e1] at lp1 hw;unfold Co at *;unfold qQm cQm;simp[oC,oB,oA,ox,ot,oq,om,oi,oh,oe,jA,jz,jy,jx,jw,jv,ju,jt,js,jr,jq,jo,jm,jl,jj,ji,jh,jg,jf,je,jd,jc,lp1,lp2,lp3,hw,la,lpa,lh,lq,tkh,tkl,dpl,List.append_nil,g1,g2,g3,g4,g5,g6,g7,g8,ps,x1,x2,x3,a1,a2,a3,a4,a5,a6,a7,a8,a9,aa,ab,b1',b2',b3',b4,b5,b6,b7,b8,b9,ba,bb,c1,c2,c3,c4,c5,c6,c8,mapOf,nB,uF,aN,qA,cB,bU,ku,kK,fo,eC,pl,gQ,dh,kS,lQ,eU,eB,cT,ft,hU,nn,eV,mP,mQ,il,sQB,iQB]
/- hierarchy.Cores. -/
theorem U6 {N:Nat} {Es:List Ed} (hG:Jz (N:Int) Es) (m v:Nat) (hm:m<18446744073709551616) (hv:m.testBit v=true) (hj:∀j,m.testBit j=true->j<N):∃R,wj (jL N Es) m (2 ^ v) R:=by
 have hN:N<=64:=by have:=hG.1.2; omega
 have p64:2 ^ v<18446744073709551616:=by
  have:=Nat.pow_lt_pow_right (a:=2) (by decide) (show v<64 by have:=hj v hv; omega);rw[show (18446744073709551616:Nat)=2 ^ 64 from rfl]; exact this
 obtain⟨R,r1,_⟩:=Gp (A:=jL N Es) (W:=m) (f:=2 ^ v) (by rw[(q8 hG).1]; omega) (Sg hG) hm p64 fun j h=>by rw[(q8 hG).1]; exact hj j h
 have e:2 ^ v &&& m=2 ^ v:=by
  apply Nat.eq_of_testBit_eq;intro j;rw[cV,Nat.testBit_two_pow];by_cases e:v=j
  ·subst e; simp[hv]
  ·simp[e]
 rw[e] at r1;exact⟨R,r1⟩
theorem On {N:Nat} {Es:List Ed} (hG:Jz (N:Int) Es) (hE:Es.length<1000000) (h0:0<N) (h13:N<=13) :
  ∃ L b,(Fw (jL N Es) N L/\HOK (jL N Es) N L (mD b)/\(b.map dW).Nodup)/\bS aD Yc [.agg [.int .i64 N,.list 2 (iQ Es)]] []=some (.dA [.list 3 ((mD b).map en),.int .i64 0],[]):=by
 have hN:N<=64:=by omega
 obtain⟨o,ds,hp,nr⟩:=Xz hG hE h0;have ln:(pR o ds 0 (aV N 0)).length=N:=by rw[DJ,List.length_replicate]
 have hL:=Vv hN hp ln;generalize pR o ds 0 (aV N 0)=L at *;obtain⟨s1,s2,s3⟩:=xl hG;have bd:=Lh hL s3
 obtain⟨d,L',rfl⟩:∃d L',L=d::L':=by
  cases L with
  |nil=>simp at ln; omega
  |cons d r=>exact⟨d,r,rfl⟩
 obtain⟨m1,m2,m3⟩:=V6 L' d
 have mb:0<=KD d L'/\KD d L'<=(N:Int):=by
  have b1:=bd d List.mem_cons_self;rcases m3 with m3|m3
  ·omega
  ·have:=bd _ (List.mem_cons_of_mem d m3); omega
 obtain⟨M,hM⟩:∃M:Nat,KD d L'=M:=⟨(KD d L').toNat,by omega⟩
 have hx:∀x∈d::L',x<=(M:Int):=fun x hx=>by
  rw[<-hM];rcases List.mem_cons.1 hx with rfl|hx
  ·exact m1
  ·exact m2 x hx
 obtain⟨b,⟨b1,b2⟩,gr⟩:=IX hG hE (ns o) (d::L') ln M (by omega);have mr:=Zr d L' (by simp at ln; omega);rw[hM] at mr;refine⟨d::L',b,⟨hL,ZX s1 hN (by omega) hL hx (U6 hG) b1 b2,Ee b1 rn⟩,?_⟩;have ll:=ah (d::L');rw[ln] at ll;have tk:(ints (d::L')).take N=ints (d::L'):=dE (by omega);have n0:¬(N:Int)=0:=by omega
 have n0':¬N=0:=by omega
 obtain⟨a1,a2,a3,a4,a5,a6,a7,a8,a9,aa,ab⟩:=bT (ns o);obtain⟨b1',b2',b3',b4,b5,b6,b7,b8,b9,ba,bb⟩:=bT (d::L');have x1:=rH (bT (ns o));have x2:=rH (bT (d::L'));have n1:∀f n,er f n (ints (d::L'))=ints (d::L'):=fun f n=>AW f (d::L') n;obtain⟨g1,g2,g3,g4,g5,g6,g7,g8⟩:=Eh (mD b);rw[fZ sQd (aF rfl)];unfold hC qa Co at *;generalize (mD b).map en=Ph at *;generalize ints (ns o)=O1 at *;generalize ints (d::L')=L1 at *;generalize iQ Es=Y at *;unfold qQd cQd;simp[abk,abj,abi,abh,abg,nr,mr,gr,ll,tk,n0,n0',g1,g2,g3,g4,g5,g6,g7,g8,n1,x1,x2,a1,a2,a3,a4,a5,a6,a7,a8,a9,aa,ab,b1',b2',b3',b4,b5,b6,b7,b8,b9,ba,bb,uF,aN,qA,cB,bU,ku,kK,fo,eC,pl,gQ,dh,kS,lQ,eU,eB,cT,ft,hU,nn,eV,mP,mQ,il,sQn,iQn,sQl,iQl,sQm,iQm]
end Go.BmP
