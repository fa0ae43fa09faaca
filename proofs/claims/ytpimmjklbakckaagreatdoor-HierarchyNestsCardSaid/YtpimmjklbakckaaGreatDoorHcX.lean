/- The hierarchy of cores, plain: the list of parts. -/
import Derived.Test.YtpimmjklbakckaaGreatDoorHcT
set_option linter.unusedSimpArgs false
set_option linter.unusedVariables false
open Bool renaming and_eq_true → ae
open List renaming all_eq_true → sO, exists_mem_of_ne_nil → J2, getD_eq_getElem?_getD → aH, getElem?_eq_getElem → aq, getElem_mem → nP, getElem_of_mem → UX, length_map → cN, mem_map → iK, nodup_nil → yK, not_mem_nil → vX, replicate → aT, take_of_length_le → dt
open Nat renaming eq_or_lt_of_le → sN, le_of_ble_eq_true → aF, le_of_lt_succ → DL, testBit_and → bS, zero_le → Lt
open Option renaming getD_some → eZ
open Prod renaming fst → eH
namespace Go.BmP
open Go.Am Go.Bm
def nS (P:List Pt) (i:Nat):Int:=(P.getD i (0,0,[])).1
theorem FT {P P':List Pt} (h:∀j,bZ P j=bZ P' j) (i:Nat):∀(n k:Nat) (p:Int),DQ P i n k p=DQ P' i n k p
 |0,k,p=>rfl
 |n+1,k,p=>by
   have e:rY P i p k=rY P' i p k:=by unfold rY ML; rw[h i,h k,h p.toNat]
   show DQ P i n (k+1) (rY P i p k)=DQ P' i n (k+1) (rY P' i p k);rw[e,FT h i n]
def JX (P:List Pt) (i:Nat) (p:Int):Prop:=p=-1\/(0<=p/\p<i/\(bZ P i).length<(bZ P p.toNat).length/\DP (bZ P i) (bZ P p.toNat)=true)
theorem aa9 {P:List Pt} {i:Nat} {p:Int} (h:JX P i p) {k:Nat} (hk:k<i):JX P i (rY P i p k):=by
 unfold rY;split
 ·rename_i q;unfold ML at q;simp only[ae,decide_eq_true_eq] at q;have e:((k:Nat):Int).toNat=k:=by omega
  right;rw[e];exact⟨by omega,by omega,q.1,q.2.1⟩
 ·exact h
theorem Tq {P:List Pt} {i:Nat}:∀(n k:Nat) (p:Int),k+n=i->JX P i p->JX P i (DQ P i n k p)
 |0,k,p,_,h=>h
 |n+1,k,p,hk,h=>Tq n (k+1) (rY P i p k) (by omega) (aa9 h (by omega))
theorem Tp (P:List Pt) (i:Nat) (hi:i<P.length):(tZ P i).getD i (0,0,[])=((P.getD i (0,0,[])).1,DQ P i i 0 (kJ P i),bZ P i):=by
 unfold tZ;rw[aH,List.getElem?_set,if_pos rfl,if_pos hi];rfl
theorem Yi (P:List Pt) (i j:Nat) (hi:i<P.length):nS (tZ P i) j=nS P j:=by
 unfold nS;by_cases e:i=j
 ·subst e; rw[Tp P i hi]
 ·rw[AF P i j e]
theorem wG:∀(n i:Nat) (P:List Pt),i+n=P.length->(qF n i P).length=P.length/\(∀j,bZ (qF n i P) j=bZ P j)/\(∀j,nS (qF n i P) j=nS P j)/\(∀j,j<i->kJ (qF n i P) j=kJ P j)/\∀ j,i<=j->j<P.length->kJ (qF n i P) j=DQ P j j 0 (kJ P j)
 |0,i,P,hi=>⟨rfl,fun _=>rfl,fun _=>rfl,fun _ _=>rfl,fun j h1 h2=>by omega⟩
 |n+1,i,P,hi=>by
   have bQ:i<P.length:=by omega
   obtain⟨a1,a2,a3,a4,a5⟩:=wG n (i+1) (tZ P i) (by rw[rq]; omega);have e:qF (n+1) i P=qF n (i+1) (tZ P i):=rfl;rw[e];have g:=fun j (h:i≠j)=>show kJ (tZ P i) j=kJ P j by unfold kJ; rw[AF P i j h]
   refine⟨by rw[a1,rq],fun j=>by rw[a2,FR P i j bQ],fun j=>by rw[a3,Yi P i j bQ],fun j hj=>by rw[a4 j (by omega),g j (by omega)],fun j h1 h2=>?_⟩;rcases sN h1 with rfl|h1
   ·rw[a4 i (by omega)];unfold kJ;rw[Tp P i bQ];rfl
   ·rw[a5 j h1 (by rw[rq]; exact h2),g j (by omega),FT (fun j=>FR P i j bQ)]
structure OU (A:List Nat) (N:Nat) (L:List Int) (P:List Pt):Prop where
 len:P.length<=900
 lv:∀i,i<P.length->∃j R:Nat,nS P i=(j:Int)/\j<=64/\Grp A (lvM L j) R/\bZ P i=cz R
 asc:∀i k,i<k->k<P.length->nS P i<=nS P k
 par:∀i,i<P.length->JX P i (kJ P i)
 all:∀v:Nat,v<N->∃i,i<P.length/\(v:Int)∈bZ P i/\L.getD v 0<=nS P i
def prt (b:List (List Int × Int)):List Pt:=kT (b.map fun p=>(p.2,-1,p.1))
def tC (b:List (List Int × Int)):List Pt:=qF (prt b).length 0 (prt b)
theorem Tf {b:List (List Int × Int)} (hn:(b.map eH).Nodup):NK (b.map fun p=>((p.2,-1,p.1):Pt))=true:=by
 rw[wW,List.pairwise_map];unfold List.Nodup at hn;rw[List.pairwise_map] at hn;exact hn.imp fun h e=>h e.2
theorem Te (b:List (List Int × Int)):(prt b).length=b.length:=by unfold prt; rw[ko,cN]
theorem AA {b:List (List Int × Int)} {x:Pt}:x∈prt b ↔ ∃p∈b,(p.2,-1,p.1)=x:=by
 unfold prt;rw[(oS _).mem_iff,iK]
theorem at_mem {P:List Pt} {i:Nat} (h:i<P.length):P.getD i (0,0,[])∈P:=by
 rw[aH,aq h];exact nP h
theorem NM {A:List Nat} {N:Nat} {L:List Int} (h:nj A N L) (hI:∀a j,(A.getD a 0).testBit j=true->j<N):∀x∈L,0<=x/\x<=(N:Int):=fun x hx=>by
 obtain⟨i,hi,rfl⟩:=UX hx;obtain⟨x,e,q⟩:=h.2 i (by have:=h.1; omega);rw[aH,aq hi] at e;simp only[eZ] at e;rw[e];rcases (q x).1 (Nat.le_refl _) with r|⟨m',s,b,g⟩
 ·omega
 ·have g1:=g i b;unfold Ux at g1;rw[<-Bz] at g1
  have:=Ga (A:=cz (m' &&& A.getD i 0)) (B:=(List.range N).map fun n=>((n:Nat):Int)) ((qS _).imp fun{a b} h=>by omega) fun y hy=>by
   obtain⟨j,rfl,j2,j3⟩:=ff.1 hy;rw[bS,ae] at j3;exact iK.2 ⟨j,List.mem_range.2 (hI i j j3.2),rfl⟩
  rw[cN,List.length_range] at this;omega
theorem abN {A:List Nat} {N M:Nat} {L:List Int} (hS:D3 A) (hN:N<=64) (hM:M<=64) (hL:nj A N L) (hx:∀x∈L,x<=(M:Int)) (hg:∀m v:Nat,m<18446744073709551616->m.testBit v=true->(∀j,m.testBit j=true->j<N)->∃R,xq A m (2 ^ v) R) {b:List (List Int × Int)} (hb:LvR A L 0 (M+1) [] b) (hl:b.length<=900):OU A N L (tC b):=by
 have w:∀k,lvM L k<18446744073709551616:=fun k=>QL k L 0 0 (by have:=hL.1; omega) (by omega);have hn:(b.map eH).Nodup:=Nf hb yK;have bi:=ahd w hb yK (fun p h=>absurd h vX);have be:=(ahe w hS hb yK).2;obtain⟨s1,s2,s3,s4,s5⟩:=wG (prt b).length 0 (prt b) (by omega)
 have pm:∀i,i<(prt b).length->kJ (prt b) i=-1:=fun i hi=>by
  obtain⟨p,_,e⟩:=AA.1 (at_mem hi);unfold kJ; rw[<-e]
 have asc:(prt b).Pairwise fun x y=>DS x y=true:=zN (Tf hn);refine⟨by unfold tC; rw[s1,Te]; exact hl,fun i hi=>?_,fun i k vT hk=>?_,fun i hi=>?_,fun v hv=>?_⟩
 ·unfold tC at *;rw[s1] at hi;rw[s2,s3];obtain⟨p,hp,e⟩:=AA.1 (at_mem hi);obtain⟨j,j1,j2,R,j3,j4⟩:=bi p hp;refine⟨j,R,?_,by omega,j3,?_⟩
  ·unfold nS; rw[<-e]; exact j2
  ·unfold bZ; rw[<-e]; exact j4
 ·unfold tC at *;rw[s1] at hk;rw[s3,s3];have:=List.pairwise_iff_getElem.1 asc i k (by omega) hk vT;unfold nS;rw[aH,aq (by omega),aH,aq hk];rcases ub.1 this with h|h
  ·exact Int.le_of_lt h
  ·exact Int.le_of_eq h.1
 ·unfold tC at *;rw[s1] at hi;rw[s5 i (by omega) hi];have:=Tq (P:=prt b) (i:=i) i 0 (kJ (prt b) i) (by omega) (.inl (pm i hi));unfold JX at *;rw[s2];rcases this with h|h
  ·exact .inl h
  ·exact .inr ⟨h.1,h.2.1,by rw[s2]; exact h.2.2.1,by rw[s2]; exact h.2.2.2⟩
 ·obtain⟨x,e,q⟩:=hL.2 v hv;have hv2:v<L.length:=by have:=hL.1; omega
  have hm:L.getD v 0∈L:=by
   rw[aH,aq hv2];exact nP hv2
  have hxM:=hx _ hm;have vb:(lvM L x).testBit v=true:=A4.2 ⟨hv2,by omega⟩;obtain⟨R,hR⟩:=hg (lvM L x) v (w x) vb fun j hj=>by have:=(A4.1 hj).1; have:=hL.1; omega
  have hG:Grp A (lvM L x) R:=⟨v,vb,hR⟩;obtain⟨y,y1,y2⟩:=be (cz R) x (by omega) (by omega) ⟨R,hG,rfl⟩;obtain⟨i,hi,e2⟩:=UX (AA.2 ⟨_,y2,rfl⟩);unfold tC;refine⟨i,by rw[s1]; exact hi,?_,?_⟩
  ·rw[s2];unfold bZ;rw[aH,aq hi,eZ,e2];exact (lI (zX hG)).2 (hR.sub v (D7 v))
  ·rw[s3,e];unfold nS;rw[aH,aq hi,eZ,e2];exact y1
theorem abL {A:List Nat} {N:Nat} {L:List Int} {P:List Pt} (hS:D3 A) (h:OU A N L P) {i:Nat} (hi:i<P.length) (hp:0<=kJ P i):kJ P i<i/\nS P (kJ P i).toNat<nS P i/\(∀x∈bZ P i,x∈bZ P (kJ P i).toNat)/\(bZ P i).length<(bZ P (kJ P i).toNat).length:=by
 rcases h.par i hi with e|⟨a,b,c,d⟩
 ·omega
 ·have sub:∀x∈bZ P i,x∈bZ P (kJ P i).toNat:=fun x hx=>by
   have:=sO.1 d x hx;exact of_decide_eq_true this
  refine⟨b,?_,sub,c⟩;have hk:(kJ P i).toNat<P.length:=by omega
  have:=h.asc (kJ P i).toNat i (by omega) hi;rcases Int.lt_or_le (nS P (kJ P i).toNat) (nS P i) with q|q
  ·exact q
  ·obtain⟨j,R,j1,_,j2,j3⟩:=h.lv i hi;obtain⟨k,S,k1,_,k2,k3⟩:=h.lv _ hk;obtain rfl:j=k:=by omega
   have tN:bZ P i≠[]:=fun e=>by
    obtain⟨v,v1,v2⟩:=j2;have:=(lI v2.lt).2 (v2.sub v (D7 v));rw[<-j3,e] at this;cases this
   obtain⟨x,hx⟩:=J2 _ tN;have hx2:=sub x hx;rw[j3] at hx;rw[k3] at hx2;obtain⟨u,rfl,u1,u2⟩:=ff.1 hx;have u3:=(lI (zX k2)).1 hx2;have s:=Bg hS (fun _ h=>h) k2 j2 u3 u2
   have:=Ga (A:=cz S) (B:=cz R) ((qS _).imp fun{a b} h=>by omega) fun y hy=>by
    obtain⟨u,rfl,u1,u2⟩:=ff.1 hy;exact (lI (zX j2)).2 (s u u2)
   rw[j3,k3] at c;omega
theorem ZB {A:List Nat} {N:Nat} {L:List Int} {P:List Pt} (hS:D3 A) (h:OU A N L P) {i k:Nat} (hk:k<i) (hi:i<P.length):meet (bZ P i) (bZ P k)=[]\/meet (bZ P i) (bZ P k)=bZ P i:=by
 obtain⟨j,R,j1,_,j2,j3⟩:=h.lv i hi;obtain⟨j',S,k1,_,k2,k3⟩:=h.lv k (by omega);have hle:=h.asc k i hk hi;obtain⟨mu,mm⟩:=tw (bZ P i) (bZ P k);by_cases q:meet (bZ P i) (bZ P k)=[]
 ·exact .inl q
 ·obtain⟨x,hx⟩:=J2 _ q;obtain⟨x1,x2⟩:=(mm x).1 hx;rw[j3] at x1;rw[k3] at x2;obtain⟨u,rfl,u1,u2⟩:=ff.1 x1;have u3:=(lI (zX k2)).1 x2;have s:=Bg hS (aby (by omega:j'<=j)) j2 k2 u2 u3;right;refine tR mu (by rw[j3]; exact qS _) fun y=>?_;rw[mm];constructor
  ·exact fun z=>z.1
  ·intro z;refine⟨z,?_⟩;rw[j3] at z;rw[k3];obtain⟨u,rfl,u1,u2⟩:=ff.1 z;exact (lI (zX k2)).2 (s u u2)
theorem KK {A:List Nat} {N:Nat} {L:List Int} {P:List Pt} (h:OU A N L P) {i v:Nat} (hi:i<P.length) (hv:(v:Int)∈bZ P i):v<L.length/\nS P i<=L.getD v 0:=by
 obtain⟨j,R,j1,_,j2,j3⟩:=h.lv i hi;rw[j3,lI (zX j2)] at hv;obtain⟨u,u1,u2⟩:=j2;have:=A4.1 (u2.win v hv);exact⟨this.1,by omega⟩
theorem abM {A:List Nat} {N:Nat} {L:List Int} {P:List Pt} (hN:N<=64) (hL:nj A N L) (h:OU A N L P) {i v:Nat} (hi:i<P.length) (hv:(v:Int)∈bZ P i):nS P i<=((meet (cz (A.getD v 0)) (bZ P i)).length:Int):=by
 obtain⟨n1,n2⟩:=KK h hi hv;obtain⟨j,R,j1,_,j2,j3⟩:=h.lv i hi;have hv':=hv;rw[j3,lI (zX j2)] at hv';have hvN:v<N:=by have:=hL.1; omega
 obtain⟨x,e,q⟩:=hL.2 v hvN
 have em:meet (cz (A.getD v 0)) (bZ P i)=cz (R &&& A.getD v 0):=by
  obtain⟨mu,mm⟩:=tw (cz (A.getD v 0)) (bZ P i);refine tR mu (qS _) fun y=>?_;rw[mm,j3,ff,ff,ff];constructor
  ·rintro⟨⟨a,rfl,a1,a2⟩,b,eb,b1,b2⟩;obtain rfl:a=b:=by omega
   exact⟨a,rfl,a1,by rw[bS,a2,b2]; rfl⟩
  ·rintro⟨a,rfl,a1,a2⟩;rw[bS,ae] at a2;exact⟨⟨a,rfl,a1,a2.2⟩,a,rfl,a1,a2.1⟩
 rw[em,Bz,j1];rcases (q j).1 (by omega) with r|⟨m',s,b,g⟩
 ·subst r; omega
 ·have g1:=g v b
  have sub:Lk (m' &&& A.getD v 0) R:=fun a ha=>by
   rw[bS,ae] at ha;have haN:=s a ha.1;rw[Nat.testBit_two_pow_sub_one] at haN;have haN:=of_decide_eq_true haN;obtain⟨y,ey,qy⟩:=hL.2 a haN;have:=(qy j).2 (.inr ⟨m',s,ha.1,g⟩);obtain⟨u,u1,u2⟩:=j2;exact u2.cl v a hv' ha.2 (A4.2 ⟨by have:=hL.1; omega,by omega⟩)
  have d:=Br A sub v;unfold Ux at d g1;rw[Nat.and_assoc,Nat.and_self] at d;omega
def HD (P:List Pt) (v lv:Int) (i:Nat):Bool:=decide (nS P i<=lv)&&decide (v∈bZ P i)
def Rh (P:List Pt) (kp:Nat->Bool) (at':Int) (i:Nat):Int:=if (kp i&&(decide (at'<0)||decide (nS P at'.toNat<=nS P i)))=true then i else at'
def La (P:List Pt) (kp:Nat->Bool):Nat->Nat->Int->Int
 |0,_,a=>a
 |n+1,i,a=>La P kp n (i+1) (Rh P kp a i)
theorem UJ {P:List Pt} {kp:Nat->Bool}:∀(n i:Nat) (a:Int),((a=-1/\∀ j,j<i->kp j=false)\/(0<=a/\a<i/\kp a.toNat=true/\∀ j,j<i->kp j=true->nS P j<=nS P a.toNat)) ->
  ((La P kp n i a=-1/\∀ j,j<i+n->kp j=false)\/(0<=La P kp n i a/\La P kp n i a<(i+n:Nat)/\kp (La P kp n i a).toNat=true/\∀ j,j<i+n->kp j=true->nS P j<=nS P (La P kp n i a).toNat))
 |0,i,a,h=>h
 |n+1,i,a,h=>by
   have e:La P kp (n+1) i a=La P kp n (i+1) (Rh P kp a i):=rfl;rw[e,show i+(n+1)=i+1+n by omega];refine UJ n (i+1) (Rh P kp a i) ?_;unfold Rh;split
   ·rename_i q;simp only[ae,Bool.or_eq_true,decide_eq_true_eq] at q;right;have ei:((i:Nat):Int).toNat=i:=by omega
    rw[ei];refine⟨by omega,by omega,q.1,fun j hj hk=>?_⟩;rcases sN (DL hj) with rfl|hj
    ·exact Int.le_refl _
    ·rcases h with⟨_,h⟩|⟨h1,h2,h3,h4⟩
     ·rw[h j hj] at hk; cases hk
     ·have:=h4 j hj hk;rcases q.2 with q|q<;>omega
   ·rename_i q;rcases h with⟨h1,h⟩|⟨h1,h2,h3,h4⟩
    ·left;refine⟨h1,fun j hj=>?_⟩;rcases sN (DL hj) with rfl|hj
     ·cases hk:kp j with
      |false=>rfl
      |true=>exact absurd (by rw[hk,h1]; rfl) q
     ·exact h j hj
    ·right;refine⟨h1,by omega,h3,fun j hj hk=>?_⟩;rcases sN (DL hj) with rfl|hj
     ·rcases Int.lt_or_le (nS P a.toNat) (nS P j) with z|z
      ·exact absurd (by rw[hk]; simp; right; omega) q
      ·exact z
     ·exact h4 j hj hk
theorem ZC {A:List Nat} {N:Nat} {L:List Int} {P:List Pt} (hN:N<=64) (hL:nj A N L) (hx:∀x∈L,x<=64) (h:OU A N L P) {v:Nat} (hv:v<N):0<=La P (HD P v 64) P.length 0 (-1)/\La P (HD P v 64) P.length 0 (-1)<(P.length:Int)/\nS P (La P (HD P v 64) P.length 0 (-1)).toNat=L.getD v 0:=by
 have s:=UJ (P:=P) (kp:=HD P v 64) P.length 0 (-1) (.inl ⟨rfl,fun j hj=>by omega⟩);rw[Nat.zero_add] at s;obtain⟨i,i1,i2,i3⟩:=h.all v hv
 have kk:∀j,j<P.length->(HD P v 64 j=true ↔ (v:Int)∈bZ P j):=fun j hj=>by
  unfold HD;rw[ae,decide_eq_true_eq,decide_eq_true_eq];obtain⟨a,R,a1,a2,_⟩:=h.lv j hj;exact⟨fun z=>z.2,fun z=>⟨by omega,z⟩⟩
 have ki:=(kk i i1).2 i2;rcases s with⟨_,s⟩|⟨s1,s2,s3,s4⟩
 ·rw[s i i1] at ki; cases ki
 ·generalize La P (HD P v 64) P.length 0 (-1)=a at *;have ha:a.toNat<P.length:=by omega
  have n:=(KK h ha ((kk _ ha).1 s3)).2;have:=s4 i i1 ki;exact⟨s1,s2,by omega⟩
/- hierarchy.gathered, as a whole. -/
set_option maxRecDepth 100000
set_option maxHeartbeats 8000000
theorem aeE {b:List (List Int × Int)} (hn:(b.map eH).Nodup) (qP:∀p∈b,p.1.length<=64):okP (b.map fun p=>((p.2,-1,p.1):Pt))=true:=by
 unfold okP;rw[Tf hn,Bool.true_and,sO];intro z hz;obtain⟨p,hp,rfl⟩:=iK.1 hz;have:=qP p hp;exact decide_eq_true (by simp; omega)
theorem X7 {nC:Nat} {b:List (List Int × Int)} (hn:(b.map eH).Nodup) (qP:∀p∈b,p.1.length<=64) (hl:b.length<=900):psG nC 3 (Gi b b.length) [.func (.func nC) [] []]=some ((prt b).map dZ,none):=by
 have e:Gi b b.length=(b.map fun p=>((p.2,-1,p.1):Pt)).map dZ:=by rw[abA,List.map_map]; rfl
 rw[e];simp only[psG];rw[if_pos ⟨trivial,trivial,by rw[cN,cN]; unfold mN; omega⟩,I2];simp only;rw[if_pos (aeE hn qP)];rfl
theorem aeD {b:List (List Int × Int)} (qP:∀p∈b,p.1.length<=64) (j:Nat):(bZ (prt b) j).length<=64:=by
 unfold bZ;by_cases h:j<(prt b).length
 ·obtain⟨p,hp,e⟩:=AA.1 (at_mem h);rw[<-e];exact qP p hp
 ·rw[aH,List.getElem?_eq_none (by omega)];exact Lt _
theorem aa3 (b:List (List Int × Int)) (j:Nat) (h:j<(prt b).length):kJ (prt b) j=-1:=by
 obtain⟨p,_,e⟩:=AA.1 (at_mem h);unfold kJ; rw[<-e]
theorem ahc {A:List Nat} {L:List Int} {k n:Nat} {a b:List (List Int × Int)} (h:LvR A L k n a b):(∀p∈a,p.1.length<=64)->∀p∈b,p.1.length<=64:=by
 induction h with
 |nil=>exact id
 |cons k n a b l _ _ ih=>
   intro ha;refine ih ?_
   have:∀(l:List Nat) (a:List (List Int × Int)),(∀p∈a,p.1.length<=64)->∀p∈rZ k a (l.map cz),p.1.length<=64:=by
    intro l
    induction l with
    |nil=>exact fun a ha=>ha
    |cons R r ih2=>exact fun a ha=>ih2 (iW a (cz R) k) fun p hp=>(Av hp).elim (fun e=>by rw[e]; exact tJ R) (ha p)
   exact this l a ha
structure Lg (D:List AV):Prop where
 bo:cW D=[]
 ow:bJ D=false
 mp:∀g,cO g D=D
 pl:eE D=true
 pt:fD D=[]
 np:∀b,jI b D=true
 av:iX D D=true
 pp:fI D=true
theorem Gm (P:List Pt):Lg (P.map dZ):=by
 induction P with
 |nil=>exact⟨rfl,rfl,fun _=>rfl,rfl,rfl,fun _=>rfl,rfl,rfl⟩
 |cons p r ih=>
   rw[List.map_cons];obtain⟨c1,c2,c3,c4,c5,c6,c7,c8⟩:=ih;generalize r.map dZ=R1 at *;unfold dZ;obtain⟨b1,b2,b3,b4,b5,b6,b7,b8,b9,ba,bb⟩:=bM p.2.2;generalize ints p.2.2=S1 at *;refine⟨?_,?_,fun g=>?_,?_,?_,fun b=>?_,?_,?_⟩
   ·simp[cW,aK,c1]
   ·simp[bJ,c2]
   ·simp[cO,cD,c3]
   ·simp[eE,pl,c4,b4]
   ·simp[fD,rh,c5]
   ·simp[jI,sy,c6]
   ·simp[iX,o7,c7,b7]
   ·simp[fI,lN,c8]
theorem KZ {N:Nat} {Es:List Ed} (hG:vW (N:Int) Es) (hE:Es.length<1000000) (o L:List Int) (hL:L.length=N) (M:Nat) (hM:M<=13) :
  ∃ b,(LvR (ft N Es) L 0 (M+1) [] b/\b.length<=900)/\bU aC nQm [.int .i64 M,D0] (hC N (fi Es) (ints o) (ints L))=some (.list 3 ((tC b).map dZ),hC N (fi Es) (ints o) (ints L)):=by
 obtain⟨b,⟨b1,b2,b3⟩,Wc⟩:=Um hG hE o L hL (M+1) (by omega) (M+1) 0 [] (by omega) (fun p h=>absurd h vX) (Lt _);refine⟨b,⟨b1,b3⟩,?_⟩;have hn:(b.map eH).Nodup:=Nf b1 yK;have qP:=ahc b1 (fun p h=>absurd h vX);have W8:=Ul (N:=N) (Y:=fi Es) o L b b2 hn b3 qP b.length 0 (by omega);have pl:=Te b;have lp3:=Uj (N:=N) (Y:=fi Es) o L (prt b).length 0 (prt b) (by omega) (by omega) (aeD qP) (fun j _ h=>aa3 b j h);have ps:=X7 (nC:=V6) hn qP b3;have la:=zL b b.length
 have hw:IntKind.i64.wrap ((M:Int)+1)=(M+1:Nat):=by
  have:=eO (i:=M) (by omega);simpa using this
 have zl:Gi b 0=oQ b:=Y5 b;have lpa:=wE b
 have lh:((tC b).map dZ).length=b.length:=by
  unfold tC;rw[cN,(wG (prt b).length 0 (prt b) (by omega)).1,pl]
 have tkh:((tC b).map dZ).take b.length=(tC b).map dZ:=dt (by omega);obtain⟨g1,g2,g3,g4,g5,g6,g7,g8⟩:=Gm (tC b);have eh:qF b.length 0 (prt b)=tC b:=by unfold tC; rw[pl]
 have ehl:(tC b).length=b.length:=by rw[cN] at lh; exact lh
 have tkl:(Gi b b.length).take b.length=Gi b b.length:=dt (by omega);have dpl:(Gi b b.length).drop b.length=[]:=List.drop_eq_nil_of_le (by omega);have lq:((prt b).map dZ).length=b.length:=by rw[cN,pl]
 obtain⟨a1,a2,a3,a4,a5,a6,a7,a8,a9,aa,ab⟩:=bM o;obtain⟨b1',b2',b3',b4,b5,b6,b7,b8,b9,ba,bb⟩:=bM L;obtain⟨c1,c2,c3,c4,c5,c6,c8⟩:=mU b;have x1:=sB (bM o);have x2:=sB (bM L);have x3:=A5 (mU b);rw[fK sQm (aF rfl)];unfold QN QM QK hH hC my nB at *;rw[zl] at W8;simp only[jJ,pl] at Wc W8 lp3;change bg aC 5 (.loop Jj) ⟨(1,D0)::(5,.func (.yield 0) [] [.ptr 5 0])::(6,.own 3 [])::(17,.int .i64 (M+1:Nat))::(18,.int .i64 0)::[],[some [.int .i64 N,.list 2 (fi Es)],some [.int .i64 N,.list 2 (fi Es)],some (ints o),some (ints L),some [.sl 1 3 0 N],some []]⟩=_ at Wc;rw[eh] at lp3;rw[ehl] at lp3;generalize (tC b).map dZ=Ph at *;generalize (prt b).map dZ=Pp at *;generalize Gi b b.length=Pl at *;generalize oQ b=Pa at *;generalize zY b=E1 at *;generalize ints o=O1 at *;generalize ints L=L1 at *;generalize fi Es=Y at *;have e1:((M+1:Nat):Int)=(M:Int)+1:=by omega
 rw[e1] at Wc hw;unfold D0 at *;unfold qQm cQm;simp[oF,oE,oD,oC,oB,oA,ox,ot,oq,om,jC,jB,jA,jz,jy,jx,jw,jv,ju,jt,js,jr,jq,jo,jm,jl,jj,ji,jh,jg,jf,je,Wc,W8,lp3,hw,la,lpa,lh,lq,tkh,tkl,dpl,List.append_nil,g1,g2,g3,g4,g5,g6,g7,g8,ps,x1,x2,x3,a1,a2,a3,a4,a5,a6,a7,a8,a9,aa,ab,b1',b2',b3',b4,b5,b6,b7,b8,b9,ba,bb,c1,c2,c3,c4,c5,c6,c8,mapOf,nB,An,aJ,zi,cc,bR,sW,lN,fI,eE,pl,iu,dD,lV,mO,fy,eX,dn,gn,ja,rh,fD,qR,o7,iX,sQD,iQD]
/- hierarchy.Cores. -/
theorem XM {N:Nat} {Es:List Ed} (hG:vW (N:Int) Es) (m v:Nat) (hm:m<18446744073709551616) (hv:m.testBit v=true) (hj:∀j,m.testBit j=true->j<N):∃R,xq (ft N Es) m (2 ^ v) R:=by
 have hN:N<=64:=by have:=hG.1.2; omega
 have p64:2 ^ v<18446744073709551616:=by
  have:=Nat.pow_lt_pow_right (a:=2) (by decide) (show v<64 by have:=hj v hv; omega);rw[show (18446744073709551616:Nat)=2 ^ 64 from rfl]; exact this
 obtain⟨R,r1,_⟩:=Iv (A:=ft N Es) (W:=m) (f:=2 ^ v) (by rw[(mK hG).1]; omega) (UR hG) hm p64 fun j h=>by rw[(mK hG).1]; exact hj j h
 have e:2 ^ v &&& m=2 ^ v:=by
  apply Nat.eq_of_testBit_eq;intro j;rw[bS,Nat.testBit_two_pow];by_cases e:v=j
  ·subst e; simp[hv]
  ·simp[e]
 rw[e] at r1;exact⟨R,r1⟩
theorem WH {N:Nat} {Es:List Ed} (hG:vW (N:Int) Es) (hE:Es.length<1000000) (h0:0<N) (h13:N<=13) :
  ∃ L b,(nj (ft N Es) N L/\OU (ft N Es) N L (tC b))/\bU aC nQd [.agg [.int .i64 N,.list 2 (fi Es)]] []=some (.dF [.list 3 ((tC b).map dZ),.int .i64 0],[]):=by
 have hN:N<=64:=by omega
 obtain⟨o,ds,hp,nr⟩:=aaf hG hE h0;have ln:(qE o ds 0 (aT N 0)).length=N:=by rw[FP,List.length_replicate]
 have hL:=Yb hN hp ln;generalize qE o ds 0 (aT N 0)=L at *;obtain⟨s1,s2,s3⟩:=yx hG;have bd:=NM hL s3
 obtain⟨d,L',rfl⟩:∃d L',L=d::L':=by
  cases L with
  |nil=>simp at ln; omega
  |cons d r=>exact⟨d,r,rfl⟩
 obtain⟨m1,m2,m3⟩:=YR L' d
 have mb:0<=MW d L'/\MW d L'<=(N:Int):=by
  have b1:=bd d List.mem_cons_self;rcases m3 with m3|m3
  ·omega
  ·have:=bd _ (List.mem_cons_of_mem d m3); omega
 obtain⟨M,hM⟩:∃M:Nat,MW d L'=M:=⟨(MW d L').toNat,by omega⟩
 have hx:∀x∈d::L',x<=(M:Int):=fun x hx=>by
  rw[<-hM];rcases List.mem_cons.1 hx with rfl|hx
  ·exact m1
  ·exact m2 x hx
 obtain⟨b,⟨b1,b2⟩,gr⟩:=KZ hG hE (ns o) (d::L') ln M (by omega);have mr:=abx d L' (by simp at ln; omega);rw[hM] at mr;refine⟨d::L',b,⟨hL,abN s1 hN (by omega) hL hx (XM hG) b1 b2⟩,?_⟩;have ll:=ah (d::L');rw[ln] at ll;have tk:(ints (d::L')).take N=ints (d::L'):=dt (by omega);have n0:¬(N:Int)=0:=by omega
 have n0':¬N=0:=by omega
 obtain⟨a1,a2,a3,a4,a5,a6,a7,a8,a9,aa,ab⟩:=bM (ns o);obtain⟨b1',b2',b3',b4,b5,b6,b7,b8,b9,ba,bb⟩:=bM (d::L');have x1:=sB (bM (ns o));have x2:=sB (bM (d::L'));have n1:∀f n,eF f n (ints (d::L'))=ints (d::L'):=fun f n=>B9 f (d::L') n;obtain⟨g1,g2,g3,g4,g5,g6,g7,g8⟩:=Gm (tC b);rw[fK sQd (aF rfl)];unfold hC my D0 at *;generalize (tC b).map dZ=Ph at *;generalize ints (ns o)=O1 at *;generalize ints (d::L')=L1 at *;generalize fi Es=Y at *;unfold qQd cQd;simp[ac7,ac6,ac5,ac4,ac3,nr,mr,gr,ll,tk,n0,n0',g1,g2,g3,g4,g5,g6,g7,g8,n1,x1,x2,a1,a2,a3,a4,a5,a6,a7,a8,a9,aa,ab,b1',b2',b3',b4,b5,b6,b7,b8,b9,ba,bb,An,aJ,zi,cc,bR,sW,lN,fI,eE,pl,iu,dD,lV,mO,fy,eX,dn,gn,ja,rh,fD,qR,o7,iX,sQn,iQn,sQl,iQl,sQm,iQm]
end Go.BmP
