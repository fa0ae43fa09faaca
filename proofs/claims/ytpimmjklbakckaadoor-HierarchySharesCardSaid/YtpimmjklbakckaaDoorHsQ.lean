/- The way outwards in the hierarchy of cores, plain. -/
import Derived.Test.YtpimmjklbakckaaDoorHcX
set_option linter.unusedSimpArgs false
set_option linter.unusedVariables false
set_option linter.unusedSectionVars false
open Bool renaming and_eq_true → ae, or_eq_true → dG
open Classical renaming byContradiction → Ap
open List renaming getD_eq_getElem?_getD → aT, getElem?_eq_getElem → aB, length_cons → dz, mem_cons → aK
open Nat renaming eq_or_lt_of_le → gT, le_of_lt_succ → uW, le_refl → aG, zero_add → eS
namespace Go.BmP
open Go.Am Go.Bm
def Cand (P:List Pt) (i k:Nat):Prop:=(cq P i).length<(cq P k).length/\Ce (cq P i) (cq P k)=true
def Bs (P:List Pt) (i:Nat) (k:Nat) (p:Int):Prop:=∀j,j<k->Cand P i j->0<=p/\(cq P p.toNat).length<=(cq P j).length
theorem VE {P:List Pt} {i k:Nat} {p:Int} (h:Bs P i k p):Bs P i (k+1) (pS P i p k):=by
 intro j hj hc;unfold pS;split
 ·rename_i q;unfold FO at q;simp only[ae,dG,decide_eq_true_eq] at q;have e:((k:Nat):Int).toNat=k:=by omega
  rw[e];refine⟨by omega,?_⟩;rcases gT (uW hj) with rfl|hj
  ·exact aG _
  ·have:=h j hj hc;rcases q.2.2 with z|z<;>omega
 ·rename_i q;rcases gT (uW hj) with rfl|hj
  ·unfold FO at q;simp only[ae,dG,decide_eq_true_eq,hc.1,hc.2,true_and,not_or] at q;omega
  ·exact h j hj hc
theorem Ku {P:List Pt} {i:Nat}:∀(n k:Nat) (p:Int),k+n=i->Bs P i k p->Bs P i i (AG P i n k p)
 |0,k,p,hk,h=>by
   obtain rfl:k=i:=by omega
   exact h
 |n+1,k,p,hk,h=>Ku n (k+1) (pS P i p k) (by omega) (VE h)
theorem WZ (b:List (List Int × Int)) (i:Nat) (hi:i<(mD b).length):Bs (mD b) i i (mT (mD b) i):=by
 obtain⟨s1,s2,s3,s4,s5⟩:=oO (prt b).length 0 (prt b) (by omega);unfold mD at *;rw[s1] at hi;rw[s5 i (by omega) hi];have:=Ku (P:=prt b) (i:=i) i 0 (mT (prt b) i) (by omega) (fun j hj=>by omega);intro j hj hc;unfold Cand at hc;rw[s2,s2] at hc;have z:=this j hj hc;rw[s2,s2];exact z
theorem W0 {b:List (List Int × Int)} (hn:(b.map Prod.fst).Nodup) {i k:Nat} (tr:i<k) (hk:k<(mD b).length):cq (mD b) i≠cq (mD b) k:=by
 obtain⟨s1,s2,s3,s4,s5⟩:=oO (prt b).length 0 (prt b) (by omega);unfold mD at *;rw[s1] at hk;rw[s2,s2]
 have hp:((prt b).map fun x=>x.2.2).Nodup:=by
  have h1:((prt b).map fun x=>x.2.2).Perm ((b.map fun p=>((p.2,-1,p.1):Pt)).map fun x=>x.2.2):=(lF _).map _;rw[h1.nodup_iff,List.map_map];exact hn
 unfold List.Nodup at hp;rw[List.pairwise_map] at hp;have:=List.pairwise_iff_getElem.1 hp i k (by omega) hk tr;unfold cq;rw[aT,aB (by omega),aT,aB hk];exact this
def fx (P:List Pt):Nat->Int->List Int
 |0,_=>[]
 |n+1,a=>a::(if mT P a.toNat<0\/a<=mT P a.toNat then[] else fx P n (mT P a.toNat))
theorem AF (P:List Pt):∀(n:Nat) (a:Int),(fx P n a).length<=n
 |0,_=>aG _
 |n+1,a=>by
   unfold fx;rw[dz];split
   ·simp
   ·have:=AF P n (mT P a.toNat); omega
structure HOK2 (A:List Nat) (N:Nat) (L:List Int) (P:List Pt):Prop where
 ok:HOK A N L P
 mn:∀i,i<P.length->Bs P i i (mT P i)
 ds:∀i k,i<k->k<P.length->cq P i≠cq P k
section
variable {A:List Nat} {N:Nat} {L:List Int} {P:List Pt} (hS:Cp A) (h:HOK2 A N L P)
include hS h
theorem WS (i:Nat) (hi:i<P.length):(cq P i).Nodup:=by
 obtain⟨_,R,_,_,_,e⟩:=h.ok.lv i hi;rw[e];exact (rQ R).imp fun{a b} h=>by omega
theorem NO {i k:Nat} (hk:k<i) (hi:i<P.length) {u:Int} (hu:u∈cq P i) (FV:u∈cq P k):Cand P i k:=by
 obtain⟨mu,mm⟩:=nA (cq P i) (cq P k)
 have sub:∀x∈cq P i,x∈cq P k:=by
  rcases WT hS h.ok hk hi with e|e
  ·have:=(mm u).2 ⟨hu,FV⟩;rw[e] at this; cases this
  ·intro x hx;rw[<-e] at hx;exact ((mm x).1 hx).2
 refine⟨?_,List.all_eq_true.2 fun x hx=>decide_eq_true (sub x hx)⟩;have l1:=D7 (WS hS h i hi) sub;rcases Nat.lt_or_eq_of_le l1 with q|q
 ·exact q
 ·exfalso;refine h.ds k i hk hi ?_;obtain⟨_,R,_,_,_,e⟩:=h.ok.lv i hi;obtain⟨_,S,_,_,_,f⟩:=h.ok.lv k (by omega);refine CU (by rw[f]; exact rQ _) (by rw[e]; exact rQ _) fun x=>⟨fun hx=>?_,sub x⟩;apply Ap;intro hn
  have:=D7 (A:=x::cq P i) (B:=cq P k) (List.nodup_cons.2 ⟨hn,WS hS h i hi⟩) fun y hy=>by
   rcases aK.1 hy with rfl|hy
   ·exact hx
   ·exact sub y hy
  rw[dz] at this;omega
theorem Ks {u:Int}:∀(n j:Nat),j<n->j<P.length->u∈cq P j->∀x:Int,x∈fx P n (j:Int) ↔ ∃i:Nat,x=i/\i<=j/\u∈cq P i
 |0,j,hj,_,_=>by omega
 |n+1,j,hj,hP,hu=>by
   intro x;unfold fx;have ej:((j:Nat):Int).toNat=j:=by omega
   rw[ej,aK];split
   ·rename_i q;constructor
    ·rintro (rfl|hx)
     ·exact⟨j,rfl,aG _,hu⟩
     ·cases hx
    ·rintro⟨i,rfl,hi,hui⟩;rcases gT hi with rfl|hi
     ·exact .inl rfl
     ·have c:=NO hS h hi hP hu hui;have m:=h.mn j hP i hi c;rcases h.ok.par j hP with e|e
      ·omega
      ·omega
   ·rename_i q;rw[not_or] at q;have hp:=ZQ hS h.ok hP (by omega);obtain⟨p,ep⟩:∃p:Nat,mT P j=(p:Int):=⟨(mT P j).toNat,by omega⟩;rw[ep] at hp q ⊢;have ept:((p:Nat):Int).toNat=p:=by omega
    rw[ept] at hp;have up:=hp.2.2.1 u hu;rw[Ks n p (by omega) (by omega) up x];constructor
    ·rintro (rfl|⟨i,rfl,hi,hui⟩)
     ·exact⟨j,rfl,aG _,hu⟩
     ·exact⟨i,rfl,by omega,hui⟩
    ·rintro⟨i,rfl,hi,hui⟩;rcases gT hi with rfl|hi
     ·exact .inl rfl
     ·right;refine⟨i,rfl,?_,hui⟩;have c:=NO hS h hi hP hu hui;have m:=h.mn j hP i hi c;rw[ep,ept] at m;apply Nat.le_of_not_lt;intro z;have c2:=NO hS h z (by omega) hui up;have:=c2.1;omega
theorem GZ {kp:Nat->Bool} {a:Int} {u:Int} (hkp:∀i,i<P.length->kp i=true->u∈cq P i) (h0:0<=a) (h1:a<(P.length:Int)) (h2:kp a.toNat=true) (h3:∀j,j<P.length->kp j=true->nE P j<=nE P a.toNat):∀i,i<P.length->kp i=true->i<=a.toNat:=by
 intro i hi hk;apply Nat.le_of_not_lt;intro z;have l1:=h.ok.asc a.toNat i z hi;have l2:=h3 i hi hk;have ha:a.toNat<P.length:=by omega
 have u1:=hkp i hi hk;have u2:=hkp _ ha h2;obtain⟨j,R,j1,_,j2,j3⟩:=h.ok.lv i hi;obtain⟨k,S,k1,_,k2,k3⟩:=h.ok.lv _ ha;obtain rfl:j=k:=by omega
 refine h.ds _ i z hi ?_;rw[j3] at u1;rw[k3] at u2;obtain⟨w,rfl,w1,w2⟩:=jJ.1 u1;have w3:=(lK (yP k2)).1 u2;have s1:=s9 hS (fun _ h=>h) j2 k2 w2 w3;have s2:=s9 hS (fun _ h=>h) k2 j2 w3 w2;rw[j3,k3];congr 1;apply Nat.eq_of_testBit_eq;intro t;cases q:S.testBit t with
 |true=>exact (s2 t q).symm
 |false=>cases q2:R.testBit t with
   |true=>rw[s1 t q2] at q; cases q
   |false=>rfl
end
/- What two nodes share in the hierarchy of cores, plain. -/
def Eo (P:List Pt) (x y:Int) (i:Nat):Bool:=decide (x∈cq P i)&&decide (y∈cq P i)
theorem OX:∀{l:List Int} {x:Int},Up l->x∈l->(∀y∈l,y<=x)->l[l.length-1]?=some x
 |[],x,_,h,_=>by cases h
 |[a],x,_,h,_=>by
   have:x=a:=by simpa using h
   subst this; rfl
 |a::b::r,x,hu,h,hm=>by
   obtain⟨u1,u2⟩:=List.pairwise_cons.1 hu
   have hx:x∈b::r:=by
    rcases aK.1 h with rfl|h
    ·have a1:=u1 b List.mem_cons_self;have a2:=hm b (by simp);omega
    ·exact h
   have ih:=OX u2 hx fun y hy=>hm y (List.mem_cons_of_mem _ hy);rw[show (a::b::r).length-1=(b::r).length-1+1 by simp];exact ih
section
variable {A:List Nat} {N:Nat} {L:List Int} {P:List Pt} (hS:Cp A) (hN:N<=64) (hL:Fw A N L) (hx:∀x∈L,x<=64) (h:HOK2 A N L P)
include hS hN hL hx h
theorem OW {u:Nat} (hu:u<N) (x:Int):x∈fx P P.length (o7 P (rb P u 64) P.length 0 (-1)) ↔ ∃i:Nat,x=i/\i<P.length/\(u:Int)∈cq P i:=by
 have f:=EB hN hL hx h.ok hu;have s:=CN (P:=P) (kp:=rb P u 64) P.length 0 (-1) (.inl ⟨rfl,fun j hj=>by omega⟩);rw[eS] at s;generalize o7 P (rb P u 64) P.length 0 (-1)=a at *;rcases s with⟨e,_⟩|⟨s1,s2,s3,s4⟩
 ·omega
 have kk:∀j,j<P.length->(rb P u 64 j=true ↔ (u:Int)∈cq P j):=fun j hj=>by
  unfold rb;rw[ae,decide_eq_true_eq,decide_eq_true_eq];obtain⟨b,R,b1,b2,_⟩:=h.ok.lv j hj;exact⟨fun z=>z.2,fun z=>⟨by omega,z⟩⟩
 have ha:a.toNat<P.length:=by omega
 have lp:=GZ hS h (fun i hi hk=>(kk i hi).1 hk) s1 s2 s3 s4;have pi:=Ks hS h (u:=(u:Int)) P.length a.toNat ha ha ((kk _ ha).1 s3) x;rw[Int.toNat_of_nonneg s1] at pi;rw[pi];constructor
 ·rintro⟨i,rfl,hi,hu⟩;exact⟨i,rfl,by omega,hu⟩
 ·rintro⟨i,rfl,hi,hu⟩;exact⟨i,rfl,lp i hi ((kk i hi).2 hu),hu⟩
theorem XP {u v:Nat} (hu:u<N) (hv:v<N) (x:Int):x∈meet (fx P P.length (o7 P (rb P u 64) P.length 0 (-1))) (fx P P.length (o7 P (rb P v 64) P.length 0 (-1))) ↔ ∃i:Nat,x=i/\i<P.length/\(u:Int)∈cq P i/\(v:Int)∈cq P i:=by
 rw[(nA _ _).2,OW hS hN hL hx h hu,OW hS hN hL hx h hv];constructor
 ·rintro⟨⟨i,rfl,hi,h1⟩,j,e,_,h2⟩;obtain rfl:i=j:=by omega
  exact⟨i,rfl,hi,h1,h2⟩
 ·rintro⟨i,rfl,hi,h1,h2⟩;exact⟨⟨i,rfl,hi,h1⟩,i,rfl,hi,h2⟩
theorem HX {u v:Nat} (hu:u<N) (hv:v<N) :
  (o7 P (Eo P u v) P.length 0 (-1)=-1/\meet (fx P P.length (o7 P (rb P u 64) P.length 0 (-1))) (fx P P.length (o7 P (rb P v 64) P.length 0 (-1)))=[]) \/
  (0<=o7 P (Eo P u v) P.length 0 (-1)/\o7 P (Eo P u v) P.length 0 (-1)∈meet (fx P P.length (o7 P (rb P u 64) P.length 0 (-1))) (fx P P.length (o7 P (rb P v 64) P.length 0 (-1))) /\
   (meet (fx P P.length (o7 P (rb P u 64) P.length 0 (-1))) (fx P P.length (o7 P (rb P v 64) P.length 0 (-1))))[(meet (fx P P.length (o7 P (rb P u 64) P.length 0 (-1))) (fx P P.length (o7 P (rb P v 64) P.length 0 (-1)))).length-1]?=some (o7 P (Eo P u v) P.length 0 (-1))):=by
 have bi:=XP hS hN hL hx h hu hv;have bu:=(nA (fx P P.length (o7 P (rb P u 64) P.length 0 (-1))) (fx P P.length (o7 P (rb P v 64) P.length 0 (-1)))).1;generalize meet (fx P P.length (o7 P (rb P u 64) P.length 0 (-1))) (fx P P.length (o7 P (rb P v 64) P.length 0 (-1)))=B at *;have s:=CN (P:=P) (kp:=Eo P u v) P.length 0 (-1) (.inl ⟨rfl,fun j hj=>by omega⟩);rw[eS] at s;generalize o7 P (Eo P u v) P.length 0 (-1)=a at *
 have kk:∀j,Eo P u v j=true ↔ (u:Int)∈cq P j/\(v:Int)∈cq P j:=fun j=>by
  unfold Eo;rw[ae,decide_eq_true_eq,decide_eq_true_eq]
 rcases s with⟨e,s⟩|⟨s1,s2,s3,s4⟩
 ·left;refine⟨e,List.eq_nil_iff_forall_not_mem.2 fun x hx=>?_⟩;obtain⟨i,_,hi,h1,h2⟩:=(bi x).1 hx;have:=s i hi;rw[(kk i).2 ⟨h1,h2⟩] at this;cases this
 ·right;have ha:a.toNat<P.length:=by omega
  have lp:=GZ hS h (u:=(u:Int)) (fun i hi hk=>((kk i).1 hk).1) s1 s2 s3 s4;have k:=(kk _).1 s3;have ab:a∈B:=(bi a).2 ⟨a.toNat,by omega,ha,k.1,k.2⟩;refine⟨s1,ab,OX bu ab fun y hy=>?_⟩;obtain⟨i,rfl,hi,h1,h2⟩:=(bi y).1 hy;have:=lp i hi ((kk i).2 ⟨h1,h2⟩);omega
end
end Go.BmP
