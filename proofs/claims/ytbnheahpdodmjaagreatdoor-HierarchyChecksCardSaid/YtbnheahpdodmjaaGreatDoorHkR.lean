/- The way outwards in the hierarchy of cores, plain. -/
import Derived.Test.YtbnheahpdodmjaaGreatDoorHcX
set_option linter.unusedSimpArgs false
set_option linter.unusedVariables false
set_option linter.unusedSectionVars false
open Bool renaming and_eq_true → ae, and_true → QW, eq_iff_iff → vk, or_eq_true → dT
open Classical renaming byContradiction → qp
open List renaming all_eq_true → ph, cons_append → MJ, filter_cons → MI, foldl_cons → dM, getD_eq_getElem?_getD → au, getElem?_eq_getElem → ai, getElem?_map → cn, getElem_mem → eG, getElem_of_mem → n9, length_map → aQ, mem_cons → aG, mem_cons_of_mem → cH, mem_cons_self → cF, mem_filter → fK, nil_append → sI, pairwise_append → ue, pairwise_cons → bD, pairwise_iff_getElem → Pr, pairwise_map → qj, perm_middle → Ir
open Nat renaming and_le_right → Bi, eq_of_testBit_eq → jO, eq_or_lt_of_le → jW, le_of_lt_succ → wc, le_refl → aO, lt_of_le_of_lt → dB, lt_pow_two_of_testBit → QT, testBit_and → bU, zero_testBit → Po
open Option.some renaming inj → bm
open Prod renaming fst → eP
namespace Go.BmP
open Go.Am Go.Bm
def Cand (P:List Pt) (i k:Nat):Prop:=(bR P i).length<(bR P k).length/\Dq (bR P i) (bR P k)=true
def Gb (P:List Pt) (i:Nat) (k:Nat) (p:Int):Prop:=∀j,j<k->Cand P i j->0<=p/\(bR P p.toNat).length<=(bR P j).length
theorem adD {P:List Pt} {i k:Nat} {p:Int} (h:Gb P i k p):Gb P i (k+1) (iA P i p k):=by
 intro j hj hc;unfold iA;split
 ·rename_i q;unfold zB at q;simp only[ae,dT,decide_eq_true_eq] at q;have e:((k:Nat):Int).toNat=k:=by omega
  rw[e];refine⟨by omega,?_⟩;rcases jW (wc hj) with rfl|hj
  ·exact aO _
  ·have:=h j hj hc;rcases q.2.2 with z|z<;>omega
 ·rename_i q;rcases jW (wc hj) with rfl|hj
  ·unfold zB at q;simp only[ae,dT,decide_eq_true_eq,hc.1,hc.2,true_and,not_or] at q;omega
  ·exact h j hj hc
theorem Sm {P:List Pt} {i:Nat}:∀(n k:Nat) (p:Int),k+n=i->Gb P i k p->Gb P i i (mS P i n k p)
 |0,k,p,hk,h=>by
   obtain rfl:k=i:=by omega
   exact h
 |n+1,k,p,hk,h=>Sm n (k+1) (iA P i p k) (by omega) (adD h)
theorem aeR (b:List (List Int × Int)) (i:Nat) (hi:i<(gV b).length):Gb (gV b) i i (pj (gV b) i):=by
 obtain⟨s1,s2,s3,s4,s5⟩:=nQ (prt b).length 0 (prt b) (by omega);unfold gV at *;rw[s1] at hi;rw[s5 i (by omega) hi];have:=Sm (P:=prt b) (i:=i) i 0 (pj (prt b) i) (by omega) (fun j hj=>by omega);intro j hj hc;unfold Cand at hc;rw[s2,s2] at hc;have z:=this j hj hc;rw[s2,s2];exact z
theorem aeS {b:List (List Int × Int)} (hn:(b.map eP).Nodup) {i k:Nat} (wi:i<k) (hk:k<(gV b).length):bR (gV b) i≠bR (gV b) k:=by
 obtain⟨s1,s2,s3,s4,s5⟩:=nQ (prt b).length 0 (prt b) (by omega);unfold gV at *;rw[s1] at hk;rw[s2,s2]
 have hp:((prt b).map fun x=>x.2.2).Nodup:=by
  have h1:((prt b).map fun x=>x.2.2).Perm ((b.map fun p=>((p.2,-1,p.1):Pt)).map fun x=>x.2.2):=(lC _).map _;rw[h1.nodup_iff,List.map_map];exact hn
 unfold List.Nodup at hp;rw[qj] at hp;have:=Pr.1 hp i k (by omega) hk wi;unfold bR;rw[au,ai (by omega),au,ai hk];exact this
def amh (P:List Pt):Nat->Int->List Int
 |0,_=>[]
 |n+1,a=>a::(if pj P a.toNat<0\/a<=pj P a.toNat then[] else amh P n (pj P a.toNat))
structure HOK2 (A:List Nat) (N:Nat) (L:List Int) (P:List Pt):Prop where
 ok:HOK A N L P
 mn:∀i,i<P.length->Gb P i i (pj P i)
 ds:∀i k,i<k->k<P.length->bR P i≠bR P k
section
variable {A:List Nat} {N:Nat} {L:List Int} {P:List Pt} (hS:Im A) (h:HOK2 A N L P)
include hS h
theorem aeP (i:Nat) (hi:i<P.length):(bR P i).Nodup:=by
 obtain⟨_,R,_,_,_,e⟩:=h.ok.lv i hi;rw[e];exact (nA R).imp fun{a b} h=>by omega
theorem ak3 {i k:Nat} (hk:k<i) (hi:i<P.length) {u:Int} (hu:u∈bR P i) (MU:u∈bR P k):Cand P i k:=by
 obtain⟨mu,mm⟩:=sX (bR P i) (bR P k)
 have sub:∀x∈bR P i,x∈bR P k:=by
  rcases aeQ hS h.ok hk hi with e|e
  ·have:=(mm u).2 ⟨hu,MU⟩;rw[e] at this; cases this
  ·intro x hx;rw[<-e] at hx;exact ((mm x).1 hx).2
 refine⟨?_,ph.2 fun x hx=>decide_eq_true (sub x hx)⟩;have l1:=u9 (aeP hS h i hi) sub;rcases Nat.lt_or_eq_of_le l1 with q|q
 ·exact q
 ·exfalso;refine h.ds k i hk hi ?_;obtain⟨_,R,_,_,_,e⟩:=h.ok.lv i hi;obtain⟨_,S,_,_,_,f⟩:=h.ok.lv k (by omega);refine ta (by rw[f]; exact nA _) (by rw[e]; exact nA _) fun x=>⟨fun hx=>?_,sub x⟩;apply qp;intro hn
  have:=u9 (A:=x::bR P i) (B:=bR P k) (List.nodup_cons.2 ⟨hn,aeP hS h i hi⟩) fun y hy=>by
   rcases aG.1 hy with rfl|hy
   ·exact hx
   ·exact sub y hy
  rw[List.length_cons] at this;omega
end
/- What is reached from some nodes within a set, as lists: the reference's road, plain. -/
def PL (l o:List Int) (w:Int):List Int:=if w∈l/\w∉o then o++[w] else o
theorem X5 (l o:List Int) (w:Int):∃t,PL l o w=o++t:=by
 unfold PL;split
 ·exact⟨_,rfl⟩
 ·exact⟨[],by simp⟩
theorem Iv (l:List Int):∀(W o:List Int),∃t,W.foldl (PL l) o=o++t
 |[],o=>⟨[],by simp⟩
 |w::W,o=>by
   obtain⟨t,ht⟩:=X5 l o w;obtain⟨s,hs⟩:=Iv l W (PL l o w);rw[dM,hs,ht,List.append_assoc];exact⟨_,rfl⟩
theorem Dx (l:List Int):∀(W o:List Int) (x:Int),x∈W.foldl (PL l) o ↔ x∈o\/(x∈W/\x∈l)
 |[],o,x=>by simp
 |w::W,o,x=>by
   rw[dM,Dx l W];unfold PL;by_cases h:w∈l/\w∉o
   ·rw[if_pos h,List.mem_append,List.mem_singleton,aG];constructor
    ·rintro ((k|rfl)|⟨k1,k2⟩)
     ·exact .inl k
     ·exact .inr ⟨.inl rfl,h.1⟩
     ·exact .inr ⟨.inr k1,k2⟩
    ·rintro (k|⟨rfl|k1,k2⟩)
     ·exact .inl (.inl k)
     ·exact .inl (.inr rfl)
     ·exact .inr ⟨k1,k2⟩
   ·rw[if_neg h,aG];constructor
    ·rintro (k|⟨k1,k2⟩)
     ·exact .inl k
     ·exact .inr ⟨.inr k1,k2⟩
    ·rintro (k|⟨rfl|k1,k2⟩)
     ·exact .inl k
     ·left;apply qp;exact fun k=>h ⟨k2,k⟩
     ·exact .inr ⟨k1,k2⟩
theorem Nz (l:List Int):∀(W o:List Int),o.Nodup->(W.foldl (PL l) o).Nodup
 |[],o,h=>h
 |w::W,o,h=>by
   rw[dM];refine Nz l W _ ?_;unfold PL;split
   ·rename_i q;rw[List.nodup_append];exact⟨h,by simp,fun x hx y hy=>by simp at hy; subst hy; exact fun e=>q.2 (e▸hx)⟩
   ·exact h
section
variable (nb:Int->List Int) (l F:List Int)
structure RcI (i:Nat) (o:List Int):Prop where
 nd:o.Nodup
 sub:∀x∈o,x∈l
 st:∀x∈F,x∈l->x∈o
 cl:∀j (h:j<o.length),j<i->∀y,y∈nb o[j]->y∈l->y∈o
 re:∀C:Int->Prop,(∀x∈F,x∈l->C x)->(∀x y,C x->y∈nb x->y∈l->C y)->∀x∈o,C x
theorem RB {i:Nat} {o:List Int} (h:RcI nb l F i o) (hi:i<o.length):RcI nb l F (i+1) ((nb o[i]).foldl (PL l) o):=by
 obtain⟨t,ht⟩:=Iv l (nb o[i]) o;refine⟨Nz l _ o h.nd,fun x hx=>?_,fun x hx hl=>(Dx l _ o x).2 (.inl (h.st x hx hl)),fun j hj Dh y hy hyl=>?_,fun C c1 c2 x hx=>?_⟩
 ·rcases (Dx l _ o x).1 hx with k|k
  ·exact h.sub x k
  ·exact k.2
 ·rw[Dx];have hjo:j<o.length:=by omega
  have e:((nb o[i]).foldl (PL l) o)[j]=o[j]:=by
   have:((nb o[i]).foldl (PL l) o)[j]?=o[j]?:=by rw[ht,List.getElem?_append_left hjo]
   rw[ai hj,ai hjo] at this;exact bm this
  rw[e] at hy;rcases jW (wc Dh) with rfl|Dh
  ·exact .inr ⟨hy,hyl⟩
  ·exact .inl (h.cl j hjo Dh y hy hyl)
 ·rcases (Dx l _ o x).1 hx with k|k
  ·exact h.re C c1 c2 x k
  ·exact c2 _ _ (h.re C c1 c2 _ (eG hi)) k.1 k.2
theorem aby (hF:F.Nodup):RcI nb l F 0 (F.filter fun x=>decide (x∈l)):=
 ⟨hF.filter _,fun x hx=>of_decide_eq_true (fK.1 hx).2,fun x hx hl=>fK.2 ⟨hx,decide_eq_true hl⟩,fun j h hj=>by omega,fun C c1 c2 x hx=>c1 x (fK.1 hx).1 (of_decide_eq_true (fK.1 hx).2)⟩
theorem Iu {i:Nat} {o:List Int} (h:RcI nb l F i o):o.length<=l.length:=u9 h.nd h.sub
end
theorem acN {A:List Nat} {l F o:List Int} {i:Nat} (hl:∀x∈l,0<=x/\x<64) (h:RcI (fun x=>bW (A.getD x.toNat 0)) l F i o) (hi:o.length<=i) (v:Nat) (hF:F=[(v:Int)]) (hv:(v:Int)∈l):pd A (yF l) (2 ^ v) (yF o)/\dw o=bW (yF o):=by
 subst hF;have ho:∀x∈o,0<=x/\x<64:=fun x hx=>hl x (h.sub x hx);have mo:∀j:Nat,(yF (o)).testBit j=decide ((j:Int)∈o):=fun j=>oT fun x hx=>(ho x hx).1;have ml:∀j:Nat,(yF (l)).testBit j=decide ((j:Int)∈l):=fun j=>oT fun x hx=>(hl x hx).1
 have lt:yF o<18446744073709551616:=by
  rw[show (18446744073709551616:Nat)=2 ^ 64 from rfl];apply QT;intro j hj;rw[mo];exact decide_eq_false fun hx=>by have:=ho _ hx; omega
 refine⟨⟨lt,fun j hj=>?_,fun j hj=>?_,fun j k hj hjk hk=>?_,fun C c1 c2 j hj=>?_⟩,?_⟩
 ·obtain rfl:=tc hj;rw[mo];exact decide_eq_true (h.st _ (by simp) hv)
 ·rw[mo] at hj;rw[ml];exact decide_eq_true (h.sub _ (of_decide_eq_true hj))
 ·rw[mo] at hj ⊢;rw[ml] at hk;obtain⟨t,ht,e⟩:=n9 (of_decide_eq_true hj);refine decide_eq_true (h.cl t ht (by omega) _ ?_ (of_decide_eq_true hk));rw[e];have hk64:=hl _ (of_decide_eq_true hk);exact fG.2 ⟨k,rfl,by omega,by rw[show ((j:Nat):Int).toNat=j by omega]; exact hjk⟩
 ·rw[mo] at hj
  have:=h.re (fun x=>0<=x/\C x.toNat) (fun x hx hxl=>by
   have:x=(v:Int):=by simpa using hx
   subst this;exact⟨by omega,by rw[show ((v:Nat):Int).toNat=v by omega]; exact c1 v (wk v)⟩) (fun x y hx hy hyl=>by
   obtain⟨k,rfl,k1,k2⟩:=fG.1 hy;refine⟨by omega,?_⟩;rw[show ((k:Nat):Int).toNat=k by omega];exact c2 _ _ hx.2 k2 (by rw[ml]; exact decide_eq_true hyl)) _ (of_decide_eq_true hj)
  rw[show ((j:Nat):Int).toNat=j by omega] at this;exact this.2
 ·obtain⟨s1,s2⟩:=gI o;refine ta s1 (nA _) fun x=>?_;rw[s2,fG];constructor
  ·intro hx;have:=ho x hx;exact⟨x.toNat,by omega,by omega,by rw[mo,show ((x.toNat:Nat):Int)=x by omega]; exact decide_eq_true hx⟩
  ·rintro⟨j,rfl,_,hj⟩;rw[mo] at hj;exact of_decide_eq_true hj
/- The reference's groups of a level are the program's, plain. -/
theorem abv {A:List Nat} {W x R S:Nat} (h:pd A W x R) (k:pd A W x S):R=S:=by
 have s1:∀j,R.testBit j=true->S.testBit j=true:=h.least (fun j=>S.testBit j=true) k.sub fun i j hi wR hj=>k.cl i j hi wR hj;have s2:∀j,S.testBit j=true->R.testBit j=true:=k.least (fun j=>R.testBit j=true) h.sub fun i j hi wR hj=>h.cl i j hi wR hj;apply jO;intro j;cases q:S.testBit j with
 |true=>exact s2 j q
 |false=>cases q2:R.testBit j with
   |true=>rw[s1 j q2] at q; cases q
   |false=>rfl
theorem ahn {A:List Nat} {m r:Nat} {l:List Nat} (h:E4 A m r l):∀{l'},E4 A m r l'->l=l':=by
 induction h with
 |nil=>
   intro l' h';cases h' with
   |nil=>rfl
   |cons _ R l h0=>exact absurd rfl h0
 |cons r R l h0 h1 h2 ih=>
   intro l' h';cases h' with
   |nil=>exact absurd rfl h0
   |cons _ R' l' _ k1 k2=>
     obtain rfl:=abv h1 k1;rw[ih k2]
theorem akN {A:List Nat} {L:List Int} {k n:Nat} {a b:List (List Int × Int)} (h:Xs A L k n a b):∀{b'},Xs A L k n a b'->b=b':=by
 induction h with
 |nil k a=>
   intro b' h';cases h';rfl
 |cons k n a b l h1 h2 ih=>
   intro b' h';cases h' with
   |cons _ _ _ _ l' k1 k2=>
     obtain rfl:=ahn h1 k1;exact ih k2
inductive Xx (A:List Nat):List Int->List Nat->Prop
 |nil:Xx A [] []
 |cons (v:Nat) (r:List Int) (R:Nat) (cs:List Nat) (h1:pd A (yF ((v:Int)::r)) (2 ^ v) R) (h2:Xx A (minus ((v:Int)::r) (bW R)) cs):Xx A ((v:Int)::r) (R::cs)
def Wt (m R:Nat):Bool:=(bW R).all fun x=>decide (x∈bW m)
theorem aaF {m R:Nat} (hm:m<18446744073709551616) (hR:R<18446744073709551616):Wt m R=true ↔ Nc R m:=by
 unfold Wt;rw[ph];constructor
 ·intro h j hj;have:=h j ((iF hR).2 hj);exact (iF hm).1 (of_decide_eq_true this)
 ·intro h x hx;obtain⟨j,rfl,j1,j2⟩:=fG.1 hx;exact decide_eq_true ((iF hm).2 (h j j2))
theorem agV {l:List Int} (hl:∀x∈l,0<=x/\x<64):yF l<18446744073709551616:=by
 rw[show (18446744073709551616:Nat)=2 ^ 64 from rfl];apply QT;intro j hj;rw[oT fun x hx=>(hl x hx).1];exact decide_eq_false fun hx=>by have:=hl _ hx; omega
section
variable {A B:List Nat} {m:Nat} (hm:m<18446744073709551616) (hS:Im B) (hB:∀a b:Nat,(B.getD a 0).testBit b=true ↔ (A.getD a 0).testBit b=true/\m.testBit a=true/\m.testBit b=true)
include hm hS hB
theorem ahK {l:List Int} {cs:List Nat} (h:Xx B l cs):Up l->(∀x∈l,0<=x/\x<64)->(∀j k:Nat,(j:Int)∈l->(B.getD j 0).testBit k=true->(k:Int)∈l)->E4 A m (yF l &&& m) (cs.filter (Wt m)):=by
 induction h with
 |nil=>
   intro _ _ _
   have e:yF [] &&& m=0:=by
    apply jO;intro j;rw[bU,oT (by simp),Po];simp
   rw[e];exact .nil
 |cons v r R cs h1 h2 ih=>
   intro hu hl hc;have ml:∀j:Nat,(yF ((v:Int)::r)).testBit j=decide ((j:Int)∈(v:Int)::r):=fun j=>oT fun x hx=>(hl x hx).1;have v64:=hl (v:Int) cF;obtain⟨mu,mm⟩:=nG ((v:Int)::r) (bW R);have MY:∀x∈minus ((v:Int)::r) (bW R),0<=x/\x<64:=fun x hx=>hl x ((mm x).1 hx).1;have mn:∀j:Nat,(yF (minus ((v:Int)::r) (bW R))).testBit j=decide ((j:Int)∈minus ((v:Int)::r) (bW R)):=fun j=>oT fun x hx=>(MY x hx).1
   have ih:=ih mu MY (fun j k hj hjk=>by
    obtain⟨j1,j2⟩:=(mm _).1 hj;refine (mm _).2 ⟨hc j k j1 hjk,fun hk=>j2 ?_⟩;rw[iF h1.lt] at hk ⊢;exact h1.cl k j hk (by rw[hS k j]; exact hjk) (by rw[ml]; exact decide_eq_true j1))
   have hR:=h1.lt;have hml:yF ((v:Int)::r)<18446744073709551616:=agV hl;by_cases hv:m.testBit v=true
   ·have sub:Nc R m:=fun j hj=>h1.least (fun j=>m.testBit j=true) (fun j hj=>by
     obtain rfl:=tc hj;exact hv) (fun i j hi wR hj=>((hB i j).1 wR).2.2) j hj
    rw[MI,if_pos ((aaF hm hR).2 sub)];have tb:(yF ((v:Int)::r) &&& m).testBit v=true:=by rw[bU,ml,hv,QW]; exact decide_eq_true cF
    have n0:yF ((v:Int)::r) &&& m≠0:=fun e=>by rw[e,Po] at tb; cases tb
    have tz1:tz (yF ((v:Int)::r) &&& m)=v:=by
     obtain⟨t1,t2⟩:=yN n0 (dB Bi hm);rcases Nat.lt_trichotomy (tz (yF ((v:Int)::r) &&& m)) v with q|q|q
     ·rw[bU,ae,ml] at t1;rcases aG.1 (of_decide_eq_true t1.1) with e|e
      ·omega
      ·have:=(bD.1 hu).1 _ e;omega
     ·exact q
     ·rw[t2 v q] at tb; cases tb
    refine .cons _ R _ n0 ?_ ?_
    ·rw[tz1];refine⟨hR,h1.sub,sub,fun i j hi wR hj=>?_,fun C c1 c2=>h1.least C c1 fun i j hi wR hj=>c2 i j hi ((hB i j).1 wR).1 ((hB i j).1 wR).2.2⟩;have wS:=h1.win i hi;rw[ml] at wS;have b:(B.getD i 0).testBit j=true:=(hB i j).2 ⟨wR,sub i hi,hj⟩;exact h1.cl i j hi b (by rw[ml]; exact decide_eq_true (hc i j (of_decide_eq_true wS) b))
    ·have e:(yF ((v:Int)::r) &&& m) &&& (18446744073709551615-R)=yF (minus ((v:Int)::r) (bW R)) &&& m:=by
      apply jO;intro j;rw[uI (dB Bi hm) hR,bU,bU,ml,mn]
      have q:decide ((j:Int)∈minus ((v:Int)::r) (bW R))=(decide ((j:Int)∈(v:Int)::r)&&!R.testBit j):=by
       rw[vk,ae,decide_eq_true_eq,decide_eq_true_eq,mm,iF hR];simp
      rw[q];cases decide ((j:Int)∈(v:Int)::r)<;>cases R.testBit j<;>cases m.testBit j<;>rfl
     rw[e];exact ih
   ·have one:∀j,R.testBit j=true->j=v:=h1.least (fun j=>j=v) (fun j hj=>tc hj) fun i j hi wR hj=>by
     subst hi;exact absurd ((hB i j).1 wR).2.1 hv
    have no:Wt m R=false:=by
     cases q:Wt m R with
     |false=>rfl
     |true=>exact absurd ((aaF hm hR).1 q v (h1.sub v (wk v))) hv
    rw[MI,if_neg (by rw[no]; exact Bool.false_ne_true)]
    have e:yF ((v:Int)::r) &&& m=yF (minus ((v:Int)::r) (bW R)) &&& m:=by
     apply jO;intro j;rw[bU,bU,ml,mn];cases q:m.testBit j with
     |false=>rw[Bool.and_false,Bool.and_false]
     |true=>
       rw[QW,QW,vk,decide_eq_true_eq,decide_eq_true_eq,mm,iF hR];constructor
       ·exact fun hj=>⟨hj,fun hR=>hv (by rw[<-one j hR]; exact q)⟩
       ·exact fun hj=>hj.1
    rw[e];exact ih
end
def qa:List (List Int × Int)->List Int->Int->List (List Int × Int)
 |[],s,k=>[(s,k)]
 |(t,j)::r,s,k=>if t=s then (t,max j k)::r else (t,j)::qa r s k
theorem Pe:∀(a:List (List Int × Int)) (s:List Int) (k:Int),(∀p∈a,p.2<=k)->qa a s k=iH a s k
 |[],s,k,_=>rfl
 |(t,j)::r,s,k,h=>by
   unfold qa iH;have hj:j<=k:=h (t,j) cF;split
   ·rw[Int.max_eq_right hj]
   ·rw[Pe r s k fun p hp=>h p (cH _ hp)]
theorem afU {a:List (List Int × Int)} {s:List Int} {k:Int} (h:∀p∈a,p.2<=k):∀p∈iH a s k,p.2<=k:=by
 induction a with
 |nil=>intro p hp; simp[iH] at hp; subst hp; exact Int.le_refl _
 |cons q r ih=>
   obtain⟨t,j⟩:=q;intro p hp;unfold iH at hp;split at hp
   ·rcases aG.1 hp with rfl|hp
    ·exact Int.le_refl _
    ·exact h p (cH _ hp)
   ·rcases aG.1 hp with rfl|hp
    ·exact h _ cF
    ·exact ih (fun p hp=>h p (cH _ hp)) p hp
theorem Ms (k:Int):∀(l:List (List Int)) (a:List (List Int × Int)),(∀p∈a,p.2<=k)->l.foldl (fun a s=>qa a s k) a=pk k a l/\∀ p∈pk k a l,p.2<=k
 |[],a,h=>⟨rfl,h⟩
 |s::l,a,h=>by
   obtain⟨i1,i2⟩:=Ms k l (iH a s k) (afU h);rw[dM,Pe a s k h];exact⟨i1,i2⟩
/- The reference arranges the parts as the program does, plain. -/
abbrev pt0:Pt:=(0,0,[])
def jX (P:List Pt) (x:Pt):Nat->Nat
 |0=>0
 |n+1=>if wg x (P.getD n pt0)=true then jX P x n else n+1
def zR (P:List Pt) (x:Pt):List Pt:=P.take (jX P x P.length)++x::P.drop (jX P x P.length)
def uc (Q:List Pt):List Pt:=Q.foldl zR []
theorem Qg (P:List Pt) (x:Pt):∀n,jX P x n<=n
 |0=>aO _
 |n+1=>by
   unfold jX;split
   ·have:=Qg P x n; omega
   ·exact aO _
theorem vR (P:List Pt) (x:Pt):(zR P x).Perm (x::P):=by
 unfold zR;refine Ir.trans ?_;rw[List.take_append_drop]
theorem Oz {P:List Pt} {x:Pt} (hP:P.Pairwise fun a b=>wg a b=true) (hx:∀y∈P,¬(x.1=y.1/\x.2.2=y.2.2)):∀n,n<=P.length->(∀j (h:j<P.length),n<=j->wg x P[j]=true) ->
  (∀j (h:j<P.length),j<jX P x n->wg P[j] x=true)/\∀ j (h:j<P.length),jX P x n<=j->wg x P[j]=true
 |0,_,h=>⟨fun j _ hj=>by unfold jX at hj; omega,fun j hj _=>h j hj (Nat.zero_le _)⟩
 |n+1,hn,h=>by
   have bF:n<P.length:=by omega
   have e:P.getD n pt0=P[n]:=by rw[au,ai bF]; rfl
   unfold jX;rw[e];by_cases q:wg x P[n]=true
   ·rw[if_pos q]
    exact Oz hP hx n (by omega) fun j hj hnj=>by
     rcases jW hnj with rfl|hnj
     ·exact q
     ·exact h j hj hnj
   ·rw[if_neg q]
    have lt:wg P[n] x=true:=by
     rcases IF x P[n] with k|k|k
     ·exact absurd k q
     ·exact absurd k (hx _ (eG bF))
     ·exact k
    refine⟨fun j hj hjn=>?_,h⟩;rcases jW (wc hjn) with rfl|hjn
    ·exact lt
    ·exact sY (Pr.1 hP j n hj bF hjn) lt
theorem aeJ {P:List Pt} {x:Pt} (hP:P.Pairwise fun a b=>wg a b=true) (hx:∀y∈P,¬(x.1=y.1/\x.2.2=y.2.2)):(zR P x).Pairwise fun a b=>wg a b=true:=by
 obtain⟨s1,s2⟩:=Oz hP hx P.length (aO _) fun j hj h=>by omega
 unfold zR;have il:=Qg P x P.length;generalize jX P x P.length=i at *;rw[ue];refine⟨hP.sublist (List.take_sublist _ _),bD.2 ⟨fun y hy=>?_,hP.sublist (List.drop_sublist _ _)⟩,fun y hy z hz=>?_⟩
 ·obtain⟨j,hj,rfl⟩:=n9 hy;rw[List.getElem_drop];exact s2 _ _ (by omega)
 ·have ylt:wg y x=true:=by
   obtain⟨j,hj,rfl⟩:=n9 hy;rw[List.getElem_take];rw[List.length_take] at hj;exact s1 _ _ (by omega)
  rcases aG.1 hz with rfl|hz
  ·exact ylt
  ·obtain⟨j,hj,rfl⟩:=n9 hz;rw[List.getElem_drop];exact sY ylt (s2 _ _ (by omega))
theorem Ga:∀(Q o:List Pt),(Q.foldl zR o).Perm (o++Q)
 |[],o=>by simp
 |x::Q,o=>by
   rw[dM];refine (Ga Q _).trans ?_;refine ((vR o x).append_right Q).trans ?_;rw[MJ];exact Ir.symm
theorem UG:∀(Q o:List Pt),(o.Pairwise fun a b=>wg a b=true)->((o++Q).Pairwise fun x y=>¬(x.1=y.1/\x.2.2=y.2.2))->(Q.foldl zR o).Pairwise fun a b=>wg a b=true
 |[],o,h,_=>h
 |x::Q,o,h,hd=>by
   rw[dM];have hd':=ue.1 hd;refine UG Q _ (aeJ h fun y hy e=>hd'.2.2 y hy x cF ⟨e.1.symm,e.2.symm⟩) ?_;have p:(zR o x++Q).Perm (o++x::Q):=((vR o x).append_right Q).trans (by rw[MJ]; exact Ir.symm);exact p.symm.pairwise hd fun{a b} h e=>h ⟨e.1.symm,e.2.symm⟩
def fP (x:Pt):Pt:=(x.1,-1,x.2.2)
theorem aih {b:List (List Int × Int)} (hn:(b.map eP).Nodup):(uc (b.map fun p=>((p.2,0,p.1):Pt))).map fP=prt b:=by
 have hk:=vQ.1 (Iw hn);rw[qj] at hk;unfold prt;refine Mh ?_ (wM (Iw hn)) ?_
 ·rw[qj]
  exact (UG _ [] .nil (by rw[sI,qj]; exact hk)).imp fun{x y} h=>by
   rw[sN] at h ⊢; exact h
 ·refine ((Ga _ []).map fP).trans ?_;rw[sI,List.map_map];exact (lC _).symm
def yA (P:List Pt):List Pt:=(List.range P.length).map fun i=>(yG P i,mS P i P.length 0 (-1),bR P i)
theorem Sn (P:List Pt) (i:Nat):∀(n k m:Nat) (p:Int),mS P i (n+m) k p=mS P i m (k+n) (mS P i n k p)
 |0,k,m,p=>by rw[Nat.zero_add,Nat.add_zero]; rfl
 |n+1,k,m,p=>by
   have e1:mS P i (n+1+m) k p=mS P i (n+m) (k+1) (iA P i p k):=by rw[show n+1+m=n+m+1 by omega]; rfl
   have e2:mS P i (n+1) k p=mS P i n (k+1) (iA P i p k):=rfl;rw[e1,e2,Sn P i n (k+1) m,show k+1+n=k+(n+1) by omega]
theorem N8 {P:List Pt} {i:Nat}:∀(m k:Nat) (p:Int),(∀j,k<=j->j<k+m->¬Cand P i j)->mS P i m k p=p
 |0,k,p,_=>rfl
 |m+1,k,p,h=>by
   have e:iA P i p k=p:=by
    unfold iA;rw[if_neg];intro q;unfold zB at q;simp only[ae,decide_eq_true_eq] at q;exact h k (aO _) (by omega) ⟨q.1,q.2.1⟩
   show mS P i m (k+1) (iA P i p k)=p;rw[e];exact N8 m (k+1) p fun j h1 h2=>h j (by omega) (by omega)
theorem afD {A:List Nat} {N:Nat} {L:List Int} {b:List (List Int × Int)} (hS:Im A) (h:HOK2 A N L (gV b)) (hn:(b.map eP).Nodup):yA (uc (b.map fun p=>((p.2,0,p.1):Pt)))=gV b:=by
 have ep:=aih hn;generalize uc (b.map fun p=>((p.2,0,p.1):Pt))=P at *;obtain⟨s1,s2,s3,s4,s5⟩:=nQ (prt b).length 0 (prt b) (by omega);have lP:P.length=(prt b).length:=by rw[<-ep,aQ]
 have lh:(gV b).length=P.length:=by unfold gV; rw[s1,lP]
 have sA:∀i,bR P i=bR (gV b) i:=fun i=>by
  unfold gV;rw[s2,<-ep];unfold bR;rw[au,au,cn];cases P[i]? with
  |none=>rfl
  |some x=>rfl
 have lA:∀i,yG P i=yG (gV b) i:=fun i=>by
  unfold gV;rw[s3,<-ep];unfold yG;rw[au,au,cn];cases P[i]? with
  |none=>rfl
  |some x=>rfl
 apply List.ext_getElem
 ·unfold yA; rw[aQ,List.length_range,lh]
 ·intro i h1 h2;have hi:i<P.length:=by omega
  have e1:(gV b)[i]=(yG (gV b) i,pj (gV b) i,bR (gV b) i):=by
   unfold yG pj bR;rw[au,ai h2];rfl
  have e2':(yA P)[i]?=some (yG P i,mS P i P.length 0 (-1),bR P i):=by
   unfold yA;rw[cn,List.getElem?_range hi];rfl
  rw[ai h1] at e2';have e2:=bm e2';rw[e1,e2,lA,sA];congr 2
  have e3:pj (gV b) i=mS (gV b) i i 0 (-1):=by
   have:=s5 i (by omega) (by omega)
   have pm:pj (prt b) i=-1:=by
    obtain⟨p,_,e⟩:=AJ.1 (at_mem (P:=prt b) (i:=i) (by omega));unfold pj; rw[<-e]
   rw[pm] at this;unfold gV;rw[this];exact tw (fun j=>(s2 j).symm) i i 0 (-1)
  rw[e3,tw sA i P.length 0 (-1),show P.length=i+(P.length-i) by omega,Sn];refine N8 _ _ _ fun j j1 j2 hc=>?_;have hj:j<(gV b).length:=by omega
  rcases jW j1 with e|j1
  ·have:i=j:=by omega
   subst this;exact absurd hc.1 (Nat.lt_irrefl _)
  ·obtain⟨_,R,_,_,hR,e⟩:=h.ok.lv i h2;obtain⟨v,v1,v2⟩:=hR;have um:(v:Int)∈bR (gV b) i:=by rw[e]; exact (iF v2.lt).2 (v2.sub v (wk v))
   have uj:(v:Int)∈bR (gV b) j:=of_decide_eq_true (ph.1 hc.2 _ um);have:=(ak3 hS h (by omega:i<j) hj uj um).1;have:=hc.1;omega
end Go.BmP
