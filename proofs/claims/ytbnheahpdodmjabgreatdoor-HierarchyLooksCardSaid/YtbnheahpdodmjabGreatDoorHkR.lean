/- The way outwards in the hierarchy of cores, plain. -/
import Derived.Test.YtbnheahpdodmjabGreatDoorHcX
set_option linter.unusedSimpArgs false
set_option linter.unusedVariables false
set_option linter.unusedSectionVars false
open Bool renaming and_eq_true → ae, and_false → SM, and_true → Sw, eq_iff_iff → vJ, or_eq_true → eE
open Classical renaming byContradiction → qP
open List renaming all_eq_true → pY, cons_append → NI, filter_cons → NH, foldl_cons → dV, getD_eq_getElem?_getD → aG, getElem?_eq_getElem → aj, getElem?_map → cu, getElem_mem → mV, getElem_of_mem → oO, length_cons → cH, length_map → aX, mem_cons → aO, mem_cons_of_mem → cK, mem_cons_self → cI, mem_filter → fV, nil_append → oV, pairwise_append → DW, pairwise_cons → bK, pairwise_iff_getElem → QI, pairwise_map → qL, perm_middle → ID
open Nat renaming and_le_right → BH, eq_of_testBit_eq → jY, eq_or_lt_of_le → kf, le_of_lt_succ → wP, le_refl → aJ, lt_of_le_of_lt → dI, lt_pow_two_of_testBit → Sp, testBit_and → bW, zero_testBit → QG
open Option.some renaming inj → bj
open Prod renaming fst → eU
namespace Go.BmP
open Go.Am Go.Bm
def Cand (P:List Pt) (i k:Nat):Prop:=(bM P i).length<(bM P k).length/\D3 (bM P i) (bM P k)=true
def GL (P:List Pt) (i:Nat) (k:Nat) (p:Int):Prop:=∀j,j<k->Cand P i j->0<=p/\(bM P p.toNat).length<=(bM P j).length
theorem aff {P:List Pt} {i k:Nat} {p:Int} (h:GL P i k p):GL P i (k+1) (iL P i p k):=by
 intro j hj hc;unfold iL;split
 ·rename_i q;unfold zX at q;simp only[ae,eE,decide_eq_true_eq] at q;have e:((k:Nat):Int).toNat=k:=by omega
  rw[e];refine⟨by omega,?_⟩;rcases kf (wP hj) with rfl|hj
  ·exact aJ _
  ·have:=h j hj hc;rcases q.2.2 with z|z<;>omega
 ·rename_i q;rcases kf (wP hj) with rfl|hj
  ·unfold zX at q;simp only[ae,eE,decide_eq_true_eq,hc.1,hc.2,true_and,not_or] at q;omega
  ·exact h j hj hc
theorem TR {P:List Pt} {i:Nat}:∀(n k:Nat) (p:Int),k+n=i->GL P i k p->GL P i i (mY P i n k p)
 |0,k,p,hk,h=>by
   obtain rfl:k=i:=by omega
   exact h
 |n+1,k,p,hk,h=>TR n (k+1) (iL P i p k) (by omega) (aff h)
theorem agr (b:List (List Int × Int)) (i:Nat) (hi:i<(ik b).length):GL (ik b) i i (ij (ik b) i):=by
 obtain⟨s1,s2,s3,s4,s5⟩:=oH (prt b).length 0 (prt b) (by omega);unfold ik at *;rw[s1] at hi;rw[s5 i (by omega) hi];have:=TR (P:=prt b) (i:=i) i 0 (ij (prt b) i) (by omega) (fun j hj=>by omega);intro j hj hc;unfold Cand at hc;rw[s2,s2] at hc;have z:=this j hj hc;rw[s2,s2];exact z
theorem ags {b:List (List Int × Int)} (hn:(b.map eU).Nodup) {i k:Nat} (wS:i<k) (hk:k<(ik b).length):bM (ik b) i≠bM (ik b) k:=by
 obtain⟨s1,s2,s3,s4,s5⟩:=oH (prt b).length 0 (prt b) (by omega);unfold ik at *;rw[s1] at hk;rw[s2,s2]
 have hp:((prt b).map fun x=>x.2.2).Nodup:=by
  have h1:((prt b).map fun x=>x.2.2).Perm ((b.map fun p=>((p.2,-1,p.1):Pt)).map fun x=>x.2.2):=(lK _).map _;rw[h1.nodup_iff,List.map_map];exact hn
 unfold List.Nodup at hp;rw[qL] at hp;have:=QI.1 hp i k (by omega) hk wS;unfold bM;rw[aG,aj (by omega),aG,aj hk];exact this
def yF (P:List Pt):Nat->Int->List Int
 |0,_=>[]
 |n+1,a=>a::(if ij P a.toNat<0\/a<=ij P a.toNat then[] else yF P n (ij P a.toNat))
theorem Pm (P:List Pt):∀(n:Nat) (a:Int),(yF P n a).length<=n
 |0,_=>aJ _
 |n+1,a=>by
   unfold yF;rw[cH];split
   ·simp
   ·have:=Pm P n (ij P a.toNat); omega
structure HOK2 (A:List Nat) (N:Nat) (L:List Int) (P:List Pt):Prop where
 ok:HOK A N L P
 mn:∀i,i<P.length->GL P i i (ij P i)
 ds:∀i k,i<k->k<P.length->bM P i≠bM P k
section
variable {A:List Nat} {N:Nat} {L:List Int} {P:List Pt} (hS:GK A) (h:HOK2 A N L P)
include hS h
theorem ago (i:Nat) (hi:i<P.length):(bM P i).Nodup:=by
 obtain⟨_,R,_,_,_,e⟩:=h.ok.lv i hi;rw[e];exact (pS R).imp fun{a b} h=>by omega
theorem amE {i k:Nat} (hk:k<i) (hi:i<P.length) {u:Int} (hu:u∈bM P i) (NU:u∈bM P k):Cand P i k:=by
 obtain⟨mu,mm⟩:=tB (bM P i) (bM P k)
 have sub:∀x∈bM P i,x∈bM P k:=by
  rcases agp hS h.ok hk hi with e|e
  ·have:=(mm u).2 ⟨hu,NU⟩;rw[e] at this; cases this
  ·intro x hx;rw[<-e] at hx;exact ((mm x).1 hx).2
 refine⟨?_,pY.2 fun x hx=>decide_eq_true (sub x hx)⟩;have l1:=xm (ago hS h i hi) sub;rcases Nat.lt_or_eq_of_le l1 with q|q
 ·exact q
 ·exfalso;refine h.ds k i hk hi ?_;obtain⟨_,R,_,_,_,e⟩:=h.ok.lv i hi;obtain⟨_,S,_,_,_,f⟩:=h.ok.lv k (by omega);refine tK (by rw[f]; exact pS _) (by rw[e]; exact pS _) fun x=>⟨fun hx=>?_,sub x⟩;apply qP;intro hn
  have:=xm (A:=x::bM P i) (B:=bM P k) (List.nodup_cons.2 ⟨hn,ago hS h i hi⟩) fun y hy=>by
   rcases aO.1 hy with rfl|hy
   ·exact hx
   ·exact sub y hy
  rw[cH] at this;omega
end
/- What is reached from some nodes within a set, as lists: the reference's road, plain. -/
def Q0 (l o:List Int) (w:Int):List Int:=if w∈l/\w∉o then o++[w] else o
theorem Zs (l o:List Int) (w:Int):∃t,Q0 l o w=o++t:=by
 unfold Q0;split
 ·exact⟨_,rfl⟩
 ·exact⟨[],by simp⟩
theorem IH (l:List Int):∀(W o:List Int),∃t,W.foldl (Q0 l) o=o++t
 |[],o=>⟨[],by simp⟩
 |w::W,o=>by
   obtain⟨t,ht⟩:=Zs l o w;obtain⟨s,hs⟩:=IH l W (Q0 l o w);rw[dV,hs,ht,List.append_assoc];exact⟨_,rfl⟩
theorem D9 (l:List Int):∀(W o:List Int) (x:Int),x∈W.foldl (Q0 l) o ↔ x∈o\/(x∈W/\x∈l)
 |[],o,x=>by simp
 |w::W,o,x=>by
   rw[dV,D9 l W];unfold Q0;by_cases h:w∈l/\w∉o
   ·rw[if_pos h,List.mem_append,List.mem_singleton,aO];constructor
    ·rintro ((k|rfl)|⟨k1,k2⟩)
     ·exact .inl k
     ·exact .inr ⟨.inl rfl,h.1⟩
     ·exact .inr ⟨.inr k1,k2⟩
    ·rintro (k|⟨rfl|k1,k2⟩)
     ·exact .inl (.inl k)
     ·exact .inl (.inr rfl)
     ·exact .inr ⟨k1,k2⟩
   ·rw[if_neg h,aO];constructor
    ·rintro (k|⟨k1,k2⟩)
     ·exact .inl k
     ·exact .inr ⟨.inr k1,k2⟩
    ·rintro (k|⟨rfl|k1,k2⟩)
     ·exact .inl k
     ·left;apply qP;exact fun k=>h ⟨k2,k⟩
     ·exact .inr ⟨k1,k2⟩
theorem OJ (l:List Int):∀(W o:List Int),o.Nodup->(W.foldl (Q0 l) o).Nodup
 |[],o,h=>h
 |w::W,o,h=>by
   rw[dV];refine OJ l W _ ?_;unfold Q0;split
   ·rename_i q;rw[List.nodup_append];exact⟨h,by simp,fun x hx y hy=>by simp at hy; subst hy; exact fun e=>q.2 (e▸hx)⟩
   ·exact h
section
variable (nb:Int->List Int) (l F:List Int)
structure RcI (i:Nat) (o:List Int):Prop where
 nd:o.Nodup
 sub:∀x∈o,x∈l
 st:∀x∈F,x∈l->x∈o
 cl:∀j (h:j<o.length),j<i->∀y,y∈nb o[j]->y∈l->y∈o
 re:∀C:Int->Prop,(∀x∈F,x∈l->C x)->(∀x y,C x->y∈nb x->y∈l->C y)->∀x∈o,C x
theorem Ti {i:Nat} {o:List Int} (h:RcI nb l F i o) (hi:i<o.length):RcI nb l F (i+1) ((nb o[i]).foldl (Q0 l) o):=by
 obtain⟨t,ht⟩:=IH l (nb o[i]) o;refine⟨OJ l _ o h.nd,fun x hx=>?_,fun x hx hl=>(D9 l _ o x).2 (.inl (h.st x hx hl)),fun j hj DU y hy hyl=>?_,fun C c1 c2 x hx=>?_⟩
 ·rcases (D9 l _ o x).1 hx with k|k
  ·exact h.sub x k
  ·exact k.2
 ·rw[D9];have hjo:j<o.length:=by omega
  have e:((nb o[i]).foldl (Q0 l) o)[j]=o[j]:=by
   have:((nb o[i]).foldl (Q0 l) o)[j]?=o[j]?:=by rw[ht,List.getElem?_append_left hjo]
   rw[aj hj,aj hjo] at this;exact bj this
  rw[e] at hy;rcases kf (wP DU) with rfl|DU
  ·exact .inr ⟨hy,hyl⟩
  ·exact .inl (h.cl j hjo DU y hy hyl)
 ·rcases (D9 l _ o x).1 hx with k|k
  ·exact h.re C c1 c2 x k
  ·exact c2 _ _ (h.re C c1 c2 _ (mV hi)) k.1 k.2
theorem acS (hF:F.Nodup):RcI nb l F 0 (F.filter fun x=>decide (x∈l)):=
 ⟨hF.filter _,fun x hx=>of_decide_eq_true (fV.1 hx).2,fun x hx hl=>fV.2 ⟨hx,decide_eq_true hl⟩,fun j h hj=>by omega,fun C c1 c2 x hx=>c1 x (fV.1 hx).1 (of_decide_eq_true (fV.1 hx).2)⟩
theorem IG {i:Nat} {o:List Int} (h:RcI nb l F i o):o.length<=l.length:=xm h.nd h.sub
end
theorem ael {A:List Nat} {l F o:List Int} {i:Nat} (hl:∀x∈l,0<=x/\x<64) (h:RcI (fun x=>bZ (A.getD x.toNat 0)) l F i o) (hi:o.length<=i) (v:Nat) (hF:F=[(v:Int)]) (hv:(v:Int)∈l):pT A (ze l) (2 ^ v) (ze o)/\dE o=bZ (ze o):=by
 subst hF;have ho:∀x∈o,0<=x/\x<64:=fun x hx=>hl x (h.sub x hx);have mo:∀j:Nat,(ze (o)).testBit j=decide ((j:Int)∈o):=fun j=>pF fun x hx=>(ho x hx).1;have ml:∀j:Nat,(ze (l)).testBit j=decide ((j:Int)∈l):=fun j=>pF fun x hx=>(hl x hx).1
 have lt:ze o<18446744073709551616:=by
  rw[show (18446744073709551616:Nat)=2 ^ 64 from rfl];apply Sp;intro j hj;rw[mo];exact decide_eq_false fun hx=>by have:=ho _ hx; omega
 refine⟨⟨lt,fun j hj=>?_,fun j hj=>?_,fun j k hj hjk hk=>?_,fun C c1 c2 j hj=>?_⟩,?_⟩
 ·obtain rfl:=tL hj;rw[mo];exact decide_eq_true (h.st _ (by simp) hv)
 ·rw[mo] at hj;rw[ml];exact decide_eq_true (h.sub _ (of_decide_eq_true hj))
 ·rw[mo] at hj ⊢;rw[ml] at hk;obtain⟨t,ht,e⟩:=oO (of_decide_eq_true hj);refine decide_eq_true (h.cl t ht (by omega) _ ?_ (of_decide_eq_true hk));rw[e];have hk64:=hl _ (of_decide_eq_true hk);exact gk.2 ⟨k,rfl,by omega,by rw[show ((j:Nat):Int).toNat=j by omega]; exact hjk⟩
 ·rw[mo] at hj
  have:=h.re (fun x=>0<=x/\C x.toNat) (fun x hx hxl=>by
   have:x=(v:Int):=by simpa using hx
   subst this;exact⟨by omega,by rw[show ((v:Nat):Int).toNat=v by omega]; exact c1 v (wV v)⟩) (fun x y hx hy hyl=>by
   obtain⟨k,rfl,k1,k2⟩:=gk.1 hy;refine⟨by omega,?_⟩;rw[show ((k:Nat):Int).toNat=k by omega];exact c2 _ _ hx.2 k2 (by rw[ml]; exact decide_eq_true hyl)) _ (of_decide_eq_true hj)
  rw[show ((j:Nat):Int).toNat=j by omega] at this;exact this.2
 ·obtain⟨s1,s2⟩:=gR o;refine tK s1 (pS _) fun x=>?_;rw[s2,gk];constructor
  ·intro hx;have:=ho x hx;exact⟨x.toNat,by omega,by omega,by rw[mo,show ((x.toNat:Nat):Int)=x by omega]; exact decide_eq_true hx⟩
  ·rintro⟨j,rfl,_,hj⟩;rw[mo] at hj;exact of_decide_eq_true hj
/- The reference's groups of a level are the program's, plain. -/
theorem acQ {A:List Nat} {W x R S:Nat} (h:pT A W x R) (k:pT A W x S):R=S:=by
 have s1:∀j,R.testBit j=true->S.testBit j=true:=h.least (fun j=>S.testBit j=true) k.sub fun i j hi xA hj=>k.cl i j hi xA hj;have s2:∀j,S.testBit j=true->R.testBit j=true:=k.least (fun j=>R.testBit j=true) h.sub fun i j hi xA hj=>h.cl i j hi xA hj;apply jY;intro j;cases q:S.testBit j with
 |true=>exact s2 j q
 |false=>cases q2:R.testBit j with
   |true=>rw[s1 j q2] at q; cases q
   |false=>rfl
theorem aiT {A:List Nat} {m r:Nat} {l:List Nat} (h:FE A m r l):∀{l'},FE A m r l'->l=l':=by
 induction h with
 |nil=>
   intro l' h';cases h' with
   |nil=>rfl
   |cons _ R l h0=>exact absurd rfl h0
 |cons r R l h0 h1 h2 ih=>
   intro l' h';cases h' with
   |nil=>exact absurd rfl h0
   |cons _ R' l' _ k1 k2=>
     obtain rfl:=acQ h1 k1;rw[ih k2]
theorem amp {A:List Nat} {L:List Int} {k n:Nat} {a b:List (List Int × Int)} (h:YR A L k n a b):∀{b'},YR A L k n a b'->b=b':=by
 induction h with
 |nil k a=>
   intro b' h';cases h';rfl
 |cons k n a b l h1 h2 ih=>
   intro b' h';cases h' with
   |cons _ _ _ _ l' k1 k2=>
     obtain rfl:=aiT h1 k1;exact ih k2
inductive YW (A:List Nat):List Int->List Nat->Prop
 |nil:YW A [] []
 |cons (v:Nat) (r:List Int) (R:Nat) (cs:List Nat) (h1:pT A (ze ((v:Int)::r)) (2 ^ v) R) (h2:YW A (minus ((v:Int)::r) (bZ R)) cs):YW A ((v:Int)::r) (R::cs)
def XU (m R:Nat):Bool:=(bZ R).all fun x=>decide (x∈bZ m)
theorem abT {m R:Nat} (hm:m<18446744073709551616) (hR:R<18446744073709551616):XU m R=true ↔ Og R m:=by
 unfold XU;rw[pY];constructor
 ·intro h j hj;have:=h j ((iO hR).2 hj);exact (iO hm).1 (of_decide_eq_true this)
 ·intro h x hx;obtain⟨j,rfl,j1,j2⟩:=gk.1 hx;exact decide_eq_true ((iO hm).2 (h j j2))
theorem aiv {l:List Int} (hl:∀x∈l,0<=x/\x<64):ze l<18446744073709551616:=by
 rw[show (18446744073709551616:Nat)=2 ^ 64 from rfl];apply Sp;intro j hj;rw[pF fun x hx=>(hl x hx).1];exact decide_eq_false fun hx=>by have:=hl _ hx; omega
section
variable {A B:List Nat} {m:Nat} (hm:m<18446744073709551616) (hS:GK B) (hB:∀a b:Nat,(B.getD a 0).testBit b=true ↔ (A.getD a 0).testBit b=true/\m.testBit a=true/\m.testBit b=true)
include hm hS hB
theorem ajg {l:List Int} {cs:List Nat} (h:YW B l cs):Up l->(∀x∈l,0<=x/\x<64)->(∀j k:Nat,(j:Int)∈l->(B.getD j 0).testBit k=true->(k:Int)∈l)->FE A m (ze l &&& m) (cs.filter (XU m)):=by
 induction h with
 |nil=>
   intro _ _ _
   have e:ze [] &&& m=0:=by
    apply jY;intro j;rw[bW,pF (by simp),QG];simp
   rw[e];exact .nil
 |cons v r R cs h1 h2 ih=>
   intro hu hl hc;have ml:∀j:Nat,(ze ((v:Int)::r)).testBit j=decide ((j:Int)∈(v:Int)::r):=fun j=>pF fun x hx=>(hl x hx).1;have v64:=hl (v:Int) cI;obtain⟨mu,mm⟩:=oA ((v:Int)::r) (bZ R);have NY:∀x∈minus ((v:Int)::r) (bZ R),0<=x/\x<64:=fun x hx=>hl x ((mm x).1 hx).1;have mn:∀j:Nat,(ze (minus ((v:Int)::r) (bZ R))).testBit j=decide ((j:Int)∈minus ((v:Int)::r) (bZ R)):=fun j=>pF fun x hx=>(NY x hx).1
   have ih:=ih mu NY (fun j k hj hjk=>by
    obtain⟨j1,j2⟩:=(mm _).1 hj;refine (mm _).2 ⟨hc j k j1 hjk,fun hk=>j2 ?_⟩;rw[iO h1.lt] at hk ⊢;exact h1.cl k j hk (by rw[hS k j]; exact hjk) (by rw[ml]; exact decide_eq_true j1))
   have hR:=h1.lt;have hml:ze ((v:Int)::r)<18446744073709551616:=aiv hl;by_cases hv:m.testBit v=true
   ·have sub:Og R m:=fun j hj=>h1.least (fun j=>m.testBit j=true) (fun j hj=>by
     obtain rfl:=tL hj;exact hv) (fun i j hi xA hj=>((hB i j).1 xA).2.2) j hj
    rw[NH,if_pos ((abT hm hR).2 sub)];have tb:(ze ((v:Int)::r) &&& m).testBit v=true:=by rw[bW,ml,hv,Sw]; exact decide_eq_true cI
    have n0:ze ((v:Int)::r) &&& m≠0:=fun e=>by rw[e,QG] at tb; cases tb
    have tz1:tz (ze ((v:Int)::r) &&& m)=v:=by
     obtain⟨t1,t2⟩:=zm n0 (dI BH hm);rcases Nat.lt_trichotomy (tz (ze ((v:Int)::r) &&& m)) v with q|q|q
     ·rw[bW,ae,ml] at t1;rcases aO.1 (of_decide_eq_true t1.1) with e|e
      ·omega
      ·have:=(bK.1 hu).1 _ e;omega
     ·exact q
     ·rw[t2 v q] at tb; cases tb
    refine .cons _ R _ n0 ?_ ?_
    ·rw[tz1];refine⟨hR,h1.sub,sub,fun i j hi xA hj=>?_,fun C c1 c2=>h1.least C c1 fun i j hi xA hj=>c2 i j hi ((hB i j).1 xA).1 ((hB i j).1 xA).2.2⟩;have xB:=h1.win i hi;rw[ml] at xB;have b:(B.getD i 0).testBit j=true:=(hB i j).2 ⟨xA,sub i hi,hj⟩;exact h1.cl i j hi b (by rw[ml]; exact decide_eq_true (hc i j (of_decide_eq_true xB) b))
    ·have e:(ze ((v:Int)::r) &&& m) &&& (18446744073709551615-R)=ze (minus ((v:Int)::r) (bZ R)) &&& m:=by
      apply jY;intro j;rw[vw (dI BH hm) hR,bW,bW,ml,mn]
      have q:decide ((j:Int)∈minus ((v:Int)::r) (bZ R))=(decide ((j:Int)∈(v:Int)::r)&&!R.testBit j):=by
       rw[vJ,ae,decide_eq_true_eq,decide_eq_true_eq,mm,iO hR];simp
      rw[q];cases decide ((j:Int)∈(v:Int)::r)<;>cases R.testBit j<;>cases m.testBit j<;>rfl
     rw[e];exact ih
   ·have one:∀j,R.testBit j=true->j=v:=h1.least (fun j=>j=v) (fun j hj=>tL hj) fun i j hi xA hj=>by
     subst hi;exact absurd ((hB i j).1 xA).2.1 hv
    have no:XU m R=false:=by
     cases q:XU m R with
     |false=>rfl
     |true=>exact absurd ((abT hm hR).1 q v (h1.sub v (wV v))) hv
    rw[NH,if_neg (by rw[no]; exact Bool.false_ne_true)]
    have e:ze ((v:Int)::r) &&& m=ze (minus ((v:Int)::r) (bZ R)) &&& m:=by
     apply jY;intro j;rw[bW,bW,ml,mn];cases q:m.testBit j with
     |false=>rw[SM,SM]
     |true=>
       rw[Sw,Sw,vJ,decide_eq_true_eq,decide_eq_true_eq,mm,iO hR];constructor
       ·exact fun hj=>⟨hj,fun hR=>hv (by rw[<-one j hR]; exact q)⟩
       ·exact fun hj=>hj.1
    rw[e];exact ih
end
def qC:List (List Int × Int)->List Int->Int->List (List Int × Int)
 |[],s,k=>[(s,k)]
 |(t,j)::r,s,k=>if t=s then (t,max j k)::r else (t,j)::qC r s k
theorem Qz:∀(a:List (List Int × Int)) (s:List Int) (k:Int),(∀p∈a,p.2<=k)->qC a s k=iQ a s k
 |[],s,k,_=>rfl
 |(t,j)::r,s,k,h=>by
   unfold qC iQ;have hj:j<=k:=h (t,j) cI;split
   ·rw[Int.max_eq_right hj]
   ·rw[Qz r s k fun p hp=>h p (cK _ hp)]
theorem ahw {a:List (List Int × Int)} {s:List Int} {k:Int} (h:∀p∈a,p.2<=k):∀p∈iQ a s k,p.2<=k:=by
 induction a with
 |nil=>intro p hp; simp[iQ] at hp; subst hp; exact Int.le_refl _
 |cons q r ih=>
   obtain⟨t,j⟩:=q;intro p hp;unfold iQ at hp;split at hp
   ·rcases aO.1 hp with rfl|hp
    ·exact Int.le_refl _
    ·exact h p (cK _ hp)
   ·rcases aO.1 hp with rfl|hp
    ·exact h _ cI
    ·exact ih (fun p hp=>h p (cK _ hp)) p hp
theorem Nn (k:Int):∀(l:List (List Int)) (a:List (List Int × Int)),(∀p∈a,p.2<=k)->l.foldl (fun a s=>qC a s k) a=pZ k a l/\∀ p∈pZ k a l,p.2<=k
 |[],a,h=>⟨rfl,h⟩
 |s::l,a,h=>by
   obtain⟨i1,i2⟩:=Nn k l (iQ a s k) (ahw h);rw[dV,Qz a s k h];exact⟨i1,i2⟩
/- The reference arranges the parts as the program does, plain. -/
abbrev pt0:Pt:=(0,0,[])
def kg (P:List Pt) (x:Pt):Nat->Nat
 |0=>0
 |n+1=>if wQ x (P.getD n pt0)=true then kg P x n else n+1
def An (P:List Pt) (x:Pt):List Pt:=P.take (kg P x P.length)++x::P.drop (kg P x P.length)
def uX (Q:List Pt):List Pt:=Q.foldl An []
theorem RF (P:List Pt) (x:Pt):∀n,kg P x n<=n
 |0=>aJ _
 |n+1=>by
   unfold kg;split
   ·have:=RF P x n; omega
   ·exact aJ _
theorem wE (P:List Pt) (x:Pt):(An P x).Perm (x::P):=by
 unfold An;refine ID.trans ?_;rw[List.take_append_drop]
theorem PS {P:List Pt} {x:Pt} (hP:P.Pairwise fun a b=>wQ a b=true) (hx:∀y∈P,¬(x.1=y.1/\x.2.2=y.2.2)):∀n,n<=P.length->(∀j (h:j<P.length),n<=j->wQ x P[j]=true) ->
  (∀j (h:j<P.length),j<kg P x n->wQ P[j] x=true)/\∀ j (h:j<P.length),kg P x n<=j->wQ x P[j]=true
 |0,_,h=>⟨fun j _ hj=>by unfold kg at hj; omega,fun j hj _=>h j hj (Nat.zero_le _)⟩
 |n+1,hn,h=>by
   have bE:n<P.length:=by omega
   have e:P.getD n pt0=P[n]:=by rw[aG,aj bE]; rfl
   unfold kg;rw[e];by_cases q:wQ x P[n]=true
   ·rw[if_pos q]
    exact PS hP hx n (by omega) fun j hj hnj=>by
     rcases kf hnj with rfl|hnj
     ·exact q
     ·exact h j hj hnj
   ·rw[if_neg q]
    have lt:wQ P[n] x=true:=by
     rcases IX x P[n] with k|k|k
     ·exact absurd k q
     ·exact absurd k (hx _ (mV bE))
     ·exact k
    refine⟨fun j hj hjn=>?_,h⟩;rcases kf (wP hjn) with rfl|hjn
    ·exact lt
    ·exact tC (QI.1 hP j n hj bE hjn) lt
theorem agi {P:List Pt} {x:Pt} (hP:P.Pairwise fun a b=>wQ a b=true) (hx:∀y∈P,¬(x.1=y.1/\x.2.2=y.2.2)):(An P x).Pairwise fun a b=>wQ a b=true:=by
 obtain⟨s1,s2⟩:=PS hP hx P.length (aJ _) fun j hj h=>by omega
 unfold An;have il:=RF P x P.length;generalize kg P x P.length=i at *;rw[DW];refine⟨hP.sublist (List.take_sublist _ _),bK.2 ⟨fun y hy=>?_,hP.sublist (List.drop_sublist _ _)⟩,fun y hy z hz=>?_⟩
 ·obtain⟨j,hj,rfl⟩:=oO hy;rw[List.getElem_drop];exact s2 _ _ (by omega)
 ·have ylt:wQ y x=true:=by
   obtain⟨j,hj,rfl⟩:=oO hy;rw[List.getElem_take];rw[List.length_take] at hj;exact s1 _ _ (by omega)
  rcases aO.1 hz with rfl|hz
  ·exact ylt
  ·obtain⟨j,hj,rfl⟩:=oO hz;rw[List.getElem_drop];exact tC ylt (s2 _ _ (by omega))
theorem GJ:∀(Q o:List Pt),(Q.foldl An o).Perm (o++Q)
 |[],o=>by simp
 |x::Q,o=>by
   rw[dV];refine (GJ Q _).trans ?_;refine ((wE o x).append_right Q).trans ?_;rw[NI];exact ID.symm
theorem V7:∀(Q o:List Pt),(o.Pairwise fun a b=>wQ a b=true)->((o++Q).Pairwise fun x y=>¬(x.1=y.1/\x.2.2=y.2.2))->(Q.foldl An o).Pairwise fun a b=>wQ a b=true
 |[],o,h,_=>h
 |x::Q,o,h,hd=>by
   rw[dV];have hd':=DW.1 hd;refine V7 Q _ (agi h fun y hy e=>hd'.2.2 y hy x cI ⟨e.1.symm,e.2.symm⟩) ?_;have p:(An o x++Q).Perm (o++x::Q):=((wE o x).append_right Q).trans (by rw[NI]; exact ID.symm);exact p.symm.pairwise hd fun{a b} h e=>h ⟨e.1.symm,e.2.symm⟩
def fP (x:Pt):Pt:=(x.1,-1,x.2.2)
theorem ajM {b:List (List Int × Int)} (hn:(b.map eU).Nodup):(uX (b.map fun p=>((p.2,0,p.1):Pt))).map fP=prt b:=by
 have hk:=wB.1 (II hn);rw[qL] at hk;unfold prt;refine M9 ?_ (xt (II hn)) ?_
 ·rw[qL]
  exact (V7 _ [] .nil (by rw[oV,qL]; exact hk)).imp fun{x y} h=>by
   rw[th] at h ⊢; exact h
 ·refine ((GJ _ []).map fP).trans ?_;rw[oV,List.map_map];exact (lK _).symm
def yW (P:List Pt):List Pt:=(List.range P.length).map fun i=>(iJ P i,mY P i P.length 0 (-1),bM P i)
theorem TT (P:List Pt) (i:Nat):∀(n k m:Nat) (p:Int),mY P i (n+m) k p=mY P i m (k+n) (mY P i n k p)
 |0,k,m,p=>by rw[Nat.zero_add,Nat.add_zero]; rfl
 |n+1,k,m,p=>by
   have e1:mY P i (n+1+m) k p=mY P i (n+m) (k+1) (iL P i p k):=by rw[show n+1+m=n+m+1 by omega]; rfl
   have e2:mY P i (n+1) k p=mY P i n (k+1) (iL P i p k):=rfl;rw[e1,e2,TT P i n (k+1) m,show k+1+n=k+(n+1) by omega]
theorem Pn {P:List Pt} {i:Nat}:∀(m k:Nat) (p:Int),(∀j,k<=j->j<k+m->¬Cand P i j)->mY P i m k p=p
 |0,k,p,_=>rfl
 |m+1,k,p,h=>by
   have e:iL P i p k=p:=by
    unfold iL;rw[if_neg];intro q;unfold zX at q;simp only[ae,decide_eq_true_eq] at q;exact h k (aJ _) (by omega) ⟨q.1,q.2.1⟩
   show mY P i m (k+1) (iL P i p k)=p;rw[e];exact Pn m (k+1) p fun j h1 h2=>h j (by omega) (by omega)
theorem ahf {A:List Nat} {N:Nat} {L:List Int} {b:List (List Int × Int)} (hS:GK A) (h:HOK2 A N L (ik b)) (hn:(b.map eU).Nodup):yW (uX (b.map fun p=>((p.2,0,p.1):Pt)))=ik b:=by
 have ep:=ajM hn;generalize uX (b.map fun p=>((p.2,0,p.1):Pt))=P at *;obtain⟨s1,s2,s3,s4,s5⟩:=oH (prt b).length 0 (prt b) (by omega);have lP:P.length=(prt b).length:=by rw[<-ep,aX]
 have lh:(ik b).length=P.length:=by unfold ik; rw[s1,lP]
 have sA:∀i,bM P i=bM (ik b) i:=fun i=>by
  unfold ik;rw[s2,<-ep];unfold bM;rw[aG,aG,cu];cases P[i]? with
  |none=>rfl
  |some x=>rfl
 have lA:∀i,iJ P i=iJ (ik b) i:=fun i=>by
  unfold ik;rw[s3,<-ep];unfold iJ;rw[aG,aG,cu];cases P[i]? with
  |none=>rfl
  |some x=>rfl
 apply List.ext_getElem
 ·unfold yW; rw[aX,List.length_range,lh]
 ·intro i h1 h2;have hi:i<P.length:=by omega
  have e1:(ik b)[i]=(iJ (ik b) i,ij (ik b) i,bM (ik b) i):=by
   unfold iJ ij bM;rw[aG,aj h2];rfl
  have e2':(yW P)[i]?=some (iJ P i,mY P i P.length 0 (-1),bM P i):=by
   unfold yW;rw[cu,List.getElem?_range hi];rfl
  rw[aj h1] at e2';have e2:=bj e2';rw[e1,e2,lA,sA];congr 2
  have e3:ij (ik b) i=mY (ik b) i i 0 (-1):=by
   have:=s5 i (by omega) (by omega)
   have pm:ij (prt b) i=-1:=by
    obtain⟨p,_,e⟩:=Ba.1 (at_mem (P:=prt b) (i:=i) (by omega));unfold ij; rw[<-e]
   rw[pm] at this;unfold ik;rw[this];exact uq (fun j=>(s2 j).symm) i i 0 (-1)
  rw[e3,uq sA i P.length 0 (-1),show P.length=i+(P.length-i) by omega,TT];refine Pn _ _ _ fun j j1 j2 hc=>?_;have hj:j<(ik b).length:=by omega
  rcases kf j1 with e|j1
  ·have:i=j:=by omega
   subst this;exact absurd hc.1 (Nat.lt_irrefl _)
  ·obtain⟨_,R,_,_,hR,e⟩:=h.ok.lv i h2;obtain⟨v,v1,v2⟩:=hR;have um:(v:Int)∈bM (ik b) i:=by rw[e]; exact (iO v2.lt).2 (v2.sub v (wV v))
   have uj:(v:Int)∈bM (ik b) j:=of_decide_eq_true (pY.1 hc.2 _ um);have:=(amE hS h (by omega:i<j) hj uj um).1;have:=hc.1;omega
end Go.BmP
