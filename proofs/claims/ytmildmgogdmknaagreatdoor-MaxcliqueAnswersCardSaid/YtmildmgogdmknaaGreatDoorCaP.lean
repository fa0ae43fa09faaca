/- Walks in order: plain facts about lists in order, bits, and what is done with each. -/
import Derived.Test.YtmildmgogdmknaaGreatDoorN01
set_option linter.unusedVariables false
set_option linter.unusedSimpArgs false
open Bool renaming and_eq_true → ae, eq_iff_iff → m8, not_eq_true' → bR, true_and → dI
open Classical renaming byContradiction → ep
open List renaming all_eq_true → gL, append_assoc → du, append_nil → dW, concat_eq_append → iW, eq_nil_or_concat → iV, exists_mem_of_ne_nil → uP, length_append → bV, length_cons → cN, mem_append → aG, mem_cons → aK, mem_cons_of_mem → dh, mem_cons_self → cH, mem_flatMap → Iu, mem_iff_getElem → XW, mem_map → gO, mem_range → eP, mem_singleton → cG, nil_append → rP, not_mem_nil → jT, pairwise_append → bP, pairwise_cons → aX, range → cQ, replicate → aH
open List.Pairwise renaming nil → dR
open Nat renaming and_le_left → jm, eq_of_testBit_eq → uQ, lt_of_le_of_lt → jj, pow_le_pow_right → iU, testBit_and → cm, testBit_lt_two_pow → sB, testBit_two_pow_sub_one → eK, zero_testBit → yJ
namespace Go.BmP
open Go.Am Go.Bm
def PY:List Int->List Int->List (List Int)
 |[],_=>[]
 |v::C,P=>(P++[v])::(PY C (P++[v])++PY C P)
theorem Ji:∀{C P S:List Int},S∈PY C P ↔ ∃T,T≠[]/\T.Sublist C/\S=P++T
 |[],P,S=>by
   simp only[PY,jT,false_iff];rintro⟨T,h1,h2,_⟩;exact h1 (List.sublist_nil.1 h2)
 |v::C,P,S=>by
   simp only[PY,aK,aG,Ji (C:=C)];constructor
   ·rintro (rfl|⟨T,h1,h2,rfl⟩|⟨T,h1,h2,rfl⟩)
    ·exact⟨[v],by simp,by simp,rfl⟩
    ·exact⟨v::T,by simp,h2.cons_cons v,by simp⟩
    ·exact⟨T,h1,h2.cons v,rfl⟩
   ·rintro⟨T,h1,h2,rfl⟩;cases h2 with
    |cons _ h=>exact .inr (.inr ⟨T,h1,h,rfl⟩)
    |cons_cons _ h=>
      rename_i T;cases T with
      |nil=>exact .inl rfl
      |cons t T=>exact .inr (.inl ⟨t::T,by simp,h,by simp⟩)
theorem uW:∀{L S:List Int},Up S->Up L->(∀x∈S,x∈L)->S.Sublist L
 |[],S,_,_,h=>by
   cases S with
   |nil=>exact List.Sublist.slnil
   |cons x S=>cases h x (by simp)
 |y::L,[],_,_,_=>List.nil_sublist _
 |y::L,x::S,hS,hL,h=>by
   have s1:=aX.1 hS;have l1:=aX.1 hL;by_cases e:x=y
   ·subst e;refine (uW s1.2 l1.2 fun z hz=>?_).cons_cons x;rcases aK.1 (h z (by simp[hz])) with k|k
    ·have:=s1.1 z hz; omega
    ·exact k
   ·have hx:x∈L:=(aK.1 (h x (by simp))).resolve_left e;have hy:=l1.1 x hx;refine (uW hS l1.2 fun z hz=>?_).cons y;rcases aK.1 (h z hz) with k|k
    ·rcases aK.1 hz with j|j
     ·omega
     ·have:=s1.1 z j; omega
    ·exact k
theorem FZ:∀{a b:List (List Int)},a.Nodup->(∀x∈a,x∈b)->a.length<=b.length
 |[],_,_,_=>Nat.zero_le _
 |x::a,b,hn,h=>by
   have h1:=List.nodup_cons.1 hn;have hx:x∈b:=h x (by simp);have ih:=FZ (a:=a) (b:=b.erase x) h1.2 fun y hy=>(List.mem_erase_of_ne (by rintro rfl; exact h1.1 hy)).2 (h y (by simp[hy]));rw[List.length_erase_of_mem hx] at ih;have:=List.length_pos_of_mem hx;simp only[cN];omega
theorem tN:∀(C P:List Int),(PY C P).length+1=2 ^ C.length
 |[],_=>rfl
 |v::C,P=>by
   have i1:=tN C (P++[v]);have i2:=tN C P;simp only[PY,cN,bV,Nat.pow_succ];omega
def Pe (after P:List Int) (t:Bool):Bool:=t&&decide (P.length<after.length)
def xA (after P:List Int) (t:Bool) (v:Int):Bool:=Pe after P t&&decide (v<after.getD P.length 0)
def onL (after P:List Int) (t:Bool) (v:Int):Bool:=Pe after P t&&decide (v=after.getD P.length 0)
theorem qc:∀(P A B:List Int),ka (P++A) (P++B)=ka A B
 |[],_,_=>rfl
 |x::P,A,B=>by
   have ih:=qc P A B;simp only[List.cons_append,ka,Int.lt_irrefl,if_false];exact ih
theorem v7 {m:Nat} (h:m<18446744073709551616):fG m=[] ↔ m=0:=by
 constructor
 ·intro e;by_cases h0:m=0
  ·exact h0
  ·rw[Bl h0 h] at e; cases e
 ·rintro rfl; exact PH
theorem Wd {P:List Int} (hu:Up P) (hb:∀v∈P,0<=v/\v<64):P.length<=64:=by
 have:=Fv (KP P)
 rwa [afI hu hb] at this
def bh (P:List Int):Nat:=match P.getLast? with
 |none=>0
 |some v=>2 ^ (v.toNat+1)-1
theorem al9:bh []=0:=rfl
theorem aif (P:List Int) (v:Int):bh (P++[v])=2 ^ (v.toNat+1)-1:=by simp[bh]
theorem anI {P:List Int} (h:∀v∈P,v<64):bh P<18446744073709551616:=by
 unfold bh;split
 ·decide
 ·rename_i v hv;have:=h v (List.mem_of_getLast? hv);have:2 ^ (v.toNat+1)<=2 ^ 64:=iU (by decide) (by omega);omega
theorem QW (b j:Nat) (h:b<18446744073709551616):(18446744073709551615-b).testBit j=(decide (j<64)&&!b.testBit j):=by
 rw[show 18446744073709551615-b=2 ^ 64-(b+1) by omega,Nat.testBit_two_pow_sub_succ (by omega)]
theorem Bh:∀(a b:List Int),ka a b=- ka b a
 |[],[]=>rfl
 |[],_::_=>rfl
 |_::_,[]=>rfl
 |x::r,y::s=>by
   have ih:=Bh r s;simp only[ka];by_cases h1:y<x
   ·have:¬x<y:=by omega
    simp[h1,this]
   ·by_cases h2:x<y
    ·simp[h1,h2]
    ·simp[h1,h2,ih]
/- Cliques as rising lists, and a walk that hands out the maximal ones in order: plain law. -/
section
variable {N:Nat} {E:List Ed} (h:jh (N:Int) E)
include h
theorem od:N<=64:=by have:=h.1; omega
theorem gadj:(dn N E).length=N/\Small (dn N E)/\∀ a b:Nat,((dn N E).getD a 0).testBit b=decide (jn E a b):=by
 obtain⟨h1,h2,h3⟩:=DN N (od h) E (aH N 0) (by simp) (fun x hx=>by have:=List.eq_of_mem_replicate hx; omega) h.2.2;refine⟨h1,h2,fun a b=>?_⟩;unfold dn;rw[h3]
 have e:(aH N 0).getD a 0=0:=by
  rw[List.getD_eq_getElem?_getD,List.getElem?_replicate]; split<;>rfl
 rw[e,yJ,Bool.false_or,m8,decide_eq_true_eq];simp[jn]
theorem Rs (a:Int):¬jn E a a:=by
 rintro (k|k)<;>exact absurd (h.2.2 _ k).2.1 (Int.lt_irrefl _)
omit h in
theorem II {a b:Int} (k:jn E a b):jn E b a:=k.symm
def cn (N:Nat) (E:List Ed) (P:List Int):Nat:=GF (dn N E) (2 ^ N-1) P
theorem uL {P:List Int} (hP:∀x∈P,0<=x) (j:Nat):(cn N E P).testBit j=true ↔ j<N/\∀ v∈P,jn E v j:=by
 unfold cn;rw[Vr,ae,eK,decide_eq_true_eq,gL];refine and_congr_right fun _=>?_;constructor
 ·intro k v hv;have:=k v hv;rw[(gadj h).2.2,decide_eq_true_eq,show ((v.toNat:Nat):Int)=v by have:=hP v hv; omega] at this;exact this
 ·intro k v hv;rw[(gadj h).2.2,decide_eq_true_eq,show ((v.toNat:Nat):Int)=v by have:=hP v hv; omega];exact k v hv
theorem H5 (P:List Int):cn N E P<18446744073709551616:=by
 have h1:=aaV (dn N E) P (2 ^ N-1);have h2:2 ^ N<=2 ^ 64:=iU (by decide) (od h);have h3:0<2 ^ N:=Nat.two_pow_pos N;unfold cn;omega
omit h in
theorem ahH (P:List Int) (v:Int):cn N E (P++[v])=cn N E P &&& (dn N E).getD v.toNat 0:=by simp[cn,GF]
def oa (P:List Int):Int:=P.getLast?.getD (-1)
omit h in
theorem pY (P:List Int) (v:Int):oa (P++[v])=v:=by simp[oa]
omit h in
theorem afK {P:List Int} (hP:∀x∈P,0<=x) (j:Nat):(bh P).testBit j=true ↔ (j:Int)<=oa P:=by
 rcases iV P with rfl|⟨Q,v,rfl⟩
 ·rw[al9,yJ];simp[oa];omega
 ·rw[iW,aif,pY,eK,decide_eq_true_eq];have:=hP v (by simp);omega
def mo (N:Nat) (E:List Ed) (P:List Int):Nat:=cn N E P &&& (18446744073709551615-bh P)
def le (N:Nat) (E:List Ed) (P:List Int):Nat:=cn N E P &&& bh P
theorem ai8 (P:List Int):mo N E P<18446744073709551616:=jj jm (H5 h P)
theorem ajc (P:List Int):le N E P<18446744073709551616:=jj jm (H5 h P)
theorem WV {P:List Int} (hP:∀x∈P,0<=x/\x<64) (j:Nat):(mo N E P).testBit j=true ↔ (j<N/\∀ v∈P,jn E v j)/\oa P<(j:Int):=by
 have hn:=od h;have h0:∀x∈P,0<=x:=fun x hx=>(hP x hx).1;unfold mo;rw[cm,ae,uL h h0,QW _ _ (anI fun v hv=>(hP v hv).2),ae,decide_eq_true_eq];have e:=afK h0 j;constructor
 ·rintro⟨k1,_,k2⟩;refine⟨k1,?_⟩;by_cases q:(j:Int)<=oa P
  ·rw[e.2 q] at k2; cases k2
  ·omega
 ·rintro⟨k1,k2⟩;refine⟨k1,by omega,?_⟩;cases q:(bh P).testBit j with
  |false=>rfl
  |true=>have:=e.1 q; omega
theorem aeH {P:List Int} (hP:∀x∈P,0<=x/\x<64) (j:Nat):(le N E P).testBit j=true ↔ (j<N/\∀ v∈P,jn E v j)/\(j:Int)<=oa P:=by
 have h0:∀x∈P,0<=x:=fun x hx=>(hP x hx).1;unfold le;rw[cm,ae,uL h h0,afK h0]
theorem A2 {P:List Int} (hP:∀x∈P,0<=x/\x<64) (y:Int):y∈fG (mo N E P) ↔ (0<=y/\y<(N:Int))/\(∀v∈P,jn E v y)/\oa P<y:=by
 have hn:=od h;rw[gb];constructor
 ·rintro⟨j,rfl,_,k⟩;have:=(WV h hP j).1 k;exact⟨by omega,this.1.2,this.2⟩
 ·rintro⟨⟨k0,k1⟩,k2,k3⟩;have e:((y.toNat:Nat):Int)=y:=by omega
  exact⟨y.toNat,e.symm,by omega,(WV h hP _).2 ⟨⟨by omega,by rw[e]; exact k2⟩,by rw[e]; exact k3⟩⟩
theorem IH {P:List Int} (hP:∀x∈P,0<=x/\x<64) (y:Int):y∈fG (le N E P) ↔ (0<=y/\y<(N:Int))/\(∀v∈P,jn E v y)/\y<=oa P:=by
 have hn:=od h;rw[gb];constructor
 ·rintro⟨j,rfl,_,k⟩;have:=(aeH h hP j).1 k;exact⟨by omega,this.1.2,this.2⟩
 ·rintro⟨⟨k0,k1⟩,k2,k3⟩;have e:((y.toNat:Nat):Int)=y:=by omega
  exact⟨y.toNat,e.symm,by omega,(aeH h hP _).2 ⟨⟨by omega,by rw[e]; exact k2⟩,by rw[e]; exact k3⟩⟩
omit h in
theorem afH {a b:Nat} (ha:a<18446744073709551616) (hb:b<18446744073709551616) (k:∀j,j<64->(a.testBit j=true ↔ b.testBit j=true)):a=b:=by
 apply uQ;intro j;by_cases hj:j<64
 ·exact m8.2 (k j hj)
 ·have p:2 ^ 64<=2 ^ j:=iU (by decide) (by omega);rw[sB (by omega),sB (by omega)]
theorem R0 {v:Int} (hv:0<=v) (j:Nat):((dn N E).getD v.toNat 0).testBit j=true ↔ jn E v j:=by
 rw[(gadj h).2.2,decide_eq_true_eq,show ((v.toNat:Nat):Int)=v by omega]
def prn (N:Nat) (E:List Ed) (P:List Int):Bool:=(fG (le N E P)).any fun x=>decide (mo N E P &&& (18446744073709551615-(dn N E).getD x.toNat 0)=0)
theorem agA {P:List Int} (hP:∀x∈P,0<=x/\x<64):prn N E P=true ↔ ∃x∈fG (le N E P),∀y∈fG (mo N E P),jn E x y:=by
 unfold prn;rw[List.any_eq_true];refine exists_congr fun x=>and_congr_right fun hx=>?_;rw[decide_eq_true_eq];have x0:=((IH h hP x).1 hx).1.1;have sm:=jz (gadj h).2.1 x.toNat;constructor
 ·intro k y hy;obtain⟨j,rfl,hj,q⟩:=gb.1 hy;have e:=congrArg (fun n=>n.testBit j) k;simp only[cm,q,dI,yJ] at e;rw[QW _ _ sm] at e;simp only[hj,decide_true,dI,Bool.not_eq_false'] at e;exact (R0 h x0 j).1 e
 ·intro k;apply uQ;intro j;rw[cm,QW _ _ sm,yJ];cases q:(mo N E P).testBit j with
  |false=>rfl
  |true=>
    have hj:j<64:=by
     have:=((WV h hP j).1 q).1.1;have:=od h;omega
    rw[(R0 h x0 j).2 (k j (gb.2 ⟨j,rfl,hj,q⟩))];simp
end
structure Ng (N:Nat) (E:List Ed) (P:List Int):Prop where
 up:Up P
 bd:∀x∈P,0<=x/\x<(N:Int)
 ad:P.Pairwise (jn E)
def ue (N:Nat) (E:List Ed) (S:List Int):Prop:=Ng N E S/\S≠[]/\∀ x,(0<=x/\x<(N:Int))->¬∀v∈S,jn E v x
def Bu (N:Nat) (E:List Ed) (after:List Int):Nat->List Int->Bool->List (List Int)
 |0,_,_=>[]
 |n+1,P,t=>if mo N E P=0 then (if le N E P≠0\/P=[]\/(t=true/\P.length<=after.length) then[] else[P]) else if prn N E P=true then[] else (fG (mo N E P)).flatMap fun v=>if xA after P t v=true then[] else Bu N E after n (P++[v]) (onL after P t v)
section
variable {N:Nat} {E:List Ed} (h:jh (N:Int) E)
include h
theorem Ll {P:List Int} (k:Ng N E P):∀x∈P,0<=x/\x<64:=fun x hx=>by
 have:=k.bd x hx; have:=od h; omega
theorem UF {P:List Int} (k:Ng N E P) {v:Int} (hv:v∈fG (mo N E P)):Ng N E (P++[v])/\oa P<v:=by
 obtain⟨k1,k2,k3⟩:=(A2 h (Ll h k) v).1 hv;refine⟨⟨?_,fun x hx=>?_,?_⟩,k3⟩
 ·unfold Up;rw[bP];refine⟨k.up,by simp,fun x hx y hy=>?_⟩;simp at hy;subst hy
  -- x is at most the last of P
  rcases iV P with e|⟨Q,w,e⟩
  ·rw[e] at hx; simp at hx
  ·rw[iW] at e;have l1:oa P=w:=by rw[e,pY]
   rw[e] at hx;rcases aG.1 hx with q|q
   ·have:=(bP.1 (e▸k.up)).2.2 x q w (by simp);omega
   ·simp at q; omega
 ·rcases aG.1 hx with q|q
  ·exact k.bd x q
  ·simp at q; rw[q]; exact k1
 ·rw[bP];refine⟨k.ad,by simp,fun x hx y hy=>?_⟩;simp at hy;subst hy;exact k2 x hx
omit h in
theorem IJ (after:List Int):∀(n:Nat) (P:List Int) (t:Bool),∀S∈Bu N E after n P t,∃T,S=P++T
 |0,P,t,S,hS=>by simp[Bu] at hS
 |n+1,P,t,S,hS=>by
   unfold Bu at hS;split at hS
   ·split at hS
    ·simp at hS
    ·simp at hS; exact⟨[],by simp[hS]⟩
   ·split at hS
    ·simp at hS
    ·obtain⟨v,_,hv⟩:=Iu.1 hS;split at hv
     ·simp at hv
     ·obtain⟨T,rfl⟩:=IJ after n _ _ S hv;exact⟨v::T,by simp⟩
theorem Rw:∀(n:Nat) (P:List Int),Ng N E P->(N:Int)-oa P<=n->∀S,S∈Bu N E [] n P false ↔ ue N E S/\∃ T,S=P++T
 |0,P,hP,hf,S=>by
   have hn:=od h
   have:oa P<(N:Int):=by
    rcases iV P with e|⟨Q,w,e⟩
    ·rw[e]; simp[oa]; omega
    ·rw[iW] at e;rw[e,pY];exact (hP.bd w (by rw[e]; simp)).2
   omega
 |n+1,P,hP,hf,S=>by
   have hn:=od h;have bd:=Ll h hP;unfold Bu;by_cases k1:mo N E P=0
   ·rw[if_pos k1];have noM:fG (mo N E P)=[]:=(v7 (ai8 h P)).2 k1;by_cases k2:le N E P≠0\/P=[]\/((false:Bool)=true/\P.length<=([]:List Int).length)
    ·rw[if_pos k2];simp only[jT,false_iff,not_and];rintro⟨m1,m2,m3⟩ ⟨T,rfl⟩
     -- nothing can be added
     have hT:T=[]:=by
      cases T with
      |nil=>rfl
      |cons v T=>
        have:v∈fG (mo N E P):=(A2 h bd v).2 ⟨m1.bd v (by simp),fun w hw=>(bP.1 m1.ad).2.2 w hw v (by simp),by
         rcases iV P with e|⟨Q,w,e⟩
         ·rw[e]; have:=m1.bd v (by simp); simp[oa]; omega
         ·rw[iW] at e;rw[e,pY];exact (bP.1 m1.up).2.2 w (by rw[e]; simp) v (by simp)⟩
        rw[noM] at this;cases this
     subst hT;rw[dW] at m2 m3;rcases k2 with q|q|q
     ·have:fG (le N E P)≠[]:=fun e=>q ((v7 (ajc h P)).1 e);obtain⟨x,hx⟩:=uP _ this;obtain⟨x1,x2,_⟩:=(IH h bd x).1 hx;exact m3 x x1 x2
     ·exact m2 q
     ·simp at q
    ·rw[if_neg k2];simp only[not_or,ne_eq,Decidable.not_not] at k2;obtain⟨l0,p0,_⟩:=k2;rw[cG];constructor
     ·rintro rfl;refine⟨⟨hP,p0,fun x hx hj=>?_⟩,[],by simp⟩;by_cases q:oa S<x
      ·have:x∈fG (mo N E S):=(A2 h bd x).2 ⟨hx,hj,q⟩;rw[noM] at this; cases this
      ·have:x∈fG (le N E S):=(IH h bd x).2 ⟨hx,hj,by omega⟩;rw[(v7 (ajc h S)).2 l0] at this; cases this
     ·rintro⟨⟨m1,m2,m3⟩,T,rfl⟩;cases T with
      |nil=>simp
      |cons v T=>
        have:v∈fG (mo N E P):=(A2 h bd v).2 ⟨m1.bd v (by simp),fun w hw=>(bP.1 m1.ad).2.2 w hw v (by simp),by
         rcases iV P with e|⟨Q,w,e⟩
         ·exact absurd e p0
         ·rw[iW] at e;rw[e,pY];exact (bP.1 m1.up).2.2 w (by rw[e]; simp) v (by simp)⟩
        rw[noM] at this;cases this
   ·rw[if_neg k1]
    -- the tail of what begins with P is among the greater ones
    have tail:∀v T,Ng N E (P++v::T)->∀y∈v::T,y∈fG (mo N E P):=fun v T m1 y hy=>(A2 h bd y).2 ⟨m1.bd y (aG.2 (.inr hy)),fun w hw=>(bP.1 m1.ad).2.2 w hw y hy,by
     rcases iV P with e|⟨Q,w,e⟩
     ·rw[e]; have:=m1.bd y (aG.2 (.inr hy)); simp[oa]; omega
     ·rw[iW] at e;rw[e,pY];exact (bP.1 m1.up).2.2 w (by rw[e]; simp) y hy⟩
    have notP:¬ue N E P:=by
     rintro⟨_,_,m3⟩;have:fG (mo N E P)≠[]:=fun e=>k1 ((v7 (ai8 h P)).1 e);obtain⟨x,hx⟩:=uP _ this;obtain⟨x1,x2,_⟩:=(A2 h bd x).1 hx;exact m3 x x1 x2
    by_cases k2:prn N E P=true
    ·rw[if_pos k2];simp only[jT,false_iff,not_and];rintro⟨m1,m2,m3⟩ ⟨T,rfl⟩;cases T with
     |nil=>rw[dW] at m1 m2 m3; exact notP ⟨m1,m2,m3⟩
     |cons v T=>
       obtain⟨x,hx,hj⟩:=(agA h bd).1 k2;obtain⟨x1,x2,_⟩:=(IH h bd x).1 hx;refine m3 x x1 fun w hw=>?_;rcases aG.1 hw with q|q
       ·exact x2 w q
       ·exact II (hj w (tail v T m1 w q))
    ·rw[if_neg k2,Iu];constructor
     ·rintro⟨v,hv,hS⟩;obtain⟨c1,c2⟩:=UF h hP hv;have s0:xA [] P false v=false:=rfl;have o0:onL [] P false v=false:=rfl;rw[s0,o0,if_neg (by decide)] at hS;obtain⟨m,T,e⟩:=(Rw n (P++[v]) c1 (by rw[pY]; omega) S).1 hS;exact⟨m,v::T,by rw[e]; simp⟩
     ·rintro⟨m,T,rfl⟩;cases T with
      |nil=>rw[dW] at m; exact absurd m notP
      |cons v T=>
        have hv:=tail v T m.1 v (by simp);obtain⟨c1,c2⟩:=UF h hP hv;have s0:xA [] P false v=false:=rfl;have o0:onL [] P false v=false:=rfl;refine⟨v,hv,?_⟩;rw[s0,o0,if_neg (by decide)];exact (Rw n (P++[v]) c1 (by rw[pY]; omega) _).2 ⟨m,T,by simp⟩
omit h in
theorem Ln:∀(n:Nat) (P:List Int),(Bu N E [] n P false).Pairwise fun a b=>ka b a=1
 |0,P=>dR
 |n+1,P=>by
   unfold Bu;split
   ·split
    ·exact dR
    ·simp
   ·split
    ·exact dR
    ·have up:=mT (mo N E P);generalize fG (mo N E P)=C at up
     induction C with
     |nil=>exact dR
     |cons v C ih=>
       have up2:=aX.1 up;have s0:xA [] P false v=false:=rfl;have o0:onL [] P false v=false:=rfl;rw[List.flatMap_cons,bP];refine⟨?_,ih up2.2,fun a ha b hb=>?_⟩
       ·rw[s0,o0,if_neg (by decide)];exact Ln n _
       ·rw[s0,o0,if_neg (by decide)] at ha;obtain⟨T,rfl⟩:=IJ [] n _ _ a ha;obtain⟨w,hw,hb⟩:=Iu.1 hb;split at hb
        ·simp at hb
        ·obtain⟨U,rfl⟩:=IJ [] n _ _ b hb;have:=up2.1 w hw;rw[du,du,qc];simp only[List.cons_append,rP,ka];rw[if_pos this]
end
def mcl (N:Nat) (E:List Ed):List (List Int):=Bu N E [] (N+1) [] false
section
variable {N:Nat} {E:List Ed} (h:jh (N:Int) E)
include h
theorem Q7 {S:List Int}:S∈mcl N E ↔ ue N E S:=by
 have c0:Ng N E []:=⟨dR,by simp,dR⟩;have:=Rw h (N+1) [] c0 (by show (N:Int)-(-1)<=((N+1:Nat):Int); omega) S;unfold mcl;rw[this];exact⟨fun k=>k.1,fun k=>⟨k,S,by simp⟩⟩
omit h in
theorem Dt:(mcl N E).Pairwise fun a b=>ka b a=1:=Ln _ _
omit h in
theorem OS:(mcl N E).Nodup:=(Dt (N:=N) (E:=E)).imp fun{a b} k e=>by
 subst e;rw[sA.2 rfl] at k;cases k
omit h in
end
/- The reference's walk through the cliques of a graph: its list holds just the maximal ones. -/
def th (Es:List Ed) (S:List Int) (v:Int):Bool:=S.all fun u=>!decide (u=v)&&decide (rE u v∈Es)
def mxR (N:Nat) (Es:List Ed) (S:List Int):Bool:=(n8 (N:Int) (-1) S&&decide (S.Pairwise fun a b=>rE a b∈Es))&&(!decide (S=[])&&(cQ N).all fun v=>!th Es S v)
def py (N:Nat) (Es:List Ed):Nat->Nat->List Int->List (List Int)
 |0,_,_=>[]
 |k+1,v,S=>(if th Es S v=true then (if mxR N Es (S++[(v:Int)])=true then[S++[(v:Int)]] else py N Es k (v+1) (S++[(v:Int)])) else[])++py N Es k (v+1) S
theorem FY {N:Nat} {E:List Ed} (h:jh (N:Int) E) (a b:Int):rE a b∈E ↔ jn E a b:=by
 unfold jn rE;constructor
 ·intro k;rcases Int.lt_trichotomy a b with c|c|c
  ·rw[if_neg (by omega),if_pos c] at k; exact .inl k
  ·subst c; simp at k; exact .inl k
  ·rw[if_pos c,if_neg (by omega)] at k; exact .inr k
 ·rintro (k|k)
  ·have:=h.2.2 _ k;simp only at this;rw[if_neg (by omega),if_pos (by omega)]; exact k
  ·have:=h.2.2 _ k;simp only at this;rw[if_pos (by omega),if_neg (by omega)]; exact k
section
variable {N:Nat} {E:List Ed} (h:jh (N:Int) E)
include h
theorem Ff {S:List Int} {v:Int}:th E S v=true ↔ ∀u∈S,jn E u v:=by
 unfold th;rw[gL];constructor
 ·intro k u hu;have:=k u hu;simp only[ae,decide_eq_true_eq] at this;exact (FY h u v).1 this.2
 ·intro k u hu;have:=k u hu;simp only[ae,bR,decide_eq_false_iff_not,decide_eq_true_eq];exact⟨fun e=>Rs h v (e▸this),(FY h u v).2 this⟩
theorem Z6 {S:List Int}:mxR N E S=true ↔ ue N E S:=by
 unfold mxR ue;simp only[ae,decide_eq_true_eq,bR,decide_eq_false_iff_not,gL,eP,AL];have pw:(S.Pairwise fun a b=>rE a b∈E) ↔ S.Pairwise (jn E):=⟨fun k=>k.imp fun q=>(FY h _ _).1 q,fun k=>k.imp fun q=>(FY h _ _).2 q⟩;constructor
 ·rintro⟨⟨⟨h1,h2⟩,h3⟩,h4,h5⟩;refine⟨⟨h1,fun x hx=>(h2 x hx).2,pw.1 h3⟩,h4,fun x hx k=>?_⟩;have e:((x.toNat:Nat):Int)=x:=by omega
  have:=h5 x.toNat (by omega);rw[e,(Ff h).2 k] at this;cases this
 ·rintro⟨⟨h1,h2,h3⟩,h4,h5⟩;refine⟨⟨⟨h1,fun x hx=>by have:=h2 x hx; omega⟩,pw.2 h3⟩,h4,fun v hv=>?_⟩;rw[<-Bool.not_eq_true];exact fun k=>h5 v (by omega) ((Ff h).1 k)
theorem aay {S:List Int} (hS:Ng N E S) {v:Nat} (hv:v<N) (hl:∀x∈S,x<(v:Int)) (hf:th E S v=true):Ng N E (S++[(v:Int)]):=by
 refine⟨?_,fun x hx=>?_,?_⟩
 ·unfold Up;rw[bP];exact⟨hS.up,by simp,fun x hx y hy=>by simp at hy; subst hy; exact hl x hx⟩
 ·rcases aG.1 hx with q|q
  ·exact hS.bd x q
  ·simp at q; omega
 ·rw[bP];exact⟨hS.ad,by simp,fun x hx y hy=>by simp at hy; subst hy; exact (Ff h).1 hf x hx⟩
theorem E7:∀(k v:Nat) (S:List Int),v+k=N->Ng N E S->(∀x∈S,x<(v:Int))->∀X,X∈py N E k v S ↔ ue N E X/\∃ T,T≠[]/\X=S++T/\∀ x∈T,(v:Int)<=x
 |0,v,S,hv,hS,hl,X=>by
   simp only[py,jT,false_iff,not_and,not_exists];rintro hX T h1 rfl h3;obtain⟨t,ht⟩:=uP T h1;have:=h3 t ht;have:=hX.1.bd t (aG.2 (.inr ht));omega
 |k+1,v,S,hv,hS,hl,X=>by
   have ih1:=E7 k (v+1) S (by omega) hS (fun x hx=>by have:=hl x hx; omega) X;unfold py;rw[aG,ih1]
   have ajI:(ue N E X/\∃ T,T≠[]/\X=S++T/\∀ x∈T,(v:Int)<=x) ↔ (ue N E X/\∃ T,X=(S++[(v:Int)])++T/\∀ x∈T,((v+1:Nat):Int)<=x)\/(ue N E X/\∃ T,T≠[]/\X=S++T/\∀ x∈T,((v+1:Nat):Int)<=x):=by
    constructor
    ·rintro⟨hX,T,h1,rfl,h3⟩
     match T,h1 with
     |t::T',_=>
       have hup:(t::T').Pairwise (·<·):=(bP.1 hX.1.up).2.1;have ht:=h3 t (by simp);by_cases e:t=(v:Int)
       ·left;subst e;refine⟨hX,T',by simp,fun x hx=>?_⟩;have:=(aX.1 hup).1 x hx;omega
       ·right;refine⟨hX,t::T',by simp,rfl,fun x hx=>?_⟩;rcases aK.1 hx with rfl|q
        ·omega
        ·have:=(aX.1 hup).1 x q;omega
    ·rintro (⟨hX,T,rfl,h3⟩|⟨hX,T,h1,rfl,h3⟩)
     ·refine⟨hX,(v:Int)::T,by simp,by simp,fun x hx=>?_⟩;rcases aK.1 hx with rfl|q
      ·omega
      ·have:=h3 x q; omega
     ·exact⟨hX,T,h1,rfl,fun x hx=>by have:=h3 x hx; omega⟩
   rw[ajI];refine or_congr ?_ Iff.rfl;by_cases hf:th E S v=true
   ·rw[if_pos hf];have hc:=aay h hS (by omega) hl hf;by_cases hm:mxR N E (S++[(v:Int)])=true
    ·rw[if_pos hm,cG];have hM:=(Z6 h).1 hm;constructor
     ·rintro rfl;exact⟨hM,[],by simp,fun x hx=>by simp at hx⟩
     ·rintro⟨hX,T,rfl,h3⟩
      match T with
      |[]=>simp
      |t::T'=>
        exfalso;have hb:=hX.1.bd t (by simp);refine hM.2.2 t hb fun u hu=>?_;exact (bP.1 hX.1.ad).2.2 u hu t (by simp)
    ·rw[if_neg hm]
     rw[E7 k (v+1) (S++[(v:Int)]) (by omega) hc (fun x hx=>by
      rcases aG.1 hx with q|q
      ·have:=hl x q; omega
      ·simp at q; omega) X]
     constructor
     ·rintro⟨hX,T,_,h2,h3⟩; exact⟨hX,T,h2,h3⟩
     ·rintro⟨hX,T,h2,h3⟩;refine⟨hX,T,?_,h2,h3⟩;rintro rfl;rw[dW] at h2;subst h2;exact hm ((Z6 h).2 hX)
   ·rw[if_neg hf];simp only[jT,false_iff,not_and,not_exists];rintro hX T rfl h3;refine hf ((Ff h).2 fun u hu=>?_);exact (bP.1 (bP.1 hX.1.ad).1).2.2 u hu v (by simp)
theorem xg (X:List Int):X∈py N E N 0 [] ↔ ue N E X:=by
 rw[E7 h N 0 [] (by omega) ⟨dR,by simp,dR⟩ (by simp) X];constructor
 ·exact fun k=>k.1
 ·exact fun k=>⟨k,X,k.2.1,rfl,fun x hx=>by have:=k.1.bd x hx; omega⟩
end
/- A clique that is extended node by node: plain law. -/
def gr (A:List Nat):Nat->Nat->List Int
 |0,_=>[]
 |n+1,m=>if m=0 then[] else ((tz m:Nat):Int)::gr A n (m &&& A.getD (tz m) 0)
structure XO (N:Nat) (E:List Ed) (P:List Int):Prop where
 bd:∀x∈P,0<=x/\x<(N:Int)
 ad:P.Pairwise (jn E)
theorem Ng.q {N:Nat} {E:List Ed} {P:List Int} (h:Ng N E P):XO N E P:=⟨h.bd,h.ad⟩
section
variable {N:Nat} {E:List Ed} (h:jh (N:Int) E)
include h
theorem I0 {P:List Int} (hP:∀x∈P,0<=x) (y:Int):y∈fG (cn N E P) ↔ (0<=y/\y<(N:Int))/\∀ v∈P,jn E v y:=by
 have hn:=od h;rw[gb];constructor
 ·rintro⟨j,rfl,_,k⟩;have:=(uL h hP j).1 k;exact⟨by omega,this.2⟩
 ·rintro⟨⟨k0,k1⟩,k2⟩;have e:((y.toNat:Nat):Int)=y:=by omega
  exact⟨y.toNat,e.symm,by omega,(uL h hP _).2 ⟨by omega,by rw[e]; exact k2⟩⟩
theorem afs {P Q:List Int} (hP:∀x∈P,0<=x) (hQ:∀x∈Q,0<=x) (e:∀x,x∈P ↔ x∈Q):cn N E P=cn N E Q:=by
 refine afH (H5 h P) (H5 h Q) fun j _=>?_;rw[uL h hP,uL h hQ];refine and_congr_right fun _=>⟨fun k v hv=>k v ((e v).2 hv),fun k v hv=>k v ((e v).1 hv)⟩
theorem RL {P:List Int} (hP:XO N E P) (h0:cn N E P≠0):∃v:Int,v=((tz (cn N E P):Nat):Int)/\v∈fG (cn N E P)/\XO N E (P++[v])/\cn N E P &&& (dn N E).getD (tz (cn N E P)) 0=cn N E (P++[v])/\(∀x∈fG (cn N E (P++[v])),x∈fG (cn N E P)/\v<x)/\(fG (cn N E (P++[v]))).length<(fG (cn N E P)).length:=by
 have nn:∀x∈P,0<=x:=fun x hx=>(hP.bd x hx).1;have st:=Bl h0 (H5 h P);have hv:((tz (cn N E P):Nat):Int)∈fG (cn N E P):=by rw[st]; simp
 obtain⟨b1,b2⟩:=(I0 h nn _).1 hv
 have q:XO N E (P++[((tz (cn N E P):Nat):Int)]):=⟨fun x hx=>by
  rcases aG.1 hx with k|k
  ·exact hP.bd x k
  ·simp at k; rw[k]; exact b1,by
  rw[bP];exact⟨hP.ad,by simp,fun x hx y hy=>by simp at hy; rw[hy]; exact b2 x hx⟩⟩
 have nq:∀x∈P++[((tz (cn N E P):Nat):Int)],0<=x:=fun x hx=>(q.bd x hx).1
 have sub:∀x∈fG (cn N E (P++[((tz (cn N E P):Nat):Int)])),x∈fG (cn N E P)/\((tz (cn N E P):Nat):Int)<x:=fun x hx=>by
  obtain⟨c1,c2⟩:=(I0 h nq x).1 hx;have hxP:x∈fG (cn N E P):=(I0 h nn x).2 ⟨c1,fun w hw=>c2 w (by simp[hw])⟩;refine⟨hxP,?_⟩
  have kj:x≠((tz (cn N E P):Nat):Int):=by
   rintro rfl;exact Rs h _ (c2 _ (by simp))
  have up:=mT (cn N E P);rw[st] at hxP up;rcases aK.1 hxP with k|k
  ·exact absurd k kj
  ·exact (aX.1 up).1 x k
 refine⟨_,rfl,hv,q,?_,sub,?_⟩
 ·rw[ahH,show (((tz (cn N E P):Nat):Int)).toNat=tz (cn N E P) by omega]
 ·have hs:=uW (L:=fG (cn N E P &&& (cn N E P-1))) (mT (cn N E (P++[((tz (cn N E P):Nat):Int)]))) (mT _) fun x hx=>by
   obtain⟨k1,k2⟩:=sub x hx;rw[st] at k1;rcases aK.1 k1 with k|k
   ·omega
   ·exact k
  have:=hs.length_le;rw[st];simp only[cN];omega
theorem aaF:∀(n:Nat) (P:List Int),XO N E P->(fG (cn N E P)).length<=n->Up (gr (dn N E) n (cn N E P))/\(∀x∈gr (dn N E) n (cn N E P),x∈fG (cn N E P))/\XO N E (P++gr (dn N E) n (cn N E P))/\cn N E (P++gr (dn N E) n (cn N E P))=0
 |0,P,hP,hl=>by
   have:cn N E P=0:=(v7 (H5 h P)).1 (List.length_eq_zero_iff.1 (by omega));simp only[gr,dW];exact⟨dR,by simp,hP,this⟩
 |n+1,P,hP,hl=>by
   by_cases h0:cn N E P=0
   ·unfold gr;rw[if_pos h0,dW];exact⟨dR,by simp,hP,h0⟩
   ·obtain⟨v,ev,hv,hq,he,hs,bD⟩:=RL h hP h0;obtain⟨i1,i2,i3,i4⟩:=aaF n (P++[v]) hq (by omega);unfold gr;rw[if_neg h0,he,<-ev];refine⟨aX.2 ⟨fun x hx=>(hs x (i2 x hx)).2,i1⟩,fun x hx=>?_,by simpa using i3,by simpa using i4⟩;rcases aK.1 hx with k|k
    ·rw[k]; exact hv
    ·exact (hs x (i2 x k)).1
end
def grd (N:Nat) (E:List Ed) (P:List Int):List Int:=gr (dn N E) 64 (cn N E P)
def M9 (N:Nat) (E:List Ed) (P:List Int):List Int:=iP (P++grd N E P)
section
variable {N:Nat} {E:List Ed} (h:jh (N:Int) E)
include h
theorem ae3 {P:List Int} (hP:XO N E P):Up (grd N E P)/\(∀x∈grd N E P,x∈fG (cn N E P))/\XO N E (P++grd N E P)/\cn N E (P++grd N E P)=0:=aaF h 64 P hP (Fv _)
theorem O5 {P:List Int} (hP:XO N E P):P.Nodup:=hP.ad.imp fun{a b} k e=>by subst e; exact Rs h _ k
omit h in
theorem aeM {l:List Int} (hn:l.Nodup):Up (iP l)/\∀ x,x∈iP l ↔ x∈l:=by
 have hp:=kP l;refine⟨?_,fun x=>hp.mem_iff⟩;have h1:=vM l;have h2:(iP l).Nodup:=hp.nodup_iff.2 hn
 exact (List.pairwise_and_iff.2 ⟨h1,h2⟩).imp fun{a b} k=>by
  have:=k.1; have:=k.2; omega
theorem abO {P:List Int} (hP:XO N E P):Up (M9 N E P)/\(∀x,x∈M9 N E P ↔ x∈P\/x∈grd N E P)/\Ng N E (M9 N E P)/\cn N E (M9 N E P)=0:=by
 obtain⟨g1,g2,g3,g4⟩:=ae3 h hP;obtain⟨s1,s2⟩:=aeM (O5 h g3)
 have mem:∀x,x∈M9 N E P ↔ x∈P\/x∈grd N E P:=fun x=>by
  unfold M9;rw[s2,aG]
 have bd:∀x∈M9 N E P,0<=x/\x<(N:Int):=fun x hx=>g3.bd x (aG.2 ((mem x).1 hx));refine⟨s1,mem,⟨s1,bd,?_⟩,?_⟩
 ·have hp:=kP (P++grd N E P);exact (hp.pairwise_iff fun{a b} k=>II k).2 g3.ad
 ·rw[<-g4];exact afs h (fun x hx=>(bd x hx).1) (fun x hx=>(g3.bd x hx).1) fun x=>by rw[mem,aG]
end
/- The reference's walk hands out the maximal cliques in order; how many they are. -/
section
variable {N:Nat} {E:List Ed} (h:jh (N:Int) E)
include h
theorem DD:∀(k v:Nat) (S:List Int),v+k=N->Ng N E S->(∀x∈S,x<(v:Int))->(py N E k v S).Pairwise fun a b=>ka b a=1
 |0,_,_,_,_,_=>dR
 |k+1,v,S,hv,hS,hl=>by
   have hl1:∀x∈S,x<((v+1:Nat):Int):=fun x hx=>by have:=hl x hx; omega
   have i1:=DD k (v+1) S (by omega) hS hl1;have m1:=E7 h k (v+1) S (by omega) hS hl1;unfold py;cases f:th E S v with
   |false=>rw[if_neg (by decide),rP]; exact i1
   |true=>
     rw[if_pos rfl];have hA:=aay h hS (show v<N by omega) hl f
     have later:∀(T:List Int) (b:List Int),b∈py N E k (v+1) S->ka b (S++(v:Int)::T)=1:=fun T b hb=>by
      obtain⟨_,T',kj,rfl,ht⟩:=(m1 b).1 hb;rw[qc];cases T' with
      |nil=>exact absurd rfl kj
      |cons y r=>
        have:=ht y cH;unfold ka;have h1:(v:Int)<y:=by omega
        simp[h1]
     rw[bP];refine⟨?_,i1,fun a ha b hb=>?_⟩
     ·split
      ·exact List.pairwise_singleton _ _
      ·exact DD k (v+1) _ (by omega) hA fun x hx=>by
        rcases aG.1 hx with q|q
        ·have:=hl x q; omega
        ·simp at q; omega
     ·split at ha
      ·rw[cG.1 ha];exact later [] b hb
      ·obtain⟨_,T,_,rfl,_⟩:=(E7 h k (v+1) (S++[(v:Int)]) (by omega) hA (fun x hx=>by
        rcases aG.1 hx with q|q
        ·have:=hl x q; omega
        ·simp at q; omega) a).1 ha
       rw[du];exact later T b hb
omit h in
theorem Nw:∀{a b:List (List Int)},(a.Pairwise fun x y=>ka y x=1)->(b.Pairwise fun x y=>ka y x=1)->(∀x,x∈a ↔ x∈b)->a=b
 |[],[],_,_,_=>rfl
 |[],y::b,_,_,h=>absurd ((h y).2 cH) jT
 |x::a,[],_,_,h=>absurd ((h x).1 cH) jT
 |x::a,y::b,ha,hb,h=>by
   obtain⟨a1,a2⟩:=aX.1 ha;obtain⟨b1,b2⟩:=aX.1 hb;have self:∀z:List Int,ka z z≠1:=fun z q=>by have:=Bh z z; omega
   have e:x=y:=by
    rcases aK.1 ((h x).1 cH) with q|q
    ·exact q
    ·rcases aK.1 ((h y).2 cH) with q2|q2
     ·exact q2.symm
     ·have:=a1 y q2;have:=b1 x q;have:=Bh x y;omega
   subst e
   rw[Nw a2 b2 fun z=>by
    constructor
    ·intro hz;rcases aK.1 ((h z).1 (dh _ hz)) with q|q
     ·subst q; exact absurd (a1 z hz) (self z)
     ·exact q
    ·intro hz;rcases aK.1 ((h z).2 (dh _ hz)) with q|q
     ·subst q; exact absurd (b1 z hz) (self z)
     ·exact q]
theorem aaE:py N E N 0 []=mcl N E:=Nw (DD h N 0 [] (by omega) ⟨dR,by simp,dR⟩ (by simp)) Dt fun x=>by rw[xg h,Q7 h]
theorem ag0 (m:Nat) (hm:∀e∈E,e.1<(m:Int)/\e.2<(m:Int)):(mcl N E).length<=N+2 ^ m:=by
 let R:List Int:=(cQ m).map fun i=>((i:Nat):Int)
 let Q:List (List Int):=((cQ N).map fun i=>[((i:Nat):Int)])++PY R []
 have lQ:Q.length<=N+2 ^ m:=by
  have:=tN R [];have lr:R.length=m:=by simp[R]
  rw[lr] at this;simp only[Q,bV,List.length_map,List.length_range];omega
 refine Nat.le_trans (FZ OS fun S hS=>?_) lQ;obtain⟨hC,kj,hx⟩:=(Q7 h).1 hS
 have up:Up R:=by
  show ((cQ m).map fun i=>((i:Nat):Int)).Pairwise _;rw[List.pairwise_map];exact List.pairwise_lt_range.imp fun h=>by omega
 by_cases q:∃x,S=[x]
 ·obtain⟨x,rfl⟩:=q;have b:=hC.bd x (by simp);refine aG.2 (.inl (gO.2 ⟨x.toNat,eP.2 (by omega),?_⟩));rw[show ((x.toNat:Nat):Int)=x by omega]
 ·refine aG.2 (.inr (Ji.2 ⟨S,kj,uW hC.up up fun x hxS=>?_,rfl⟩));have b:=hC.bd x hxS
  have two:∃y∈S,y≠x:=by
   apply ep;intro k;apply q;have all:∀y∈S,y=x:=fun y hy=>ep fun z=>k ⟨y,hy,z⟩;cases S with
   |nil=>exact absurd rfl kj
   |cons a r=>
     cases r with
     |nil=>exact⟨a,rfl⟩
     |cons c r=>
       have u:=hC.up;unfold Up at u;have:=(aX.1 u).1 c cH;have:=all a (by simp);have:=all c (by simp);omega
  obtain⟨y,hy,hyx⟩:=two
  have j:jn E x y\/jn E y x:=by
   have ad:=hC.ad;rcases XW.1 hxS with⟨i,hi,ei⟩;rcases XW.1 hy with⟨k,hk,ek⟩;rw[List.pairwise_iff_getElem] at ad;by_cases z:i<k
   ·left; have:=ad i k hi hk z; rwa [ei,ek] at this
   ·right
    have zk:k<i:=by
     have:i≠k:=fun e=>hyx (by subst e; exact ek.symm.trans ei);omega
    have:=ad k i hk hi zk
    rwa [ei,ek] at this
  have lt:x<(m:Int):=by
   rcases j with (j|j)|(j|j)
   ·exact (hm _ j).1
   ·exact (hm _ j).2
   ·exact (hm _ j).2
   ·exact (hm _ j).1
  refine gO.2 ⟨x.toNat,eP.2 (by omega),by omega⟩
end
end Go.BmP
