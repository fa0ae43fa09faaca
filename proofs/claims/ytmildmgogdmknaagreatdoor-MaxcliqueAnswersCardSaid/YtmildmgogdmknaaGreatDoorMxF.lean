/- The first largest clique, node by node. -/
import Derived.Test.YtmildmgogdmknaaGreatDoorMxK
set_option linter.unusedSimpArgs false
set_option linter.unusedVariables false
open Bool renaming and_eq_true → ae
open Classical renaming byContradiction → ep
open Int renaming toNat_natCast → kc
open List renaming mem_append → aG, mem_singleton → cG
open Nat renaming testBit_and → cm
namespace Go.BmP
open Go.Am Go.Bm
structure Bst (A:List Nat) (m0:Nat) (O:List Nat) (m left w:Nat):Prop where
 kq:Kq A O
 inb:FB m0 O
 sub:∀y,m.testBit y=true->m0.testBit y=true
 up:∀x∈O,∀y,m.testBit y=true->x<y/\(A.getD x 0).testBit y=true
 ex:∃S,Kq A S/\FB m S/\S.length=left
 len:O.length+left=w
 fst:∀T,Kq A T->FB m0 T->T.length=w->(∃P a b T' O',T=P++a::T'/\O=P++b::O'/\b<a)\/∃ R,T=O++R/\FB m R
theorem ab3 {A:List Nat} {m0:Nat} {r:Int} (h:Rg A 0 m0 0 r):∃w:Nat,r=w/\Bst A m0 [] m0 w w/\∀ S,Kq A S->FB m0 S->S.length<=w:=by
 obtain⟨h1,h2,h3⟩:=h;obtain⟨w,rfl⟩:∃w:Nat,r=w:=⟨r.toNat,by omega⟩;refine⟨w,rfl,⟨.nil,fun x hx=>by simp at hx,fun _ h=>h,fun x hx=>by simp at hx,?_,by simp,fun T _ hI _=>.inr ⟨T,rfl,hI⟩⟩,fun S hK hI=>by have:=h2 S hK hI; omega⟩;rcases h3 with h|⟨S,k1,k2,k3⟩
 ·exact⟨[],.nil,fun x hx=>by simp at hx,by simp; omega⟩
 ·exact⟨S,k1,k2,by omega⟩
def Fnd (A:List Nat) (m left mm:Nat):Prop:=(∃S,Kq A S/\FB mm S/\S.length=left)/\(∀y,mm.testBit y=true->m.testBit y=true)/\∀ S,Kq A S->FB m S->S.length=left->FB mm S
theorem Bst.fnd {A:List Nat} {m0:Nat} {O:List Nat} {m left w:Nat} (h:Bst A m0 O m left w):Fnd A m left m:=⟨h.ex,fun _ h=>h,fun _ _ h _=>h⟩
theorem Fnd.ne {A:List Nat} {m left mm:Nat} (h:Fnd A m left mm) (hl:0<left):mm≠0:=by
 obtain⟨⟨S,_,h2,h3⟩,_⟩:=h;rintro rfl;rw[UI h2] at h3;simp at h3; omega
theorem Fnd.miss {A:List Nat} {m left mm:Nat} {r:Int} (h:Fnd A m left mm) (hl:0<left) (hm:mm<18446744073709551616) (hr:Rg A 0 (wo mm (tz mm) &&& A.getD (tz mm) 0) ((left:Int)-2) r) (bD:r<(left:Int)-1):Fnd A m left (mm &&& (mm-1)):=by
 have h0:=h.ne hl;obtain⟨⟨S,h1,h2,h3⟩,h4,h5⟩:=h;obtain⟨_,_,hv⟩:=kY h0 hm;have db:=Ao h0 hm
 have key:∀S,Kq A S->FB mm S->S.length=left->FB (mm &&& (mm-1)) S:=by
  intro S h1 h2 h3;rcases Uz h0 hm h1 h2 with k|⟨T,rfl,k1,k2⟩
  ·intro x hx;have:=k x hx;rw[fW hm hv] at this;rw[db]; exact this
  ·have:=hr.2.1 T k1 k2;simp at h3;omega
 refine⟨⟨S,h1,key S h1 h2 h3,h3⟩,fun y hy=>?_,fun S k1 k2 k3=>key S k1 (h5 S k1 k2 k3) k3⟩;rw[db] at hy;simp at hy;exact h4 y hy.1
theorem Fnd.take {A:List Nat} {m0:Nat} {O:List Nat} {m left w mm:Nat} {r:Int} (b:Bst A m0 O m left w) (h:Fnd A m left mm) (hl:0<left) (hm:mm<18446744073709551616) (hr:Rg A 0 (wo mm (tz mm) &&& A.getD (tz mm) 0) ((left:Int)-2) r) (hge:(left:Int)-1<=r):Bst A m0 (O++[tz mm]) (wo mm (tz mm) &&& A.getD (tz mm) 0) (left-1) w:=by
 have h0:=h.ne hl;obtain⟨_,h4,h5⟩:=h;obtain⟨_,_,hv⟩:=kY h0 hm;obtain⟨b1,b2⟩:=ug h0 hm
 have O8:∀y,(wo mm (tz mm) &&& A.getD (tz mm) 0).testBit y=true->mm.testBit y=true/\tz mm<y/\(A.getD (tz mm) 0).testBit y=true:=by
  intro y hy;rw[cm,fW hm hv] at hy;simp only[ae,decide_eq_true_eq] at hy;obtain⟨⟨q1,q2⟩,q3⟩:=hy;refine⟨q1,?_,q3⟩;apply ep;intro k;have:=b2 y (by omega);rw[q1] at this; cases this
 refine⟨?_,fun x hx=>?_,fun y hy=>b.sub y (h4 y (O8 y hy).1),fun x hx y hy=>?_,?_,?_,fun T hK hI hT=>?_⟩
 ·refine List.pairwise_append.2 ⟨b.kq,List.pairwise_singleton _ _,fun x hx y hy=>?_⟩;simp only[cG] at hy;subst hy;exact b.up x hx _ (h4 _ b1)
 ·rcases aG.1 hx with hx|hx
  ·exact b.inb x hx
  ·simp only[cG] at hx;subst hx;exact b.sub _ (h4 _ b1)
 ·obtain⟨q1,q2,q3⟩:=O8 y hy;rcases aG.1 hx with hx|hx
  ·exact b.up x hx y (h4 y q1)
  ·simp only[cG] at hx;subst hx;exact⟨q2,q3⟩
 ·rcases hr.2.2 with k|⟨S,k1,k2,k3⟩
  ·omega
  ·refine⟨S.take (left-1),k1.sublist (List.take_sublist _ _),fun x hx=>k2 x (List.mem_of_mem_take hx),?_⟩;rw[List.length_take]; omega
 ·have:=b.len;simp; omega
 ·rcases b.fst T hK hI hT with⟨P,x,y,T',O',e1,e2,e3⟩|⟨R,rfl,hR⟩
  ·exact .inl ⟨P,x,y,T',O'++[tz mm],e1,by rw[e2]; simp,e3⟩
  ·have hlen:R.length=left:=by
    have:=b.len;simp at hT; omega
   have hKR:Kq A R:=hK.sublist (List.sublist_append_right O R);have hRm:=h5 R hKR hR hlen
   match R,hlen with
   |[],hlen=>simp at hlen; omega
   |x::R',_=>
     have hx:=hRm x (by simp)
     have hle:tz mm<=x:=by
      apply ep;intro k;have:=b2 x (by omega);rw[hx] at this; cases this
     by_cases e:tz mm=x
     ·right;refine⟨R',by rw[<-e]; simp,fun y hy=>?_⟩;have hy2:=(List.pairwise_cons.1 hKR).1 y hy;rw[cm,fW hm hv,hRm y (by simp[hy]),e,hy2.2];simp; omega
     ·exact .inl ⟨O,x,tz mm,R',[],rfl,rfl,by omega⟩
/- Two graphs beside each other. -/
/-! Two graphs beside each other -/
/- Largest cliques of a graph beside another one, and of a graph with an edge more. -/
def QS (N:Nat) (Es:List Ed) (S:List Nat):Prop:=S.Pairwise (fun (a b:Nat)=>a<b/\jn Es (a:Int) (b:Int))/\∀ x∈S,x<N
def Lgst (N:Nat) (Es:List Ed) (S:List Nat):Prop:=QS N Es S/\∀ T,QS N Es T->T.length<=S.length
/- What maxclique.Best returns: a largest clique. -/
set_option maxRecDepth 100000
set_option maxHeartbeats 8000000
def nz (l:List Nat):List Int:=l.map fun (n:Nat)=>(n:Int)
theorem k7 (l:List Nat):(nz l).length=l.length:=List.length_map _
theorem agT (l:List Nat) (v:Nat):nz (l++[v])=nz l++[(v:Int)]:=by simp[nz]
def InR (A:List Nat) (m:Nat):Prop:=m<18446744073709551616/\∀ j,m.testBit j=true->j<A.length
theorem al6 {A:List Nat} (hS:Small A) (hA:Sym A) {m0 w:Nat} {O:List Nat} {m left:Nat} (hO:O.length<=1000) (hb:Bst A m0 O m left w) (hl:0<left) (Lq:left<=1000):∀mm,InR A mm->Fnd A m left mm ->
  ∃ v rest,Bst A m0 (O++[v]) rest (left-1) w/\InR A rest/\aW aq 0 (.loop aao) ⟨[(5,.list 1 (us A)),(6,.int .u64 m),(7,.own 1 (ints (nz O))),(8,.int .i64 left),(9,.int .u64 mm)],[]⟩=some (.exit 2,⟨[(5,.list 1 (us A)),(6,.int .u64 rest),(7,.own 1 (ints (nz (O++[v])))),(8,.int .i64 left)],[]⟩):=by
 intro mm
 induction mm using Nat.strongRecOn with
 |ind mm ih=>
   intro hm hf;have h0:=hf.ne hl;have n0:¬((mm:Int)=0):=by omega
   obtain⟨hm,hr⟩:=hm;obtain⟨_,_,ht⟩:=kY h0 hm;obtain⟨tb,_⟩:=ug h0 hm;have htz:=Ja mm h0 hm;obtain⟨r1,r2,r3⟩:=acv (hr _ tb);obtain⟨s1,s2⟩:=Yc ht;have hp:=Zy ht;have hg:=jz hS (tz mm);have w1:=u64_andNot_nat mm (2 ^ tz mm) hm hp;have hwl:=X0 hm ht tb;have hw:wo mm (tz mm)<18446744073709551616:=by omega
   have w2:=u64_and_nat (wo mm (tz mm)) (A.getD (tz mm) 0) hw hg
   have wb:∀j,(wo mm (tz mm) &&& A.getD (tz mm) 0).testBit j=true->mm.testBit j=true:=fun j hj=>by
    rw[cm,fW hm ht] at hj;simp only[ae] at hj;exact hj.1.1
   have rl:wo mm (tz mm) &&& A.getD (tz mm) 0<=wo mm (tz mm):=Nat.and_le_left;obtain⟨r,g1,g2⟩:=zZ hS hA (wo mm (tz mm) &&& A.getD (tz mm) 0) (by omega) (fun j hj=>hr j (wb j hj)) ((left:Int)-2);have w3:IntKind.i64.wrap ((left:Int)-2)=left-2:=fE (by omega) (by omega);have w4:IntKind.i64.wrap ((left:Int)-1)=left-1:=fE (by omega) (by omega);have t0:(0:Int)<=(tz mm:Nat):=by omega
   have t1:((tz mm:Nat):Int)<64:=by omega
   have t2:¬(((tz mm:Nat):Int)<0):=by omega
   have lA:=dU A;unfold wo at w2;by_cases k:(left:Int)-1<=r
   ·refine⟨tz mm,_,hf.take hb hl hm g1 k,⟨by omega,fun j hj=>hr j (wb j hj)⟩,bq ?_⟩;have hL:(nz O).length+1<=4294967296:=by rw[k7]; omega
    rw[agT];unfold wo at g2 ⊢;clear ih g1 hf hb wb rl hw hwl hr tb hg hp hm hS hA;generalize nz O=P at *;generalize (mm &&& (18446744073709551615-2 ^ tz mm)) &&& A.getD (tz mm) 0=W at *;generalize (mm &&& (18446744073709551615-2 ^ tz mm))=W2 at *;generalize A.getD (tz mm) 0=q at *;generalize (2 ^ tz mm:Nat)=p at *;generalize tz mm=t at *;generalize us A=AA at *;unfold aao;simp[Cr,Cq,Cp,Co,Cn,Cm,h0,htz,r1,r2,s1,w1,w2,w3,w4,g2,k,t2,lA,hL,jx,er,cq,IntKind.bits,sQB,iQB,sQA,iQA,kc,af]
   ·have hd:=aaQ h0;have ajj:=hf.miss hl hm g1 (by omega)
    have dr:InR A (mm &&& (mm-1)):=⟨by omega,fun j hj=>by
     rw[Ao h0 hm] at hj;simp only[ae] at hj;exact hr j hj.1⟩
    obtain⟨v,rest,a1,a2,a3⟩:=ih _ hd dr ajj;refine⟨v,rest,a1,a2,(aS ?_).trans a3⟩;have d1:=decU h0 hm;have d2:=u64_and_nat mm (mm-1) hm (by omega);unfold wo at g2;clear ih g1 hf hb wb rl hw hwl hr tb hg hp hS hA a1 a2 a3 ajj dr hm hd;generalize nz O=P at *;generalize mm &&& (mm-1)=D at *;generalize mm-1=D1 at *;generalize (mm &&& (18446744073709551615-2 ^ tz mm)) &&& A.getD (tz mm) 0=W at *;generalize (mm &&& (18446744073709551615-2 ^ tz mm))=W2 at *;generalize A.getD (tz mm) 0=q at *;generalize (2 ^ tz mm:Nat)=p at *;generalize tz mm=t at *;generalize us A=AA at *;unfold aao;simp[Cr,Cq,Cp,Co,Cn,Cm,h0,htz,r1,r2,s1,w1,w2,w3,w4,g2,k,t2,lA,d1,d2,IntKind.bits,sQB,iQB,sQA,iQA,kc]
/- maxclique.Best: its outer loop, and the whole. -/
theorem aa5 {A:List Nat} (hS:Small A) (hA:Sym A) {m0 w:Nat}:∀(left:Nat) (O:List Nat) (m:Nat),Bst A m0 O m left w->InR A m->O.length+left<=1000 ->
  ∃ O' m',Bst A m0 O' m' 0 w/\aW aq 0 (.loop aan) ⟨[(5,.list 1 (us A)),(6,.int .u64 m),(7,.own 1 (ints (nz O))),(8,.int .i64 left)],[]⟩=some (.exit 0,⟨[(5,.list 1 (us A)),(6,.int .u64 m'),(7,.own 1 (ints (nz O'))),(8,.int .i64 (0:Nat)),(27,.bool false)],[]⟩)
 |0,O,m,hb,hm,hl=>by
   refine⟨O,m,hb,bq ?_⟩;generalize us A=AA at *;unfold aan;simp[Jw,Jv,Cl]
 |left+1,O,m,hb,hm,hl=>by
   obtain⟨v,rest,a1,a2,a3⟩:=al6 hS hA (by omega) hb (Nat.succ_pos left) (by omega) m hm hb.fnd;obtain⟨O',m',b1,b2⟩:=aa5 hS hA left (O++[v]) rest a1 a2 (by simp; omega);refine⟨O',m',b1,(aS ?_).trans b2⟩;have p0:(0:Int)<((left+1:Nat):Int):=by omega
   have w1:IntKind.i64.wrap (((left+1:Nat):Int)-1)=left:=by rw[fE (by omega) (by omega)]; omega
   clear b2 a1 hb a2;generalize ((left+1:Nat):Int)=L at *;generalize nz (O++[v])=P2 at *;generalize nz O=P at *;generalize us A=AA at *;unfold aan;simp[Jw,Jv,Cl,p0,w1,a3]
theorem EE (n:Nat) (j:Nat):(2 ^ n-1).testBit j=decide (j<n):=Nat.testBit_two_pow_sub_one n j
theorem aba {N:Nat} {Es:List Ed} (h:jh (N:Int) Es):Sym (dn N Es):=fun a b=>by
 rw[(jO h).2.2,(jO h).2.2,Bool.or_comm]
theorem Uy {N:Nat} {Es:List Ed} (h:jh (N:Int) Es) (S:List Nat):(Kq (dn N Es) S/\FB (2 ^ N-1) S) ↔ QS N Es S:=by
 have e:∀a b:Nat,((dn N Es).getD a 0).testBit b=true ↔ jn Es (a:Int) (b:Int):=fun a b=>by
  rw[(jO h).2.2,Bool.or_eq_true,decide_eq_true_eq,decide_eq_true_eq];rfl
 unfold Kq FB QS;constructor
 ·rintro⟨h1,h2⟩;exact⟨h1.imp fun{a b} k=>⟨k.1,(e a b).1 k.2⟩,fun x hx=>by have:=h2 x hx; rw[EE] at this; simpa using this⟩
 ·rintro⟨h1,h2⟩;exact⟨h1.imp fun{a b} k=>⟨k.1,(e a b).2 k.2⟩,fun x hx=>by rw[EE]; simpa using h2 x hx⟩
def Fst (N:Nat) (Es:List Ed) (O:List Nat):Prop:=∀T,QS N Es T->T.length=O.length->T=O\/∃ P a b T' O',T=P++a::T'/\O=P++b::O'/\b<a
theorem ab7 {N:Nat} {Es:List Ed} (h:jh (N:Int) Es) (hN:N<=64) (hE:Es.length<1000000):∃O,(Lgst N Es O/\Fst N Es O)/\bp aq WU [.agg [.int .i64 N,.list 2 (bU Es)]] []=some (.dJ [.list 1 (ints (nz O)),.int .i64 0],[]):=by
 have ck:=im (N:Int) Es (by omega);rw[eB.2 h] at ck;have mk:=OT h (by omega);obtain⟨eN,hS,_⟩:=jO h;have hA:=aba h;have hp:=adL (v:=N) (by omega);have IL:0<2 ^ N:=Nat.two_pow_pos N;have ir:InR (dn N Es) (2 ^ N-1):=⟨by omega,fun j hj=>by rw[EE] at hj; rw[eN]; simpa using hj⟩;obtain⟨r,g1,g2⟩:=zZ hS hA (2 ^ N-1) ir.1 ir.2 0;obtain⟨w,rfl,hb,hmax⟩:=ab3 g1
 have hw:w<=64:=by
  obtain⟨S,k1,k2,k3⟩:=hb.ex;have:=Rr ir.1 k1 k2;have e2:((List.range 64).filter fun j=>(2 ^ N-1).testBit j).length=lI (2 ^ N-1):=rfl;have:=FV (2 ^ N-1);omega
 obtain⟨O,m',c1,c2⟩:=aa5 hS hA w [] (2 ^ N-1) hb ir (by simp; omega);refine⟨O,⟨⟨(Uy h O).1 ⟨c1.kq,c1.inb⟩,fun T hT=>?_⟩,fun T hT hl=>?_⟩,?_⟩
 ·obtain⟨t1,t2⟩:=(Uy h T).2 hT;have:=hmax T t1 t2;have:=c1.len;omega
 ·obtain⟨t1,t2⟩:=(Uy h T).2 hT;have ln:=c1.len;rcases c1.fst T t1 t2 (by omega) with k|⟨R,rfl,_⟩
  ·exact .inr k
  ·left;have:R=[]:=by simpa using hl
   rw[this,List.append_nil]
 ·obtain⟨M2,s1,s2,s3,d1⟩:=Yd (v:=N) (by omega);have tk:=List.take_length (l:=ints (nz O));rw[af] at tk;have nn:¬(N:Int)<0:=by omega
  have n0:(0:Int)<=N:=by omega
  have n6:N<=64:=by omega
  have nL:(nz O).length<=4294967296:=by
   have:=c1.len;rw[k7]; omega
  rw[pM sQh (Nat.le_of_ble_eq_true rfl)];unfold qQh cQh;rw[show nz []=[] from rfl,c8,fi] at c2;clear hb hmax g1 c1 hS hA eN ir IL h;generalize nz O=P at *;generalize (2 ^ N-1:Nat)=M at *;generalize us (dn N Es)=AA at *;simp[JE,JD,JC,JB,JA,Jz,Jy,Jx,Ck,ck,mk,g2,c2,s3,d1,tk,nn,n6,IntKind.bits,dP,pl,Mw,O7,sQz,iQz,sQA,iQA,kc,aO,af,bk,bf]
end Go.BmP
