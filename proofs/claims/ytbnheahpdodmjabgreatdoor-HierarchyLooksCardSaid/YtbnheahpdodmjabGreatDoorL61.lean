/- Bipartite graphs as bits: plain facts. -/
import Derived.Test.YtbnheahpdodmjabGreatDoorUseM
set_option linter.unusedVariables false
set_option linter.unusedSimpArgs false
open Bool renaming eq_iff_iff → vJ
open List renaming getD_eq_getElem?_getD → aG, mem_append → aI, replicate → bh, take_length → fk
open Nat renaming le_of_ble_eq_true → au, or_lt_two_pow → BU, testBit_or → jd, testBit_two_pow → xR
open Option renaming getD_some → eJ
namespace Go.Bm
open Go.Am
def us (l:List Nat):List AV:=l.map fun n=>.int .u64 ((n:Nat):Int)
theorem gL (l:List Nat):(us l).length=l.length:=List.length_map _
theorem QM (l:List Nat) (i:Nat):(us l)[i]?=(l[i]?).map (fun n=>.int .u64 ((n:Nat):Int)):=List.getElem?_map
theorem WJ (l:List Nat) (i n:Nat):(us l).set i (.int .u64 (n:Int))=us (l.set i n):=by simp[us,List.map_set]
theorem akT (n:Nat):bh n (AV.int .u64 0)=us (bh n 0):=by simp[us]
theorem ahv (l:List Nat) (n:Nat):(us l).take n=us (l.take n):=by simp[us]
def Small (A:List Nat):Prop:=∀x∈A,x<18446744073709551616
theorem EA {v:Int} (h:v<64) (h0:0<=v):2 ^ v.toNat<18446744073709551616:=by
 have:=Nat.pow_lt_pow_right (a:=2) (by decide) (show v.toNat<64 by omega);exact this
def adF (A:List Nat) (e:Ed):List Nat:=
 (A.set e.1.toNat (A.getD e.1.toNat 0 ||| 2 ^ e.2.toNat)).set e.2.toNat ((A.set e.1.toNat (A.getD e.1.toNat 0 ||| 2 ^ e.2.toNat)).getD e.2.toNat 0 ||| 2 ^ e.1.toNat)
theorem Np (A:List Nat) (e:Ed):(adF A e).length=A.length:=by simp[adF]
theorem xF {A:List Nat} (h:Small A) (i:Nat):A.getD i 0<18446744073709551616:=by
 rw[aG];cases e:A[i]? with
 |none=>simp
 |some x=>exact h x (List.mem_of_getElem? e)
theorem FJ {A:List Nat} (h:Small A) {i n:Nat} (hn:n<18446744073709551616):Small (A.set i n):=by
 intro x hx;rcases List.mem_or_eq_of_mem_set hx with h1|h1
 ·exact h x h1
 ·omega
theorem QA {A:List Nat} (h:Small A) {e:Ed} (h1:0<=e.1/\e.1<64) (h2:0<=e.2/\e.2<64):Small (adF A e):=by
 have s1:Small (A.set e.1.toNat (A.getD e.1.toNat 0 ||| 2 ^ e.2.toNat)):=FJ h (BU (n:=64) (xF h _) (EA h2.2 h2.1));exact FJ s1 (BU (n:=64) (xF s1 _) (EA h1.2 h1.1))
theorem ajQ {A:List Nat} {e:Ed} (h1:0<=e.1/\e.1.toNat<A.length) (h2:0<=e.2/\e.2.toNat<A.length) (qF:e.1≠e.2) (a b:Nat):((adF A e).getD a 0).testBit b=((A.getD a 0).testBit b||(decide ((a:Int)=e.1/\(b:Int)=e.2)||decide ((a:Int)=e.2/\(b:Int)=e.1))):=by
 have hn:e.1.toNat≠e.2.toNat:=by omega
 unfold adF;simp only[aG,List.getElem?_set,List.length_set,if_neg hn,if_neg (Ne.symm hn)];by_cases ha:e.2.toNat=a
 ·subst ha;rw[if_pos rfl,if_pos h2.2];simp only[eJ,jd,xR];congr 1;have e1:¬((e.2.toNat:Int)=e.1):=by omega
  have e2:((e.2.toNat:Int)=e.2):=by omega
  have e3:¬(e.2=e.1):=fun k=>qF k.symm;simp only[e1,e2,e3,false_and,true_and,decide_false,Bool.false_or];rw[vJ,decide_eq_true_eq,decide_eq_true_eq]; omega
 ·rw[if_neg ha];have e2:¬((a:Int)=e.2):=by omega
  by_cases hb:e.1.toNat=a
  ·subst hb;rw[if_pos rfl,if_pos h1.2];simp only[eJ,jd,xR];congr 1;have e1:((e.1.toNat:Int)=e.1):=by omega
   have e3:¬(e.1=e.2):=qF;simp only[e1,e2,e3,false_and,true_and,decide_false,Bool.or_false];rw[vJ,decide_eq_true_eq,decide_eq_true_eq];omega
  ·rw[if_neg hb];have e1:¬((a:Int)=e.1):=by omega
   simp[e1,e2]
def AM (l:List Ed) (A:List Nat):List Nat:=l.foldl adF A
theorem Nl (N:Nat) (hN:N<=64):∀(l:List Ed) (A:List Nat),A.length=N->Small A->(∀e∈l,0<=e.1/\e.1<e.2/\e.2<(N:Int))->(AM l A).length=N/\Small (AM l A)/\∀ a b:Nat,((AM l A).getD a 0).testBit b=((A.getD a 0).testBit b||(decide (((a:Int),(b:Int))∈l)||decide (((b:Int),(a:Int))∈l)))
 |[],A,hl,hs,_=>⟨hl,hs,fun a b=>by simp[AM]⟩
 |e::r,A,hl,hs,h=>by
   have he:=h e (by simp);obtain⟨i1,i2,i3⟩:=Nl N hN r (adF A e) (by rw[Np]; exact hl) (QA hs (by omega) (by omega)) (fun x hx=>h x (by simp[hx]));refine⟨i1,i2,fun a b=>?_⟩;show ((AM r (adF A e)).getD a 0).testBit b=_;rw[i3,ajQ (by omega) (by omega) (by omega)];rw[vJ];simp only[Bool.or_eq_true,decide_eq_true_eq,List.mem_cons,Prod.ext_iff];constructor
   ·rintro ((h|(h|h))|(h|h))
    ·exact .inl h
    ·exact .inr (.inl (.inl h))
    ·exact .inr (.inr (.inl ⟨h.2,h.1⟩))
    ·exact .inr (.inl (.inr h))
    ·exact .inr (.inr (.inr h))
   ·rintro (h|((h|h)|(h|h)))
    ·exact .inl (.inl h)
    ·exact .inl (.inr (.inl h))
    ·exact .inr (.inl h)
    ·exact .inl (.inr (.inr ⟨h.2,h.1⟩))
    ·exact .inr (.inr h)
structure BOK (N:Nat) (E:List Ed) (L:List Int):Prop where
 n:N<=64
 e:UpE E/\∀ e∈E,0<=e.1/\e.1<e.2/\e.2<(N:Int)
 l:Up L/\∀ x∈L,0<=x/\x<(N:Int)
 s:∀e∈E,e.1∈L ↔ ¬e.2∈L
def jn (E:List Ed) (a b:Int):Prop:=(a,b)∈E\/(b,a)∈E
instance (E:List Ed) (a b:Int):Decidable (jn E a b):=by unfold jn; infer_instance
def eK (N:Nat) (E:List Ed):List Nat:=AM E (bh N 0)
end Go.Bm
/- What functions of cohesionmake return: Few, New, Mod, Next, Set. -/
set_option maxRecDepth 100000
set_option maxHeartbeats 4000000
namespace Go.BmP
open Go.Am Go.Bm
theorem nle1 (n:Nat):(n+1<=n) ↔ False:=⟨fun h=>by omega,False.elim⟩
def dk (l:List Int) (at_:Nat):Wy:=some [.list 1 (ints l),.int .i64 at_]
theorem ais (l:List Int):bJ aq nQc [.list 1 (ints l)] []=some (.ptr 0 0,[dk l 0]):=by
 rw[dZ sQc (au rfl)];unfold qQc cQc dk;simp[aki,akh,eR,fW,gK,dp,cW,jC,aH,aN,bI,cV,dY,aM,aR,aK,ah,aQ,bu,bL,bC]
theorem aiz (x k:Int) (h0:0<k) (h1:k<4611686018427387904):(IntKind.i64.wrap (x.tmod k+k)).tmod k=x%k:=by
 have e:x%k=(x.tmod k)%k:=by
  have:=Int.mul_tdiv_add_tmod x k
  conv=>lhs; rw[<-this]
  rw[Int.add_comm,Int.add_mul_emod_self_left]
 have h2:=Int.tmod_lt_of_pos x h0
 have h3:-k<x.tmod k:=by
  have:=Int.tmod_lt_of_pos (-x) h0;rw[Int.neg_tmod] at this;omega
 rw[qD (by omega) (by omega),Int.tmod_eq_emod_of_nonneg (by omega),e,Int.add_emod_right]
theorem afP (x k:Int) (h0:0<k) (h1:k<4611686018427387904):bJ aq nQz [.int .i64 x,.int .i64 k] []=some (.int .i64 (x%k),[]):=by
 rw[dZ sQz (au rfl),<-aiz x k h0 h1];have hk:¬k=0:=by omega
 unfold qQz cQz;simp[ajY,ajX,hk,aH,aN,bI,cV,dY,aM,aR,aK,ah,aQ,bu,bL,bC]
def Lw (l:List Int) (a:Nat) (n:Int):Int:=if n<1 then 0 else if l.length<=a then 0 else l.getD a 0%n
def tx (l:List Int) (a:Nat) (n:Int):Nat:=if n<1 then a else if l.length<=a then a else a+1
theorem Rk (l:List Int) (a:Nat) {n:Int} (h:1<=n):0<=Lw l a n/\Lw l a n<n:=by
 unfold Lw;rw[if_neg (by omega)];split
 ·omega
 ·exact⟨Int.emod_nonneg _ (by omega),Int.emod_lt_of_pos _ (by omega)⟩
def Rest (R:Heap):Prop:=(∀g,gK g R=R)/\fx R=true/\(∀p b,borH p b R=none)/\(∀f,Nd f R=false)/\∀ p b,u5 p b R=[]
theorem ac5 (l:List Int) (hl:l.length<=9223372036854775807) (a:Nat) (n:Int) (hn:n<4611686018427387904) (R:Heap) (hR:Rest R):bJ aq Nx [.ptr 0 0,.int .i64 n] (dk l a::R)=some (.int .i64 (Lw l a n),dk l (tx l a n)::R):=by
 obtain⟨r1,r2,r3,r4,r5⟩:=hR;rw[dZ sQf (au rfl)];unfold qQf cQf Lw tx dk;by_cases h0:n<1
 ·simp[ZV,ZU,ZT,ZS,ZR,ZQ,h0,eR,fW,jC,r1,r2,r3,r4,r5,nle1,aH,aN,bI,cV,dY,aM,aR,aK,ah,aQ,bu,bL,bC]
 ·have h0':¬n<1:=h0;by_cases h1:l.length<=a
  ·have h1':(l.length:Int)<=a:=by omega
   simp[ZV,ZU,ZT,ZS,ZR,ZQ,h0,h1,h1',eR,fW,jC,r1,r2,r3,r4,r5,nle1,aH,aN,bI,cV,dY,aM,aR,aK,ah,aQ,bu,bL,bC]
  ·have h1':¬(l.length:Int)<=a:=by omega
   have h2:a<l.length:=by omega
   have N7:(a:Int)<l.length:=by omega
   have hw:=dA (i:=a) (by omega);have hm:=afP l[a] n (by omega) hn;simp[ZV,ZU,ZT,ZS,ZR,ZQ,h0,h1,h1',h2,N7,hw,hm,idx,sQz,iQz,eR,fW,jC,r1,r2,r3,r4,r5,nle1,aH,aN,bI,cV,dY,aM,aR,aK,ah,aQ,bu,bL,bC]
theorem pE (l:List Int) (hl:l.length<=9223372036854775807) (a:Nat) (n:Int) (hn:n<4611686018427387904) (R:Heap) (hR:Rest R):bJ aq Nx [.ptr 0 0,.int .i64 n] [dk l a]=some (.int .i64 (Lw l a n),[dk l (tx l a n)]):=ac5 l hl a n hn [] ⟨fun _=>rfl,rfl,fun _ _=>rfl,fun _=>rfl,fun _ _=>rfl⟩
/- What mk.Graph returns: a graph that is in order. -/
theorem Ji (l:List Ed) (x:Ed):(l++[x]).take (l.length+1)=l++[x]:=List.take_of_length_le (by simp)
def IVG (N:Nat) (o:List Ed) (u v:Nat):Prop:=UpE o/\(∀e∈o,0<=e.1/\e.1<e.2/\e.2<(N:Int))/\(∀e∈o,e.1<(u:Int)\/e.1=(u:Int)/\e.2<(v:Int))/\o.length<=u*64+v
theorem aga {N:Nat} {o:List Ed} {u v:Nat} (h:IVG N o u v):IVG N o u (v+1):=
 ⟨h.1,h.2.1,fun e he=>by have:=h.2.2.1 e he; omega,by have:=h.2.2.2; omega⟩
theorem aiN {N:Nat} {o:List Ed} {u v:Nat} (h:IVG N o u v) (huv:u<v) (hv:v<N):IVG N (o++[((u:Int),(v:Int))]) u (v+1):=by
 obtain⟨h1,h2,h3,h4⟩:=h;refine⟨?_,fun e he=>?_,fun e he=>?_,by simp; omega⟩
 ·unfold UpE;rw[List.pairwise_append];refine⟨h1,by simp,fun x hx y hy=>?_⟩;simp at hy;subst hy;have:=h3 x hx;unfold LR;simp only;omega
 ·rcases aI.1 he with he|he
  ·exact h2 e he
  ·simp at he; subst he; exact⟨by simp,by simpa using huv,by simpa using hv⟩
 ·rcases aI.1 he with he|he
  ·have:=h3 e he; omega
  ·simp at he; subst he; simp; omega
def gZ:Wy:=some [.int .i64 0,.own 2 []]
def gB (N:Int) (o:List Ed):Wy:=some [.int .i64 N,.own 2 (fe o)]
theorem QV (N:Int) (o:List Ed):Rest [gZ,gB N o]:=⟨fun _=>rfl,rfl,fun _ _=>rfl,fun _=>rfl,fun _ _=>rfl⟩
theorem ak0:Rest [gZ]:=⟨fun _=>rfl,rfl,fun _ _=>rfl,fun _=>rfl,fun _ _=>rfl⟩
def N9 (l:List Int) (a N:Nat) (D:Int) (u v:Nat) (o:List Ed) (J:Env):St:=⟨(0,.ptr 0 0)::(4,.ptr 1 0)::(5,.ptr 2 0)::(6,.int .i64 D)::(7,.int .i64 u)::(8,.int .i64 v)::J,[dk l a,gZ,gB N o]⟩
theorem aiX (l:List Int) (hl:l.length<=9223372036854775807) (N:Nat) (hN:N<=64) (D:Int) (hD:0<=D/\D<=5) (u v a:Nat) (o:List Ed) (huv:u<v) (hv:v<N) (ho:o.length<=100000):∃a',aW aq 1 L3 (N9 l a N D u v o [])=some (.normal,N9 l a' N D u (v+1) o [])\/aW aq 1 L3 (N9 l a N D u v o [])=some (.normal,N9 l a' N D u (v+1) (o++[((u:Int),(v:Int))]) []):=by
 have h1:(v:Int)<N:=by omega
 have hw:=dA (i:=v) (by omega);have hL:o.length+1<=4294967296:=by omega
 have hx:=pE l hl a 5 (by omega) [gZ,gB N o] (QV N o);have w5:IntKind.i64.wrap (5-D)=5-D:=qD (by omega) (by omega);simp only[dk,gZ,gB] at hx;by_cases hd:5-D<=Lw l a 5
 ·refine⟨tx l a 5,.inr ?_⟩;unfold L3 N9 dk gZ gB;simp[Hu,Hs,Hr,Hp,Ho,Hn,Hm,Hk,Hj,Hi,zD,zC,zB,zA,h1,hw,hd,hL,hx,w5,ks,Qf,Fl,Ji,sQf,iQf,fW,dm,fx,cN,jD,dn,de,D8,xD,jU,jj,aH,aN,bI,cV,dY,aM,aR,aK,ah,aQ,bu,bL,bC]
 ·refine⟨tx l a 5,.inl ?_⟩;unfold L3 N9 dk gZ gB;simp[Hu,Hs,Hr,Hp,Ho,Hn,Hm,Hk,Hj,Hi,zD,zC,zB,zA,h1,hw,hd,hx,w5,sQf,iQf,fW,dm,fx,cN,jD,dn,de,aH,aN,bI,cV,dY,aM,aR,aK,ah,aQ,bu,bL,bC]
theorem g_in (l:List Int) (hl:l.length<=9223372036854775807) (N:Nat) (hN:N<=64) (D:Int) (hD:0<=D/\D<=5) (u:Nat):∀(k v a:Nat) (o:List Ed),v+k=N->u<v->IVG N o u v->∃a' o',aW aq 1 (.loop L3) (N9 l a N D u v o [])=some (.exit 2,N9 l a' N D u N o' [(41,.bool false)])/\IVG N o' u N
 |0,v,a,o,hi,huv,hI=>by
   obtain rfl:v=N:=by omega
   refine⟨a,o,bn ?_,hI⟩;unfold L3 N9 dk gZ gB;simp[Hu,Hs,Hr,Hp,Ho,Hn,Hm,Hk,Hj,Hi,zD,zC,zB,zA,aH,aN,bI,cV,dY,aM,aR,aK,ah,aQ,bu,bL,bC]
 |k+1,v,a,o,hi,huv,hI=>by
   have hlen:=hI.2.2.2;obtain⟨a1,e|e⟩:=aiX l hl N hN D hD u v a o huv (by omega) (by omega)
   ·obtain⟨a',o',e2,hI2⟩:=g_in l hl N hN D hD u k (v+1) a1 o (by omega) (by omega) (aga hI);exact⟨a',o',(aS e).trans e2,hI2⟩
   ·obtain⟨a',o',e2,hI2⟩:=g_in l hl N hN D hD u k (v+1) a1 _ (by omega) (by omega) (aiN hI huv (by omega));exact⟨a',o',(aS e).trans e2,hI2⟩
def VA (l:List Int) (a N:Nat) (D:Int) (u:Nat) (o:List Ed) (J:Env):St:=⟨(0,.ptr 0 0)::(4,.ptr 1 0)::(5,.ptr 2 0)::(6,.int .i64 D)::(7,.int .i64 u)::J,[dk l a,gZ,gB N o]⟩
theorem akF (l:List Int) (hl:l.length<=9223372036854775807) (N:Nat) (hN:N<=64) (D:Int) (hD:0<=D/\D<=5):∀(k u a:Nat) (o:List Ed),u+k=N->IVG N o u 0->∃a' o',aW aq 1 (.loop UH) (VA l a N D u o [])=some (.exit 0,VA l a' N D N o' [(33,.bool false)])/\IVG N o' N 0
 |0,u,a,o,hi,hI=>by
   obtain rfl:u=N:=by omega
   refine⟨a,o,bn ?_,hI⟩;unfold UH VA dk gZ gB;simp[Hu,Hs,Hr,Hp,Ho,Hn,Hm,Hk,Hj,Hi,zD,zC,zB,zA,aH,aN,bI,cV,dY,aM,aR,aK,ah,aQ,bu,bL,bC]
 |k+1,u,a,o,hi,hI=>by
   have h1:(u:Int)<N:=by omega
   have hw:=dA (i:=u) (by omega);have hI1:IVG N o u (u+1):=⟨hI.1,hI.2.1,fun e he=>by have:=hI.2.2.1 e he; have:=(hI.2.1 e he).1; omega,by have:=hI.2.2.2; omega⟩;obtain⟨a1,o1,e1,hI2⟩:=g_in l hl N hN D hD u (N-(u+1)) (u+1) a o (by omega) (by omega) hI1;have hI3:IVG N o1 (u+1) 0:=⟨hI2.1,hI2.2.1,fun e he=>by have:=hI2.2.2.1 e he; omega,by have:=hI2.2.2.2; omega⟩;obtain⟨a',o',e2,hI4⟩:=akF l hl N hN D hD k (u+1) a1 o1 (by omega) hI3;refine⟨a',o',(aS ?_).trans e2,hI4⟩;unfold N9 dk gZ gB at e1;rw[show ((u+1:Nat):Int)=(u:Int)+1 from rfl] at e1;unfold UH VA dk gZ gB;simp[Hu,Hs,Hr,Hp,Ho,Hn,Hm,Hk,Hj,Hi,zD,zC,zB,zA,h1,hw,e1,aH,aN,bI,cV,dY,aM,aR,aK,ah,aQ,bu,bL,bC]
theorem PY (l:List Int) (hl:l.length<=9223372036854775807) (most:Nat) (hm:most<=60) (a:Nat):∃N Es a',bJ aq nQe [.ptr 0 0,.int .i64 most] [dk l a]=some (.agg [.int .i64 (N:Nat),.list 2 (fe Es)],[dk l a'])/\uQ (N:Int) Es/\N<=most/\Es.length<=10000:=by
 have n1:=pE l hl a ((most:Int)+1) (by omega) [gZ] ak0;obtain⟨b0,b1⟩:=Rk l a (n:=(most:Int)+1) (by omega);have wm:=dA (i:=most) (by omega)
 -- the number of nodes, drawn once or twice
 obtain⟨n0,hn0⟩:∃n0:Nat,Lw l a ((most:Int)+1)=(n0:Int):=⟨(Lw l a ((most:Int)+1)).toNat,by omega⟩;rw[hn0] at n1 b1
 have key:∀(N a2:Nat),N<=most->∃Es a',(∃D:Int,(0<=D/\D<=5)/\Lw l a2 4+1=D)/\aW aq 1 (.loop UH) (VA l (tx l a2 4) N (Lw l a2 4+1) 0 [] [])=some (.exit 0,VA l a' N (Lw l a2 4+1) N Es [(33,.bool false)])/\IVG N Es N 0:=by
  intro N a2 hN;obtain⟨c0,c1⟩:=Rk l a2 (n:=4) (by omega);obtain⟨a',Es,e,hI⟩:=akF l hl N (by omega) (Lw l a2 4+1) (by omega) N 0 (tx l a2 4) [] (by omega) ⟨by simp[UpE],by simp,by simp,by simp⟩;exact⟨Es,a',⟨_,by omega,rfl⟩,e,hI⟩
 have fin:∀(N:Nat) (Es:List Ed),N<=most->IVG N Es N 0->uQ (N:Int) Es/\N<=most/\Es.length<=10000:=fun N Es hN hI=>⟨⟨by omega,hI.1,hI.2.1⟩,hN,by have:=hI.2.2.2; omega⟩;by_cases h4:n0<4
 ·-- a second draw
  have h4':(n0:Int)<4:=by omega
  have n2:=pE l hl (tx l a ((most:Int)+1)) ((most:Int)+1) (by omega) [gZ,gB n0 []] (QV n0 []);obtain⟨d0,d1⟩:=Rk l (tx l a ((most:Int)+1)) (n:=(most:Int)+1) (by omega);obtain⟨m0,hm0⟩:∃m0:Nat,Lw l (tx l a ((most:Int)+1)) ((most:Int)+1)=(m0:Int):=⟨(Lw l (tx l a ((most:Int)+1)) ((most:Int)+1)).toNat,by omega⟩;rw[hm0] at n2 d1
  obtain⟨N,hN,eN⟩:∃N:Nat,N<=most/\(if (n0:Int)+m0<most then (n0:Int)+m0 else (most:Int))=N:=by
   by_cases q:(n0:Int)+m0<most
   ·exact⟨n0+m0,by omega,by rw[if_pos q]; omega⟩
   ·exact⟨most,by omega,by rw[if_neg q]⟩
  have ws:IntKind.i64.wrap ((n0:Int)+m0)=(n0:Int)+m0:=qD (by omega) (by omega);have n3:=pE l hl (tx l (tx l a ((most:Int)+1)) ((most:Int)+1)) 4 (by omega) [gZ,gB N []] (QV N []);obtain⟨Es,a',⟨D,hD,eD⟩,e,hI⟩:=key N (tx l (tx l a ((most:Int)+1)) ((most:Int)+1)) hN;refine⟨N,Es,a',?_,fin N Es hN hI⟩;have wD:IntKind.i64.wrap (1+Lw l (tx l (tx l a ((most:Int)+1)) ((most:Int)+1)) 4)=D:=by rw[qD (by omega) (by omega)]; omega
  rw[eD] at e;rw[dZ sQe (au rfl)];unfold VA at e;rw[fH] at e;unfold dk gZ gB at *;rw[show fe []=[] from rfl] at *;generalize Lw l (tx l (tx l a ((most:Int)+1)) ((most:Int)+1)) 4=x4 at *;clear key hI;unfold qQe cQe;simp[Hu,Hs,Hr,Hp,Ho,Hn,Hm,Hk,Hj,Hi,zD,zC,zB,zA,n1,n2,n3,e,wm,ws,h4',eN,wD,Fl,fk,sQf,iQf,fW,dm,fx,cN,jD,jC,dn,de,bX,dB,eX,iH,dJ,iC,ke,fI,eR,D8,xD,jU,jj,aH,aN,bI,cV,dY,aM,aR,aK,ah,aQ,bu,bL,bC]
 ·have h4':¬(n0:Int)<4:=by omega
  have n3:=pE l hl (tx l a ((most:Int)+1)) 4 (by omega) [gZ,gB n0 []] (QV n0 []);obtain⟨Es,a',⟨D,hD,eD⟩,e,hI⟩:=key n0 (tx l a ((most:Int)+1)) (by omega);refine⟨n0,Es,a',?_,fin n0 Es (by omega) hI⟩;have wD:IntKind.i64.wrap (1+Lw l (tx l a ((most:Int)+1)) 4)=D:=by rw[qD (by omega) (by omega)]; omega
  rw[eD] at e;rw[dZ sQe (au rfl)];unfold VA at e;rw[fH] at e;unfold dk gZ gB at *;rw[show fe []=[] from rfl] at *;generalize Lw l (tx l a ((most:Int)+1)) 4=x4 at *;clear key hI;unfold qQe cQe;simp[Hu,Hs,Hr,Hp,Ho,Hn,Hm,Hk,Hj,Hi,zD,zC,zB,zA,n1,n3,e,wm,h4',wD,Fl,fk,sQf,iQf,fW,dm,fx,cN,jD,jC,dn,de,eR,D8,xD,jU,jj,aH,aN,bI,cV,dY,aM,aR,aK,ah,aQ,bu,bL,bC]
end Go.BmP
