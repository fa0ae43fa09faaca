/- Bipartite graphs as bits: plain facts. -/
import Derived.Test.YtmildmgogdmknaaGreatDoorUseM
set_option linter.unusedVariables false
set_option linter.unusedSimpArgs false
open Bool renaming eq_iff_iff → m8
open List renaming getD_eq_getElem?_getD → aJ, length_drop → eS, mem_append → aG, pairwise_append → bP, replicate → aH, take_length → eW, take_of_length_le → aZ
open Nat renaming le_of_ble_eq_true → ah, or_lt_two_pow → Mt
open Option renaming getD_some → iQ
namespace Go.Bm
open Go.Am
def us (l:List Nat):List AV:=l.map fun n=>.int .u64 ((n:Nat):Int)
theorem dU (l:List Nat):(us l).length=l.length:=List.length_map _
theorem sG (l:List Nat) (i:Nat):(us l)[i]?=(l[i]?).map (fun n=>.int .u64 ((n:Nat):Int)):=List.getElem?_map
theorem Cf (l:List Nat) (i n:Nat):(us l).set i (.int .u64 (n:Int))=us (l.set i n):=by simp[us,List.map_set]
theorem Wa (n:Nat):aH n (AV.int .u64 0)=us (aH n 0):=by simp[us]
theorem PT (l:List Nat) (n:Nat):(us l).take n=us (l.take n):=by simp[us]
def Small (A:List Nat):Prop:=∀x∈A,x<18446744073709551616
theorem pQ {v:Int} (h:v<64) (h0:0<=v):2 ^ v.toNat<18446744073709551616:=by
 have:=Nat.pow_lt_pow_right (a:=2) (by decide) (show v.toNat<64 by omega);exact this
def VG (A:List Nat) (e:Ed):List Nat:=
 (A.set e.1.toNat (A.getD e.1.toNat 0 ||| 2 ^ e.2.toNat)).set e.2.toNat ((A.set e.1.toNat (A.getD e.1.toNat 0 ||| 2 ^ e.2.toNat)).getD e.2.toNat 0 ||| 2 ^ e.1.toNat)
theorem xz (A:List Nat) (e:Ed):(VG A e).length=A.length:=by simp[VG]
theorem jz {A:List Nat} (h:Small A) (i:Nat):A.getD i 0<18446744073709551616:=by
 rw[aJ];cases e:A[i]? with
 |none=>simp
 |some x=>exact h x (List.mem_of_getElem? e)
theorem uX {A:List Nat} (h:Small A) {i n:Nat} (hn:n<18446744073709551616):Small (A.set i n):=by
 intro x hx;rcases List.mem_or_eq_of_mem_set hx with h1|h1
 ·exact h x h1
 ·omega
theorem Bn {A:List Nat} (h:Small A) {e:Ed} (h1:0<=e.1/\e.1<64) (h2:0<=e.2/\e.2<64):Small (VG A e):=by
 have s1:Small (A.set e.1.toNat (A.getD e.1.toNat 0 ||| 2 ^ e.2.toNat)):=uX h (Mt (n:=64) (jz h _) (pQ h2.2 h2.1));exact uX s1 (Mt (n:=64) (jz s1 _) (pQ h1.2 h1.1))
theorem aik {A:List Nat} {e:Ed} (h1:0<=e.1/\e.1.toNat<A.length) (h2:0<=e.2/\e.2.toNat<A.length) (kj:e.1≠e.2) (a b:Nat):((VG A e).getD a 0).testBit b=((A.getD a 0).testBit b||(decide ((a:Int)=e.1/\(b:Int)=e.2)||decide ((a:Int)=e.2/\(b:Int)=e.1))):=by
 have hn:e.1.toNat≠e.2.toNat:=by omega
 unfold VG;simp only[aJ,List.getElem?_set,List.length_set,if_neg hn];by_cases ha:e.2.toNat=a
 ·subst ha;rw[if_pos rfl,if_pos h2.2];simp only[iQ,Nat.testBit_or,Nat.testBit_two_pow];congr 1;have e1:¬((e.2.toNat:Int)=e.1):=by omega
  have e2:((e.2.toNat:Int)=e.2):=by omega
  have e3:¬(e.2=e.1):=fun k=>kj k.symm;simp only[e2,e3,false_and,true_and,decide_false,Bool.false_or];rw[m8,decide_eq_true_eq,decide_eq_true_eq]; omega
 ·rw[if_neg ha];have e2:¬((a:Int)=e.2):=by omega
  by_cases hb:e.1.toNat=a
  ·subst hb;rw[if_pos rfl,if_pos h1.2];simp only[iQ,Nat.testBit_or,Nat.testBit_two_pow];congr 1;have e1:((e.1.toNat:Int)=e.1):=by omega
   have e3:¬(e.1=e.2):=kj;simp only[e1,e3,false_and,true_and,decide_false,Bool.or_false];rw[m8,decide_eq_true_eq,decide_eq_true_eq];omega
  ·rw[if_neg hb];have e1:¬((a:Int)=e.1):=by omega
   simp[e1,e2]
def l8 (l:List Ed) (A:List Nat):List Nat:=l.foldl VG A
theorem DN (N:Nat) (hN:N<=64):∀(l:List Ed) (A:List Nat),A.length=N->Small A->(∀e∈l,0<=e.1/\e.1<e.2/\e.2<(N:Int))->(l8 l A).length=N/\Small (l8 l A)/\∀ a b:Nat,((l8 l A).getD a 0).testBit b=((A.getD a 0).testBit b||(decide (((a:Int),(b:Int))∈l)||decide (((b:Int),(a:Int))∈l)))
 |[],A,hl,hs,_=>⟨hl,hs,fun a b=>by simp[l8]⟩
 |e::r,A,hl,hs,h=>by
   have he:=h e (by simp);obtain⟨i1,i2,i3⟩:=DN N hN r (VG A e) (by rw[xz]; exact hl) (Bn hs (by omega) (by omega)) (fun x hx=>h x (by simp[hx]));refine⟨i1,i2,fun a b=>?_⟩;show ((l8 r (VG A e)).getD a 0).testBit b=_;rw[i3,aik (by omega) (by omega) (by omega)];rw[m8];simp only[Bool.or_eq_true,decide_eq_true_eq,List.mem_cons,Prod.ext_iff];constructor
   ·rintro ((h|(h|h))|(h|h))
    ·exact .inl h
    ·exact .inr (.inl (.inl h))
    ·exact .inr (.inr (.inl ⟨h.2,h.1⟩))
    ·exact .inr (.inl (.inr h))
    ·exact .inr (.inr (.inr h))
   ·rintro (h|((h|h)|(h|h)))
    ·exact .inl (.inl h)
    ·exact .inl (.inr (.inl h))
    ·exact .inr (.inl h)
    ·exact .inl (.inr (.inr ⟨h.2,h.1⟩))
    ·exact .inr (.inr h)
def GF (A:List Nat) (side:Nat) (l:List Int):Nat:=l.foldl (fun s v=>s &&& A.getD v.toNat 0) side
theorem Vr (A:List Nat):∀(l:List Int) (side j:Nat),(GF A side l).testBit j=(side.testBit j&&l.all fun v=>(A.getD v.toNat 0).testBit j)
 |[],side,j=>by simp[GF]
 |v::r,side,j=>by
   have ih:=Vr A r (side &&& A.getD v.toNat 0) j;unfold GF at ih ⊢;rw[List.foldl_cons,ih,Nat.testBit_and,List.all_cons,Bool.and_assoc]
theorem aaV (A:List Nat):∀(l:List Int) (side:Nat),GF A side l<=side
 |[],side=>Nat.le_refl _
 |v::r,side=>Nat.le_trans (aaV A r _) Nat.and_le_left
structure BOK (N:Nat) (E:List Ed) (L:List Int):Prop where
 n:N<=64
 e:UpE E/\∀ e∈E,0<=e.1/\e.1<e.2/\e.2<(N:Int)
 l:Up L/\∀ x∈L,0<=x/\x<(N:Int)
 s:∀e∈E,e.1∈L ↔ ¬e.2∈L
def jn (E:List Ed) (a b:Int):Prop:=(a,b)∈E\/(b,a)∈E
instance (E:List Ed) (a b:Int):Decidable (jn E a b):=by unfold jn; infer_instance
def dn (N:Nat) (E:List Ed):List Nat:=l8 E (aH N 0)
def rgt (N:Nat) (L:List Int):Nat:=(2 ^ N-1) &&& (18446744073709551615-KP L)
def cR (N:Nat) (E:List Ed) (L S:List Int):Nat:=GF (dn N E) (rgt N L) (fG (KP S))
end Go.Bm
/- What functions of cohesionmake return: Few, New, Mod, Next, Set. -/
set_option maxRecDepth 100000
set_option maxHeartbeats 4000000
namespace Go.BmP
open Go.Am Go.Bm
theorem MC (n:Nat):(n+1<=n) ↔ False:=⟨fun h=>by omega,False.elim⟩
theorem ahr (l:List Int):bp aq nQb [.list 1 (ints l)] []=some (.bool (decide ((l.length:Int)<=500)),[]):=by
 rw[pM sQb (ah rfl)];unfold qQb cQb;simp[aiB,aiA,af,bk,bf]
def dk (l:List Int) (at_:Nat):XT:=some [.list 1 (ints l),.int .i64 at_]
theorem agZ (x k:Int) (h0:0<k) (h1:k<4611686018427387904):(IntKind.i64.wrap (x.tmod k+k)).tmod k=x%k:=by
 have e:x%k=(x.tmod k)%k:=by
  have:=Int.mul_tdiv_add_tmod x k
  conv=>lhs; rw[<-this]
  rw[Int.add_comm,Int.add_mul_emod_self_left]
 have h2:=Int.tmod_lt_of_pos x h0
 have h3:-k<x.tmod k:=by
  have:=Int.tmod_lt_of_pos (-x) h0;rw[Int.neg_tmod] at this;omega
 rw[fE (by omega) (by omega),Int.tmod_eq_emod_of_nonneg (by omega),e,Int.add_emod_right]
theorem aet (x k:Int) (h0:0<k) (h1:k<4611686018427387904):bp aq nQX [.int .i64 x,.int .i64 k] []=some (.int .i64 (x%k),[]):=by
 rw[pM sQX (ah rfl),<-agZ x k h0 h1];have hk:¬k=0:=by omega
 unfold qQX cQX;simp[aiD,aiC,hk,bk,bf]
def DR (l:List Int) (a:Nat) (n:Int):Int:=if n<1 then 0 else if l.length<=a then 0 else l.getD a 0%n
def Bt (l:List Int) (a:Nat) (n:Int):Nat:=if n<1 then a else if l.length<=a then a else a+1
theorem w8 (l:List Int) (a:Nat) {n:Int} (h:1<=n):0<=DR l a n/\DR l a n<n:=by
 unfold DR;rw[if_neg (by omega)];split
 ·omega
 ·exact⟨Int.emod_nonneg _ (by omega),Int.emod_lt_of_pos _ (by omega)⟩
def Rest (R:Heap):Prop:=(∀g,fI g R=R)/\fa R=true/\(∀p b,borH p b R=none)/\(∀f,Iq f R=false)/\∀ p b,sO p b R=[]
theorem abC (l:List Int) (hl:l.length<=500) (a:Nat) (n:Int) (hn:n<4611686018427387904) (R:Heap) (hR:Rest R):bp aq KF [.ptr 0 0,.int .i64 n] (dk l a::R)=some (.int .i64 (DR l a n),dk l (Bt l a n)::R):=by
 obtain⟨r1,r2,r3,r4,r5⟩:=hR;rw[pM NA (ah rfl)];unfold qQu cQu DR Bt dk;by_cases h0:n<1
 ·simp[YL,YK,YJ,YI,YH,YG,h0,iD,fu,r1,r4,MC,bk,bf]
 ·have h0':¬n<1:=h0;by_cases h1:l.length<=a
  ·have h1':(l.length:Int)<=a:=by omega
   simp[YL,YK,YJ,YI,YH,YG,h0,h1,h1',iD,fu,r1,r4,MC,aO,af,bk,bf]
  ·have h1':¬(l.length:Int)<=a:=by omega
   have h2:a<l.length:=by omega
   have h2':(a:Int)<l.length:=by omega
   have hw:=dM (i:=a) (by omega);have hm:=aet l[a] n (by omega) hn;simp[YL,YK,YJ,YI,YH,YG,h0,h1,h1',h2,h2',hw,hm,idx,sQX,iQX,iD,fu,r1,r4,MC,aO,af,aM,bk,bf]
theorem jI (l:List Int) (hl:l.length<=500) (a:Nat) (n:Int) (hn:n<4611686018427387904) (R:Heap) (hR:Rest R):bp aq KF [.ptr 0 0,.int .i64 n] [dk l a]=some (.int .i64 (DR l a n),[dk l (Bt l a n)]):=abC l hl a n hn [] ⟨fun _=>rfl,rfl,fun _ _=>rfl,fun _=>rfl,fun _ _=>rfl⟩
theorem Jn (l:List Int) (hl:l.length<=500) (N:Nat) (hN:N<=64) (R:Heap) (hR:Rest R):∀(k v a:Nat) (o:List Int),v+k=N->o.length<=v->Up o->(∀x∈o,0<=x/\x<(v:Int))->∃o' a',aW aq (R.length+1) (.loop Uj) ⟨[(0,.ptr 0 0),(1,.int .i64 N),(5,.own 1 (ints o)),(6,.int .i64 v)],dk l a::R⟩=some (.exit 0,⟨[(0,.ptr 0 0),(1,.int .i64 N),(5,.own 1 (ints o')),(6,.int .i64 N),(9,.bool false)],dk l a'::R⟩)/\(o'.length<=N/\Up o'/\∀ x∈o',0<=x/\x<(N:Int))
 |0,v,a,o,hi,ho,hu,hb=>by
   obtain rfl:v=N:=by omega
   exact⟨o,a,bq (by unfold Uj dk; simp[SZ,SY,SX,SW,MC]),ho,hu,hb⟩
 |k+1,v,a,o,hi,ho,hu,hb=>by
   have h1:(v:Int)<N:=by omega
   have hw:=dM (i:=v) (by omega);have hL:o.length+1<=4294967296:=by omega
   have hx:=jI l hl a 2 (by omega) R hR;obtain⟨r1,r2,r3,r4,r5⟩:=hR;unfold dk at hx;by_cases he:DR l a 2=1
   ·obtain⟨o',a',e,p⟩:=Jn l hl N hN R ⟨r1,r2,r3,r4,r5⟩ k (v+1) (Bt l a 2) (o++[(v:Int)]) (by omega) (by simp; omega) (by
     unfold Up; rw[bP];exact⟨hu,by simp,fun x hx y hy=>by simp at hy; subst hy; exact (hb x hx).2⟩) (fun x hx=>by
     rcases aG.1 hx with hx|hx
     ·have:=hb x hx; omega
     ·simp at hx; omega)
    exact⟨o',a',(aS (by unfold Uj dk; simp[SZ,SY,SX,SW,h1,hw,hL,hx,he,jx,er,cq,NA,Ry,r1,r3,r4,r5,MC,aO,af])).trans e,p⟩
   ·obtain⟨o',a',e,p⟩:=Jn l hl N hN R ⟨r1,r2,r3,r4,r5⟩ k (v+1) (Bt l a 2) o (by omega) (by omega) hu (fun x hx=>by have:=hb x hx; omega);exact⟨o',a',(aS (by unfold Uj dk; simp[SZ,SY,SX,SW,h1,hw,hx,he,NA,Ry,r4,MC,aO])).trans e,p⟩
theorem af7 (l:List Int) (hl:l.length<=500) (N:Nat) (hN:N<=64) (R:Heap) (hR:Rest R) (a:Nat):∃o a',bp aq nQp [.ptr 0 0,.int .i64 N] (dk l a::R)=some (.list 1 (ints o),dk l a'::R)/\(o.length<=N/\Up o/\∀ x∈o,0<=x/\x<(N:Int)):=by
 obtain⟨o,a',e,p⟩:=Jn l hl N hN R hR N 0 a [] (by omega) (by simp) (by simp[Up]) (by simp);refine⟨o,a',?_,p⟩;rw[fi,c8] at e;obtain⟨r1,r2,r3,r4,r5⟩:=hR;rw[pM sQp (ah rfl)];unfold dk at e ⊢;unfold qQp cQp;simp[S3,S2,S0,SV,e,cq,iD,fu,r1,r3,r4,MC,af,bk,bf]
/- What mk.Graph returns: a graph that is in order. -/
theorem Wg (l:List Ed) (x:Ed):(l++[x]).take (l.length+1)=l++[x]:=aZ (by simp)
def IVG (N:Nat) (o:List Ed) (u v:Nat):Prop:=UpE o/\(∀e∈o,0<=e.1/\e.1<e.2/\e.2<(N:Int))/\(∀e∈o,e.1<(u:Int)\/e.1=(u:Int)/\e.2<(v:Int))/\o.length<=u*64+v
theorem aeL {N:Nat} {o:List Ed} {u v:Nat} (h:IVG N o u v):IVG N o u (v+1):=
 ⟨h.1,h.2.1,fun e he=>by have:=h.2.2.1 e he; omega,by have:=h.2.2.2; omega⟩
theorem ahe {N:Nat} {o:List Ed} {u v:Nat} (h:IVG N o u v) (Sj:u<v) (hv:v<N):IVG N (o++[((u:Int),(v:Int))]) u (v+1):=by
 obtain⟨h1,h2,h3,h4⟩:=h;refine⟨?_,fun e he=>?_,fun e he=>?_,by simp; omega⟩
 ·unfold UpE;rw[bP];refine⟨h1,by simp,fun x hx y hy=>?_⟩;simp at hy;subst hy;have:=h3 x hx;unfold KY;simp only;omega
 ·rcases aG.1 he with he|he
  ·exact h2 e he
  ·simp at he; subst he; exact⟨by simp,by simpa using Sj,by simpa using hv⟩
 ·rcases aG.1 he with he|he
  ·have:=h3 e he; omega
  ·simp at he; subst he; simp; omega
def gZ:XT:=some [.int .i64 0,.own 2 []]
def gB (N:Int) (o:List Ed):XT:=some [.int .i64 N,.own 2 (bU o)]
theorem P6 (N:Int) (o:List Ed):Rest [gZ,gB N o]:=⟨fun _=>rfl,rfl,fun _ _=>rfl,fun _=>rfl,fun _ _=>rfl⟩
theorem ajK:Rest [gZ]:=⟨fun _=>rfl,rfl,fun _ _=>rfl,fun _=>rfl,fun _ _=>rfl⟩
def M8 (l:List Int) (a N:Nat) (D:Int) (u v:Nat) (o:List Ed) (J:Env):St:=⟨(0,.ptr 0 0)::(4,.ptr 1 0)::(5,.ptr 2 0)::(6,.int .i64 D)::(7,.int .i64 u)::(8,.int .i64 v)::J,[dk l a,gZ,gB N o]⟩
theorem ahm (l:List Int) (hl:l.length<=500) (N:Nat) (hN:N<=64) (D:Int) (hD:0<=D/\D<=5) (u v a:Nat) (o:List Ed) (Sj:u<v) (hv:v<N) (ho:o.length<=100000):∃a',aW aq 1 K5 (M8 l a N D u v o [])=some (.normal,M8 l a' N D u (v+1) o [])\/aW aq 1 K5 (M8 l a N D u v o [])=some (.normal,M8 l a' N D u (v+1) (o++[((u:Int),(v:Int))]) []):=by
 have h1:(v:Int)<N:=by omega
 have hw:=dM (i:=v) (by omega);have hL:o.length+1<=4294967296:=by omega
 have hx:=jI l hl a 5 (by omega) [gZ,gB N o] (P6 N o);have w5:IntKind.i64.wrap (5-D)=5-D:=fE (by omega) (by omega);simp only[dk] at hx;by_cases hd:5-D<=DR l a 5
 ·refine⟨Bt l a 5,.inr ?_⟩;unfold K5 M8 dk gZ gB;simp[GU,GR,zh,zg,h1,hw,hd,hL,hx,w5,jx,Ps,LI,Wg,NA,Ry,aO,az]
 ·refine⟨Bt l a 5,.inl ?_⟩;unfold K5 M8 dk gZ gB;simp[GU,GR,zh,zg,h1,hw,hd,hx,w5,NA,Ry,aO,az]
theorem g_in (l:List Int) (hl:l.length<=500) (N:Nat) (hN:N<=64) (D:Int) (hD:0<=D/\D<=5) (u:Nat):∀(k v a:Nat) (o:List Ed),v+k=N->u<v->IVG N o u v->∃a' o',aW aq 1 (.loop K5) (M8 l a N D u v o [])=some (.exit 2,M8 l a' N D u N o' [(41,.bool false)])/\IVG N o' u N
 |0,v,a,o,hi,Sj,hI=>by
   obtain rfl:v=N:=by omega
   refine⟨a,o,bq ?_,hI⟩;unfold K5 M8 dk gZ gB;simp[GU,GR,zh,zg,aO,az]
 |k+1,v,a,o,hi,Sj,hI=>by
   have hlen:=hI.2.2.2;obtain⟨a1,e|e⟩:=ahm l hl N hN D hD u v a o Sj (by omega) (by omega)
   ·obtain⟨a',o',e2,hI2⟩:=g_in l hl N hN D hD u k (v+1) a1 o (by omega) (by omega) (aeL hI);exact⟨a',o',(aS e).trans e2,hI2⟩
   ·obtain⟨a',o',e2,hI2⟩:=g_in l hl N hN D hD u k (v+1) a1 _ (by omega) (by omega) (ahe hI Sj (by omega));exact⟨a',o',(aS e).trans e2,hI2⟩
def U5 (l:List Int) (a N:Nat) (D:Int) (u:Nat) (o:List Ed) (J:Env):St:=⟨(0,.ptr 0 0)::(4,.ptr 1 0)::(5,.ptr 2 0)::(6,.int .i64 D)::(7,.int .i64 u)::J,[dk l a,gZ,gB N o]⟩
theorem ajl (l:List Int) (hl:l.length<=500) (N:Nat) (hN:N<=64) (D:Int) (hD:0<=D/\D<=5):∀(k u a:Nat) (o:List Ed),u+k=N->IVG N o u 0->∃a' o',aW aq 1 (.loop Um) (U5 l a N D u o [])=some (.exit 0,U5 l a' N D N o' [(33,.bool false)])/\IVG N o' N 0
 |0,u,a,o,hi,hI=>by
   obtain rfl:u=N:=by omega
   refine⟨a,o,bq ?_,hI⟩;unfold Um U5 dk gZ gB;simp[GW,GV,zf,aO,az]
 |k+1,u,a,o,hi,hI=>by
   have h1:(u:Int)<N:=by omega
   have hw:=dM (i:=u) (by omega);have hI1:IVG N o u (u+1):=⟨hI.1,hI.2.1,fun e he=>by have:=hI.2.2.1 e he; have:=(hI.2.1 e he).1; omega,by have:=hI.2.2.2; omega⟩;obtain⟨a1,o1,e1,hI2⟩:=g_in l hl N hN D hD u (N-(u+1)) (u+1) a o (by omega) (by omega) hI1;have hI3:IVG N o1 (u+1) 0:=⟨hI2.1,hI2.2.1,fun e he=>by have:=hI2.2.2.1 e he; omega,by have:=hI2.2.2.2; omega⟩;obtain⟨a',o',e2,hI4⟩:=ajl l hl N hN D hD k (u+1) a1 o1 (by omega) hI3;refine⟨a',o',(aS ?_).trans e2,hI4⟩;unfold M8 dk gZ gB at e1;rw[show ((u+1:Nat):Int)=(u:Int)+1 from rfl] at e1;unfold Um U5 dk gZ gB;simp[GW,GV,zf,h1,hw,e1,aO,az]
theorem abK (l:List Int) (hl:l.length<=500) (most:Nat) (hm:most<=60) (a:Nat):∃N Es a',bp aq nQf [.ptr 0 0,.int .i64 most] [dk l a]=some (.agg [.int .i64 (N:Nat),.list 2 (bU Es)],[dk l a'])/\jh (N:Int) Es/\N<=most/\Es.length<=10000:=by
 have n1:=jI l hl a ((most:Int)+1) (by omega) [gZ] ajK;obtain⟨b0,b1⟩:=w8 l a (n:=(most:Int)+1) (by omega);have wm:=dM (i:=most) (by omega)
 -- the number of nodes, drawn once or twice
 obtain⟨n0,hn0⟩:∃n0:Nat,DR l a ((most:Int)+1)=(n0:Int):=⟨(DR l a ((most:Int)+1)).toNat,by omega⟩;rw[hn0] at n1 b1
 have key:∀(N a2:Nat),N<=most->∃Es a',(∃D:Int,(0<=D/\D<=5)/\DR l a2 4+1=D)/\aW aq 1 (.loop Um) (U5 l (Bt l a2 4) N (DR l a2 4+1) 0 [] [])=some (.exit 0,U5 l a' N (DR l a2 4+1) N Es [(33,.bool false)])/\IVG N Es N 0:=by
  intro N a2 hN;obtain⟨c0,c1⟩:=w8 l a2 (n:=4) (by omega);obtain⟨a',Es,e,hI⟩:=ajl l hl N (by omega) (DR l a2 4+1) (by omega) N 0 (Bt l a2 4) [] (by omega) ⟨by simp[UpE],by simp,by simp,by simp⟩;exact⟨Es,a',⟨_,by omega,rfl⟩,e,hI⟩
 have fin:∀(N:Nat) (Es:List Ed),N<=most->IVG N Es N 0->jh (N:Int) Es/\N<=most/\Es.length<=10000:=fun N Es hN hI=>⟨⟨by omega,hI.1,hI.2.1⟩,hN,by have:=hI.2.2.2; omega⟩;by_cases h4:n0<4
 ·-- a second draw
  have h4':(n0:Int)<4:=by omega
  have n2:=jI l hl (Bt l a ((most:Int)+1)) ((most:Int)+1) (by omega) [gZ,gB n0 []] (P6 n0 []);obtain⟨d0,d1⟩:=w8 l (Bt l a ((most:Int)+1)) (n:=(most:Int)+1) (by omega);obtain⟨m0,hm0⟩:∃m0:Nat,DR l (Bt l a ((most:Int)+1)) ((most:Int)+1)=(m0:Int):=⟨(DR l (Bt l a ((most:Int)+1)) ((most:Int)+1)).toNat,by omega⟩;rw[hm0] at n2 d1
  obtain⟨N,hN,eN⟩:∃N:Nat,N<=most/\(if (n0:Int)+m0<most then (n0:Int)+m0 else (most:Int))=N:=by
   by_cases q:(n0:Int)+m0<most
   ·exact⟨n0+m0,by omega,by rw[if_pos q]; omega⟩
   ·exact⟨most,by omega,by rw[if_neg q]⟩
  have ws:IntKind.i64.wrap ((n0:Int)+m0)=(n0:Int)+m0:=fE (by omega) (by omega);have n3:=jI l hl (Bt l (Bt l a ((most:Int)+1)) ((most:Int)+1)) 4 (by omega) [gZ,gB N []] (P6 N []);obtain⟨Es,a',⟨D,hD,eD⟩,e,hI⟩:=key N (Bt l (Bt l a ((most:Int)+1)) ((most:Int)+1)) hN;refine⟨N,Es,a',?_,fin N Es hN hI⟩;have wD:IntKind.i64.wrap (1+DR l (Bt l (Bt l a ((most:Int)+1)) ((most:Int)+1)) 4)=D:=by rw[fE (by omega) (by omega)]; omega
  rw[eD] at e;rw[pM sQf (ah rfl)];unfold U5 at e;rw[fi] at e;unfold dk gZ gB at *;rw[show bU []=[] from rfl] at *;generalize DR l (Bt l (Bt l a ((most:Int)+1)) ((most:Int)+1)) 4=x4 at *;clear key hI;unfold qQf cQf;simp[G2,G1,G0,GZ,GY,GX,ze,n1,n2,n3,e,wm,ws,h4',eN,wD,LI,eW,NA,Ry,fu,cX,iD,aO,az,bk,bf]
 ·have h4':¬(n0:Int)<4:=by omega
  have n3:=jI l hl (Bt l a ((most:Int)+1)) 4 (by omega) [gZ,gB n0 []] (P6 n0 []);obtain⟨Es,a',⟨D,hD,eD⟩,e,hI⟩:=key n0 (Bt l a ((most:Int)+1)) (by omega);refine⟨n0,Es,a',?_,fin n0 Es (by omega) hI⟩;have wD:IntKind.i64.wrap (1+DR l (Bt l a ((most:Int)+1)) 4)=D:=by rw[fE (by omega) (by omega)]; omega
  rw[eD] at e;rw[pM sQf (ah rfl)];unfold U5 at e;rw[fi] at e;unfold dk gZ gB at *;rw[show bU []=[] from rfl] at *;generalize DR l (Bt l a ((most:Int)+1)) 4=x4 at *;clear key hI;unfold qQf cQf;simp[G2,G1,G0,GZ,GY,GX,ze,n1,n3,e,wm,h4',wD,LI,eW,NA,Ry,fu,cX,iD,aO,az,bk,bf]
/- What mk.Order returns: an order of all nodes. -/
def Ir (n:Nat):List Int:=(List.range n).map fun i=>((i:Nat):Int)
theorem ab9 (n:Nat):Ir (n+1)=Ir n++[(n:Int)]:=by simp[Ir,List.range_succ]
theorem aeW {o:List Int} {v:Nat} (h:o.Perm (Ir v)) (i:Nat):(o.take i++(v:Int)::o.drop i).Perm (Ir (v+1)):=by
 rw[ab9];refine List.perm_middle.trans ?_;rw[List.take_append_drop];exact (h.cons _).trans (List.perm_append_singleton _ _).symm
theorem abx (l:List Int) (hl:l.length<=500) (N:Nat) (hN:N<=1000) (R:Heap) (hR:Rest R) (v a:Nat) (o:List Int) (hv:v<N) (ho:o.length=v):∃i a',aW aq (R.length+1) Uk ⟨[(0,.ptr 0 0),(1,.int .i64 N),(5,.own 1 (ints o)),(6,.int .i64 v)],dk l a::R⟩=some (.normal,⟨[(0,.ptr 0 0),(1,.int .i64 N),(5,.own 1 (ints (o.take i++(v:Int)::o.drop i))),(6,.int .i64 ((v+1:Nat):Int))],dk l a'::R⟩):=by
 have h1:(v:Int)<N:=by omega
 have hw:=dM (i:=v) (by omega);have hx:=jI l hl a ((v:Int)+1) (by omega) R hR;obtain⟨b0,b1⟩:=w8 l a (n:=(v:Int)+1) (by omega);obtain⟨i,hi⟩:∃i:Nat,DR l a ((v:Int)+1)=(i:Int):=⟨(DR l a ((v:Int)+1)).toNat,by omega⟩;rw[hi] at hx b1;refine⟨i,Bt l a ((v:Int)+1),?_⟩;generalize Bt l a ((v:Int)+1)=a1 at *;obtain⟨r1,r2,r3,r4,r5⟩:=hR;have h2:(i:Int)<=v:=by omega
 have h3:i<=v:=by omega
 have h4:i<=4294967296:=by omega
 have h5:v-i+1<=4294967296:=by omega
 have h6:1+(v-i)<=4294967296:=by omega
 have h7:i+(v-i+1)<=4294967296:=by omega
 have h8:i+(1+(v-i))<=4294967296:=by omega
 have h9:min i v=i:=by omega
 have cons:∀x:List Int,AV.int .i64 (v:Int)::ints x=ints ((v:Int)::x):=fun _=>rfl;unfold dk at hx ⊢;unfold Uk;simp[YQ,YP,YO,YN,h1,hw,hx,ho,h2,h3,h6,h7,h9,jx,cq,gg,Lm,cons,List.length_take,eS,NA,Ry,r1,r3,r4,r5,MC,aO,af];have l1:(o.drop i).length=v-i:=by rw[eS,ho]
 rw[List.take_take,Nat.min_self,aZ (by omega:(o.drop i).length<=v-i),aZ (by simp; omega)]
theorem TG (l:List Int) (hl:l.length<=500) (N:Nat) (hN:N<=1000) (R:Heap) (hR:Rest R):∀(k v a:Nat) (o:List Int),v+k=N->o.Perm (Ir v)->∃o' a',aW aq (R.length+1) (.loop Uk) ⟨[(0,.ptr 0 0),(1,.int .i64 N),(5,.own 1 (ints o)),(6,.int .i64 v)],dk l a::R⟩=some (.exit 0,⟨[(0,.ptr 0 0),(1,.int .i64 N),(5,.own 1 (ints o')),(6,.int .i64 N),(10,.bool false)],dk l a'::R⟩)/\o'.Perm (Ir N)
 |0,v,a,o,hi,hp=>by
   obtain rfl:v=N:=by omega
   refine⟨o,a,bq ?_,hp⟩;obtain⟨r1,r2,r3,r4,r5⟩:=hR;unfold Uk dk;simp[YQ,YP,YO,YN,r4,MC]
 |k+1,v,a,o,hi,hp=>by
   have ho:o.length=v:=by rw[hp.length_eq]; simp[Ir]
   obtain⟨i,a1,e1⟩:=abx l hl N hN R hR v a o (by omega) ho;obtain⟨o',a',e2,hp2⟩:=TG l hl N hN R hR k (v+1) a1 _ (by omega) (aeW hp i);exact⟨o',a',(aS e1).trans e2,hp2⟩
theorem WY (l:List Int) (hl:l.length<=500) (N:Nat) (hN:N<=1000) (R:Heap) (hR:Rest R) (a:Nat):∃o a',bp aq nQo [.ptr 0 0,.int .i64 N] (dk l a::R)=some (.list 1 (ints o),dk l a'::R)/\o.Perm (Ir N):=by
 obtain⟨o,a',e,hp⟩:=TG l hl N hN R hR N 0 a [] (by omega) (by simp[Ir]);refine⟨o,a',?_,hp⟩;have ho:o.length=N:=by rw[hp.length_eq]; simp[Ir]
 rw[fi,c8] at e;obtain⟨r1,r2,r3,r4,r5⟩:=hR;rw[pM sQo (ah rfl)];unfold dk at e ⊢;unfold qQo cQo;simp[YT,YS,YR,YM,e,cq,iD,fu,r1,r3,r4,MC,af,bk,bf]
end Go.BmP
