/- Bipartite graphs as bits: plain facts. -/
import Derived.Test.YtpimmjklbakckaaDoorUseM
set_option linter.unusedVariables false
set_option linter.unusedSimpArgs false
open Bool renaming eq_iff_iff → Fz
open List renaming getD_eq_getElem?_getD → aT, mem_append → aC, replicate → aV, take_length → eE
open Nat renaming le_of_ble_eq_true → aF, or_lt_two_pow → xC, testBit_or → gS, testBit_two_pow → tZ
open Option renaming getD_some → eX
namespace Go.Bm
open Go.Am
def us (l:List Nat):List AV:=l.map fun n=>.int .u64 ((n:Nat):Int)
theorem fI (l:List Nat):(us l).length=l.length:=List.length_map _
theorem HR (l:List Nat) (i:Nat):(us l)[i]?=(l[i]?).map (fun n=>.int .u64 ((n:Nat):Int)):=List.getElem?_map
theorem MY (l:List Nat) (i n:Nat):(us l).set i (.int .u64 (n:Int))=us (l.set i n):=by simp[us,List.map_set]
theorem acf (n:Nat):aV n (AV.int .u64 0)=us (aV n 0):=by simp[us]
theorem Yv (l:List Nat) (n:Nat):(us l).take n=us (l.take n):=by simp[us]
def Small (A:List Nat):Prop:=∀x∈A,x<18446744073709551616
theorem zq {v:Int} (h:v<64) (h0:0<=v):2 ^ v.toNat<18446744073709551616:=by
 have:=Nat.pow_lt_pow_right (a:=2) (by decide) (show v.toNat<64 by omega);exact this
def X3 (A:List Nat) (e:Ed):List Nat:=
 (A.set e.1.toNat (A.getD e.1.toNat 0 ||| 2 ^ e.2.toNat)).set e.2.toNat ((A.set e.1.toNat (A.getD e.1.toNat 0 ||| 2 ^ e.2.toNat)).getD e.2.toNat 0 ||| 2 ^ e.1.toNat)
theorem Ft (A:List Nat) (e:Ed):(X3 A e).length=A.length:=by simp[X3]
theorem tN {A:List Nat} (h:Small A) (i:Nat):A.getD i 0<18446744073709551616:=by
 rw[aT];cases e:A[i]? with
 |none=>simp
 |some x=>exact h x (List.mem_of_getElem? e)
theorem Aw {A:List Nat} (h:Small A) {i n:Nat} (hn:n<18446744073709551616):Small (A.set i n):=by
 intro x hx;rcases List.mem_or_eq_of_mem_set hx with h1|h1
 ·exact h x h1
 ·omega
theorem HG {A:List Nat} (h:Small A) {e:Ed} (h1:0<=e.1/\e.1<64) (h2:0<=e.2/\e.2<64):Small (X3 A e):=by
 have s1:Small (A.set e.1.toNat (A.getD e.1.toNat 0 ||| 2 ^ e.2.toNat)):=Aw h (xC (n:=64) (tN h _) (zq h2.2 h2.1));exact Aw s1 (xC (n:=64) (tN s1 _) (zq h1.2 h1.1))
theorem aaV {A:List Nat} {e:Ed} (h1:0<=e.1/\e.1.toNat<A.length) (h2:0<=e.2/\e.2.toNat<A.length) (tn:e.1≠e.2) (a b:Nat):((X3 A e).getD a 0).testBit b=((A.getD a 0).testBit b||(decide ((a:Int)=e.1/\(b:Int)=e.2)||decide ((a:Int)=e.2/\(b:Int)=e.1))):=by
 have hn:e.1.toNat≠e.2.toNat:=by omega
 unfold X3;simp only[aT,List.getElem?_set,List.length_set,if_neg hn,if_neg (Ne.symm hn)];by_cases ha:e.2.toNat=a
 ·subst ha;rw[if_pos rfl,if_pos h2.2];simp only[eX,gS,tZ];congr 1;have e1:¬((e.2.toNat:Int)=e.1):=by omega
  have e2:((e.2.toNat:Int)=e.2):=by omega
  have e3:¬(e.2=e.1):=fun k=>tn k.symm;simp only[e1,e2,e3,false_and,true_and,decide_false,Bool.false_or];rw[Fz,decide_eq_true_eq,decide_eq_true_eq]; omega
 ·rw[if_neg ha];have e2:¬((a:Int)=e.2):=by omega
  by_cases hb:e.1.toNat=a
  ·subst hb;rw[if_pos rfl,if_pos h1.2];simp only[eX,gS,tZ];congr 1;have e1:((e.1.toNat:Int)=e.1):=by omega
   have e3:¬(e.1=e.2):=tn;simp only[e1,e2,e3,false_and,true_and,decide_false,Bool.or_false];rw[Fz,decide_eq_true_eq,decide_eq_true_eq];omega
  ·rw[if_neg hb];have e1:¬((a:Int)=e.1):=by omega
   simp[e1,e2]
def wi (l:List Ed) (A:List Nat):List Nat:=l.foldl X3 A
theorem Fs (N:Nat) (hN:N<=64):∀(l:List Ed) (A:List Nat),A.length=N->Small A->(∀e∈l,0<=e.1/\e.1<e.2/\e.2<(N:Int))->(wi l A).length=N/\Small (wi l A)/\∀ a b:Nat,((wi l A).getD a 0).testBit b=((A.getD a 0).testBit b||(decide (((a:Int),(b:Int))∈l)||decide (((b:Int),(a:Int))∈l)))
 |[],A,hl,hs,_=>⟨hl,hs,fun a b=>by simp[wi]⟩
 |e::r,A,hl,hs,h=>by
   have he:=h e (by simp);obtain⟨i1,i2,i3⟩:=Fs N hN r (X3 A e) (by rw[Ft]; exact hl) (HG hs (by omega) (by omega)) (fun x hx=>h x (by simp[hx]));refine⟨i1,i2,fun a b=>?_⟩;show ((wi r (X3 A e)).getD a 0).testBit b=_;rw[i3,aaV (by omega) (by omega) (by omega)];rw[Fz];simp only[Bool.or_eq_true,decide_eq_true_eq,List.mem_cons,Prod.ext_iff];constructor
   ·rintro ((h|(h|h))|(h|h))
    ·exact .inl h
    ·exact .inr (.inl (.inl h))
    ·exact .inr (.inr (.inl ⟨h.2,h.1⟩))
    ·exact .inr (.inl (.inr h))
    ·exact .inr (.inr (.inr h))
   ·rintro (h|((h|h)|(h|h)))
    ·exact .inl (.inl h)
    ·exact .inl (.inr (.inl h))
    ·exact .inr (.inl h)
    ·exact .inl (.inr (.inr ⟨h.2,h.1⟩))
    ·exact .inr (.inr h)
def comL (A:List Nat) (side:Nat) (l:List Int):Nat:=l.foldl (fun s v=>s &&& A.getD v.toNat 0) side
structure BOK (N:Nat) (E:List Ed) (L:List Int):Prop where
 n:N<=64
 e:UpE E/\∀ e∈E,0<=e.1/\e.1<e.2/\e.2<(N:Int)
 l:Up L/\∀ x∈L,0<=x/\x<(N:Int)
 s:∀e∈E,e.1∈L ↔ ¬e.2∈L
def jn (E:List Ed) (a b:Int):Prop:=(a,b)∈E\/(b,a)∈E
instance (E:List Ed) (a b:Int):Decidable (jn E a b):=by unfold jn; infer_instance
def jL (N:Nat) (E:List Ed):List Nat:=wi E (aV N 0)
def rgt (N:Nat) (L:List Int):Nat:=(2 ^ N-1) &&& (18446744073709551615-msk L)
def cR (N:Nat) (E:List Ed) (L S:List Int):Nat:=comL (jL N E) (rgt N L) (cI (msk S))
def cL (N:Nat) (E:List Ed) (L:List Int) (r:Nat):Nat:=comL (jL N E) (msk L) (cI r)
def clR (N:Nat) (E:List Ed) (L S:List Int):List Int:=cI (cR N E L S)
def clL (N:Nat) (E:List Ed) (L S:List Int):List Int:=cI (cL N E L (cR N E L S))
end Go.Bm
/- What functions of cohesionmake return: Few, New, Mod, Next, Set. -/
set_option maxRecDepth 100000
set_option maxHeartbeats 4000000
namespace Go.BmP
open Go.Am Go.Bm
theorem nle1 (n:Nat):(n+1<=n) ↔ False:=⟨fun h=>by omega,False.elim⟩
def dk (l:List Int) (at_:Nat):OP:=some [.list 1 (ints l),.int .i64 at_]
theorem Zk (l:List Int):bS aD nQb [.list 1 (ints l)] []=some (.ptr 0 0,[dk l 0]):=by
 rw[fZ sQb (aF rfl)];unfold qQb cQb dk;simp[abm,abl,ku,kK,fH,cK,cC,lQ,aN,bf,bW,dF,fh,aY,bj,aX,ah,aZ,bG,cB,bU]
theorem Zq (x k:Int) (h0:0<k) (h1:k<4611686018427387904):(IntKind.i64.wrap (x.tmod k+k)).tmod k=x%k:=by
 have e:x%k=(x.tmod k)%k:=by
  have:=Int.mul_tdiv_add_tmod x k
  conv=>lhs; rw[<-this]
  rw[Int.add_comm,Int.add_mul_emod_self_left]
 have h2:=Int.tmod_lt_of_pos x h0
 have h3:-k<x.tmod k:=by
  have:=Int.tmod_lt_of_pos (-x) h0;rw[Int.neg_tmod] at this;omega
 rw[qc (by omega) (by omega),Int.tmod_eq_emod_of_nonneg (by omega),e,Int.add_emod_right]
theorem Wd (x k:Int) (h0:0<k) (h1:k<4611686018427387904):bS aD nQs [.int .i64 x,.int .i64 k] []=some (.int .i64 (x%k),[]):=by
 rw[fZ sQs (aF rfl),<-Zq x k h0 h1];have hk:¬k=0:=by omega
 unfold qQs cQs;simp[aa5,aa4,hk,aN,bf,bW,dF,fh,aY,bj,aX,ah,aZ,bG,cB,bU]
def DX (l:List Int) (a:Nat) (n:Int):Int:=if n<1 then 0 else if l.length<=a then 0 else l.getD a 0%n
def AJ (l:List Int) (a:Nat) (n:Int):Nat:=if n<1 then a else if l.length<=a then a else a+1
theorem DW (l:List Int) (a:Nat) {n:Int} (h:1<=n):0<=DX l a n/\DX l a n<n:=by
 unfold DX;rw[if_neg (by omega)];split
 ·omega
 ·exact⟨Int.emod_nonneg _ (by omega),Int.emod_lt_of_pos _ (by omega)⟩
def Rest (R:Heap):Prop:=(∀g,fH g R=R)/\gQ R=true/\(∀p b,XQ p b R=none)/\(∀f,Fg f R=false)/\∀ p b,rB p b R=[]
theorem Tr (l:List Int) (hl:l.length<=9223372036854775807) (a:Nat) (n:Int) (hn:n<4611686018427387904) (R:Heap) (hR:Rest R):bS aD It [.ptr 0 0,.int .i64 n] (dk l a::R)=some (.int .i64 (DX l a n),dk l (AJ l a n)::R):=by
 obtain⟨r1,r2,r3,r4,r5⟩:=hR;rw[fZ sQf (aF rfl)];unfold qQf cQf DX AJ dk;by_cases h0:n<1
 ·simp[PT,PS,PR,PQ,PO,PN,h0,ku,kK,lQ,r1,r2,r3,r4,r5,nle1,aN,bf,bW,dF,fh,aY,bj,aX,ah,aZ,bG,cB,bU]
 ·have h0':¬n<1:=h0;by_cases h1:l.length<=a
  ·have h1':(l.length:Int)<=a:=by omega
   simp[PT,PS,PR,PQ,PO,PN,h0,h1,h1',ku,kK,lQ,r1,r2,r3,r4,r5,nle1,aN,bf,bW,dF,fh,aY,bj,aX,ah,aZ,bG,cB,bU]
  ·have h1':¬(l.length:Int)<=a:=by omega
   have h2:a<l.length:=by omega
   have NX:(a:Int)<l.length:=by omega
   have hw:=fT (i:=a) (by omega);have hm:=Wd l[a] n (by omega) hn;simp[PT,PS,PR,PQ,PO,PN,h0,h1,h1',h2,NX,hw,hm,idx,sQs,iQs,ku,kK,lQ,r1,r2,r3,r4,r5,nle1,aN,bf,bW,dF,fh,aY,bj,aX,ah,aZ,bG,cB,bU]
theorem qL (l:List Int) (hl:l.length<=9223372036854775807) (a:Nat) (n:Int) (hn:n<4611686018427387904) (R:Heap) (hR:Rest R):bS aD It [.ptr 0 0,.int .i64 n] [dk l a]=some (.int .i64 (DX l a n),[dk l (AJ l a n)]):=Tr l hl a n hn [] ⟨fun _=>rfl,rfl,fun _ _=>rfl,fun _=>rfl,fun _ _=>rfl⟩
/- What mk.Graph returns: a graph that is in order. -/
theorem M4 (l:List Ed) (x:Ed):(l++[x]).take (l.length+1)=l++[x]:=List.take_of_length_le (by simp)
def Uz (N:Nat) (o:List Ed) (u v:Nat):Prop:=UpE o/\(∀e∈o,0<=e.1/\e.1<e.2/\e.2<(N:Int))/\(∀e∈o,e.1<(u:Int)\/e.1=(u:Int)/\e.2<(v:Int))/\o.length<=u*64+v
theorem Wy {N:Nat} {o:List Ed} {u v:Nat} (h:Uz N o u v):Uz N o u (v+1):=
 ⟨h.1,h.2.1,fun e he=>by have:=h.2.2.1 e he; omega,by have:=h.2.2.2; omega⟩
theorem Zz {N:Nat} {o:List Ed} {u v:Nat} (h:Uz N o u v) (huv:u<v) (hv:v<N):Uz N (o++[((u:Int),(v:Int))]) u (v+1):=by
 obtain⟨h1,h2,h3,h4⟩:=h;refine⟨?_,fun e he=>?_,fun e he=>?_,by simp; omega⟩
 ·unfold UpE;rw[List.pairwise_append];refine⟨h1,by simp,fun x hx y hy=>?_⟩;simp at hy;subst hy;have:=h3 x hx;unfold KS;simp only;omega
 ·rcases aC.1 he with he|he
  ·exact h2 e he
  ·simp at he; subst he; exact⟨by simp,by simpa using huv,by simpa using hv⟩
 ·rcases aC.1 he with he|he
  ·have:=h3 e he; omega
  ·simp at he; subst he; simp; omega
def gZ:OP:=some [.int .i64 0,.own 2 []]
def gB (N:Int) (o:List Ed):OP:=some [.int .i64 N,.own 2 (iQ o)]
theorem HZ (N:Int) (o:List Ed):Rest [gZ,gB N o]:=⟨fun _=>rfl,rfl,fun _ _=>rfl,fun _=>rfl,fun _ _=>rfl⟩
theorem aco:Rest [gZ]:=⟨fun _=>rfl,rfl,fun _ _=>rfl,fun _=>rfl,fun _ _=>rfl⟩
def F4 (l:List Int) (a N:Nat) (D:Int) (u v:Nat) (o:List Ed) (J:Env):St:=⟨(0,.ptr 0 0)::(4,.ptr 1 0)::(5,.ptr 2 0)::(6,.int .i64 D)::(7,.int .i64 u)::(8,.int .i64 v)::J,[dk l a,gZ,gB N o]⟩
theorem Z8 (l:List Int) (hl:l.length<=9223372036854775807) (N:Nat) (hN:N<=64) (D:Int) (hD:0<=D/\D<=5) (u v a:Nat) (o:List Ed) (huv:u<v) (hv:v<N) (ho:o.length<=100000):∃a',bh aD 1 En (F4 l a N D u v o [])=some (.normal,F4 l a' N D u (v+1) o [])\/bh aD 1 En (F4 l a N D u v o [])=some (.normal,F4 l a' N D u (v+1) (o++[((u:Int),(v:Int))]) []):=by
 have h1:(v:Int)<N:=by omega
 have hw:=fT (i:=v) (by omega);have hL:o.length+1<=4294967296:=by omega
 have hx:=qL l hl a 5 (by omega) [gZ,gB N o] (HZ N o);have w5:IntKind.i64.wrap (5-D)=5-D:=qc (by omega) (by omega);simp only[dk,gZ,gB] at hx;by_cases hd:5-D<=DX l a 5
 ·refine⟨AJ l a 5,.inr ?_⟩;unfold En F4 dk gZ gB;simp[BL,BK,BJ,BI,BH,BG,BF,BE,BD,BC,vo,vm,vl,vk,h1,hw,hd,hL,hx,w5,p7,TW,ER,M4,sQf,iQf,kK,fo,gQ,dh,kS,eU,eB,ye,rM,ir,gL,aN,bf,bW,dF,fh,aY,bj,aX,ah,aZ,bG,cB,bU]
 ·refine⟨AJ l a 5,.inl ?_⟩;unfold En F4 dk gZ gB;simp[BL,BK,BJ,BI,BH,BG,BF,BE,BD,BC,vo,vm,vl,vk,h1,hw,hd,hx,w5,sQf,iQf,kK,fo,gQ,dh,kS,eU,eB,aN,bf,bW,dF,fh,aY,bj,aX,ah,aZ,bG,cB,bU]
theorem g_in (l:List Int) (hl:l.length<=9223372036854775807) (N:Nat) (hN:N<=64) (D:Int) (hD:0<=D/\D<=5) (u:Nat):∀(k v a:Nat) (o:List Ed),v+k=N->u<v->Uz N o u v->∃a' o',bh aD 1 (.loop En) (F4 l a N D u v o [])=some (.exit 2,F4 l a' N D u N o' [(41,.bool false)])/\Uz N o' u N
 |0,v,a,o,hi,huv,hI=>by
   obtain rfl:v=N:=by omega
   refine⟨a,o,cv ?_,hI⟩;unfold En F4 dk gZ gB;simp[BL,BK,BJ,BI,BH,BG,BF,BE,BD,BC,vo,vm,vl,vk,aN,bf,bW,dF,fh,aY,bj,aX,ah,aZ,bG,cB,bU]
 |k+1,v,a,o,hi,huv,hI=>by
   have hlen:=hI.2.2.2;obtain⟨a1,e|e⟩:=Z8 l hl N hN D hD u v a o huv (by omega) (by omega)
   ·obtain⟨a',o',e2,hI2⟩:=g_in l hl N hN D hD u k (v+1) a1 o (by omega) (by omega) (Wy hI);exact⟨a',o',(bI e).trans e2,hI2⟩
   ·obtain⟨a',o',e2,hI2⟩:=g_in l hl N hN D hD u k (v+1) a1 _ (by omega) (by omega) (Zz hI huv (by omega));exact⟨a',o',(bI e).trans e2,hI2⟩
def LO (l:List Int) (a N:Nat) (D:Int) (u:Nat) (o:List Ed) (J:Env):St:=⟨(0,.ptr 0 0)::(4,.ptr 1 0)::(5,.ptr 2 0)::(6,.int .i64 D)::(7,.int .i64 u)::J,[dk l a,gZ,gB N o]⟩
theorem ab0 (l:List Int) (hl:l.length<=9223372036854775807) (N:Nat) (hN:N<=64) (D:Int) (hD:0<=D/\D<=5):∀(k u a:Nat) (o:List Ed),u+k=N->Uz N o u 0->∃a' o',bh aD 1 (.loop K6) (LO l a N D u o [])=some (.exit 0,LO l a' N D N o' [(33,.bool false)])/\Uz N o' N 0
 |0,u,a,o,hi,hI=>by
   obtain rfl:u=N:=by omega
   refine⟨a,o,cv ?_,hI⟩;unfold K6 LO dk gZ gB;simp[BL,BK,BJ,BI,BH,BG,BF,BE,BD,BC,vo,vm,vl,vk,aN,bf,bW,dF,fh,aY,bj,aX,ah,aZ,bG,cB,bU]
 |k+1,u,a,o,hi,hI=>by
   have h1:(u:Int)<N:=by omega
   have hw:=fT (i:=u) (by omega);have hI1:Uz N o u (u+1):=⟨hI.1,hI.2.1,fun e he=>by have:=hI.2.2.1 e he; have:=(hI.2.1 e he).1; omega,by have:=hI.2.2.2; omega⟩;obtain⟨a1,o1,e1,hI2⟩:=g_in l hl N hN D hD u (N-(u+1)) (u+1) a o (by omega) (by omega) hI1;have hI3:Uz N o1 (u+1) 0:=⟨hI2.1,hI2.2.1,fun e he=>by have:=hI2.2.2.1 e he; omega,by have:=hI2.2.2.2; omega⟩;obtain⟨a',o',e2,hI4⟩:=ab0 l hl N hN D hD k (u+1) a1 o1 (by omega) hI3;refine⟨a',o',(bI ?_).trans e2,hI4⟩;unfold F4 dk gZ gB at e1;rw[show ((u+1:Nat):Int)=(u:Int)+1 from rfl] at e1;unfold K6 LO dk gZ gB;simp[BL,BK,BJ,BI,BH,BG,BF,BE,BD,BC,vo,vm,vl,vk,h1,hw,e1,aN,bf,bW,dF,fh,aY,bj,aX,ah,aZ,bG,cB,bU]
theorem TN (l:List Int) (hl:l.length<=9223372036854775807) (most:Nat) (hm:most<=60) (a:Nat):∃N Es a',bS aD nQc [.ptr 0 0,.int .i64 most] [dk l a]=some (.agg [.int .i64 (N:Nat),.list 2 (iQ Es)],[dk l a'])/\Jz (N:Int) Es/\N<=most/\Es.length<=10000:=by
 have n1:=qL l hl a ((most:Int)+1) (by omega) [gZ] aco;obtain⟨b0,b1⟩:=DW l a (n:=(most:Int)+1) (by omega);have wm:=fT (i:=most) (by omega)
 -- the number of nodes, drawn once or twice
 obtain⟨n0,hn0⟩:∃n0:Nat,DX l a ((most:Int)+1)=(n0:Int):=⟨(DX l a ((most:Int)+1)).toNat,by omega⟩;rw[hn0] at n1 b1
 have key:∀(N a2:Nat),N<=most->∃Es a',(∃D:Int,(0<=D/\D<=5)/\DX l a2 4+1=D)/\bh aD 1 (.loop K6) (LO l (AJ l a2 4) N (DX l a2 4+1) 0 [] [])=some (.exit 0,LO l a' N (DX l a2 4+1) N Es [(33,.bool false)])/\Uz N Es N 0:=by
  intro N a2 hN;obtain⟨c0,c1⟩:=DW l a2 (n:=4) (by omega);obtain⟨a',Es,e,hI⟩:=ab0 l hl N (by omega) (DX l a2 4+1) (by omega) N 0 (AJ l a2 4) [] (by omega) ⟨by simp[UpE],by simp,by simp,by simp⟩;exact⟨Es,a',⟨_,by omega,rfl⟩,e,hI⟩
 have fin:∀(N:Nat) (Es:List Ed),N<=most->Uz N Es N 0->Jz (N:Int) Es/\N<=most/\Es.length<=10000:=fun N Es hN hI=>⟨⟨by omega,hI.1,hI.2.1⟩,hN,by have:=hI.2.2.2; omega⟩;by_cases h4:n0<4
 ·-- a second draw
  have h4':(n0:Int)<4:=by omega
  have n2:=qL l hl (AJ l a ((most:Int)+1)) ((most:Int)+1) (by omega) [gZ,gB n0 []] (HZ n0 []);obtain⟨d0,d1⟩:=DW l (AJ l a ((most:Int)+1)) (n:=(most:Int)+1) (by omega);obtain⟨m0,hm0⟩:∃m0:Nat,DX l (AJ l a ((most:Int)+1)) ((most:Int)+1)=(m0:Int):=⟨(DX l (AJ l a ((most:Int)+1)) ((most:Int)+1)).toNat,by omega⟩;rw[hm0] at n2 d1
  obtain⟨N,hN,eN⟩:∃N:Nat,N<=most/\(if (n0:Int)+m0<most then (n0:Int)+m0 else (most:Int))=N:=by
   by_cases q:(n0:Int)+m0<most
   ·exact⟨n0+m0,by omega,by rw[if_pos q]; omega⟩
   ·exact⟨most,by omega,by rw[if_neg q]⟩
  have ws:IntKind.i64.wrap ((n0:Int)+m0)=(n0:Int)+m0:=qc (by omega) (by omega);have n3:=qL l hl (AJ l (AJ l a ((most:Int)+1)) ((most:Int)+1)) 4 (by omega) [gZ,gB N []] (HZ N []);obtain⟨Es,a',⟨D,hD,eD⟩,e,hI⟩:=key N (AJ l (AJ l a ((most:Int)+1)) ((most:Int)+1)) hN;refine⟨N,Es,a',?_,fin N Es hN hI⟩;have wD:IntKind.i64.wrap (1+DX l (AJ l (AJ l a ((most:Int)+1)) ((most:Int)+1)) 4)=D:=by rw[qc (by omega) (by omega)]; omega
  rw[eD] at e;rw[fZ sQc (aF rfl)];unfold LO at e;rw[mB] at e;unfold dk gZ gB at *;rw[show iQ []=[] from rfl] at *;generalize DX l (AJ l (AJ l a ((most:Int)+1)) ((most:Int)+1)) 4=x4 at *;clear key hI;unfold qQc cQc;simp[BL,BK,BJ,BI,BH,BG,BF,BE,BD,BC,vo,vm,vl,vk,n1,n2,n3,e,wm,ws,h4',eN,wD,ER,eE,sQf,iQf,kK,fo,gQ,dh,kS,lQ,eU,eB,cT,ft,hU,nn,eV,mP,mQ,il,ku,ye,rM,ir,gL,aN,bf,bW,dF,fh,aY,bj,aX,ah,aZ,bG,cB,bU]
 ·have h4':¬(n0:Int)<4:=by omega
  have n3:=qL l hl (AJ l a ((most:Int)+1)) 4 (by omega) [gZ,gB n0 []] (HZ n0 []);obtain⟨Es,a',⟨D,hD,eD⟩,e,hI⟩:=key n0 (AJ l a ((most:Int)+1)) (by omega);refine⟨n0,Es,a',?_,fin n0 Es (by omega) hI⟩;have wD:IntKind.i64.wrap (1+DX l (AJ l a ((most:Int)+1)) 4)=D:=by rw[qc (by omega) (by omega)]; omega
  rw[eD] at e;rw[fZ sQc (aF rfl)];unfold LO at e;rw[mB] at e;unfold dk gZ gB at *;rw[show iQ []=[] from rfl] at *;generalize DX l (AJ l a ((most:Int)+1)) 4=x4 at *;clear key hI;unfold qQc cQc;simp[BL,BK,BJ,BI,BH,BG,BF,BE,BD,BC,vo,vm,vl,vk,n1,n3,e,wm,h4',wD,ER,eE,sQf,iQf,kK,fo,gQ,dh,kS,lQ,eU,eB,ku,ye,rM,ir,gL,aN,bf,bW,dF,fh,aY,bj,aX,ah,aZ,bG,cB,bU]
end Go.BmP
