/- Bipartite graphs as bits: plain facts. -/
import Derived.Test.YtbnheahpdodmjaaGreatDoorUseM
set_option linter.unusedVariables false
set_option linter.unusedSimpArgs false
open Bool renaming eq_iff_iff → vk
open List renaming getD_eq_getElem?_getD → au, mem_append → aF, pairwise_append → ue, replicate → aW, take_length → fe
open Nat renaming le_of_ble_eq_true → aB, or_lt_two_pow → Bz, testBit_or → iW, testBit_two_pow → xm
open Option renaming getD_some → dY
namespace Go.Bm
open Go.Am
def us (l:List Nat):List AV:=l.map fun n=>.int .u64 ((n:Nat):Int)
theorem gq (l:List Nat):(us l).length=l.length:=List.length_map _
theorem Px (l:List Nat) (i:Nat):(us l)[i]?=(l[i]?).map (fun n=>.int .u64 ((n:Nat):Int)):=List.getElem?_map
theorem Vo (l:List Nat) (i n:Nat):(us l).set i (.int .u64 (n:Int))=us (l.set i n):=by simp[us,List.map_set]
theorem ajd (n:Nat):aW n (AV.int .u64 0)=us (aW n 0):=by simp[us]
theorem afT (l:List Nat) (n:Nat):(us l).take n=us (l.take n):=by simp[us]
def Small (A:List Nat):Prop:=∀x∈A,x<18446744073709551616
theorem DY {v:Int} (h:v<64) (h0:0<=v):2 ^ v.toNat<18446744073709551616:=by
 have:=Nat.pow_lt_pow_right (a:=2) (by decide) (show v.toNat<64 by omega);exact this
def adF (A:List Nat) (e:Ed):List Nat:=
 (A.set e.1.toNat (A.getD e.1.toNat 0 ||| 2 ^ e.2.toNat)).set e.2.toNat ((A.set e.1.toNat (A.getD e.1.toNat 0 ||| 2 ^ e.2.toNat)).getD e.2.toNat 0 ||| 2 ^ e.1.toNat)
theorem Mt (A:List Nat) (e:Ed):(adF A e).length=A.length:=by simp[adF]
theorem wX {A:List Nat} (h:Small A) (i:Nat):A.getD i 0<18446744073709551616:=by
 rw[au];cases e:A[i]? with
 |none=>simp
 |some x=>exact h x (List.mem_of_getElem? e)
theorem Fe {A:List Nat} (h:Small A) {i n:Nat} (hn:n<18446744073709551616):Small (A.set i n):=by
 intro x hx;rcases List.mem_or_eq_of_mem_set hx with h1|h1
 ·exact h x h1
 ·omega
theorem Pf {A:List Nat} (h:Small A) {e:Ed} (h1:0<=e.1/\e.1<64) (h2:0<=e.2/\e.2<64):Small (adF A e):=by
 have s1:Small (A.set e.1.toNat (A.getD e.1.toNat 0 ||| 2 ^ e.2.toNat)):=Fe h (Bz (n:=64) (wX h _) (DY h2.2 h2.1));exact Fe s1 (Bz (n:=64) (wX s1 _) (DY h1.2 h1.1))
theorem ail {A:List Nat} {e:Ed} (h1:0<=e.1/\e.1.toNat<A.length) (h2:0<=e.2/\e.2.toNat<A.length) (qd:e.1≠e.2) (a b:Nat):((adF A e).getD a 0).testBit b=((A.getD a 0).testBit b||(decide ((a:Int)=e.1/\(b:Int)=e.2)||decide ((a:Int)=e.2/\(b:Int)=e.1))):=by
 have hn:e.1.toNat≠e.2.toNat:=by omega
 unfold adF;simp only[au,List.getElem?_set,List.length_set,if_neg hn,if_neg (Ne.symm hn)];by_cases ha:e.2.toNat=a
 ·subst ha;rw[if_pos rfl,if_pos h2.2];simp only[dY,iW,xm];congr 1;have e1:¬((e.2.toNat:Int)=e.1):=by omega
  have e2:((e.2.toNat:Int)=e.2):=by omega
  have e3:¬(e.2=e.1):=fun k=>qd k.symm;simp only[e1,e2,e3,false_and,true_and,decide_false,Bool.false_or];rw[vk,decide_eq_true_eq,decide_eq_true_eq]; omega
 ·rw[if_neg ha];have e2:¬((a:Int)=e.2):=by omega
  by_cases hb:e.1.toNat=a
  ·subst hb;rw[if_pos rfl,if_pos h1.2];simp only[dY,iW,xm];congr 1;have e1:((e.1.toNat:Int)=e.1):=by omega
   have e3:¬(e.1=e.2):=qd;simp only[e1,e2,e3,false_and,true_and,decide_false,Bool.or_false];rw[vk,decide_eq_true_eq,decide_eq_true_eq];omega
  ·rw[if_neg hb];have e1:¬((a:Int)=e.1):=by omega
   simp[e1,e2]
def Al (l:List Ed) (A:List Nat):List Nat:=l.foldl adF A
theorem Mr (N:Nat) (hN:N<=64):∀(l:List Ed) (A:List Nat),A.length=N->Small A->(∀e∈l,0<=e.1/\e.1<e.2/\e.2<(N:Int))->(Al l A).length=N/\Small (Al l A)/\∀ a b:Nat,((Al l A).getD a 0).testBit b=((A.getD a 0).testBit b||(decide (((a:Int),(b:Int))∈l)||decide (((b:Int),(a:Int))∈l)))
 |[],A,hl,hs,_=>⟨hl,hs,fun a b=>by simp[Al]⟩
 |e::r,A,hl,hs,h=>by
   have he:=h e (by simp);obtain⟨i1,i2,i3⟩:=Mr N hN r (adF A e) (by rw[Mt]; exact hl) (Pf hs (by omega) (by omega)) (fun x hx=>h x (by simp[hx]));refine⟨i1,i2,fun a b=>?_⟩;show ((Al r (adF A e)).getD a 0).testBit b=_;rw[i3,ail (by omega) (by omega) (by omega)];rw[vk];simp only[Bool.or_eq_true,decide_eq_true_eq,List.mem_cons,Prod.ext_iff];constructor
   ·rintro ((h|(h|h))|(h|h))
    ·exact .inl h
    ·exact .inr (.inl (.inl h))
    ·exact .inr (.inr (.inl ⟨h.2,h.1⟩))
    ·exact .inr (.inl (.inr h))
    ·exact .inr (.inr (.inr h))
   ·rintro (h|((h|h)|(h|h)))
    ·exact .inl (.inl h)
    ·exact .inl (.inr (.inl h))
    ·exact .inr (.inl h)
    ·exact .inl (.inr (.inr ⟨h.2,h.1⟩))
    ·exact .inr (.inr h)
def comL (A:List Nat) (side:Nat) (l:List Int):Nat:=l.foldl (fun s v=>s &&& A.getD v.toNat 0) side
structure BOK (N:Nat) (E:List Ed) (L:List Int):Prop where
 n:N<=64
 e:UpE E/\∀ e∈E,0<=e.1/\e.1<e.2/\e.2<(N:Int)
 l:Up L/\∀ x∈L,0<=x/\x<(N:Int)
 s:∀e∈E,e.1∈L ↔ ¬e.2∈L
def jn (E:List Ed) (a b:Int):Prop:=(a,b)∈E\/(b,a)∈E
instance (E:List Ed) (a b:Int):Decidable (jn E a b):=by unfold jn; infer_instance
def eB (N:Nat) (E:List Ed):List Nat:=Al E (aW N 0)
def rgt (N:Nat) (L:List Int):Nat:=(2 ^ N-1) &&& (18446744073709551615-yF L)
def cR (N:Nat) (E:List Ed) (L S:List Int):Nat:=comL (eB N E) (rgt N L) (bW (yF S))
def cL (N:Nat) (E:List Ed) (L:List Int) (r:Nat):Nat:=comL (eB N E) (yF L) (bW r)
def clR (N:Nat) (E:List Ed) (L S:List Int):List Int:=bW (cR N E L S)
def clL (N:Nat) (E:List Ed) (L S:List Int):List Int:=bW (cL N E L (cR N E L S))
end Go.Bm
/- What functions of cohesionmake return: Few, New, Mod, Next, Set. -/
set_option maxRecDepth 100000
set_option maxHeartbeats 4000000
namespace Go.BmP
open Go.Am Go.Bm
theorem Wb (n:Nat):(n+1<=n) ↔ False:=⟨fun h=>by omega,False.elim⟩
def dk (l:List Int) (at_:Nat):Vf:=some [.list 1 (ints l),.int .i64 at_]
theorem AN (l:List Int):bu an nQc [.list 1 (ints l)] []=some (.ptr 0 0,[dk l 0]):=by
 rw[eO sQc (aB rfl)];unfold qQc cQc dk;simp[aiF,aiE,mM,jR,gn,dc,cT,qS,aJ,aL,bz,cM,dG,aI,aP,aH,ah,aN,aZ,bM,bI]
theorem agZ (x k:Int) (h0:0<k) (h1:k<4611686018427387904):(IntKind.i64.wrap (x.tmod k+k)).tmod k=x%k:=by
 have e:x%k=(x.tmod k)%k:=by
  have:=Int.mul_tdiv_add_tmod x k
  conv=>lhs; rw[<-this]
  rw[Int.add_comm,Int.add_mul_emod_self_left]
 have h2:=Int.tmod_lt_of_pos x h0
 have h3:-k<x.tmod k:=by
  have:=Int.tmod_lt_of_pos (-x) h0;rw[Int.neg_tmod] at this;omega
 rw[nn (by omega) (by omega),Int.tmod_eq_emod_of_nonneg (by omega),e,Int.add_emod_right]
theorem aei (x k:Int) (h0:0<k) (h1:k<4611686018427387904):bu an nQt [.int .i64 x,.int .i64 k] []=some (.int .i64 (x%k),[]):=by
 rw[eO sQt (aB rfl),<-agZ x k h0 h1];have hk:¬k=0:=by omega
 unfold qQt cQt;simp[ait,ais,hk,aJ,aL,bz,cM,dG,aI,aP,aH,ah,aN,aZ,bM,bI]
def yc (l:List Int) (a:Nat) (n:Int):Int:=if n<1 then 0 else if l.length<=a then 0 else l.getD a 0%n
def oh (l:List Int) (a:Nat) (n:Int):Nat:=if n<1 then a else if l.length<=a then a else a+1
theorem KH (l:List Int) (a:Nat) {n:Int} (h:1<=n):0<=yc l a n/\yc l a n<n:=by
 unfold yc;rw[if_neg (by omega)];split
 ·omega
 ·exact⟨Int.emod_nonneg _ (by omega),Int.emod_lt_of_pos _ (by omega)⟩
def Rest (R:Heap):Prop:=(∀g,gn g R=R)/\kg R=true/\(∀p b,borH p b R=none)/\(∀f,Mk f R=false)/\∀ p b,ui p b R=[]
theorem abL (l:List Int) (hl:l.length<=9223372036854775807) (a:Nat) (n:Int) (hn:n<4611686018427387904) (R:Heap) (hR:Rest R):bu an KP [.ptr 0 0,.int .i64 n] (dk l a::R)=some (.int .i64 (yc l a n),dk l (oh l a n)::R):=by
 obtain⟨r1,r2,r3,r4,r5⟩:=hR;rw[eO sQf (aB rfl)];unfold qQf cQf yc oh dk;by_cases h0:n<1
 ·simp[Yz,Yy,Yx,Yw,Yv,Yu,h0,mM,jR,qS,r1,r2,r3,r4,r5,Wb,aJ,aL,bz,cM,dG,aI,aP,aH,ah,aN,aZ,bM,bI]
 ·have h0':¬n<1:=h0;by_cases h1:l.length<=a
  ·have h1':(l.length:Int)<=a:=by omega
   simp[Yz,Yy,Yx,Yw,Yv,Yu,h0,h1,h1',mM,jR,qS,r1,r2,r3,r4,r5,Wb,aJ,aL,bz,cM,dG,aI,aP,aH,ah,aN,aZ,bM,bI]
  ·have h1':¬(l.length:Int)<=a:=by omega
   have h2:a<l.length:=by omega
   have E6:(a:Int)<l.length:=by omega
   have hw:=dO (i:=a) (by omega);have hm:=aei l[a] n (by omega) hn;simp[Yz,Yy,Yx,Yw,Yv,Yu,h0,h1,h1',h2,E6,hw,hm,idx,sQt,iQt,mM,jR,qS,r1,r2,r3,r4,r5,Wb,aJ,aL,bz,cM,dG,aI,aP,aH,ah,aN,aZ,bM,bI]
theorem fT (l:List Int) (hl:l.length<=9223372036854775807) (a:Nat) (n:Int) (hn:n<4611686018427387904) (R:Heap) (hR:Rest R):bu an KP [.ptr 0 0,.int .i64 n] [dk l a]=some (.int .i64 (yc l a n),[dk l (oh l a n)]):=abL l hl a n hn [] ⟨fun _=>rfl,rfl,fun _ _=>rfl,fun _=>rfl,fun _ _=>rfl⟩
theorem Jb (l:List Int) (hl:l.length<=9223372036854775807) (N:Nat) (hN:N<=64) (R:Heap) (hR:Rest R):∀(k v a:Nat) (o:List Int),v+k=N->o.length<=v->Up o->(∀x∈o,0<=x/\x<(v:Int))->∃o' a',aY an (R.length+1) (.loop Tg) ⟨[(0,.ptr 0 0),(1,.int .i64 N),(5,.own 1 (ints o)),(6,.int .i64 v)],dk l a::R⟩=some (.exit 0,⟨[(0,.ptr 0 0),(1,.int .i64 N),(5,.own 1 (ints o')),(6,.int .i64 N),(9,.bool false)],dk l a'::R⟩)/\(o'.length<=N/\Up o'/\∀ x∈o',0<=x/\x<(N:Int))
 |0,v,a,o,hi,ho,hu,hb=>by
   obtain rfl:v=N:=by omega
   exact⟨o,a,bt (by unfold Tg dk; simp[RK,RJ,RI,RH,RG,RF,RE,RD,Wb,aJ,aL,bz,cM,dG,aI,aP,aH,ah,aN,aZ,bM,bI]),ho,hu,hb⟩
 |k+1,v,a,o,hi,ho,hu,hb=>by
   have h1:(v:Int)<N:=by omega
   have hw:=dO (i:=v) (by omega);have hL:o.length+1<=4294967296:=by omega
   have hx:=fT l hl a 2 (by omega) R hR;obtain⟨r1,r2,r3,r4,r5⟩:=hR;unfold dk at hx;by_cases he:yc l a 2=1
   ·obtain⟨o',a',e,p⟩:=Jb l hl N hN R ⟨r1,r2,r3,r4,r5⟩ k (v+1) (oh l a 2) (o++[(v:Int)]) (by omega) (by simp; omega) (by
     unfold Up; rw[ue];exact⟨hu,by simp,fun x hx y hy=>by simp at hy; subst hy; exact (hb x hx).2⟩) (fun x hx=>by
     rcases aF.1 hx with hx|hx
     ·have:=hb x hx; omega
     ·simp at hx; omega)
    exact⟨o',a',(aV (by unfold Tg dk; simp[RK,RJ,RI,RH,RG,RF,RE,RD,h1,hw,hL,hx,he,lU,dZ,cO,sQf,iQf,r1,r2,r3,r4,r5,jR,eZ,kg,eJ,pE,gW,ga,Wb,aJ,aL,bz,cM,dG,aI,aP,aH,ah,aN,aZ,bM,bI])).trans e,p⟩
   ·obtain⟨o',a',e,p⟩:=Jb l hl N hN R ⟨r1,r2,r3,r4,r5⟩ k (v+1) (oh l a 2) o (by omega) (by omega) hu (fun x hx=>by have:=hb x hx; omega);exact⟨o',a',(aV (by unfold Tg dk; simp[RK,RJ,RI,RH,RG,RF,RE,RD,h1,hw,hL,hx,he,lU,dZ,cO,sQf,iQf,r1,r2,r3,r4,r5,jR,eZ,kg,eJ,pE,gW,ga,Wb,aJ,aL,bz,cM,dG,aI,aP,aH,ah,aN,aZ,bM,bI])).trans e,p⟩
theorem af1 (l:List Int) (hl:l.length<=9223372036854775807) (N:Nat) (hN:N<=64) (R:Heap) (hR:Rest R) (a:Nat):∃o a',bu an nQg [.ptr 0 0,.int .i64 N] (dk l a::R)=some (.list 1 (ints o),dk l a'::R)/\(o.length<=N/\Up o/\∀ x∈o,0<=x/\x<(N:Int)):=by
 obtain⟨o,a',e,p⟩:=Jb l hl N hN R hR N 0 a [] (by omega) (by simp) (by simp[Up]) (by simp);refine⟨o,a',?_,p⟩;rw[fU,dE] at e;obtain⟨r1,r2,r3,r4,r5⟩:=hR;rw[eO sQg (aB rfl)];unfold dk at e ⊢;unfold qQg cQg;simp[RK,RJ,RI,RH,RG,RF,RE,RD,e,cO,mM,jR,qS,r1,r2,r3,r4,r5,Wb,aJ,aL,bz,cM,dG,aI,aP,aH,ah,aN,aZ,bM,bI]
/- What mk.Graph returns: a graph that is in order. -/
theorem I6 (l:List Ed) (x:Ed):(l++[x]).take (l.length+1)=l++[x]:=List.take_of_length_le (by simp)
def IVG (N:Nat) (o:List Ed) (u v:Nat):Prop:=UpE o/\(∀e∈o,0<=e.1/\e.1<e.2/\e.2<(N:Int))/\(∀e∈o,e.1<(u:Int)\/e.1=(u:Int)/\e.2<(v:Int))/\o.length<=u*64+v
theorem aeC {N:Nat} {o:List Ed} {u v:Nat} (h:IVG N o u v):IVG N o u (v+1):=
 ⟨h.1,h.2.1,fun e he=>by have:=h.2.2.1 e he; omega,by have:=h.2.2.2; omega⟩
theorem aha {N:Nat} {o:List Ed} {u v:Nat} (h:IVG N o u v) (huv:u<v) (hv:v<N):IVG N (o++[((u:Int),(v:Int))]) u (v+1):=by
 obtain⟨h1,h2,h3,h4⟩:=h;refine⟨?_,fun e he=>?_,fun e he=>?_,by simp; omega⟩
 ·unfold UpE;rw[ue];refine⟨h1,by simp,fun x hx y hy=>?_⟩;simp at hy;subst hy;have:=h3 x hx;unfold KZ;simp only;omega
 ·rcases aF.1 he with he|he
  ·exact h2 e he
  ·simp at he; subst he; exact⟨by simp,by simpa using huv,by simpa using hv⟩
 ·rcases aF.1 he with he|he
  ·have:=h3 e he; omega
  ·simp at he; subst he; simp; omega
def gZ:Vf:=some [.int .i64 0,.own 2 []]
def gB (N:Int) (o:List Ed):Vf:=some [.int .i64 N,.own 2 (dA o)]
theorem PG (N:Int) (o:List Ed):Rest [gZ,gB N o]:=⟨fun _=>rfl,rfl,fun _ _=>rfl,fun _=>rfl,fun _ _=>rfl⟩
theorem ajk:Rest [gZ]:=⟨fun _=>rfl,rfl,fun _ _=>rfl,fun _=>rfl,fun _ _=>rfl⟩
def M7 (l:List Int) (a N:Nat) (D:Int) (u v:Nat) (o:List Ed) (J:Env):St:=⟨(0,.ptr 0 0)::(4,.ptr 1 0)::(5,.ptr 2 0)::(6,.int .i64 D)::(7,.int .i64 u)::(8,.int .i64 v)::J,[dk l a,gZ,gB N o]⟩
theorem ahr (l:List Int) (hl:l.length<=9223372036854775807) (N:Nat) (hN:N<=64) (D:Int) (hD:0<=D/\D<=5) (u v a:Nat) (o:List Ed) (huv:u<v) (hv:v<N) (ho:o.length<=100000):∃a',aY an 1 K7 (M7 l a N D u v o [])=some (.normal,M7 l a' N D u (v+1) o [])\/aY an 1 K7 (M7 l a N D u v o [])=some (.normal,M7 l a' N D u (v+1) (o++[((u:Int),(v:Int))]) []):=by
 have h1:(v:Int)<N:=by omega
 have hw:=dO (i:=v) (by omega);have hL:o.length+1<=4294967296:=by omega
 have hx:=fT l hl a 5 (by omega) [gZ,gB N o] (PG N o);have w5:IntKind.i64.wrap (5-D)=5-D:=nn (by omega) (by omega);simp only[dk,gZ,gB] at hx;by_cases hd:5-D<=yc l a 5
 ·refine⟨oh l a 5,.inr ?_⟩;unfold K7 M7 dk gZ gB;simp[G2,G0,GZ,GY,GX,GW,GV,GU,GS,GR,zm,zk,zj,zi,h1,hw,hd,hL,hx,w5,lU,OR,EL,I6,sQf,iQf,jR,eZ,kg,eJ,pE,gW,ga,wx,nu,iP,gM,aJ,aL,bz,cM,dG,aI,aP,aH,ah,aN,aZ,bM,bI]
 ·refine⟨oh l a 5,.inl ?_⟩;unfold K7 M7 dk gZ gB;simp[G2,G0,GZ,GY,GX,GW,GV,GU,GS,GR,zm,zk,zj,zi,h1,hw,hd,hx,w5,sQf,iQf,jR,eZ,kg,eJ,pE,gW,ga,aJ,aL,bz,cM,dG,aI,aP,aH,ah,aN,aZ,bM,bI]
theorem g_in (l:List Int) (hl:l.length<=9223372036854775807) (N:Nat) (hN:N<=64) (D:Int) (hD:0<=D/\D<=5) (u:Nat):∀(k v a:Nat) (o:List Ed),v+k=N->u<v->IVG N o u v->∃a' o',aY an 1 (.loop K7) (M7 l a N D u v o [])=some (.exit 2,M7 l a' N D u N o' [(41,.bool false)])/\IVG N o' u N
 |0,v,a,o,hi,huv,hI=>by
   obtain rfl:v=N:=by omega
   refine⟨a,o,bt ?_,hI⟩;unfold K7 M7 dk gZ gB;simp[G2,G0,GZ,GY,GX,GW,GV,GU,GS,GR,zm,zk,zj,zi,aJ,aL,bz,cM,dG,aI,aP,aH,ah,aN,aZ,bM,bI]
 |k+1,v,a,o,hi,huv,hI=>by
   have hlen:=hI.2.2.2;obtain⟨a1,e|e⟩:=ahr l hl N hN D hD u v a o huv (by omega) (by omega)
   ·obtain⟨a',o',e2,hI2⟩:=g_in l hl N hN D hD u k (v+1) a1 o (by omega) (by omega) (aeC hI);exact⟨a',o',(aV e).trans e2,hI2⟩
   ·obtain⟨a',o',e2,hI2⟩:=g_in l hl N hN D hD u k (v+1) a1 _ (by omega) (by omega) (aha hI huv (by omega));exact⟨a',o',(aV e).trans e2,hI2⟩
def T7 (l:List Int) (a N:Nat) (D:Int) (u:Nat) (o:List Ed) (J:Env):St:=⟨(0,.ptr 0 0)::(4,.ptr 1 0)::(5,.ptr 2 0)::(6,.int .i64 D)::(7,.int .i64 u)::J,[dk l a,gZ,gB N o]⟩
theorem aiZ (l:List Int) (hl:l.length<=9223372036854775807) (N:Nat) (hN:N<=64) (D:Int) (hD:0<=D/\D<=5):∀(k u a:Nat) (o:List Ed),u+k=N->IVG N o u 0->∃a' o',aY an 1 (.loop Ti) (T7 l a N D u o [])=some (.exit 0,T7 l a' N D N o' [(33,.bool false)])/\IVG N o' N 0
 |0,u,a,o,hi,hI=>by
   obtain rfl:u=N:=by omega
   refine⟨a,o,bt ?_,hI⟩;unfold Ti T7 dk gZ gB;simp[G2,G0,GZ,GY,GX,GW,GV,GU,GS,GR,zm,zk,zj,zi,aJ,aL,bz,cM,dG,aI,aP,aH,ah,aN,aZ,bM,bI]
 |k+1,u,a,o,hi,hI=>by
   have h1:(u:Int)<N:=by omega
   have hw:=dO (i:=u) (by omega);have hI1:IVG N o u (u+1):=⟨hI.1,hI.2.1,fun e he=>by have:=hI.2.2.1 e he; have:=(hI.2.1 e he).1; omega,by have:=hI.2.2.2; omega⟩;obtain⟨a1,o1,e1,hI2⟩:=g_in l hl N hN D hD u (N-(u+1)) (u+1) a o (by omega) (by omega) hI1;have hI3:IVG N o1 (u+1) 0:=⟨hI2.1,hI2.2.1,fun e he=>by have:=hI2.2.2.1 e he; omega,by have:=hI2.2.2.2; omega⟩;obtain⟨a',o',e2,hI4⟩:=aiZ l hl N hN D hD k (u+1) a1 o1 (by omega) hI3;refine⟨a',o',(aV ?_).trans e2,hI4⟩;unfold M7 dk gZ gB at e1;rw[show ((u+1:Nat):Int)=(u:Int)+1 from rfl] at e1;unfold Ti T7 dk gZ gB;simp[G2,G0,GZ,GY,GX,GW,GV,GU,GS,GR,zm,zk,zj,zi,h1,hw,e1,aJ,aL,bz,cM,dG,aI,aP,aH,ah,aN,aZ,bM,bI]
theorem abT (l:List Int) (hl:l.length<=9223372036854775807) (most:Nat) (hm:most<=60) (a:Nat):∃N Es a',bu an nQd [.ptr 0 0,.int .i64 most] [dk l a]=some (.agg [.int .i64 (N:Nat),.list 2 (dA Es)],[dk l a'])/\tV (N:Int) Es/\N<=most/\Es.length<=10000:=by
 have n1:=fT l hl a ((most:Int)+1) (by omega) [gZ] ajk;obtain⟨b0,b1⟩:=KH l a (n:=(most:Int)+1) (by omega);have wm:=dO (i:=most) (by omega)
 -- the number of nodes, drawn once or twice
 obtain⟨n0,hn0⟩:∃n0:Nat,yc l a ((most:Int)+1)=(n0:Int):=⟨(yc l a ((most:Int)+1)).toNat,by omega⟩;rw[hn0] at n1 b1
 have key:∀(N a2:Nat),N<=most->∃Es a',(∃D:Int,(0<=D/\D<=5)/\yc l a2 4+1=D)/\aY an 1 (.loop Ti) (T7 l (oh l a2 4) N (yc l a2 4+1) 0 [] [])=some (.exit 0,T7 l a' N (yc l a2 4+1) N Es [(33,.bool false)])/\IVG N Es N 0:=by
  intro N a2 hN;obtain⟨c0,c1⟩:=KH l a2 (n:=4) (by omega);obtain⟨a',Es,e,hI⟩:=aiZ l hl N (by omega) (yc l a2 4+1) (by omega) N 0 (oh l a2 4) [] (by omega) ⟨by simp[UpE],by simp,by simp,by simp⟩;exact⟨Es,a',⟨_,by omega,rfl⟩,e,hI⟩
 have fin:∀(N:Nat) (Es:List Ed),N<=most->IVG N Es N 0->tV (N:Int) Es/\N<=most/\Es.length<=10000:=fun N Es hN hI=>⟨⟨by omega,hI.1,hI.2.1⟩,hN,by have:=hI.2.2.2; omega⟩;by_cases h4:n0<4
 ·-- a second draw
  have h4':(n0:Int)<4:=by omega
  have n2:=fT l hl (oh l a ((most:Int)+1)) ((most:Int)+1) (by omega) [gZ,gB n0 []] (PG n0 []);obtain⟨d0,d1⟩:=KH l (oh l a ((most:Int)+1)) (n:=(most:Int)+1) (by omega);obtain⟨m0,hm0⟩:∃m0:Nat,yc l (oh l a ((most:Int)+1)) ((most:Int)+1)=(m0:Int):=⟨(yc l (oh l a ((most:Int)+1)) ((most:Int)+1)).toNat,by omega⟩;rw[hm0] at n2 d1
  obtain⟨N,hN,eN⟩:∃N:Nat,N<=most/\(if (n0:Int)+m0<most then (n0:Int)+m0 else (most:Int))=N:=by
   by_cases q:(n0:Int)+m0<most
   ·exact⟨n0+m0,by omega,by rw[if_pos q]; omega⟩
   ·exact⟨most,by omega,by rw[if_neg q]⟩
  have ws:IntKind.i64.wrap ((n0:Int)+m0)=(n0:Int)+m0:=nn (by omega) (by omega);have n3:=fT l hl (oh l (oh l a ((most:Int)+1)) ((most:Int)+1)) 4 (by omega) [gZ,gB N []] (PG N []);obtain⟨Es,a',⟨D,hD,eD⟩,e,hI⟩:=key N (oh l (oh l a ((most:Int)+1)) ((most:Int)+1)) hN;refine⟨N,Es,a',?_,fin N Es hN hI⟩;have wD:IntKind.i64.wrap (1+yc l (oh l (oh l a ((most:Int)+1)) ((most:Int)+1)) 4)=D:=by rw[nn (by omega) (by omega)]; omega
  rw[eD] at e;rw[eO sQd (aB rfl)];unfold T7 at e;rw[fU] at e;unfold dk gZ gB at *;rw[show dA []=[] from rfl] at *;generalize yc l (oh l (oh l a ((most:Int)+1)) ((most:Int)+1)) 4=x4 at *;clear key hI;unfold qQd cQd;simp[G2,G0,GZ,GY,GX,GW,GV,GU,GS,GR,zm,zk,zj,zi,n1,n2,n3,e,wm,ws,h4',eN,wD,EL,fe,sQf,iQf,jR,eZ,kg,eJ,pE,qS,gW,ga,eS,lj,pB,zz,iy,yz,tS,nJ,mM,wx,nu,iP,gM,aJ,aL,bz,cM,dG,aI,aP,aH,ah,aN,aZ,bM,bI]
 ·have h4':¬(n0:Int)<4:=by omega
  have n3:=fT l hl (oh l a ((most:Int)+1)) 4 (by omega) [gZ,gB n0 []] (PG n0 []);obtain⟨Es,a',⟨D,hD,eD⟩,e,hI⟩:=key n0 (oh l a ((most:Int)+1)) (by omega);refine⟨n0,Es,a',?_,fin n0 Es (by omega) hI⟩;have wD:IntKind.i64.wrap (1+yc l (oh l a ((most:Int)+1)) 4)=D:=by rw[nn (by omega) (by omega)]; omega
  rw[eD] at e;rw[eO sQd (aB rfl)];unfold T7 at e;rw[fU] at e;unfold dk gZ gB at *;rw[show dA []=[] from rfl] at *;generalize yc l (oh l a ((most:Int)+1)) 4=x4 at *;clear key hI;unfold qQd cQd;simp[G2,G0,GZ,GY,GX,GW,GV,GU,GS,GR,zm,zk,zj,zi,n1,n3,e,wm,h4',wD,EL,fe,sQf,iQf,jR,eZ,kg,eJ,pE,qS,gW,ga,mM,wx,nu,iP,gM,aJ,aL,bz,cM,dG,aI,aP,aH,ah,aN,aZ,bM,bI]
end Go.BmP
