/- Peeling a graph node by node, in plain words: buckets of nodes by degree. -/
import Derived.Test.YtbnheahpdodmjabGreatDoorMxP
import Derived.Test.YtbnheahpdodmjabGreatDoorCoT
set_option linter.unusedSimpArgs false
set_option linter.unusedVariables false
open Bool renaming and_eq_true → ae
open Classical renaming byContradiction → qP
open List renaming drop_eq_getElem_cons → bz, drop_zero → cP, foldl_cons → dV, getD_eq_getElem?_getD → aG, getElem?_eq_getElem → aj, length_set → cF, mem_cons_of_mem → cK, mem_cons_self → cI, mem_filter → fV, mem_range → iP, nodup_cons → mh, nodup_range → NG, range → eP, take_of_length_le → aT
open Nat renaming and_le_left → fU, lt_of_le_of_lt → dI, pow_lt_pow_right → oU, testBit_and → bW
open Option.some renaming inj → bj
namespace Go.BmP
open Go.Am Go.Bm
theorem nH (D:List Nat) (i j x:Nat) (h:i<D.length):(D.set i x).getD j 0=if j=i then x else D.getD j 0:=by
 rw[aG,List.getElem?_set,aG];by_cases e:i=j
 ·subst e; rw[if_pos rfl,if_pos h,if_pos rfl]; rfl
 ·rw[if_neg e,if_neg fun q=>e q.symm]
def dgM (A:List Nat) (m v:Nat):Nat:=vK (m &&& A.getD v 0)
structure Si (N m:Nat) (D B:List Nat):Prop where
 NR:D.length=N
 xq:B.length=64
 sm:∀d,B.getD d 0<18446744073709551616
 bit:∀d j,d<64->(B.getD d 0).testBit j=(m.testBit j&&decide (D.getD j 0=d))
 rng:∀j,m.testBit j=true->j<N
 deg:∀v,D.getD v 0<64
def Qw (B:List Nat) (w e:Nat):List Nat:=B.set (e+1) (wo (B.getD (e+1) 0) w)
def buB (B:List Nat) (w e:Nat):List Nat:=(Qw B w e).set e ((Qw B w e).getD e 0 ||| 2 ^ w)
theorem aa5 {N m:Nat} {D B:List Nat} (h:Si N m D B) (hN:N<=64) {w e:Nat} (hw:m.testBit w=true) (hd:D.getD w 0=e+1):Si N m (D.set w e) (buB B w e):=by
 have hwN:=h.rng w hw;have he:e+1<64:=by have:=h.deg w; omega
 have hl:e+1<B.length:=by rw[h.xq]; exact he
 have lA:(Qw B w e).length=64:=by unfold Qw; rw[cF,h.xq]
 have hp:2 ^ w<18446744073709551616:=oU (by decide) (by omega:w<64);have gA:∀d,(Qw B w e).getD d 0=if d=e+1 then wo (B.getD (e+1) 0) w else B.getD d 0:=fun d=>nH _ _ _ _ hl
 have gB:∀d,(buB B w e).getD d 0=if d=e then B.getD e 0 ||| 2 ^ w else if d=e+1 then wo (B.getD (e+1) 0) w else B.getD d 0:=fun d=>by
  have g0:=gA e;rw[if_neg (by omega)] at g0;unfold buB;rw[nH _ _ _ _ (by rw[lA]; omega),g0,gA]
 have gD:∀j,(D.set w e).getD j 0=if j=w then e else D.getD j 0:=fun j=>nH _ _ _ _ (by rw[h.NR]; exact hwN);refine⟨by rw[cF,h.NR],by unfold buB; rw[cF,lA],fun d=>?_,fun d j hd64=>?_,h.rng,fun v=>?_⟩
 ·rw[gB];split
  ·exact Nat.or_lt_two_pow (n:=64) (h.sm e) hp
  ·split
   ·exact dI fU (h.sm _)
   ·exact h.sm d
 ·rw[gB,gD];by_cases q:d=e
  ·subst q;rw[if_pos rfl,Nat.testBit_or,Nat.testBit_two_pow,h.bit d j (by omega)];by_cases z:j=w
   ·subst z;rw[if_pos rfl,hw]; simp
   ·rw[if_neg z];have z':¬w=j:=fun k=>z k.symm;simp[z']
  ·rw[if_neg q];by_cases q2:d=e+1
   ·subst q2;rw[if_pos rfl,mA (h.sm _) (by omega),h.bit _ j he];by_cases z:j=w
    ·subst z;rw[if_pos rfl];simp
    ·rw[if_neg z];simp[z]
   ·rw[if_neg q2,h.bit d j hd64];by_cases z:j=w
    ·subst z;rw[if_pos rfl,hd];have e1:¬e+1=d:=by omega
     have e2:¬e=d:=by omega
     simp[e1,e2]
    ·rw[if_neg z]
 ·rw[gD];split
  ·omega
  ·exact h.deg v
def dcS (s:List Nat × List Nat) (w:Nat):List Nat × List Nat:=(s.1.set w (s.1.getD w 0-1),buB s.2 w (s.1.getD w 0-1))
theorem TQ {N m:Nat} (hN:N<=64):∀(W:List Nat) (D B:List Nat),Si N m D B->W.Nodup->(∀w∈W,m.testBit w=true/\0<D.getD w 0)->Si N m (W.foldl dcS (D,B)).1 (W.foldl dcS (D,B)).2/\∀ j,(W.foldl dcS (D,B)).1.getD j 0=D.getD j 0-(if j∈W then 1 else 0)
 |[],D,B,h,_,_=>⟨h,fun j=>by simp⟩
 |w::W,D,B,h,hn,hw=>by
   obtain⟨n1,n2⟩:=mh.1 hn;obtain⟨w1,w2⟩:=hw w cI;have h1:=aa5 h hN w1 (e:=D.getD w 0-1) (by omega);have gD:∀j,(D.set w (D.getD w 0-1)).getD j 0=if j=w then D.getD w 0-1 else D.getD j 0:=fun j=>nH _ _ _ _ (by rw[h.NR]; exact h.rng w w1)
   obtain⟨a,b⟩:=TQ hN W _ _ h1 n2 fun x hx=>by
    have qF:x≠w:=fun q=>n1 (q▸hx);rw[gD,if_neg qF];exact hw x (cK _ hx)
   refine⟨a,fun j=>?_⟩;rw[dV];show (W.foldl dcS (dcS (D,B) w)).1.getD j 0=_;have:=b j;unfold dcS at this ⊢;rw[this,gD];by_cases q:j=w
   ·subst q;rw[if_pos rfl,if_neg n1,if_pos cI]; rfl
   ·rw[if_neg q];have:(j∈w::W) ↔ j∈W:=by simp[q]
    simp only[this]
theorem afd {m a v:Nat} (hm:m<18446744073709551616) (hv:v<64):vK (wo m v &&& a)=vK (m &&& a)-(if m.testBit v=true/\a.testBit v=true then 1 else 0):=by
 unfold vK
 have e:((eP 64).filter fun j=>(wo m v &&& a).testBit j)=((eP 64).filter fun j=>(m &&& a).testBit j).erase v:=by
  rw[List.Nodup.erase_eq_filter (NG.filter _),List.filter_filter];congr 1;funext j;rw[bW,bW,mA hm hv];by_cases q:j=v
  ·subst q; simp
  ·have:(j != v)=true:=by simp[q]
   rw[this];simp[q]
 rw[e];by_cases q:m.testBit v=true/\a.testBit v=true
 ·rw[if_pos q,List.length_erase_of_mem (fV.2 ⟨iP.2 hv,by rw[bW,q.1,q.2]; rfl⟩)]
 ·rw[if_neg q,List.erase_of_not_mem]
  ·rfl
  ·intro hm;have:=(fV.1 hm).2;rw[bW] at this;simp only[ae] at this;exact q this
theorem Rb {x j:Nat} (hj:j<64) (h:x.testBit j=true):0<vK x:=List.length_pos_of_mem (fV.2 ⟨iP.2 hj,h⟩)
def Pick (A:List Nat) (m v d:Nat):Prop:=v<64/\m.testBit v=true/\dgM A m v=d/\∀ j,m.testBit j=true->d<dgM A m j\/(d=dgM A m j/\v<=j)
inductive AO (A:List Nat):Nat->List Nat->List Nat->Prop
 |nil:AO A 0 [] []
 |cons {m v d:Nat} {o ds:List Nat}:Pick A m v d->AO A (wo m v) o ds->AO A m (v::o) (d::ds)
def sK:List Nat->List Nat->Nat->List Int->List Int
 |v::o,d::ds,k,L=>sK o ds (max k d) (L.set v ((max k d:Nat):Int))
 |_,_,_,L=>L
structure Pst (A:List Nat) (N m:Nat) (D B:List Nat):Prop where
 cR:Si N m D B
 lt:m<18446744073709551616
 deg:∀j,m.testBit j=true->D.getD j 0=dgM A m j
theorem acV {A:List Nat} {N m:Nat} {D B:List Nat} (h:Pst A N m D B) (hN:N<=64) (h0:m≠0):∃d,d<64/\B.getD d 0≠0/\∀ e,e<d->B.getD e 0=0:=by
 obtain⟨t1,_⟩:=zm h0 h.lt;have hD:=h.cR.deg (tz m)
 have hb:B.getD (D.getD (tz m) 0) 0≠0:=fun q=>by
  have:=h.cR.bit (D.getD (tz m) 0) (tz m) hD;rw[q,t1] at this;simp at this
 have key:∀n,n<64->B.getD n 0≠0->∃d,d<64/\B.getD d 0≠0/\∀ e,e<d->B.getD e 0=0:=by
  intro n
  induction n using Nat.strongRecOn with
  |ind n ih=>
    intro h1 h2;by_cases q:∃e,e<n/\B.getD e 0≠0
    ·obtain⟨e,e1,e2⟩:=q;exact ih e e1 (by omega) e2
    ·exact⟨n,h1,h2,fun e he=>qP fun k=>q ⟨e,he,k⟩⟩
 exact key _ hD hb
theorem TN {A:List Nat} {N m:Nat} {D B:List Nat} (h:Pst A N m D B) (hN:N<=64) {d:Nat} (hd:d<64) (hb:B.getD d 0≠0) (hz:∀e,e<d->B.getD e 0=0):Pick A m (tz (B.getD d 0)) d/\tz (B.getD d 0)<N/\D.getD (tz (B.getD d 0)) 0=d:=by
 obtain⟨t1,t2⟩:=zm hb (h.cR.sm d);have RR:=h.cR.bit d (tz (B.getD d 0)) hd;rw[t1] at RR;have RR:=RR.symm;simp only[ae,decide_eq_true_eq] at RR;have hv:=h.cR.rng _ RR.1;refine⟨⟨by omega,RR.1,by rw[<-h.deg _ RR.1]; exact RR.2,fun j hj=>?_⟩,hv,RR.2⟩;rw[<-h.deg j hj];have hj64:=h.cR.deg j;have b1:=h.cR.bit (D.getD j 0) j hj64;rw[hj] at b1;simp only[Bool.true_and,decide_true] at b1;by_cases q:D.getD j 0<d
 ·rw[hz _ q] at b1; simp at b1
 ·by_cases q2:D.getD j 0=d
  ·right;refine⟨q2.symm,?_⟩;apply qP;intro k;have:=t2 j (by omega);rw[q2] at b1;rw[b1] at this; cases this
  ·left; omega
theorem aa4 {N m:Nat} {D B:List Nat} (h:Si N m D B) (hm:m<18446744073709551616) {v:Nat} (hv:v<64) {d:Nat} (hd:d<64) (hD:D.getD v 0=d):Si N (wo m v) D (B.set d (wo (B.getD d 0) v)):=by
 have gB:∀e,(B.set d (wo (B.getD d 0) v)).getD e 0=if e=d then wo (B.getD d 0) v else B.getD e 0:=fun e=>nH _ _ _ _ (by rw[h.xq]; exact hd);refine⟨h.NR,by rw[cF,h.xq],fun e=>?_,fun e j he=>?_,fun j hj=>?_,h.deg⟩
 ·rw[gB];split
  ·exact dI fU (h.sm _)
  ·exact h.sm e
 ·rw[gB,mA hm hv];by_cases q:e=d
  ·subst q;rw[if_pos rfl,mA (h.sm _) hv,h.bit _ j hd];cases m.testBit j<;>simp[Bool.and_comm]
  ·rw[if_neg q,h.bit e j he];by_cases z:j=v
   ·subst z;rw[hD];have:¬d=e:=fun k=>q k.symm;simp[this]
   ·simp[z]
 ·rw[mA hm hv] at hj;simp only[ae] at hj;exact h.rng j hj.1
def GK (A:List Nat):Prop:=∀a b:Nat,(A.getD a 0).testBit b=(A.getD b 0).testBit a
theorem ae3 {A:List Nat} {N m:Nat} {D B:List Nat} (hS:GK A) (hI:∀a,(A.getD a 0).testBit a=false) (h:Pst A N m D B) (hN:N<=64) {d v:Nat} (hd:d<64) (hv:v<N) (hb:m.testBit v=true) (hD:D.getD v 0=d) (W:List Nat) (hn:W.Nodup) (hW:∀w,w∈W ↔ (A.getD v 0 &&& wo m v).testBit w=true) :
  Pst A N (wo m v) (W.foldl dcS (D,B.set d (wo (B.getD d 0) v))).1 (W.foldl dcS (D,B.set d (wo (B.getD d 0) v))).2:=by
 have Vh:v<64:=by omega
 have h1:=aa4 h.cR h.lt Vh hd hD
 have hw:∀w∈W,(wo m v).testBit w=true/\0<D.getD w 0:=fun w hw=>by
  have:=(hW w).1 hw;rw[bW,mA h.lt Vh] at this;simp only[ae,decide_eq_true_eq] at this;obtain⟨q1,q2,q3⟩:=this;refine⟨by rw[mA h.lt Vh,q2]; simp[q3],?_⟩;rw[h.deg w q2];exact Rb Vh (by rw[bW,hb,hS w v,q1]; rfl)
 obtain⟨a,b⟩:=TQ hN W D _ h1 hn hw;refine⟨a,dI fU h.lt,fun j hj=>?_⟩;rw[b];have SE:=hj;rw[mA h.lt Vh] at SE;simp only[ae,decide_eq_true_eq] at SE;rw[h.deg j SE.1];unfold dgM;rw[afd h.lt Vh];congr 1
 have:(j∈W) ↔ (m.testBit v=true/\(A.getD j 0).testBit v=true):=by
  rw[hW,bW,hj,hS j v,hb];simp
 simp only[this]
theorem TP {A:List Nat}:∀{m:Nat} {o ds:List Nat},m<18446744073709551616->AO A m o ds->(∀j,j∈o ↔ m.testBit j=true)/\o.Nodup/\ds.length=o.length
 |_,_,_,_,.nil=>⟨fun j=>by simp,List.nodup_nil,rfl⟩
 |m,_,_,hm,.cons (v:=v) hp hr=>by
   obtain⟨a,b,c⟩:=TP (m:=wo m v) (dI fU hm) hr;refine⟨fun j=>?_,mh.2 ⟨fun q=>?_,b⟩,by simp[c]⟩
   ·rw[List.mem_cons,a,mA hm hp.1];by_cases q:j=v
    ·subst q; simp[hp.2.1]
    ·simp[q]
   ·rw[a,mA hm hp.1] at q;simp at q
/- core.peel: a neighbour's number falls by one (the inner loop). -/
set_option maxRecDepth 100000
set_option maxHeartbeats 8000000
def ns (l:List Nat):List Int:=l.map fun n=>((n:Nat):Int)
theorem ac9 (L:List Int) (i:Nat) (x:Int):ints (L.set i x)=(ints L).set i (.int .i64 x):=by unfold ints; rw[List.map_set]
theorem l7 (l:List Nat):(ns l).length=l.length:=List.length_map _
theorem afE (l:List Nat) (i:Nat) (h:i<l.length) (h2:i<(ints (ns l)).length):(ints (ns l))[i]=.int .i64 (l.getD i 0:Nat):=by
 rw[bu];simp[ns,aG,aj h]
theorem afD (l:List Nat) (i x:Nat):ints (ns (l.set i x))=(ints (ns l)).set i (.int .i64 (x:Int)):=by simp[ns,ints,List.map_set]
theorem WK (l:List Nat) (i:Nat) (h:i<l.length) (h2:i<(us l).length):(us l)[i]=.int .u64 (l.getD i 0:Nat):=by
 have g:(us l)[i]?=some (.int .u64 (l.getD i 0:Nat)):=by
  rw[QM,aj h,aG,aj h]; rfl
 rw[aj h2] at g;exact bj g
theorem E3 (l:List Nat):∀(f:Nat->Rt) (n:Nat),fj f n (us l)=us l:=by
 induction l with
 |nil=>intro f n; rfl
 |cons x r ih=>intro f n; simp only[us,List.map_cons,fj] at ih ⊢; rw[ih]
structure Bx (D:List AV):Prop where
 bo:dz D=[]
 ow:bS D=false
 mp:∀g,dp g D=D
 bc:∀p f n,Sc p f n D=none
 pl:dc D=true
 np:∀b,lH b D=true
 pp:dm D=true
 fz:FG D=true
 fl:aC D=D
 fr:Ca D=some D
theorem Cd (l:List Nat):Bx (us l):=by
 induction l with
 |nil=>exact⟨rfl,rfl,fun _=>rfl,fun _ _ _=>rfl,rfl,fun _=>rfl,rfl,rfl,rfl,rfl⟩
 |cons x r ih=>
   refine⟨ih.bo,ih.ow,fun g=>?_,fun p f n=>?_,ih.pl,fun b=>ih.np b,ih.pp,ih.fz,?_,?_⟩
   ·show AV.int .u64 x::dp g (us r)=_;rw[ih.mp]; rfl
   ·exact ih.bc p f (n+1)
   ·show[AV.int .u64 x]++aC (us r)=_;rw[ih.fl]; rfl
   ·show (match Ym (.int .u64 x),Ca (us r) with|some y,some ys=>some (y::ys)|_,_=>none)=_;rw[ih.fr]; rfl
def uh (N:Int) (Y:List AV):Wy:=some [.int .i64 N,.list 2 Y]
def pin (N:Int) (Y:List AV) (O L:List Int) (A D B:List Nat) (left:Nat) (k:Int) (d:Int) (W:List Int) (j:Int) (J:Env):St:=
 ⟨(2,.own 1 (ints O))::(3,.own 1 (ints L))::(4,.list 1 (us A))::(5,.ptr 2 0)::(6,.own 1 (ints (ns D)))::(9,.int .u64 left)::(10,.int .i64 k)::(90,.list 1 (ints W))::(91,.int .i64 W.length)::(92,.int .i64 j)::J,[uh N Y,uh N Y,some (us B)]⟩
theorem Fx (l:List Nat) (i x:Nat) (h:i<l.length):(us l).drop i=.int .u64 (l.getD i 0:Nat)::(us l).drop (i+1)/\(us l).take i++.int .u64 (x:Int)::(us l).drop (i+1)=us (l.set i x):=by
 have h2:i<(us l).length:=by rw[gL]; exact h
 refine⟨by rw[bz h2,WK l i h],?_⟩;rw[<-WJ,List.set_eq_take_append_cons_drop,if_pos h2]
theorem afc (N:Int) (Y:List AV) (O L:List Int) (A D B:List Nat) (left:Nat) (k d:Int) (W:List Int) (hW:W.length<65) (j:Nat) (hj:j<W.length) (w e:Nat) (hw:W[j]=(w:Int)) (hw64:w<64) (hwD:w<D.length) (he:D.getD w 0=e+1) (he64:e+1<64) (lB:B.length=64) (sm:∀d,B.getD d 0<18446744073709551616):aW aq 2 UW (pin N Y O L A D B left k d W j [])=some (.normal,pin N Y O L A (D.set w e) (buB B w e) left k d W ((j+1:Nat):Int) []):=by
 have j1:(j:Int)<W.length:=by omega
 have wr:=dA (i:=j) (by omega);have gw:∀h,(ints W)[j]'h=.int .i64 (w:Int):=fun h=>by rw[bu,hw]
 have lW:=ah W;have mb:=EV w hw64;have w1:(w:Int)<D.length:=by omega
 have lD:(ints (ns D)).length=D.length:=by rw[ah,l7]
 have lD2:(ints (ns (D.set w e))).length=D.length:=by rw[ah,l7,cF]
 have gD:∀h,(ints (ns D))[w]'h=.int .i64 ((e+1:Nat):Int):=fun h=>by rw[afE D w hwD,he]
 have gD2:∀h,(ints (ns (D.set w e)))[w]'h=.int .i64 (e:Int):=fun h=>by
  rw[afE _ w (by rw[cF]; exact hwD),nH _ _ _ _ hwD,if_pos rfl]
 have sD:=(afD D w e).symm;have hp:2 ^ w<18446744073709551616:=oU (by decide) (by omega:w<64);have a1:=u64_andNot_nat (B.getD (e+1) 0) (2 ^ w) (sm _) hp;obtain⟨b1,b2⟩:=Fx B (e+1) (wo (B.getD (e+1) 0) w) (by omega);have lA:(Qw B w e).length=64:=by unfold Qw; rw[cF,lB]
 have gA:(Qw B w e).getD e 0<18446744073709551616:=by
  unfold Qw;rw[nH _ _ _ _ (by omega),if_neg (by omega)]; exact sm _
 have a2:=u64_or_nat ((Qw B w e).getD e 0) (2 ^ w) gA hp;obtain⟨c1,c2⟩:=Fx (Qw B w e) e ((Qw B w e).getD e 0 ||| 2 ^ w) (by omega);have f1:us (B.set (e+1) (wo (B.getD (e+1) 0) w))=us (Qw B w e):=rfl;have f2:us ((Qw B w e).set e ((Qw B w e).getD e 0 ||| 2 ^ w))=us (buB B w e):=rfl;rw[f1] at b2;rw[f2] at c2;have f3:(((B.getD (e+1) 0 &&& (18446744073709551615-2 ^ w):Nat):Int))=((wo (B.getD (e+1) 0) w:Nat):Int):=rfl;rw[f3] at a1;have n1:=E3 B;have n2:=E3 (Qw B w e);have lu:(us B).length=64:=by rw[gL,lB]
 have lu2:(us (Qw B w e)).length=64:=by rw[gL,lA]
 have e1:((e:Int)+1)<64:=by omega
 have e2:(e:Int)<64:=by omega
 have e3:¬((e:Int)+1)<0:=by omega
 have e4:(0:Int)<=(e:Int)+1:=by omega
 have e5:((e:Int)+1).toNat=e+1:=by omega
 have e6:e<=63:=by omega
 have e7:e+1<=63:=by omega
 have e8:e<=62:=by omega
 have ws:IntKind.i64.wrap (((e:Int)+1)-1)=(e:Int):=by rw[show ((e:Int)+1)-1=e by omega]; exact I9 (by omega)
 have es:((e+1:Nat):Int)-1=(e:Int):=by omega
 have wn:=I9 (i:=e) (by omega);unfold pin uh;generalize wo (B.getD (e+1) 0) w=z1 at *;generalize (Qw B w e).getD e 0 ||| 2 ^ w=z2 at *
 generalize (Qw B w e).getD e 0=z3 at *;generalize B.getD (e+1) 0=z4 at *;generalize us (buB B w e)=U3 at *;generalize us (Qw B w e)=U2 at *;generalize us B=U1 at *;generalize ints (ns (D.set w e))=D2 at *;generalize ints (ns D)=D1 at *;generalize ints W=W1 at *;generalize ints O=O1 at *;generalize ints L=L1 at *;generalize us A=A1 at *;clear sm gA hw he f1 f2 f3 hp;generalize 2 ^ w=p2 at *;unfold UW;simp[yE,yD,yC,yB,yA,yz,yy,yx,yw,yu,sJ,sI,sG,sF,sE,sC,sB,sy,sx,ss,sr,sk,sj,si,sg,sd,sa,rZ,rY,rX,rW,rV,rU,j1,hj,wr,gw,lW,mb,w1,hwD,lD,lD2,gD,gD2,sD,a1,a2,b1,b2,c1,c2,n1,n2,lu,lu2,e1,e2,e3,e4,e5,e6,e7,e8,ws,es,wn,idx,aH,IntKind.bits,sQM,iQM]
/- core.peel: a node is taken (the scan of the buckets). -/
theorem ami {l:List Nat} {j:Nat} (h:j<(ns l).length):(ns l)[j]=((l[j]'(by rwa [l7] at h):Nat):Int):=by simp[ns]
theorem akw (N:Int) (Y:List AV) (O L:List Int) (A:List Nat) (left:Nat) (k d:Int) (W:List Nat) (hW:W.length<65) {n m:Nat} (hn:n<=64):∀(c j:Nat) (D B:List Nat),j+c=W.length->Si n m D B->(W.drop j).Nodup->(∀w∈W.drop j,m.testBit w=true/\0<D.getD w 0)->aW aq 2 (.loop UW) (pin N Y O L A D B left k d (ns W) j [])=some (.exit 6,pin N Y O L A ((W.drop j).foldl dcS (D,B)).1 ((W.drop j).foldl dcS (D,B)).2 left k d (ns W) W.length [(93,.bool false)])
 |0,j,D,B,hc,_,_,_=>by
   obtain rfl:j=W.length:=by omega
   rw[List.drop_length,List.foldl_nil];refine bn ?_;have lw:=l7 W;unfold pin uh;rw[lw];generalize ints O=O1;generalize ints L=L1;generalize us A=A1;generalize us B=B1;generalize ints (ns D)=D1;generalize ints (ns W)=W1;unfold UW;simp[yE,yD,yC,yB,yA,yz,yy,yx,yw,yu,sJ,sI,sG,sF,sE,sC,sB,sy,sx,ss,sr,sk,sj,si,sg,sd,sa,rZ,rY,rX,rW,rV,rU,aH]
 |c+1,j,D,B,hc,hP,hN,hw=>by
   have hj:j<W.length:=by omega
   rw[bz hj] at hN hw;obtain⟨n1,n2⟩:=mh.1 hN;obtain⟨w1,w2⟩:=hw _ cI;have wn:=hP.rng _ w1;have hd:=hP.deg W[j];have h1:=aa5 hP hn w1 (e:=D.getD W[j] 0-1) (by omega);have gD:∀x,(D.set W[j] (D.getD W[j] 0-1)).getD x 0=if x=W[j] then D.getD W[j] 0-1 else D.getD x 0:=fun x=>nH _ _ _ _ (by rw[hP.NR]; exact wn);have lw:=l7 W;have rd:=afc N Y O L A D B left k d (ns W) (by omega) j (by omega) W[j] (D.getD W[j] 0-1) (ami (by omega)) (by omega) (by rw[hP.NR]; exact wn) (by omega) (by omega) hP.xq hP.sm
   have ih:=akw N Y O L A left k d W hW hn c (j+1) _ _ (by omega) h1 n2 fun x hx=>by
    have qF:x≠W[j]:=fun q=>n1 (q▸hx);rw[gD,if_neg qF];exact hw x (cK _ hx)
   rw[bz hj,dV];exact (aS rd).trans ih
def xg (N:Int) (Y:List AV) (O L:List Int) (A D B:List Nat) (left:Nat) (k:Int) (J:Env):St:=
 ⟨(2,.own 1 (ints O))::(3,.own 1 (ints L))::(4,.list 1 (us A))::(5,.ptr 2 0)::(6,.own 1 (ints (ns D)))::(9,.int .u64 left)::(10,.int .i64 k)::J,[uh N Y,uh N Y,some (us B)]⟩
theorem ah5 (N:Int) (Y:List AV) (O L:List Int) (A D B:List Nat) (left:Nat) (k:Int) (d:Nat) (hd:d<64) (lB:B.length=64) (hb:B.getD d 0=0):aW aq 2 Me (xg N Y O L A D B left k [(51,.int .i64 d)])=some (.normal,xg N Y O L A D B left k [(51,.int .i64 ((d+1:Nat):Int))]):=by
 have d1:(d:Int)<64:=by omega
 have wr:=dA (i:=d) (by omega);obtain⟨b1,_⟩:=Fx B d 0 (by omega);rw[hb] at b1;have n1:=E3 B;have lu:(us B).length=64:=by rw[gL,lB]
 have e1:d<=63:=by omega
 unfold xg uh;generalize us B=U1 at *;generalize ints (ns D)=D1 at *;generalize ints O=O1 at *;generalize ints L=L1 at *;generalize us A=A1 at *;unfold Me;simp[yE,yD,yC,yB,yA,yz,yy,yx,yw,yu,sJ,sI,sG,sF,sE,sC,sB,sy,sx,ss,sr,sk,sj,si,sg,sd,sa,rZ,rY,rX,rW,rV,rU,d1,hd,wr,b1,n1,lu,e1,fH,idx,aH]
theorem alK (N:Nat) (Y:List AV) (O L:List Int) (A D B:List Nat) (hN:N<=64) (m:Nat) (hS:GK A) (hI:∀a,(A.getD a 0).testBit a=false) (hA:A.length=N) (Ya:Small A) (h:Pst A N m D B) (k d:Nat) (hd:d<64) (hb:B.getD d 0≠0) (hz:∀e,e<d->B.getD e 0=0) (hO:O.length<=64) (hL:L.length=N) :
  ∃ D' B':List Nat,∃W:List Nat,Pst A N (wo m (tz (B.getD d 0))) D' B'/\aW aq 2 Me (xg N Y O L A D B m k [(51,.int .i64 d)])=some (.exit 3,xg N Y (O++[((tz (B.getD d 0):Nat):Int)]) (L.set (tz (B.getD d 0)) ((max k d:Nat):Int)) A D' B' (wo m (tz (B.getD d 0))) ((max k d:Nat):Int) [(90,.list 1 (ints (ns W))),(91,.int .i64 W.length),(92,.int .i64 W.length),(93,.bool false)]):=by
 obtain⟨⟨v64,vb,_,_⟩,vN,vD⟩:=TN h hN hd hb hz;have hx:=h.cR.sm d;generalize hv:tz (B.getD d 0)=v at *
 let W:=(eP 64).filter fun j=>(A.getD v 0 &&& wo m v).testBit j
 have hWm:∀w,w∈W ↔ (A.getD v 0 &&& wo m v).testBit w=true:=fun w=>by
  constructor
  ·intro q; exact (fV.1 q).2
  ·intro q;refine fV.2 ⟨iP.2 ?_,q⟩;rw[bW,mA h.lt v64] at q;simp only[ae] at q;have:=h.cR.rng w q.2.1;omega
 have hnd:W.Nodup:=NG.filter _
 have lW:W.length<65:=by
  have:=List.length_filter_le (fun j=>(A.getD v 0 &&& wo m v).testBit j) (eP 64);rw[List.length_range] at this;show (List.filter _ _).length<65;omega
 have st:=ae3 hS hI h hN hd vN vb vD W hnd hWm;have p1:=aa4 h.cR h.lt v64 hd vD
 have hw:∀w∈W,(wo m v).testBit w=true/\0<D.getD w 0:=fun w hw=>by
  have:=(hWm w).1 hw;rw[bW,mA h.lt v64] at this;simp only[ae,decide_eq_true_eq] at this;obtain⟨q1,q2,q3⟩:=this;refine⟨by rw[mA h.lt v64,q2]; simp[q3],?_⟩;rw[h.deg w q2];exact Rb v64 (by rw[bW,vb,hS w v,q1]; rfl)
 have lp:=akw N Y (O++[((v:Nat):Int)]) (L.set v ((max k d:Nat):Int)) A (wo m v) ((max k d:Nat):Int) 0 W lW hN W.length 0 D (B.set d (wo (B.getD d 0) v)) (by omega) p1 (by rw[cP]; exact hnd) (by rw[cP]; exact hw);rw[cP] at lp;refine⟨_,_,W,st,?_⟩;have hwm:wo m v<18446744073709551616:=dI fU h.lt;have hg:=xF Ya v;have hand:A.getD v 0 &&& wo m v<18446744073709551616:=dI fU hg;have ml:=Py _ hand;have eb:bZ (A.getD v 0 &&& wo m v)=ns W:=rfl;rw[eb] at ml;generalize W.foldl dcS (D,B.set d (wo (B.getD d 0) v))=R at *;have lw:=l7 W;have d1:(d:Int)<64:=by omega
 obtain⟨b1,b2⟩:=Fx B d (wo (B.getD d 0) v) (by rw[h.cR.xq]; exact hd);have n1:=E3 B;have lu:(us B).length=64:=by rw[gL,h.cR.xq]
 have e1:d<=63:=by omega
 have mt:=LJ (B.getD d 0) hb hx;rw[hv] at mt;have mb:=EV v v64;have hp:2 ^ v<18446744073709551616:=oU (by decide) (by omega:v<64);have a1:=u64_andNot_nat m (2 ^ v) h.lt hp;have a2:=u64_andNot_nat (B.getD d 0) (2 ^ v) hx hp;have a3:=u64_and_nat (A.getD v 0) (wo m v) hg hwm;have f1:(((m &&& (18446744073709551615-2 ^ v):Nat):Int))=((wo m v:Nat):Int):=rfl;have f2:(((B.getD d 0 &&& (18446744073709551615-2 ^ v):Nat):Int))=((wo (B.getD d 0) v:Nat):Int):=rfl;rw[f1] at a1;rw[f2] at a2;have gA:∀q,(us A)[v]'q=.int .u64 (A.getD v 0:Nat):=fun q=>WK A v (by rw[hA]; exact vN) q;have lA:(us A).length=N:=by rw[gL,hA]
 have v1:(v:Int)<N:=by omega
 have lL:(ints L).length=N:=by rw[ah,hL]
 have sL:(ints L).set v (.int .i64 ((max k d:Nat):Int))=ints (L.set v ((max k d:Nat):Int)):=(ac9 L v _).symm;have mx:(if (k:Int)<d then (d:Int) else (k:Int))=((max k d:Nat):Int):=by split<;>omega
 have mx2:(if k<d then (d:Int) else (k:Int))=((max k d:Nat):Int):=by split<;>omega
 have hO2:O.length+1<=4294967296:=by omega
 have b0:¬B.getD d 0=0:=hb;have tk:(ints (O++[(v:Int)])).take (O.length+1)=ints (O++[(v:Int)]):=aT (by rw[ah]; simp);have lO:=ah O;have lO2:(ints (O++[(v:Int)])).length=O.length+1:=by rw[ah]; simp
 have so:ints O++[.int .i64 (v:Int)]=ints (O++[(v:Int)]):=cZ O v;obtain⟨x1,x2,x3,x4,x5,x6,x7,x8,x9,_⟩:=Cd B;obtain⟨y1,y2,y3,y4,y5,y6,y7,y8,y9,_⟩:=Cd (B.set d (wo (B.getD d 0) v));obtain⟨z1',z2',z3',z4',z5',z6',z7',z8',z9',_⟩:=Cd R.2;have tO:(ints O).take O.length=ints O:=aT (by rw[ah]; omega);have lW1:(ints (ns W)).length=W.length:=by rw[ah,lw]
 unfold pin at lp;rw[lw] at lp;change aW aq 2 _ (⟨_,_⟩:St)=_ at lp;unfold xg;unfold uh at lp ⊢;rw[fH] at lp;clear hw hWm hnd st p1 hz vb h Ya hS hI hg hand hwm hx hb hp f1 f2;generalize max k d=K at *;generalize A.getD v 0 &&& wo m v=z0 at *;generalize wo (B.getD d 0) v=z1 at *;generalize wo m v=z2 at *;generalize B.getD d 0=z4 at *;generalize A.getD v 0=z5 at *;generalize us (B.set d z1)=U2 at *;generalize us B=U1 at *;generalize us R.2=U3 at *;generalize ints (ns R.1)=D2 at *;generalize ints (ns D)=D1 at *;generalize ints (O++[(v:Int)])=O2 at *;generalize ints O=O1 at *;generalize ints (L.set v (K:Int))=L2 at *;generalize ints L=L1 at *;generalize us A=A1 at *;generalize ints (ns W)=W1 at *;generalize 2 ^ v=p2 at *;unfold Me;simp[yE,yD,yC,yB,yA,yz,yy,yx,yw,yu,sJ,sI,sG,sF,sE,sC,sB,sy,sx,ss,sr,sk,sj,si,sg,sd,sa,rZ,rY,rX,rW,rV,rU,d1,hd,b1,b2,n1,lu,e1,b0,mt,mb,ml,a1,a2,a3,gA,lA,v1,vN,lL,sL,mx,mx2,hO2,tk,lO,lO2,so,tO,lW1,x1,x2,x3,x4,x6,y1,y2,y3,y4,y6,z1',z2',z3',z4',z6',lp,lw,ks,BO,Dk,idx,aH,IntKind.bits,dc,pl,sQb1,iQb1,sQM,iQM,sQa0,iQa0]
theorem aa3 (N:Nat) (Y:List AV) (O L:List Int) (A D B:List Nat) (hN:N<=64) (m:Nat) (hS:GK A) (hI:∀a,(A.getD a 0).testBit a=false) (hA:A.length=N) (Ya:Small A) (h:Pst A N m D B) (k d:Nat) (hd:d<64) (hb:B.getD d 0≠0) (hz:∀e,e<d->B.getD e 0=0) (hO:O.length<=64) (hL:L.length=N):∀c i:Nat,i+c=d ->
  ∃ D' B':List Nat,∃W:List Nat,Pst A N (wo m (tz (B.getD d 0))) D' B'/\aW aq 2 (.loop Me) (xg N Y O L A D B m k [(51,.int .i64 i)])=some (.exit 3,xg N Y (O++[((tz (B.getD d 0):Nat):Int)]) (L.set (tz (B.getD d 0)) ((max k d:Nat):Int)) A D' B' (wo m (tz (B.getD d 0))) ((max k d:Nat):Int) [(90,.list 1 (ints (ns W))),(91,.int .i64 W.length),(92,.int .i64 W.length),(93,.bool false)])
 |0,i,e=>by
   obtain rfl:i=d:=by omega
   obtain⟨D',B',W,h1,h2⟩:=alK N Y O L A D B hN m hS hI hA Ya h k i hd hb hz hO hL;exact⟨D',B',W,h1,bn h2⟩
 |c+1,i,e=>by
   obtain⟨D',B',W,h1,h2⟩:=aa3 N Y O L A D B hN m hS hI hA Ya h k d hd hb hz hO hL c (i+1) (by omega);exact⟨D',B',W,h1,(aS (ah5 N Y O L A D B m k i (by omega) h.cR.xq (hz i (by omega)))).trans h2⟩
end Go.BmP
