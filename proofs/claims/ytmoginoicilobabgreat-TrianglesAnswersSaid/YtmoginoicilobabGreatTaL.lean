/- The law's rounds: one pair of nodes. -/
import Derived.Test.YtmoginoicilobabGreatUseM
import Derived.Test.YtmoginoicilobabGreatTaI
import Derived.Test.YtmoginoicilobabGreatK05
import Derived.Test.YtmoginoicilobabGreatL01
import Derived.KernelRfl
set_option linter.unusedSimpArgs false
set_option linter.unusedVariables false
set_option maxRecDepth 100000
set_option maxHeartbeats 8000000
open Bool renaming true_and → uU
open List renaming drop_eq_getElem_cons → bt, drop_length → dB, drop_zero → dN, eq_nil_of_length_eq_zero → dn, getElem?_eq_getElem → ai, getElem_mem → cY, length_set → dw, map_set → G8, mem_or_eq_of_mem_set → cz, take_of_length_le → aL
open Nat renaming le_of_ble_eq_true → ae
open Option.some renaming inj → cK
namespace Go.BmP
open Go.Am Go.Bm
def Jm (n0 : Int) (F0 : List Ed) (C0 : Int) (N0 : List Int) : PB := some [.int .i64 n0,.list 2 (bm F0),.int .i64 C0,.list 1 (ints N0)]
def taH (R : PB) (l : List Int) (a : Nat) (n : Int) (F : List Ed) (C : Int) (Ns : List Int) : Heap := [R,dk l a,Jm n F C Ns]
def taI (u v : Int) (TS : List AV) (i : Int) (PS : List AV) (j : Int) (J : Env) : Env := (2,.int .i64 u) :: (3,.int .i64 v) :: (9,.ptr 1 0) :: (15,.ptr 2 0) :: (115,.own 4 TS) :: (116,.int .i64 4) :: (117,.int .i64 i) :: (229,.own 2 PS) :: (230,.int .i64 3) :: (231,.int .i64 j) :: J
def pqA (p q : Int) : AV := .agg [.int .i64 p,.int .i64 q]
theorem ahP (n0 : Int) (F0 : List Ed) (C0 : Int) (N0 : List Int) (l : List Int) (a : Nat) (n : Int) (F : List Ed) (C : Int) (Ns : List Int) (hC : TAg n F C Ns) (u v : Int) (TS : List AV) (i : Int) (PS : List AV) (lP : PS.length = 3) (j : Nat) (hj : j < 3) (p q : Int) (g : PS[j]? = some (pqA p q)) :
  bL ak 0 Oj ⟨taI u v TS i PS j [],taH (Jm n0 F0 C0 N0) l a n F C Ns⟩ = some (.normal,⟨taI u v TS i PS ((j + 1 : Nat) : Int) [],taH (Jm n0 F0 C0 N0) l a n F C Ns⟩) := by
 have j3 : (j : Int) < 3 := by omega
 have hw := fT (i := j) (by omega);have g' : ∀ h : j < PS.length,PS[j] = pqA p q := fun h => by rw [ai h] at g; exact cK g
 have jP : j < PS.length := by omega
 obtain ⟨x,y,e,l1,l2⟩ := hC.loc p;obtain ⟨m1,G1,c1,P1,d1,e1,hG1,hP1,i1,i2⟩ := hC.ins p q;obtain ⟨m2,G2,c2,P2,d2,e2,hG2,hP2,t1,t2⟩ := hC.del p q;have s1 := qR m1 G1 hG1 c1 c1 P1 P1 hP1 hP1;have s2 := qR m2 G2 hG2 c2 c2 P2 P2 hP2 hP2;rw [decide_eq_true rfl,decide_eq_true rfl,uU] at s1 s2;unfold UP at s1 s2;unfold WQ at *;unfold sW at *;unfold fcA at *;unfold pqA at *;unfold taH taI Jm dk;generalize ints P1 = A1 at *;generalize ints P2 = A2 at *;generalize ints Ns = A0 at *;generalize ints N0 = A3 at *;generalize ints l = D1 at *;generalize bm G1 = Y1 at *;generalize bm G2 = Y2 at *;generalize bm F = Y at *;generalize bm F0 = Y0 at *;clear hC;unfold Oj;simp [tK,tJ,tI,tH,tG,tF,tD,tC,tB,tA,oD,oC,oB,oA,ox,ot,oq,om,oi,oh,oe,od,ob,oa,n9,n8,n7,n6,nZ,nY,nX,nW,nV,nU,nT,nS,nQ,nP,j3,hj,hw,jP,lP,g,g',l1,l2,i1,i2,t1,t2,s1,s2,idx,aJ,dK,pl,fG,dx,dz,bp,fi,bZ,bU,sQu,iQu,lQu,eQu,sQv,iQv,lQv,eQv,sQw,iQw,lQw,eQw,sQx,iQx,lQx,eQx,sQy,iQy,lQy,eQy,sQz,iQz,lQz,eQz,sQr,iQr,lQr,eQr]
theorem Xe (n0 : Int) (F0 : List Ed) (C0 : Int) (N0 : List Int) (l : List Int) (a : Nat) (n : Int) (F : List Ed) (C : Int) (Ns : List Int) (hC : TAg n F C Ns) (u v : Int) (TS : List AV) (i : Int) (PS : List AV) (lP : PS.length = 3) (g : ∀ j : Nat,j < 3 -> ∃ p q,PS[j]? = some (pqA p q)) : ∀ k j : Nat,j + k = 3 ->
  bL ak 0 (.loop Oj) ⟨taI u v TS i PS j [],taH (Jm n0 F0 C0 N0) l a n F C Ns⟩ = some (.exit 2,⟨taI u v TS i PS 3 [(232,.bool false)],taH (Jm n0 F0 C0 N0) l a n F C Ns⟩)
 | 0,j,hj => by
   obtain rfl : j = 3 := by omega
   refine cj ?_;unfold taI taH Jm dk;generalize ints Ns = A0 at *;generalize ints N0 = A3 at *;generalize ints l = D1 at *;generalize bm F = Y at *;generalize bm F0 = Y0 at *;unfold Oj;simp [tK,tJ,tI,tH,tG,tF,tD,tC,tB,tA,oD,oC,oB,oA,ox,ot,oq,om,oi,oh,oe,od,ob,oa,n9,n8,n7,n6,nZ,nY,nX,nW,nV,nU,nT,nS,nQ,nP,lP,aJ]
 | k + 1,j,hj => by
   obtain ⟨p,q,h⟩ := g j (by omega);exact (bG (ahP n0 F0 C0 N0 l a n F C Ns hC u v TS i PS lP j (by omega) p q h)).trans (Xe n0 F0 C0 N0 l a n F C Ns hC u v TS i PS lP g k (j + 1) (by omega))
/- The law's body for one graph with numbers. -/
theorem Fa (a b : List Int) (hl : a.length = b.length) (ha : a.length < 4294967295) : ∀ (k i : Nat),i + k = a.length -> bL ak 0 (.loop Of) ⟨[(0,.list 1 (ints a)),(1,.list 1 (ints b)),(12,.int .i64 a.length),(13,.int .i64 i)],[]⟩ =
  if a.drop i = b.drop i then some (.exit 0,⟨[(0,.list 1 (ints a)),(1,.list 1 (ints b)),(12,.int .i64 a.length),(13,.int .i64 a.length),(14,.bool false)],[]⟩) else some (.ret,⟨[(4,.bool false)],[]⟩)
 | 0,i,hi => by
   obtain rfl : i = a.length := by omega
   rw [dB,hl,dB,if_pos rfl];exact cj (by unfold Of; simp [DL,DK,DJ,DI,DH,DG,DF,DE,DD,DC,aJ,av,aX,bV,dj,aD,aI,aG,aj,aM,bk,ba,aZ])
 | k + 1,i,hi => by
   have bO : i < a.length := by omega
   have Fm : i < b.length := by omega
   have h1 : (i : Int) < a.length := by omega
   have h1b : (i : Int) < b.length := by omega
   have hw := fT (i := i) (by omega);have ih := Fa a b hl ha k (i + 1) (by omega);have i1 := Kz (k := .i64) (i := (i : Int)) (n := a.length) (by omega) h1;have i2 := Kz (k := .i64) (i := (i : Int)) (n := b.length) (by omega) h1b;rw [bt bO,bt Fm];simp only [List.cons.injEq];by_cases e : a[i] = b[i]
   ·have : (a[i] = b[i] /\ a.drop (i + 1) = b.drop (i + 1)) = (a.drop (i + 1) = b.drop (i + 1)) := by simp [e]
    simp only [this];rw [<- ih];exact bG (by unfold Of; simp [DL,DK,DJ,DI,DH,DG,DF,DE,DD,DC,h1,h1b,bO,Fm,hw,i1,i2,e,aJ,av,aX,bV,dj,aD,aI,aG,aj,aM,bk,ba,aZ])
   ·rw [if_neg (fun k => e k.1)];exact gr (by unfold Of; simp [DL,DK,DJ,DI,DH,DG,DF,DE,DD,DC,h1,h1b,bO,Fm,hw,i1,i2,e,aJ,av,aX,bV,dj,aD,aI,aG,aj,aM,bk,ba,aZ])
theorem Vz (a b : List Int) (ha : a.length < 4294967295) : aY ak nQq [.list 1 (ints a),.list 1 (ints b)] [] = some (.bool (decide (a = b)),[]) := by
 rw [aB oQq sQq (ae rfl)];unfold qQq cQq;by_cases hl : a.length = b.length
 ·have lp := Fa a b hl ha a.length 0 (by omega);rw [dN,dN,iR] at lp;have AO : (a.length : Int) = b.length := by omega
  by_cases e : a = b
  ·rw [if_pos e] at lp;subst e;simp [DL,DK,DJ,DI,DH,DG,DF,DE,DD,DC,lp,aJ,av,aX,bV,dj,aD,aI,aG,aj,aM,bk,ba,aZ]
  ·rw [if_neg e] at lp;rw [decide_eq_false e];rw [AO] at lp;simp [DL,DK,DJ,DI,DH,DG,DF,DE,DD,DC,lp,AO,aJ,av,aX,bV,dj,aD,aI,aG,aj,aM,bk,ba,aZ]
 ·have AO : ¬ (a.length : Int) = b.length := by omega
  have e : ¬ a = b := fun k => hl (by rw [k]);rw [decide_eq_false e];simp [DL,DK,DJ,DI,DH,DG,DF,DE,DD,DC,AO,aJ,av,aX,bV,dj,aD,aI,aG,aj,aM,bk,ba,aZ]
def taO (u v : Int) (TS : List AV) (i : Int) (J : Env) : Env := (2,.int .i64 u) :: (3,.int .i64 v) :: (9,.ptr 1 0) :: (115,.own 4 TS) :: (116,.int .i64 4) :: (117,.int .i64 i) :: J
theorem Hn : Rest [] := ⟨fun _ => rfl,rfl,fun _ _ => rfl,fun _ => rfl,fun _ _ => rfl⟩
theorem Xf (n0 : Int) (F0 : List Ed) (C0 : Int) (N0 : List Int) (l : List Int) (hl : l.length <= 500) (a : Nat) (n : Int) (F : List Ed) (C : Int) (Ns : List Int) (hC : TAg n F C Ns) (u v : Int) (TS : List AV) (lT : TS.length = 4) (i : Nat) (hi : i < 4) (g : TS[i]? = some (sW n F C Ns)) :
  ∃ a',bL ak 0 Oi ⟨taO u v TS i [],[Jm n0 F0 C0 N0,dk l a]⟩ = some (.normal,⟨taO u v TS ((i + 1 : Nat) : Int) [],[Jm n0 F0 C0 N0,dk l a']⟩) := by
 have i4 : (i : Int) < 4 := by omega
 have hw := fT (i := i) (by omega);have g' : ∀ h : i < TS.length,TS[i] = sW n F C Ns := fun h => by rw [ai h] at g; exact cK g
 have iT : i < TS.length := by omega
 obtain ⟨c,e,p1,p2⟩ := hC.cnt;obtain ⟨P,e3,lP,p3,p4⟩ := hC.nod;obtain ⟨x,y,e5,p5,p6⟩ := hC.who;obtain ⟨m,G,c7,Q,e7,lG,lQ,p7,p8⟩ := hC.opn;obtain ⟨b,p9,p10⟩ := hC.val;have li := Vz P P (by omega);rw [decide_eq_true rfl] at li;have sm := qR m G lG c7 c7 Q Q lQ lQ;rw [decide_eq_true rfl,decide_eq_true rfl,uU] at sm;have n1 := fU l (by omega) a 10 (by omega) [] Hn;generalize vh l a 10 = a1 at *;generalize vO l a 10 = x1 at *;have n2 := fU l (by omega) a1 9 (by omega) [] Hn;generalize vh l a1 9 = a2 at *;generalize vO l a1 9 = y1 at *;have n3 := fU l (by omega) a2 9 (by omega) [] Hn;generalize vh l a2 9 = a3 at *;generalize vO l a2 9 = x2 at *;have n4 := fU l (by omega) a3 9 (by omega) [] Hn;generalize vh l a3 9 = a4 at *;generalize vO l a3 9 = y2 at *
 have lp := Xe n0 F0 C0 N0 l a4 n F C Ns hC u v TS i [pqA u v,pqA x1 y1,pqA x2 y2] rfl (fun j hj => by
  match j,hj with
  | 0,_ => exact ⟨_,_,rfl⟩
  | 1,_ => exact ⟨_,_,rfl⟩
  | 2,_ => exact ⟨_,_,rfl⟩) 3 0 rfl
 rw [iR] at lp;refine ⟨a4,?_⟩;unfold UP at sm;unfold WQ at *;unfold sW at *;unfold fcA at *;unfold pqA at *;unfold taI taH at lp;unfold taO;unfold Jm dk at *;generalize ints P = A1 at *;generalize ints Q = A2 at *;generalize ints Ns = A0 at *;generalize ints N0 = A3 at *;generalize ints l = D1 at *;generalize bm G = Y1 at *;generalize bm F = Y at *;generalize bm F0 = Y0 at *;clear hC;unfold Oi;simp [tK,tJ,tI,tH,tG,tF,tD,tC,tB,tA,oD,oC,oB,oA,ox,ot,oq,om,oi,oh,oe,od,ob,oa,n9,n8,n7,n6,nZ,nY,nX,nW,nV,nU,nT,nS,nQ,nP,i4,hi,hw,iT,lT,g,g',p1,p2,p3,p4,p5,p6,p7,p8,p9,p10,li,sm,n1,n2,n3,n4,lp,idx,aJ,dK,pl,fG,dx,dz,bp,fi,bZ,bU,sQj,iQj,lQj,eQj,sQk,iQk,lQk,eQk,sQl,iQl,lQl,eQl,Xv,iQm,lQm,eQm,sQn,iQn,lQn,eQn,sQo,iQo,lQo,eQo,sQp,iQp,lQp,eQp,sQg,iQg,lQg,eQg,Xu,iQs,lQs,eQs,Xt,iQt,lQt,eQt,sQq,iQq,lQq,eQq,sQr,iQr,lQr,eQr,Hk,KA,Ks,KK]
theorem uY (n0 : Int) (F0 : List Ed) (C0 : Int) (N0 : List Int) (l : List Int) (hl : l.length <= 500) (u v : Int) (TS : List AV) (lT : TS.length = 4) (g : ∀ i : Nat,i < 4 -> ∃ n F C Ns,TAg n F C Ns /\ TS[i]? = some (sW n F C Ns)) : ∀ k i a : Nat,i + k = 4 ->
  ∃ a',bL ak 0 (.loop Oi) ⟨taO u v TS i [],[Jm n0 F0 C0 N0,dk l a]⟩ = some (.exit 0,⟨taO u v TS 4 [(118,.bool false)],[Jm n0 F0 C0 N0,dk l a']⟩)
 | 0,i,a,hi => by
   obtain rfl : i = 4 := by omega
   refine ⟨a,cj ?_⟩;unfold taO Jm dk;generalize ints N0 = A3 at *;generalize ints l = D1 at *;generalize bm F0 = Y0 at *;unfold Oi;simp [tK,tJ,tI,tH,tG,tF,tD,tC,tB,tA,oD,oC,oB,oA,ox,ot,oq,om,oi,oh,oe,od,ob,oa,n9,n8,n7,n6,nZ,nY,nX,nW,nV,nU,nT,nS,nQ,nP,lT,aJ]
 | k + 1,i,a,hi => by
   obtain ⟨n,F,C,Ns,hC,h⟩ := g i (by omega);obtain ⟨a1,e⟩ := Xf n0 F0 C0 N0 l hl a n F C Ns hC u v TS lT i (by omega) h;obtain ⟨a2,e2⟩ := uY n0 F0 C0 N0 l hl u v TS lT g k (i + 1) a1 (by omega);exact ⟨a2,(bG e).trans e2⟩
/- mk.Light, mk.Spoilt. -/
def gA (n : Int) (F : List Ed) : AV := .agg [.int .i64 n,.list 2 (bm F)]
theorem VA (n : Int) (F : List Ed) (m : Int) (hm : 0 <= m /\ m <= 1000) : aY ak nQc [gA n F,.int .i64 m] [] = some (.bool (decide (n <= m) && decide ((F.length : Int) <= m * m)),[]) := by
 rw [aB oQc sQc (ae rfl)];have lF := av F
 have w : IntKind.i64.wrap (m * m) = m * m := by
  obtain ⟨h0,h1⟩ := hm;have : m * m <= 1000 * 1000 := Int.mul_le_mul h1 h1 h0 (by omega);have : 0 <= m * m := Int.mul_nonneg h0 h0;exact cM (by omega) (by omega)
 unfold gA;generalize bm F = Y at *;by_cases k : n <= m
 ·by_cases q : (F.length : Int) <= m * m
  ·unfold qQc cQc;simp [Sr,Sq,k,q,w,lF,aJ,ba,aZ,dK,pl]
  ·unfold qQc cQc;simp [Sr,Sq,k,q,w,lF,aJ,ba,aZ,dK,pl]
 ·unfold qQc cQc;simp [Sr,Sq,k,w,lF,aJ,ba,aZ,dK,pl]
def Low (F : List Ed) (m : Int) : Prop := ∀ e ∈ F,(0 <= e.1 /\ e.1 < m) /\ (0 <= e.2 /\ e.2 < m)
theorem C8 (F : List Ed) (i : Nat) (u v : Int) : (bm F).set i (.agg [.int .i64 u,.int .i64 v]) = bm (F.set i (u,v)) := by simp [bm,G8,dj]
theorem Ja (l : List Int) (hl : l.length <= 500) (a : Nat) (N : Int) (hN : 0 <= N /\ N <= 64) (Es : List Ed) (hE : Es.length <= 10000) (hL : Low Es 9) : ∃ n' Es' a',aY ak nQi [.ptr 0 0,gA N Es] [dk l a] = some (gA n' Es',[dk l a']) /\ Es'.length <= Es.length + 1 /\ ∀ e ∈ Es',e.1 < 11 /\ e.2 < 11 := by
 have lE := av Es;have kE := aI Es;have aE := aD Es;have tE : (bm Es).take Es.length = bm Es := aL (by omega);have mE : Es.length <= 4294967296 := by omega
 have n1 := fU l hl a 6 (by omega) [] ⟨fun _ => rfl,rfl,fun _ _ => rfl,fun _ => rfl,fun _ _ => rfl⟩;obtain ⟨b0,b1⟩ := rn l a (n := 6) (by omega);generalize vh l a 6 = a1 at *;generalize vO l a 6 = c at *;have lo : ∀ e ∈ Es,e.1 < 11 /\ e.2 < 11 := fun e he => by have := hL e he; omega
 by_cases c0 : c = 0
 ·subst c0;have n2 := fU l hl a1 70 (by omega) [] ⟨fun _ => rfl,rfl,fun _ _ => rfl,fun _ => rfl,fun _ _ => rfl⟩;obtain ⟨d0,d1⟩ := rn l a1 (n := 70) (by omega);generalize vh l a1 70 = a2 at *;generalize vO l a1 70 = d at *;have w : IntKind.i64.wrap (d - 2) = d - 2 := cM (by omega) (by omega);refine ⟨d - 2,Es,a2,?_,by omega,lo⟩;rw [aB ZI RW (ae rfl)];unfold gA dk at *;generalize bm Es = Y at *;unfold Tf WT;simp [sa,r9,r8,r7,rZ,rY,rX,rW,rV,rU,mS,mR,mQ,mP,mO,mN,mM,mL,mK,mJ,n1,n2,w,lE,kE,aE,tE,mE,jQ,aJ,ba,aZ,eB,fG,dx,dK,pl,fP,dz,bp,fi,bZ,bU,eT,bQ,dH,cO,Hk,KA,Ks,KK]
 by_cases c1 : c = 1
 ·subst c1;by_cases z : Es.length = 0
  ·skip
   obtain rfl : Es = [] := dn z;rw [pC] at *;refine ⟨N,[],a1,?_,by simp,by simp⟩;rw [aB ZI RW (ae rfl)];unfold gA dk at *;unfold Tf WT;simp [sa,r9,r8,r7,rZ,rY,rX,rW,rV,rU,mS,mR,mQ,mP,mO,mN,mM,mL,mK,mJ,n1,c0,pC,jQ,idx,aJ,ba,aZ,eB,fG,dx,dK,pl,fP,dz,bp,fi,bZ,bU,eT,bQ,dH,cO,Hk,KA,Ks,KK]
  ·have z1 : (0 : Int) < Es.length := by omega
   have z2 : 0 < Es.length := by omega
   have n2 := fU l hl a1 (Es.length : Int) (by omega) [] ⟨fun _ => rfl,rfl,fun _ _ => rfl,fun _ => rfl,fun _ _ => rfl⟩;obtain ⟨d0,d1⟩ := rn l a1 (n := (Es.length : Int)) (by omega);generalize vh l a1 (Es.length : Int) = a2 at *;obtain ⟨i,hi⟩ : ∃ i : Nat,vO l a1 (Es.length : Int) = (i : Int) := ⟨(vO l a1 (Es.length : Int)).toNat,by omega⟩;rw [hi] at n2 d1;clear hi d0;have il : i < Es.length := by omega
   obtain ⟨u,v,B4⟩ : ∃ u v : Int,Es[i] = (u,v) := ⟨_,_,rfl⟩;have bE := hL _ (cY il);rw [B4] at bE;have gE : ∀ h,(bm Es)[i]'h = .agg [.int .i64 u,.int .i64 v] := fun h => by rw [bV,B4]; rfl
   have gE2 : (bm Es)[i]? = some (.agg [.int .i64 u,.int .i64 v]) := by rw [ai (by omega),gE]
   have sE := C8 Es i v u;have l1 : (bm (Es.set i (v,u))).length = Es.length := by rw [av,dw]
   have tS : (bm (Es.set i (v,u))).take Es.length = bm (Es.set i (v,u)) := aL (by omega);refine ⟨N,Es.set i (v,u),a2,?_,by rw [dw]; omega,fun e he => ?_⟩
   ·rw [aB ZI RW (ae rfl)];unfold gA dk at *;generalize bm (Es.set i (v,u)) = Y2 at *;clear B4 hL lo bE;generalize bm Es = Y at *;unfold Tf WT;simp [sa,r9,r8,r7,rZ,rY,rX,rW,rV,rU,mS,mR,mQ,mP,mO,mN,mM,mL,mK,mJ,n1,n2,z,z1,z2,d1,il,gE,gE2,sE,l1,tS,List.set_set,dw,List.getElem_set_self,List.getElem?_set_self,lE,kE,aE,tE,mE,jQ,idx,aJ,ba,aZ,eB,fG,dx,dK,pl,fP,dz,bp,fi,bZ,bU,eT,bQ,dH,cO,Hk,KA,Ks,KK]
   ·rcases cz he with q | q
    ·exact lo e q
    ·subst q; simp only; omega
 by_cases c2 : c = 2
 ·subst c2;by_cases z : Es.length = 0
  ·skip
   obtain rfl : Es = [] := dn z;rw [pC] at *;refine ⟨N,[],a1,?_,by simp,by simp⟩;rw [aB ZI RW (ae rfl)];unfold gA dk at *;unfold Tf WT;simp [sa,r9,r8,r7,rZ,rY,rX,rW,rV,rU,mS,mR,mQ,mP,mO,mN,mM,mL,mK,mJ,n1,c0,c1,pC,jQ,idx,aJ,ba,aZ,eB,fG,dx,dK,pl,fP,dz,bp,fi,bZ,bU,eT,bQ,dH,cO,Hk,KA,Ks,KK]
  by_cases zz : Es.length = 1
  ·have z1 : ¬ (1 : Int) < Es.length := by omega
   have z2 : ¬ 1 < Es.length := by omega
   refine ⟨N,Es,a1,?_,by omega,lo⟩;rw [aB ZI RW (ae rfl)];unfold gA dk at *;generalize bm Es = Y at *;unfold Tf WT;simp [sa,r9,r8,r7,rZ,rY,rX,rW,rV,rU,mS,mR,mQ,mP,mO,mN,mM,mL,mK,mJ,n1,c0,c1,z1,z2,lE,kE,aE,tE,mE,jQ,idx,aJ,ba,aZ,eB,fG,dx,dK,pl,fP,dz,bp,fi,bZ,bU,eT,bQ,dH,cO,Hk,KA,Ks,KK]
  ·have z1 : (1 : Int) < Es.length := by omega
   have z2 : 1 < Es.length := by omega
   obtain ⟨m,hm⟩ : ∃ m : Nat,Es.length = m + 2 := ⟨Es.length - 2,by omega⟩;have w : IntKind.i64.wrap ((Es.length : Int) - 1) = ((m + 1 : Nat) : Int) := by rw [cM (by omega) (by omega)]; omega
   have il : 0 < Es.length := by omega
   have jl : m + 1 < Es.length := by omega
   obtain ⟨u,v,B4⟩ : ∃ u v : Int,Es[0] = (u,v) := ⟨_,_,rfl⟩;obtain ⟨x,y,hxy⟩ : ∃ x y : Int,Es[m + 1] = (x,y) := ⟨_,_,rfl⟩;have bE := hL _ (cY il);have bE2 := hL _ (cY jl);rw [B4] at bE;rw [hxy] at bE2;have g0 : ∀ h,(bm Es)[0]'h = .agg [.int .i64 u,.int .i64 v] := fun h => by rw [bV,B4]; rfl
   have g1 : ∀ h,(bm Es)[m + 1]'h = .agg [.int .i64 x,.int .i64 y] := fun h => by rw [bV,hxy]; rfl
   have g02 : (bm Es)[0]? = some (.agg [.int .i64 u,.int .i64 v]) := by rw [ai (by omega),g0]
   have g12 : (bm Es)[m + 1]? = some (.agg [.int .i64 x,.int .i64 y]) := by rw [ai (by omega),g1]
   have s0 := C8 Es 0 x y;have s1 := C8 (Es.set 0 (x,y)) (m + 1) u v;have g3 : ∀ h,(bm (Es.set 0 (x,y)))[m + 1]'h = .agg [.int .i64 x,.int .i64 y] := fun h => by rw [bV,List.getElem_set_ne (by omega),hxy]; rfl
   have g32 : (bm (Es.set 0 (x,y)))[m + 1]? = some (.agg [.int .i64 x,.int .i64 y]) := by rw [ai (by rw [av,dw]; omega),g3]
   have l0 : (bm (Es.set 0 (x,y))).length = Es.length := by rw [av,dw]
   have l1 : (bm ((Es.set 0 (x,y)).set (m + 1) (u,v))).length = Es.length := by rw [av,dw,dw]
   have tS : (bm ((Es.set 0 (x,y)).set (m + 1) (u,v))).take Es.length = bm ((Es.set 0 (x,y)).set (m + 1) (u,v)) := aL (by omega);have j1 : ((m : Int) + 1) < Es.length := by omega
   have j2 : ¬ ((m : Int) + 1) < 0 := by omega
   have j3 : (0 : Int) <= (m : Int) + 1 := by omega
   refine ⟨N,(Es.set 0 (x,y)).set (m + 1) (u,v),a1,?_,by rw [dw,dw]; omega,fun e he => ?_⟩
   ·rw [aB ZI RW (ae rfl)];unfold gA dk at *;generalize bm ((Es.set 0 (x,y)).set (m + 1) (u,v)) = Y2 at *;generalize bm (Es.set 0 (x,y)) = Y1 at *;clear B4 hL lo bE bE2 hxy;generalize bm Es = Y at *;unfold Tf WT;simp [sa,r9,r8,r7,rZ,rY,rX,rW,rV,rU,mS,mR,mQ,mP,mO,mN,mM,mL,mK,mJ,n1,c0,c1,z,z1,z2,w,il,jl,g0,g1,g02,g12,g3,g32,s0,s1,l0,l1,tS,j1,j2,j3,lE,kE,aE,tE,mE,jQ,idx,aJ,ba,aZ,eB,fG,dx,dK,pl,fP,dz,bp,fi,bZ,bU,eT,bQ,dH,cO,Hk,KA,Ks,KK]
   ·rcases cz he with q | q
    ·rcases cz q with q | q
     ·exact lo e q
     ·subst q; simp only; omega
    ·subst q; simp only; omega
 by_cases c3 : c = 3
 ·subst c3;by_cases z : Es.length = 0
  ·skip
   obtain rfl : Es = [] := dn z;rw [pC] at *;refine ⟨N,[],a1,?_,by simp,by simp⟩;rw [aB ZI RW (ae rfl)];unfold gA dk at *;unfold Tf WT;simp [sa,r9,r8,r7,rZ,rY,rX,rW,rV,rU,mS,mR,mQ,mP,mO,mN,mM,mL,mK,mJ,n1,c0,c1,c2,pC,jQ,idx,aJ,ba,aZ,eB,fG,dx,dK,pl,fP,dz,bp,fi,bZ,bU,eT,bQ,dH,cO,Hk,KA,Ks,KK]
  ·have z1 : (0 : Int) < Es.length := by omega
   have z2 : 0 < Es.length := by omega
   obtain ⟨m,hm⟩ : ∃ m : Nat,Es.length = m + 1 := ⟨Es.length - 1,by omega⟩;have w : IntKind.i64.wrap ((Es.length : Int) - 1) = (m : Int) := by rw [cM (by omega) (by omega)]; omega
   have jl : m < Es.length := by omega
   have jl2 : (m : Int) < Es.length := by omega
   obtain ⟨x,y,hxy⟩ : ∃ x y : Int,Es[m] = (x,y) := ⟨_,_,rfl⟩;have bE := hL _ (cY jl);rw [hxy] at bE;have g1 : ∀ h,(bm Es)[m]'h = .agg [.int .i64 x,.int .i64 y] := fun h => by rw [bV,hxy]; rfl
   have g12 : (bm Es)[m]? = some (.agg [.int .i64 x,.int .i64 y]) := by rw [ai (by omega),g1]
   have sn := AZ Es x y;have l1 : (bm (Es ++ [(x,y)])).length = Es.length + 1 := by rw [av]; simp
   have tS : (bm (Es ++ [(x,y)])).take (Es.length + 1) = bm (Es ++ [(x,y)]) := aL (by omega);have mE2 : Es.length + 1 <= 4294967296 := by omega
   refine ⟨N,Es ++ [(x,y)],a1,?_,by simp,fun e he => ?_⟩
   ·rw [aB ZI RW (ae rfl)];unfold gA dk at *;generalize bm (Es ++ [(x,y)]) = Y2 at *;clear hL lo bE hxy;generalize bm Es = Y at *;unfold Tf WT;simp [sa,r9,r8,r7,rZ,rY,rX,rW,rV,rU,mS,mR,mQ,mP,mO,mN,mM,mL,mK,mJ,n1,c0,c1,c2,z,z1,z2,w,jl,jl2,g1,g12,sn,l1,tS,mE2,lE,kE,aE,tE,mE,jQ,idx,aJ,ba,aZ,eB,fG,dx,dK,pl,fP,dz,bp,fi,bZ,bU,eT,bQ,dH,cO,Hk,KA,Ks,KK]
   ·rcases List.mem_append.1 he with q | q
    ·exact lo e q
    ·rw [List.mem_singleton] at q; subst q; simp only; omega
 by_cases c4 : c = 4
 ·subst c4;by_cases z : Es.length = 0
  ·skip
   obtain rfl : Es = [] := dn z;rw [pC] at *;refine ⟨N,[],a1,?_,by simp,by simp⟩;rw [aB ZI RW (ae rfl)];unfold gA dk at *;unfold Tf WT;simp [sa,r9,r8,r7,rZ,rY,rX,rW,rV,rU,mS,mR,mQ,mP,mO,mN,mM,mL,mK,mJ,n1,c0,c1,c2,c3,pC,jQ,idx,aJ,ba,aZ,eB,fG,dx,dK,pl,fP,dz,bp,fi,bZ,bU,eT,bQ,dH,cO,Hk,KA,Ks,KK]
  ·have z1 : (0 : Int) < Es.length := by omega
   have z2 : 0 < Es.length := by omega
   have n2 := fU l hl a1 (Es.length : Int) (by omega) [] ⟨fun _ => rfl,rfl,fun _ _ => rfl,fun _ => rfl,fun _ _ => rfl⟩;obtain ⟨d0,d1⟩ := rn l a1 (n := (Es.length : Int)) (by omega);generalize vh l a1 (Es.length : Int) = a2 at *;obtain ⟨i,hi⟩ : ∃ i : Nat,vO l a1 (Es.length : Int) = (i : Int) := ⟨(vO l a1 (Es.length : Int)).toNat,by omega⟩;rw [hi] at n2 d1;clear hi d0;have n3 := fU l hl a2 5 (by omega) [] ⟨fun _ => rfl,rfl,fun _ _ => rfl,fun _ => rfl,fun _ _ => rfl⟩;obtain ⟨f0,f1⟩ := rn l a2 (n := 5) (by omega);generalize vh l a2 5 = a3 at *;generalize vO l a2 5 = d at *;have il : i < Es.length := by omega
   obtain ⟨u,v,B4⟩ : ∃ u v : Int,Es[i] = (u,v) := ⟨_,_,rfl⟩;have bE := hL _ (cY il);rw [B4] at bE;have gE : ∀ h,(bm Es)[i]'h = .agg [.int .i64 u,.int .i64 v] := fun h => by rw [bV,B4]; rfl
   have gE2 : (bm Es)[i]? = some (.agg [.int .i64 u,.int .i64 v]) := by rw [ai (by omega),gE]
   have w1 : IntKind.i64.wrap (d - 2) = d - 2 := cM (by omega) (by omega);have w2 : IntKind.i64.wrap (v + (d - 2)) = v + (d - 2) := cM (by omega) (by omega);have sE := C8 Es i u (v + (d - 2));have l1 : (bm (Es.set i (u,v + (d - 2)))).length = Es.length := by rw [av,dw]
   have tS : (bm (Es.set i (u,v + (d - 2)))).take Es.length = bm (Es.set i (u,v + (d - 2))) := aL (by omega);refine ⟨N,Es.set i (u,v + (d - 2)),a3,?_,by rw [dw]; omega,fun e he => ?_⟩
   ·rw [aB ZI RW (ae rfl)];unfold gA dk at *;generalize bm (Es.set i (u,v + (d - 2))) = Y2 at *;clear B4 hL lo bE;generalize bm Es = Y at *;unfold Tf WT;simp [sa,r9,r8,r7,rZ,rY,rX,rW,rV,rU,mS,mR,mQ,mP,mO,mN,mM,mL,mK,mJ,n1,n2,n3,c0,c1,c2,c3,z,z1,z2,d1,il,gE,gE2,w1,w2,sE,l1,tS,lE,kE,aE,tE,mE,jQ,idx,aJ,ba,aZ,eB,fG,dx,dK,pl,fP,dz,bp,fi,bZ,bU,eT,bQ,dH,cO,Hk,KA,Ks,KK]
   ·rcases cz he with q | q
    ·exact lo e q
    ·subst q; simp only; omega
 refine ⟨N,Es,a1,?_,by omega,lo⟩;rw [aB ZI RW (ae rfl)];unfold gA dk at *;generalize bm Es = Y at *;unfold Tf WT;simp [sa,r9,r8,r7,rZ,rY,rX,rW,rV,rU,mS,mR,mQ,mP,mO,mN,mM,mL,mK,mJ,n1,c0,c1,c2,c3,c4,lE,kE,aE,tE,mE,jQ,idx,aJ,ba,aZ,eB,fG,dx,dK,pl,fP,dz,bp,fi,bZ,bU,eT,bQ,dH,cO,Hk,KA,Ks,KK]
/- The law: all functions answer as the reference does. -/
theorem aa5 : aY ak nQd [] [] = some (.bool true,[]) := kJ.2 ⟨3000,by kernel_rfl⟩
theorem ZK (l : List Int) (n : Int) (F : List Ed) (C : Int) (Ns : List Int) : aY ak nQe [.list 1 (ints l)] [Jm n F C Ns] = some (.ptr 1 0,[Jm n F C Ns,dk l 0]) := by
 rw [aB oQe sQe (ae rfl)];unfold Jm;generalize bm F = Y;generalize ints Ns = Z;unfold qQe cQe dk;simp [adO,adN,eB,fG,fy,dp,cU,fP,ba,aZ,aJ]
theorem Gf : ∀ l : List Int,pX (ints l) (ints l) = true
 | [] => rfl
 | x :: r => by
   have ih := Gf r;rw [show ints (x :: r) = .int .i64 x :: ints r from rfl];simp [pX,sS,ih]
theorem IJ : ∀ l : List Ed,pX (bm l) (bm l) = true
 | [] => rfl
 | x :: r => by
   have ih := IJ r;rw [OX];simp [pX,sS,ih]
theorem wu {n1 n2 n3 n4 : Int} {F1 F2 F3 F4 : List Ed} {C1 C2 C3 C4 : Int} {N1 N2 N3 N4 : List Int} (l1 : F1.length < 900000) (l2 : F2.length < 900000) (l3 : F3.length < 900000) (l4 : F4.length < 900000) (m1 : N1.length < 1000000) (m2 : N2.length < 1000000) (m3 : N3.length < 1000000) (m4 : N4.length < 1000000) :
  ∀ i : Nat,i < 4 -> ∃ n F C Ns,TAg n F C Ns /\ ([sW n1 F1 C1 N1,sW n2 F2 C2 N2,sW n3 F3 C3 N3,sW n4 F4 C4 N4] : List AV)[i]? = some (sW n F C Ns) := by
 intro i hi
 match i,hi with
 | 0,_ => exact ⟨_,_,_,_,CF _ _ _ _ l1 m1,rfl⟩
 | 1,_ => exact ⟨_,_,_,_,CF _ _ _ _ l2 m2,rfl⟩
 | 2,_ => exact ⟨_,_,_,_,CF _ _ _ _ l3 m3,rfl⟩
 | 3,_ => exact ⟨_,_,_,_,CF _ _ _ _ l4 m4,rfl⟩
theorem Xd (l : List Int) (n0 : Int) (F0 : List Ed) (C0 : Int) (N0 : List Int) (u v : Int) : aY ak nQa [.list 1 (ints l),.agg [.int .i64 n0,.list 2 (bm F0),.int .i64 C0,.list 1 (ints N0)],.int .i64 u,.int .i64 v] [] = some (.bool true,[]) := by
 rw [aB oQa sQa (ae rfl)];have aw := aa5;have few := acE l;have lt := VA n0 F0 10 (by omega);have lN := aj N0;by_cases hl : (l.length : Int) <= 500
 case neg =>
  unfold gA at lt;generalize bm F0 = Y0 at *;generalize ints N0 = A3 at *;generalize ints l = D1 at *;unfold qQa cQa;simp [tK,tJ,tI,tH,tG,tF,tD,tC,tB,tA,oD,oC,oB,oA,ox,ot,oq,om,oi,oh,oe,od,ob,oa,n9,n8,n7,n6,nZ,nY,nX,nW,nV,nU,nT,nS,nQ,nP,few,hl,aw,aJ,ba,aZ,sQb,iQb,lQb,eQb,sQd,iQd,lQd,eQd]
 by_cases hg : n0 <= 10 /\ F0.length <= 100
 case neg =>
  have e : (decide (n0 <= 10) && decide ((F0.length : Int) <= 10 * 10)) = false := by
   rw [Bool.and_eq_false_iff,decide_eq_false_iff_not,decide_eq_false_iff_not];by_cases q : n0 <= 10
   ·exact .inr (by have : ¬ F0.length <= 100 := fun k => hg ⟨q,k⟩; omega)
   ·exact .inl q
  rw [e] at lt;unfold gA at lt;generalize bm F0 = Y0 at *;generalize ints N0 = A3 at *;generalize ints l = D1 at *;unfold qQa cQa;simp [tK,tJ,tI,tH,tG,tF,tD,tC,tB,tA,oD,oC,oB,oA,ox,ot,oq,om,oi,oh,oe,od,ob,oa,n9,n8,n7,n6,nZ,nY,nX,nW,nV,nU,nT,nS,nQ,nP,few,hl,aw,lt,aJ,ba,aZ,sQb,iQb,lQb,eQb,sQd,iQd,lQd,eQd,sQc,iQc,lQc,eQc]
 obtain ⟨g1,g2⟩ := hg;rw [decide_eq_true g1,uU,decide_eq_true (show (F0.length : Int) <= 10 * 10 by omega)] at lt;by_cases hN0 : N0.length <= 80
 case neg =>
  have h1 : (80 : Int) < N0.length := by omega
  have h2 : 80 < N0.length := by omega
  unfold gA at lt;generalize bm F0 = Y0 at *;generalize ints N0 = A3 at *;generalize ints l = D1 at *;unfold qQa cQa;simp [tK,tJ,tI,tH,tG,tF,tD,tC,tB,tA,oD,oC,oB,oA,ox,ot,oq,om,oi,oh,oe,od,ob,oa,n9,n8,n7,n6,nZ,nY,nX,nW,nV,nU,nT,nS,nQ,nP,few,hl,aw,lt,lN,h1,h2,aJ,ba,aZ,sQb,iQb,lQb,eQb,sQd,iQd,lQd,eQd,sQc,iQc,lQc,eQc]
 have h1 : ¬ (80 : Int) < N0.length := by omega
 have h2 : ¬ 80 < N0.length := by omega
 have hl5 : l.length <= 500 := by omega
 have nw := ZK l n0 F0 C0 N0;obtain ⟨N,Es,a1,g0,hG,hN9,hE⟩ := VZ l (by omega) 9 (by omega) 0;rw [show ((9 : Nat) : Int) = 9 from rfl] at g0;have op := qj hG (by omega);have lT := cS N Es;have bT := I5 hG;have tb := pk hG;have t3 := iO hG;have wt : IntKind.i64.wrap ((j7 N Es : Nat) + 1 : Int) = (j7 N Es : Nat) + 1 := cM (by omega) (by omega);have low : Low Es 9 := fun e he => by have := hG.2.2 e he; omega
 generalize du N Es = T at *;generalize j7 N Es = t at *;have av0 := IJ F0;have av1 := Gf N0;have tk : (ints T).take N = ints T := aL (by rw [aj]; omega);have lTi := aj T;rw [lT] at lTi;have N5 : N <= 4294967296 := by omega
 have pT := yL T;have pN := yL N0;by_cases z : N = 0
 ·subst z;obtain rfl : T = [] := dn lT;obtain ⟨n4,Es4,a4,sp,lE4,_⟩ := Ja l hl5 a1 0 (by omega) Es hE low;obtain ⟨a5,lp⟩ := uY n0 F0 C0 N0 l hl5 u v [sW 0 Es t [],sW n0 F0 C0 N0,sW 0 Es ((t : Int) + 1) [],sW n4 Es4 t []] rfl (wu (by omega) (by omega) (by omega) (by omega) (by simp) (by omega) (by simp) (by simp)) 4 0 a4 rfl;rw [iR] at lp;unfold taO at lp;unfold fh at op;unfold sW gA Jm dk at *;simp only [iR] at g0 nw;simp only [iR,gW] at op sp lp g0 nw;generalize bm Es = Y at *;generalize bm Es4 = Y4 at *;generalize bm F0 = Y0 at *;generalize ints N0 = A3 at *;generalize ints l = D1 at *;clear hG low bT tk lTi;unfold qQa cQa;simp [tK,tJ,tI,tH,tG,tF,tD,tC,tB,tA,oD,oC,oB,oA,ox,ot,oq,om,oi,oh,oe,od,ob,oa,n9,n8,n7,n6,nZ,nY,nX,nW,nV,nU,nT,nS,nQ,nP,few,hl,aw,lt,lN,h1,h2,nw,g0,op,sp,lp,wt,av0,av1,pN,jQ,idx,aJ,gW,ba,aZ,fG,dx,dK,pl,dz,bp,fi,fP,bZ,bU,eT,bQ,dH,cO,ja,Ak,F5,Zm,oF,Rn,sS,pX,sQb,iQb,lQb,eQb,sQd,iQd,lQd,eQd,sQc,iQc,lQc,eQc,sQe,iQe,lQe,eQe,sQf,iQf,lQf,eQf,sQg,iQg,lQg,eQg,RW,iQi,lQi,eQi,Hk,KA,Ks,KK]
 have N0' : 0 < N := by omega
 have Ni : (0 : Int) < N := by omega
 have n1 := fU l (by omega) a1 2 (by omega) [] Hn;generalize vh l a1 2 = a2 at *;generalize vO l a1 2 = c at *;by_cases c1 : c = 1
 ·subst c1;have n2 := fU l (by omega) a2 N (by omega) [] Hn;obtain ⟨b0,b1⟩ := rn l a2 (n := (N : Int)) (by omega);generalize vh l a2 N = a3 at *;obtain ⟨j,hj⟩ : ∃ j : Nat,vO l a2 (N : Int) = (j : Int) := ⟨(vO l a2 (N : Int)).toNat,by omega⟩;rw [hj] at n2 b0 b1;have jN : j < N := by omega
  have jT : j < T.length := by omega
  have bj := bT T[j] (cY jT);have T7 : IntKind.i64.wrap (T[j] + 1) = T[j] + 1 := cM (by omega) (by omega);have st : (ints T).set j (.int .i64 (T[j] + 1)) = ints (T.set j (T[j] + 1)) := by simp [ints,G8]
  have g6 : (ints T)[j]? = some (.int .i64 T[j]) := by rw [aM,ai jT]; rfl
  have g7 : ∀ h,(ints T)[j]'h = .int .i64 T[j] := fun h => bk ..;have lS : (T.set j (T[j] + 1)).length = N := by rw [dw]; exact lT
  have lSi := aj (T.set j (T[j] + 1));rw [lS] at lSi;have tk2 : (ints (T.set j (T[j] + 1))).take N = ints (T.set j (T[j] + 1)) := aL (by omega);obtain ⟨n4,Es4,a4,sp,lE4,_⟩ := Ja l hl5 a3 N (by omega) Es hE low;obtain ⟨a5,lp⟩ := uY n0 F0 C0 N0 l hl5 u v [sW N Es t T,sW n0 F0 C0 N0,sW N Es t (T.set j (T[j] + 1)),sW n4 Es4 t T] rfl (wu (by omega) (by omega) (by omega) (by omega) (by omega) (by omega) (by omega) (by omega)) 4 0 a4 rfl;rw [iR] at lp;unfold taO at lp;unfold fh at op;unfold sW gA Jm dk at *;simp only [iR] at g0 nw;have pS := yL (T.set j (T[j] + 1));generalize T.set j (T[j] + 1) = S at *;generalize T[j] = x at *;generalize bm Es = Y at *;generalize bm Es4 = Y4 at *;generalize bm F0 = Y0 at *;generalize ints N0 = A3 at *;generalize ints l = D1 at *;clear hG low bT bj hj;unfold qQa cQa;simp [tK,tJ,tI,tH,tG,tF,tD,tC,tB,tA,oD,oC,oB,oA,ox,ot,oq,om,oi,oh,oe,od,ob,oa,n9,n8,n7,n6,nZ,nY,nX,nW,nV,nU,nT,nS,nQ,nP,few,hl,aw,lt,lN,h1,h2,nw,g0,op,sp,lp,n1,n2,N0',Ni,b1,jN,T7,st,g6,g7,lT,lTi,lS,lSi,tk,tk2,wt,av0,av1,pT,pN,pS,N5,jQ,idx,aJ,ba,aZ,fG,dx,dK,pl,dz,bp,fi,fP,bZ,bU,eT,bQ,dH,cO,ja,Ak,F5,Zm,oF,Rn,sS,pX,sQb,iQb,lQb,eQb,sQd,iQd,lQd,eQd,sQc,iQc,lQc,eQc,sQe,iQe,lQe,eQe,sQf,iQf,lQf,eQf,sQg,iQg,lQg,eQg,RW,iQi,lQi,eQi,Hk,KA,Ks,KK]
 ·obtain ⟨n4,Es4,a4,sp,lE4,_⟩ := Ja l hl5 a2 N (by omega) Es hE low;obtain ⟨a5,lp⟩ := uY n0 F0 C0 N0 l hl5 u v [sW N Es t T,sW n0 F0 C0 N0,sW N Es ((t : Int) + 1) T,sW n4 Es4 t T] rfl (wu (by omega) (by omega) (by omega) (by omega) (by omega) (by omega) (by omega) (by omega)) 4 0 a4 rfl;rw [iR] at lp;unfold taO at lp;unfold fh at op;unfold sW gA Jm dk at *;simp only [iR] at g0 nw;generalize bm Es = Y at *;generalize bm Es4 = Y4 at *;generalize bm F0 = Y0 at *;generalize ints N0 = A3 at *;generalize ints l = D1 at *;clear hG low bT;unfold qQa cQa;simp [tK,tJ,tI,tH,tG,tF,tD,tC,tB,tA,oD,oC,oB,oA,ox,ot,oq,om,oi,oh,oe,od,ob,oa,n9,n8,n7,n6,nZ,nY,nX,nW,nV,nU,nT,nS,nQ,nP,few,hl,aw,lt,lN,h1,h2,nw,g0,op,sp,lp,n1,c1,N0',Ni,lT,lTi,tk,wt,av0,av1,pT,pN,N5,jQ,idx,aJ,ba,aZ,fG,dx,dK,pl,dz,bp,fi,fP,bZ,bU,eT,bQ,dH,cO,ja,Ak,F5,Zm,oF,Rn,sS,pX,sQb,iQb,lQb,eQb,sQd,iQd,lQd,eQd,sQc,iQc,lQc,eQc,sQe,iQe,lQe,eQe,sQf,iQf,lQf,eQf,sQg,iQg,lQg,eQg,RW,iQi,lQi,eQi,Hk,KA,Ks,KK]
end Go.BmP
