/- core.Numbers, core.Degeneracy. -/
import Derived.Test.YtppmiehidnpgbaaGreatDoorUseM
import Derived.Test.YtppmiehidnpgbaaGreatDoorPeE
import Derived.Test.YtppmiehidnpgbaaGreatDoorDegC
import Derived.Test.YtppmiehidnpgbaaGreatDoorMxS
import Derived.Test.YtppmiehidnpgbaaGreatDoorCoV
import Derived.Test.YtppmiehidnpgbaaGreatDoorGr24
set_option linter.unusedSimpArgs false
set_option linter.unusedVariables false
set_option maxRecDepth 100000
set_option maxHeartbeats 8000000
open List renaming getElem?_eq_getElem → aB, length_cons → cj, length_map → gF, mem_cons → aK, mem_map → eZ, mem_range → di, nodup_cons → kf, pairwise_map → tj, replicate → aF
open Nat renaming le_of_ble_eq_true → aD
namespace Go.BmP
open Go.Am Go.Bm
theorem Z7 {N : Nat} {Es : List Ed} (hG : ke (N : Int) Es) (hE : Es.length < 1000000) (h0 : 0 < N) : ∃ o ds,lh (cU N Es) (2 ^ N - 1) o ds /\ br au nQW [.agg [.int .i64 N,.list 2 (dO Es)]] [u4 N (dO Es)] = some (.dB [.sl 1 3 0 N,.int .i64 0],[u4 N (dO Es),u4 N (dO Es),some (ints (ns o)),some (ints (lk o ds 0 (aF N 0)))]) := by
 obtain ⟨o,ds,hp,pr⟩ := MD hG hE h0;refine ⟨o,ds,hp,?_⟩;have g := nJ (N : Int) Es (by omega);rw [iw.2 hG] at g;obtain ⟨a1,a2,a3,a4,a5,a6,a7,a8,a9,aa,ab⟩ := pd (ns o);obtain ⟨b1,b2,b3,b4,b5,b6,b7,b8,b9,ba,bb⟩ := pd (lk o ds 0 (aF N 0));rw [aV oQW sQW (aD rfl)];unfold u4 at *;generalize ints (ns o) = O1 at *;generalize ints (lk o ds 0 (aF N 0)) = L1 at *;generalize dO Es = Y at *;unfold qQW cQW;simp [adO,adN,adM,adL,adK,adJ,g,pr,a1,a2,a3,a4,a5,a6,a7,a8,a9,aa,ab,b1,b2,b3,b4,b5,b6,b7,b8,b9,ba,bb,aN,bu,bq,ko,fQ,gz,pl,jt,dQ,l6,mg,gg,fx,eL,kj,nN,AH,jJ,ym,qB,kB,sQY,iQY,lQY,sQs,iQs,lQs]
theorem IZ (f : Nat -> Rt) : ∀ (l : List Int) (n : Nat),eM f n (ints l) = ints l
 | [],_ => rfl
 | x :: r,n => by
   show AV.int .i64 x :: eM f (n + 1) (ints r) = _;rw [IZ f r]; rfl
def mxf (k n : Int) : Int := if k < n then n else k
def cdSt (N : Nat) (Y O1 L1 : List AV) (k i : Int) (J : Env) : St := ⟨(5,.int .i64 0) :: (6,.int .i64 k) :: (14,.sl 1 3 0 N) :: (15,.int .i64 N) :: (16,.int .i64 i) :: J,[u4 N Y,u4 N Y,some O1,some L1]⟩
theorem UU (N : Nat) (hN : N <= 64) (Y O1 : List AV) (L : List Int) (hL : L.length = N) : ∀ (m i : Nat) (k : Int),i + m = N -> aW au 0 (.loop T4) (cdSt N Y O1 (ints L) k i []) = some (.exit 0,cdSt N Y O1 (ints L) ((L.drop i).foldl mxf k) N [(17,.bool false)])
 | 0,i,k,hi => by
   obtain rfl : i = N := by omega
   rw [<- hL,List.drop_length,List.foldl_nil,hL];refine bw ?_;unfold cdSt u4 T4;generalize ints L = L1 at *;simp [RE,RD,RC,RB,RA,Rz,Ry,Rx,Rw]
 | m + 1,i,k,hi => by
   have bL : i < L.length := by omega
   have ih := UU N hN Y O1 L hL m (i + 1) (mxf k L[i]) (by omega);rw [List.drop_eq_getElem_cons bL,List.foldl_cons];refine (aY ?_).trans ih;have k1 : (i : Int) < N := by omega
   have kn : i < N := by omega
   have hw := eT (i := i) (by omega);have g3 : (ints L)[i]? = some (.int .i64 L[i]) := by rw [aB (by rw [af]; exact bL),aL]
   have g4 : ∀ h,(ints L)[i]'h = .int .i64 L[i] := fun h => aL _ _ _;have ll := af L;obtain ⟨b1,b2,b3,b4,b5,b6,b7,b8,b9,ba,bb⟩ := pd L;have n1 : ∀ f n,eM f n (ints L) = ints L := fun f n => IZ f L n;clear ih;unfold cdSt u4 mxf T4;generalize ints L = L1 at *;generalize L[i] = x at *;by_cases q : k < x <;> simp [RE,RD,RC,RB,RA,Rz,Ry,Rx,Rw,k1,kn,hi,hw,g3,g4,ll,hL,bL,q,n1,b1,b2,b3,b4,b5,b6,b7,b8,b9,ba,bb,idx,aN,Cr]
theorem aag {N : Nat} {Es : List Ed} (hG : ke (N : Int) Es) (hE : Es.length < 1000000) (h0 : 0 < N) : ∃ L,xm (cU N Es) N L /\ br au nQw [.agg [.int .i64 N,.list 2 (dO Es)]] [] = some (.dB [.int .i64 (UH L),.int .i64 0],[]) := by
 have hN : N <= 64 := by have := hG.1.2; omega
 obtain ⟨o,ds,hp,nr⟩ := Z7 hG hE h0;have ln : (lk o ds 0 (aF N 0)).length = N := by rw [Fj,List.length_replicate]
 refine ⟨_,Yb hN hp ln,?_⟩;have lp := UU N hN (dO Es) (ints (ns o)) (lk o ds 0 (aF N 0)) ln N 0 0 (by omega);rw [List.drop_zero] at lp;have e : (lk o ds 0 (aF N 0)).foldl mxf 0 = UH (lk o ds 0 (aF N 0)) := rfl;rw [e] at lp;generalize lk o ds 0 (aF N 0) = L at *;have ll := af L;obtain ⟨a1,a2,a3,a4,a5,a6,a7,a8,a9,aa,ab⟩ := pd (ns o);obtain ⟨b1,b2,b3,b4,b5,b6,b7,b8,b9,ba,bb⟩ := pd L;unfold cdSt at lp;rw [aV oQw sQw (aD rfl)];unfold u4 at *;simp only [fY] at lp;generalize ints (ns o) = O1 at *;generalize ints L = L1 at *;generalize dO Es = Y at *;generalize UH L = D at *;unfold qQw cQw;simp [RE,RD,RC,RB,RA,Rz,Ry,Rx,Rw,nr,lp,ll,ln,a1,a2,a3,a4,a5,a6,a7,a8,a9,aa,ab,b1,b2,b3,b4,b5,b6,b7,b8,b9,ba,bb,aN,bu,bq,ko,fQ,gz,pl,jt,dQ,l6,mg,gg,fx,eL,kj,nN,AH,jJ,ym,qB,kB,Cr,sQW,iQW,lQW]
/- Bounds of cliques, joined: colours, degeneracy, largest clique. Plain. -/
theorem LB {N : Nat} {Es : List Ed} (hG : ke (N : Int) Es) {o ds : List Nat} (hp : lh (cU N Es) (2 ^ N - 1) o ds) : (xf (eC N Es) N (ns o).reverse).length = N /\ (∀ x ∈ xf (eC N Es) N (ns o).reverse,0 <= x) /\ ∀ e ∈ Es,(xf (eC N Es) N (ns o).reverse).getD e.1.toNat (-1) ≠ (xf (eC N Es) N (ns o).reverse).getD e.2.toNat (-1) := by
 have hN : N <= 64 := by have := hG.1.2; omega
 obtain ⟨ol,_,nd,om⟩ := Fo hN hp;obtain ⟨q1,q2,q3,q4⟩ := H6 hN ol nd om;obtain ⟨g1,g2,g3⟩ := Gl hG (ns o).reverse q3 q4;refine ⟨g1,fun x hx => ?_,g3⟩;obtain ⟨i,hi,rfl⟩ := List.getElem_of_mem hx;have := g2 i (by omega)
 rwa [List.getD_eq_getElem?_getD,aB hi] at this
theorem abw {N : Nat} {Es : List Ed} (hG : ke (N : Int) Es) : ∀ v,v < N -> eC N Es v = eS ((cU N Es).getD v 0) := fun v hv => (LH hG hv).symm
theorem UN {N : Nat} {Es : List Ed} {O : List Nat} (hO : QS N Es O) {C : List Int} (hl : C.length = N) (hC : ∀ e ∈ Es,C.getD e.1.toNat (-1) ≠ C.getD e.2.toNat (-1)) : O.length <= (bZ C).length := by
 refine aci (fun x hx => by rw [hl]; exact hO.2 x hx) (hO.1.imp fun {a b} h => ?_);rcases h.2 with k | k
 ·have := hC _ k;simpa using this
 ·have := hC _ k;simpa using this.symm
theorem ab9 {N : Nat} {Es : List Ed} (hG : ke (N : Int) Es) {O : List Nat} (hO : QS N Es O) {K : Nat} (hK : ∀ v j,JN (cU N Es) (2 ^ N - 1) j v -> j <= K) : O.length <= K + 1 := by
 have hN : N <= 64 := by have := hG.1.2; omega
 have pw : ∀ x ∈ O,∀ y ∈ O,x ≠ y -> jn Es (x : Int) (y : Int) := by
  have : ∀ {l : List Nat},l.Pairwise (fun (a b : Nat) => a < b /\ jn Es (a : Int) (b : Int)) -> ∀ a ∈ l,∀ b ∈ l,a ≠ b -> jn Es (a : Int) (b : Int) := by
   intro l hl
   induction hl with
   | nil => intro a ha; simp at ha
   | cons p _ ih =>
     intro a ha b hb mW;rcases aK.1 ha with e1 | h1 <;> rcases aK.1 hb with e2 | h2
     ·exact absurd (e1.trans e2.symm) mW
     ·rw [e1]; exact (p b h2).2
     ·rw [e2]; exact (p a h1).2.symm
     ·exact ih a h1 b h2 mW
  exact this hO.1
 refine aiV hN (hO.1.imp fun {a b} h => by omega) hO.2 (fun x hx y hy mW => ?_) hK;rw [(iG hG).2.2];rcases pw x hx y hy mW with k | k
 ·rw [decide_eq_true k]; rfl
 ·rw [decide_eq_true k,Bool.or_true]
theorem ach {N : Nat} {Es : List Ed} (hG : ke (N : Int) Es) {o ds : List Nat} (hp : lh (cU N Es) (2 ^ N - 1) o ds) {K : Nat} (hK : ∀ v j,JN (cU N Es) (2 ^ N - 1) j v -> j <= K) : (bZ (xf (eC N Es) N (ns o).reverse)).length <= K + 1 := by
 have hN : N <= 64 := by have := hG.1.2; omega
 have hp2 : 2 ^ N <= 2 ^ 64 := Nat.pow_le_pow_right (by decide) hN;obtain ⟨_,c2,_⟩ := LB hG hp
 have ub := ZH (nb := eC N Es) (N := N) (K := K) (fun v hv => by
  rw [abw hG v hv]
  exact ⟨(kJ _).imp fun {a b} h => by omega,fun w hw => eY.1 hw⟩) (show 2 ^ N - 1 < 18446744073709551616 by omega) (fun j hj => by
   rw [Nat.testBit_two_pow_sub_one] at hj;exact of_decide_eq_true hj) hp hK
 exact agU c2 fun i => (ub i).1
/- maxclique.Bound. -/
theorem Oq {N : Nat} {Es : List Ed} (hG : ke (N : Int) Es) (hE : Es.length < 1000000) {o ds : List Nat} (hp : lh (cU N Es) (2 ^ N - 1) o ds) : br au MQ [.agg [.int .i64 N,.list 2 (dO Es)]] [] = some (.dB [.list 1 (ints (xf (eC N Es) N (ns o).reverse)),.int .i64 0],[]) := by
 obtain ⟨o',ds',Jd,cr⟩ := Ck hG hE;obtain ⟨rfl,rfl⟩ := MF hp Jd;exact cr
def Uj : Option (AV × Heap) -> Bool
 | some (.dB [.int .i64 0,.int .i64 0],[]) => true
 | _ => false
theorem NH {r : Option (AV × Heap)} (h : Uj r = true) : r = some (.dB [.int .i64 0,.int .i64 0],[]) := by
 unfold Uj at h;split at h
 ·rfl
 ·cases h
theorem Zg : Uj (gI au 300 VP [.agg [.int .i64 0,.list 2 []]] []) = true := by kernel_rfl
theorem M7 : br au VP [.agg [.int .i64 0,.list 2 []]] [] = some (.dB [.int .i64 0,.int .i64 0],[]) := dD.2 ⟨300,NH Zg⟩
theorem Qb {N : Nat} {Es : List Ed} (hG : ke (N : Int) Es) (hE : Es.length < 1000000) (h0 : 0 < N) : ∃ o ds L K,lh (cU N Es) (2 ^ N - 1) o ds /\ xm (cU N Es) N L /\ UH L = ((K : Nat) : Int) /\ (∀ v j,JN (cU N Es) (2 ^ N - 1) j v -> j <= K) /\ br au VP [.agg [.int .i64 N,.list 2 (dO Es)]] [] = some (.dB [.int .i64 ((min (bZ (xf (eC N Es) N (ns o).reverse)).length (K + 1) : Nat) : Int),.int .i64 0],[]) := by
 have hN : N <= 64 := by have := hG.1.2; omega
 obtain ⟨o,ds,hp,cr⟩ := Ck hG hE;obtain ⟨L,hL,dr⟩ := aag hG hE h0;obtain ⟨K,hK,k1,k2⟩ := Oj hL;refine ⟨o,ds,L,K,hp,hL,hK,k1,?_⟩;obtain ⟨c1,_,_⟩ := LB hG hp
 have kN : K < 64 := by
  rcases k2 with e | ⟨v,hv⟩
  ·omega
  ·have Ul := Gb hv;obtain ⟨x,e,q⟩ := hL.2 v Ul;obtain ⟨m',s,b,g⟩ := hv;have := g v b;unfold QG at this
   have h3 : jQ (m' &&& (cU N Es).getD v 0) < 64 := by
    rw [<- sE]
    have := q7 (A := (v : Int) :: eS (m' &&& (cU N Es).getD v 0)) (B := (List.range 64).map fun n => ((n : Nat) : Int)) (kf.2 ⟨fun z => by
     obtain ⟨i,i1,i2,i3⟩ := eY.1 z;obtain rfl : v = i := by omega
     rw [Nat.testBit_and,(Bk hG).2.1 v,Bool.and_false] at i3
     exact absurd i3 (by simp),(kJ _).imp fun {a b} h => by omega⟩) fun y hy => by
      rcases aK.1 hy with rfl | hy
      ·exact eZ.2 ⟨v,di.2 (by omega),rfl⟩
      ·obtain ⟨i,rfl,i2,i3⟩ := eY.1 hy;exact eZ.2 ⟨i,di.2 i2,rfl⟩
    rw [gF,List.length_range,cj] at this;omega
   omega
 have no := TF (xf (eC N Es) N (ns o).reverse) (by omega);have ls := af (bZ (xf (eC N Es) N (ns o).reverse));have pC := fG (xf (eC N Es) N (ns o).reverse);have sl := iu (xf (eC N Es) N (ns o).reverse);rw [hK] at dr;have nz : ¬ (N : Int) = 0 := by omega
 have nz2 : ¬ N = 0 := by omega
 have w1 : IntKind.i64.wrap ((K : Int) + 1) = (K : Int) + 1 := gK (by omega) (by omega);clear k1 k2 hK c1;rw [aV oQg sQg (aD rfl)];generalize bZ (xf (eC N Es) N (ns o).reverse) = S at *;generalize ints (xf (eC N Es) N (ns o).reverse) = C1 at *;generalize ints S = S1 at *;generalize dO Es = Y at *;unfold qQg cQg;by_cases q : S.length < K + 1
 ·have q1 : (S.length : Int) < (K : Int) + 1 := by omega
  have q2 : min S.length (K + 1) = S.length := by omega
  have q3 : ¬ (K : Int) + 1 < S.length := by omega
  rw [q2];simp [Sx,Sw,Sv,Su,Ss,Sr,Sq,Sp,cr,dr,no,ls,pC,nz,nz2,w1,q1,q3,aN,bu,bq,gz,pl,ko,fQ,sQh,iQh,lQh,sQw,iQw,lQw,sQx,iQx,lQx]
 ·have q1 : ¬ (S.length : Int) < (K : Int) + 1 := by omega
  have q2 : ((min S.length (K + 1) : Nat) : Int) = (K : Int) + 1 := by omega
  rw [q2];by_cases q3 : (K : Int) + 1 < S.length
  ·simp [Sx,Sw,Sv,Su,Ss,Sr,Sq,Sp,cr,dr,no,ls,pC,nz,nz2,w1,q1,q3,aN,bu,bq,gz,pl,ko,fQ,sQh,iQh,lQh,sQw,iQw,lQw,sQx,iQx,lQx]
  ·have q4 : (S.length : Int) = (K : Int) + 1 := by omega
   simp [Sx,Sw,Sv,Su,Ss,Sr,Sq,Sp,cr,dr,no,ls,pC,nz,nz2,w1,q1,q3,q4,aN,bu,bq,gz,pl,ko,fQ,sQh,iQh,lQh,sQw,iQw,lQw,sQx,iQx,lQx]
/- A largest clique is a maximal one; Above of the empty set. Plain. -/
theorem afJ {N : Nat} {E : List Ed} {O : List Nat} (h : QS N E O) : OK N E (nz O) := by
 refine ⟨?_,fun x hx => ?_,?_⟩
 ·unfold Up nz;rw [tj];exact h.1.imp fun k => by omega
 ·unfold nz at hx;obtain ⟨y,hy,rfl⟩ := eZ.1 hx;have := h.2 y hy;omega
 ·unfold nz;rw [tj];exact h.1.imp fun k => k.2
theorem agy {N : Nat} {E : List Ed} {O : List Nat} (h : Lgst N E O) (h0 : 0 < N) : nz O ≠ [] := by
 have := h.2 [0] ⟨by simp,fun x hx => by simp at hx; omega⟩;intro e;have := congrArg List.length e;rw [pq] at this;simp only [List.length_nil,cj] at *;omega
theorem abG {N : Nat} {E : List Ed} (hG : ke (N : Int) E) {O : List Nat} (h : Lgst N E O) (h0 : 0 < N) : vO N E (nz O) := by
 have hc := afJ h.1;refine ⟨hc,agy h h0,fun x hx k => ?_⟩;have hn : x ∉ nz O := fun q => Lb hG x (k x q);obtain ⟨s1,s2⟩ := dC (x :: nz O)
 have pw : ∀ {l : List Int},l.Pairwise (jn E) -> ∀ a ∈ l,∀ b ∈ l,a ≠ b -> jn E a b := by
  intro l hl
  induction hl with
  | nil => intro a ha; simp at ha
  | cons p _ ih =>
    intro a ha b hb mW;rcases aK.1 ha with e1 | h1 <;> rcases aK.1 hb with e2 | h2
    ·exact absurd (e1.trans e2.symm) mW
    ·rw [e1]; exact p b h2
    ·rw [e2]; exact (p a h1).symm
    ·exact ih a h1 b h2 mW
 have all : ∀ a ∈ x :: nz O,∀ b ∈ x :: nz O,a ≠ b -> jn E a b := fun a ha b hb mW => by
  rcases aK.1 ha with e1 | h1 <;> rcases aK.1 hb with e2 | h2
  ·exact absurd (e1.trans e2.symm) mW
  ·rw [e1]; exact (k b h2).symm
  ·rw [e2]; exact k a h1
  ·exact pw hc.ad a h1 b h2 mW
 have Gg : OK N E (bZ (x :: nz O)) := by
  refine ⟨s1,fun y hy => ?_,?_⟩
  ·rcases aK.1 ((s2 y).1 hy) with rfl | q
   ·exact hx
   ·exact hc.bd y q
  ·exact s1.imp_of_mem fun {a b} ha hb bL => all a ((s2 a).1 ha) b ((s2 b).1 hb) (by omega)
 obtain ⟨q1,_⟩ := agL Gg;have l1 := h.2 _ q1;rw [gF] at l1;have l2 := q7 (A := x :: nz O) (B := bZ (x :: nz O)) (kf.2 ⟨hn,hc.up.imp fun {a b} h => by omega⟩) fun y hy => (s2 y).2 hy;rw [cj,pq] at l2;omega
theorem ahv {N : Nat} {E : List Ed} (hG : ke (N : Int) E) {O : List Nat} (h : Lgst N E O) {r : Int} (g : Rg (cU N E) 0 (cn N E []) 0 r) : r = O.length := by
 have e : cn N E [] = 2 ^ N - 1 := rfl;rw [e] at g;obtain ⟨g1,g2,g3⟩ := g;obtain ⟨k1,k2⟩ := (Ny hG O).2 h.1;have a := g2 O k1 k2;rcases g3 with b | ⟨T,t1,t2,t3⟩
 ·omega
 ·have := h.2 T ((Ny hG T).1 ⟨t1,t2⟩);omega
end Go.BmP
