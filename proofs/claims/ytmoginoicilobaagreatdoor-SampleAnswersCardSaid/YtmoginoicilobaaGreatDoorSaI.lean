/- What Wedge and ByWedges of sample and ref33 return of a graph that is in order: the same. -/
import Derived.Test.YtmoginoicilobaaGreatDoorUseM
import Derived.Test.YtmoginoicilobaaGreatDoorX05
import Derived.Test.YtmoginoicilobaaGreatDoorK05
import Derived.Test.YtmoginoicilobaaGreatDoorL01
import Derived.Test.YtmoginoicilobaaGreatDoorS05
import Derived.Test.YtmoginoicilobaaGreatDoorRunX
import Derived.Test.YtmoginoicilobaaGreatDoorSaK
set_option linter.unusedSimpArgs false
set_option linter.unusedVariables false
set_option maxRecDepth 100000
set_option maxHeartbeats 8000000
open Bool renaming not_eq_true → G6
open Int renaming toNat_natCast → k7
open List renaming cons_append → oW, drop_eq_getElem_cons → aP, drop_length → cz, drop_zero → b9, getElem?_eq_getElem → af, getElem?_eq_none → dz, length_append → cM, length_cons → b7, map_cons → dN, nil_append → ei, take_of_length_le → aL
open Nat renaming add_assoc → TT, gcd → cW, le_of_ble_eq_true → ab, lt_of_le_of_lt → dM
namespace Go.BmP
open Go.Am Go.Bm
def wgV (W : List Wd) (Es : List Ed) (at_ : Int) : AV :=
 if at_ < 0 then .dp [.list 1 [],.bool false,.int .i64 1] else
 match W[at_.toNat]? with
 | some w => .dp [.list 1 (ints [w.1,w.2.1,w.2.2]),.bool (cls Es w),.int .i64 0]
 | none => .dp [.list 1 [],.bool false,.int .i64 1]
theorem V7 {N : Nat} {Es : List Ed} (hG : kC (N : Int) Es) (hE : Es.length < 1000000) (at_ : Int) : bf aj nQv [.agg [.int .i64 N,.list 2 (bc Es)],.int .i64 at_] [] = some (wgV (dg N Es N) Es at_,[]) := by
 unfold wgV;by_cases h0 : at_ < 0
 ·rw [if_pos h0];have ww := sg hG hE;have cc := fH (N : Int) Es (by omega);rw [dW.2 hG] at cc;rw [aB oQv sQv (ab rfl)];unfold qQv cQv;have gl := mU (dg N Es N);generalize dg N Es N = W at *;generalize ue W = Z at *;generalize bc Es = Y at *;simp [Mn,Mm,Ml,Mk,Mj,Mi,Mh,Mg,ww,cc,gl,h0,G9,IM,IJ,sQL,iQL,lQL,aJ,au,aO,bF,cB,az,aC,aA,ae,aI,aT,aY,aV]
 ·rw [if_neg h0];obtain ⟨i,rfl⟩ : ∃ i : Nat,at_ = (i : Int) := ⟨at_.toNat,by omega⟩;rw [k7];by_cases hi : i < (dg N Es N).length
  ·rw [af hi];exact T3 hG hE i hi
  ·rw [dz (by omega)];have ww := sg hG hE;have cc := fH (N : Int) Es (by omega);rw [dW.2 hG] at cc;rw [aB oQv sQv (ab rfl)];unfold qQv cQv;have gl := mU (dg N Es N);generalize dg N Es N = W at *;have h2 : (W.length : Int) <= (i : Int) := by omega
   have h3 : W.length <= i := by omega
   generalize ue W = Z at *;generalize bc Es = Y at *;simp [Mn,Mm,Ml,Mk,Mj,Mi,Mh,Mg,ww,cc,gl,h0,h2,h3,G9,IM,IJ,sQL,iQL,lQL,aJ,au,aO,bF,cB,az,aC,aA,ae,aI,aT,aY,aV]
/-! The reference counts -/
def JO (N : Nat) (Y : List AV) : Heap := [some [.int .i64 N,.list 2 Y]]
def OJ (Es : List Ed) (W : List Wd) (n : Nat) (at_ : Int) : Option Wd := if (n : Int) <= at_ then W[(at_ - n).toNat]? else none
theorem Dj (Es : List Ed) (n : Nat) (at_ : Int) : OJ Es [] n at_ = none := by unfold OJ; split <;> rfl
theorem DU (Es : List Ed) (w : Wd) (W : List Wd) (n : Nat) (at_ : Int) : OJ Es (w :: W) n at_ = if (n : Int) = at_ then some w else OJ Es W (n + 1) at_ := by
 unfold OJ;by_cases h : (n : Int) = at_
 ·subst h; simp
 ·rw [if_neg h];by_cases h2 : (n : Int) <= at_
  ·rw [if_pos h2,if_pos (by omega),show (at_ - (n : Int)).toNat = (at_ - ((n + 1 : Nat) : Int)).toNat + 1 by omega,List.getElem?_cons_succ]
  ·rw [if_neg h2,if_neg (by omega)]
theorem JN (Es : List Ed) : ∀ (V W : List Wd) (n : Nat) (at_ : Int),OJ Es (V ++ W) n at_ = match OJ Es V n at_ with
  | some w => some w
  | none => OJ Es W (n + V.length) at_
 | [],W,n,at_ => by rw [Dj]; simp
 | v :: V,W,n,at_ => by
   rw [oW,DU,DU];by_cases h : (n : Int) = at_
   ·rw [if_pos h,if_pos h]
   ·rw [if_neg h,if_neg h,JN Es V W (n + 1) at_,b7,show n + 1 + V.length = n + (V.length + 1) by omega]
def rwT (Es : List Ed) (w : Wd) : Env := [(4,.own 1 (ints [w.1,w.2.1,w.2.2])),(5,.bool (cls Es w)),(6,.int .i64 0)]
theorem L1 {N : Nat} {Es : List Ed} (hG : kC (N : Int) Es) (hE : Es.length < 1000000) (at_ : Int) (v : Nat) (L : List Int) (hL : L.length <= 64) (hb : ∀ x ∈ L,0 <= x /\ x < (N : Int)) (hu : Up L) (i : Nat) (hi : i < L.length) : ∀ (k j n : Nat),j + k = L.length -> i < j -> n + k < 1000000 -> bj aj 0 (.loop MX) ⟨[(1,.int .i64 at_),(2,.ptr 0 0),(8,.int .i64 n),(9,.int .i64 v),(10,.list 1 (ints L)),(11,.int .i64 i),(12,.int .i64 j)],JO N (bc Es)⟩ =
  match OJ Es ((L.drop j).map fun b => (L[i],(v : Int),b)) n at_ with
  | some w => some (.ret,⟨rwT Es w,[]⟩)
  | none => some (.exit 4,⟨[(1,.int .i64 at_),(2,.ptr 0 0),(8,.int .i64 ((n + k : Nat) : Int)),(9,.int .i64 v),(10,.list 1 (ints L)),(11,.int .i64 i),(12,.int .i64 L.length),(38,.bool false)],JO N (bc Es)⟩)
 | 0,j,n,hj,zW,hn => by
   obtain rfl : j = L.length := by omega
   rw [cz,List.map_nil,Dj];refine bm ?_;have gl := ae L;unfold JO;generalize ints L = C at *;generalize bc Es = Y at *;unfold MX;simp [rI,rH,rG,rF,rE,rD,rC,rB,rA,rz,nf,m9,m8,m7,m6,m5,m4,mZ,mY,gl,aJ]
 | k + 1,j,n,hj,zW,hn => by
   have bz : j < L.length := by omega
   have k1 : (j : Int) < L.length := by omega
   have k2 : (i : Int) < L.length := by omega
   have hw := dw (i := j) (by omega);have Tn := dw (i := n) (by omega);have gl := ae L;have gi : ∀ h,(ints L)[i]'h = .int .i64 L[i] := fun h => aT ..;have gj : ∀ h,(ints L)[j]'h = .int .i64 L[j] := fun h => aT ..;rw [aP bz,dN,DU];by_cases e : (n : Int) = at_
   ·rw [if_pos e];refine dj ?_;have fd := Zu (N : Int) Es (by omega) hG L[i] L[j];have lij : L[i] < L[j] := List.pairwise_iff_getElem.1 hu i j hi bz zW
    have cl : decide ((0 : Int) <= (if lq L[i] L[j] ∈ Es then (Es.idxOf (lq L[i] L[j]) : Int) else -1)) = cls Es (L[i],(v : Int),L[j]) := by
     unfold cls jn;simp only
     have ne : lq L[i] L[j] = (L[i],L[j]) := by
      unfold lq;rw [if_neg (by omega),if_pos lij]
     rw [ne];have no : (L[j],L[i]) ∉ Es := fun h => by have := hG.2.2 _ h; simp only at this; omega
     by_cases q : (L[i],L[j]) ∈ Es
     ·rw [if_pos q];have h0 : (0 : Int) <= ((Es.idxOf (L[i],L[j]) : Nat) : Int) := by omega
      simp [q,h0]
     ·rw [if_neg q];simp [q,no]
    subst e;generalize (if lq L[i] L[j] ∈ Es then (Es.idxOf (lq L[i] L[j]) : Int) else -1) = z at *;unfold rwT;rw [show ints [L[i],(v : Int),L[j]] = [.int .i64 L[i],.int .i64 v,.int .i64 L[j]] from rfl];rw [<- cl];clear cl lij hb hu;generalize L[i] = x at *;generalize L[j] = y at *;unfold JO;generalize ints L = C at *;generalize bc Es = Y at *;unfold MX;simp [rI,rH,rG,rF,rE,rD,rC,rB,rA,rz,nf,m9,m8,m7,m6,m5,m4,mZ,mY,k1,k2,bz,hi,hw,Tn,gl,gi,gj,fd,idx,aJ,sQR,iQR,lQR,eO,cI,df,pl]
   ·rw [if_neg e];have ih := L1 hG hE at_ v L hL hb hu i hi k (j + 1) (n + 1) (by omega) (by omega) (by omega);rw [show n + (k + 1) = n + 1 + k by omega,<- ih];refine aR ?_;clear ih gi gj;unfold JO;generalize ints L = C at *;generalize bc Es = Y at *;unfold MX;simp [rI,rH,rG,rF,rE,rD,rC,rB,rA,rz,nf,m9,m8,m7,m6,m5,m4,mZ,mY,k1,bz,hw,Tn,gl,e,aJ]
theorem Ut (v : Nat) (L : List Int) (i : Nat) (h : i < L.length) : tU v (L.drop i) = ((L.drop (i + 1)).map fun b => (L[i],(v : Int),b)) ++ tU v (L.drop (i + 1)) := by
 rw [aP h,tU]
theorem O2 (v : Int) (l : List Int) (h : l.length <= 64) : (tU v l).length <= 4096 := by rw [u5]; exact adf h
theorem L0 {N : Nat} {Es : List Ed} (hG : kC (N : Int) Es) (hE : Es.length < 1000000) (at_ : Int) (v : Nat) (L : List Int) (hL : L.length <= 64) (hb : ∀ x ∈ L,0 <= x /\ x < (N : Int)) (hu : Up L) : ∀ (k i n : Nat),i + k = L.length -> n + k * 64 < 900000 -> bj aj 0 (.loop MW) ⟨[(1,.int .i64 at_),(2,.ptr 0 0),(8,.int .i64 n),(9,.int .i64 v),(10,.list 1 (ints L)),(11,.int .i64 i)],JO N (bc Es)⟩ =
  match OJ Es (tU v (L.drop i)) n at_ with
  | some w => some (.ret,⟨rwT Es w,[]⟩)
  | none => some (.exit 2,⟨[(1,.int .i64 at_),(2,.ptr 0 0),(8,.int .i64 ((n + (tU v (L.drop i)).length : Nat) : Int)),(9,.int .i64 v),(10,.list 1 (ints L)),(11,.int .i64 L.length),(30,.bool false)],JO N (bc Es)⟩)
 | 0,i,n,hi,hn => by
   obtain rfl : i = L.length := by omega
   rw [cz,tU,Dj];refine bm ?_;have gl := ae L;unfold JO;generalize ints L = C at *;generalize bc Es = Y at *;unfold MW;simp [rI,rH,rG,rF,rE,rD,rC,rB,rA,rz,nf,m9,m8,m7,m6,m5,m4,mZ,mY,gl,aJ]
 | k + 1,i,n,hi,hn => by
   have bz : i < L.length := by omega
   have k1 : (i : Int) < L.length := by omega
   have hw := dw (i := i) (by omega);have gl := ae L;have lp := L1 hG hE at_ v L hL hb hu i bz (L.length - (i + 1)) (i + 1) n (by omega) (by omega) (by omega);rw [show ((i + 1 : Nat) : Int) = (i : Int) + 1 by omega] at lp;have ih := L0 hG hE at_ v L hL hb hu k (i + 1) (n + (L.length - (i + 1))) (by omega) (by omega);rw [Ut v L i bz,JN];have le : ((L.drop (i + 1)).map fun b => (L[i],(v : Int),b)).length = L.length - (i + 1) := by rw [List.length_map,List.length_drop]
   rw [cM,le];cases hr : OJ Es ((L.drop (i + 1)).map fun b => (L[i],(v : Int),b)) n at_ with
   | some w =>
     rw [hr] at lp;simp only at lp ⊢;refine dj ?_;clear ih hr le hb;unfold JO rwT at *;generalize ints [w.1,w.2.1,w.2.2] = V at *;generalize cls Es w = cl at *;generalize ints L = C at *;generalize bc Es = Y at *;unfold MW;simp [rI,rH,rG,rF,rE,rD,rC,rB,rA,rz,nf,m9,m8,m7,m6,m5,m4,mZ,mY,k1,bz,hw,gl,lp,aJ]
   | none =>
     rw [hr] at lp;simp only at lp ⊢;rw [<- TT,<- ih];refine aR ?_;clear ih hr le hb;unfold JO at *;generalize n + (L.length - (i + 1)) = m at *;generalize ints L = C at *;generalize bc Es = Y at *;unfold MW;simp [rI,rH,rG,rF,rE,rD,rC,rB,rA,rz,nf,m9,m8,m7,m6,m5,m4,mZ,mY,k1,bz,hw,gl,lp,aJ]
def wdF (N : Nat) (Es : List Ed) : Nat -> Nat -> List Wd
 | _,0 => []
 | v,k + 1 => tU v (ph N Es v) ++ wdF N Es (v + 1) k
theorem VQ (N : Nat) (Es : List Ed) : ∀ k v : Nat,dg N Es (v + k) = dg N Es v ++ wdF N Es v k
 | 0,v => by rw [wdF,List.append_nil,Nat.add_zero]
 | k + 1,v => by rw [wdF,<- List.append_assoc,show v + (k + 1) = v + 1 + k by omega,VQ N Es k (v + 1)]; rfl
theorem LZ {N : Nat} {Es : List Ed} (hG : kC (N : Int) Es) (hE : Es.length < 1000000) (at_ : Int) : ∀ (k v n : Nat),v + k = N -> n <= v * 4096 -> bj aj 0 (.loop ID) ⟨[(1,.int .i64 at_),(2,.ptr 0 0),(8,.int .i64 n),(9,.int .i64 v)],JO N (bc Es)⟩ =
  match OJ Es (wdF N Es v k) n at_ with
  | some w => some (.ret,⟨rwT Es w,[]⟩)
  | none => some (.exit 0,⟨[(1,.int .i64 at_),(2,.ptr 0 0),(8,.int .i64 ((n + (wdF N Es v k).length : Nat) : Int)),(9,.int .i64 N),(21,.bool false)],JO N (bc Es)⟩)
 | 0,v,n,hv,hn => by
   obtain rfl : v = N := by omega
   rw [wdF,Dj];refine bm ?_;unfold JO;generalize bc Es = Y at *;unfold ID;simp [rI,rH,rG,rF,rE,rD,rC,rB,rA,rz,nf,m9,m8,m7,m6,m5,m4,mZ,mY,aJ]
 | k + 1,v,n,hv,hn => by
   have hN := hG.1;have h2 : (v : Int) < N := by omega
   have hw := dw (i := v) (by omega);have nb := pG hG hE (v := (v : Int)) (by omega) h2;have nl := qA hG (u := (v : Int)) (by omega) h2;have nu := vh hG (u := (v : Int)) (by omega) h2
   have hb : ∀ x ∈ ph N Es v,0 <= x /\ x < (N : Int) := fun x hx => by
    have := (o9 hG (u := (v : Int)) (by omega) h2 x).1 hx;exact (zQ hG this).2.1
   have lp := L0 hG hE at_ v (ph N Es v) (by omega) hb nu (ph N Es v).length 0 n (by omega) (by omega);rw [b9,iB] at lp;have pl4 := O2 v (ph N Es v) (by omega);have ih := LZ hG hE at_ k (v + 1) (n + (tU v (ph N Es v)).length) (by omega) (by omega);rw [wdF,JN,cM];cases hr : OJ Es (tU v (ph N Es v)) n at_ with
   | some w =>
     rw [hr] at lp;simp only at lp ⊢;refine dj ?_;clear ih hr hb;unfold JO rwT at *;generalize ints [w.1,w.2.1,w.2.2] = V at *;generalize cls Es w = cl at *;generalize ints (ph N Es v) = C at *;generalize bc Es = Y at *;unfold ID;simp [rI,rH,rG,rF,rE,rD,rC,rB,rA,rz,nf,m9,m8,m7,m6,m5,m4,mZ,mY,h2,hw,nb,lp,aJ,sQQ,iQQ,lQQ,df,pl]
   | none =>
     rw [hr] at lp;simp only at lp ⊢;rw [<- TT,<- ih];refine aR ?_;clear ih hr hb;unfold JO at *;generalize n + (tU v (ph N Es v)).length = m at *;generalize (ph N Es v).length = ll at *;generalize ints (ph N Es v) = C at *;generalize bc Es = Y at *;unfold ID;simp [rI,rH,rG,rF,rE,rD,rC,rB,rA,rz,nf,m9,m8,m7,m6,m5,m4,mZ,mY,h2,hw,nb,lp,aJ,sQQ,iQQ,lQQ,df,pl]
theorem aat (N : Nat) (Es : List Ed) (at_ : Int) : OJ Es (wdF N Es 0 N) 0 at_ = if at_ < 0 then none else (dg N Es N)[at_.toNat]? := by
 have e := VQ N Es N 0;rw [Nat.zero_add,dg,ei] at e;rw [e];unfold OJ;by_cases h : at_ < 0
 ·rw [if_pos h,if_neg (by omega)]
 ·rw [if_neg h,if_pos (by omega),show at_ - ((0 : Nat) : Int) = at_ by omega]
theorem LY {N : Nat} {Es : List Ed} (hG : kC (N : Int) Es) (hE : Es.length < 1000000) (at_ : Int) : bf aj Yf [.agg [.int .i64 N,.list 2 (bc Es)],.int .i64 at_] [] = some (wgV (dg N Es N) Es at_,[]) := by
 have cc := j5 (N : Int) Es (by omega);rw [dW.2 hG] at cc;have lp := LZ hG hE at_ N 0 0 (by omega) (by omega);rw [aat,iB] at lp;rw [aB oQw sQw (ab rfl)];unfold wgV
 have fin : ∀ m : Int,bj aj 0 (.loop ID) ⟨[(1,.int .i64 at_),(2,.ptr 0 0),(8,.int .i64 0),(9,.int .i64 0)],JO N (bc Es)⟩ = some (.exit 0,⟨[(1,.int .i64 at_),(2,.ptr 0 0),(8,.int .i64 m),(9,.int .i64 N),(21,.bool false)],JO N (bc Es)⟩) ->
   aY aj ⟨false,false,true⟩ qQw ([] : Heap).length (bj aj ([] : Heap).length qQw.body ⟨dJ 0 [.agg [.int .i64 N,.list 2 (bc Es)],.int .i64 at_],[]⟩) = some (.dp [.list 1 [],.bool false,.int .i64 1],[]) := by
  intro m l;unfold JO at l;clear lp;generalize bc Es = Y at *;unfold qQw cQw;simp [rI,rH,rG,rF,rE,rD,rC,rB,rA,rz,nf,m9,m8,m7,m6,m5,m4,mZ,mY,cc,l,aJ,G8,IL,II,aY,aV,df,pl]
 by_cases h : at_ < 0
 ·rw [if_pos h] at lp ⊢;exact fin _ lp
 ·rw [if_neg h] at lp ⊢;cases hr : (dg N Es N)[at_.toNat]? with
  | none =>
    rw [hr] at lp;exact fin _ lp
  | some w =>
    rw [hr] at lp;simp only at lp ⊢;clear fin hr;have gv : (ints [w.1,w.2.1,w.2.2]).length = 3 := rfl;have tk : (ints [w.1,w.2.1,w.2.2]).take 3 = ints [w.1,w.2.1,w.2.2] := rfl;unfold rwT JO at lp;generalize ints [w.1,w.2.1,w.2.2] = V at *;generalize cls Es w = cl at *;generalize bc Es = Y at *;unfold qQw cQw;simp [rI,rH,rG,rF,rE,rD,rC,rB,rA,rz,nf,m9,m8,m7,m6,m5,m4,mZ,mY,cc,lp,gv,tk,aJ,G8,IL,II,aY,aV,df,pl]
/- What ByWedges of sample and ref33 return of a graph that is in order, for any picks: the same. -/
def Vr (W : List Wd) (Es : List Ed) : List Int -> Nat -> Option Nat
 | [],n => some n
 | p :: r,n => if p < 0 then none else match W[p.toNat]? with
   | some w => Vr W Es r (if cls Es w = true then n + 1 else n)
   | none => none
theorem Qh {W : List Wd} {Es : List Ed} : ∀ (P : List Int) (n m : Nat),Vr W Es P n = some m -> m <= n + P.length
 | [],n,m,h => by cases h; simp
 | p :: r,n,m,h => by
   rw [Vr] at h;split at h
   ·cases h
   ·split at h
    ·have := Qh r _ _ h;simp only [b7];split at this <;> omega
    ·cases h
theorem DP {N : Nat} {Es : List Ed} (hG : kC (N : Int) Es) (hE : Es.length < 1000000) (P : List Int) (hP : P.length < 1000000) : ∀ (k i n : Nat),i + k = P.length -> n <= i -> bj aj 0 (.loop FH) (K5 N (bc Es) P (ue (dg N Es N)) n i []) =
  match Vr (dg N Es N) Es (P.drop i) n with
  | some m => some (.exit 0,K5 N (bc Es) P (ue (dg N Es N)) m P.length [(22,.bool false)])
  | none => some (.ret,⟨[(4,.ptr 1 0),(5,.int .i64 1)],[some [.int .i64 N,.list 2 (bc Es)],some [.int .i64 0,.int .i64 0]]⟩)
 | 0,i,n,hi,hn => by
   obtain rfl : i = P.length := by omega
   rw [cz,Vr];refine bm ?_;unfold K5;generalize ints P = C at *;generalize ue (dg N Es N) = Z at *;generalize bc Es = Y at *;unfold FH;simp [zj,zi,zh,zg,zf,ze,zd,zc,zb,za,sA,sx,ss,sq,sk,aJ]
 | k + 1,i,n,hi,hn => by
   have bz : i < P.length := by omega
   have k1 : (i : Int) < P.length := by omega
   have hw := dw (i := i) (by omega);have Tn := dw (i := n) (by omega);have gp := ae P;have g3 : (ints P)[i]? = some (.int .i64 P[i]) := by rw [aI,af bz]; rfl
   have g4 : ∀ h,(ints P)[i]'h = .int .i64 P[i] := fun h => aT ..;have gl := mU (dg N Es N);rw [aP bz,Vr];by_cases h0 : P[i] < 0
   ·rw [if_pos h0];refine dj ?_;generalize P[i] = p at *;unfold K5;generalize ints P = C at *;generalize ue (dg N Es N) = Z at *;generalize bc Es = Y at *;unfold FH;simp [zj,zi,zh,zg,zf,ze,zd,zc,zb,za,sA,sx,ss,sq,sk,k1,bz,hw,gp,g3,g4,h0,idx,aJ]
   rw [if_neg h0];obtain ⟨q,hq⟩ : ∃ q : Nat,P[i] = (q : Int) := ⟨P[i].toNat,by omega⟩;rw [hq] at g3 g4 h0 ⊢;rw [k7];by_cases hl : q < (dg N Es N).length
   ·rw [af hl];simp only;have wc := Gm hG hE (dg N Es N)[q];have w1 : ∀ h : q < (ue (dg N Es N)).length,(ue (dg N Es N))[q] = .agg [.int .i64 (dg N Es N)[q].1,.int .i64 (dg N Es N)[q].2.1,.int .i64 (dg N Es N)[q].2.2] := fun h => by simp [ue,VR]
    have w2 : (ue (dg N Es N))[q]? = some (.agg [.int .i64 (dg N Es N)[q].1,.int .i64 (dg N Es N)[q].2.1,.int .i64 (dg N Es N)[q].2.2]) := by rw [af (by rw [gl]; exact hl),w1]
    have q1 : ¬ ((dg N Es N).length : Int) <= (q : Int) := by omega
    have q2 : (q : Int) < (dg N Es N).length := by omega
    by_cases c : cls Es (dg N Es N)[q] = true
    ·rw [c] at wc;rw [if_pos c];have ih := DP hG hE P hP k (i + 1) (n + 1) (by omega) (by omega);rw [<- ih];refine aR ?_;clear ih c hq;generalize (dg N Es N)[q] = w at *;generalize (dg N Es N).length = wl at *;unfold K5;generalize ints P = C at *;generalize ue (dg N Es N) = Z at *;generalize bc Es = Y at *;unfold FH;simp [zj,zi,zh,zg,zf,ze,zd,zc,zb,za,sA,sx,ss,sq,sk,k1,bz,hw,Tn,gp,g3,g4,gl,h0,q1,q2,hl,w1,w2,wc,idx,aJ,sQM,iQM,lQM,df,pl]
    ·rw [if_neg c];rw [G6] at c;rw [c] at wc;have ih := DP hG hE P hP k (i + 1) n (by omega) (by omega);rw [<- ih];refine aR ?_;clear ih c hq;generalize (dg N Es N)[q] = w at *;generalize (dg N Es N).length = wl at *;unfold K5;generalize ints P = C at *;generalize ue (dg N Es N) = Z at *;generalize bc Es = Y at *;unfold FH;simp [zj,zi,zh,zg,zf,ze,zd,zc,zb,za,sA,sx,ss,sq,sk,k1,bz,hw,Tn,gp,g3,g4,gl,h0,q1,q2,hl,w1,w2,wc,idx,aJ,sQM,iQM,lQM,df,pl]
   ·rw [dz (by omega)];simp only;have q1 : ((dg N Es N).length : Int) <= (q : Int) := by omega
    have q3 : (dg N Es N).length <= q := by omega
    refine dj ?_;clear hq hl;generalize (dg N Es N).length = wl at *;unfold K5;generalize ints P = C at *;generalize ue (dg N Es N) = Z at *;generalize bc Es = Y at *;unfold FH;simp [zj,zi,zh,zg,zf,ze,zd,zc,zb,za,sA,sx,ss,sq,sk,k1,bz,hw,gp,g3,g4,gl,h0,q1,q3,idx,aJ]
def ZV (W : List Wd) (Es : List Ed) (P : List Int) : AV := match Vr W Es P 0 with
 | some m => .dp [fr m (max P.length 1),.int .i64 0]
 | none => .dp [.agg [.int .i64 0,.int .i64 0],.int .i64 1]
theorem Wn {N : Nat} {Es : List Ed} (hG : kC (N : Int) Es) (hE : Es.length < 1000000) (P : List Int) (hP : P.length < 1000000) : bf aj nQt [.agg [.int .i64 N,.list 2 (bc Es)],.list 1 (ints P)] [] = some (ZV (dg N Es N) Es P,[]) := by
 have lp := DP hG hE P hP P.length 0 0 (by omega) (by omega);rw [b9] at lp;have ww := sg hG hE;have cc := fH (N : Int) Es (by omega);rw [dW.2 hG] at cc;rw [aB oQt sQt (ab rfl)];unfold ZV;cases hb : Vr (dg N Es N) Es P 0 with
 | none =>
   rw [hb] at lp;simp only at lp ⊢;unfold K5 at lp;rw [iB] at lp;have gp := ae P;generalize ints P = C at *;generalize ue (dg N Es N) = Z at *;generalize bc Es = Y at *;unfold qQt cQt;simp [zj,zi,zh,zg,zf,ze,zd,zc,zb,za,sA,sx,ss,sq,sk,lp,ww,cc,gp,aJ,G9,IM,IJ,sQL,iQL,lQL,df,pl,aY,aV]
 | some m =>
   have ml := Qh P 0 m hb;rw [hb] at lp;simp only at lp ⊢;have c := WV (a := m) (b := max P.length 1) (by omega) (by omega) (by omega);have mx : (if (P.length : Int) < 1 then 1 else (P.length : Int)) = ((max P.length 1 : Nat) : Int) := by split <;> omega
   unfold fr;unfold K5 at lp;rw [iB] at lp;have gp := ae P;generalize max P.length 1 = mm at *;generalize m / cW m mm = x at *;generalize mm / cW m mm = y at *;clear hb ml;generalize ue (dg N Es N) = Z at *;generalize ints P = C at *;generalize bc Es = Y at *;unfold qQt cQt;simp [zj,zi,zh,zg,zf,ze,zd,zc,zb,za,sA,sx,ss,sq,sk,lp,ww,cc,c,mx,gp,aJ,G9,IM,IJ,sQL,iQL,lQL,sQN,iQN,lQN,df,pl,aY,aV]
def rbS (N : Nat) (Y : List AV) (P : List Int) (n : Nat) (i : Nat) (J : Env) : St := ⟨(1,.list 1 (ints P)) :: (2,.ptr 0 0) :: (4,.ptr 1 0) :: (7,.int .i64 n) :: (8,.int .i64 i) :: J,[some [.int .i64 N,.list 2 Y],some [.int .i64 0,.int .i64 0]]⟩
theorem DZ {N : Nat} {Es : List Ed} (hG : kC (N : Int) Es) (hE : Es.length < 1000000) (P : List Int) (hP : P.length < 1000000) : ∀ (k i n : Nat),i + k = P.length -> n <= i -> bj aj 0 (.loop FG) (rbS N (bc Es) P n i []) =
  match Vr (dg N Es N) Es (P.drop i) n with
  | some m => some (.exit 0,rbS N (bc Es) P m P.length [(21,.bool false)])
  | none => some (.ret,⟨[(4,.ptr 1 0),(5,.int .i64 1)],[some [.int .i64 N,.list 2 (bc Es)],some [.int .i64 0,.int .i64 0]]⟩)
 | 0,i,n,hi,hn => by
   obtain rfl : i = P.length := by omega
   rw [cz,Vr];refine bm ?_;have gp := ae P;unfold rbS;generalize ints P = C at *;generalize bc Es = Y at *;unfold FG;simp [BR,BQ,BP,BO,BN,BM,BL,BK,BJ,BI,uB,uA,uz,uy,gp,aJ]
 | k + 1,i,n,hi,hn => by
   have bz : i < P.length := by omega
   have k1 : (i : Int) < P.length := by omega
   have hw := dw (i := i) (by omega);have Tn := dw (i := n) (by omega);have gp := ae P;have g3 : (ints P)[i]? = some (.int .i64 P[i]) := by rw [aI,af bz]; rfl
   have g4 : ∀ h,(ints P)[i]'h = .int .i64 P[i] := fun h => aT ..;have wd := LY hG hE P[i];unfold wgV at wd;rw [aP bz,Vr];generalize P[i] = p at *
   have bad : bf aj Yf [.agg [.int .i64 N,.list 2 (bc Es)],.int .i64 p] [] = some (.dp [.list 1 [],.bool false,.int .i64 1],[]) -> bj aj 0 FG (rbS N (bc Es) P n i []) = some (.ret,⟨[(4,.ptr 1 0),(5,.int .i64 1)],[some [.int .i64 N,.list 2 (bc Es)],some [.int .i64 0,.int .i64 0]]⟩) := by
    intro w;clear wd;unfold rbS;generalize ints P = C at *;generalize bc Es = Y at *;unfold FG;simp [BR,BQ,BP,BO,BN,BM,BL,BK,BJ,BI,uB,uA,uz,uy,k1,bz,hw,gp,g3,g4,w,idx,aJ,sQw,iQw,lQw,df,pl]
   by_cases h0 : p < 0
   ·rw [if_pos h0] at wd ⊢;exact dj (bad wd)
   rw [if_neg h0] at wd ⊢;cases hr : (dg N Es N)[p.toNat]? with
   | none =>
     rw [hr] at wd;exact dj (bad wd)
   | some w =>
     rw [hr] at wd;simp only at wd ⊢;clear bad;by_cases c : cls Es w = true
     ·rw [c] at wd;rw [if_pos c];have ih := DZ hG hE P hP k (i + 1) (n + 1) (by omega) (by omega);rw [<- ih];refine aR ?_;clear ih c hr;generalize ints [w.1,w.2.1,w.2.2] = V at *;unfold rbS;generalize ints P = C at *;generalize bc Es = Y at *;unfold FG;simp [BR,BQ,BP,BO,BN,BM,BL,BK,BJ,BI,uB,uA,uz,uy,k1,bz,hw,Tn,gp,g3,g4,wd,idx,aJ,sQw,iQw,lQw,df,pl]
     ·rw [if_neg c];rw [G6] at c;rw [c] at wd;have ih := DZ hG hE P hP k (i + 1) n (by omega) (by omega);rw [<- ih];refine aR ?_;clear ih c hr;generalize ints [w.1,w.2.1,w.2.2] = V at *;unfold rbS;generalize ints P = C at *;generalize bc Es = Y at *;unfold FG;simp [BR,BQ,BP,BO,BN,BM,BL,BK,BJ,BI,uB,uA,uz,uy,k1,bz,hw,Tn,gp,g3,g4,wd,idx,aJ,sQw,iQw,lQw,df,pl]
theorem WS {N : Nat} {Es : List Ed} (hG : kC (N : Int) Es) (hE : Es.length < 1000000) (P : List Int) (hP : P.length < 1000000) : bf aj nQu [.agg [.int .i64 N,.list 2 (bc Es)],.list 1 (ints P)] [] = some (ZV (dg N Es N) Es P,[]) := by
 have lp := DZ hG hE P hP P.length 0 0 (by omega) (by omega);rw [b9] at lp;have cc := j5 (N : Int) Es (by omega);rw [dW.2 hG] at cc;have gp := ae P;rw [aB oQu sQu (ab rfl)];unfold ZV;unfold rbS at lp;rw [iB] at lp;cases hb : Vr (dg N Es N) Es P 0 with
 | none =>
   rw [hb] at lp;simp only at lp ⊢;generalize ints P = C at *;generalize bc Es = Y at *;unfold qQu cQu;simp [BR,BQ,BP,BO,BN,BM,BL,BK,BJ,BI,uB,uA,uz,uy,lp,cc,gp,aJ,G8,IL,II,df,pl,aY,aV]
 | some m =>
   have ml := Qh P 0 m hb;rw [hb] at lp;simp only at lp ⊢;have sh := LV (a := m) (b := P.length) (by omega) (by omega) (by omega);unfold fr at *;generalize m / cW m (max P.length 1) = x at *;generalize max P.length 1 / cW m (max P.length 1) = y at *;generalize ints P = C at *;generalize bc Es = Y at *;unfold qQu cQu;simp [BR,BQ,BP,BO,BN,BM,BL,BK,BJ,BI,uB,uA,uz,uy,lp,cc,sh,gp,aJ,G8,IL,II,sQO,iQO,lQO,df,pl,aY,aV]
/- What field.Numbers and field.Bits make. -/
theorem yS : Rest [] := ⟨fun _ => rfl,rfl,fun _ _ => rfl,fun _ => rfl,fun _ _ => rfl⟩
theorem I6 (l : List Int) (hl : l.length <= 500) (N : Nat) (hN : N <= 100) (k : Int) (hk : 1 <= k /\ k < 1000) : ∀ (m v a : Nat) (o : List Int),v + m = N -> o.length = v -> ∃ o' a',bj aj 1 (.loop Te) ⟨[(0,.ptr 0 0),(1,.int .i64 N),(2,.int .i64 k),(7,.own 1 (ints o)),(8,.int .i64 v)],[dk l a]⟩ = some (.exit 0,⟨[(0,.ptr 0 0),(1,.int .i64 N),(2,.int .i64 k),(7,.own 1 (ints o')),(8,.int .i64 N),(11,.bool false)],[dk l a']⟩) /\ o'.length = N
 | 0,v,a,o,hi,ho => by
   obtain rfl : v = N := by omega
   exact ⟨o,a,bm (by unfold Te dk; simp [RP,RO,RN,RM,RL,RK,RJ,aJ,au,aO,bF,cB,az,aC,aA,ae,aI,aT,aY,aV]),ho⟩
 | m + 1,v,a,o,hi,ho => by
   have h1 : (v : Int) < N := by omega
   have hw := dw (i := v) (by omega);have hL : o.length + 1 <= 4294967296 := by omega
   have hx := eI l (by omega) a k (by omega) [] yS;generalize tW l a k = a1 at *;generalize tV l a k = x at *;obtain ⟨o',a',e,p⟩ := I6 l hl N hN k hk m (v + 1) a1 (o ++ [x]) (by omega) (by simp; omega);refine ⟨o',a',(aR ?_).trans e,p⟩;unfold Te dk at *;generalize ints l = D at *;simp [RP,RO,RN,RM,RL,RK,RJ,h1,hw,hL,hx,kR,er,dE,DS,G2,G1,eO,cI,cO,bh,eC,bL,bH,aJ,au,aO,bF,cB,az,aC,aA,ae,aI,aT,aY,aV]
theorem Nx (l : List Int) (hl : l.length <= 500) (N : Nat) (hN : N <= 100) (k : Int) (hk : 1 <= k /\ k < 1000) (a : Nat) : ∃ o a',bf aj nQi [.ptr 0 0,.int .i64 N,.int .i64 k] [dk l a] = some (.list 1 (ints o),[dk l a']) /\ o.length = N := by
 obtain ⟨o,a',e,p⟩ := I6 l hl N hN k hk N 0 a [] (by omega) rfl;refine ⟨o,a',?_,p⟩;rw [iB,ec] at e;rw [aB oQi sQi (ab rfl)];have tk : (ints o).take o.length = ints o := by rw [dE,List.take_length]
 unfold dk at e ⊢;unfold qQi cQi;generalize ints l = D at *;simp [RP,RO,RN,RM,RL,RK,RJ,e,tk,eO,cI,cO,bh,eC,fo,bL,bH,eh,aJ,au,aO,bF,cB,az,aC,aA,ae,aI,aT,aY,aV]
theorem Z1 (o : List Bool) (b : Bool) : fK o ++ [.bool b] = fK (o ++ [b]) := by simp [fK]
theorem Lh (l : List Bool) : bq (aG (fK l)) = true := by
 induction l with
 | nil => rfl
 | cons x r ih => simp only [fK,dN,aG,AV.cells,oW,ei,bq,AV.leaf,Bool.true_and] at ih ⊢; exact ih
theorem Gp : ∀ l : List Bool,fm (fK l) = true
 | [] => rfl
 | x :: r => by rw [show fK (x :: r) = .bool x :: fK r from rfl]; simp [fm,clean,Gp r]
theorem Ku : ∀ l : List Bool,df (fK l) = true
 | [] => rfl
 | x :: r => by rw [show fK (x :: r) = .bool x :: fK r from rfl]; simp [df,pl,Ku r]
theorem Jb (l : List Int) (hl : l.length <= 500) (N : Nat) (hN : N <= 1000) : ∀ (m v a : Nat) (o : List Bool),v + m = N -> o.length = v -> ∃ o' a',bj aj 1 (.loop Td) ⟨[(0,.ptr 0 0),(1,.int .i64 N),(5,.own 1 (fK o)),(6,.int .i64 v)],[dk l a]⟩ = some (.exit 0,⟨[(0,.ptr 0 0),(1,.int .i64 N),(5,.own 1 (fK o')),(6,.int .i64 N),(9,.bool false)],[dk l a']⟩) /\ o'.length = N
 | 0,v,a,o,hi,ho => by
   obtain rfl : v = N := by omega
   exact ⟨o,a,bm (by unfold Td dk; simp [RI,RH,RG,RF,RE,RD,RC,aJ,au,aO,bF,cB,az,aC,aA,ae,aI,aT,aY,aV]),ho⟩
 | m + 1,v,a,o,hi,ho => by
   have h1 : (v : Int) < N := by omega
   have hw := dw (i := v) (by omega);have hL : o.length + 1 <= 4294967296 := by omega
   have hx := eI l (by omega) a 2 (by omega) [] yS;generalize tW l a 2 = a1 at *;generalize tV l a 2 = x at *;obtain ⟨b,hb⟩ : ∃ b : Bool,(x == 1) = b := ⟨_,rfl⟩;obtain ⟨o',a',e,p⟩ := Jb l hl N hN m (v + 1) a1 (o ++ [b]) (by omega) (by simp; omega);refine ⟨o',a',(aR ?_).trans e,p⟩;have g5 := iU o;have sn := Z1 o b;have tk : (fK (o ++ [b])).take (o.length + 1) = fK (o ++ [b]) := aL (by rw [iU]; simp);have V3 : (fK o).take o.length = fK o := aL (by omega);clear e;unfold Td dk at *;generalize fK (o ++ [b]) = B2 at *;generalize fK o = B at *;generalize ints l = D at *;simp [RI,RH,RG,RF,RE,RD,RC,h1,hw,hL,hx,hb,g5,sn,tk,V3,kR,DS,G2,G1,eO,cI,cO,bh,eC,bL,bH,aJ,au,aO,bF,cB,az,aC,aA,ae,aI,aT,aY,aV]
theorem Zv (l : List Int) (hl : l.length <= 500) (N : Nat) (hN : N <= 1000) (a : Nat) : ∃ o a',bf aj nQj [.ptr 0 0,.int .i64 N] [dk l a] = some (.list 1 (fK o),[dk l a']) /\ o.length = N := by
 obtain ⟨o,a',e,p⟩ := Jb l hl N hN N 0 a [] (by omega) rfl;refine ⟨o,a',?_,p⟩;rw [iB,show fK [] = [] from rfl] at e;rw [aB oQj sQj (ab rfl)];have g5 := iU o;have tk : (fK o).take o.length = fK o := aL (by omega);have lf := Lh o;have cl := Gp o;unfold dk at e ⊢;unfold qQj cQj;generalize ints l = D at *;generalize fK o = B at *;simp [RI,RH,RG,RF,RE,RD,RC,e,g5,tk,lf,cl,eO,cI,cO,bh,eC,fo,bL,bH,eh,aJ,au,aO,bF,cB,az,aC,aA,ae,aI,aT,aY,aV]
/- Both sides say the same of any graph. -/
def xh (n : Int) (F : List Ed) : AV := .agg [.int .i64 n,.list 2 (bc F)]
structure SAg (n : Int) (F : List Ed) : Prop where
 mono : ∀ (cs : List Int) (c : Int),cs.length < 1000000 -> ∃ (m : Int) (H : List Ed) (e : Int),H.length < 1000000 /\ bf aj VH [xh n F,.list 1 (ints cs),.int .i64 c] [] = some (.dp [xh m H,.int .i64 e],[]) /\ bf aj Yh [xh n F,.list 1 (ints cs),.int .i64 c] [] = some (.dp [xh m H,.int .i64 e],[])
 byc : ∀ (cs : List Int) (c : Int),cs.length < 1000000 -> ∃ (x e : Int),bf aj VG [xh n F,.list 1 (ints cs),.int .i64 c] [] = some (.dp [.int .i64 x,.int .i64 e],[]) /\ bf aj nQn [xh n F,.list 1 (ints cs),.int .i64 c] [] = some (.dp [.int .i64 x,.int .i64 e],[])
 kee : ∀ bs : List Bool,∃ (m : Int) (H : List Ed) (e : Int),H.length < 1000000 /\ bf aj Yg [xh n F,.list 1 (fK bs)] [] = some (.dp [xh m H,.int .i64 e],[]) /\ bf aj nQp [xh n F,.list 1 (fK bs)] [] = some (.dp [xh m H,.int .i64 e],[])
 bye : ∀ bs : List Bool,∃ (x e : Int),bf aj nQq [xh n F,.list 1 (fK bs)] [] = some (.dp [.int .i64 x,.int .i64 e],[]) /\ bf aj nQr [xh n F,.list 1 (fK bs)] [] = some (.dp [.int .i64 x,.int .i64 e],[])
 wed : ∀ at_ : Int,∃ (w : List Int) (b : Bool) (e : Int),w.length <= 3 /\ bf aj nQv [xh n F,.int .i64 at_] [] = some (.dp [.list 1 (ints w),.bool b,.int .i64 e],[]) /\ bf aj Yf [xh n F,.int .i64 at_] [] = some (.dp [.list 1 (ints w),.bool b,.int .i64 e],[])
 byw : ∀ P : List Int,P.length < 1000000 -> ∃ (x y e : Int),bf aj nQt [xh n F,.list 1 (ints P)] [] = some (.dp [.agg [.int .i64 x,.int .i64 y],.int .i64 e],[]) /\ bf aj nQu [xh n F,.list 1 (ints P)] [] = some (.dp [.agg [.int .i64 x,.int .i64 y],.int .i64 e],[])
theorem JJ (n : Int) (F : List Ed) (hE : F.length < 1000000) : SAg n F := by
 by_cases h0 : sV n F = 0
 ·have hG := dW.1 h0;obtain ⟨N,rfl⟩ : ∃ N : Nat,n = (N : Int) := ⟨n.toNat,by have := hG.1; omega⟩;refine ⟨fun cs c hc => ?_,fun cs c hc => ?_,fun bs => ?_,fun bs => ?_,fun a => ?_,fun P hP => ?_⟩
  ·have s := LM hG hE cs c;have r := L6 hG hE cs hc c;unfold Fy at s r;by_cases h1 : cs.length ≠ N
   ·rw [if_pos h1] at s r;exact ⟨0,[],_,(by decide),s,r⟩
   rw [if_neg h1] at s r;by_cases h2 : c < 1 \/ 64 < c
   ·rw [if_pos h2] at s r;exact ⟨0,[],_,(by decide),s,r⟩
   rw [if_neg h2] at s r;by_cases h3 : ∃ x ∈ cs,x < 0 \/ c <= x
   ·rw [if_pos h3] at s r;exact ⟨0,[],_,(by decide),s,r⟩
   ·rw [if_neg h3] at s r;exact ⟨_,_,_,dM (List.length_filter_le _ _) hE,s,r⟩
  ·have s := Wp hG hE cs c;have r := WU hG hE cs hc c;unfold ZX at s r;by_cases h1 : cs.length ≠ N
   ·rw [if_pos h1] at s r;exact ⟨_,_,s,r⟩
   rw [if_neg h1] at s r;by_cases h2 : c < 1 \/ 64 < c
   ·rw [if_pos h2] at s r;exact ⟨_,_,s,r⟩
   rw [if_neg h2] at s r;by_cases h3 : ∃ x ∈ cs,x < 0 \/ c <= x
   ·rw [if_pos h3] at s r;exact ⟨_,_,s,r⟩
   ·rw [if_neg h3] at s r;exact ⟨_,_,s,r⟩
  ·have s := LR hG hE bs;have r := L9 hG hE bs;unfold FQ at s r;by_cases h1 : bs.length ≠ F.length
   ·rw [if_pos h1] at s r;exact ⟨0,[],_,(by decide),s,r⟩
   ·rw [if_neg h1] at s r;exact ⟨_,_,_,dM (nt bs F).length_le hE,s,r⟩
  ·have s := Wo hG hE bs;have r := WT hG hE bs;unfold ZW at s r;by_cases h1 : bs.length ≠ F.length
   ·rw [if_pos h1] at s r;exact ⟨_,_,s,r⟩
   ·rw [if_neg h1] at s r;exact ⟨_,_,s,r⟩
  ·have s := V7 hG hE a;have r := LY hG hE a;unfold wgV at s r;by_cases h1 : a < 0
   ·rw [if_pos h1] at s r;exact ⟨[],_,_,(by decide),s,r⟩
   ·rw [if_neg h1] at s r;cases hr : (dg N F N)[a.toNat]? with
    | none =>
      rw [hr] at s r;exact ⟨[],_,_,(by decide),s,r⟩
    | some w =>
      rw [hr] at s r;exact ⟨[w.1,w.2.1,w.2.2],_,_,Nat.le_refl _,s,r⟩
  ·have s := Wn hG hE P hP;have r := WS hG hE P hP;unfold ZV at s r;cases hr : Vr (dg N F N) F P 0 with
   | none =>
     rw [hr] at s r;exact ⟨_,_,_,s,r⟩
   | some w =>
     rw [hr] at s r;exact ⟨_,_,_,s,r⟩
 ·exact ⟨fun cs c hc => ⟨0,[],_,(by decide),aco n F hE _ rfl h0 cs c,acr n F hE _ rfl h0 cs c⟩,fun cs c hc => ⟨_,_,af0 n F hE _ rfl h0 cs c,agb n F hE _ rfl h0 cs c⟩,fun bs => ⟨0,[],_,(by decide),acp n F hE _ rfl h0 bs,acs n F hE _ rfl h0 bs⟩,fun bs => ⟨_,_,afZ n F hE _ rfl h0 bs,aga n F hE _ rfl h0 bs⟩,fun a => ⟨[],_,_,(by decide),afW n F hE _ rfl h0 a,af8 n F hE _ rfl h0 a⟩,fun P hP => ⟨_,_,_,afY n F hE _ rfl h0 P,af9 n F hE _ rfl h0 P⟩⟩
end Go.BmP
