/- ref10.core, Numbers, Degeneracy. -/
import Derived.Test.YtppmiehidnpgbaaGreatDoorUseM
import Derived.Test.YtppmiehidnpgbaaGreatDoorDegC
import Derived.Test.YtppmiehidnpgbaaGreatDoorT06
import Derived.Test.YtppmiehidnpgbaaGreatDoorCoV
import Derived.Test.YtppmiehidnpgbaaGreatDoorGr24
set_option linter.unusedSimpArgs false
set_option linter.unusedVariables false
set_option maxRecDepth 100000
set_option maxHeartbeats 8000000
open List renaming drop_eq_getElem_cons → bk, drop_length → bU, drop_zero → cS, foldl_cons → ib, foldl_nil → oV, getElem?_eq_getElem → aB, getElem_mem → dN, replicate → aF
open Nat renaming le_of_ble_eq_true → aD
namespace Go.BmP
open Go.Am Go.Bm
theorem Db {A : List Nat} {N k : Nat} {l : List Int} (h : Crs A N k l) : l.length <= N := by
 have := q7 (A := l) (B := (List.range N).map fun n => ((n : Nat) : Int)) (h.up.imp fun {a b} h => by omega) fun x hx => List.mem_map.2 ⟨x.toNat,List.mem_range.2 (by have := h.bd x hx; omega),by have := h.bd x hx; omega⟩
 rwa [List.length_map,List.length_range] at this
theorem zA {N : Nat} {Es : List Ed} (hG : ke (N : Int) Es) : ∀ v,v < N -> eC N Es v = eS ((cU N Es).getD v 0) := fun v hv => (LH hG hv).symm
def Vv (N : Nat) (Es : List Ed) (k : Int) (l : List Int) (b : Bool) (W : List Int) (i : Int) (J : Env) : St := ⟨(1,.int .i64 k) :: (2,.ptr 0 0) :: (5,.list 1 (ints l)) :: (6,.bool b) :: (13,.list 1 (ints W)) :: (14,.int .i64 W.length) :: (15,.int .i64 i) :: J,sM N Es⟩
theorem XO {N : Nat} {Es : List Ed} (hG : ke (N : Int) Es) (hE : Es.length < 1000000) (k : Nat) (W : List Int) (hl : W.length <= 64) (hW : ∀ v ∈ W,0 <= v /\ v < (N : Int)) : ∀ (m i : Nat) (l : List Int) (b : Bool),i + m = W.length -> Crs (cU N Es) N k l -> aW au 0 (.loop Nx) (Vv N Es k l b W i []) = some (.exit 2,Vv N Es k ((W.drop i).foldl (Jx (eC N Es) k) (l,b)).1 ((W.drop i).foldl (Jx (eC N Es) k) (l,b)).2 W W.length [(16,.bool false)])
 | 0,i,l,b,hi,_ => by
   obtain rfl : i = W.length := by omega
   rw [bU,oV];refine bw ?_;unfold Vv sM Nx;generalize ints W = W1 at *;generalize ints l = L1 at *;generalize dO Es = Y at *;simp [BW,BV,BU,BT,BS,BR,BQ,BP,BO,BN,uW,uV]
 | m + 1,i,l,b,hi,hc => by
   have hN : N <= 64 := by have := hG.1.2; omega
   have bL : i < W.length := by omega
   have hv := hW W[i] (dN bL);rw [bk bL,ib];have k1 : (i : Int) < W.length := by omega
   have hw := eT (i := i) (by omega);have hx := kQ (k := .i64) (i := (i : Int)) (n := W.length) (by omega) k1;have g4 : ∀ h,(ints W)[i]'h = .int .i64 W[i] := fun h => aL _ _ _;have g3 : (ints W)[i]? = some (.int .i64 W[i]) := by rw [aB (by rw [af]; exact bL),aL]
   have lw := af W;have lc := Db hc;have nr := FK hG hE hv.1 hv.2;have nl := TM hG hv.1 hv.2;have mr := YT (B3 N Es W[i]) l (by omega) (by omega);have ml := af (meet (B3 N Es W[i]) l);have en : eC N Es W[i].toNat = B3 N Es W[i] := by unfold eC; rw [show ((W[i].toNat : Nat) : Int) = W[i] by omega]
   by_cases q : ((meet (B3 N Es W[i]) l).length : Int) < k
   ·have e : Jx (eC N Es) k (l,b) W[i] = (minus l [W[i]],true) := by unfold Jx; rw [en,if_pos q]
    rw [e];have Gg := Ol hN (zA hG) hc hv (by rw [en]; omega);have ih := XO hG hE k W hl hW m (i + 1) (minus l [W[i]]) true (by omega) Gg;refine (aY ?_).trans ih;have mi : br au MT [.list 1 (ints l),.list 1 [.int .i64 W[i]]] [] = some (.list 1 (ints (minus l [W[i]])),[]) := VU l [W[i]] (by omega) (by simp);clear ih hc Gg e en hW;have pM := fG (minus l [W[i]]);unfold Vv sM Nx;generalize ints (minus l [W[i]]) = M1 at *;generalize ints (meet (B3 N Es W[i]) l) = Z1 at *;generalize ints (B3 N Es W[i]) = B1 at *;generalize (meet (B3 N Es W[i]) l).length = z at *;generalize W[i] = v at *;generalize ints W = W1 at *;generalize ints l = L1 at *;generalize dO Es = Y at *;simp [BW,BV,BU,BT,BS,BR,BQ,BP,BO,BN,uW,uV,k1,hi,hw,hx,bL,g3,g4,lw,nr,mr,ml,mi,q,pM,idx,aN,ko,fQ,gz,pl,sQb5,iQb5,lQb5,sQb4,iQb4,lQb4,sQb6,iQb6,lQb6]
   ·have e : Jx (eC N Es) k (l,b) W[i] = (l,b) := by unfold Jx; rw [en,if_neg q]
    rw [e];have ih := XO hG hE k W hl hW m (i + 1) l b (by omega) hc;refine (aY ?_).trans ih;clear ih hc e en hW;unfold Vv sM Nx;generalize ints (meet (B3 N Es W[i]) l) = Z1 at *;generalize ints (B3 N Es W[i]) = B1 at *;generalize (meet (B3 N Es W[i]) l).length = z at *;generalize W[i] = v at *;generalize ints W = W1 at *;generalize ints l = L1 at *;generalize dO Es = Y at *;simp [BW,BV,BU,BT,BS,BR,BQ,BP,BO,BN,uW,uV,k1,hi,hw,hx,bL,g3,g4,lw,nr,mr,ml,q,idx,aN,ko,fQ,gz,pl,sQb5,iQb5,lQb5,sQb4,iQb4,lQb4]
def JY (N : Nat) (Es : List Ed) (k : Int) (l : List Int) (J : Env) : St := ⟨(1,.int .i64 k) :: (2,.ptr 0 0) :: (5,.list 1 (ints l)) :: J,sM N Es⟩
def rjk (W : List AV) (z : Int) : Env := [(13,.list 1 W),(14,.int .i64 z),(15,.int .i64 z),(16,.bool false)]
theorem Ru {N : Nat} {Es : List Ed} (hG : ke (N : Int) Es) (hE : Es.length < 1000000) (k : Nat) (l : List Int) (hc : Crs (cU N Es) N k l) (J : Env) (hJ : J = [] \/ ∃ W z,J = rjk W z) : aW au 0 I8 (JY N Es k l ((6,.bool true) :: J)) = some (.normal,JY N Es k (l.foldl (Jx (eC N Es) k) (l,false)).1 ((6,.bool (l.foldl (Jx (eC N Es) k) (l,false)).2) :: rjk (ints l) l.length)) := by
 have hN : N <= 64 := by have := hG.1.2; omega
 have lc := Db hc;have lp := XO hG hE k l (by omega) hc.bd l.length 0 l false (by omega) hc;rw [cS] at lp;have ll := af l;simp only [fY] at lp;unfold Vv sM at lp;unfold JY sM I8;generalize l.foldl (Jx (eC N Es) k) (l,false) = z at *;obtain ⟨z1,z2⟩ := z;simp only at lp ⊢;generalize ints z1 = Z1 at *;generalize ints l = L1 at *;generalize dO Es = Y at *;rcases hJ with rfl | ⟨W,z,rfl⟩
 ·unfold rjk;simp [BW,BV,BU,BT,BS,BR,BQ,BP,BO,BN,uW,uV,lp,ll,aN]
 ·unfold rjk;simp [BW,BV,BU,BT,BS,BR,BQ,BP,BO,BN,uW,uV,lp,ll,aN]
theorem Rs (N : Nat) (Es : List Ed) (k : Int) (l : List Int) (W : List AV) (z : Int) : aW au 0 I8 (JY N Es k l ((6,.bool false) :: rjk W z)) = some (.exit 0,JY N Es k l [(12,.bool false)]) := by
 unfold JY sM rjk I8;generalize ints l = L1 at *;generalize dO Es = Y at *;simp [BW,BV,BU,BT,BS,BR,BQ,BP,BO,BN,uW,uV]
theorem ae4 {N : Nat} {Es : List Ed} (hG : ke (N : Int) Es) (hE : Es.length < 1000000) (k : Nat) : ∀ (n : Nat) (l : List Int) (J : Env),(J = [] \/ ∃ W z,J = rjk W z) -> l.length <= n -> Crs (cU N Es) N k l -> ∃ C : List Int,(∀ x : Int,x ∈ C ↔ ∃ j : Nat,x = j /\ JN (cU N Es) (2 ^ N - 1) k j) /\ C.length <= N /\ aW au 0 (.loop I8) (JY N Es k l ((6,.bool true) :: J)) = some (.exit 0,JY N Es k C [(12,.bool false)]) := by
 have hN : N <= 64 := by have := hG.1.2; omega
 intro n
 induction n with
 | zero =>
   intro l J hJ hl hc;have : l = [] := List.eq_nil_of_length_eq_zero (by omega);subst this;have bd := Ru hG hE k [] hc J hJ;rw [oV] at bd;exact ⟨[],UL hN (zA hG) hc (fun v hv => by cases hv),by simp,(aY bd).trans (bw (Rs _ _ _ _ _ _))⟩
 | succ n ih =>
   intro l J hJ hl hc;have bd := Ru hG hE k l hc J hJ;obtain ⟨f1,f2,f3,f4⟩ := GC hN (zA hG) l l false hc (fun v hv => hv) (hc.up.imp fun {a b} h => by omega);cases hz : (l.foldl (Jx (eC N Es) k) (l,false)).2 with
   | false =>
     obtain ⟨_,e,g⟩ := f3 hz;rw [hz,e] at bd;exact ⟨l,UL hN (zA hG) hc g,Db hc,(aY bd).trans (bw (Rs _ _ _ _ _ _))⟩
   | true =>
     rw [hz] at bd;have sm := (f4 hz).resolve_left (by simp);obtain ⟨C,c1,c2,c3⟩ := ih _ _ (.inr ⟨_,_,rfl⟩) (by omega) f1;exact ⟨C,c1,c2,(aY bd).trans c3⟩
theorem Vu {N : Nat} {Es : List Ed} (hG : ke (N : Int) Es) (hE : Es.length < 1000000) (k : Nat) : ∃ C : List Int,(∀ x : Int,x ∈ C ↔ ∃ j : Nat,x = j /\ JN (cU N Es) (2 ^ N - 1) k j) /\ C.length <= N /\ br au nQ3 [.agg [.int .i64 N,.list 2 (dO Es)],.int .i64 k] [] = some (.list 1 (ints C),[]) := by
 have hN : N <= 64 := by have := hG.1.2; omega
 have hz := ZZ (cU N Es) hN k;obtain ⟨C,c1,c2,lp⟩ := ae4 hG hE k N _ [] (.inl rfl) (Db hz) hz;refine ⟨C,c1,c2,?_⟩;have n4 := Vw (N : Int);unfold JY sM at lp;have pC := fG C;rw [aV oQ3 sQ3 (aD rfl)];unfold qQ3 cQ3;generalize ints C = C1 at *;generalize ints (ik (N : Int)) = R1 at *;generalize dO Es = Y at *;simp [BW,BV,BU,BT,BS,BR,BQ,BP,BO,BN,uW,uV,lp,n4,pC,aN,bu,bq,gz,pl,sQb3,iQb3,lQb3]
def Aj (N : Nat) (Es : List Ed) (L : List Int) (k : Int) (J : Env) : St := ⟨(1,.ptr 0 0) :: (5,.own 1 (ints L)) :: (6,.int .i64 k) :: J,sM N Es⟩
theorem ac2 (N : Nat) (Es : List Ed) (k : Int) (C : List Int) (hC : C.length <= 64) : ∀ (m i : Nat) (L : List Int),i + m = C.length -> (∀ v ∈ C,0 <= v /\ v < (L.length : Int)) -> aW au 0 (.loop Uc) (Aj N Es L k [(25,.list 1 (ints C)),(26,.int .i64 C.length),(27,.int .i64 i)]) = some (.exit 2,Aj N Es ((C.drop i).foldl (Vr k) L) k [(25,.list 1 (ints C)),(26,.int .i64 C.length),(27,.int .i64 C.length),(28,.bool false)])
 | 0,i,L,hi,_ => by
   obtain rfl : i = C.length := by omega
   rw [bU,oV];refine bw ?_;unfold Aj sM Uc;generalize ints C = C1 at *;generalize ints L = L1 at *;generalize dO Es = Y at *;simp [ET,ES,ER,EP,EN,EM,EL,EK,EJ,EI,xL,xK,xJ,xI]
 | m + 1,i,L,hi,hb => by
   have bL : i < C.length := by omega
   have hv := hb C[i] (dN bL);rw [bk bL,ib];have ih := ac2 N Es k C hC m (i + 1) (Vr k L C[i]) (by omega) (fun v hv => by unfold Vr; rw [List.length_set]; exact hb v hv);refine (aY ?_).trans ih;clear ih;have k1 : (i : Int) < C.length := by omega
   have hw := eT (i := i) (by omega);have hx := kQ (k := .i64) (i := (i : Int)) (n := C.length) (by omega) k1;have g4 : ∀ h,(ints C)[i]'h = .int .i64 C[i] := fun h => aL _ _ _;have g3 : (ints C)[i]? = some (.int .i64 C[i]) := by rw [aB (by rw [af]; exact bL),aL]
   have lw := af C;have ll := af L;have e : ints (Vr k L C[i]) = (ints L).set C[i].toNat (.int .i64 k) := by unfold Vr ints; rw [List.map_set]
   unfold Aj sM Uc;rw [e];generalize C[i] = v at *;obtain ⟨v0,v1⟩ := hv;have v2 : v.toNat < L.length := by omega
   have hx2 := kQ (k := .i64) (i := v) (n := L.length) v0 v1;generalize ints C = C1 at *;generalize ints L = L1 at *;generalize dO Es = Y at *;simp [ET,ES,ER,EP,EN,EM,EL,EK,EJ,EI,xL,xK,xJ,xI,k1,hi,hw,hx,hx2,bL,g3,g4,lw,ll,v0,v1,v2,idx,aN]
theorem Xz {N : Nat} {Es : List Ed} (hG : ke (N : Int) Es) (hE : Es.length < 1000000) : ∀ (m k : Nat) (L : List Int),k + m + 1 = N -> WO (cU N Es) N k L -> ∃ L',WO (cU N Es) N (N - 1) L' /\ aW au 0 (.loop I6) (Aj N Es L ((k : Int) + 1) []) = some (.exit 0,Aj N Es L' N [(20,.bool false)])
 | 0,k,L,hk,hn => by
   obtain rfl : N = k + 1 := by omega
   refine ⟨L,hn,bw ?_⟩;have e : ((k + 1 : Nat) : Int) = (k : Int) + 1 := by omega
   unfold Aj sM I6;rw [e];generalize ints L = L1 at *;generalize dO Es = Y at *;simp [ET,ES,ER,EP,EN,EM,EL,EK,EJ,EI,xL,xK,xJ,xI,aN]
 | m + 1,k,L,hk,hn => by
   have hN : N <= 64 := by have := hG.1.2; omega
   obtain ⟨C,c1,c2,cr⟩ := Vu hG hE (k + 1);have hs := VK hn c1;obtain ⟨L',l1,l2⟩ := Xz hG hE m (k + 1) _ (by omega) hs;refine ⟨L',l1,(aY ?_).trans l2⟩
   have hb : ∀ v ∈ C,0 <= v /\ v < (L.length : Int) := fun v hv => by
    obtain ⟨j,rfl,q⟩ := (c1 v).1 hv;have := Gb q;have := hn.1;omega
   have lp := ac2 N Es ((k : Int) + 1) C (by omega) C.length 0 L (by omega) hb;rw [cS] at lp;have e : ((k + 1 : Nat) : Int) = (k : Int) + 1 := by omega
   rw [e] at cr ⊢;have k1 : (k : Int) + 1 < N := by omega
   have lc := af C;have w1 : IntKind.i64.wrap ((k : Int) + 1 + 1) = (k : Int) + 1 + 1 := gK (by omega) (by omega);clear l2 hs;simp only [fY] at lp;unfold Aj sM at lp;unfold Aj sM I6;generalize ints (C.foldl (Vr ((k : Int) + 1)) L) = L2 at *;generalize ints C = C1 at *;generalize ints L = L1 at *;generalize dO Es = Y at *;simp [ET,ES,ER,EP,EN,EM,EL,EK,EJ,EI,xL,xK,xJ,xI,cr,lp,k1,lc,w1,aN,sQ3,iQ3,lQ3]
theorem Xy {N : Nat} {Es : List Ed} (hG : ke (N : Int) Es) (hE : Es.length < 1000000) : ∃ L,xm (cU N Es) N L /\ br au nQF [.agg [.int .i64 N,.list 2 (dO Es)]] [] = some (.dB [.list 1 (ints L),.int .i64 0],[]) := by
 have hN : N <= 64 := by have := hG.1.2; omega
 have g := yM N Es (by omega);rw [iw.2 hG] at g
 have hI : ∀ a,((cU N Es).getD a 0).testBit a = false := fun a => by
  rw [(iG hG).2.2];cases e : (decide (((a : Int),(a : Int)) ∈ Es) || decide (((a : Int),(a : Int)) ∈ Es)) with
  | false => rfl
  | true =>
    simp only [Bool.or_self,decide_eq_true_eq] at e;have := hG.2.2 _ e;simp only at this;omega
 have main : ∃ L,xm (cU N Es) N L /\ ∃ k,aW au 0 (.loop I6) (Aj N Es (aF N 0) 1 []) = some (.exit 0,Aj N Es L k [(20,.bool false)]) := by
  by_cases h0 : N = 0
  ·subst h0;refine ⟨[],⟨rfl,fun v hv => by omega⟩,1,bw ?_⟩;unfold Aj sM I6;generalize dO Es = Y at *;simp [ET,ES,ER,EP,EN,EM,EL,EK,EJ,EI,xL,xK,xJ,xI,aN]
  ·obtain ⟨L,l1,l2⟩ := Xz hG hE (N - 1) 0 (aF N 0) (by omega) (VJ _ _);exact ⟨L,YB hN hI l1 (by omega),N,by simpa using l2⟩
 obtain ⟨L,hL,k,lp⟩ := main;refine ⟨L,hL,?_⟩;have e1 : aF N (AV.int .i64 0) = ints (aF N 0) := by simp [ints]
 have nL : (N : Int) <= (lj : Int) := by unfold lj; omega
 have pL := fG L;have fL := hB L;have lL := af L;have tk : (ints L).take L.length = ints L := List.take_of_length_le (by omega);unfold Aj sM at lp;rw [aV oQF sQF (aD rfl)];unfold qQF cQF;generalize ints (aF N 0) = Z1 at *;generalize ints L = L1 at *;generalize dO Es = Y at *;simp [ET,ES,ER,EP,EN,EM,EL,EK,EJ,EI,xL,xK,xJ,xI,g,lp,e1,nL,pL,fL,lL,tk,aN,bu,bq,gz,pl,sQ2,iQ2,lQ2]
def mxg (k n : Int) : Int := if k < n then n else k
def XN (L : List Int) (k i : Int) (J : Env) : St := ⟨(5,.int .i64 0) :: (6,.int .i64 k) :: (14,.list 1 (ints L)) :: (15,.int .i64 L.length) :: (16,.int .i64 i) :: J,[]⟩
theorem Rr (L : List Int) (hL : L.length <= 64) : ∀ (m i : Nat) (k : Int),i + m = L.length -> aW au 0 (.loop T7) (XN L k i []) = some (.exit 0,XN L ((L.drop i).foldl mxg k) L.length [(17,.bool false)])
 | 0,i,k,hi => by
   obtain rfl : i = L.length := by omega
   rw [bU,oV];refine bw ?_;unfold XN T7;generalize ints L = L1 at *;simp [Sf,Se,Sd,Sc,Sb,Sa,R9,R8,R7]
 | m + 1,i,k,hi => by
   have bL : i < L.length := by omega
   have ih := Rr L hL m (i + 1) (mxg k L[i]) (by omega);rw [bk bL,ib];refine (aY ?_).trans ih;have k1 : (i : Int) < L.length := by omega
   have hw := eT (i := i) (by omega);have hx := kQ (k := .i64) (i := (i : Int)) (n := L.length) (by omega) k1;have g3 : (ints L)[i]? = some (.int .i64 L[i]) := by rw [aB (by rw [af]; exact bL),aL]
   have g4 : ∀ h,(ints L)[i]'h = .int .i64 L[i] := fun h => aL _ _ _;have ll := af L;clear ih;unfold XN mxg T7;generalize ints L = L1 at *;generalize L[i] = x at *;by_cases q : k < x <;> simp [Sf,Se,Sd,Sc,Sb,Sa,R9,R8,R7,k1,hi,hw,hx,g3,g4,ll,bL,q,idx,aN]
theorem XJ {N : Nat} {Es : List Ed} (hG : ke (N : Int) Es) (hE : Es.length < 1000000) : ∃ L,xm (cU N Es) N L /\ br au nQk [.agg [.int .i64 N,.list 2 (dO Es)]] [] = some (.dB [.int .i64 (UH L),.int .i64 0],[]) := by
 have hN : N <= 64 := by have := hG.1.2; omega
 obtain ⟨L,hL,nr⟩ := Xy hG hE;refine ⟨L,hL,?_⟩;have lp := Rr L (by rw [hL.1]; omega) L.length 0 0 (by omega);rw [cS] at lp;have e : L.foldl mxg 0 = UH L := rfl;rw [e] at lp;have ll := af L;unfold XN at lp;simp only [fY] at lp;rw [aV oQk sQk (aD rfl)];generalize ints L = L1 at *;generalize dO Es = Y at *;generalize UH L = D at *;unfold qQk cQk;simp [Sf,Se,Sd,Sc,Sb,Sa,R9,R8,R7,nr,lp,ll,aN,bu,bq,gz,pl,sQF,iQF,lQF]
end Go.BmP
