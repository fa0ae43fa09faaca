/- What graph.Neighbours and graph.Find return. -/
import Derived.Test.YtmoginoicilobaaGreatDoorUseM
import Derived.Test.YtmoginoicilobaaGreatDoorK17
import Derived.Test.YtmoginoicilobaaGreatDoorA12
import Derived.Test.YtmoginoicilobaaGreatDoorWdgP
import Derived.Test.YtmoginoicilobaaGreatDoorU03
import Derived.Test.YtmoginoicilobaaGreatDoorS11
set_option linter.unusedSimpArgs false
set_option linter.unusedVariables false
set_option maxRecDepth 100000
set_option maxHeartbeats 4000000
open List renaming append_assoc → dI, append_nil → ft, drop_eq_getElem_cons → aP, drop_length → cz, drop_zero → b9, getD_eq_getElem?_getD → bk, getElem?_eq_getElem → af, map_cons → dN, take_length → cX
open Nat renaming gcd → cW, le_of_ble_eq_true → ab
open Option.some renaming inj → bU
namespace Go.BmP
open Go.Am Go.Bm
theorem ab7 {N : Nat} {Es : List Ed} (hG : kC (N : Int) Es) {v : Nat} (hv : v < N) : tY ((n6 N Es).getD v 0) = ph N Es v := by
 have hN := hG.1;obtain ⟨_,_,h3⟩ := Ak hG;refine uf (Lb _) (vh hG (by omega) (by omega)) fun x => ?_;rw [Ah,o9 hG (by omega) (by omega)];constructor
 ·rintro ⟨j,rfl,_,hj⟩;rw [h3] at hj;unfold jn;simpa using hj
 ·intro hj;have hb := zQ hG hj;obtain ⟨j,rfl⟩ : ∃ j : Nat,x = j := ⟨x.toNat,by omega⟩;refine ⟨j,rfl,by omega,?_⟩;rw [h3];unfold jn at hj;simpa using hj
theorem aaz {N : Nat} {Es : List Ed} (hG : kC (N : Int) Es) (hE : Es.length < 1000000) {v : Nat} (hv : v < N) : bf aj PC [.agg [.int .i64 N,.list 2 (bc Es)],.int .i64 v] [] = some (.int .u64 ((n6 N Es).getD v 0 : Nat),[]) := by
 have hN := hG.1;have rr := Wz hG (by omega);have cc := fH (N : Int) Es (by omega);rw [dW.2 hG] at cc;obtain ⟨a1,a2,_⟩ := Ak hG;have v0 : ¬ (v : Int) < 0 := by omega
 have v1 : ¬ ((n6 N Es).length : Int) <= (v : Int) := by omega
 have v2 : (v : Int) < (n6 N Es).length := by omega
 have v3 : v < (n6 N Es).length := by omega
 have gv : (us (n6 N Es))[v]? = some (.int .u64 ((n6 N Es).getD v 0 : Nat)) := by
  rw [On,af v3,bk,af v3]; rfl
 have gv' : ∀ h : v < (us (n6 N Es)).length,(us (n6 N Es))[v] = .int .u64 ((n6 N Es).getD v 0 : Nat) := fun h => by rw [af h] at gv; exact bU gv
 rw [aB oQa3 sQa3 (ab rfl)];unfold qQa3 cQa3;generalize bc Es = Y at *;have gl := vX (n6 N Es);generalize us (n6 N Es) = Z at *;generalize (n6 N Es).getD v 0 = q at *;rw [a1] at *;simp [Xt,Xs,Xr,Xq,Xp,rr,cc,v0,v1,v2,v3,gv,gv',gl,a1,idx,sQb6,iQb6,lQb6,G9,IM,IJ,aJ,au,aO,bF,cB,az,aC,aA,ae,aI,aT,aY,aV]
theorem abl {N : Nat} {Es : List Ed} (hG : kC (N : Int) Es) (hE : Es.length < 1000000) {v : Nat} (hv : v < N) : bf aj nQY [.agg [.int .i64 N,.list 2 (bc Es)],.int .i64 v] [] = some (.list 1 (ints (ph N Es v)),[]) := by
 have rr := aaz hG hE hv;obtain ⟨a1,a2,_⟩ := Ak hG
 have sm : (n6 N Es).getD v 0 < 18446744073709551616 := by
  rw [bk,af (by omega)];exact a2 _ (List.getElem_mem _)
 have ll := Yu _ sm;rw [ab7 hG hv] at ll;generalize (n6 N Es).getD v 0 = q at rr ll;rw [aB oQY sQY (ab rfl)];unfold qQY cQY;generalize bc Es = Y at *;generalize ints (ph N Es v) = Z at *;simp [acC,acB,rr,ll,sQa3,iQa3,lQa3,sQa2,iQa2,lQa2,aJ,au,aO,bF,cB,az,aC,aA,ae,aI,aT,aY,aV]
theorem U6 {N : Nat} {Es : List Ed} (hG : kC (N : Int) Es) (hE : Es.length < 1000000) (u v : Int) : bf aj nQZ [.agg [.int .i64 N,.list 2 (bc Es)],.int .i64 u,.int .i64 v] [] = some (.int .i64 (if lq u v ∈ Es then (fD (lq u v) Es : Int) else -1),[]) := by
 have cc := fH (N : Int) Es (by omega);rw [dW.2 hG] at cc;have pp := Uu (N : Int) Es hE hG.2.1 u v;rw [aB oQZ sQZ (ab rfl)];unfold qQZ cQZ;generalize fD (lq u v) Es = p at *;by_cases h : lq u v ∈ Es
 ·rw [decide_eq_true h] at pp;rw [if_pos h];generalize bc Es = Y at *;simp [XC,XB,XA,Xz,Xy,cc,pp,sQa4,iQa4,lQa4,G9,IM,IJ,aJ,au,aO,bF,cB,az,aC,aA,ae,aI,aT,aY,aV]
 ·rw [decide_eq_false h] at pp;rw [if_neg h];generalize bc Es = Y at *;simp [XC,XB,XA,Xz,Xy,cc,pp,sQa4,iQa4,lQa4,G9,IM,IJ,aJ,au,aO,bF,cB,az,aC,aA,ae,aI,aT,aY,aV]
/- What sample.wedges returns. -/
def VR (w : Wd) : AV := .agg [.int .i64 w.1,.int .i64 w.2.1,.int .i64 w.2.2]
def ue (l : List Wd) : List AV := l.map VR
theorem mU (l : List Wd) : (ue l).length = l.length := List.length_map _
theorem LC (l : List Wd) (n : Nat) : (ue l).take n = ue (l.take n) := List.map_take.symm
theorem VP (l : List Wd) (a b c : Int) : ue l ++ [.agg [.int .i64 a,.int .i64 b,.int .i64 c]] = ue (l ++ [(a,b,c)]) := by simp [ue,VR]
theorem Gn (l : List Wd) : fm (ue l) = true := by
 induction l with
 | nil => rfl
 | cons x r ih => simp only [ue,dN] at ih ⊢; simp [fm,clean,VR,ih]
theorem aai : ue [] = [] := rfl
def T5 (N : Nat) (Y : List AV) (v : Nat) (nb : List Int) (i : Nat) (a : Int) (R : List Int) (W : List Wd) (k : Nat) (J : Env) : St := ⟨(1,.ptr 0 0) :: (3,.own 3 (ue W)) :: (4,.int .i64 v) :: (5,.list 1 (ints nb)) :: (7,.int .i64 a) :: (11,.int .i64 N) :: (12,.int .i64 v) :: (18,.list 1 (ints nb)) :: (19,.int .i64 nb.length) :: (20,.int .i64 i) :: (28,.list 1 (ints R)) :: (29,.int .i64 R.length) :: (30,.int .i64 k) :: J,[some [.int .i64 N,.list 2 Y]]⟩
theorem QB (N : Nat) (Y : List AV) (v : Nat) (nb : List Int) (i : Nat) (a : Int) (R : List Int) (hR : R.length < 1000000) : ∀ (n k : Nat) (W : List Wd),k + n = R.length -> W.length + n < 1000000 ->
  bj aj 0 (.loop Tj) (T5 N Y v nb i a R W k []) = some (.exit 4,T5 N Y v nb i a R (W ++ (R.drop k).map fun b => (a,(v : Int),b)) R.length [(31,.bool false)])
 | 0,k,W,e,hW => by
   obtain rfl : k = R.length := by omega
   rw [cz,List.map_nil,ft];exact bm (by unfold Tj T5; simp [Cp,Co,Cn,Cm,Cl,Ck,Cj,Ci,Ch,Cg,uR,uQ,uP,uO,uM,uL,uK,aJ,au,aO,bF,cB,az,aC,aA,ae,aI,aT,aY,aV])
 | n + 1,k,W,e,hW => by
   have h1 : k < R.length := by omega
   have h2 : (k : Int) < R.length := by omega
   have hw := dw (i := k) (by omega);have hL : W.length + 1 <= 4294967296 := by omega
   have ih := QB N Y v nb i a R hR n (k + 1) (W ++ [(a,(v : Int),R[k])]) (by omega) (by simp; omega);rw [aP h1,dN];rw [dI] at ih;have tk : (W ++ [(a,(v : Int),R[k])]).take (W.length + 1) = W ++ [(a,(v : Int),R[k])] := List.take_of_length_le (by simp);refine (aR (s' := T5 N Y v nb i a R (W ++ [(a,(v : Int),R[k])]) (k + 1) []) ?_).trans ih;unfold Tj T5;simp [Cp,Co,Cn,Cm,Cl,Ck,Cj,Ci,Ch,Cg,uR,uQ,uP,uO,uM,uL,uK,h1,h2,hw,hL,tk,kR,mU,LC,VP,cX,Gn,idx,aJ,au,aO,bF,cB,az,aC,aA,ae,aI,aT,aY,aV]
def Om (N : Nat) (Y : List AV) (v : Nat) (nb : List Int) (W : List Wd) (i : Nat) (J : Env) : St := ⟨(1,.ptr 0 0) :: (3,.own 3 (ue W)) :: (4,.int .i64 v) :: (5,.list 1 (ints nb)) :: (11,.int .i64 N) :: (12,.int .i64 v) :: (18,.list 1 (ints nb)) :: (19,.int .i64 nb.length) :: (20,.int .i64 i) :: J,[some [.int .i64 N,.list 2 Y]]⟩
theorem QA (N : Nat) (Y : List AV) (v : Nat) (nb : List Int) (hb : nb.length <= 64) : ∀ (n i : Nat) (W : List Wd),i + n = nb.length -> W.length + n * 64 < 1000000 ->
  bj aj 0 (.loop Ti) (Om N Y v nb W i []) = some (.exit 2,Om N Y v nb (W ++ tU v (nb.drop i)) nb.length [(21,.bool false)])
 | 0,i,W,e,hW => by
   obtain rfl : i = nb.length := by omega
   rw [cz,tU,ft];exact bm (by unfold Ti Om; simp [Cp,Co,Cn,Cm,Cl,Ck,Cj,Ci,Ch,Cg,uR,uQ,uP,uO,uM,uL,uK,aJ,au,aO,bF,cB,az,aC,aA,ae,aI,aT,aY,aV])
 | n + 1,i,W,e,hW => by
   have h1 : i < nb.length := by omega
   have h2 : (i : Int) < nb.length := by omega
   have h3 : (i : Int) + 1 <= nb.length := by omega
   have h4 : i + 1 <= nb.length := by omega
   have h5 : (0 : Int) <= (i : Int) + 1 := by omega
   have hw := dw (i := i) (by omega);have ld : (nb.drop (i + 1)).length = nb.length - (i + 1) := List.length_drop;have lp := QB N Y v nb i nb[i] (nb.drop (i + 1)) (by omega) (nb.drop (i + 1)).length 0 W (by omega) (by omega);have ih := QA N Y v nb hb n (i + 1) (W ++ (nb.drop (i + 1)).map fun b => (nb[i],(v : Int),b)) (by omega) (by simp; omega);rw [b9] at lp;rw [aP h1,tU];rw [dI] at ih;refine (aR (s' := Om N Y v nb (W ++ (nb.drop (i + 1)).map fun b => (nb[i],(v : Int),b)) (i + 1) []) ?_).trans ih;generalize (W ++ (nb.drop (i + 1)).map fun b => (nb[i],(v : Int),b)) = W2 at *;unfold T5 at lp;rw [iB,ld] at lp;unfold Ti Om;have dl : ((nb.length : Int) - ((i : Int) + 1)) = ((nb.length - (i + 1) : Nat) : Int) := by omega
   simp [Cp,Co,Cn,Cm,Cl,Ck,Cj,Ci,Ch,Cg,uR,uQ,uP,uO,uM,uL,uK,h1,h2,h3,h4,h5,hw,lp,ld,dl,Bg,dE,cX,idx,aJ,au,aO,bF,cB,az,aC,aA,ae,aI,aT,aY,aV]
theorem Qy {N : Nat} {Es : List Ed} (hG : kC (N : Int) Es) : ∀ n,n <= N -> (dg N Es n).length <= n * 4096
 | 0,_ => Nat.le_refl _
 | n + 1,hn => by
   have ih := Qy hG n (by omega);have hN := hG.1;have hl := qA hG (u := (n : Int)) (by omega) (by omega);have hp := adf (n := (ph N Es n).length) (by omega);rw [dg,List.length_append,u5];omega
def T4 (N : Nat) (Y : List AV) (W : List Wd) (v : Nat) (J : Env) : St := ⟨(1,.ptr 0 0) :: (3,.own 3 (ue W)) :: (11,.int .i64 N) :: (12,.int .i64 v) :: J,[some [.int .i64 N,.list 2 Y]]⟩
theorem Qz {N : Nat} {Es : List Ed} (hG : kC (N : Int) Es) (hE : Es.length < 1000000) : ∀ n v : Nat,v + n = N ->
  bj aj 0 (.loop Th) (T4 N (bc Es) (dg N Es v) v []) = some (.exit 0,T4 N (bc Es) (dg N Es N) N [(13,.bool false)])
 | 0,v,e => by
   obtain rfl : v = N := by omega
   exact bm (by unfold Th T4; simp [Cp,Co,Cn,Cm,Cl,Ck,Cj,Ci,Ch,Cg,uR,uQ,uP,uO,uM,uL,uK,aJ,au,aO,bF,cB,az,aC,aA,ae,aI,aT,aY,aV])
 | n + 1,v,e => by
   have hN := hG.1;have h2 : (v : Int) < N := by omega
   have hw := dw (i := v) (by omega);have gn := abl hG hE (v := v) (by omega);have hl := qA hG (u := (v : Int)) (by omega) (by omega);have wb := Qy hG v (by omega);have lp := QA N (bc Es) v (ph N Es v) (by omega) (ph N Es v).length 0 (dg N Es v) (by omega) (by omega);have ih := Qz hG hE n (v + 1) (by omega);rw [b9] at lp;change _ = some (Ex.exit 2,Om N (bc Es) v (ph N Es v) (dg N Es (v + 1)) (ph N Es v).length [(21,.bool false)]) at lp;refine (aR (s' := T4 N (bc Es) (dg N Es (v + 1)) (v + 1) []) ?_).trans ih;generalize dg N Es (v + 1) = W2 at *;generalize dg N Es v = W1 at *;generalize ph N Es v = nb at *;generalize bc Es = Y at *;unfold Om at lp;rw [iB] at lp;unfold Th T4;simp [Cp,Co,Cn,Cm,Cl,Ck,Cj,Ci,Ch,Cg,uR,uQ,uP,uO,uM,uL,uK,h2,hw,gn,lp,sQY,iQY,lQY,aJ,au,aO,bF,cB,az,aC,aA,ae,aI,aT,aY,aV]
theorem sg {N : Nat} {Es : List Ed} (hG : kC (N : Int) Es) (hE : Es.length < 1000000) : bf aj nQL [.agg [.int .i64 N,.list 2 (bc Es)]] [] = some (.list 3 (ue (dg N Es N)),[]) := by
 have lp := Qz hG hE N 0 (by omega);unfold T4 at lp;rw [dg,aai,iB] at lp;have tk : (ue (dg N Es N)).take (dg N Es N).length = ue (dg N Es N) := by rw [LC,cX]
 rw [aB oQL sQL (ab rfl)];unfold qQL cQL;generalize dg N Es N = W at *;generalize bc Es = Y at *;simp [Cp,Co,Cn,Cm,Cl,Ck,Cj,Ci,Ch,Cg,uR,uQ,uP,uO,uM,uL,uK,lp,tk,mU,Gn,aJ,au,aO,bF,cB,az,aC,aA,ae,aI,aT,aY,aV]
/- What ref30.Wedges and sample.closed, Wedge and ByWedges return. -/
def r3St (N : Nat) (Y : List AV) (n : Nat) (v : Nat) (J : Env) : St := ⟨(1,.ptr 0 0) :: (5,.int .i64 n) :: (6,.int .i64 v) :: J,[some [.int .i64 N,.list 2 Y]]⟩
theorem Gm {N : Nat} {Es : List Ed} (hG : kC (N : Int) Es) (hE : Es.length < 1000000) (w : Wd) : bf aj nQM [.agg [.int .i64 N,.list 2 (bc Es)],.agg [.int .i64 w.1,.int .i64 w.2.1,.int .i64 w.2.2]] [] = some (.bool (cls Es w),[]) := by
 have ff := U6 hG hE w.1 w.2.2
 have hc : (decide (lq w.1 w.2.2 ∈ Es)) = cls Es w := by
  unfold cls;refine decide_eq_decide.2 ?_;unfold jn lq;by_cases q : w.1 <= w.2.2
  ·rw [show (if w.2.2 < w.1 then w.2.2 else w.1) = w.1 from if_neg (by omega),show (if w.1 < w.2.2 then w.2.2 else w.1) = w.2.2 by split <;> omega];constructor
   ·exact .inl
   ·rintro (h | h)
    ·exact h
    ·have := (hG.2.2 _ h).2.1; simp at this; omega
  ·rw [show (if w.2.2 < w.1 then w.2.2 else w.1) = w.2.2 from if_pos (by omega),show (if w.1 < w.2.2 then w.2.2 else w.1) = w.1 from if_neg (by omega)];constructor
   ·exact .inr
   ·rintro (h | h)
    ·have := (hG.2.2 _ h).2.1; simp at this; omega
    ·exact h
 rw [<- hc];rw [aB oQM sQM (ab rfl)];unfold qQM cQM;generalize bc Es = Y at *;generalize fD (lq w.1 w.2.2) Es = p at *;by_cases h : lq w.1 w.2.2 ∈ Es
 ·rw [if_pos h] at ff;rw [decide_eq_true h];have p0 : (0 : Int) <= p := by omega
  simp [XI,XH,ff,p0,idx,sQZ,iQZ,lQZ,aJ,au,aO,bF,cB,az,aC,aA,ae,aI,aT,aY,aV]
 ·rw [if_neg h] at ff;rw [decide_eq_false h];simp [XI,XH,ff,idx,sQZ,iQZ,lQZ,aJ,au,aO,bF,cB,az,aC,aA,ae,aI,aT,aY,aV]
/- What sample.Wedge and ByWedges return. -/
theorem aft (a b c : Int) : bf aj nQP [.list 1 [.int .i64 a,.int .i64 b,.int .i64 c]] [] = some (.own 1 [.int .i64 a,.int .i64 b,.int .i64 c],[]) := by
 rw [Vq (by unfold O8; rw [oQP]; rfl) sQP (ab rfl)];unfold qQP cQP;simp [acI,acH,acG,acF,kR,aY,aV,GN,Yr,V6,V5,AV.cells,AV.leaf]
theorem T3 {N : Nat} {Es : List Ed} (hG : kC (N : Int) Es) (hE : Es.length < 1000000) (i : Nat) (hi : i < (dg N Es N).length) : bf aj nQv [.agg [.int .i64 N,.list 2 (bc Es)],.int .i64 i] [] = some (.dp [.list 1 (ints [(dg N Es N)[i].1,(dg N Es N)[i].2.1,(dg N Es N)[i].2.2]),.bool (cls Es (dg N Es N)[i]),.int .i64 0],[]) := by
 have ww := sg hG hE;have cc := fH (N : Int) Es (by omega);rw [dW.2 hG] at cc;have wc := Gm hG hE (dg N Es N)[i];have gl := mU (dg N Es N);have g1 : ∀ h : i < (ue (dg N Es N)).length,(ue (dg N Es N))[i] = .agg [.int .i64 (dg N Es N)[i].1,.int .i64 (dg N Es N)[i].2.1,.int .i64 (dg N Es N)[i].2.2] := fun h => by simp [ue,VR]
 have g2 : (ue (dg N Es N))[i]? = some (.agg [.int .i64 (dg N Es N)[i].1,.int .i64 (dg N Es N)[i].2.1,.int .i64 (dg N Es N)[i].2.2]) := by rw [af (by rw [gl]; exact hi),g1]
 have c3 := aft (dg N Es N)[i].1 (dg N Es N)[i].2.1 (dg N Es N)[i].2.2;rw [aB oQv sQv (ab rfl)];unfold qQv cQv;generalize hW : (dg N Es N)[i] = w at *;generalize cls Es w = q at *;generalize dg N Es N = W at *;generalize ue W = Z at *;generalize bc Es = Y at *;have n0 : ¬ (i : Int) < 0 := by omega
 have n1 : ¬ (W.length : Int) <= (i : Int) := by omega
 have n2 : (i : Int) < W.length := by omega
 simp [Mn,Mm,Ml,Mk,Mj,Mi,Mh,Mg,ww,cc,gl,n0,n1,n2,hi,g1,g2,c3,wc,idx,ints,List.map,G9,IM,IJ,sQL,iQL,lQL,sQM,iQM,lQM,sQP,iQP,lQP,aJ,au,aO,bF,cB,az,aC,aA,ae,aI,aT,aY,aV]
def K5 (N : Nat) (Y : List AV) (P : List Int) (W : List AV) (n : Nat) (i : Nat) (J : Env) : St := ⟨(1,.list 1 (ints P)) :: (2,.ptr 0 0) :: (4,.ptr 1 0) :: (7,.list 3 W) :: (8,.int .i64 n) :: (19,.list 1 (ints P)) :: (20,.int .i64 P.length) :: (21,.int .i64 i) :: J,[some [.int .i64 N,.list 2 Y],some [.int .i64 0,.int .i64 0]]⟩
/- What sample.ByWedges and ref29.Whole return: the same share. -/
def FX (N : Nat) (Es : List Ed) : AV := fr (3 * N5 N Es) (max (dg N Es N).length 1)
theorem LV {a b : Nat} (ha : a < 1000000000) (hb : b < 1000000000) (h : a <= b) : bf aj nQO [.int .i64 a,.int .i64 b] [] = some (fr a (max b 1),[]) := by
 rw [aB oQO sQO (ab rfl)];unfold qQO cQO;by_cases b0 : b = 0
 ·subst b0;obtain rfl : a = 0 := by omega
  rw [abp (by omega)];simp [XG,XF,XE,XD,aJ,df,pl,aY,aV]
 ·have o := Zr (a := a) (b := b) (by omega) (by omega) (by omega);rw [show max b 1 = b by omega];have n0 : ¬ (b : Int) = 0 := by omega
  have n1 : ((b : Int) == 0) = false := by simpa using b0
  unfold fr at *;generalize a / cW a b = x at *;generalize b / cW a b = y at *;simp [XG,XF,XE,XD,o,n0,n1,b0,aJ,sQ4,iQ4,lQ4,df,pl,aY,aV]
def whS9 (N : Nat) (Y : List AV) (t : Int) (n : Nat) (v : Nat) (J : Env) : St := ⟨(1,.ptr 0 0) :: (2,.ptr 1 0) :: (4,.int .i64 t) :: (6,.int .i64 n) :: (7,.int .i64 v) :: J,[some [.int .i64 N,.list 2 Y],some [.int .i64 0,.int .i64 0]]⟩
end Go.BmP
