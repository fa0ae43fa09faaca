/- What ref03.Add returns. -/
import Derived.Test.YtmoginoicilobabGreatUseM
import Derived.Test.YtmoginoicilobabGreatK05
import Derived.Test.YtmoginoicilobabGreatRunX
import Derived.Test.YtmoginoicilobabGreatTaW
set_option linter.unusedSimpArgs false
set_option linter.unusedVariables false
set_option maxRecDepth 100000
set_option maxHeartbeats 4000000
open List renaming getElem?_eq_getElem → ai, take_of_length_le → aL
open Nat renaming le_of_ble_eq_true → ae
open Option.some renaming inj → cK
namespace Go.BmP
open Go.Am Go.Bm
theorem aa7 (N : Nat) (Es : List Ed) (hG : gK (N : Int) Es) (hE : Es.length < 1000000) (u v : Int) (hv : 0 <= u /\ 0 <= v /\ u < (N : Int) /\ v < (N : Int) /\ u ≠ v) (hn : bw u v ∉ Es) : aY ak Z0 [.agg [.int .i64 N,.list 2 (bm Es)],.int .i64 u,.int .i64 v] [] = some (.dD [.agg [.int .i64 N,.list 2 (bm (fE (bw u v) Es))],.int .i64 0],[]) := by
 rw [aB oQR sQR (ae rfl)];have ck := kb (N : Int) Es (by omega);rw [eK.2 hG] at ck;have en := qG (N : Int) u v;rw [decide_eq_true hv] at en;have fd := zh (N : Int) Es (by omega) hG u v;rw [if_neg hn] at fd;have ge := FF u v;have wr := WX (bw u v) Es (by omega);have lE := av (fE (bw u v) Es)
 have ll : (fE (bw u v) Es).length <= 4294967296 := by
  have := yF (bw u v) Es;omega
 have tk : (bm (fE (bw u v) Es)).take (fE (bw u v) Es).length = bm (fE (bw u v) Es) := aL (by omega);have lf := aD (fE (bw u v) Es);have cE := aI (fE (bw u v) Es);generalize fE (bw u v) Es = G at *;generalize bm G = GG at *;generalize bm Es = E at *;generalize bw u v = z at *;unfold qQR cQR;simp [SK,SJ,SI,SH,SG,SF,SE,SD,SC,ck,en,fd,ge,wr,lE,ll,tk,lf,cE,jQ,aJ,U7,WO,WN,WR,sQU,iQU,lQU,eQU,U5,iQa5,lQa5,eQa5,sQW,iQW,lQW,eQW,sQV,iQV,lQV,eQV,ba,aZ]
theorem WD (N : Nat) (Es : List Ed) (hG : gK (N : Int) Es) (hE : Es.length < 1000000) (u v : Int) (hv : ¬ (0 <= u /\ 0 <= v /\ u < (N : Int) /\ v < (N : Int) /\ u ≠ v)) : aY ak Z0 [.agg [.int .i64 N,.list 2 (bm Es)],.int .i64 u,.int .i64 v] [] = some (.dD [.agg [.int .i64 0,.list 2 []],.int .i64 6],[]) := by
 rw [aB oQR sQR (ae rfl)];have ck := kb (N : Int) Es (by omega);rw [eK.2 hG] at ck;have en := qG (N : Int) u v;rw [decide_eq_false hv] at en;generalize bm Es = E at *;unfold qQR cQR;simp [SK,SJ,SI,SH,SG,SF,SE,SD,SC,ck,en,jQ,aJ,U7,WO,WN,WR,sQU,iQU,lQU,eQU,U5,iQa5,lQa5,eQa5,sQW,iQW,lQW,eQW,sQV,iQV,lQV,eQV,ba,aZ]
theorem Ro (N : Nat) (Es : List Ed) (hG : gK (N : Int) Es) (hE : Es.length < 1000000) (u v : Int) (hv : 0 <= u /\ 0 <= v /\ u < (N : Int) /\ v < (N : Int) /\ u ≠ v) (hn : bw u v ∈ Es) : aY ak Z0 [.agg [.int .i64 N,.list 2 (bm Es)],.int .i64 u,.int .i64 v] [] = some (.dD [.agg [.int .i64 0,.list 2 []],.int .i64 15],[]) := by
 rw [aB oQR sQR (ae rfl)];have ck := kb (N : Int) Es (by omega);rw [eK.2 hG] at ck;have en := qG (N : Int) u v;rw [decide_eq_true hv] at en;have fd := zh (N : Int) Es (by omega) hG u v;rw [if_pos hn] at fd;have k0 : (0 : Int) <= (Es.idxOf (bw u v) : Int) := by omega
 generalize (Es.idxOf (bw u v) : Int) = i at *;generalize bm Es = E at *;unfold qQR cQR;simp [SK,SJ,SI,SH,SG,SF,SE,SD,SC,ck,en,fd,k0,jQ,aJ,U7,WO,WN,WR,sQU,iQU,lQU,eQU,U5,iQa5,lQa5,eQa5,sQW,iQW,lQW,eQW,sQV,iQV,lQV,eQV,ba,aZ]
/- What ref03.Remove returns of an edge that is there: the graph without it. -/
set_option maxHeartbeats 8000000
def GL (x : Ed) (l : List Ed) : List Ed := l.filter fun e => decide (e ≠ x)
theorem abg (x : Ed) (l : List Ed) : (GL x l).length <= l.length := List.length_filter_le _ _
theorem WW (x : Ed) (l : List Ed) (i : Nat) (h : i < l.length) : GL x (l.take (i + 1)) = if l[i] = x then GL x (l.take i) else GL x (l.take i) ++ [l[i]] := by
 unfold GL;rw [List.take_succ_eq_append_getElem h,List.filter_append];by_cases e : l[i] = x
 ·rw [if_pos e];simp [e]
 ·rw [if_neg e];simp [e]
theorem XF (N u v : Int) (Y Z : List AV) (Es : List Ed) (hE : Es.length < 1000000) (i : Nat) (hi : i < Es.length) : bL ak 0 H5 ⟨[(1,.int .i64 u),(2,.int .i64 v),(6,.ptr 1 0),(9,.ptr 2 0),(35,.list 2 (bm Es)),(36,.int .i64 Es.length),(37,.int .i64 i)],[some [.int .i64 N,.list 2 (bm Es)],some [.int .i64 0,.own 2 []],some [.int .i64 N,.own 2 (bm (GL (bw u v) (Es.take i)))]]⟩ = some (.normal,⟨[(1,.int .i64 u),(2,.int .i64 v),(6,.ptr 1 0),(9,.ptr 2 0),(35,.list 2 (bm Es)),(36,.int .i64 Es.length),(37,.int .i64 ((i + 1 : Nat) : Int))],[some [.int .i64 N,.list 2 (bm Es)],some [.int .i64 0,.own 2 []],some [.int .i64 N,.own 2 (bm (GL (bw u v) (Es.take (i + 1))))]]⟩) := by
 have i1 : (i : Int) < Es.length := by omega
 have w := fT (i := i) (by omega);have er := FF u v;have g0 : (bm Es)[i]? = some (.agg [.int .i64 Es[i].1,.int .i64 Es[i].2]) := by rw [aX,ai hi]; rfl
 have g : ∀ h,(bm Es)[i]'h = .agg [.int .i64 Es[i].1,.int .i64 Es[i].2] := fun h => by rw [ai h] at g0; exact cK g0
 have lE := av Es;have lo := abg (bw u v) (Es.take i);rw [List.length_take] at lo;rw [WW _ _ _ hi];have hx : (Es[i] = bw u v) ↔ (Es[i].1 = (bw u v).1 /\ Es[i].2 = (bw u v).2) := Prod.ext_iff;have L1 : (GL (bw u v) (Es.take i)).length + 1 <= 4294967296 := by omega
 generalize GL (bw u v) (Es.take i) = o at *;by_cases q : Es[i] = bw u v
 ·rw [if_pos q];obtain ⟨q1,q2⟩ := hx.1 q;generalize bm o = O1 at *;rw [q1,q2] at g0 g;generalize (bw u v).1 = a at *;generalize (bw u v).2 = b at *;generalize bm Es = E1 at *;clear hx q q1 q2;unfold H5;simp [Er,Ep,Eo,En,Em,El,Ek,Ej,Ei,Eh,xB,xA,xz,xy,xx,xw,i1,hi,w,er,g,g0,lE,idx,aJ,sQW,iQW,lQW,eQW,fG,dx,dK,pl]
 ·rw [if_neg q];have q3 : ¬ (Es[i].1 = (bw u v).1 /\ Es[i].2 = (bw u v).2) := fun h => q (hx.2 h);clear hx q;generalize Es[i] = e at *;obtain ⟨a,b⟩ := e
  have q4 : ¬ a = (bw u v).1 \/ ¬ b = (bw u v).2 := by
   by_cases h : a = (bw u v).1
   ·exact .inr fun h2 => q3 ⟨h,h2⟩
   ·exact .inl h
  have l3 : (bm o).length <= 4294967295 := by rw [av]; omega
  have tk : (bm (o ++ [(a,b)])).take ((bm o).length + 1) = bm (o ++ [(a,b)]) := aL (by rw [av,av]; simp);have tk2 : (bm (o ++ [(a,b)])).take (o.length + 1) = bm (o ++ [(a,b)]) := aL (by rw [av]; simp);have lo1 := av o;generalize (bw u v).1 = c at *;generalize (bw u v).2 = d at *;generalize bm Es = E1 at *;clear q3 g0;unfold H5;simp [Er,Ep,Eo,En,Em,El,Ek,Ej,Ei,Eh,xB,xA,xz,xy,xx,xw,i1,hi,w,er,g,lE,q4,L1,l3,jQ,AZ,tk,tk2,idx,aJ,sQW,iQW,lQW,eQW,fG,dx,dK,pl,dz,bp,fi,bZ,bU,eT,bQ,dH,cO]
theorem R6 (N u v : Int) (Es : List Ed) (hE : Es.length < 1000000) : ∀ n i : Nat,i + n = Es.length -> bL ak 0 (.loop H5) ⟨[(1,.int .i64 u),(2,.int .i64 v),(6,.ptr 1 0),(9,.ptr 2 0),(35,.list 2 (bm Es)),(36,.int .i64 Es.length),(37,.int .i64 i)],[some [.int .i64 N,.list 2 (bm Es)],some [.int .i64 0,.own 2 []],some [.int .i64 N,.own 2 (bm (GL (bw u v) (Es.take i)))]]⟩ = some (.exit 0,⟨[(1,.int .i64 u),(2,.int .i64 v),(6,.ptr 1 0),(9,.ptr 2 0),(35,.list 2 (bm Es)),(36,.int .i64 Es.length),(37,.int .i64 Es.length),(38,.bool false)],[some [.int .i64 N,.list 2 (bm Es)],some [.int .i64 0,.own 2 []],some [.int .i64 N,.own 2 (bm (GL (bw u v) Es))]]⟩)
 | 0,i,e => by
   obtain rfl : i = Es.length := by omega
   rw [List.take_length];refine cj ?_;have lE := av Es;generalize bm (GL (bw u v) Es) = O1;generalize bm Es = E1 at *;unfold H5;simp [Er,Ep,Eo,En,Em,El,Ek,Ej,Ei,Eh,xB,xA,xz,xy,xx,xw,aJ]
 | n + 1,i,e => (bG (XF N u v [] [] Es hE i (by omega))).trans (R6 N u v Es hE n (i + 1) (by omega))
/- What ref03.Remove returns. -/
theorem XP {N : Nat} {Es : List Ed} (hG : gK (N : Int) Es) (hE : Es.length < 1000000) (u v : Int) (hv : 0 <= u /\ 0 <= v /\ u < (N : Int) /\ v < (N : Int) /\ u ≠ v) (hm : bw u v ∈ Es) : aY ak ZZ [.agg [.int .i64 N,.list 2 (bm Es)],.int .i64 u,.int .i64 v] [] = some (.dD [.agg [.int .i64 N,.list 2 (bm (GL (bw u v) Es))],.int .i64 0],[]) := by
 have ck := kb (N : Int) Es (by omega);rw [eK.2 hG] at ck;have en := qG (N : Int) u v;have fd := zh (N : Int) Es (by omega) hG u v;rw [if_pos hm] at fd;rw [decide_eq_true hv] at en;have lp := R6 (N : Int) u v Es hE Es.length 0 (by omega);rw [iR,List.take_zero] at lp;change bL ak 0 _ ⟨_,[_,_,some [_,.own 2 []]]⟩ = _ at lp;have q0 : ∀ p : Nat,¬ (p : Int) < 0 := fun p => by omega
 generalize List.idxOf (bw u v) Es = p at fd;have qp := q0 p;have lE := av Es;have lO := av (GL (bw u v) Es);have tk : (bm (GL (bw u v) Es)).take (GL (bw u v) Es).length = bm (GL (bw u v) Es) := aL (by rw [av]; exact Nat.le_refl _);rw [aB oQT sQT (ae rfl)];generalize (GL (bw u v) Es).length = k at *;generalize bm (GL (bw u v) Es) = O1 at *;generalize bm Es = E1 at *;clear hm hG hv;unfold qQT cQT;simp [Er,Ep,Eo,En,Em,El,Ek,Ej,Ei,Eh,xB,xA,xz,xy,xx,xw,ck,en,fd,lp,qp,lE,lO,tk,idx,aJ,ba,aZ,fG,dx,dK,pl,U7,WO,WN,WR,sQU,iQU,lQU,eQU,U5,iQa5,lQa5,eQa5]
theorem Vc (N : Nat) (Es : List Ed) (hG : gK (N : Int) Es) (hE : Es.length < 1000000) (u v : Int) (hv : ¬ (0 <= u /\ 0 <= v /\ u < (N : Int) /\ v < (N : Int) /\ u ≠ v)) : aY ak ZZ [.agg [.int .i64 N,.list 2 (bm Es)],.int .i64 u,.int .i64 v] [] = some (.dD [.agg [.int .i64 0,.list 2 []],.int .i64 6],[]) := by
 rw [aB oQT sQT (ae rfl)];have ck := kb (N : Int) Es (by omega);rw [eK.2 hG] at ck;have en := qG (N : Int) u v;rw [decide_eq_false hv] at en;generalize bm Es = E at *;unfold qQT cQT;simp [Er,Ep,Eo,En,Em,El,Ek,Ej,Ei,Eh,xB,xA,xz,xy,xx,xw,ck,en,jQ,aJ,U7,WO,WN,WR,sQU,iQU,lQU,eQU,ba,aZ]
theorem XQ (N : Nat) (Es : List Ed) (hG : gK (N : Int) Es) (hE : Es.length < 1000000) (u v : Int) (hv : 0 <= u /\ 0 <= v /\ u < (N : Int) /\ v < (N : Int) /\ u ≠ v) (hn : bw u v ∉ Es) : aY ak ZZ [.agg [.int .i64 N,.list 2 (bm Es)],.int .i64 u,.int .i64 v] [] = some (.dD [.agg [.int .i64 0,.list 2 []],.int .i64 7],[]) := by
 rw [aB oQT sQT (ae rfl)];have ck := kb (N : Int) Es (by omega);rw [eK.2 hG] at ck;have en := qG (N : Int) u v;rw [decide_eq_true hv] at en;have fd := zh (N : Int) Es (by omega) hG u v;rw [if_neg hn] at fd;generalize bm Es = E at *;unfold qQT cQT;simp [Er,Ep,Eo,En,Em,El,Ek,Ej,Ei,Eh,xB,xA,xz,xy,xx,xw,ck,en,fd,jQ,aJ,U7,WO,WN,WR,sQU,iQU,lQU,eQU,U5,iQa5,lQa5,eQa5,ba,aZ]
theorem abf {x : Ed} {Es : List Ed} (hU : CC Es) (hx : x ∈ Es) : GL x Es = kL x Es := by
 refine IZ ?_ (Ji hU) fun y => ?_
 ·unfold CC at hU ⊢;exact hU.sublist List.filter_sublist
 ·rw [yD hU hx,GL,List.mem_filter,decide_eq_true_eq]
theorem qH (N u v : Int) : (0 <= u /\ 0 <= v /\ u < N /\ v < N /\ u ≠ v) ↔ eM N u v := by unfold eM; omega
theorem XZ (N : Nat) (Es : List Ed) (hG : gK (N : Int) Es) (hE : Es.length < 1000000) (u v : Int) : aY ak Z0 [.agg [.int .i64 N,.list 2 (bm Es)],.int .i64 u,.int .i64 v] [] = some (WC N Es u v,[]) := by
 unfold WC;by_cases q : eM N u v
 ·rw [if_pos q];by_cases m : bw u v ∈ Es
  ·rw [if_pos m]; exact Ro N Es hG hE u v ((qH _ _ _).2 q) m
  ·rw [if_neg m]; exact aa7 N Es hG hE u v ((qH _ _ _).2 q) m
 ·rw [if_neg q]; exact WD N Es hG hE u v fun h => q ((qH _ _ _).1 h)
theorem XB (N : Nat) (Es : List Ed) (hG : gK (N : Int) Es) (hE : Es.length < 1000000) (u v : Int) : aY ak ZZ [.agg [.int .i64 N,.list 2 (bm Es)],.int .i64 u,.int .i64 v] [] = some (Vb N Es u v,[]) := by
 unfold Vb;by_cases q : eM N u v
 ·rw [if_pos q];by_cases m : bw u v ∈ Es
  ·rw [if_pos m,<- abf hG.2.1 m]; exact XP hG hE u v ((qH _ _ _).2 q) m
  ·rw [if_neg m]; exact XQ N Es hG hE u v ((qH _ _ _).2 q) m
 ·rw [if_neg q]; exact Vc N Es hG hE u v fun h => q ((qH _ _ _).1 h)
end Go.BmP
