/- What ref24.Is and Maximal return. -/
import Derived.Test.YtppmiehidnpgbaaGreatDoorUseM
import Derived.Test.YtppmiehidnpgbaaGreatDoorExtP
import Derived.Test.YtppmiehidnpgbaaGreatDoorK05
import Derived.Test.YtppmiehidnpgbaaGreatDoorR02d
set_option linter.unusedSimpArgs false
set_option linter.unusedVariables false
set_option maxRecDepth 100000
set_option maxHeartbeats 4000000
open Bool renaming false_and → fh, true_and → eh
open List renaming drop_eq_getElem_cons → bk, drop_length → bU, drop_zero → cS, range → cH
open Nat renaming le_of_ble_eq_true → aD
namespace Go.BmP
open Go.Am Go.Bm
def sM (N : Nat) (Es : List Ed) : Heap := [some [.int .i64 N,.list 2 (dO Es)]]
theorem UB {N : Nat} {Es : List Ed} (h : ke (N : Int) Es) (hE : Es.length < 4294967295) (u v : Int) : ∃ r : Int,br au nQ8 [.agg [.int .i64 N,.list 2 (dO Es)],.int .i64 u,.int .i64 v] [] = some (.int .i64 r,[]) /\ (oO u v ∈ Es -> ¬ r < 0) /\ (oO u v ∉ Es -> r < 0) := by
 refine ⟨_,ZO (N : Int) Es (by omega) h u v,fun k => ?_,fun k => ?_⟩
 ·rw [if_pos k]; omega
 ·rw [if_neg k]; omega
theorem Js {N : Nat} {Es : List Ed} (h : ke (N : Int) Es) (hE : Es.length < 4294967295) (S : List Int) (hl : S.length < 4294967295) (v : Int) : ∀ n i : Nat,i + n = S.length -> aW au 0 (.loop I5) ⟨[(1,.list 1 (ints S)),(2,.int .i64 v),(3,.ptr 0 0),(7,.int .i64 i)],sM N Es⟩ =
  if uj Es (S.drop i) v = true then some (.exit 0,⟨[(1,.list 1 (ints S)),(2,.int .i64 v),(3,.ptr 0 0),(7,.int .i64 S.length),(11,.bool false)],sM N Es⟩) else some (.ret,⟨[(6,.bool false)],[]⟩)
 | 0,i,hi => by
   obtain rfl : i = S.length := by omega
   rw [bU,if_pos (show uj Es [] v = true from rfl)];exact bw (by unfold I5 sM; simp [EH,EG,EF,EE,ED,EC,EB,aN,aq,aM,bp,bV,an,ak,aj,af,aE,aL,bu,bq])
 | n + 1,i,hi => by
   have bL : i < S.length := by omega
   have h1 : (i : Int) < S.length := by omega
   have hw := eT (i := i) (by omega);have ih := Js h hE S hl v n (i + 1) (by omega);have hx := kQ (k := .i64) (i := (i : Int)) (n := S.length) (by omega) h1;obtain ⟨r,f1,f2,f3⟩ := UB h hE S[i] v;rw [bk bL];have e : uj Es (S[i] :: S.drop (i + 1)) v = ((!decide (S[i] = v) && decide (oO S[i] v ∈ Es)) && uj Es (S.drop (i + 1)) v) := rfl;rw [e];by_cases c : S[i] = v
   ·rw [if_neg (by simp [c])];clear ih f1 f2 f3 e;exact dK (by unfold I5 sM; simp [EH,EG,EF,EE,ED,EC,EB,h1,bL,hx,c,hw,aN,aq,aM,bp,bV,an,ak,aj,af,aE,aL,bu,bq])
   ·by_cases d : oO S[i] v ∈ Es
    ·have f2 := f2 d;rw [show ((!decide (S[i] = v) && decide (oO S[i] v ∈ Es)) && uj Es (S.drop (i + 1)) v) = uj Es (S.drop (i + 1)) v by simp [c,d]];refine (aY ?_).trans ih;clear ih f3 e;unfold I5 sM;simp [EH,EG,EF,EE,ED,EC,EB,h1,bL,hx,c,hw,f1,f2,sQ8,iQ8,lQ8,ak,aN,aq,aM,bp,bV,an,ak,aj,af,aE,aL,bu,bq]
    ·have f3 := f3 d;rw [if_neg (by simp [d])];clear ih f2 e;exact dK (by unfold I5 sM; simp [EH,EG,EF,EE,ED,EC,EB,h1,bL,hx,c,hw,f1,f3,sQ8,iQ8,lQ8,ak,aN,aq,aM,bp,bV,an,ak,aj,af,aE,aL,bu,bq])
theorem ZN {N : Nat} {Es : List Ed} (h : ke (N : Int) Es) (hE : Es.length < 4294967295) (S : List Int) (hl : S.length < 4294967295) (v : Int) : br au nQI [.agg [.int .i64 N,.list 2 (dO Es)],.list 1 (ints S),.int .i64 v] [] = some (.bool (uj Es S v),[]) := by
 rw [aV oQI sQI (aD rfl)];have l := Js h hE S hl v S.length 0 (by omega);rw [fY,cS] at l;unfold sM at l;cases f : uj Es S v with
 | true =>
   rw [f,if_pos rfl] at l;unfold qQI cQI;simp [EH,EG,EF,EE,ED,EC,EB,l,aN,aq,aM,bp,bV,an,ak,aj,af,aE,aL,bu,bq]
 | false =>
   rw [f,if_neg (by decide)] at l;unfold qQI cQI;simp [EH,EG,EF,EE,ED,EC,EB,l,aN,aq,aM,bp,bV,an,ak,aj,af,aE,aL,bu,bq]
/-! Is -/
def prB (Es : List Ed) (a : Int) (S : List Int) : Bool := S.all fun b => decide (oO a b ∈ Es)
def MA (Es : List Ed) : List Int -> Bool
 | [] => true
 | a :: r => prB Es a r && MA Es r
theorem Tl (Es : List Ed) : ∀ S : List Int,MA Es S = decide (S.Pairwise fun a b => oO a b ∈ Es)
 | [] => by simp [MA]
 | a :: r => by
   unfold MA;rw [Tl Es r,Bool.eq_iff_iff];simp [prB,List.all_eq_true]
theorem aev {N : Nat} {Es : List Ed} (h : ke (N : Int) Es) (hE : Es.length < 4294967295) (S : List Int) (hl : S.length < 4294967295) (i : Nat) (hi : i < S.length) : ∀ n j : Nat,j + n = S.length -> aW au 0 (.loop Nt) ⟨[(1,.list 1 (ints S)),(2,.ptr 0 0),(5,.int .i64 i),(6,.int .i64 j)],sM N Es⟩ =
  if prB Es S[i] (S.drop j) = true then some (.exit 2,⟨[(1,.list 1 (ints S)),(2,.ptr 0 0),(5,.int .i64 i),(6,.int .i64 S.length),(28,.bool false)],sM N Es⟩) else some (.ret,⟨[(4,.bool false)],[]⟩)
 | 0,j,hj => by
   obtain rfl : j = S.length := by omega
   rw [bU,if_pos (show prB Es S[i] [] = true from rfl)];exact bw (by unfold Nt sM; simp [xb,w9,w8,w7,w6,wZ,wY,wX,wW,wV,q5,qZ,aN,aq,aM,bp,bV,an,ak,aj,af,aE,aL,bu,bq])
 | n + 1,j,hj => by
   have bL : j < S.length := by omega
   have h1 : (j : Int) < S.length := by omega
   have h0 : (i : Int) < S.length := by omega
   have hw := eT (i := j) (by omega);have ih := aev h hE S hl i hi n (j + 1) (by omega);have hx := kQ (k := .i64) (i := (j : Int)) (n := S.length) (by omega) h1;have hy := kQ (k := .i64) (i := (i : Int)) (n := S.length) (by omega) h0;obtain ⟨r,f1,f2,f3⟩ := UB h hE S[i] S[j];rw [bk bL];have e : prB Es S[i] (S[j] :: S.drop (j + 1)) = (decide (oO S[i] S[j] ∈ Es) && prB Es S[i] (S.drop (j + 1))) := rfl;rw [e];by_cases d : oO S[i] S[j] ∈ Es
   ·have f2 := f2 d;rw [decide_eq_true d,eh];refine (aY ?_).trans ih;clear ih f3 e;unfold Nt sM;simp [xb,w9,w8,w7,w6,wZ,wY,wX,wW,wV,q5,qZ,h1,bL,hi,h0,hx,hy,hw,f1,f2,sQ8,iQ8,lQ8,ak,aN,aq,aM,bp,bV,an,ak,aj,af,aE,aL,bu,bq]
   ·have f3 := f3 d;rw [if_neg (by simp [d])];clear ih f2 e;exact dK (by unfold Nt sM; simp [xb,w9,w8,w7,w6,wZ,wY,wX,wW,wV,q5,qZ,h1,bL,hi,h0,hx,hy,hw,f1,f3,sQ8,iQ8,lQ8,ak,aN,aq,aM,bp,bV,an,ak,aj,af,aE,aL,bu,bq])
theorem Za {N : Nat} {Es : List Ed} (h : ke (N : Int) Es) (hE : Es.length < 4294967295) (S : List Int) (hl : S.length < 4294967295) : ∀ n i : Nat,i + n = S.length -> aW au 0 (.loop Ns) ⟨[(1,.list 1 (ints S)),(2,.ptr 0 0),(5,.int .i64 i)],sM N Es⟩ =
  if MA Es (S.drop i) = true then some (.exit 0,⟨[(1,.list 1 (ints S)),(2,.ptr 0 0),(5,.int .i64 S.length),(20,.bool false)],sM N Es⟩) else some (.ret,⟨[(4,.bool false)],[]⟩)
 | 0,i,hi => by
   obtain rfl : i = S.length := by omega
   rw [bU,if_pos (show MA Es [] = true from rfl)];exact bw (by unfold Ns sM; simp [xb,w9,w8,w7,w6,wZ,wY,wX,wW,wV,q5,qZ,aN,aq,aM,bp,bV,an,ak,aj,af,aE,aL,bu,bq])
 | n + 1,i,hi => by
   have bL : i < S.length := by omega
   have h1 : (i : Int) < S.length := by omega
   have hw := eT (i := i) (by omega);have ih := Za h hE S hl n (i + 1) (by omega);have q := aev h hE S hl i bL (S.length - (i + 1)) (i + 1) (by omega);rw [bk bL];have e : MA Es (S[i] :: S.drop (i + 1)) = (prB Es S[i] (S.drop (i + 1)) && MA Es (S.drop (i + 1))) := rfl;rw [e];unfold sM at q ih ⊢;rw [show ((i + 1 : Nat) : Int) = (i : Int) + 1 by omega] at q;cases f : prB Es S[i] (S.drop (i + 1)) with
   | true =>
     rw [f,if_pos rfl] at q;rw [eh];refine (aY ?_).trans ih;clear ih e;unfold Ns;simp [xb,w9,w8,w7,w6,wZ,wY,wX,wW,wV,q5,qZ,h1,bL,hw,q,aN,aq,aM,bp,bV,an,ak,aj,af,aE,aL,bu,bq]
   | false =>
     rw [f,if_neg (by decide)] at q;rw [fh,if_neg (by decide)];clear ih e;exact dK (by unfold Ns; simp [xb,w9,w8,w7,w6,wZ,wY,wX,wW,wV,q5,qZ,h1,bL,hw,q,aN,aq,aM,bp,bV,an,ak,aj,af,aE,aL,bu,bq])
def isR (N : Nat) (Es : List Ed) (S : List Int) : Bool := mf (N : Int) (-1) S && decide (S.Pairwise fun a b => oO a b ∈ Es)
theorem aaP {N : Nat} {Es : List Ed} (h : ke (N : Int) Es) (hE : Es.length < 4294967295) (S : List Int) (hl : S.length < 4294967295) : br au nQH [.agg [.int .i64 N,.list 2 (dO Es)],.list 1 (ints S)] [] = some (.bool (isR N Es S),[]) := by
 rw [aV oQH sQH (aD rfl)];have c1 := yM (N : Int) Es (by omega);rw [iw.2 h] at c1;have v := Vn (N : Int) S (by omega);have l := Za h hE S hl S.length 0 (by omega);rw [fY,cS,Tl] at l;unfold sM at l;unfold isR;cases f : mf (N : Int) (-1) S with
 | false =>
   rw [f] at v;rw [fh];unfold qQH cQH;simp [xb,w9,w8,w7,w6,wZ,wY,wX,wW,wV,q5,qZ,c1,v,sQ2,iQ2,lQ2,sQ7,iQ7,lQ7,ak,aj,aN,aq,aM,bp,bV,an,ak,aj,af,aE,aL,bu,bq]
 | true =>
   rw [f] at v;rw [eh];cases g : decide (S.Pairwise fun a b => oO a b ∈ Es) with
   | true =>
     rw [g,if_pos rfl] at l;unfold qQH cQH;simp [xb,w9,w8,w7,w6,wZ,wY,wX,wW,wV,q5,qZ,c1,v,l,sQ2,iQ2,lQ2,sQ7,iQ7,lQ7,ak,aj,aN,aq,aM,bp,bV,an,ak,aj,af,aE,aL,bu,bq]
   | false =>
     rw [g,if_neg (by decide)] at l;unfold qQH cQH;simp [xb,w9,w8,w7,w6,wZ,wY,wX,wW,wV,q5,qZ,c1,v,l,sQ2,iQ2,lQ2,sQ7,iQ7,lQ7,ak,aj,aN,aq,aM,bp,bV,an,ak,aj,af,aE,aL,bu,bq]
/-! Maximal -/
theorem TV {N : Nat} {Es : List Ed} (h : ke (N : Int) Es) (hE : Es.length < 4294967295) (S : List Int) (hl : S.length < 4294967295) : ∀ n i : Nat,i + n = N -> aW au 0 (.loop Nj) ⟨[(1,.list 1 (ints S)),(2,.ptr 0 0),(5,.int .i64 i)],sM N Es⟩ =
  if ((List.range' i n).all fun v => !uj Es S v) = true then some (.exit 0,⟨[(1,.list 1 (ints S)),(2,.ptr 0 0),(5,.int .i64 N),(18,.bool false)],sM N Es⟩) else some (.ret,⟨[(4,.bool false)],[]⟩)
 | 0,i,hi => by
   obtain rfl : i = N := by omega
   rw [show List.range' i 0 = [] from rfl,List.all_nil,if_pos rfl];exact bw (by unfold Nj sM; simp [BC,BB,BA,Bz,Bw,Bv,Bu,Bt,Bs,aN,aq,aM,bp,bV,an,ak,aj,af,aE,aL,bu,bq])
 | n + 1,i,hi => by
   have h1 : (i : Int) < N := by omega
   have bL : i < N := by omega
   have hn := sa h;have hw := eT (i := i) (by omega);have ih := TV h hE S hl n (i + 1) (by omega);have q := ZN h hE S hl i;rw [List.range'_succ,List.all_cons];cases f : uj Es S i with
   | false =>
     rw [f] at q;rw [Bool.not_false,eh];refine (aY ?_).trans ih;clear ih;unfold Nj sM;simp [BC,BB,BA,Bz,Bw,Bv,Bu,Bt,Bs,h1,bL,hw,q,sQI,iQI,lQI,ak,aj,aN,aq,aM,bp,bV,an,ak,aj,af,aE,aL,bu,bq]
   | true =>
     rw [f] at q;rw [Bool.not_true,fh,if_neg (by decide)];clear ih;exact dK (by unfold Nj sM; simp [BC,BB,BA,Bz,Bw,Bv,Bu,Bt,Bs,h1,bL,hw,q,sQI,iQI,lQI,ak,aj,aN,aq,aM,bp,bV,an,ak,aj,af,aE,aL,bu,bq])
theorem XA {N : Nat} {Es : List Ed} (h : ke (N : Int) Es) (hE : Es.length < 4294967295) (S : List Int) (hl : S.length < 4294967295) : br au nQm [.agg [.int .i64 N,.list 2 (dO Es)],.list 1 (ints S)] [] = some (.bool (mxR N Es S),[]) := by
 rw [aV oQm sQm (aD rfl)];have i := aaP h hE S hl;have l := TV h hE S hl N 0 (by omega);rw [fY,<- List.range_eq_range'] at l;unfold sM at l;have e : mxR N Es S = (isR N Es S && (!decide (S = []) && (cH N).all fun v => !uj Es S v)) := rfl;rw [e];cases f : isR N Es S with
 | false =>
   rw [f] at i;rw [fh];unfold qQm cQm;simp [BC,BB,BA,Bz,Bw,Bv,Bu,Bt,Bs,i,sQH,iQH,lQH,ak,aj,aN,aq,aM,bp,bV,an,ak,aj,af,aE,aL,bu,bq]
 | true =>
   rw [f] at i;rw [eh];by_cases k0 : S = []
   ·subst k0;rw [cV] at i ⊢;unfold qQm cQm;simp [BC,BB,BA,Bz,Bw,Bv,Bu,Bt,Bs,i,sQH,iQH,lQH,ak,fU,aN,aq,aM,bp,bV,an,ak,aj,af,aE,aL,bu,bq]
   have l1 : ¬ S.length = 0 := fun e => k0 (List.length_eq_zero_iff.1 e);rw [decide_eq_false k0,Bool.not_false,eh];cases g : (cH N).all fun v => !uj Es S v with
   | true =>
     rw [g,if_pos rfl] at l;unfold qQm cQm;simp [BC,BB,BA,Bz,Bw,Bv,Bu,Bt,Bs,i,k0,l1,l,sQH,iQH,lQH,ak,aj,aN,aq,aM,bp,bV,an,ak,aj,af,aE,aL,bu,bq]
   | false =>
     rw [g,if_neg (by decide)] at l;unfold qQm cQm;simp [BC,BB,BA,Bz,Bw,Bv,Bu,Bt,Bs,i,k0,l1,l,sQH,iQH,lQH,ak,aj,aN,aq,aM,bp,bV,an,ak,aj,af,aE,aL,bu,bq]
end Go.BmP
