/- What functions of cohesionref03 return: Before, edge, ends, with, Of, Check. -/
import Derived.Test.YtppmiehidnpgbaaGreatDoorUseM
import Derived.Test.YtppmiehidnpgbaaGreatDoorCfS
import Derived.Test.YtppmiehidnpgbaaGreatDoorGrfP
import Derived.Test.YtppmiehidnpgbaaGreatDoorR02d
set_option linter.unusedSimpArgs false
set_option linter.unusedVariables false
set_option maxRecDepth 100000
set_option maxHeartbeats 4000000
open List renaming drop_eq_getElem_cons → bk, drop_length → bU, drop_zero → cS
open Nat renaming le_of_ble_eq_true → aD
namespace Go.BmP
open Go.Am Go.Bm
theorem QU (a b : Ed) : br au MW [.agg [.int .i64 a.1,.int .i64 a.2],.agg [.int .i64 b.1,.int .i64 b.2]] [] = some (.bool (decide (FU a b)),[]) := by
 rw [aV oQa1 sQa1 (aD rfl)];unfold qQa1 cQa1 FU;by_cases h1 : a.1 < b.1
 ·simp [En,Em,h1,aN,aq,aM,bp,bV,an,ak,aj,af,aE,aL,bu,bq]
 ·by_cases h2 : a.1 = b.1
  ·by_cases h3 : a.2 < b.2
   ·simp [En,Em,h1,h2,h3,aN,aq,aM,bp,bV,an,ak,aj,af,aE,aL,bu,bq]
   ·simp [En,Em,h1,h2,h3,aN,aq,aM,bp,bV,an,ak,aj,af,aE,aL,bu,bq]
  ·simp [En,Em,h1,h2,aN,aq,aM,bp,bV,an,ak,aj,af,aE,aL,bu,bq]
theorem ZW (u v : Int) : br au nQQ [.int .i64 u,.int .i64 v] [] = some (.agg [.int .i64 (oO u v).1,.int .i64 (oO u v).2],[]) := by
 rw [aV oQQ sQQ (aD rfl)];unfold qQQ cQQ oO;simp [ad4,ad3,aN,aq,aM,bp,bV,an,ak,aj,af,aE,aL,bu,bq]
/- What graph.Check and what it calls returns. -/
theorem afU (a b : Int) : br au P4 [.list 1 [.int .i64 a,.int .i64 b]] [] = some (.int .i64 (if a = 0 then b else a),[]) := by
 rw [aV oQa2 sQa2 (aD rfl)];have t2 : IntKind.i64.wrap 2 = 2 := by decide
 have l3 : aW au 0 (.loop sX) ⟨[(3,.int .i64 0),(6,.list 1 [.int .i64 a,.int .i64 b]),(7,.int .i64 2),(8,.int .i64 2)],[]⟩ = some (.exit 0,⟨[(3,.int .i64 0),(6,.list 1 [.int .i64 a,.int .i64 b]),(7,.int .i64 2),(8,.int .i64 2),(9,.bool false)],[]⟩) :=
  bw (by unfold sX; simp [pZ,pY,pX,pT,pS,pQ,pP,pN,pK,aN,aq,aM,bp,bV,an,ak,aj,af,aE,aL,bu,bq])
 have l2 : aW au 0 (.loop sX) ⟨[(3,.int .i64 0),(6,.list 1 [.int .i64 a,.int .i64 b]),(7,.int .i64 2),(8,.int .i64 1)],[]⟩ = if b = 0 then some (.exit 0,⟨[(3,.int .i64 0),(6,.list 1 [.int .i64 a,.int .i64 b]),(7,.int .i64 2),(8,.int .i64 2),(9,.bool false)],[]⟩) else some (.ret,⟨[(2,.int .i64 b)],[]⟩) := by
  by_cases hb : b = 0
  ·subst hb;rw [if_pos rfl];exact (aY (by unfold sX; simp [pZ,pY,pX,pT,pS,pQ,pP,pN,pK,idx,t2,aN,aq,aM,bp,bV,an,ak,aj,af,aE,aL,bu,bq])).trans l3
  ·rw [if_neg hb];exact dK (by unfold sX; simp [pZ,pY,pX,pT,pS,pQ,pP,pN,pK,hb,idx,aN,aq,aM,bp,bV,an,ak,aj,af,aE,aL,bu,bq])
 have l1 : aW au 0 (.loop sX) ⟨[(3,.int .i64 0),(6,.list 1 [.int .i64 a,.int .i64 b]),(7,.int .i64 2),(8,.int .i64 0)],[]⟩ = if a = 0 then (if b = 0 then some (.exit 0,⟨[(3,.int .i64 0),(6,.list 1 [.int .i64 a,.int .i64 b]),(7,.int .i64 2),(8,.int .i64 2),(9,.bool false)],[]⟩) else some (.ret,⟨[(2,.int .i64 b)],[]⟩)) else some (.ret,⟨[(2,.int .i64 a)],[]⟩) := by
  by_cases ha : a = 0
  ·subst ha;rw [if_pos rfl];exact (aY (by unfold sX; simp [pZ,pY,pX,pT,pS,pQ,pP,pN,pK,idx,aN,aq,aM,bp,bV,an,ak,aj,af,aE,aL,bu,bq])).trans l2
  ·rw [if_neg ha];exact dK (by unfold sX; simp [pZ,pY,pX,pT,pS,pQ,pP,pN,pK,ha,idx,aN,aq,aM,bp,bV,an,ak,aj,af,aE,aL,bu,bq])
 clear l2 l3;unfold qQa2 cQa2;by_cases ha : a = 0
 ·subst ha;rw [if_pos rfl] at l1;by_cases hb : b = 0
  ·subst hb;rw [if_pos rfl] at l1;simp [pZ,pY,pX,pT,pS,pQ,pP,pN,pK,l1,aN,aq,aM,bp,bV,an,ak,aj,af,aE,aL,bu,bq]
  ·rw [if_neg hb] at l1;simp [pZ,pY,pX,pT,pS,pQ,pP,pN,pK,l1,hb,aN,aq,aM,bp,bV,an,ak,aj,af,aE,aL,bu,bq]
 ·rw [if_neg ha] at l1;simp [pZ,pY,pX,pT,pS,pQ,pP,pN,pK,l1,ha,aN,aq,aM,bp,bV,an,ak,aj,af,aE,aL,bu,bq]
def Yj (a b : Ed) : Int := if Ou a.1 b.1 = 0 then Ou a.2 b.2 else Ou a.1 b.1
theorem Tt (a b : Ed) : 0 <= Yj a b ↔ ¬ FU a b := by
 unfold Yj Ou FU;by_cases h1 : a.1 < b.1
 ·simp [h1]
 ·by_cases h2 : b.1 < a.1
  ·have : ¬ a.1 = b.1 := by omega
   simp [h1,h2,this]
  ·have : a.1 = b.1 := by omega
   simp only [h1,h2,this,if_false,if_true,true_and,false_or];by_cases h3 : a.2 < b.2
   ·simp [h3]
   ·by_cases h4 : b.2 < a.2 <;> simp [h3,h4]
theorem VE (a b : Ed) : br au nQS [.agg [.int .i64 a.1,.int .i64 a.2],.agg [.int .i64 b.1,.int .i64 b.2]] [] = some (.int .i64 (Yj a b),[]) := by
 rw [aV oQS sQS (aD rfl)];have c1 := Ot a.1 b.1;have c2 := Ot a.2 b.2;have c3 := afU (Ou a.1 b.1) (Ou a.2 b.2);unfold qQS cQS Yj;simp [adY,adX,c1,c2,c3,sQa3,iQa3,lQa3,sQa2,iQa2,lQa2,aN,aq,aM,bp,bV,an,ak,aj,af,aE,aL,bu,bq]
def lF (l : List Ed) (i : Nat) : Option Ed := if i = 0 then none else l[i - 1]?
theorem sR (l : List Ed) : lF l 0 = none := rfl
theorem mC (l : List Ed) (i : Nat) (h : i < l.length) : lF l (i + 1) = some l[i] := by simp [lF,h]
theorem Jl (m : Int) (l : List Ed) (hl : l.length < 4294967297) : ∀ n i : Nat,i + n = l.length -> aW au 0 (.loop zF) ⟨[(1,.ptr 0 0),(14,.list 2 (dO l)),(15,.int .i64 l.length),(16,.int .i64 i)],[some [.int .i64 m,.list 2 (dO l)]]⟩ =
  if fj m (lF l i) (l.drop i) = 0 then some (.exit 0,⟨[(1,.ptr 0 0),(14,.list 2 (dO l)),(15,.int .i64 l.length),(16,.int .i64 l.length),(17,.bool false)],[some [.int .i64 m,.list 2 (dO l)]]⟩) else some (.ret,⟨[(2,.int .i64 (fj m (lF l i) (l.drop i)))],[]⟩)
 | 0,i,hi => by
   have e : i = l.length := by omega
   subst e;rw [bU];exact bw (by unfold zF; simp [tA,tx,tw,tv,tu,tt,tr,tq,tp,tn,n7,nZ,aN,aq,aM,bp,bV,an,ak,aj,af,aE,aL,bu,bq])
 | n + 1,i,hi => by
   have bL : i < l.length := by omega
   have h1 : (i : Int) < l.length := by omega
   have ih := Jl m l hl n (i + 1) (by omega);have hw := eT (i := i) (by omega);rw [mC l i bL] at ih;rw [bk bL];by_cases ha : l[i].1 < 0
   ·have e : fj m (lF l i) (l[i] :: l.drop (i + 1)) = 6 := by unfold fj; rw [if_pos (.inl ha)]
    rw [e];exact dK (by unfold zF; simp [tA,tx,tw,tv,tu,tt,tr,tq,tp,tn,n7,nZ,h1,bL,ha,idx,aN,aq,aM,bp,bV,an,ak,aj,af,aE,aL,bu,bq])
   by_cases hb : l[i].2 <= l[i].1
   ·have e : fj m (lF l i) (l[i] :: l.drop (i + 1)) = 6 := by unfold fj; rw [if_pos (.inr (.inl hb))]
    rw [e];exact dK (by unfold zF; simp [tA,tx,tw,tv,tu,tt,tr,tq,tp,tn,n7,nZ,h1,bL,ha,hb,idx,aN,aq,aM,bp,bV,an,ak,aj,af,aE,aL,bu,bq])
   by_cases hc : m <= l[i].2
   ·have e : fj m (lF l i) (l[i] :: l.drop (i + 1)) = 6 := by unfold fj; rw [if_pos (.inr (.inr hc))]
    rw [e];exact dK (by unfold zF; simp [tA,tx,tw,tv,tu,tt,tr,tq,tp,tn,n7,nZ,h1,bL,ha,hb,hc,idx,aN,aq,aM,bp,bV,an,ak,aj,af,aE,aL,bu,bq])
   have hn : ¬ (l[i].1 < 0 \/ l[i].2 <= l[i].1 \/ m <= l[i].2) := by omega
   cases i with
   | zero =>
     have e : fj m (lF l 0) (l[0] :: l.drop (0 + 1)) = fj m (some l[0]) (l.drop (0 + 1)) := by
      conv => lhs; unfold fj
      rw [if_neg hn,sR,if_neg (show ¬ GS none l[0] from fun h => h)]
     rw [e];exact (aY (by unfold zF; simp [tA,tx,tw,tv,tu,tt,tr,tq,tp,tn,n7,nZ,h1,bL,ha,hb,hc,hw,idx,aN,aq,aM,bp,bV,an,ak,aj,af,aE,aL,bu,bq])).trans ih
   | succ j =>
     have hj : j < l.length := by omega
     have Qk : (j : Int) < l.length := by omega
     have hp : (0 : Int) < (j : Int) + 1 := by omega
     have C4 : (0 : Int) <= (j : Int) + 1 := by omega
     have V5 := ur (i := j) (by omega);have h1 : (j : Int) + 1 < l.length := by omega
     have hw : IntKind.i64.wrap ((j : Int) + 1 + 1) = (j : Int) + 1 + 1 := HO (j := j + 1 + 1) rfl (by omega);have ho := VE l[j] l[j + 1];by_cases hd : 0 <= Yj l[j] l[j + 1]
     ·have e : fj m (lF l (j + 1)) (l[j + 1] :: l.drop (j + 1 + 1)) = 5 := by
       unfold fj;rw [if_neg hn,mC l j hj,if_pos (show GS (some l[j]) l[j + 1] from (Tt _ _).1 hd)]
      rw [e];exact dK (by unfold zF; simp [tA,tx,tw,tv,tu,tt,tr,tq,tp,tn,n7,nZ,h1,bL,ha,hb,hc,hj,Qk,hp,C4,V5,ho,hd,idx,sQS,iQS,lQS,aN,aq,aM,bp,bV,an,ak,aj,af,aE,aL,bu,bq])
     ·have hlt' : FU l[j] l[j + 1] := by
       apply Decidable.not_not.1;exact fun k => hd ((Tt _ _).2 k)
      have e : fj m (lF l (j + 1)) (l[j + 1] :: l.drop (j + 1 + 1)) = fj m (some l[j + 1]) (l.drop (j + 1 + 1)) := by
       conv => lhs; unfold fj
       rw [if_neg hn,mC l j hj,if_neg (show ¬ GS (some l[j]) l[j + 1] from fun k => k hlt')]
      rw [e];exact (aY (by unfold zF; simp [tA,tx,tw,tv,tu,tt,tr,tq,tp,tn,n7,nZ,h1,bL,ha,hb,hc,hj,Qk,hp,C4,hw,V5,ho,hd,idx,sQS,iQS,lQS,aN,aq,aM,bp,bV,an,ak,aj,af,aE,aL,bu,bq])).trans ih
theorem nJ (m : Int) (l : List Ed) (hl : l.length < 4294967297) : br au TQ [.agg [.int .i64 m,.list 2 (dO l)]] [] = some (.int .i64 (Wx m l),[]) := by
 rw [aV oQs sQs (aD rfl)];have h := Jl m l hl l.length 0 (by omega);rw [fY,cS,sR] at h;unfold qQs cQs Wx;by_cases ha : m < 0
 ·simp [tA,tx,tw,tv,tu,tt,tr,tq,tp,tn,n7,nZ,ha,aN,aq,aM,bp,bV,an,ak,aj,af,aE,aL,bu,bq]
 by_cases hb : 64 < m
 ·simp [tA,tx,tw,tv,tu,tt,tr,tq,tp,tn,n7,nZ,ha,hb,aN,aq,aM,bp,bV,an,ak,aj,af,aE,aL,bu,bq]
 rw [if_neg (by omega)];by_cases hc : fj m none l = 0
 ·rw [if_pos hc] at h;rw [hc];simp [tA,tx,tw,tv,tu,tt,tr,tq,tp,tn,n7,nZ,ha,hb,h,aN,aq,aM,bp,bV,an,ak,aj,af,aE,aL,bu,bq]
 ·rw [if_neg hc] at h;simp [tA,tx,tw,tv,tu,tt,tr,tq,tp,tn,n7,nZ,ha,hb,h,aN,aq,aM,bp,bV,an,ak,aj,af,aE,aL,bu,bq]
/- What functions of cohesionref03 return: Of, Check, Find. -/
def ofSt (n : Int) (l : List Ed) (E : AV) (i : Int) : St := ⟨[(0,.int .i64 n),(4,.ptr 0 0),(6,.ptr 1 0),(18,.list 2 (dO l)),(19,.int .i64 l.length),(20,.int .i64 i)],[some [.int .i64 0,.own 2 []],some [.int .i64 n,E]]⟩
def ai4 (n : Int) (l : List Ed) (E : AV) : St := ⟨[(0,.int .i64 n),(4,.ptr 0 0),(6,.ptr 1 0),(18,.list 2 (dO l)),(19,.int .i64 l.length),(20,.int .i64 l.length),(21,.bool false)],[some [.int .i64 0,.own 2 []],some [.int .i64 n,E]]⟩
theorem H7 (m : Int) (l : List Ed) (hl : l.length < 4294967297) : ∀ n i : Nat,i + n = l.length -> aW au 0 (.loop zG) ⟨[(1,.ptr 0 0),(14,.list 2 (dO l)),(15,.int .i64 l.length),(16,.int .i64 i)],[some [.int .i64 m,.list 2 (dO l)]]⟩ =
  if fj m (lF l i) (l.drop i) = 0 then some (.exit 0,⟨[(1,.ptr 0 0),(14,.list 2 (dO l)),(15,.int .i64 l.length),(16,.int .i64 l.length),(17,.bool false)],[some [.int .i64 m,.list 2 (dO l)]]⟩) else some (.ret,⟨[(2,.int .i64 (fj m (lF l i) (l.drop i)))],[]⟩)
 | 0,i,hi => by
   have e : i = l.length := by omega
   subst e;rw [bU];exact bw (by unfold zG; simp [tW,tV,tU,tS,tR,tQ,tP,tN,tM,tL,oN,oM,aN,aq,aM,bp,bV,an,ak,aj,af,aE,aL,bu,bq])
 | n + 1,i,hi => by
   have bL : i < l.length := by omega
   have h1 : (i : Int) < l.length := by omega
   have ih := H7 m l hl n (i + 1) (by omega);have hw := eT (i := i) (by omega);rw [mC l i bL] at ih;rw [bk bL];by_cases ha : l[i].1 < 0
   ·have e : fj m (lF l i) (l[i] :: l.drop (i + 1)) = 6 := by unfold fj; rw [if_pos (.inl ha)]
    rw [e];exact dK (by unfold zG; simp [tW,tV,tU,tS,tR,tQ,tP,tN,tM,tL,oN,oM,h1,bL,ha,idx,aN,aq,aM,bp,bV,an,ak,aj,af,aE,aL,bu,bq])
   by_cases hb : l[i].2 <= l[i].1
   ·have e : fj m (lF l i) (l[i] :: l.drop (i + 1)) = 6 := by unfold fj; rw [if_pos (.inr (.inl hb))]
    rw [e];exact dK (by unfold zG; simp [tW,tV,tU,tS,tR,tQ,tP,tN,tM,tL,oN,oM,h1,bL,ha,hb,idx,aN,aq,aM,bp,bV,an,ak,aj,af,aE,aL,bu,bq])
   by_cases hc : m <= l[i].2
   ·have e : fj m (lF l i) (l[i] :: l.drop (i + 1)) = 6 := by unfold fj; rw [if_pos (.inr (.inr hc))]
    rw [e];exact dK (by unfold zG; simp [tW,tV,tU,tS,tR,tQ,tP,tN,tM,tL,oN,oM,h1,bL,ha,hb,hc,idx,aN,aq,aM,bp,bV,an,ak,aj,af,aE,aL,bu,bq])
   have hn : ¬ (l[i].1 < 0 \/ l[i].2 <= l[i].1 \/ m <= l[i].2) := by omega
   cases i with
   | zero =>
     have e : fj m (lF l 0) (l[0] :: l.drop (0 + 1)) = fj m (some l[0]) (l.drop (0 + 1)) := by
      conv => lhs; unfold fj
      rw [if_neg hn,sR,if_neg (show ¬ GS none l[0] from fun h => h)]
     rw [e];exact (aY (by unfold zG; simp [tW,tV,tU,tS,tR,tQ,tP,tN,tM,tL,oN,oM,h1,bL,ha,hb,hc,hw,idx,aN,aq,aM,bp,bV,an,ak,aj,af,aE,aL,bu,bq])).trans ih
   | succ j =>
     have hj : j < l.length := by omega
     have Qk : (j : Int) < l.length := by omega
     have hp : (0 : Int) < (j : Int) + 1 := by omega
     have C4 : (0 : Int) <= (j : Int) + 1 := by omega
     have V5 := ur (i := j) (by omega);have h1 : (j : Int) + 1 < l.length := by omega
     have hw : IntKind.i64.wrap ((j : Int) + 1 + 1) = (j : Int) + 1 + 1 := HO (j := j + 1 + 1) rfl (by omega);have ho := QU l[j] l[j + 1];by_cases hd : FU l[j] l[j + 1]
     ·have e : fj m (lF l (j + 1)) (l[j + 1] :: l.drop (j + 1 + 1)) = fj m (some l[j + 1]) (l.drop (j + 1 + 1)) := by
       conv => lhs; unfold fj
       rw [if_neg hn,mC l j hj,if_neg (show ¬ GS (some l[j]) l[j + 1] from fun k => k hd)]
      rw [e];exact (aY (by unfold zG; simp [tW,tV,tU,tS,tR,tQ,tP,tN,tM,tL,oN,oM,h1,bL,ha,hb,hc,hj,Qk,hp,C4,hw,V5,ho,hd,idx,sQa1,iQa1,lQa1,aN,aq,aM,bp,bV,an,ak,aj,af,aE,aL,bu,bq])).trans ih
     ·have e : fj m (lF l (j + 1)) (l[j + 1] :: l.drop (j + 1 + 1)) = 5 := by
       unfold fj;rw [if_neg hn,mC l j hj,if_pos (show GS (some l[j]) l[j + 1] from hd)]
      rw [e];exact dK (by unfold zG; simp [tW,tV,tU,tS,tR,tQ,tP,tN,tM,tL,oN,oM,h1,bL,ha,hb,hc,hj,Qk,hp,C4,V5,ho,hd,idx,sQa1,iQa1,lQa1,aN,aq,aM,bp,bV,an,ak,aj,af,aE,aL,bu,bq])
theorem yM (m : Int) (l : List Ed) (hl : l.length < 4294967297) : br au nQ2 [.agg [.int .i64 m,.list 2 (dO l)]] [] = some (.int .i64 (Wx m l),[]) := by
 rw [aV oQ2 sQ2 (aD rfl)];have h := H7 m l hl l.length 0 (by omega);rw [fY,cS,sR] at h;unfold qQ2 cQ2 Wx;by_cases ha : m < 0
 ·simp [tW,tV,tU,tS,tR,tQ,tP,tN,tM,tL,oN,oM,ha,aN,aq,aM,bp,bV,an,ak,aj,af,aE,aL,bu,bq]
 by_cases hb : 64 < m
 ·simp [tW,tV,tU,tS,tR,tQ,tP,tN,tM,tL,oN,oM,ha,hb,aN,aq,aM,bp,bV,an,ak,aj,af,aE,aL,bu,bq]
 rw [if_neg (by omega)];by_cases hc : fj m none l = 0
 ·rw [if_pos hc] at h;rw [hc];simp [tW,tV,tU,tS,tR,tQ,tP,tN,tM,tL,oN,oM,ha,hb,h,aN,aq,aM,bp,bV,an,ak,aj,af,aE,aL,bu,bq]
 ·rw [if_neg hc] at h;simp [tW,tV,tU,tS,tR,tQ,tP,tN,tM,tL,oN,oM,ha,hb,h,aN,aq,aM,bp,bV,an,ak,aj,af,aE,aL,bu,bq]
theorem Jt (x : Ed) (u v : Int) (hx : oO u v = x) (l : List Ed) (hl : l.length < 4294967297) : ∀ n i : Nat,i + n = l.length -> aW au 0 (.loop I7) ⟨[(1,.int .i64 u),(2,.int .i64 v),(13,.list 2 (dO l)),(14,.int .i64 l.length),(15,.int .i64 i)],[]⟩ =
  if x ∈ l.drop i then some (.ret,⟨[(6,.int .i64 (i + (l.drop i).idxOf x : Nat))],[]⟩) else some (.exit 0,⟨[(1,.int .i64 u),(2,.int .i64 v),(13,.list 2 (dO l)),(14,.int .i64 l.length),(15,.int .i64 l.length),(16,.bool false)],[]⟩)
 | 0,i,hi => by
   have e : i = l.length := by omega
   subst e;rw [bU,if_neg (by simp)];exact bw (by unfold I7; simp [Ff,Fe,Fc,Fb,Fa,E9,E8,E7,E6,E5,aN,aq,aM,bp,bV,an,ak,aj,af,aE,aL,bu,bq])
 | n + 1,i,hi => by
   have bL : i < l.length := by omega
   have h1 : (i : Int) < l.length := by omega
   have ih := Jt x u v hx l hl n (i + 1) (by omega);have hw := eT (i := i) (by omega);have hg := ZW u v;rw [hx] at hg;rw [bk bL];by_cases he : l[i] = x
   ·have W7 : l[i].1 = x.1 := by rw [he]
    have hx2 : l[i].2 = x.2 := by rw [he]
    rw [if_pos (by rw [he]; exact List.mem_cons_self),show (l[i] :: l.drop (i + 1)).idxOf x = 0 by rw [he]; exact List.idxOf_cons_self];exact dK (by unfold I7; simp [Ff,Fe,Fc,Fb,Fa,E9,E8,E7,E6,E5,h1,bL,hg,W7,hx2,idx,sQQ,iQQ,lQQ,aN,aq,aM,bp,bV,an,ak,aj,af,aE,aL,bu,bq])
   ·have he2 : ¬ x = l[i] := fun e => he e.symm;rw [show (l[i] :: l.drop (i + 1)).idxOf x = (l.drop (i + 1)).idxOf x + 1 by simp only [List.idxOf_cons]; rw [show (l[i] == x) = false by simpa using he]; rfl,show i + ((l.drop (i + 1)).idxOf x + 1) = i + 1 + (l.drop (i + 1)).idxOf x by omega];simp only [List.mem_cons,he2,false_or];by_cases W7 : l[i].1 = x.1
    ·have hx2 : ¬ l[i].2 = x.2 := fun e => he (Prod.ext W7 e);exact (aY (by unfold I7; simp [Ff,Fe,Fc,Fb,Fa,E9,E8,E7,E6,E5,h1,bL,hg,W7,hx2,hw,idx,sQQ,iQQ,lQQ,aN,aq,aM,bp,bV,an,ak,aj,af,aE,aL,bu,bq])).trans ih
    ·exact (aY (by unfold I7; simp [Ff,Fe,Fc,Fb,Fa,E9,E8,E7,E6,E5,h1,bL,hg,W7,hw,idx,sQQ,iQQ,lQQ,aN,aq,aM,bp,bV,an,ak,aj,af,aE,aL,bu,bq])).trans ih
theorem ZO (m : Int) (l : List Ed) (hl : l.length < 4294967297) (hG : ke m l) (u v : Int) : br au nQ8 [.agg [.int .i64 m,.list 2 (dO l)],.int .i64 u,.int .i64 v] [] = some (.int .i64 (if oO u v ∈ l then (l.idxOf (oO u v) : Int) else -1),[]) := by
 rw [aV oQ8 sQ8 (aD rfl)];have hc := yM m l hl;rw [iw.2 hG] at hc;have h := Jt (oO u v) u v rfl l hl l.length 0 (by omega);rw [fY,cS,Nat.zero_add] at h;unfold qQ8 cQ8;by_cases hx : oO u v ∈ l
 ·rw [if_pos hx] at h;simp [Ff,Fe,Fc,Fb,Fa,E9,E8,E7,E6,E5,h,hc,hx,sQ2,iQ2,lQ2,aN,aq,aM,bp,bV,an,ak,aj,af,aE,aL,bu,bq]
 ·rw [if_neg hx] at h;simp [Ff,Fe,Fc,Fb,Fa,E9,E8,E7,E6,E5,h,hc,hx,sQ2,iQ2,lQ2,aN,aq,aM,bp,bV,an,ak,aj,af,aE,aL,bu,bq]
end Go.BmP
