/- What functions of cohesionref03 return: Before, edge, ends, with, Of, Check. -/
import Derived.Test.YtmoginoicilobaaGreatDoorUseM
import Derived.Test.YtmoginoicilobaaGreatDoorCfS
import Derived.Test.YtmoginoicilobaaGreatDoorGrfP
import Derived.Test.YtmoginoicilobaaGreatDoorR02d
set_option linter.unusedSimpArgs false
set_option linter.unusedVariables false
set_option maxRecDepth 100000
set_option maxHeartbeats 4000000
open List renaming drop_eq_getElem_cons → aP, drop_length → cz, drop_zero → b9
open Nat renaming le_of_ble_eq_true → ab
namespace Go.BmP
open Go.Am Go.Bm
theorem Qj (a b : Ed) : bf aj nQV [.agg [.int .i64 a.1,.int .i64 a.2],.agg [.int .i64 b.1,.int .i64 b.2]] [] = some (.bool (decide (yj a b)),[]) := by
 rw [aB oQV sQV (ab rfl)];unfold qQV cQV yj;by_cases h1 : a.1 < b.1
 ·simp [Mp,Mo,h1,aJ,au,aO,bF,cB,az,aC,aA,ae,aI,aT,aY,aV]
 ·by_cases h2 : a.1 = b.1
  ·by_cases h3 : a.2 < b.2
   ·simp [Mp,Mo,h1,h2,h3,aJ,au,aO,bF,cB,az,aC,aA,ae,aI,aT,aY,aV]
   ·simp [Mp,Mo,h1,h2,h3,aJ,au,aO,bF,cB,az,aC,aA,ae,aI,aT,aY,aV]
  ·simp [Mp,Mo,h1,h2,aJ,au,aO,bF,cB,az,aC,aA,ae,aI,aT,aY,aV]
theorem ZC (u v : Int) : bf aj nQ6 [.int .i64 u,.int .i64 v] [] = some (.agg [.int .i64 (lq u v).1,.int .i64 (lq u v).2],[]) := by
 rw [aB oQ6 sQ6 (ab rfl)];unfold qQ6 cQ6 lq;simp [ac2,ac1,aJ,au,aO,bF,cB,az,aC,aA,ae,aI,aT,aY,aV]
/- What graph.Check and what it calls returns. -/
theorem aeE (a b : Int) : bf aj nQ7 [.list 1 [.int .i64 a,.int .i64 b]] [] = some (.int .i64 (if a = 0 then b else a),[]) := by
 rw [aB oQ7 sQ7 (ab rfl)];have t2 : IntKind.i64.wrap 2 = 2 := by decide
 have l3 : bj aj 0 (.loop zP) ⟨[(3,.int .i64 0),(6,.list 1 [.int .i64 a,.int .i64 b]),(7,.int .i64 2),(8,.int .i64 2)],[]⟩ = some (.exit 0,⟨[(3,.int .i64 0),(6,.list 1 [.int .i64 a,.int .i64 b]),(7,.int .i64 2),(8,.int .i64 2),(9,.bool false)],[]⟩) :=
  bm (by unfold zP; simp [u4,uZ,uY,uX,uW,uV,uU,uT,uS,aJ,au,aO,bF,cB,az,aC,aA,ae,aI,aT,aY,aV])
 have l2 : bj aj 0 (.loop zP) ⟨[(3,.int .i64 0),(6,.list 1 [.int .i64 a,.int .i64 b]),(7,.int .i64 2),(8,.int .i64 1)],[]⟩ = if b = 0 then some (.exit 0,⟨[(3,.int .i64 0),(6,.list 1 [.int .i64 a,.int .i64 b]),(7,.int .i64 2),(8,.int .i64 2),(9,.bool false)],[]⟩) else some (.ret,⟨[(2,.int .i64 b)],[]⟩) := by
  by_cases hb : b = 0
  ·subst hb;rw [if_pos rfl];exact (aR (by unfold zP; simp [u4,uZ,uY,uX,uW,uV,uU,uT,uS,idx,t2,aJ,au,aO,bF,cB,az,aC,aA,ae,aI,aT,aY,aV])).trans l3
  ·rw [if_neg hb];exact dj (by unfold zP; simp [u4,uZ,uY,uX,uW,uV,uU,uT,uS,hb,idx,aJ,au,aO,bF,cB,az,aC,aA,ae,aI,aT,aY,aV])
 have l1 : bj aj 0 (.loop zP) ⟨[(3,.int .i64 0),(6,.list 1 [.int .i64 a,.int .i64 b]),(7,.int .i64 2),(8,.int .i64 0)],[]⟩ = if a = 0 then (if b = 0 then some (.exit 0,⟨[(3,.int .i64 0),(6,.list 1 [.int .i64 a,.int .i64 b]),(7,.int .i64 2),(8,.int .i64 2),(9,.bool false)],[]⟩) else some (.ret,⟨[(2,.int .i64 b)],[]⟩)) else some (.ret,⟨[(2,.int .i64 a)],[]⟩) := by
  by_cases ha : a = 0
  ·subst ha;rw [if_pos rfl];exact (aR (by unfold zP; simp [u4,uZ,uY,uX,uW,uV,uU,uT,uS,idx,aJ,au,aO,bF,cB,az,aC,aA,ae,aI,aT,aY,aV])).trans l2
  ·rw [if_neg ha];exact dj (by unfold zP; simp [u4,uZ,uY,uX,uW,uV,uU,uT,uS,ha,idx,aJ,au,aO,bF,cB,az,aC,aA,ae,aI,aT,aY,aV])
 clear l2 l3;unfold qQ7 cQ7;by_cases ha : a = 0
 ·subst ha;rw [if_pos rfl] at l1;by_cases hb : b = 0
  ·subst hb;rw [if_pos rfl] at l1;simp [u4,uZ,uY,uX,uW,uV,uU,uT,uS,l1,aJ,au,aO,bF,cB,az,aC,aA,ae,aI,aT,aY,aV]
  ·rw [if_neg hb] at l1;simp [u4,uZ,uY,uX,uW,uV,uU,uT,uS,l1,hb,aJ,au,aO,bF,cB,az,aC,aA,ae,aI,aT,aY,aV]
 ·rw [if_neg ha] at l1;simp [u4,uZ,uY,uX,uW,uV,uU,uT,uS,l1,ha,aJ,au,aO,bF,cB,az,aC,aA,ae,aI,aT,aY,aV]
def CX (a b : Ed) : Int := if Gl a.1 b.1 = 0 then Gl a.2 b.2 else Gl a.1 b.1
theorem Kw (a b : Ed) : 0 <= CX a b ↔ ¬ yj a b := by
 unfold CX Gl yj;by_cases h1 : a.1 < b.1
 ·simp [h1]
 ·by_cases h2 : b.1 < a.1
  ·have : ¬ a.1 = b.1 := by omega
   simp [h1,h2,this]
  ·have : a.1 = b.1 := by omega
   simp only [h1,h2,this,if_false,if_true,true_and,false_or];by_cases h3 : a.2 < b.2
   ·simp [h3]
   ·by_cases h4 : b.2 < a.2 <;> simp [h3,h4]
theorem AZ (a b : Ed) : bf aj nQT [.agg [.int .i64 a.1,.int .i64 a.2],.agg [.int .i64 b.1,.int .i64 b.2]] [] = some (.int .i64 (CX a b),[]) := by
 rw [aB oQT sQT (ab rfl)];have c1 := vG a.1 b.1;have c2 := vG a.2 b.2;have c3 := aeE (Gl a.1 b.1) (Gl a.2 b.2);unfold qQT cQT CX;simp [acE,acD,c1,c2,c3,sQ8,iQ8,lQ8,sQ7,iQ7,lQ7,aJ,au,aO,bF,cB,az,aC,aA,ae,aI,aT,aY,aV]
def mj (l : List Ed) (i : Nat) : Option Ed := if i = 0 then none else l[i - 1]?
theorem sP (l : List Ed) : mj l 0 = none := rfl
theorem nh (l : List Ed) (i : Nat) (h : i < l.length) : mj l (i + 1) = some l[i] := by simp [mj,h]
theorem IZ (m : Int) (l : List Ed) (hl : l.length < 4294967297) : ∀ n i : Nat,i + n = l.length -> bj aj 0 (.loop zO) ⟨[(1,.ptr 0 0),(14,.list 2 (bc l)),(15,.int .i64 l.length),(16,.int .i64 i)],[some [.int .i64 m,.list 2 (bc l)]]⟩ =
  if eJ m (mj l i) (l.drop i) = 0 then some (.exit 0,⟨[(1,.ptr 0 0),(14,.list 2 (bc l)),(15,.int .i64 l.length),(16,.int .i64 l.length),(17,.bool false)],[some [.int .i64 m,.list 2 (bc l)]]⟩) else some (.ret,⟨[(2,.int .i64 (eJ m (mj l i) (l.drop i)))],[]⟩)
 | 0,i,hi => by
   have e : i = l.length := by omega
   subst e;rw [cz];exact bm (by unfold zO; simp [tM,tL,tK,tJ,tI,tH,tG,tF,tD,tC,oG,oF,aJ,au,aO,bF,cB,az,aC,aA,ae,aI,aT,aY,aV])
 | n + 1,i,hi => by
   have bz : i < l.length := by omega
   have h1 : (i : Int) < l.length := by omega
   have ih := IZ m l hl n (i + 1) (by omega);have hw := dw (i := i) (by omega);rw [nh l i bz] at ih;rw [aP bz];by_cases ha : l[i].1 < 0
   ·have e : eJ m (mj l i) (l[i] :: l.drop (i + 1)) = 6 := by unfold eJ; rw [if_pos (.inl ha)]
    rw [e];exact dj (by unfold zO; simp [tM,tL,tK,tJ,tI,tH,tG,tF,tD,tC,oG,oF,h1,bz,ha,idx,aJ,au,aO,bF,cB,az,aC,aA,ae,aI,aT,aY,aV])
   by_cases hb : l[i].2 <= l[i].1
   ·have e : eJ m (mj l i) (l[i] :: l.drop (i + 1)) = 6 := by unfold eJ; rw [if_pos (.inr (.inl hb))]
    rw [e];exact dj (by unfold zO; simp [tM,tL,tK,tJ,tI,tH,tG,tF,tD,tC,oG,oF,h1,bz,ha,hb,idx,aJ,au,aO,bF,cB,az,aC,aA,ae,aI,aT,aY,aV])
   by_cases hc : m <= l[i].2
   ·have e : eJ m (mj l i) (l[i] :: l.drop (i + 1)) = 6 := by unfold eJ; rw [if_pos (.inr (.inr hc))]
    rw [e];exact dj (by unfold zO; simp [tM,tL,tK,tJ,tI,tH,tG,tF,tD,tC,oG,oF,h1,bz,ha,hb,hc,idx,aJ,au,aO,bF,cB,az,aC,aA,ae,aI,aT,aY,aV])
   have hn : ¬ (l[i].1 < 0 \/ l[i].2 <= l[i].1 \/ m <= l[i].2) := by omega
   cases i with
   | zero =>
     have e : eJ m (mj l 0) (l[0] :: l.drop (0 + 1)) = eJ m (some l[0]) (l.drop (0 + 1)) := by
      conv => lhs; unfold eJ
      rw [if_neg hn,sP,if_neg (show ¬ GF none l[0] from fun h => h)]
     rw [e];exact (aR (by unfold zO; simp [tM,tL,tK,tJ,tI,tH,tG,tF,tD,tC,oG,oF,h1,bz,ha,hb,hc,hw,idx,aJ,au,aO,bF,cB,az,aC,aA,ae,aI,aT,aY,aV])).trans ih
   | succ j =>
     have hj : j < l.length := by omega
     have Y8 : (j : Int) < l.length := by omega
     have hp : (0 : Int) < (j : Int) + 1 := by omega
     have hp0 : (0 : Int) <= (j : Int) + 1 := by omega
     have Tn := HB (i := j) (by omega);have h1 : (j : Int) + 1 < l.length := by omega
     have hw : IntKind.i64.wrap ((j : Int) + 1 + 1) = (j : Int) + 1 + 1 := acj (j := j + 1 + 1) rfl (by omega);have ho := AZ l[j] l[j + 1];by_cases hd : 0 <= CX l[j] l[j + 1]
     ·have e : eJ m (mj l (j + 1)) (l[j + 1] :: l.drop (j + 1 + 1)) = 5 := by
       unfold eJ;rw [if_neg hn,nh l j hj,if_pos (show GF (some l[j]) l[j + 1] from (Kw _ _).1 hd)]
      rw [e];exact dj (by unfold zO; simp [tM,tL,tK,tJ,tI,tH,tG,tF,tD,tC,oG,oF,h1,bz,ha,hb,hc,hj,Y8,hp,hp0,Tn,ho,hd,idx,sQT,iQT,lQT,aJ,au,aO,bF,cB,az,aC,aA,ae,aI,aT,aY,aV])
     ·have hlt' : yj l[j] l[j + 1] := by
       apply Decidable.not_not.1;exact fun k => hd ((Kw _ _).2 k)
      have e : eJ m (mj l (j + 1)) (l[j + 1] :: l.drop (j + 1 + 1)) = eJ m (some l[j + 1]) (l.drop (j + 1 + 1)) := by
       conv => lhs; unfold eJ
       rw [if_neg hn,nh l j hj,if_neg (show ¬ GF (some l[j]) l[j + 1] from fun k => k hlt')]
      rw [e];exact (aR (by unfold zO; simp [tM,tL,tK,tJ,tI,tH,tG,tF,tD,tC,oG,oF,h1,bz,ha,hb,hc,hj,Y8,hp,hp0,hw,Tn,ho,hd,idx,sQT,iQT,lQT,aJ,au,aO,bF,cB,az,aC,aA,ae,aI,aT,aY,aV])).trans ih
theorem fH (m : Int) (l : List Ed) (hl : l.length < 4294967297) : bf aj UE [.agg [.int .i64 m,.list 2 (bc l)]] [] = some (.int .i64 (sV m l),[]) := by
 rw [aB oQB G9 (ab rfl)];have h := IZ m l hl l.length 0 (by omega);rw [iB,b9,sP] at h;unfold qQB cQB sV;by_cases ha : m < 0
 ·simp [tM,tL,tK,tJ,tI,tH,tG,tF,tD,tC,oG,oF,ha,aJ,au,aO,bF,cB,az,aC,aA,ae,aI,aT,aY,aV]
 by_cases hb : 64 < m
 ·simp [tM,tL,tK,tJ,tI,tH,tG,tF,tD,tC,oG,oF,ha,hb,aJ,au,aO,bF,cB,az,aC,aA,ae,aI,aT,aY,aV]
 rw [if_neg (by omega)];by_cases hc : eJ m none l = 0
 ·rw [if_pos hc] at h;rw [hc];simp [tM,tL,tK,tJ,tI,tH,tG,tF,tD,tC,oG,oF,ha,hb,h,aJ,au,aO,bF,cB,az,aC,aA,ae,aI,aT,aY,aV]
 ·rw [if_neg hc] at h;simp [tM,tL,tK,tJ,tI,tH,tG,tF,tD,tC,oG,oF,ha,hb,h,aJ,au,aO,bF,cB,az,aC,aA,ae,aI,aT,aY,aV]
/- What functions of cohesionref03 return: Of, Check, Find. -/
def ofSt (n : Int) (l : List Ed) (E : AV) (i : Int) : St := ⟨[(0,.int .i64 n),(4,.ptr 0 0),(6,.ptr 1 0),(18,.list 2 (bc l)),(19,.int .i64 l.length),(20,.int .i64 i)],[some [.int .i64 0,.own 2 []],some [.int .i64 n,E]]⟩
def ag0 (n : Int) (l : List Ed) (E : AV) : St := ⟨[(0,.int .i64 n),(4,.ptr 0 0),(6,.ptr 1 0),(18,.list 2 (bc l)),(19,.int .i64 l.length),(20,.int .i64 l.length),(21,.bool false)],[some [.int .i64 0,.own 2 []],some [.int .i64 n,E]]⟩
theorem HP (m : Int) (l : List Ed) (hl : l.length < 4294967297) : ∀ n i : Nat,i + n = l.length -> bj aj 0 (.loop zN) ⟨[(1,.ptr 0 0),(14,.list 2 (bc l)),(15,.int .i64 l.length),(16,.int .i64 i)],[some [.int .i64 m,.list 2 (bc l)]]⟩ =
  if eJ m (mj l i) (l.drop i) = 0 then some (.exit 0,⟨[(1,.ptr 0 0),(14,.list 2 (bc l)),(15,.int .i64 l.length),(16,.int .i64 l.length),(17,.bool false)],[some [.int .i64 m,.list 2 (bc l)]]⟩) else some (.ret,⟨[(2,.int .i64 (eJ m (mj l i) (l.drop i)))],[]⟩)
 | 0,i,hi => by
   have e : i = l.length := by omega
   subst e;rw [cz];exact bm (by unfold zN; simp [tB,tA,tx,tw,tv,tu,tt,tr,tq,tp,oE,oD,aJ,au,aO,bF,cB,az,aC,aA,ae,aI,aT,aY,aV])
 | n + 1,i,hi => by
   have bz : i < l.length := by omega
   have h1 : (i : Int) < l.length := by omega
   have ih := HP m l hl n (i + 1) (by omega);have hw := dw (i := i) (by omega);rw [nh l i bz] at ih;rw [aP bz];by_cases ha : l[i].1 < 0
   ·have e : eJ m (mj l i) (l[i] :: l.drop (i + 1)) = 6 := by unfold eJ; rw [if_pos (.inl ha)]
    rw [e];exact dj (by unfold zN; simp [tB,tA,tx,tw,tv,tu,tt,tr,tq,tp,oE,oD,h1,bz,ha,idx,aJ,au,aO,bF,cB,az,aC,aA,ae,aI,aT,aY,aV])
   by_cases hb : l[i].2 <= l[i].1
   ·have e : eJ m (mj l i) (l[i] :: l.drop (i + 1)) = 6 := by unfold eJ; rw [if_pos (.inr (.inl hb))]
    rw [e];exact dj (by unfold zN; simp [tB,tA,tx,tw,tv,tu,tt,tr,tq,tp,oE,oD,h1,bz,ha,hb,idx,aJ,au,aO,bF,cB,az,aC,aA,ae,aI,aT,aY,aV])
   by_cases hc : m <= l[i].2
   ·have e : eJ m (mj l i) (l[i] :: l.drop (i + 1)) = 6 := by unfold eJ; rw [if_pos (.inr (.inr hc))]
    rw [e];exact dj (by unfold zN; simp [tB,tA,tx,tw,tv,tu,tt,tr,tq,tp,oE,oD,h1,bz,ha,hb,hc,idx,aJ,au,aO,bF,cB,az,aC,aA,ae,aI,aT,aY,aV])
   have hn : ¬ (l[i].1 < 0 \/ l[i].2 <= l[i].1 \/ m <= l[i].2) := by omega
   cases i with
   | zero =>
     have e : eJ m (mj l 0) (l[0] :: l.drop (0 + 1)) = eJ m (some l[0]) (l.drop (0 + 1)) := by
      conv => lhs; unfold eJ
      rw [if_neg hn,sP,if_neg (show ¬ GF none l[0] from fun h => h)]
     rw [e];exact (aR (by unfold zN; simp [tB,tA,tx,tw,tv,tu,tt,tr,tq,tp,oE,oD,h1,bz,ha,hb,hc,hw,idx,aJ,au,aO,bF,cB,az,aC,aA,ae,aI,aT,aY,aV])).trans ih
   | succ j =>
     have hj : j < l.length := by omega
     have Y8 : (j : Int) < l.length := by omega
     have hp : (0 : Int) < (j : Int) + 1 := by omega
     have hp0 : (0 : Int) <= (j : Int) + 1 := by omega
     have Tn := HB (i := j) (by omega);have h1 : (j : Int) + 1 < l.length := by omega
     have hw : IntKind.i64.wrap ((j : Int) + 1 + 1) = (j : Int) + 1 + 1 := acj (j := j + 1 + 1) rfl (by omega);have ho := Qj l[j] l[j + 1];by_cases hd : yj l[j] l[j + 1]
     ·have e : eJ m (mj l (j + 1)) (l[j + 1] :: l.drop (j + 1 + 1)) = eJ m (some l[j + 1]) (l.drop (j + 1 + 1)) := by
       conv => lhs; unfold eJ
       rw [if_neg hn,nh l j hj,if_neg (show ¬ GF (some l[j]) l[j + 1] from fun k => k hd)]
      rw [e];exact (aR (by unfold zN; simp [tB,tA,tx,tw,tv,tu,tt,tr,tq,tp,oE,oD,h1,bz,ha,hb,hc,hj,Y8,hp,hp0,hw,Tn,ho,hd,idx,sQV,iQV,lQV,aJ,au,aO,bF,cB,az,aC,aA,ae,aI,aT,aY,aV])).trans ih
     ·have e : eJ m (mj l (j + 1)) (l[j + 1] :: l.drop (j + 1 + 1)) = 5 := by
       unfold eJ;rw [if_neg hn,nh l j hj,if_pos (show GF (some l[j]) l[j + 1] from hd)]
      rw [e];exact dj (by unfold zN; simp [tB,tA,tx,tw,tv,tu,tt,tr,tq,tp,oE,oD,h1,bz,ha,hb,hc,hj,Y8,hp,hp0,Tn,ho,hd,idx,sQV,iQV,lQV,aJ,au,aO,bF,cB,az,aC,aA,ae,aI,aT,aY,aV])
theorem j5 (m : Int) (l : List Ed) (hl : l.length < 4294967297) : bf aj UC [.agg [.int .i64 m,.list 2 (bc l)]] [] = some (.int .i64 (sV m l),[]) := by
 rw [aB oQG G8 (ab rfl)];have h := HP m l hl l.length 0 (by omega);rw [iB,b9,sP] at h;unfold qQG cQG sV;by_cases ha : m < 0
 ·simp [tB,tA,tx,tw,tv,tu,tt,tr,tq,tp,oE,oD,ha,aJ,au,aO,bF,cB,az,aC,aA,ae,aI,aT,aY,aV]
 by_cases hb : 64 < m
 ·simp [tB,tA,tx,tw,tv,tu,tt,tr,tq,tp,oE,oD,ha,hb,aJ,au,aO,bF,cB,az,aC,aA,ae,aI,aT,aY,aV]
 rw [if_neg (by omega)];by_cases hc : eJ m none l = 0
 ·rw [if_pos hc] at h;rw [hc];simp [tB,tA,tx,tw,tv,tu,tt,tr,tq,tp,oE,oD,ha,hb,h,aJ,au,aO,bF,cB,az,aC,aA,ae,aI,aT,aY,aV]
 ·rw [if_neg hc] at h;simp [tB,tA,tx,tw,tv,tu,tt,tr,tq,tp,oE,oD,ha,hb,h,aJ,au,aO,bF,cB,az,aC,aA,ae,aI,aT,aY,aV]
theorem I9 (x : Ed) (u v : Int) (hx : lq u v = x) (l : List Ed) (hl : l.length < 4294967297) : ∀ n i : Nat,i + n = l.length -> bj aj 0 (.loop IH) ⟨[(1,.int .i64 u),(2,.int .i64 v),(13,.list 2 (bc l)),(14,.int .i64 l.length),(15,.int .i64 i)],[]⟩ =
  if x ∈ l.drop i then some (.ret,⟨[(6,.int .i64 (i + (l.drop i).idxOf x : Nat))],[]⟩) else some (.exit 0,⟨[(1,.int .i64 u),(2,.int .i64 v),(13,.list 2 (bc l)),(14,.int .i64 l.length),(15,.int .i64 l.length),(16,.bool false)],[]⟩)
 | 0,i,hi => by
   have e : i = l.length := by omega
   subst e;rw [cz,if_neg (by simp)];exact bm (by unfold IH; simp [E1,E0,EZ,EY,EX,EW,EV,EU,ET,ES,aJ,au,aO,bF,cB,az,aC,aA,ae,aI,aT,aY,aV])
 | n + 1,i,hi => by
   have bz : i < l.length := by omega
   have h1 : (i : Int) < l.length := by omega
   have ih := I9 x u v hx l hl n (i + 1) (by omega);have hw := dw (i := i) (by omega);have hg := ZC u v;rw [hx] at hg;rw [aP bz];by_cases he : l[i] = x
   ·have VJ : l[i].1 = x.1 := by rw [he]
    have hx2 : l[i].2 = x.2 := by rw [he]
    rw [if_pos (by rw [he]; exact List.mem_cons_self),show (l[i] :: l.drop (i + 1)).idxOf x = 0 by rw [he]; exact List.idxOf_cons_self];exact dj (by unfold IH; simp [E1,E0,EZ,EY,EX,EW,EV,EU,ET,ES,h1,bz,hg,VJ,hx2,idx,sQ6,iQ6,lQ6,aJ,au,aO,bF,cB,az,aC,aA,ae,aI,aT,aY,aV])
   ·have he2 : ¬ x = l[i] := fun e => he e.symm;rw [show (l[i] :: l.drop (i + 1)).idxOf x = (l.drop (i + 1)).idxOf x + 1 by simp only [List.idxOf_cons]; rw [show (l[i] == x) = false by simpa using he]; rfl,show i + ((l.drop (i + 1)).idxOf x + 1) = i + 1 + (l.drop (i + 1)).idxOf x by omega];simp only [List.mem_cons,he2,false_or];by_cases VJ : l[i].1 = x.1
    ·have hx2 : ¬ l[i].2 = x.2 := fun e => he (Prod.ext VJ e);exact (aR (by unfold IH; simp [E1,E0,EZ,EY,EX,EW,EV,EU,ET,ES,h1,bz,hg,VJ,hx2,hw,idx,sQ6,iQ6,lQ6,aJ,au,aO,bF,cB,az,aC,aA,ae,aI,aT,aY,aV])).trans ih
    ·exact (aR (by unfold IH; simp [E1,E0,EZ,EY,EX,EW,EV,EU,ET,ES,h1,bz,hg,VJ,hw,idx,sQ6,iQ6,lQ6,aJ,au,aO,bF,cB,az,aC,aA,ae,aI,aT,aY,aV])).trans ih
theorem Zu (m : Int) (l : List Ed) (hl : l.length < 4294967297) (hG : kC m l) (u v : Int) : bf aj nQR [.agg [.int .i64 m,.list 2 (bc l)],.int .i64 u,.int .i64 v] [] = some (.int .i64 (if lq u v ∈ l then (l.idxOf (lq u v) : Int) else -1),[]) := by
 rw [aB oQR sQR (ab rfl)];have hc := j5 m l hl;rw [dW.2 hG] at hc;have h := I9 (lq u v) u v rfl l hl l.length 0 (by omega);rw [iB,b9,Nat.zero_add] at h;unfold qQR cQR;by_cases hx : lq u v ∈ l
 ·rw [if_pos hx] at h;simp [E1,E0,EZ,EY,EX,EW,EV,EU,ET,ES,h,hc,hx,G8,IL,II,aJ,au,aO,bF,cB,az,aC,aA,ae,aI,aT,aY,aV]
 ·rw [if_neg hx] at h;simp [E1,E0,EZ,EY,EX,EW,EV,EU,ET,ES,h,hc,hx,G8,IL,II,aJ,au,aO,bF,cB,az,aC,aA,ae,aI,aT,aY,aV]
end Go.BmP
