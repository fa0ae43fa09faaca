/- ref03.Same at two equal graphs. -/
import Derived.Test.YtmoginoicilobaaGreatDoorUseM
import Derived.Test.YtmoginoicilobaaGreatDoorK05
set_option linter.unusedSimpArgs false
set_option linter.unusedVariables false
set_option maxRecDepth 100000
set_option maxHeartbeats 4000000
open Nat renaming le_of_ble_eq_true → ab
namespace Go.BmP
open Go.Am Go.Bm
def Wm (l : List Ed) (i : Int) (J : Env) : St := ⟨(0,.list 2 (bc l)) :: (1,.list 2 (bc l)) :: (12,.int .i64 l.length) :: (13,.int .i64 i) :: J,[]⟩
theorem QK (l : List Ed) (hl : l.length < 1000000) : ∀ (k i : Nat),i + k = l.length -> bj aj 0 (.loop Tk) (Wm l i []) = some (.exit 0,Wm l l.length [(14,.bool false)])
 | 0,i,hi => by
   obtain rfl : i = l.length := by omega
   refine bm ?_;unfold Wm Tk;have g5 := au l;generalize bc l = Y at *;simp [R9,R8,R7,R6,R5,R4,R3,R0,RZ,RY,g5,aJ,au,aO,bF,cB,az,aC,aA,ae,aI,aT,aY,aV]
 | k + 1,i,hi => by
   have bz : i < l.length := by omega
   have h1 : (i : Int) < l.length := by omega
   have hw := dw (i := i) (by omega);refine (aR ?_).trans (QK l hl k (i + 1) (by omega));have g3 : (bc l)[i]? = some (.agg [.int .i64 l[i].1,.int .i64 l[i].2]) := by rw [aO,List.getElem?_eq_getElem bz]; rfl
   have g4 : ∀ h,(bc l)[i]'h = .agg [.int .i64 l[i].1,.int .i64 l[i].2] := fun h => bF ..;have g5 := au l;unfold Wm Tk;generalize l[i].1 = x at *;generalize l[i].2 = y at *;generalize bc l = Y at *;simp [R9,R8,R7,R6,R5,R4,R3,R0,RZ,RY,h1,bz,hw,g3,g4,g5,Gd,tO,idx,aJ,au,aO,bF,cB,az,aC,aA,ae,aI,aT,aY,aV]
theorem Ui (l : List Ed) (hl : l.length < 1000000) : bf aj nQK [.list 2 (bc l),.list 2 (bc l)] [] = some (.bool true,[]) := by
 rw [aB oQK sQK (ab rfl)];have lp := QK l hl l.length 0 (by omega);unfold Wm at lp;rw [iB] at lp;have g5 := au l;unfold qQK cQK;generalize bc l = Y at *;simp [R9,R8,R7,R6,R5,R4,R3,R0,RZ,RY,lp,g5,aJ,au,aO,bF,cB,az,aC,aA,ae,aI,aT,aY,aV]
theorem wh (n : Int) (l : List Ed) (hl : l.length < 1000000) : bf aj nQs [.agg [.int .i64 n,.list 2 (bc l)],.agg [.int .i64 n,.list 2 (bc l)]] [] = some (.bool true,[]) := by
 rw [aB oQs sQs (ab rfl)];have lp := Ui l hl;unfold qQs cQs;generalize bc l = Y at *;simp [acw,acv,lp,sQK,iQK,lQK,eO,cI,cO,bh,eC,fo,bL,bH,aJ,au,aO,bF,cB,az,aC,aA,ae,aI,aT,aY,aV]
end Go.BmP
