/- ref03.Same at two equal graphs. -/
import Derived.Test.YtmoginoicilobabGreatUseM
import Derived.Test.YtmoginoicilobabGreatK05
import Derived.Test.YtmoginoicilobabGreatV04
set_option linter.unusedSimpArgs false
set_option linter.unusedVariables false
set_option maxRecDepth 100000
set_option maxHeartbeats 4000000
open List renaming drop_eq_getElem_cons → bt, drop_length → dB, drop_zero → dN
open Nat renaming le_of_ble_eq_true → ae
namespace Go.BmP
open Go.Am Go.Bm
def Xs (l : List Ed) (i : Int) (J : Env) : St := ⟨(0,.list 2 (bm l)) :: (1,.list 2 (bm l)) :: (12,.int .i64 l.length) :: (13,.int .i64 i) :: J,[]⟩
theorem RU (l : List Ed) (hl : l.length < 1000000) : ∀ (k i : Nat),i + k = l.length -> bL ak 0 (.loop T1) (Xs l i []) = some (.exit 0,Xs l l.length [(14,.bool false)])
 | 0,i,hi => by
   obtain rfl : i = l.length := by omega
   refine cj ?_;unfold Xs T1;have g5 := av l;generalize bm l = Y at *;simp [Te,Td,Tc,Tb,Ta,S9,S8,S7,S6,S5,g5,aJ,av,aX,bV,dj,aD,aI,aG,aj,aM,bk,ba,aZ]
 | k + 1,i,hi => by
   have bO : i < l.length := by omega
   have h1 : (i : Int) < l.length := by omega
   have hw := fT (i := i) (by omega);refine (bG ?_).trans (RU l hl k (i + 1) (by omega));have g3 : (bm l)[i]? = some (.agg [.int .i64 l[i].1,.int .i64 l[i].2]) := by rw [aX,List.getElem?_eq_getElem bO]; rfl
   have g4 : ∀ h,(bm l)[i]'h = .agg [.int .i64 l[i].1,.int .i64 l[i].2] := fun h => bV ..;have g5 := av l;unfold Xs T1;generalize l[i].1 = x at *;generalize l[i].2 = y at *;generalize bm l = Y at *;simp [Te,Td,Tc,Tb,Ta,S9,S8,S7,S6,S5,h1,bO,hw,g3,g4,g5,FC,sQ,idx,aJ,av,aX,bV,dj,aD,aI,aG,aj,aM,bk,ba,aZ]
theorem U3 (l : List Ed) (hl : l.length < 1000000) : aY ak nQ7 [.list 2 (bm l),.list 2 (bm l)] [] = some (.bool true,[]) := by
 rw [aB oQ7 sQ7 (ae rfl)];have lp := RU l hl l.length 0 (by omega);unfold Xs at lp;rw [iR] at lp;have g5 := av l;unfold qQ7 cQ7;generalize bm l = Y at *;simp [Te,Td,Tc,Tb,Ta,S9,S8,S7,S6,S5,lp,g5,aJ,av,aX,bV,dj,aD,aI,aG,aj,aM,bk,ba,aZ]
theorem U4 (n : Int) (l : List Ed) (hl : l.length < 1000000) : aY ak nQM [.agg [.int .i64 n,.list 2 (bm l)],.agg [.int .i64 n,.list 2 (bm l)]] [] = some (.bool true,[]) := by
 rw [aB oQM sQM (ae rfl)];have lp := U3 l hl;unfold qQM cQM;generalize bm l = Y at *;simp [adY,adX,lp,sQ7,iQ7,lQ7,eQ7,fG,dx,dz,bp,fi,fP,bZ,bU,aJ,av,aX,bV,dj,aD,aI,aG,aj,aM,bk,ba,aZ]
/- ref29.Same at two equal graphs with any numbers. -/
set_option maxHeartbeats 8000000

def snB (n : Int) (F : List AV) (C : Int) (a : List Int) : PB := some [.int .i64 n,.list 2 F,.int .i64 C,.list 1 (ints a)]
theorem RR (n : Int) (F : List AV) (C : Int) (a b : List Int) (hl : a.length = b.length) (ha : a.length < 1000000) : ∀ (k i : Nat),i + k = a.length -> bL ak 0 (.loop Oe) ⟨[(2,.ptr 0 0),(3,.ptr 1 0),(5,.int .i64 i)],[snB n F C a,snB n F C b]⟩ =
  if a.drop i = b.drop i then some (.exit 0,⟨[(2,.ptr 0 0),(3,.ptr 1 0),(5,.int .i64 a.length),(32,.bool false)],[snB n F C a,snB n F C b]⟩) else some (.ret,⟨[(4,.bool false)],[]⟩)
 | 0,i,hi => by
   obtain rfl : i = a.length := by omega
   rw [dB,hl,dB,if_pos rfl];unfold snB;have ga := aj a;exact cj (by unfold Oe; simp [Bq,Bp,Bo,Bn,Bl,Bk,Bj,Bi,Bh,ga,hl,aJ])
 | k + 1,i,hi => by
   have bO : i < a.length := by omega
   have Fm : i < b.length := by omega
   have h1 : (i : Int) < a.length := by omega
   have h1b : (i : Int) < b.length := by omega
   have hw := fT (i := i) (by omega);have ih := RR n F C a b hl ha k (i + 1) (by omega);have ga := aj a;have gb := aj b;have a3 : ∀ h,(ints a)[i]'h = .int .i64 a[i] := fun h => bk ..;have b3 : ∀ h,(ints b)[i]'h = .int .i64 b[i] := fun h => bk ..;rw [bt bO,bt Fm];simp only [List.cons.injEq];by_cases e : a[i] = b[i]
   ·have : (a[i] = b[i] /\ a.drop (i + 1) = b.drop (i + 1)) = (a.drop (i + 1) = b.drop (i + 1)) := by simp [e]
    simp only [this];rw [<- ih];refine bG ?_;rw [e] at a3;clear ih this e;unfold snB;generalize b[i] = x at *;generalize ints a = A at *;generalize ints b = B at *;unfold Oe;simp [Bq,Bp,Bo,Bn,Bl,Bk,Bj,Bi,Bh,h1,h1b,bO,Fm,hw,ga,gb,a3,b3,idx,aJ]
   ·rw [if_neg (fun k => e k.1)];refine gr ?_;clear ih;unfold snB;generalize a[i] = x at *;generalize b[i] = y at *;generalize ints a = A at *;generalize ints b = B at *;unfold Oe;simp [Bq,Bp,Bo,Bn,Bl,Bk,Bj,Bi,Bh,h1,h1b,bO,Fm,hw,ga,gb,a3,b3,e,idx,aJ]
def UP (n : Int) (F : List Ed) (C : Int) (a : List Int) : AV := .agg [.int .i64 n,.list 2 (bm F),.int .i64 C,.list 1 (ints a)]
theorem qR (n : Int) (F : List Ed) (hF : F.length < 1000000) (C C' : Int) (a b : List Int) (ha : a.length < 1000000) (hb : b.length < 1000000) : aY ak ZS [UP n F C a,UP n F C' b] [] = some (.bool (decide (C = C') && decide (a = b)),[]) := by
 have s3 := U4 n F hF;have ga := aj a;have gb := aj b;rw [aB oQr sQr (ae rfl)];unfold qQr cQr UP;by_cases c : C = C'
 ·subst c;rw [decide_eq_true rfl,Bool.true_and];by_cases hl : a.length = b.length
  ·have lp := RR n (bm F) C a b hl ha a.length 0 (by omega);rw [dN,dN,iR] at lp;unfold snB at lp;have AO : (a.length : Int) = b.length := by omega
   by_cases e : a = b
   ·rw [if_pos e] at lp;rw [decide_eq_true e];subst e;generalize ints a = A at *;generalize bm F = Y at *;simp [Bq,Bp,Bo,Bn,Bl,Bk,Bj,Bi,Bh,s3,lp,ga,aJ,sQM,iQM,lQM,eQM,fG,dx,dz,bp,fi,fP,bZ,bU,dK,pl,ba,aZ]
   ·rw [if_neg e] at lp;rw [decide_eq_false e];generalize ints a = A at *;generalize ints b = B at *;generalize bm F = Y at *;simp [Bq,Bp,Bo,Bn,Bl,Bk,Bj,Bi,Bh,s3,lp,ga,gb,hl,AO,aJ,sQM,iQM,lQM,eQM,fG,dx,dz,bp,fi,fP,bZ,bU,dK,pl,ba,aZ]
  ·have AO : ¬ (a.length : Int) = b.length := by omega
   have e : ¬ a = b := fun k => hl (by rw [k]);rw [decide_eq_false e];generalize ints a = A at *;generalize ints b = B at *;generalize bm F = Y at *;simp [Bq,Bp,Bo,Bn,Bl,Bk,Bj,Bi,Bh,s3,ga,gb,hl,AO,aJ,sQM,iQM,lQM,eQM,fG,dx,dz,bp,fi,fP,bZ,bU,dK,pl,ba,aZ]
 ·rw [decide_eq_false c,Bool.false_and];generalize ints a = A at *;generalize ints b = B at *;generalize bm F = Y at *;simp [Bq,Bp,Bo,Bn,Bl,Bk,Bj,Bi,Bh,s3,ga,gb,c,aJ,sQM,iQM,lQM,eQM,fG,dx,dz,bp,fi,fP,bZ,bU,dK,pl,ba,aZ]
end Go.BmP
