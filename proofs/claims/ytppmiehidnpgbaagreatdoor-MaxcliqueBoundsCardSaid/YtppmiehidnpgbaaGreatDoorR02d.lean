/- What functions of cohesionref02 return: Has, Valid, put, Of. -/
import Derived.Test.YtppmiehidnpgbaaGreatDoorUseM
import Derived.Test.YtppmiehidnpgbaaGreatDoorCfS
import Derived.Test.YtppmiehidnpgbaaGreatDoorRunX
import Derived.Test.YtppmiehidnpgbaaGreatDoorGrfP
set_option linter.unusedSimpArgs false
set_option linter.unusedVariables false
set_option maxRecDepth 100000
open Bool renaming false_and → fh, false_eq_true → bn, true_and → eh
open List renaming append_assoc → dj, append_nil → dF, drop_eq_getElem_cons → bk, drop_length → bU, drop_zero → cS, filter_cons → lq, getElem?_eq_getElem → aB, length_append → bN, length_cons → cj, length_drop → dS, length_nil → fP, length_singleton → O7, length_take → bC, map_nil → Vc, mem_filter → l5, nil_append → yA, range → cH, singleton_append → O5, take_of_length_le → du
open Nat renaming le_of_ble_eq_true → aD
namespace Go.BmP
open Go.Am Go.Bm
theorem NV (x : Int) (l : List Int) (hl : l.length < 4294967297) : ∀ n i : Nat,i + n = l.length -> aW au 0 (.loop F1) ⟨[(1,.int .i64 x),(7,.list 1 (ints l)),(8,.int .i64 l.length),(9,.int .i64 i)],[]⟩ =
  if x ∈ l.drop i then some (.ret,⟨[(4,.bool true)],[]⟩) else some (.exit 0,⟨[(1,.int .i64 x),(7,.list 1 (ints l)),(8,.int .i64 l.length),(9,.int .i64 l.length),(10,.bool false)],[]⟩)
 | 0,i,hi => by
   have e : i = l.length := by omega
   subst e;rw [bU];exact bw (by unfold F1; simp [AF,AE,AD,AB,Az,Ay,Ax,Aw])
 | n + 1,i,hi => by
   have bL : i < l.length := by omega
   have h1 : (i : Int) < l.length := by omega
   have ih := NV x l hl n (i + 1) (by omega);have hw := eT (i := i) (by omega);rw [bk bL];by_cases hx : l[i] = x
   ·rw [if_pos (by simp [hx])];exact dK (by unfold F1; simp [AF,AE,AD,AB,Az,Ay,Ax,Aw,h1,bL,hx,af,aE,aL,idx])
   ·have hx2 : ¬ x = l[i] := fun e => hx e.symm;simp only [List.mem_cons,hx2,false_or];exact (aY (by unfold F1; simp [AF,AE,AD,AB,Az,Ay,Ax,Aw,h1,bL,hx,hw,af,aE,aL,idx])).trans ih
theorem Uu (x : Int) (l : List Int) (hl : l.length < 4294967297) : br au MR [.list 1 (ints l),.int .i64 x] [] = some (.bool (decide (x ∈ l)),[]) := by
 rw [aV oQc1 Xu (aD rfl)];have h := NV x l hl l.length 0 (by omega);rw [fY,cS] at h;unfold qQc1 cQc1;by_cases hx : x ∈ l
 ·simp [AF,AE,AD,AB,Az,Ay,Ax,Aw,h,hx,af,bu,bq]
 ·simp [AF,AE,AD,AB,Az,Ay,Ax,Aw,h,hx,af,bu,bq]
theorem Dj (m : Int) (l : List Int) (hl : l.length <= 9223372036854775807) : ∀ n i : Nat,i + n = l.length -> aW au 0 (.loop B7) ⟨[(0,.list 1 (ints l)),(1,.int .i64 m),(7,.list 1 (ints l)),(8,.int .i64 l.length),(9,.int .i64 i)],[]⟩ =
  if mf m (prev l i) (l.drop i) = true then some (.exit 0,⟨[(0,.list 1 (ints l)),(1,.int .i64 m),(7,.list 1 (ints l)),(8,.int .i64 l.length),(9,.int .i64 l.length),(10,.bool false)],[]⟩) else some (.ret,⟨[(4,.bool false)],[]⟩)
 | 0,i,hi => by
   have e : i = l.length := by omega
   subst e;rw [bU];exact bw (by unfold B7; simp [yU,yT,yS,yR,yQ,yP,yO,yN])
 | n + 1,i,hi => by
   have bL : i < l.length := by omega
   have h1 : (i : Int) < l.length := by omega
   have ih := Dj m l hl n (i + 1) (by omega);have hw := eT (i := i) (by omega);rw [po l i bL] at ih;rw [bk bL];unfold mf;by_cases ha : l[i] < 0
   ·have C7 : ¬ 0 <= l[i] := by omega
    simp only [C7,decide_false,fh,bn,if_false];exact dK (by unfold B7; simp [yU,yT,yS,yR,yQ,yP,yO,yN,h1,bL,ha,af,aE,aL,idx])
   have C7 : 0 <= l[i] := by omega
   by_cases hb : m <= l[i]
   ·have ia : ¬ l[i] < m := by omega
    simp only [C7,ia,decide_true,decide_false,fh,eh,bn,if_false];exact dK (by unfold B7; simp [yU,yT,yS,yR,yQ,yP,yO,yN,h1,bL,ha,hb,af,aE,aL,idx])
   have ia : l[i] < m := by omega
   by_cases hc : prev l i < l[i]
   ·simp only [C7,ia,hc,decide_true,eh];cases i with
    | zero => exact (aY (by unfold B7; simp [yU,yT,yS,yR,yQ,yP,yO,yN,h1,bL,ha,hb,hw,af,aE,aL,idx])).trans ih
    | succ j =>
      rw [po l j (by omega)] at hc;have hj : j < l.length := by omega
      have Qk : (j : Int) < l.length := by omega
      have Qr : ¬ l[j + 1] <= l[j] := by omega
      have hp : (0 : Int) < (j : Int) + 1 := by omega
      have C4 : (0 : Int) <= (j : Int) + 1 := by omega
      have V5 := ur (i := j) (by omega);have h1 : (j : Int) + 1 < l.length := by omega
      have hw : IntKind.i64.wrap ((j : Int) + 1 + 1) = (j : Int) + 1 + 1 := HO (j := j + 1 + 1) rfl (by omega);exact (aY (by unfold B7; simp [yU,yT,yS,yR,yQ,yP,yO,yN,h1,bL,ha,hb,Qr,hj,Qk,hp,C4,hw,V5,af,aE,aL,idx])).trans ih
   ·simp only [C7,ia,hc,decide_true,decide_false,fh,eh,bn,if_false];cases i with
    | zero => exact absurd (show prev l 0 < l[0] by rw [prev_zero]; omega) hc
    | succ j =>
      rw [po l j (by omega)] at hc;have hj : j < l.length := by omega
      have Qk : (j : Int) < l.length := by omega
      have Qr : l[j + 1] <= l[j] := by omega
      have hp : (0 : Int) < (j : Int) + 1 := by omega
      have C4 : (0 : Int) <= (j : Int) + 1 := by omega
      have V5 := ur (i := j) (by omega);have h1 : (j : Int) + 1 < l.length := by omega
      have hw : IntKind.i64.wrap ((j : Int) + 1 + 1) = (j : Int) + 1 + 1 := HO (j := j + 1 + 1) rfl (by omega);exact dK (by unfold B7; simp [yU,yT,yS,yR,yQ,yP,yO,yN,h1,bL,ha,hb,Qr,hj,Qk,hp,C4,hw,V5,af,aE,aL,idx])
theorem Vn (m : Int) (l : List Int) (hl : l.length <= 9223372036854775807) : br au nQ7 [.list 1 (ints l),.int .i64 m] [] = some (.bool (mf m (-1) l),[]) := by
 rw [aV oQ7 sQ7 (aD rfl)];have h := Dj m l hl l.length 0 (by omega);rw [fY,prev_zero,cS] at h;unfold qQ7 cQ7;by_cases hx : mf m (-1) l = true
 ·simp [yU,yT,yS,yR,yQ,yP,yO,yN,h,hx,af,bu,bq]
 ·simp [yU,yT,yS,yR,yQ,yP,yO,yN,h,hx,af,bu,bq]
theorem Mw (x : Int) (l : List Int) (hl : l.length < 4294967296) : ∀ n i : Nat,i + n = l.length -> aW au 0 (.loop Nr) ⟨[(0,.list 1 (ints l)),(1,.int .i64 x),(5,.int .i64 i)],[]⟩ =
  some (.exit 0,⟨[(0,.list 1 (ints l)),(1,.int .i64 x),(5,.int .i64 (i + pos x (l.drop i) : Nat)),(18,.bool false)],[]⟩)
 | 0,i,hi => by
   have e : i = l.length := by omega
   subst e;rw [bU];exact bw (by unfold Nr; simp [EA,Ez,Ey,Ew,Eu,Er,Ep,Eo,pos,af,idx])
 | n + 1,i,hi => by
   have bL : i < l.length := by omega
   have h1 : (i : Int) < l.length := by omega
   have ih := Mw x l hl n (i + 1) (by omega);have hw := eT (i := i) (by omega);rw [bk bL];unfold pos;by_cases hx : l[i] < x
   ·have e : i + (pos x (l.drop (i + 1)) + 1) = i + 1 + pos x (l.drop (i + 1)) := by omega
    rw [if_pos hx,e];exact (aY (by unfold Nr; simp [EA,Ez,Ey,Ew,Eu,Er,Ep,Eo,h1,bL,hx,hw,af,aE,aL,idx])).trans ih
   ·rw [if_neg hx];exact bw (by unfold Nr; simp [EA,Ez,Ey,Ew,Eu,Er,Ep,Eo,h1,bL,hx,af,aE,aL,idx])
/- What functions of cohesionref02 return: put, Of, Range, Union, Meet, Minus, Within, Cmp, Same. -/
theorem Ti (x : Int) (l : List Int) (hl : l.length < 4294967295) : br au nQN [.list 1 (ints l),.int .i64 x] [] = some (.list 1 (ints (p8 x l)),[]) := by
 rw [aV oQN sQN (aD rfl),Mx];have h := Mw x l (by omega) l.length 0 (by omega);rw [fY,cS,Nat.zero_add] at h;have hp := Ya x l;generalize pos x l = p at h hp ⊢;have hq : (p : Int) <= l.length := by omega
 have hm : min p l.length = p := by omega
 have hL1 : p <= 4294967296 := by omega
 have hL2 : p + 1 <= 4294967296 := by omega
 have hL3 : p + 1 + (l.length - p) <= 4294967296 := by omega
 unfold qQN cQN;by_cases bL : p < l.length
 ·have h1 : (p : Int) < l.length := by omega
  by_cases hx : l[p] = x
  ·rw [if_pos (by rw [aB bL,hx])];simp [EA,Ez,Ey,Ew,Eu,Er,Ep,Eo,h,h1,bL,hx,af,aE,aL,idx,bu,bq]
  ·rw [if_neg (by rw [aB bL]; simpa using hx)];simp [EA,Ez,Ey,Ew,Eu,Er,Ep,Eo,h,h1,bL,hx,hp,hq,hm,hL1,hL2,hL3,af,aE,aL,idx,bu,bq,bY,fo,eB,F9,lj,bC,dS];simp (disch := (simp only [bC,bN,dS,O7,cj,fP] <;> omega)) only [du,List.take_take,Nat.min_self,dj,O5]
 ·have h1 : ¬ (p : Int) < l.length := by omega
  rw [if_neg (by rw [List.getElem?_eq_none (by omega)]; simp)];simp [EA,Ez,Ey,Ew,Eu,Er,Ep,Eo,h,h1,bL,hp,hq,hm,hL1,hL2,hL3,af,aE,aL,idx,bu,bq,bY,fo,eB,F9,lj,bC,dS];simp (disch := (simp only [bC,bN,dS,O7,cj,fP] <;> omega)) only [du,List.take_take,Nat.min_self,dj,O5]
theorem TC (l : List Int) (hl : l.length < 4294967295) : ∀ (n i : Nat) (o : List Int),i + n = l.length -> o.length <= i -> aW au 0 (.loop FZ) ⟨[(3,.list 1 (ints o)),(6,.list 1 (ints l)),(7,.int .i64 l.length),(8,.int .i64 i)],[]⟩ =
  some (.exit 0,⟨[(3,.list 1 (ints ((l.drop i).foldl (fun o x => p8 x o) o))),(6,.list 1 (ints l)),(7,.int .i64 l.length),(8,.int .i64 l.length),(9,.bool false)],[]⟩)
 | 0,i,o,hi,ho => by
   have e : i = l.length := by omega
   subst e;rw [bU];exact bw (by unfold FZ; simp [DJ,DI,DH,DG,DF,DE,DD,DC])
 | n + 1,i,o,hi,ho => by
   have bL : i < l.length := by omega
   have h1 : (i : Int) < l.length := by omega
   have hw := eT (i := i) (by omega);have hp := Ti l[i] o (by omega);have oX := My l[i] o;have ih := TC l hl n (i + 1) (p8 l[i] o) (by omega) (by omega);rw [bk bL,List.foldl_cons];exact (aY (by unfold FZ; simp [DJ,DI,DH,DG,DF,DE,DD,DC,h1,bL,hw,hp,sQN,iQN,lQN,af,aE,aL,idx])).trans ih
theorem Yy (l : List Int) (hl : l.length < 4294967295) : aW au 0 (.loop FZ) ⟨[(3,.own 1 []),(6,.list 1 (ints l)),(7,.int .i64 l.length),(8,.int .i64 0)],[]⟩ =
  some (.exit 0,⟨[(3,if l = [] then .own 1 [] else .list 1 (ints (bZ l))),(6,.list 1 (ints l)),(7,.int .i64 l.length),(8,.int .i64 l.length),(9,.bool false)],[]⟩) := by
 cases l with
 | nil => exact bw (by unfold FZ; simp [DJ,DI,DH,DG,DF,DE,DD,DC,cV])
 | cons a r =>
   have hp := Ti a [] (by simp);have ih := TC (a :: r) hl r.length 1 (p8 a []) (by simp; omega) (by simp [p8]);rw [<- ago,if_neg (by simp)];rw [cV] at hp;refine (aY (s' := ⟨[(3,.list 1 (ints (p8 a []))),(6,.list 1 (ints (a :: r))),(7,.int .i64 (a :: r).length),(8,.int .i64 ((1 : Nat) : Int))],[]⟩) ?_).trans (ih.trans ?_)
   ·have h1 : (0 : Int) < (r.length : Int) + 1 := by omega
    unfold FZ;simp [DJ,DI,DH,DG,DF,DE,DD,DC,h1,hp,sQN,iQN,lQN,af,jD,idx]
   ·rfl
theorem FD (l : List Int) (hl : l.length < 4294967295) : br au TR [.list 1 (ints l)] [] = some (.list 1 (ints (bZ l)),[]) := by
 rw [aV oQo sQo (aD rfl)];have h := Yy l hl;unfold qQo cQo;by_cases hx : l = []
 ·subst hx;rw [if_pos rfl] at h;simp only [cV,fP,fY] at h;simp [DJ,DI,DH,DG,DF,DE,DD,DC,h,cV,bu,bq];rfl
 ·rw [if_neg hx] at h;simp [DJ,DI,DH,DG,DF,DE,DD,DC,h,af,bu,bq]
theorem AP (l b : List Int) (hl : l.length < 4294967295) (hb : b.length < 4294967295) : ∀ (n i : Nat) (o : List Int),i + n = l.length -> o.length <= i -> aW au 0 (.loop F4) ⟨[(1,.list 1 (ints b)),(5,.own 1 (ints o)),(9,.list 1 (ints l)),(10,.int .i64 l.length),(11,.int .i64 i)],[]⟩ =
  some (.exit 0,⟨[(1,.list 1 (ints b)),(5,.own 1 (ints (o ++ (l.drop i).filter fun x => decide (x ∈ b)))),(9,.list 1 (ints l)),(10,.int .i64 l.length),(11,.int .i64 l.length),(12,.bool false)],[]⟩)
 | 0,i,o,hi,ho => by
   have e : i = l.length := by omega
   subst e;rw [bU,List.filter_nil,dF];exact bw (by unfold F4; simp [Ee,Ec,Eb,Ea,D9,D8,D7,D6,D5])
 | n + 1,i,o,hi,ho => by
   have bL : i < l.length := by omega
   have h1 : (i : Int) < l.length := by omega
   have hw := eT (i := i) (by omega);have hh := Uu l[i] b (by omega);have hL : o.length + 1 <= 4294967296 := by omega
   rw [bk bL,lq];by_cases hx : l[i] ∈ b
   ·have ih := AP l b hl hb n (i + 1) (o ++ [l[i]]) (by omega) (by simp; omega);rw [dj] at ih;rw [if_pos (by simpa using hx)];exact (aY (by unfold F4; simp [Ee,Ec,Eb,Ea,D9,D8,D7,D6,D5,h1,bL,hw,hh,hx,hL,lj,Xu,iQc1,lQc1,af,aE,aL,idx,eB,bY])).trans ih
   ·have ih := AP l b hl hb n (i + 1) o (by omega) (by omega);rw [if_neg (by simpa using hx)];exact (aY (by unfold F4; simp [Ee,Ec,Eb,Ea,D9,D8,D7,D6,D5,h1,bL,hw,hh,hx,hL,lj,Xu,iQc1,lQc1,af,aE,aL,idx,eB,bY])).trans ih
theorem YT (a b : List Int) (ha : a.length < 4294967295) (hb : b.length < 4294967295) : br au PX [.list 1 (ints a),.list 1 (ints b)] [] = some (.list 1 (ints (meet a b)),[]) := by
 rw [aV oQb4 sQb4 (aD rfl)];have hs := iu a;have h := AP (bZ a) b (by omega) hb (bZ a).length 0 [] (by omega) (by simp);have ho := FD a ha;have e : (bZ a).filter (fun x => decide (x ∈ b)) = meet a b := qW ((dC a).1.filter _) (AO _ _).1 fun x => by rw [(AO _ _).2,l5,(dC _).2]; simp
 rw [fY,cS,yA,e,cV] at h;unfold qQb4 cQb4;simp [Ee,Ec,Eb,Ea,D9,D8,D7,D6,D5,h,ho,lj,cV,af,bY,bu,bq,sQo,iQo,lQo]
theorem xS (l b : List Int) (hl : l.length < 4294967295) (hb : b.length < 4294967295) : ∀ (n i : Nat) (o : List Int),i + n = l.length -> o.length <= i -> aW au 0 (.loop F2) ⟨[(1,.list 1 (ints b)),(5,.own 1 (ints o)),(9,.list 1 (ints l)),(10,.int .i64 l.length),(11,.int .i64 i)],[]⟩ =
  some (.exit 0,⟨[(1,.list 1 (ints b)),(5,.own 1 (ints (o ++ (l.drop i).filter fun x => !decide (x ∈ b)))),(9,.list 1 (ints l)),(10,.int .i64 l.length),(11,.int .i64 l.length),(12,.bool false)],[]⟩)
 | 0,i,o,hi,ho => by
   have e : i = l.length := by omega
   subst e;rw [bU,List.filter_nil,dF];exact bw (by unfold F2; simp [D4,D3,D0,DZ,DY,DX,DW,DV,DU])
 | n + 1,i,o,hi,ho => by
   have bL : i < l.length := by omega
   have h1 : (i : Int) < l.length := by omega
   have hw := eT (i := i) (by omega);have hh := Uu l[i] b (by omega);have hL : o.length + 1 <= 4294967296 := by omega
   rw [bk bL,lq];by_cases hx : l[i] ∈ b
   ·have ih := xS l b hl hb n (i + 1) o (by omega) (by omega);rw [if_neg (by simpa using hx)];exact (aY (by unfold F2; simp [D4,D3,D0,DZ,DY,DX,DW,DV,DU,h1,bL,hw,hh,hx,hL,lj,Xu,iQc1,lQc1,af,aE,aL,idx,eB,bY])).trans ih
   ·have ih := xS l b hl hb n (i + 1) (o ++ [l[i]]) (by omega) (by simp; omega);rw [dj] at ih;rw [if_pos (by simpa using hx)];exact (aY (by unfold F2; simp [D4,D3,D0,DZ,DY,DX,DW,DV,DU,h1,bL,hw,hh,hx,hL,lj,Xu,iQc1,lQc1,af,aE,aL,idx,eB,bY])).trans ih
theorem VU (a b : List Int) (ha : a.length < 4294967295) (hb : b.length < 4294967295) : br au MT [.list 1 (ints a),.list 1 (ints b)] [] = some (.list 1 (ints (minus a b)),[]) := by
 rw [aV oQb6 sQb6 (aD rfl)];have hs := iu a;have h := xS (bZ a) b (by omega) hb (bZ a).length 0 [] (by omega) (by simp);have ho := FD a ha;have e : (bZ a).filter (fun x => !decide (x ∈ b)) = minus a b := qW ((dC a).1.filter _) (sU _ _).1 fun x => by rw [(sU _ _).2,l5,(dC _).2]; simp
 rw [fY,cS,yA,e,cV] at h;unfold qQb6 cQb6;simp [D4,D3,D0,DZ,DY,DX,DW,DV,DU,h,ho,lj,cV,af,bY,bu,bq,sQo,iQo,lQo]
def ik (n : Int) : List Int := (cH (min n.toNat 64)).map fun i => ((i : Nat) : Int)
theorem DA (m : Int) : ∀ (n i : Nat),i + n = min m.toNat 64 -> aW au 0 (.loop F5) ⟨[(0,.int .i64 m),(3,.own 1 (ints ((cH i).map fun i => ((i : Nat) : Int)))),(4,.int .i64 i)],[]⟩ =
  some (.exit 0,⟨[(0,.int .i64 m),(3,.own 1 (ints (ik m))),(4,.int .i64 (min m.toNat 64 : Nat)),(11,.bool false)],[]⟩)
 | 0,i,hi => by
   have e : i = min m.toNat 64 := by omega
   have e2 : ((cH i).map fun i => ((i : Nat) : Int)) = ik m := by rw [e]; rfl
   rw [e2,<- e];by_cases h : (i : Int) < m
   ·have h2 : ¬ (i : Int) < 64 := by omega
    exact bw (by unfold F5; simp [El,Ek,Ej,Ei,Eh,Eg,Ef,h,h2])
   ·exact bw (by unfold F5; simp [El,Ek,Ej,Ei,Eh,Eg,Ef,h])
 | n + 1,i,hi => by
   have h : (i : Int) < m := by omega
   have h2 : (i : Int) < 64 := by omega
   have hw := eT (i := i) (by omega);have hL : i + 1 <= 4294967296 := by omega
   have ih := DA m n (i + 1) (by omega);have e : ((cH (i + 1)).map fun i => ((i : Nat) : Int)) = ((cH i).map fun i => ((i : Nat) : Int)) ++ [(i : Int)] := by rw [List.range_succ,List.map_append]; rfl
   rw [e] at ih;generalize hr : ((cH i).map fun i => ((i : Nat) : Int)) = r at ih ⊢;have hrl : r.length = i := by rw [<- hr]; simp
   exact (aY (by unfold F5; simp [El,Ek,Ej,Ei,Eh,Eg,Ef,h,h2,hw,hL,hrl,Dr hrl,lj,af,eB,bY])).trans ih
theorem Vw (m : Int) : br au PY [.int .i64 m] [] = some (.list 1 (ints (ik m)),[]) := by
 rw [aV oQb3 sQb3 (aD rfl)];have h := DA m (min m.toNat 64) 0 (by omega);rw [fY,List.range_zero,Vc,cV] at h;unfold qQb3 cQb3;simp [El,Ek,Ej,Ei,Eh,Eg,Ef,h,af,bY,bu,bq]
/- What comparisons return; nodeset.Valid, Has, Cmp, Range. -/
def aiU : List Int -> List Int -> Option Int
 | [],_ => none
 | _ :: _,[] => some 1
 | x :: r,y :: s => if y < x then some 1 else if x < y then some (-1) else aiU r s
theorem BZ (m : Int) (l : List Int) (hl : l.length <= 9223372036854775807) : ∀ n i : Nat,i + n = l.length -> aW au 0 (.loop B8) ⟨[(0,.list 1 (ints l)),(1,.int .i64 m),(7,.list 1 (ints l)),(8,.int .i64 l.length),(9,.int .i64 i)],[]⟩ =
  if mf m (prev l i) (l.drop i) = true then some (.exit 0,⟨[(0,.list 1 (ints l)),(1,.int .i64 m),(7,.list 1 (ints l)),(8,.int .i64 l.length),(9,.int .i64 l.length),(10,.bool false)],[]⟩) else some (.ret,⟨[(4,.bool false)],[]⟩)
 | 0,i,hi => by
   have e : i = l.length := by omega
   subst e;rw [bU];exact bw (by unfold B8; simp [zl,zk,zj,zi,zh,zg,zf,ze])
 | n + 1,i,hi => by
   have bL : i < l.length := by omega
   have h1 : (i : Int) < l.length := by omega
   have ih := BZ m l hl n (i + 1) (by omega);have hw := eT (i := i) (by omega);rw [po l i bL] at ih;rw [bk bL];unfold mf;by_cases ha : l[i] < 0
   ·have C7 : ¬ 0 <= l[i] := by omega
    simp only [C7,decide_false,fh,bn,if_false];exact dK (by unfold B8; simp [zl,zk,zj,zi,zh,zg,zf,ze,h1,bL,ha,af,aE,aL,idx])
   have C7 : 0 <= l[i] := by omega
   by_cases hb : m <= l[i]
   ·have ia : ¬ l[i] < m := by omega
    simp only [C7,ia,decide_true,decide_false,fh,eh,bn,if_false];exact dK (by unfold B8; simp [zl,zk,zj,zi,zh,zg,zf,ze,h1,bL,ha,hb,af,aE,aL,idx])
   have ia : l[i] < m := by omega
   by_cases hc : prev l i < l[i]
   ·simp only [C7,ia,hc,decide_true,eh];cases i with
    | zero => exact (aY (by unfold B8; simp [zl,zk,zj,zi,zh,zg,zf,ze,h1,bL,ha,hb,hw,af,aE,aL,idx])).trans ih
    | succ j =>
      rw [po l j (by omega)] at hc;have hj : j < l.length := by omega
      have Qk : (j : Int) < l.length := by omega
      have Qr : ¬ l[j + 1] <= l[j] := by omega
      have hp : (0 : Int) < (j : Int) + 1 := by omega
      have C4 : (0 : Int) <= (j : Int) + 1 := by omega
      have V5 := ur (i := j) (by omega);have h1 : (j : Int) + 1 < l.length := by omega
      have hw : IntKind.i64.wrap ((j : Int) + 1 + 1) = (j : Int) + 1 + 1 := HO (j := j + 1 + 1) rfl (by omega);exact (aY (by unfold B8; simp [zl,zk,zj,zi,zh,zg,zf,ze,h1,bL,ha,hb,Qr,hj,Qk,hp,C4,hw,V5,af,aE,aL,idx])).trans ih
   ·simp only [C7,ia,hc,decide_true,decide_false,fh,eh,bn,if_false];cases i with
    | zero => exact absurd (show prev l 0 < l[0] by rw [prev_zero]; omega) hc
    | succ j =>
      rw [po l j (by omega)] at hc;have hj : j < l.length := by omega
      have Qk : (j : Int) < l.length := by omega
      have Qr : l[j + 1] <= l[j] := by omega
      have hp : (0 : Int) < (j : Int) + 1 := by omega
      have C4 : (0 : Int) <= (j : Int) + 1 := by omega
      have V5 := ur (i := j) (by omega);have h1 : (j : Int) + 1 < l.length := by omega
      have hw : IntKind.i64.wrap ((j : Int) + 1 + 1) = (j : Int) + 1 + 1 := HO (j := j + 1 + 1) rfl (by omega);exact dK (by unfold B8; simp [zl,zk,zj,zi,zh,zg,zf,ze,h1,bL,ha,hb,Qr,hj,Qk,hp,C4,hw,V5,af,aE,aL,idx])
theorem PL (m : Int) (l : List Int) (hl : l.length <= 9223372036854775807) : br au nQ4 [.list 1 (ints l),.int .i64 m] [] = some (.bool (mf m (-1) l),[]) := by
 rw [aV oQ4 sQ4 (aD rfl)];have h := BZ m l hl l.length 0 (by omega);rw [fY,prev_zero,cS] at h;unfold qQ4 cQ4;by_cases hx : mf m (-1) l = true
 ·simp [zl,zk,zj,zi,zh,zg,zf,ze,h,hx,af,bu,bq]
 ·simp [zl,zk,zj,zi,zh,zg,zf,ze,h,hx,af,bu,bq]
theorem TP (x : Int) : br au MS [.int .i64 x] [] = some (.bool false,[]) := by
 rw [aV oQb7 sQb7 (aD rfl)];unfold qQb7 cQb7;simp [XV,XU,bu,bq]
def Ou (x y : Int) : Int := if x < y then -1 else if y < x then 1 else 0
theorem Ot (x y : Int) : br au MV [.int .i64 x,.int .i64 y] [] = some (.int .i64 (Ou x y),[]) := by
 rw [aV oQa3 sQa3 (aD rfl)];have hx := TP x;have hy := TP y;unfold qQa3 cQa3 Ou;by_cases h1 : x < y
 ·simp [KA,Kz,Ky,Kx,Kw,Kv,Ku,Kt,Ks,Kr,CQ,CP,CO,CN,hx,hy,h1,sQb7,iQb7,lQb7,bu,bq]
 ·by_cases h2 : y < x
  ·simp [KA,Kz,Ky,Kx,Kw,Kv,Ku,Kt,Ks,Kr,CQ,CP,CO,CN,hx,hy,h1,h2,sQb7,iQb7,lQb7,bu,bq]
  ·simp [KA,Kz,Ky,Kx,Kw,Kv,Ku,Kt,Ks,Kr,CQ,CP,CO,CN,hx,hy,h1,h2,sQb7,iQb7,lQb7,bu,bq]
theorem B0 (t : Nat) (ht : t <= 64) : ∀ (n i : Nat),i + n = t -> aW au 0 (.loop Ue) ⟨[(3,.own 1 (ints ((cH i).map fun i => ((i : Nat) : Int)))),(7,.int .i64 t),(8,.int .i64 i)],[]⟩ =
  some (.exit 0,⟨[(3,.own 1 (ints ((cH t).map fun i => ((i : Nat) : Int)))),(7,.int .i64 t),(8,.int .i64 t),(9,.bool false)],[]⟩)
 | 0,i,hi => by
   obtain rfl : i = t := by omega
   exact bw (by unfold Ue; simp [ID,IC,IB,IA,Iz,Iy,Ix,Iw])
 | n + 1,i,hi => by
   have h : (i : Int) < t := by omega
   have hw := eT (i := i) (by omega);have hL : i + 1 <= 4294967296 := by omega
   have ih := B0 t ht n (i + 1) (by omega);have e : ((cH (i + 1)).map fun i => ((i : Nat) : Int)) = ((cH i).map fun i => ((i : Nat) : Int)) ++ [(i : Int)] := by rw [List.range_succ,List.map_append]; rfl
   rw [e] at ih;generalize hr : ((cH i).map fun i => ((i : Nat) : Int)) = r at ih ⊢;have hrl : r.length = i := by rw [<- hr]; simp
   exact (aY (by unfold Ue; simp [ID,IC,IB,IA,Iz,Iy,Ix,Iw,h,hw,hL,hrl,Dr hrl,lj,af,eB,bY])).trans ih
theorem PO (m : Int) : br au nQB [.int .i64 m] [] = some (.list 1 (ints (ik m)),[]) := by
 rw [aV oQB sQB (aD rfl)];have h := B0 (min m.toNat 64) (by omega) (min m.toNat 64) 0 (by omega);rw [fY,List.range_zero,Vc,cV] at h;have hr : (cH (min m.toNat 64)).map (fun i => ((i : Nat) : Int)) = ik m := rfl;rw [hr] at h;unfold qQB cQB;by_cases h0 : 0 > m
 ·have e : ((min m.toNat 64 : Nat) : Int) = 0 := by omega
  rw [e] at h;have h0' : m < 0 := h0;simp [ID,IC,IB,IA,Iz,Iy,Ix,Iw,h,h0,h0',af,bY,bu,bq]
 ·have h0' : ¬ m < 0 := h0;by_cases h1 : (64 : Int) < m
  ·have e : ((min m.toNat 64 : Nat) : Int) = 64 := by omega
   rw [e] at h;simp [ID,IC,IB,IA,Iz,Iy,Ix,Iw,h,h0,h0',h1,af,bY,bu,bq]
  ·have e : ((min m.toNat 64 : Nat) : Int) = m := by omega
   rw [e] at h;simp [ID,IC,IB,IA,Iz,Iy,Ix,Iw,h,h0,h0',h1,af,bY,bu,bq]
end Go.BmP
