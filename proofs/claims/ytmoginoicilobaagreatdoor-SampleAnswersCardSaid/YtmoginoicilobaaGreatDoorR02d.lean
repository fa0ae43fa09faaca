/- What functions of cohesionref02 return: Has, Valid, put, Of. -/
import Derived.Test.YtmoginoicilobaaGreatDoorUseM
import Derived.Test.YtmoginoicilobaaGreatDoorCfS
import Derived.Test.YtmoginoicilobaaGreatDoorRunX
import Derived.Test.YtmoginoicilobaaGreatDoorGrfP
set_option linter.unusedSimpArgs false
set_option linter.unusedVariables false
set_option maxRecDepth 100000
open List renaming append_assoc → dI, drop_eq_getElem_cons → aP, drop_length → cz, drop_zero → b9, getElem?_eq_getElem → af, length_append → cM, length_cons → b7, length_drop → dK, length_nil → mH, length_singleton → xq, length_take → bu, singleton_append → xp, take_of_length_le → aL
open Nat renaming le_of_ble_eq_true → ab
namespace Go.BmP
open Go.Am Go.Bm
theorem Nl (x : Int) (l : List Int) (hl : l.length < 4294967297) : ∀ n i : Nat,i + n = l.length -> bj aj 0 (.loop FJ) ⟨[(1,.int .i64 x),(7,.list 1 (ints l)),(8,.int .i64 l.length),(9,.int .i64 i)],[]⟩ =
  if x ∈ l.drop i then some (.ret,⟨[(4,.bool true)],[]⟩) else some (.exit 0,⟨[(1,.int .i64 x),(7,.list 1 (ints l)),(8,.int .i64 l.length),(9,.int .i64 l.length),(10,.bool false)],[]⟩)
 | 0,i,hi => by
   have e : i = l.length := by omega
   subst e;rw [cz];exact bm (by unfold FJ; simp [AH,AG,AF,AE,AD,AB,AA,Az])
 | n + 1,i,hi => by
   have bz : i < l.length := by omega
   have h1 : (i : Int) < l.length := by omega
   have ih := Nl x l hl n (i + 1) (by omega);have hw := dw (i := i) (by omega);rw [aP bz];by_cases hx : l[i] = x
   ·rw [if_pos (by simp [hx])];exact dj (by unfold FJ; simp [AH,AG,AF,AE,AD,AB,AA,Az,h1,bz,hx,ae,aI,aT,idx])
   ·have hx2 : ¬ x = l[i] := fun e => hx e.symm;simp only [List.mem_cons,hx2,false_or];exact (aR (by unfold FJ; simp [AH,AG,AF,AE,AD,AB,AA,Az,h1,bz,hx,hw,ae,aI,aT,idx])).trans ih
theorem abk (x : Int) (l : List Int) (hl : l.length < 4294967297) : bf aj Pr [.list 1 (ints l),.int .i64 x] [] = some (.bool (decide (x ∈ l)),[]) := by
 rw [aB oQc7 sQc7 (ab rfl)];have h := Nl x l hl l.length 0 (by omega);rw [iB,b9] at h;unfold qQc7 cQc7;by_cases hx : x ∈ l
 ·simp [AH,AG,AF,AE,AD,AB,AA,Az,h,hx,ae,aY,aV]
 ·simp [AH,AG,AF,AE,AD,AB,AA,Az,h,hx,ae,aY,aV]
theorem Mq (x : Int) (l : List Int) (hl : l.length < 4294967296) : ∀ n i : Nat,i + n = l.length -> bj aj 0 (.loop FM) ⟨[(0,.list 1 (ints l)),(1,.int .i64 x),(5,.int .i64 i)],[]⟩ =
  some (.exit 0,⟨[(0,.list 1 (ints l)),(1,.int .i64 x),(5,.int .i64 (i + pos x (l.drop i) : Nat)),(18,.bool false)],[]⟩)
 | 0,i,hi => by
   have e : i = l.length := by omega
   subst e;rw [cz];exact bm (by unfold FM; simp [xR,xQ,xP,xO,xN,xM,xL,xK,pos,ae,idx])
 | n + 1,i,hi => by
   have bz : i < l.length := by omega
   have h1 : (i : Int) < l.length := by omega
   have ih := Mq x l hl n (i + 1) (by omega);have hw := dw (i := i) (by omega);rw [aP bz];unfold pos;by_cases hx : l[i] < x
   ·have e : i + (pos x (l.drop (i + 1)) + 1) = i + 1 + pos x (l.drop (i + 1)) := by omega
    rw [if_pos hx,e];exact (aR (by unfold FM; simp [xR,xQ,xP,xO,xN,xM,xL,xK,h1,bz,hx,hw,ae,aI,aT,idx])).trans ih
   ·rw [if_neg hx];exact bm (by unfold FM; simp [xR,xQ,xP,xO,xN,xM,xL,xK,h1,bz,hx,ae,aI,aT,idx])
/- What functions of cohesionref02 return: put, Of, Range, Union, Meet, Minus, Within, Cmp, Same. -/
theorem Sx (x : Int) (l : List Int) (hl : l.length < 4294967295) : bf aj Py [.list 1 (ints l),.int .i64 x] [] = some (.list 1 (ints (pz x l)),[]) := by
 rw [aB oQb2 sQb2 (ab rfl),Mr];have h := Mq x l (by omega) l.length 0 (by omega);rw [iB,b9,Nat.zero_add] at h;have hp := XR x l;generalize pos x l = p at h hp ⊢;have hq : (p : Int) <= l.length := by omega
 have hm : min p l.length = p := by omega
 have hL1 : p <= 4294967296 := by omega
 have hL2 : p + 1 <= 4294967296 := by omega
 have hL3 : p + 1 + (l.length - p) <= 4294967296 := by omega
 unfold qQb2 cQb2;by_cases bz : p < l.length
 ·have h1 : (p : Int) < l.length := by omega
  by_cases hx : l[p] = x
  ·rw [if_pos (by rw [af bz,hx])];simp [xR,xQ,xP,xO,xN,xM,xL,xK,h,h1,bz,hx,ae,aI,aT,idx,aY,aV]
  ·rw [if_neg (by rw [af bz]; simpa using hx)];simp [xR,xQ,xP,xO,xN,xM,xL,xK,h,h1,bz,hx,hp,hq,hm,hL1,hL2,hL3,ae,aI,aT,idx,aY,aV,dE,Bg,er,FU,kR,bu,dK];simp (disch := (simp only [bu,cM,dK,xq,b7,mH] <;> omega)) only [aL,List.take_take,Nat.min_self,dI,xp]
 ·have h1 : ¬ (p : Int) < l.length := by omega
  rw [if_neg (by rw [List.getElem?_eq_none (by omega)]; simp)];simp [xR,xQ,xP,xO,xN,xM,xL,xK,h,h1,bz,hp,hq,hm,hL1,hL2,hL3,ae,aI,aT,idx,aY,aV,dE,Bg,er,FU,kR,bu,dK];simp (disch := (simp only [bu,cM,dK,xq,b7,mH] <;> omega)) only [aL,List.take_take,Nat.min_self,dI,xp]
theorem SP (l : List Int) (hl : l.length < 4294967295) : ∀ (n i : Nat) (o : List Int),i + n = l.length -> o.length <= i -> bj aj 0 (.loop FP) ⟨[(3,.list 1 (ints o)),(6,.list 1 (ints l)),(7,.int .i64 l.length),(8,.int .i64 i)],[]⟩ =
  some (.exit 0,⟨[(3,.list 1 (ints ((l.drop i).foldl (fun o x => pz x o) o))),(6,.list 1 (ints l)),(7,.int .i64 l.length),(8,.int .i64 l.length),(9,.bool false)],[]⟩)
 | 0,i,o,hi,ho => by
   have e : i = l.length := by omega
   subst e;rw [cz];exact bm (by unfold FP; simp [Fa,E9,E8,E7,E6,E5,E4,E3])
 | n + 1,i,o,hi,ho => by
   have bz : i < l.length := by omega
   have h1 : (i : Int) < l.length := by omega
   have hw := dw (i := i) (by omega);have hp := Sx l[i] o (by omega);have sd := Ms l[i] o;have ih := SP l hl n (i + 1) (pz l[i] o) (by omega) (by omega);rw [aP bz,List.foldl_cons];exact (aR (by unfold FP; simp [Fa,E9,E8,E7,E6,E5,E4,E3,h1,bz,hw,hp,sQb2,iQb2,lQb2,ae,aI,aT,idx])).trans ih
theorem X9 (l : List Int) (hl : l.length < 4294967295) : bj aj 0 (.loop FP) ⟨[(3,.own 1 []),(6,.list 1 (ints l)),(7,.int .i64 l.length),(8,.int .i64 0)],[]⟩ =
  some (.exit 0,⟨[(3,if l = [] then .own 1 [] else .list 1 (ints (oQ l))),(6,.list 1 (ints l)),(7,.int .i64 l.length),(8,.int .i64 l.length),(9,.bool false)],[]⟩) := by
 cases l with
 | nil => exact bm (by unfold FP; simp [Fa,E9,E8,E7,E6,E5,E4,E3,ec])
 | cons a r =>
   have hp := Sx a [] (by simp);have ih := SP (a :: r) hl r.length 1 (pz a []) (by simp; omega) (by simp [pz]);rw [<- ae6,if_neg (by simp)];rw [ec] at hp;refine (aR (s' := ⟨[(3,.list 1 (ints (pz a []))),(6,.list 1 (ints (a :: r))),(7,.int .i64 (a :: r).length),(8,.int .i64 ((1 : Nat) : Int))],[]⟩) ?_).trans (ih.trans ?_)
   ·have h1 : (0 : Int) < (r.length : Int) + 1 := by omega
    unfold FP;simp [Fa,E9,E8,E7,E6,E5,E4,E3,h1,hp,sQb2,iQb2,lQb2,ae,pj,idx]
   ·rfl
theorem X8 (l : List Int) (hl : l.length < 4294967295) : bf aj nQ5 [.list 1 (ints l)] [] = some (.list 1 (ints (oQ l)),[]) := by
 rw [aB oQ5 sQ5 (ab rfl)];have h := X9 l hl;unfold qQ5 cQ5;by_cases hx : l = []
 ·subst hx;rw [if_pos rfl] at h;simp only [ec,mH,iB] at h;simp [Fa,E9,E8,E7,E6,E5,E4,E3,h,ec,aY,aV];rfl
 ·rw [if_neg hx] at h;simp [Fa,E9,E8,E7,E6,E5,E4,E3,h,ae,aY,aV]
theorem A6 (l b : List Int) (hl : l.length < 4294967295) (hb : b.length < 4294967295) : ∀ (n i : Nat) (o : List Int),i + n = l.length -> o.length <= i -> bj aj 0 (.loop FL) ⟨[(1,.list 1 (ints b)),(5,.own 1 (ints o)),(9,.list 1 (ints l)),(10,.int .i64 l.length),(11,.int .i64 i)],[]⟩ =
  some (.exit 0,⟨[(1,.list 1 (ints b)),(5,.own 1 (ints (o ++ (l.drop i).filter fun x => decide (x ∈ b)))),(9,.list 1 (ints l)),(10,.int .i64 l.length),(11,.int .i64 l.length),(12,.bool false)],[]⟩)
 | 0,i,o,hi,ho => by
   have e : i = l.length := by omega
   subst e;rw [cz,List.filter_nil,List.append_nil];exact bm (by unfold FL; simp [ED,EC,EB,EA,Ez,Ey,Ew,Eu,Er])
 | n + 1,i,o,hi,ho => by
   have bz : i < l.length := by omega
   have h1 : (i : Int) < l.length := by omega
   have hw := dw (i := i) (by omega);have hh := abk l[i] b (by omega);have hL : o.length + 1 <= 4294967296 := by omega
   rw [aP bz,List.filter_cons];by_cases hx : l[i] ∈ b
   ·have ih := A6 l b hl hb n (i + 1) (o ++ [l[i]]) (by omega) (by simp; omega);rw [dI] at ih;rw [if_pos (by simpa using hx)];exact (aR (by unfold FL; simp [ED,EC,EB,EA,Ez,Ey,Ew,Eu,Er,h1,bz,hw,hh,hx,hL,kR,sQc7,iQc7,lQc7,ae,aI,aT,idx,er,dE])).trans ih
   ·have ih := A6 l b hl hb n (i + 1) o (by omega) (by omega);rw [if_neg (by simpa using hx)];exact (aR (by unfold FL; simp [ED,EC,EB,EA,Ez,Ey,Ew,Eu,Er,h1,bz,hw,hh,hx,hL,kR,sQc7,iQc7,lQc7,ae,aI,aT,idx,er,dE])).trans ih
theorem Yn (a b : List Int) (ha : a.length < 4294967295) (hb : b.length < 4294967295) : bf aj Px [.list 1 (ints a),.list 1 (ints b)] [] = some (.list 1 (ints (meet a b)),[]) := by
 rw [aB oQb4 sQb4 (ab rfl)];have hs := Ug a;have h := A6 (oQ a) b (by omega) hb (oQ a).length 0 [] (by omega) (by simp);have ho := X8 a ha;have e : (oQ a).filter (fun x => decide (x ∈ b)) = meet a b := uf ((kU a).1.filter _) (wx _ _).1 fun x => by rw [(wx _ _).2,List.mem_filter,(kU _).2]; simp
 rw [iB,b9,List.nil_append,e,ec] at h;unfold qQb4 cQb4;simp [ED,EC,EB,EA,Ez,Ey,Ew,Eu,Er,h,ho,kR,ec,ae,dE,aY,aV,sQ5,iQ5,lQ5]
def agY (n : Int) : List Int := (List.range (min n.toNat 64)).map fun i => ((i : Nat) : Int)
/- What comparisons return; nodeset.Valid, Has, Cmp, Range. -/
def Ae : List Int -> List Int -> Option Int
 | [],_ => none
 | _ :: _,[] => some 1
 | x :: r,y :: s => if y < x then some 1 else if x < y then some (-1) else Ae r s
theorem TE : ∀ a b : List Int,Hr a b = (Ae a b).getD (if a.length < b.length then -1 else 0)
 | [],[] => rfl
 | [],_ :: _ => by simp [Hr,Ae]
 | _ :: _,[] => rfl
 | x :: r,y :: s => by
   have ih := TE r s;unfold Hr Ae;split
   ·rfl
   ·split
    ·rfl
    ·rw [ih]; simp
theorem NI (a b : List Int) (hl : a.length <= 9223372036854775807) (hb : b.length <= 9223372036854775807) : ∀ (n i : Nat),i + n = a.length -> bj aj 0 (.loop FF) ⟨[(0,.list 1 (ints a)),(1,.list 1 (ints b)),(7,.int .i64 a.length),(8,.int .i64 i)],[]⟩ =
  match Ae (a.drop i) (b.drop i) with
  | some v => some (.ret,⟨[(4,.int .i64 v)],[]⟩)
  | none => some (.exit 0,⟨[(0,.list 1 (ints a)),(1,.list 1 (ints b)),(7,.int .i64 a.length),(8,.int .i64 a.length),(9,.bool false)],[]⟩)
 | 0,i,hi => by
   have e : i = a.length := by omega
   subst e;rw [cz];unfold Ae;exact bm (by unfold FF; simp [y9,y8,y7,y6,y5,yZ,yY,yX,yW,yV,sj,si])
 | n + 1,i,hi => by
   have bz : i < a.length := by omega
   have h1 : (i : Int) < a.length := by omega
   have hw := dw (i := i) (by omega);have ih := NI a b hl hb n (i + 1) (by omega);rw [aP bz];by_cases hk : i < b.length
   ·have h2 : (i : Int) < b.length := by omega
    have h2' : ¬ (b.length : Int) <= i := by omega
    rw [aP hk];unfold Ae;by_cases hg : b[i] < a[i]
    ·rw [if_pos hg];exact dj (by unfold FF; simp [y9,y8,y7,y6,y5,yZ,yY,yX,yW,yV,sj,si,h1,bz,h2,h2',hk,hg,ae,aI,aT,idx])
    ·rw [if_neg hg];by_cases hs : a[i] < b[i]
     ·rw [if_pos hs];exact dj (by unfold FF; simp [y9,y8,y7,y6,y5,yZ,yY,yX,yW,yV,sj,si,h1,bz,h2,h2',hk,hg,hs,ae,aI,aT,idx])
     ·rw [if_neg hs];exact (aR (by unfold FF; simp [y9,y8,y7,y6,y5,yZ,yY,yX,yW,yV,sj,si,h1,bz,h2,h2',hk,hg,hs,hw,ae,aI,aT,idx])).trans ih
   ·have h2' : (b.length : Int) <= i := by omega
    have e0 : b.drop i = [] := List.drop_eq_nil_of_le (by omega);rw [e0];unfold Ae;exact dj (by unfold FF; simp [y9,y8,y7,y6,y5,yZ,yY,yX,yW,yV,sj,si,h1,bz,h2',hk,ae,aI,aT,idx])
theorem abG (a b : List Int) (hl : a.length <= 9223372036854775807) (hb : b.length <= 9223372036854775807) : bf aj nQx [.list 1 (ints a),.list 1 (ints b)] [] = some (.int .i64 (Hr a b),[]) := by
 rw [aB oQx sQx (ab rfl),TE];have h := NI a b hl hb a.length 0 (by omega);rw [iB,b9,b9] at h;unfold qQx cQx;cases hx : Ae a b with
 | some v =>
   rw [hx] at h;simp only at h;rw [Option.getD_some];simp [y9,y8,y7,y6,y5,yZ,yY,yX,yW,yV,sj,si,h,ae,aY,aV]
 | none =>
   rw [hx] at h;simp only at h;rw [Option.getD_none];by_cases bz : a.length < b.length
   ·have h1 : (a.length : Int) < b.length := by omega
    simp [y9,y8,y7,y6,y5,yZ,yY,yX,yW,yV,sj,si,h,bz,h1,ae,aY,aV]
   ·have h1 : ¬ (a.length : Int) < b.length := by omega
    simp [y9,y8,y7,y6,y5,yZ,yY,yX,yW,yV,sj,si,h,bz,h1,ae,aY,aV]
theorem S2 (x : Int) : bf aj MF [.int .i64 x] [] = some (.bool false,[]) := by
 rw [aB oQb3 sQb3 (ab rfl)];unfold qQb3 cQb3;simp [Xg,Xf,aY,aV]
def Gl (x y : Int) : Int := if x < y then -1 else if y < x then 1 else 0
theorem vG (x y : Int) : bf aj VI [.int .i64 x,.int .i64 y] [] = some (.int .i64 (Gl x y),[]) := by
 rw [aB oQ8 sQ8 (ab rfl)];have hx := S2 x;have hy := S2 y;unfold qQ8 cQ8 Gl;by_cases h1 : x < y
 ·simp [Sv,Su,Ss,Sr,Sq,Sp,Sn,Sm,Sl,Sk,Kr,Kq,Kp,Ko,hx,hy,h1,sQb3,iQb3,lQb3,aY,aV]
 ·by_cases h2 : y < x
  ·simp [Sv,Su,Ss,Sr,Sq,Sp,Sn,Sm,Sl,Sk,Kr,Kq,Kp,Ko,hx,hy,h1,h2,sQb3,iQb3,lQb3,aY,aV]
  ·simp [Sv,Su,Ss,Sr,Sq,Sp,Sn,Sm,Sl,Sk,Kr,Kq,Kp,Ko,hx,hy,h1,h2,sQb3,iQb3,lQb3,aY,aV]
end Go.BmP
