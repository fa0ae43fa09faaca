/- What functions of cohesionref02 return: Has, Valid, put, Of. -/
import Derived.Test.YteomjfokokneoaaDoorUseM
import Derived.Test.YteomjfokokneoaaDoorCfS
import Derived.Test.YteomjfokokneoaaDoorRunX
import Derived.Test.YteomjfokokneoaaDoorGrfP
set_option linter.unusedSimpArgs false
set_option linter.unusedVariables false
set_option maxRecDepth 100000
open Bool renaming false_and → fE, false_eq_true → aX, true_and → eD
open List renaming append_assoc → du, append_nil → iv, drop_eq_getElem_cons → aZ, drop_length → bz, drop_zero → bX, filter_cons → GK, getElem?_eq_getElem → aI, length_append → bu, length_cons → c8, length_drop → cB, length_nil → dP, length_singleton → hD, length_take → bg, mem_filter → Jf, nil_append → jI, range → pN, singleton_append → nX, take_of_length_le → bL, take_take → ya
open Nat renaming le_of_ble_eq_true → an, min_self → GH
namespace Go.BmP
open Go.Am Go.Bm
theorem Nl (x : Int) (l : List Int) (hl : l.length < 4294967297) : ∀ n i : Nat,i + n = l.length -> aU aA 0 (.loop MZ) ⟨[(1,.int .i64 x),(7,.list 1 (ints l)),(8,.int .i64 l.length),(9,.int .i64 i)],[]⟩ =
  if x ∈ l.drop i then some (.ret,⟨[(4,.bool true)],[]⟩) else some (.exit 0,⟨[(1,.int .i64 x),(7,.list 1 (ints l)),(8,.int .i64 l.length),(9,.int .i64 l.length),(10,.bool false)],[]⟩)
 | 0,i,hi => by
   have e : i = l.length := by omega
   subst e;rw [bz];exact bC (by unfold MZ; simp [H6,H5,HZ,HY,HX,HV,HU,HT])
 | n + 1,i,hi => by
   have bA : i < l.length := by omega
   have h1 : (i : Int) < l.length := by omega
   have ih := Nl x l hl n (i + 1) (by omega);have hw := fm (i := i) (by omega);rw [aZ bA];by_cases hx : l[i] = x
   ·rw [if_pos (by simp [hx])];exact dj (by unfold MZ; simp [H6,H5,HZ,HY,HX,HV,HU,HT,h1,bA,hx,aa,ak,az,idx])
   ·have Vw : ¬ x = l[i] := fun e => hx e.symm;simp only [List.mem_cons,Vw,false_or];exact (ba (by unfold MZ; simp [H6,H5,HZ,HY,HX,HV,HU,HT,h1,bA,hx,hw,aa,ak,az,idx])).trans ih
theorem zQ (x : Int) (l : List Int) (hl : l.length < 4294967297) : bk aA Xb [.list 1 (ints l),.int .i64 x] [] = some (.bool (decide (x ∈ l)),[]) := by
 rw [aM oJG VY (an rfl)];have h := Nl x l hl l.length 0 (by omega);rw [jj,bX] at h;unfold qJG cJG;by_cases hx : x ∈ l
 ·simp [H6,H5,HZ,HY,HX,HV,HU,HT,h,hx,aa,aP,aK]
 ·simp [H6,H5,HZ,HY,HX,HV,HU,HT,h,hx,aa,aP,aK]
theorem Dg (m : Int) (l : List Int) (hl : l.length <= 9223372036854775807) : ∀ n i : Nat,i + n = l.length -> aU aA 0 (.loop BZ) ⟨[(0,.list 1 (ints l)),(1,.int .i64 m),(7,.list 1 (ints l)),(8,.int .i64 l.length),(9,.int .i64 i)],[]⟩ =
  if hO m (prev l i) (l.drop i) = true then some (.exit 0,⟨[(0,.list 1 (ints l)),(1,.int .i64 m),(7,.list 1 (ints l)),(8,.int .i64 l.length),(9,.int .i64 l.length),(10,.bool false)],[]⟩) else some (.ret,⟨[(4,.bool false)],[]⟩)
 | 0,i,hi => by
   have e : i = l.length := by omega
   subst e;rw [bz];exact bC (by unfold BZ; simp [ze,zd,zc,zb,za,y9,y8,y7])
 | n + 1,i,hi => by
   have bA : i < l.length := by omega
   have h1 : (i : Int) < l.length := by omega
   have ih := Dg m l hl n (i + 1) (by omega);have hw := fm (i := i) (by omega);rw [ot l i bA] at ih;rw [aZ bA];unfold hO;by_cases ha : l[i] < 0
   ·have C4 : ¬ 0 <= l[i] := by omega
    simp only [C4,decide_false,fE,aX,if_false];exact dj (by unfold BZ; simp [ze,zd,zc,zb,za,y9,y8,y7,h1,bA,ha,aa,ak,az,idx])
   have C4 : 0 <= l[i] := by omega
   by_cases hb : m <= l[i]
   ·have gr : ¬ l[i] < m := by omega
    simp only [C4,gr,decide_true,decide_false,fE,eD,aX,if_false];exact dj (by unfold BZ; simp [ze,zd,zc,zb,za,y9,y8,y7,h1,bA,ha,hb,aa,ak,az,idx])
   have gr : l[i] < m := by omega
   by_cases hc : prev l i < l[i]
   ·simp only [C4,gr,hc,decide_true,eD];cases i with
    | zero => exact (ba (by unfold BZ; simp [ze,zd,zc,zb,za,y9,y8,y7,h1,bA,ha,hb,hw,aa,ak,az,idx])).trans ih
    | succ j =>
      rw [ot l j (by omega)] at hc;have hj : j < l.length := by omega
      have PG : (j : Int) < l.length := by omega
      have Vx : ¬ l[j + 1] <= l[j] := by omega
      have hp : (0 : Int) < (j : Int) + 1 := by omega
      have PF : (0 : Int) <= (j : Int) + 1 := by omega
      have UE := oQ (i := j) (by omega);have h1 : (j : Int) + 1 < l.length := by omega
      have hw : IntKind.i64.wrap ((j : Int) + 1 + 1) = (j : Int) + 1 + 1 := Dd (j := j + 1 + 1) rfl (by omega);exact (ba (by unfold BZ; simp [ze,zd,zc,zb,za,y9,y8,y7,h1,bA,ha,hb,Vx,hj,PG,hp,PF,hw,UE,aa,ak,az,idx])).trans ih
   ·simp only [C4,gr,hc,decide_true,decide_false,fE,eD,aX,if_false];cases i with
    | zero => exact absurd (show prev l 0 < l[0] by rw [prev_zero]; omega) hc
    | succ j =>
      rw [ot l j (by omega)] at hc;have hj : j < l.length := by omega
      have PG : (j : Int) < l.length := by omega
      have Vx : l[j + 1] <= l[j] := by omega
      have hp : (0 : Int) < (j : Int) + 1 := by omega
      have PF : (0 : Int) <= (j : Int) + 1 := by omega
      have UE := oQ (i := j) (by omega);have h1 : (j : Int) + 1 < l.length := by omega
      have hw : IntKind.i64.wrap ((j : Int) + 1 + 1) = (j : Int) + 1 + 1 := Dd (j := j + 1 + 1) rfl (by omega);exact dj (by unfold BZ; simp [ze,zd,zc,zb,za,y9,y8,y7,h1,bA,ha,hb,Vx,hj,PG,hp,PF,hw,UE,aa,ak,az,idx])
theorem Aq (m : Int) (l : List Int) (hl : l.length <= 9223372036854775807) : bk aA nJF [.list 1 (ints l),.int .i64 m] [] = some (.bool (hO m (-1) l),[]) := by
 rw [aM oJF sJF (an rfl)];have h := Dg m l hl l.length 0 (by omega);rw [jj,prev_zero,bX] at h;unfold qJF cJF;by_cases hx : hO m (-1) l = true
 ·simp [ze,zd,zc,zb,za,y9,y8,y7,h,hx,aa,aP,aK]
 ·simp [ze,zd,zc,zb,za,y9,y8,y7,h,hx,aa,aP,aK]
theorem Mb (x : Int) (l : List Int) (hl : l.length < 4294967296) : ∀ n i : Nat,i + n = l.length -> aU aA 0 (.loop M4) ⟨[(0,.list 1 (ints l)),(1,.int .i64 x),(5,.int .i64 i)],[]⟩ =
  some (.exit 0,⟨[(0,.list 1 (ints l)),(1,.int .i64 x),(5,.int .i64 (i + pos x (l.drop i) : Nat)),(18,.bool false)],[]⟩)
 | 0,i,hi => by
   have e : i = l.length := by omega
   subst e;rw [bz];exact bC (by unfold M4; simp [Ew,Eu,Er,Ep,Eo,En,Em,El,pos,aa,idx])
 | n + 1,i,hi => by
   have bA : i < l.length := by omega
   have h1 : (i : Int) < l.length := by omega
   have ih := Mb x l hl n (i + 1) (by omega);have hw := fm (i := i) (by omega);rw [aZ bA];unfold pos;by_cases hx : l[i] < x
   ·have e : i + (pos x (l.drop (i + 1)) + 1) = i + 1 + pos x (l.drop (i + 1)) := by omega
    rw [if_pos hx,e];exact (ba (by unfold M4; simp [Ew,Eu,Er,Ep,Eo,En,Em,El,h1,bA,hx,hw,aa,ak,az,idx])).trans ih
   ·rw [if_neg hx];exact bC (by unfold M4; simp [Ew,Eu,Er,Ep,Eo,En,Em,El,h1,bA,hx,aa,ak,az,idx])
/- What functions of cohesionref02 return: put, Of, Range, Union, Meet, Minus, Within, Cmp, Same. -/
theorem RR (x : Int) (l : List Int) (hl : l.length < 4294967295) : bk aA nJ4 [.list 1 (ints l),.int .i64 x] [] = some (.list 1 (ints (pe x l)),[]) := by
 rw [aM oJ4 sJ4 (an rfl),Mc];have h := Mb x l (by omega) l.length 0 (by omega);rw [jj,bX,Nat.zero_add] at h;have hp := WH x l;generalize pos x l = p at h hp ⊢;have hq : (p : Int) <= l.length := by omega
 have hm : min p l.length = p := by omega
 have hL1 : p <= 4294967296 := by omega
 have hL2 : p + 1 <= 4294967296 := by omega
 have hL3 : p + 1 + (l.length - p) <= 4294967296 := by omega
 unfold qJ4 cJ4;by_cases bA : p < l.length
 ·have h1 : (p : Int) < l.length := by omega
  by_cases hx : l[p] = x
  ·rw [if_pos (by rw [aI bA,hx])];simp [Ew,Eu,Er,Ep,Eo,En,Em,El,h,h1,bA,hx,aa,ak,az,idx,aP,aK]
  ·rw [if_neg (by rw [aI bA]; simpa using hx)];simp [Ew,Eu,Er,Ep,Eo,En,Em,El,h,h1,bA,hx,hp,hq,hm,hL1,hL2,hL3,aa,ak,az,idx,aP,aK,bR,fy,ez,M6,lz,bg,cB];simp (disch := (simp only [bg,bu,cB,hD,c8,dP] <;> omega)) only [bL,ya,GH,du,nX]
 ·have h1 : ¬ (p : Int) < l.length := by omega
  rw [if_neg (by rw [List.getElem?_eq_none (by omega)]; simp)];simp [Ew,Eu,Er,Ep,Eo,En,Em,El,h,h1,bA,hp,hq,hm,hL1,hL2,hL3,aa,ak,az,idx,aP,aK,bR,fy,ez,M6,lz,bg,cB];simp (disch := (simp only [bg,bu,cB,hD,c8,dP] <;> omega)) only [bL,ya,GH,du,nX]
theorem Sd (l : List Int) (hl : l.length < 4294967295) : ∀ (n i : Nat) (o : List Int),i + n = l.length -> o.length <= i -> aU aA 0 (.loop Fl) ⟨[(3,.list 1 (ints o)),(6,.list 1 (ints l)),(7,.int .i64 l.length),(8,.int .i64 i)],[]⟩ =
  some (.exit 0,⟨[(3,.list 1 (ints ((l.drop i).foldl (fun o x => pe x o) o))),(6,.list 1 (ints l)),(7,.int .i64 l.length),(8,.int .i64 l.length),(9,.bool false)],[]⟩)
 | 0,i,o,hi,ho => by
   have e : i = l.length := by omega
   subst e;rw [bz];exact bC (by unfold Fl; simp [D9,D8,D7,D6,D5,D4,D3,D2])
 | n + 1,i,o,hi,ho => by
   have bA : i < l.length := by omega
   have h1 : (i : Int) < l.length := by omega
   have hw := fm (i := i) (by omega);have hp := RR l[i] o (by omega);have pR := Me l[i] o;have ih := Sd l hl n (i + 1) (pe l[i] o) (by omega) (by omega);rw [aZ bA,List.foldl_cons];exact (ba (by unfold Fl; simp [D9,D8,D7,D6,D5,D4,D3,D2,h1,bA,hw,hp,sJ4,iJ4,lJ4,aa,ak,az,idx])).trans ih
theorem W2 (l : List Int) (hl : l.length < 4294967295) : aU aA 0 (.loop Fl) ⟨[(3,.own 1 []),(6,.list 1 (ints l)),(7,.int .i64 l.length),(8,.int .i64 0)],[]⟩ =
  some (.exit 0,⟨[(3,if l = [] then .own 1 [] else .list 1 (ints (cZ l))),(6,.list 1 (ints l)),(7,.int .i64 l.length),(8,.int .i64 l.length),(9,.bool false)],[]⟩) := by
 cases l with
 | nil => exact bC (by unfold Fl; simp [D9,D8,D7,D6,D5,D4,D3,D2,cD])
 | cons a r =>
   have hp := RR a [] (by simp);have ih := Sd (a :: r) hl r.length 1 (pe a []) (by simp; omega) (by simp [pe]);rw [<- adB,if_neg (by simp)];rw [cD] at hp;refine (ba (s' := ⟨[(3,.list 1 (ints (pe a []))),(6,.list 1 (ints (a :: r))),(7,.int .i64 (a :: r).length),(8,.int .i64 ((1 : Nat) : Int))],[]⟩) ?_).trans (ih.trans ?_)
   ·have h1 : (0 : Int) < (r.length : Int) + 1 := by omega
    unfold Fl;simp [D9,D8,D7,D6,D5,D4,D3,D2,h1,hp,sJ4,iJ4,lJ4,aa,kv,idx]
   ·rfl
theorem W0 (l : List Int) (hl : l.length < 4294967295) : bk aA nJL [.list 1 (ints l)] [] = some (.list 1 (ints (cZ l)),[]) := by
 rw [aM oJL sJL (an rfl)];have h := W2 l hl;unfold qJL cJL;by_cases hx : l = []
 ·subst hx;rw [if_pos rfl] at h;simp only [cD,dP,jj] at h;simp [D9,D8,D7,D6,D5,D4,D3,D2,h,cD,aP,aK];rfl
 ·rw [if_neg hx] at h;simp [D9,D8,D7,D6,D5,D4,D3,D2,h,aa,aP,aK]
theorem AQ (l b : List Int) (hl : l.length < 4294967295) (hb : b.length < 4294967295) : ∀ (n i : Nat) (o : List Int),i + n = l.length -> o.length <= i -> aU aA 0 (.loop MP) ⟨[(1,.list 1 (ints b)),(5,.own 1 (ints o)),(9,.list 1 (ints l)),(10,.int .i64 l.length),(11,.int .i64 i)],[]⟩ =
  some (.exit 0,⟨[(1,.list 1 (ints b)),(5,.own 1 (ints (o ++ (l.drop i).filter fun x => decide (x ∈ b)))),(9,.list 1 (ints l)),(10,.int .i64 l.length),(11,.int .i64 l.length),(12,.bool false)],[]⟩)
 | 0,i,o,hi,ho => by
   have e : i = l.length := by omega
   subst e;rw [bz,List.filter_nil,iv];exact bC (by unfold MP; simp [Lj,Li,Lh,Lg,Ld,Lc,Lb,La,K9])
 | n + 1,i,o,hi,ho => by
   have bA : i < l.length := by omega
   have h1 : (i : Int) < l.length := by omega
   have hw := fm (i := i) (by omega);have hh := zQ l[i] b (by omega);have hL : o.length + 1 <= 4294967296 := by omega
   rw [aZ bA,GK];by_cases hx : l[i] ∈ b
   ·have ih := AQ l b hl hb n (i + 1) (o ++ [l[i]]) (by omega) (by simp; omega);rw [du] at ih;rw [if_pos (by simpa using hx)];exact (ba (by unfold MP; simp [Lj,Li,Lh,Lg,Ld,Lc,Lb,La,K9,h1,bA,hw,hh,hx,hL,lz,VY,Zg,Zf,aa,ak,az,idx,ez,bR])).trans ih
   ·have ih := AQ l b hl hb n (i + 1) o (by omega) (by omega);rw [if_neg (by simpa using hx)];exact (ba (by unfold MP; simp [Lj,Li,Lh,Lg,Ld,Lc,Lb,La,K9,h1,bA,hw,hh,hx,hL,lz,VY,Zg,Zf,aa,ak,az,idx,ez,bR])).trans ih
theorem Xj (a b : List Int) (ha : a.length < 4294967295) (hb : b.length < 4294967295) : bk aA nJl [.list 1 (ints a),.list 1 (ints b)] [] = some (.list 1 (ints (meet a b)),[]) := by
 rw [aM oJl sJl (an rfl)];have hs := kr a;have h := AQ (cZ a) b (by omega) hb (cZ a).length 0 [] (by omega) (by simp);have ho := W0 a ha;have e : (cZ a).filter (fun x => decide (x ∈ b)) = meet a b := oR ((iD a).1.filter _) (vJ _ _).1 fun x => by rw [(vJ _ _).2,Jf,(iD _).2]; simp
 rw [jj,bX,jI,e,cD] at h;unfold qJl cJl;simp [Lj,Li,Lh,Lg,Ld,Lc,Lb,La,K9,h,ho,lz,cD,aa,bR,aP,aK,sJL,iJL,lJL]
theorem xG (l b : List Int) (hl : l.length < 4294967295) (hb : b.length < 4294967295) : ∀ (n i : Nat) (o : List Int),i + n = l.length -> o.length <= i -> aU aA 0 (.loop M3) ⟨[(1,.list 1 (ints b)),(5,.own 1 (ints o)),(9,.list 1 (ints l)),(10,.int .i64 l.length),(11,.int .i64 i)],[]⟩ =
  some (.exit 0,⟨[(1,.list 1 (ints b)),(5,.own 1 (ints (o ++ (l.drop i).filter fun x => !decide (x ∈ b)))),(9,.list 1 (ints l)),(10,.int .i64 l.length),(11,.int .i64 l.length),(12,.bool false)],[]⟩)
 | 0,i,o,hi,ho => by
   have e : i = l.length := by omega
   subst e;rw [bz,List.filter_nil,iv];exact bC (by unfold M3; simp [L6,L5,L4,LZ,LY,LX,LV,LU,LS])
 | n + 1,i,o,hi,ho => by
   have bA : i < l.length := by omega
   have h1 : (i : Int) < l.length := by omega
   have hw := fm (i := i) (by omega);have hh := zQ l[i] b (by omega);have hL : o.length + 1 <= 4294967296 := by omega
   rw [aZ bA,GK];by_cases hx : l[i] ∈ b
   ·have ih := xG l b hl hb n (i + 1) o (by omega) (by omega);rw [if_neg (by simpa using hx)];exact (ba (by unfold M3; simp [L6,L5,L4,LZ,LY,LX,LV,LU,LS,h1,bA,hw,hh,hx,hL,lz,VY,Zg,Zf,aa,ak,az,idx,ez,bR])).trans ih
   ·have ih := xG l b hl hb n (i + 1) (o ++ [l[i]]) (by omega) (by simp; omega);rw [du] at ih;rw [if_pos (by simpa using hx)];exact (ba (by unfold M3; simp [L6,L5,L4,LZ,LY,LX,LV,LU,LS,h1,bA,hw,hh,hx,hL,lz,VY,Zg,Zf,aa,ak,az,idx,ez,bR])).trans ih
theorem Uo (a b : List Int) (ha : a.length < 4294967295) (hb : b.length < 4294967295) : bk aA nJ8 [.list 1 (ints a),.list 1 (ints b)] [] = some (.list 1 (ints (minus a b)),[]) := by
 rw [aM oJ8 sJ8 (an rfl)];have hs := kr a;have h := xG (cZ a) b (by omega) hb (cZ a).length 0 [] (by omega) (by simp);have ho := W0 a ha;have e : (cZ a).filter (fun x => !decide (x ∈ b)) = minus a b := oR ((iD a).1.filter _) (kc _ _).1 fun x => by rw [(kc _ _).2,Jf,(iD _).2]; simp
 rw [jj,bX,jI,e,cD] at h;unfold qJ8 cJ8;simp [L6,L5,L4,LZ,LY,LX,LV,LU,LS,h,ho,lz,cD,aa,bR,aP,aK,sJL,iJL,lJL]
theorem BE (l b : List Int) (hl : l.length < 4294967295) (hb : b.length < 4294967295) : ∀ (n i : Nat),i + n = l.length -> aU aA 0 (.loop MY) ⟨[(1,.list 1 (ints b)),(7,.list 1 (ints l)),(8,.int .i64 l.length),(9,.int .i64 i)],[]⟩ =
  if (l.drop i).all (fun x => decide (x ∈ b)) = true then some (.exit 0,⟨[(1,.list 1 (ints b)),(7,.list 1 (ints l)),(8,.int .i64 l.length),(9,.int .i64 l.length),(10,.bool false)],[]⟩) else some (.ret,⟨[(4,.bool false)],[]⟩)
 | 0,i,hi => by
   have e : i = l.length := by omega
   subst e;rw [bz,List.all_nil,if_pos rfl];exact bC (by unfold MY; simp [HS,HR,HQ,HP,HO,HN,HM,HK])
 | n + 1,i,hi => by
   have bA : i < l.length := by omega
   have h1 : (i : Int) < l.length := by omega
   have hw := fm (i := i) (by omega);have hh := zQ l[i] b (by omega);rw [aZ bA,List.all_cons];by_cases hx : l[i] ∈ b
   ·have ih := BE l b hl hb n (i + 1) (by omega);simp only [hx,decide_true,eD];exact (ba (by unfold MY; simp [HS,HR,HQ,HP,HO,HN,HM,HK,h1,bA,hw,hh,hx,VY,Zg,Zf,aa,ak,az,idx])).trans ih
   ·simp only [hx,decide_false,fE,aX,if_false];exact dj (by unfold MY; simp [HS,HR,HQ,HP,HO,HN,HM,HK,h1,bA,hw,hh,hx,VY,Zg,Zf,aa,ak,az,idx])
theorem De (a b : List Int) (ha : a.length < 4294967295) (hb : b.length < 4294967295) : bk aA nJO [.list 1 (ints a),.list 1 (ints b)] [] = some (.bool (a.all fun x => decide (x ∈ b)),[]) := by
 rw [aM oJO sJO (an rfl)];have h := BE a b ha hb a.length 0 (by omega);rw [jj,bX] at h;unfold qJO cJO;cases hx : a.all fun x => decide (x ∈ b)
 ·rw [hx] at h;simp [HS,HR,HQ,HP,HO,HN,HM,HK,h,aa,aP,aK]
 ·rw [hx] at h;simp [HS,HR,HQ,HP,HO,HN,HM,HK,h,aa,aP,aK]
def lM (n : Int) : List Int := (pN (min n.toNat 64)).map fun i => ((i : Nat) : Int)
theorem DC (m : Int) : ∀ (n i : Nat),i + n = min m.toNat 64 -> aU aA 0 (.loop M0) ⟨[(0,.int .i64 m),(3,.own 1 (ints ((pN i).map fun i => ((i : Nat) : Int)))),(4,.int .i64 i)],[]⟩ =
  some (.exit 0,⟨[(0,.int .i64 m),(3,.own 1 (ints (lM m))),(4,.int .i64 (min m.toNat 64 : Nat)),(11,.bool false)],[]⟩)
 | 0,i,hi => by
   have e : i = min m.toNat 64 := by omega
   have e2 : ((pN i).map fun i => ((i : Nat) : Int)) = lM m := by rw [e]; rfl
   rw [e2,<- e];by_cases h : (i : Int) < m
   ·have h2 : ¬ (i : Int) < 64 := by omega
    exact bC (by unfold M0; simp [LR,LQ,LP,LO,LN,LM,LL,h,h2])
   ·exact bC (by unfold M0; simp [LR,LQ,LP,LO,LN,LM,LL,h])
 | n + 1,i,hi => by
   have h : (i : Int) < m := by omega
   have h2 : (i : Int) < 64 := by omega
   have hw := fm (i := i) (by omega);have hL : i + 1 <= 4294967296 := by omega
   have ih := DC m n (i + 1) (by omega);have e : ((pN (i + 1)).map fun i => ((i : Nat) : Int)) = ((pN i).map fun i => ((i : Nat) : Int)) ++ [(i : Int)] := by rw [List.range_succ,List.map_append]; rfl
   rw [e] at ih;generalize hr : ((pN i).map fun i => ((i : Nat) : Int)) = r at ih ⊢;have hrl : r.length = i := by rw [<- hr]; simp
   exact (ba (by unfold M0; simp [LR,LQ,LP,LO,LN,LM,LL,h,h2,hw,hL,hrl,OG hrl,lz,aa,ez,bR])).trans ih
theorem TZ (m : Int) : bk aA nJ9 [.int .i64 m] [] = some (.list 1 (ints (lM m)),[]) := by
 rw [aM oJ9 sJ9 (an rfl)];have h := DC m (min m.toNat 64) 0 (by omega);rw [jj,List.range_zero,List.map_nil,cD] at h;unfold qJ9 cJ9;simp [LR,LQ,LP,LO,LN,LM,LL,h,aa,bR,aP,aK]
/- What comparisons return; nodeset.Valid, Has, Cmp, Range. -/
def z8 : List Int -> List Int -> Option Int
 | [],_ => none
 | _ :: _,[] => some 1
 | x :: r,y :: s => if y < x then some 1 else if x < y then some (-1) else z8 r s
theorem Tb : ∀ a b : List Int,dJ a b = (z8 a b).getD (if a.length < b.length then -1 else 0)
 | [],[] => rfl
 | [],_ :: _ => by simp [dJ,z8]
 | _ :: _,[] => rfl
 | x :: r,y :: s => by
   have ih := Tb r s;unfold dJ z8;split
   ·rfl
   ·split
    ·rfl
    ·rw [ih]; simp
theorem NK (a b : List Int) (hl : a.length <= 9223372036854775807) (hb : b.length <= 9223372036854775807) : ∀ (n i : Nat),i + n = a.length -> aU aA 0 (.loop Fh) ⟨[(0,.list 1 (ints a)),(1,.list 1 (ints b)),(7,.int .i64 a.length),(8,.int .i64 i)],[]⟩ =
  match z8 (a.drop i) (b.drop i) with
  | some v => some (.ret,⟨[(4,.int .i64 v)],[]⟩)
  | none => some (.exit 0,⟨[(0,.list 1 (ints a)),(1,.list 1 (ints b)),(7,.int .i64 a.length),(8,.int .i64 a.length),(9,.bool false)],[]⟩)
 | 0,i,hi => by
   have e : i = a.length := by omega
   subst e;rw [bz];unfold z8;exact bC (by unfold Fh; simp [yH,yG,yF,yE,yD,yC,yB,yA,yz,yy,sB,sA])
 | n + 1,i,hi => by
   have bA : i < a.length := by omega
   have h1 : (i : Int) < a.length := by omega
   have hw := fm (i := i) (by omega);have ih := NK a b hl hb n (i + 1) (by omega);rw [aZ bA];by_cases hk : i < b.length
   ·have h2 : (i : Int) < b.length := by omega
    have h2' : ¬ (b.length : Int) <= i := by omega
    rw [aZ hk];unfold z8;by_cases hg : b[i] < a[i]
    ·rw [if_pos hg];exact dj (by unfold Fh; simp [yH,yG,yF,yE,yD,yC,yB,yA,yz,yy,sB,sA,h1,bA,h2,h2',hk,hg,aa,ak,az,idx])
    ·rw [if_neg hg];by_cases hs : a[i] < b[i]
     ·rw [if_pos hs];exact dj (by unfold Fh; simp [yH,yG,yF,yE,yD,yC,yB,yA,yz,yy,sB,sA,h1,bA,h2,h2',hk,hg,hs,aa,ak,az,idx])
     ·rw [if_neg hs];exact (ba (by unfold Fh; simp [yH,yG,yF,yE,yD,yC,yB,yA,yz,yy,sB,sA,h1,bA,h2,h2',hk,hg,hs,hw,aa,ak,az,idx])).trans ih
   ·have h2' : (b.length : Int) <= i := by omega
    have e0 : b.drop i = [] := List.drop_eq_nil_of_le (by omega);rw [e0];unfold z8;exact dj (by unfold Fh; simp [yH,yG,yF,yE,yD,yC,yB,yA,yz,yy,sB,sA,h1,bA,h2',hk,aa,ak,az,idx])
theorem C8 (a b : List Int) (hl : a.length <= 9223372036854775807) (hb : b.length <= 9223372036854775807) : bk aA Vu [.list 1 (ints a),.list 1 (ints b)] [] = some (.int .i64 (dJ a b),[]) := by
 rw [aM oJy sJy (an rfl),Tb];have h := NK a b hl hb a.length 0 (by omega);rw [jj,bX,bX] at h;unfold qJy cJy;cases hx : z8 a b with
 | some v =>
   rw [hx] at h;simp only at h;rw [Option.getD_some];simp [yH,yG,yF,yE,yD,yC,yB,yA,yz,yy,sB,sA,h,aa,aP,aK]
 | none =>
   rw [hx] at h;simp only at h;rw [Option.getD_none];by_cases bA : a.length < b.length
   ·have h1 : (a.length : Int) < b.length := by omega
    simp [yH,yG,yF,yE,yD,yC,yB,yA,yz,yy,sB,sA,h,bA,h1,aa,aP,aK]
   ·have h1 : ¬ (a.length : Int) < b.length := by omega
    simp [yH,yG,yF,yE,yD,yC,yB,yA,yz,yy,sB,sA,h,bA,h1,aa,aP,aK]
theorem BT (m : Int) (l : List Int) (hl : l.length <= 9223372036854775807) : ∀ n i : Nat,i + n = l.length -> aU aA 0 (.loop B0) ⟨[(0,.list 1 (ints l)),(1,.int .i64 m),(7,.list 1 (ints l)),(8,.int .i64 l.length),(9,.int .i64 i)],[]⟩ =
  if hO m (prev l i) (l.drop i) = true then some (.exit 0,⟨[(0,.list 1 (ints l)),(1,.int .i64 m),(7,.list 1 (ints l)),(8,.int .i64 l.length),(9,.int .i64 l.length),(10,.bool false)],[]⟩) else some (.ret,⟨[(4,.bool false)],[]⟩)
 | 0,i,hi => by
   have e : i = l.length := by omega
   subst e;rw [bz];exact bC (by unfold B0; simp [zm,zl,zk,zj,zi,zh,zg,zf])
 | n + 1,i,hi => by
   have bA : i < l.length := by omega
   have h1 : (i : Int) < l.length := by omega
   have ih := BT m l hl n (i + 1) (by omega);have hw := fm (i := i) (by omega);rw [ot l i bA] at ih;rw [aZ bA];unfold hO;by_cases ha : l[i] < 0
   ·have C4 : ¬ 0 <= l[i] := by omega
    simp only [C4,decide_false,fE,aX,if_false];exact dj (by unfold B0; simp [zm,zl,zk,zj,zi,zh,zg,zf,h1,bA,ha,aa,ak,az,idx])
   have C4 : 0 <= l[i] := by omega
   by_cases hb : m <= l[i]
   ·have gr : ¬ l[i] < m := by omega
    simp only [C4,gr,decide_true,decide_false,fE,eD,aX,if_false];exact dj (by unfold B0; simp [zm,zl,zk,zj,zi,zh,zg,zf,h1,bA,ha,hb,aa,ak,az,idx])
   have gr : l[i] < m := by omega
   by_cases hc : prev l i < l[i]
   ·simp only [C4,gr,hc,decide_true,eD];cases i with
    | zero => exact (ba (by unfold B0; simp [zm,zl,zk,zj,zi,zh,zg,zf,h1,bA,ha,hb,hw,aa,ak,az,idx])).trans ih
    | succ j =>
      rw [ot l j (by omega)] at hc;have hj : j < l.length := by omega
      have PG : (j : Int) < l.length := by omega
      have Vx : ¬ l[j + 1] <= l[j] := by omega
      have hp : (0 : Int) < (j : Int) + 1 := by omega
      have PF : (0 : Int) <= (j : Int) + 1 := by omega
      have UE := oQ (i := j) (by omega);have h1 : (j : Int) + 1 < l.length := by omega
      have hw : IntKind.i64.wrap ((j : Int) + 1 + 1) = (j : Int) + 1 + 1 := Dd (j := j + 1 + 1) rfl (by omega);exact (ba (by unfold B0; simp [zm,zl,zk,zj,zi,zh,zg,zf,h1,bA,ha,hb,Vx,hj,PG,hp,PF,hw,UE,aa,ak,az,idx])).trans ih
   ·simp only [C4,gr,hc,decide_true,decide_false,fE,eD,aX,if_false];cases i with
    | zero => exact absurd (show prev l 0 < l[0] by rw [prev_zero]; omega) hc
    | succ j =>
      rw [ot l j (by omega)] at hc;have hj : j < l.length := by omega
      have PG : (j : Int) < l.length := by omega
      have Vx : l[j + 1] <= l[j] := by omega
      have hp : (0 : Int) < (j : Int) + 1 := by omega
      have PF : (0 : Int) <= (j : Int) + 1 := by omega
      have UE := oQ (i := j) (by omega);have h1 : (j : Int) + 1 < l.length := by omega
      have hw : IntKind.i64.wrap ((j : Int) + 1 + 1) = (j : Int) + 1 + 1 := Dd (j := j + 1 + 1) rfl (by omega);exact dj (by unfold B0; simp [zm,zl,zk,zj,zi,zh,zg,zf,h1,bA,ha,hb,Vx,hj,PG,hp,PF,hw,UE,aa,ak,az,idx])
theorem pn (m : Int) (l : List Int) (hl : l.length <= 9223372036854775807) : bk aA nJA [.list 1 (ints l),.int .i64 m] [] = some (.bool (hO m (-1) l),[]) := by
 rw [aM oJA ZF (an rfl)];have h := BT m l hl l.length 0 (by omega);rw [jj,prev_zero,bX] at h;unfold qJA cJA;by_cases hx : hO m (-1) l = true
 ·simp [zm,zl,zk,zj,zi,zh,zg,zf,h,hx,aa,aP,aK]
 ·simp [zm,zl,zk,zj,zi,zh,zg,zf,h,hx,aa,aP,aK]
theorem Sm (x : Int) : bk aA Mt [.int .i64 x] [] = some (.bool false,[]) := by
 rw [aM oJa8 ZE (an rfl)];unfold ZW cJa8;simp [Wk,Wj,aP,aK]
def NM (x y : Int) : Int := if x < y then -1 else if y < x then 1 else 0
theorem NL (x y : Int) : bk aA Mu [.int .i64 x,.int .i64 y] [] = some (.int .i64 (NM x y),[]) := by
 rw [aM oJa5 sJa5 (an rfl)];have hx := Sm x;have hy := Sm y;unfold ZY cJa5 NM;by_cases h1 : x < y
 ·simp [JA,Jz,Jy,Jx,Jw,Jv,Ju,Jt,Js,Jr,CU,CT,CS,CR,hx,hy,h1,ZE,iJa8,lJa8,aP,aK]
 ·by_cases h2 : y < x
  ·simp [JA,Jz,Jy,Jx,Jw,Jv,Ju,Jt,Js,Jr,CU,CT,CS,CR,hx,hy,h1,h2,ZE,iJa8,lJa8,aP,aK]
  ·simp [JA,Jz,Jy,Jx,Jw,Jv,Ju,Jt,Js,Jr,CU,CT,CS,CR,hx,hy,h1,h2,ZE,iJa8,lJa8,aP,aK]
end Go.BmP
