/- What functions of cohesionref02 return: Has, Valid, put, Of. -/
import Derived.Test.YtmoginoicilobabGreatUseM
import Derived.Test.YtmoginoicilobabGreatCfS
import Derived.Test.YtmoginoicilobabGreatRunX
import Derived.Test.YtmoginoicilobabGreatGrfP
set_option linter.unusedSimpArgs false
set_option linter.unusedVariables false
set_option maxRecDepth 100000
open List renaming append_assoc → bK, drop_eq_getElem_cons → bt, drop_length → dB, drop_zero → dN, getElem?_eq_getElem → ai, length_append → bX, length_cons → bY, length_drop → c9, length_nil → iF, length_singleton → jZ, length_take → bh, singleton_append → jY, take_of_length_le → aL, take_take → yn
open Nat renaming le_of_ble_eq_true → ae, min_self → GH
namespace Go.BmP
open Go.Am Go.Bm
theorem OG (x : Int) (l : List Int) (hl : l.length < 4294967297) : ∀ n i : Nat,i + n = l.length -> bL ak 0 (.loop Fh) ⟨[(1,.int .i64 x),(7,.list 1 (ints l)),(8,.int .i64 l.length),(9,.int .i64 i)],[]⟩ =
  if x ∈ l.drop i then some (.ret,⟨[(4,.bool true)],[]⟩) else some (.exit 0,⟨[(1,.int .i64 x),(7,.list 1 (ints l)),(8,.int .i64 l.length),(9,.int .i64 l.length),(10,.bool false)],[]⟩)
 | 0,i,hi => by
   have e : i = l.length := by omega
   subst e;rw [dB];exact cj (by unfold Fh; simp [zY,zX,zW,zV,zU,zT,zS,zR])
 | n + 1,i,hi => by
   have bO : i < l.length := by omega
   have h1 : (i : Int) < l.length := by omega
   have ih := OG x l hl n (i + 1) (by omega);have hw := fT (i := i) (by omega);rw [bt bO];by_cases hx : l[i] = x
   ·rw [if_pos (by simp [hx])];exact gr (by unfold Fh; simp [zY,zX,zW,zV,zU,zT,zS,zR,h1,bO,hx,aj,aM,bk,idx])
   ·have hx2 : ¬ x = l[i] := fun e => hx e.symm;simp only [List.mem_cons,hx2,false_or];exact (bG (by unfold Fh; simp [zY,zX,zW,zV,zU,zT,zS,zR,h1,bO,hx,hw,aj,aM,bk,idx])).trans ih
theorem acw (x : Int) (l : List Int) (hl : l.length < 4294967297) : aY ak NS [.list 1 (ints l),.int .i64 x] [] = some (.bool (decide (x ∈ l)),[]) := by
 rw [aB oQb0 sQb0 (ae rfl)];have h := OG x l hl l.length 0 (by omega);rw [iR,dN] at h;unfold qQb0 cQb0;by_cases hx : x ∈ l
 ·simp [zY,zX,zW,zV,zU,zT,zS,zR,h,hx,aj,ba,aZ]
 ·simp [zY,zX,zW,zV,zU,zT,zS,zR,h,hx,aj,ba,aZ]
theorem Nu (x : Int) (l : List Int) (hl : l.length < 4294967296) : ∀ n i : Nat,i + n = l.length -> bL ak 0 (.loop Ff) ⟨[(0,.list 1 (ints l)),(1,.int .i64 x),(5,.int .i64 i)],[]⟩ =
  some (.exit 0,⟨[(0,.list 1 (ints l)),(1,.int .i64 x),(5,.int .i64 (i + pos x (l.drop i) : Nat)),(18,.bool false)],[]⟩)
 | 0,i,hi => by
   have e : i = l.length := by omega
   subst e;rw [dB];exact cj (by unfold Ff; simp [wM,wL,wK,wJ,wI,wH,wG,wF,pos,aj,idx])
 | n + 1,i,hi => by
   have bO : i < l.length := by omega
   have h1 : (i : Int) < l.length := by omega
   have ih := Nu x l hl n (i + 1) (by omega);have hw := fT (i := i) (by omega);rw [bt bO];unfold pos;by_cases hx : l[i] < x
   ·have e : i + (pos x (l.drop (i + 1)) + 1) = i + 1 + pos x (l.drop (i + 1)) := by omega
    rw [if_pos hx,e];exact (bG (by unfold Ff; simp [wM,wL,wK,wJ,wI,wH,wG,wF,h1,bO,hx,hw,aj,aM,bk,idx])).trans ih
   ·rw [if_neg hx];exact cj (by unfold Ff; simp [wM,wL,wK,wJ,wI,wH,wG,wF,h1,bO,hx,aj,aM,bk,idx])
/- What functions of cohesionref02 return: put, Of, Range, Union, Meet, Minus, Within, Cmp, Same. -/
theorem Tg (x : Int) (l : List Int) (hl : l.length < 4294967295) : aY ak NL [.list 1 (ints l),.int .i64 x] [] = some (.list 1 (ints (oE x l)),[]) := by
 rw [aB oQc1 sQc1 (ae rfl),Nv];have h := Nu x l (by omega) l.length 0 (by omega);rw [iR,dN,Nat.zero_add] at h;have hp := Zo x l;generalize pos x l = p at h hp ⊢;have hq : (p : Int) <= l.length := by omega
 have hm : min p l.length = p := by omega
 have hL1 : p <= 4294967296 := by omega
 have hL2 : p + 1 <= 4294967296 := by omega
 have hL3 : p + 1 + (l.length - p) <= 4294967296 := by omega
 unfold qQc1 cQc1;by_cases bO : p < l.length
 ·have h1 : (p : Int) < l.length := by omega
  by_cases hx : l[p] = x
  ·rw [if_pos (by rw [ai bO,hx])];simp [wM,wL,wK,wJ,wI,wH,wG,wF,h,h1,bO,hx,aj,aM,bk,idx,ba,aZ]
  ·rw [if_neg (by rw [ai bO]; simpa using hx)];simp [wM,wL,wK,wJ,wI,wH,wG,wF,h,h1,bO,hx,hp,hq,hm,hL1,hL2,hL3,aj,aM,bk,idx,ba,aZ,gQ,H7,jf,Fk,jQ,bh,c9];simp (disch := (simp only [bh,bX,c9,jZ,bY,iF] <;> omega)) only [aL,yn,GH,bK,jY]
 ·have h1 : ¬ (p : Int) < l.length := by omega
  rw [if_neg (by rw [List.getElem?_eq_none (by omega)]; simp)];simp [wM,wL,wK,wJ,wI,wH,wG,wF,h,h1,bO,hp,hq,hm,hL1,hL2,hL3,aj,aM,bk,idx,ba,aZ,gQ,H7,jf,Fk,jQ,bh,c9];simp (disch := (simp only [bh,bX,c9,jZ,bY,iF] <;> omega)) only [aL,yn,GH,bK,jY]
theorem Tx (l : List Int) (hl : l.length < 4294967295) : ∀ (n i : Nat) (o : List Int),i + n = l.length -> o.length <= i -> bL ak 0 (.loop xN) ⟨[(3,.list 1 (ints o)),(6,.list 1 (ints l)),(7,.int .i64 l.length),(8,.int .i64 i)],[]⟩ =
  some (.exit 0,⟨[(3,.list 1 (ints ((l.drop i).foldl (fun o x => oE x o) o))),(6,.list 1 (ints l)),(7,.int .i64 l.length),(8,.int .i64 l.length),(9,.bool false)],[]⟩)
 | 0,i,o,hi,ho => by
   have e : i = l.length := by omega
   subst e;rw [dB];exact cj (by unfold xN; simp [xf,xe,xd,w9,w8,wZ,wY,wX])
 | n + 1,i,o,hi,ho => by
   have bO : i < l.length := by omega
   have h1 : (i : Int) < l.length := by omega
   have hw := fT (i := i) (by omega);have hp := Tg l[i] o (by omega);have qO := Nw l[i] o;have ih := Tx l hl n (i + 1) (oE l[i] o) (by omega) (by omega);rw [bt bO,List.foldl_cons];exact (bG (by unfold xN; simp [xf,xe,xd,w9,w8,wZ,wY,wX,h1,bO,hw,hp,sQc1,iQc1,lQc1,eQc1,aj,aM,bk,idx])).trans ih
theorem ZH (l : List Int) (hl : l.length < 4294967295) : bL ak 0 (.loop xN) ⟨[(3,.own 1 []),(6,.list 1 (ints l)),(7,.int .i64 l.length),(8,.int .i64 0)],[]⟩ =
  some (.exit 0,⟨[(3,if l = [] then .own 1 [] else .list 1 (ints (m7 l))),(6,.list 1 (ints l)),(7,.int .i64 l.length),(8,.int .i64 l.length),(9,.bool false)],[]⟩) := by
 cases l with
 | nil => exact cj (by unfold xN; simp [xf,xe,xd,w9,w8,wZ,wY,wX,gW])
 | cons a r =>
   have hp := Tg a [] (by simp);have ih := Tx (a :: r) hl r.length 1 (oE a []) (by simp; omega) (by simp [oE]);rw [<- agW,if_neg (by simp)];rw [gW] at hp;refine (bG (s' := ⟨[(3,.list 1 (ints (oE a []))),(6,.list 1 (ints (a :: r))),(7,.int .i64 (a :: r).length),(8,.int .i64 ((1 : Nat) : Int))],[]⟩) ?_).trans (ih.trans ?_)
   ·have h1 : (0 : Int) < (r.length : Int) + 1 := by omega
    unfold xN;simp [xf,xe,xd,w9,w8,wZ,wY,wX,h1,hp,sQc1,iQc1,lQc1,eQc1,aj,lX,idx]
   ·rfl
theorem ZG (l : List Int) (hl : l.length < 4294967295) : aY ak Kh [.list 1 (ints l)] [] = some (.list 1 (ints (m7 l)),[]) := by
 rw [aB oQa9 sQa9 (ae rfl)];have h := ZH l hl;unfold qQa9 cQa9;by_cases hx : l = []
 ·subst hx;rw [if_pos rfl] at h;simp only [gW,iF,iR] at h;simp [xf,xe,xd,w9,w8,wZ,wY,wX,h,gW,ba,aZ];rfl
 ·rw [if_neg hx] at h;simp [xf,xe,xd,w9,w8,wZ,wY,wX,h,aj,ba,aZ]
theorem Ar (l b : List Int) (hl : l.length < 4294967295) (hb : b.length < 4294967295) : ∀ (n i : Nat) (o : List Int),i + n = l.length -> o.length <= i -> bL ak 0 (.loop Ov) ⟨[(1,.list 1 (ints b)),(5,.own 1 (ints o)),(9,.list 1 (ints l)),(10,.int .i64 l.length),(11,.int .i64 i)],[]⟩ =
  some (.exit 0,⟨[(1,.list 1 (ints b)),(5,.own 1 (ints (o ++ (l.drop i).filter fun x => decide (x ∈ b)))),(9,.list 1 (ints l)),(10,.int .i64 l.length),(11,.int .i64 l.length),(12,.bool false)],[]⟩)
 | 0,i,o,hi,ho => by
   have e : i = l.length := by omega
   subst e;rw [dB,List.filter_nil,List.append_nil];exact cj (by unfold Ov; simp [Nr,Nq,Np,Nn,Nl,Nk,Nj,Nh,Ng])
 | n + 1,i,o,hi,ho => by
   have bO : i < l.length := by omega
   have h1 : (i : Int) < l.length := by omega
   have hw := fT (i := i) (by omega);have hh := acw l[i] b (by omega);have hL : o.length + 1 <= 4294967296 := by omega
   rw [bt bO,List.filter_cons];by_cases hx : l[i] ∈ b
   ·have ih := Ar l b hl hb n (i + 1) (o ++ [l[i]]) (by omega) (by simp; omega);rw [bK] at ih;rw [if_pos (by simpa using hx)];exact (bG (by unfold Ov; simp [Nr,Nq,Np,Nn,Nl,Nk,Nj,Nh,Ng,h1,bO,hw,hh,hx,hL,jQ,sQb0,iQb0,lQb0,eQb0,aj,aM,bk,idx,jf,gQ])).trans ih
   ·have ih := Ar l b hl hb n (i + 1) o (by omega) (by omega);rw [if_neg (by simpa using hx)];exact (bG (by unfold Ov; simp [Nr,Nq,Np,Nn,Nl,Nk,Nj,Nh,Ng,h1,bO,hw,hh,hx,hL,jQ,sQb0,iQb0,lQb0,eQb0,aj,aM,bk,idx,jf,gQ])).trans ih
theorem Z5 (a b : List Int) (ha : a.length < 4294967295) (hb : b.length < 4294967295) : aY ak nQ0 [.list 1 (ints a),.list 1 (ints b)] [] = some (.list 1 (ints (meet a b)),[]) := by
 rw [aB oQ0 sQ0 (ae rfl)];have hs := U1 a;have h := Ar (m7 a) b (by omega) hb (m7 a).length 0 [] (by omega) (by simp);have ho := ZG a ha;have e : (m7 a).filter (fun x => decide (x ∈ b)) = meet a b := wi ((ku a).1.filter _) (vk _ _).1 fun x => by rw [(vk _ _).2,List.mem_filter,(ku _).2]; simp
 rw [iR,dN,List.nil_append,e,gW] at h;unfold qQ0 cQ0;simp [Nr,Nq,Np,Nn,Nl,Nk,Nj,Nh,Ng,h,ho,jQ,gW,aj,gQ,ba,aZ,sQa9,iQa9,lQa9,eQa9]
def aiJ (n : Int) : List Int := (List.range (min n.toNat 64)).map fun i => ((i : Nat) : Int)
/- What comparisons return; nodeset.Valid, Has, Cmp, Range. -/
def aiE : List Int -> List Int -> Option Int
 | [],_ => none
 | _ :: _,[] => some 1
 | x :: r,y :: s => if y < x then some 1 else if x < y then some (-1) else aiE r s
theorem TG (x : Int) : aY ak Kf [.int .i64 x] [] = some (.bool false,[]) := by
 rw [aB oQc0 sQc0 (ae rfl)];unfold qQc0 cQc0;simp [YK,YJ,ba,aZ]
def FO (x y : Int) : Int := if x < y then -1 else if y < x then 1 else 0
theorem uC (x y : Int) : aY ak Ao [.int .i64 x,.int .i64 y] [] = some (.int .i64 (FO x y),[]) := by
 rw [aB oQa8 Xx (ae rfl)];have hx := TG x;have hy := TG y;unfold qQa8 cQa8 FO;by_cases h1 : x < y
 ·simp [JT,JS,JR,JQ,JP,JO,JN,JM,JL,JK,CK,CJ,CI,CH,hx,hy,h1,sQc0,iQc0,lQc0,eQc0,ba,aZ]
 ·by_cases h2 : y < x
  ·simp [JT,JS,JR,JQ,JP,JO,JN,JM,JL,JK,CK,CJ,CI,CH,hx,hy,h1,h2,sQc0,iQc0,lQc0,eQc0,ba,aZ]
  ·simp [JT,JS,JR,JQ,JP,JO,JN,JM,JL,JK,CK,CJ,CI,CH,hx,hy,h1,h2,sQc0,iQc0,lQc0,eQc0,ba,aZ]
end Go.BmP
