/- What ref27's List returns of a graph that is in order: the walk's list. -/
import Derived.Test.YteomjfokokneoaaDoorUseM
import Derived.Test.YteomjfokokneoaaDoorBbD
import Derived.Test.YteomjfokokneoaaDoorG21
set_option linter.unusedSimpArgs false
set_option linter.unusedVariables false
set_option maxRecDepth 100000
set_option maxHeartbeats 8000000
open Int renaming natCast_mul → Kw
open List renaming drop_eq_getElem_cons → aZ, drop_length → bz, drop_zero → bX, getElem?_eq_getElem → aI, getElem_mem → ed, length_append → bu, length_map → nF, length_singleton → hD, mem_map → Tz, take_of_length_le → bL
open Nat renaming le_of_ble_eq_true → an, mul_le_mul → Db, pow_le_pow_right → gz
open Option.some renaming inj → dm
namespace Go.BmP
open Go.Am Go.Bm
def sS (o : List (List Int)) : List AV := o.map fun S => .list 1 (ints S)
theorem mP (o : List (List Int)) : (sS o).length = o.length := nF _
theorem Xn (o : List (List Int)) (S : List Int) : sS o ++ [.list 1 (ints S)] = sS (o ++ [S]) := by simp [sS]
theorem aaA (o : List (List Int)) (i : Nat) : (sS o)[i]? = (o[i]?).map fun S => .list 1 (ints S) := List.getElem?_map
theorem Py {ss : List (List Int)} {j : Nat} {T : List Int} (hj : ss[j]? = some T) : (∀ h,(sS ss)[j]'h = .list 1 (ints T)) /\ (sS ss)[j]? = some (.list 1 (ints T)) := by
 have g1 := aaA ss j;rw [hj,Option.map_some] at g1;exact ⟨fun h => by rw [aI h] at g1; exact dm g1,g1⟩
theorem Uv (l : List Int) : bm (aE (ints l)) = true := by
 induction l with
 | nil => rfl
 | cons x r ih =>
   unfold ints at *;simp only [List.map_cons,aE,AV.cells,List.cons_append,List.nil_append,bm,AV.leaf,Bool.true_and] at *;exact ih
def OV (N : Nat) (Es : List Ed) (L : List Int) (A : AV) (o : List (List Int)) : Prop := A = .own 2 (fC N Es L o) \/ A = .list 2 (fC N Es L o)
def lH (n : Int) (Es : List Ed) (L : List Int) : Heap := [some [.int .i64 n,.list 2 (dy Es),.list 1 (ints L)]]
theorem adY (n : Int) (Es : List Ed) (L : List Int) (i : Nat) (hi : i < L.length) (m k : Nat) (hk : k < m) (hm : m <= 5000) (q : List (List Int)) (hq : q.length <= 10000) (T : List Int) (hT : q[k]? = some T) (lT : T.length <= 64) : aU aA 0 MW ⟨[(1,.ptr 0 0),(3,.own 2 []),(4,.own 1 (sS q)),(5,.int .i64 i),(6,.int .i64 m),(7,.int .i64 k)],lH n Es L⟩ =
  some (.normal,⟨[(1,.ptr 0 0),(3,.own 2 []),(4,.own 1 (sS (q ++ [T ++ [L[i]]]))),(5,.int .i64 i),(6,.int .i64 m),(7,.int .i64 (k + 1 : Nat))],lH n Es L⟩) := by
 obtain ⟨g1,g2⟩ := Py hT;have h0 : k < q.length := (List.getElem?_eq_some_iff.1 hT).1;have h1 : (k : Int) < q.length := by omega
 have h2 : (k : Int) < m := by omega
 have h3 : (i : Int) < L.length := by omega
 have hw := fm (i := k) (by omega);have lq := mP q;have l2 : q.length + 1 <= 4294967296 := by omega
 have l3 : T.length + 1 <= 4294967296 := by omega
 have l4 : T.length <= 4294967296 := by omega
 have e1 := ez T L[i];have e2 := Xn q (T ++ [L[i]]);have t1 : (ints T).take T.length = ints T := bL (by rw [aa]; exact Nat.le_refl _);have lT := aa T;have lf := Uv T;have lTs := aa (T ++ [L[i]]);rw [bu,hD] at lTs;have t2 : (ints (T ++ [L[i]])).take (T.length + 1) = ints (T ++ [L[i]]) := bL (by omega);have t3 : (sS q).take q.length = sS q := bL (by omega);have t4 : (sS (q ++ [T ++ [L[i]]])).take (q.length + 1) = sS (q ++ [T ++ [L[i]]]) := bL (by rw [mP]; simp);have gi : ∀ h,(ints L)[i]'h = .int .i64 L[i] := fun h => az _ _ _;have lL := aa L;unfold lH;generalize hx : L[i] = x at *;generalize ints (T ++ [x]) = W at *;generalize ints T = V at *;generalize ints L = Z at *;generalize dy Es = Y at *;generalize sS (q ++ [T ++ [x]]) = Q1 at *;generalize sS q = Q at *;subst e1;subst e2;unfold MW;simp [yR,yQ,yP,yO,yN,yM,yL,yK,yJ,yI,sK,sJ,sI,sG,sF,sE,sD,sC,h0,h1,h2,h3,hi,hw,lq,l2,l3,l4,g1,g2,gi,lL,t1,t2,t3,t4,lf,lT,lTs,lz,idx,kh,cz,aC,jU,oV,aH,ai,au,aG,aT,af,ah,ae,aa,ak,az,aP,aK]
theorem acs (n : Int) (Es : List Ed) (L : List Int) (i : Nat) (hi : i < L.length) (s : List (List Int)) (hs : s.length <= 5000) (hb : ∀ T ∈ s,T.length <= 64) : ∀ m k : Nat,k + m = s.length -> aU aA 0 (.loop MW) ⟨[(1,.ptr 0 0),(3,.own 2 []),(4,.own 1 (sS (s ++ (s.take k).map (· ++ [L[i]])))),(5,.int .i64 i),(6,.int .i64 s.length),(7,.int .i64 k)],lH n Es L⟩ =
  some (.exit 2,⟨[(1,.ptr 0 0),(3,.own 2 []),(4,.own 1 (sS (s ++ s.map (· ++ [L[i]])))),(5,.int .i64 i),(6,.int .i64 s.length),(7,.int .i64 s.length),(23,.bool false)],lH n Es L⟩)
 | 0,k,hk => by
   obtain rfl : k = s.length := by omega
   rw [List.take_length];refine bC ?_;unfold lH;generalize sS (s ++ s.map (· ++ [L[i]])) = Q at *;unfold MW;simp [yR,yQ,yP,yO,yN,yM,yL,yK,yJ,yI,sK,sJ,sI,sG,sF,sE,sD,sC,aH,ai,au,aG,aT,af,ah,ae,aa,ak,az,aP,aK]
 | m + 1,k,hk => by
   have bA : k < s.length := by omega
   have one := adY n Es L i hi s.length k bA hs (s ++ (s.take k).map (· ++ [L[i]])) (by simp; omega) s[k] (by rw [List.getElem?_append_left bA,aI bA]) (hb _ (ed bA))
   have e : (s ++ (s.take k).map (· ++ [L[i]])) ++ [s[k] ++ [L[i]]] = s ++ (s.take (k + 1)).map (· ++ [L[i]]) := by
    rw [List.append_assoc,List.take_succ_eq_append_getElem bA,List.map_append];rfl
   rw [e] at one;exact (ba one).trans (acs n Es L i hi s hs hb m (k + 1) (by omega))
theorem Yr (n : Int) (Es : List Ed) (L : List Int) (hL : L.length <= 12) : ∀ (m i : Nat) (s : List (List Int)),i + m = L.length -> s.length * 2 ^ m <= 4096 -> (∀ T ∈ s,T.length <= i) -> aU aA 0 (.loop SD) ⟨[(1,.ptr 0 0),(3,.own 2 []),(4,.own 1 (sS s)),(5,.int .i64 i)],lH n Es L⟩ =
  some (.exit 0,⟨[(1,.ptr 0 0),(3,.own 2 []),(4,.own 1 (sS (Ot (L.drop i) s))),(5,.int .i64 L.length),(16,.bool false)],lH n Es L⟩)
 | 0,i,s,hi,hs,hb => by
   obtain rfl : i = L.length := by omega
   rw [bz,Ot];refine bC ?_;have lL := aa L;unfold lH;generalize sS s = Q at *;unfold SD;simp [yR,yQ,yP,yO,yN,yM,yL,yK,yJ,yI,sK,sJ,sI,sG,sF,sE,sD,sC,aH,ai,au,aG,aT,af,ah,ae,aa,ak,az,aP,aK]
 | m + 1,i,s,hi,hs,hb => by
   have bA : i < L.length := by omega
   have h1 : (i : Int) < L.length := by omega
   have hw := fm (i := i) (by omega);have p : 2 ^ (m + 1) = 2 * 2 ^ m := by rw [Nat.pow_succ,Nat.mul_comm]
   have p0 : 0 < 2 ^ m := Nat.two_pow_pos m
   have PC : s.length <= 4096 := by
    have : s.length * 1 <= s.length * 2 ^ (m + 1) := Nat.mul_le_mul_left _ (by omega);omega
   have a := acs n Es L i bA s (by omega) (fun T hT => by have := hb T hT; omega) s.length 0 (by omega);rw [List.take_zero,List.map_nil,List.append_nil,jj] at a
   have ih := Yr n Es L hL m (i + 1) (s ++ s.map (· ++ [L[i]])) (by omega) (by
    rw [bu,nF,Nat.add_mul];rw [p,Nat.mul_comm 2,<- Nat.mul_assoc] at hs;omega) (fun T hT => by
    rcases List.mem_append.1 hT with k | k
    ·have := hb T k; omega
    ·obtain ⟨V,hV,rfl⟩ := Tz.1 k;have := hb V hV;simp; omega)
   rw [aZ bA,Ot];refine (ba ?_).trans ih;have lq := mP s;have lL := aa L;unfold lH at *;clear ih hb;generalize sS (s ++ s.map (· ++ [L[i]])) = Q1 at *;generalize sS s = Q at *;generalize ints L = Z at *;generalize dy Es = Y at *;unfold SD;simp [yR,yQ,yP,yO,yN,yM,yL,yK,yJ,yI,sK,sJ,sI,sG,sF,sE,sD,sC,h1,bA,hw,a,lq,lL,aH,ai,au,aG,aT,af,ah,ae,aa,ak,az,aP,aK]
theorem XD (o : List (List Int)) (S : List Int) : (sY o S).length <= o.length + 1 := by
 unfold sY;split
 ·omega
 ·simp; omega
section
variable {N : Nat} {Es : List Ed} {L : List Int} (h : kj N Es L) (hE : Es.length < 4294967295)
include h hE
theorem adK (lh o : List (List Int)) (hs : lh.length <= 5000) (j : Nat) (hj : j < lh.length) (hu : Up lh[j] /\ ∀ x ∈ lh[j],x ∈ L) (ho : o.length <= 5000) (hb : ∀ T ∈ o,T.length <= 64) (A0 : AV) (hA : OV N Es L A0 o) : ∃ A',OV N Es L A' (yx N Es L o lh[j]) /\ aU aA 0 Iu ⟨[(1,.ptr 0 0),(3,A0),(4,.own 1 (sS lh)),(8,.int .i64 j)],lH N Es L⟩ =
  some (.normal,⟨[(1,.ptr 0 0),(3,A'),(4,.own 1 (sS lh)),(8,.int .i64 (j + 1 : Nat))],lH N Es L⟩) := by
 obtain ⟨g1,g2⟩ := Py (aI hj);have h1 : (j : Int) < lh.length := by omega
 have hw := fm (i := j) (by omega);have lq := mP lh;generalize lh[j] = S at *;have lS : S.length <= 64 := lD hu.1 (fN h hu.2);have c1 := OW h hE S (by omega) hu.1 hu.2;have eB := u5 h hu.1 hu.2;have eA := FX h hu.1 hu.2;have lA : (iL N Es L S).length <= 64 := fc _;have lB : (dO N Es L S).length <= 64 := fc _;have uA := s9 N Es L S;have mA := NR h (S := S);have c2 := KL h hE (iL N Es L S) (by omega) (dO N Es L S) (by omega);have c3 := aaE N Es L o (iL N Es L S) (by omega) hb lA;rw [eB] at c3;have lp := dS N Es L o;have tp : (fC N Es L o).take o.length = fC N Es L o := bL (by omega);unfold yx;by_cases q : iL N Es L S ≠ [] /\ dO N Es L S ≠ []
 ·rw [(zF h _ _).2 ⟨⟨uA,mA⟩,q.1,q.2,eA,eB⟩] at c2;rw [if_pos q];refine ⟨.list 2 (fC N Es L (sY o (iL N Es L S))),.inr rfl,?_⟩;have lp2 := dS N Es L (sY o (iL N Es L S));have tp2 : (fC N Es L (sY o (iL N Es L S))).take (sY o (iL N Es L S)).length = fC N Es L (sY o (iL N Es L S)) := bL (by omega);unfold gS at *;unfold lH;unfold OV at hA;clear hb hu mA;generalize ints (iL N Es L S) = A at *;generalize ints (dO N Es L S) = B at *;generalize fC N Es L (sY o (iL N Es L S)) = P2 at *;generalize fC N Es L o = P at *;generalize ints S = W at *;generalize ints L = Z at *;generalize dy Es = Y at *;generalize sS lh = Q at *;unfold Iu;rcases hA with rfl | rfl <;> simp [yR,yQ,yP,yO,yN,yM,yL,yK,yJ,yI,sK,sJ,sI,sG,sF,sE,sD,sC,h1,hj,hw,lq,g1,g2,c1,c2,c3,lp,tp,lp2,tp2,idx,VX,iJn,lJn,sJk,iJk,lJk,sJa3,iJa3,lJa3,aH,ai,au,aG,aT,af,ah,ae,aa,ak,az,aP,aK]
 ·have e : pQ N Es L (iL N Es L S) (dO N Es L S) = false := by
   cases m : pQ N Es L (iL N Es L S) (dO N Es L S)
   ·rfl
   ·have := (zF h _ _).1 m;exact absurd ⟨this.2.1,this.2.2.1⟩ q
  rw [e] at c2;rw [if_neg q];refine ⟨A0,hA,?_⟩;unfold gS at *;unfold lH;unfold OV at hA;clear hb hu mA;generalize ints (iL N Es L S) = A at *;generalize ints (dO N Es L S) = B at *;generalize fC N Es L o = P at *;generalize ints S = W at *;generalize ints L = Z at *;generalize dy Es = Y at *;generalize sS lh = Q at *;unfold Iu;rcases hA with rfl | rfl <;> simp [yR,yQ,yP,yO,yN,yM,yL,yK,yJ,yI,sK,sJ,sI,sG,sF,sE,sD,sC,h1,hj,hw,lq,g1,g2,c1,c2,lp,idx,VX,iJn,lJn,sJk,iJk,lJk,aH,ai,au,aG,aT,af,ah,ae,aa,ak,az,aP,aK]
theorem Su (lh : List (List Int)) (hs : lh.length <= 5000) (hu : ∀ S ∈ lh,Up S /\ ∀ x ∈ S,x ∈ L) : ∀ (m j : Nat) (o : List (List Int)),j + m = lh.length -> o.length <= j -> (∀ T ∈ o,T.length <= 64) -> ∀ A0 : AV,OV N Es L A0 o -> ∃ A',OV N Es L A' ((lh.drop j).foldl (yx N Es L) o) /\ aU aA 0 (.loop Iu) ⟨[(1,.ptr 0 0),(3,A0),(4,.own 1 (sS lh)),(8,.int .i64 j)],lH N Es L⟩ =
  some (.exit 4,⟨[(1,.ptr 0 0),(3,A'),(4,.own 1 (sS lh)),(8,.int .i64 lh.length),(44,.bool false)],lH N Es L⟩)
 | 0,j,o,hj,ho,hb,A0,hA => by
   obtain rfl : j = lh.length := by omega
   rw [bz,List.foldl_nil];refine ⟨A0,hA,bC ?_⟩;have lq := mP lh;unfold OV at hA;unfold lH;generalize fC N Es L o = P at *;generalize sS lh = Q at *;unfold Iu;rcases hA with rfl | rfl <;> simp [yR,yQ,yP,yO,yN,yM,yL,yK,yJ,yI,sK,sJ,sI,sG,sF,sE,sD,sC,lq,aH,ai,au,aG,aT,af,ah,ae,aa,ak,az,aP,aK]
 | m + 1,j,o,hj,ho,hb,A0,hA => by
   have bA : j < lh.length := by omega
   obtain ⟨A1,hA1,one⟩ := adK h hE lh o hs j bA (hu _ (ed bA)) (by omega) hb A0 hA;rw [aZ bA,List.foldl_cons]
   obtain ⟨A2,hA2,two⟩ := Su lh hs hu m (j + 1) (yx N Es L o lh[j]) (by omega) (by
    unfold yx;split
    ·have := XD o (iL N Es L lh[j]); omega
    ·omega) (by
    intro T hT;unfold yx at hT;split at hT
    ·rcases (Fo _ _ _).1 hT with k | k
     ·subst k; exact fc _
     ·exact hb T k
    ·exact hb T hT) A1 hA1
   exact ⟨A2,hA2,(ba one).trans two⟩
theorem AB (hL : L.length <= 12) : bk aA nJT [gS N Es L] [] = some (.list 2 (fC N Es L (dK N Es L)),[]) := by
 have a := Yr N Es L hL L.length 0 [[]] (by omega) (by
  have : 2 ^ L.length <= 2 ^ 12 := gz (by decide) hL;simp only [hD];omega) (by simp)
 rw [bX,jj] at a;have ld := S6 L [[]];have lt : 2 ^ L.length <= 2 ^ 12 := gz (by decide) hL;obtain ⟨A',hA,b⟩ := Su h hE (Ot L [[]]) (by rw [ld,hD]; omega) (fun S hS => (FO h.l.1 S).1 hS) (Ot L [[]]).length 0 [] (by omega) (by simp) (by simp) (.own 2 []) (.inl rfl);rw [jj] at b;rw [bX,TW h] at hA;unfold OV at hA;rw [show sS [[]] = [.list 1 []] from rfl] at a;have lp := dS N Es L (dK N Es L);have tp : (fC N Es L (dK N Es L)).take (dK N Es L).length = fC N Es L (dK N Es L) := bL (by omega);rw [aM oJT sJT (an rfl)];unfold gS;unfold lH at *;generalize fC N Es L (dK N Es L) = P at *;generalize sS (Ot L [[]]) = Q at *;generalize ints L = Z at *;generalize dy Es = Y at *;unfold qJT cJT;rcases hA with rfl | rfl <;> simp [yR,yQ,yP,yO,yN,yM,yL,yK,yJ,yI,sK,sJ,sI,sG,sF,sE,sD,sC,a,b,lp,tp,aH,ai,au,aG,aT,af,ah,ae,aa,ak,az,aP,aK]
end
/- What ref27's Next, All and Best return. -/
section
variable {N : Nat} {Es : List Ed} {L : List Int} (h : kj N Es L) (hE : Es.length < 4294967295) (hL : L.length <= 12)
include h hE hL
theorem Jq : bk aA Uk [gS N Es L] [] = some (.int .i64 0,[]) := by
 have c1 := qb N Es L hE (by omega)
 rwa [Gj.2 ⟨N,rfl,h⟩] at c1
omit hE hL in
theorem Ae : ∀ S ∈ dK N Es L,S.length <= 64 := fun S hS => by
 obtain ⟨⟨k1,k2,k3⟩,_⟩ := (iT h).1 hS;exact lD k1 (fN h k3)
omit hE in
theorem Bu : (dK N Es L).length <= 4096 := by
 have := YY h;have : 2 ^ L.length <= 2 ^ 12 := gz (by decide) hL;omega
theorem Wh (most : Int) : bk aA nJt [gS N Es L,.int .i64 most] [] = some (N8 N Es L most,[]) := by
 have c1 := Jq h hE hL;have c2 := AB h hE hL;have lp := dS N Es L (dK N Es L);have tp : (fC N Es L (dK N Es L)).take (dK N Es L).length = fC N Es L (dK N Es L) := bL (by omega);rw [aM oJt sJt (an rfl)];unfold N8;generalize (dK N Es L).length = n at *;generalize fC N Es L (dK N Es L) = P at *;unfold gS at *;generalize ints L = Z at *;generalize dy Es = Y at *;by_cases k1 : most < 0
 ·rw [if_pos (.inl k1)];unfold qJt cJt;simp [Hu,Hs,Hr,Hp,Ho,Hn,Hm,Hk,Hj,Hi,c1,k1,KH,Oi,Oh,aH,ai,au,aG,aT,af,ah,ae,aa,ak,az,aP,aK]
 by_cases k2 : 4096 < most
 ·rw [if_pos (.inr k2)];unfold qJt cJt;simp [Hu,Hs,Hr,Hp,Ho,Hn,Hm,Hk,Hj,Hi,c1,k1,k2,KH,Oi,Oh,aH,ai,au,aG,aT,af,ah,ae,aa,ak,az,aP,aK]
 rw [if_neg (by omega)];by_cases k3 : (n : Int) <= most
 ·have k4 : ¬ most < (n : Int) := by omega
  rw [if_pos k3];unfold qJt cJt;simp [Hu,Hs,Hr,Hp,Ho,Hn,Hm,Hk,Hj,Hi,c1,c2,k1,k2,k3,k4,lp,tp,KH,Oi,Oh,sJT,iJT,lJT,aH,ai,au,aG,aT,af,ah,ae,aa,ak,az,aP,aK]
 ·have k4 : most < (n : Int) := by omega
  rw [if_neg k3];unfold qJt cJt;simp [Hu,Hs,Hr,Hp,Ho,Hn,Hm,Hk,Hj,Hi,c1,c2,k1,k2,k3,k4,lp,KH,Oi,Oh,sJT,iJT,lJT,aH,ai,au,aG,aT,af,ah,ae,aa,ak,az,aP,aK]
end
def gG (n : Int) (Y Z : List AV) : Ql := some [.int .i64 n,.list 2 Y,.list 1 Z]
def rnx (N : Nat) (Es : List Ed) (L : List Int) (after : List Int) (n : Int) (Y Z P : List AV) (len : Nat) : List (List Int) -> Option (Ex × St)
 | [] => some (.exit 0,⟨[(1,.list 1 (ints after)),(4,.ptr 1 0),(8,.list 2 P),(9,.int .i64 len),(21,.bool false)],[gG n Y Z,some [.own 1 [],.own 1 []]]⟩)
 | S :: _ => some (.ret,⟨[(4,.ptr 1 0),(5,.bool true),(6,.int .i64 0)],[gG n Y Z,some [.list 1 (ints S),.list 1 (ints (dO N Es L S))]]⟩)
theorem Ih (N : Nat) (Es : List Ed) (L : List Int) (n : Int) (Y Z : List AV) (o : List (List Int)) (after : List Int) (ha : after.length <= 9223372036854775807) (ho : o.length <= 5000) (hb : ∀ S ∈ o,S.length <= 64) : ∀ k i : Nat,i + k = o.length -> aU aA 0 (.loop MO) ⟨[(1,.list 1 (ints after)),(4,.ptr 1 0),(8,.list 2 (fC N Es L o)),(9,.int .i64 i)],[gG n Y Z,some [.own 1 [],.own 1 []]]⟩ =
  rnx N Es L after n Y Z (fC N Es L o) o.length ((o.drop i).filter (fun S => decide (dJ S after = 1)))
 | 0,i,hi => by
   obtain rfl : i = o.length := by omega
   have lp := dS N Es L o;rw [bz,List.filter_nil];unfold rnx gG;refine bC ?_;unfold MO;generalize fC N Es L o = P at *;generalize ints after = A1 at *;simp [DX,DW,DV,DU,DT,DS,DR,DQ,DP,DO,xj,lp,aH,ai,au,aG,aT,af,ah,ae,aa,ak,az,aP,aK]
 | k + 1,i,hi => by
   have bA : i < o.length := by omega
   have h1 : (i : Int) < o.length := by omega
   have hw := fm (i := i) (by omega);have ih := Ih N Es L n Y Z o after ha ho hb k (i + 1) (by omega);have lp := dS N Es L o;have g1 : ∀ h,(fC N Es L o)[i]'h = AV.agg [.list 1 (ints o[i]),.list 1 (ints (dO N Es L o[i]))] := fun h => RV ..;have g3 : (fC N Es L o)[i]? = some (.agg [.list 1 (ints o[i]),.list 1 (ints (dO N Es L o[i]))]) := by rw [CV,aI bA]; rfl
   have cm := C8 o[i] after (by have := hb _ (ed bA); omega) ha;have tri := FT o[i] after;rw [aZ bA,List.filter_cons];generalize o[i] = S at *;by_cases q : dJ S after = 1
   ·rw [q] at cm;rw [if_pos (by simp [q])];refine dj ?_;unfold gG;clear ih tri;generalize ints (dO N Es L S) = B at *;generalize fC N Es L o = P at *;generalize ints after = A1 at *;generalize ints S = S1 at *;unfold MO;simp [DX,DW,DV,DU,DT,DS,DR,DQ,DP,DO,xj,h1,bA,hw,lp,g1,g3,cm,idx,sJy,iJy,lJy,aH,ai,au,aG,aT,af,ah,ae,aa,ak,az,aP,aK]
   ·have q2 : ¬ (0 : Int) < dJ S after := by omega
    rw [if_neg (by simp [q])];refine (ba ?_).trans ih;unfold MO gG;clear ih;generalize ints (dO N Es L S) = B at *;generalize fC N Es L o = P at *;generalize ints after = A1 at *;generalize ints S = S1 at *;generalize dJ S after = c at *;simp [DX,DW,DV,DU,DT,DS,DR,DQ,DP,DO,xj,h1,bA,hw,lp,g1,g3,cm,q2,idx,sJy,iJy,lJy,aH,ai,au,aG,aT,af,ah,ae,aa,ak,az,aP,aK]
theorem TR {N : Nat} {Es : List Ed} {L : List Int} (h : kj N Es L) (hE : Es.length < 4294967295) (hL : L.length <= 12) (after : List Int) (ha : after.length <= 9223372036854775807) : bk aA nJp [gS N Es L,.list 1 (ints after)] [] = some (Ik N Es L (xV N Es L after),[]) := by
 have c1 := Jq h hE hL;have c2 := AB h hE hL;have l := Ih N Es L N (dy Es) (ints L) (dK N Es L) after ha (by have := Bu h hL; omega) (Ae h) (dK N Es L).length 0 (by omega);rw [jj,bX] at l;have eb : (dK N Es L).filter (fun S => decide (dJ S after = 1)) = xV N Es L after := rfl;rw [eb] at l;rw [aM oJp sJp (an rfl)];clear eb;unfold gS gG at *;cases e : xV N Es L after with
 | nil =>
   rw [e] at l;unfold rnx gG at l;unfold Ik;generalize fC N Es L (dK N Es L) = P at *;generalize ints after = A1 at *;generalize ints L = Z at *;generalize dy Es = Y at *;unfold qJp cJp;simp [DX,DW,DV,DU,DT,DS,DR,DQ,DP,DO,xj,c1,c2,l,KH,Oi,Oh,sJT,iJT,lJT,aH,ai,au,aG,aT,af,ah,ae,aa,ak,az,aP,aK]
 | cons S r =>
   rw [e] at l;unfold rnx gG at l;unfold Ik;generalize ints (dO N Es L S) = B at *;generalize fC N Es L (dK N Es L) = P at *;generalize ints after = A1 at *;generalize ints S = S1 at *;generalize ints L = Z at *;generalize dy Es = Y at *;unfold qJp cJp;simp [DX,DW,DV,DU,DT,DS,DR,DQ,DP,DO,xj,c1,c2,l,KH,Oi,Oh,sJT,iJT,lJT,aH,ai,au,aG,aT,af,ah,ae,aa,ak,az,aP,aK]
def bsE (P : List AV) (i : Int) (J : Env) : Env := (2,.ptr 1 0) :: (5,.ptr 2 0) :: (6,.list 2 P) :: (7,.int .i64 i) :: J
theorem aeg (N : Nat) (Es : List Ed) (L : List Int) (n : Int) (Y Z : List AV) (o : List (List Int)) (ho : o.length <= 5000) (i : Nat) (hi : i < o.length) (hS : o[i].length <= 64) (s : Option (List Int)) (hs : ∀ S,s = some S -> S.length <= 64) : aU aA 0 BX ⟨bsE (fC N Es L o) i [],[gG n Y Z,some [.own 1 [],.own 1 []],some (xz N Es L s)]⟩ =
  some (.normal,⟨bsE (fC N Es L o) (i + 1 : Nat) [],[gG n Y Z,some [.own 1 [],.own 1 []],some (xz N Es L (ym N Es L s o[i]).1)]⟩) := by
 have h1 : (i : Int) < o.length := by omega
 have hw := fm (i := i) (by omega);have lp := dS N Es L o;have g1 : ∀ h,(fC N Es L o)[i]'h = AV.agg [.list 1 (ints o[i]),.list 1 (ints (dO N Es L o[i]))] := fun h => RV ..;have g3 : (fC N Es L o)[i]? = some (.agg [.list 1 (ints o[i]),.list 1 (ints (dO N Es L o[i]))]) := by rw [CV,aI hi]; rfl
 generalize o[i] = S at *;have b1 : (dO N Es L S).length <= 64 := fc _;have m1 : dg N Es L S <= 64 * 64 := Db hS b1
 have w1 : IntKind.i64.wrap ((S.length : Int) * ((dO N Es L S).length : Int)) = ((dg N Es L S : Nat) : Int) := by
  rw [<- Kw];exact oQ (by unfold dg at m1; omega)
 have z1 := aa S;have z2 := aa (dO N Es L S);unfold bsE gG;cases s with
 | none =>
   unfold ym uw;by_cases k : 0 < dg N Es L S
   ·have k' : (0 : Int) < ((dg N Es L S : Nat) : Int) := by omega
    rw [if_pos k];simp only [iW,iV];clear m1 k b1;generalize ((dg N Es L S : Nat) : Int) = q at *;generalize dO N Es L S = T at *;generalize ints T = T1 at *;generalize ints S = S1 at *;generalize fC N Es L o = P at *;unfold BX;simp [wF,wE,wD,wC,wB,wA,wz,wy,wx,wv,qu,qt,qq,qp,h1,hi,hw,lp,g1,g3,w1,k',z1,z2,idx,aH,ai,au,aG,aT,af,ah,ae,aa,ak,az,aP,aK]
   ·have k' : ¬ (0 : Int) < ((dg N Es L S : Nat) : Int) := by omega
    rw [if_neg k];simp only [iW,iV];clear m1 k b1;generalize ((dg N Es L S : Nat) : Int) = q at *;generalize dO N Es L S = T at *;generalize ints T = T1 at *;generalize ints S = S1 at *;generalize fC N Es L o = P at *;unfold BX;simp [wF,wE,wD,wC,wB,wA,wz,wy,wx,wv,qu,qt,qq,qp,h1,hi,hw,lp,g1,g3,w1,k',z1,z2,idx,aH,ai,au,aG,aT,af,ah,ae,aa,ak,az,aP,aK]
 | some S0 =>
   have b0 : (dO N Es L S0).length <= 64 := fc _;have m0 : dg N Es L S0 <= 64 * 64 := Db (hs S0 rfl) b0
   have w0 : IntKind.i64.wrap ((S0.length : Int) * ((dO N Es L S0).length : Int)) = ((dg N Es L S0 : Nat) : Int) := by
    rw [<- Kw];exact oQ (by unfold dg at m0; omega)
   have z3 := aa S0;have z4 := aa (dO N Es L S0);unfold ym uw;by_cases k : dg N Es L S0 < dg N Es L S
   ·have k' : ((dg N Es L S0 : Nat) : Int) < ((dg N Es L S : Nat) : Int) := by omega
    rw [if_pos k];simp only [iW,iV];clear m1 m0 k b1 b0 hs;generalize ((dg N Es L S : Nat) : Int) = q at *;generalize ((dg N Es L S0 : Nat) : Int) = q0 at *;generalize dO N Es L S = T at *;generalize dO N Es L S0 = T0 at *;generalize ints T = T1 at *;generalize ints S = S1 at *;generalize ints T0 = T01 at *;generalize ints S0 = S01 at *;generalize fC N Es L o = P at *;unfold BX;simp [wF,wE,wD,wC,wB,wA,wz,wy,wx,wv,qu,qt,qq,qp,h1,hi,hw,lp,g1,g3,w1,w0,k',z1,z2,z3,z4,idx,aH,ai,au,aG,aT,af,ah,ae,aa,ak,az,aP,aK]
   ·have k' : ¬ ((dg N Es L S0 : Nat) : Int) < ((dg N Es L S : Nat) : Int) := by omega
    rw [if_neg k];simp only [iW,iV];clear m1 m0 k b1 b0 hs;generalize ((dg N Es L S : Nat) : Int) = q at *;generalize ((dg N Es L S0 : Nat) : Int) = q0 at *;generalize dO N Es L S = T at *;generalize dO N Es L S0 = T0 at *;generalize ints T = T1 at *;generalize ints S = S1 at *;generalize ints T0 = T01 at *;generalize ints S0 = S01 at *;generalize fC N Es L o = P at *;unfold BX;simp [wF,wE,wD,wC,wB,wA,wz,wy,wx,wv,qu,qt,qq,qp,h1,hi,hw,lp,g1,g3,w1,w0,k',z1,z2,z3,z4,idx,aH,ai,au,aG,aT,af,ah,ae,aa,ak,az,aP,aK]
theorem Tk (N : Nat) (Es : List Ed) (L : List Int) (n : Int) (Y Z : List AV) (o : List (List Int)) (ho : o.length <= 5000) (hb : ∀ S ∈ o,S.length <= 64) : ∀ (k i : Nat) (s : Option (List Int)),i + k = o.length -> (∀ S,s = some S -> S.length <= 64) -> aU aA 0 (.loop BX) ⟨bsE (fC N Es L o) i [],[gG n Y Z,some [.own 1 [],.own 1 []],some (xz N Es L s)]⟩ =
  some (.exit 0,⟨bsE (fC N Es L o) o.length [(25,.bool false)],[gG n Y Z,some [.own 1 [],.own 1 []],some (xz N Es L (ek (ym N Es L) (o.drop i) s).1)]⟩)
 | 0,i,s,hi,hs => by
   obtain rfl : i = o.length := by omega
   have lp := dS N Es L o;rw [bz,show ek (ym N Es L) [] s = (s,true) from rfl];refine bC ?_;unfold bsE gG;generalize fC N Es L o = P at *;unfold BX;cases s with
   | none => simp only [iW]; simp [wF,wE,wD,wC,wB,wA,wz,wy,wx,wv,qu,qt,qq,qp,lp,aH,ai,au,aG,aT,af,ah,ae,aa,ak,az,aP,aK]
   | some S => simp only [iV]; simp [wF,wE,wD,wC,wB,wA,wz,wy,wx,wv,qu,qt,qq,qp,lp,aH,ai,au,aG,aT,af,ah,ae,aa,ak,az,aP,aK]
 | k + 1,i,s,hi,hs => by
   have bA : i < o.length := by omega
   have hS := hb _ (ed bA);have one := aeg N Es L n Y Z o ho i bA hS s hs;rw [aZ bA,show ek (ym N Es L) (o[i] :: o.drop (i + 1)) s = ek (ym N Es L) (o.drop (i + 1)) (ym N Es L s o[i]).1 from rfl];refine (ba one).trans (Tk N Es L n Y Z o ho hb k (i + 1) _ (by omega) ?_);intro S e;unfold ym at e;simp only at e;split at e
   ·cases e; exact hS
   ·exact hs S e
theorem TX {N : Nat} {Es : List Ed} {L : List Int} (h : kj N Es L) (hE : Es.length < 4294967295) (hL : L.length <= 12) : bk aA nJw [gS N Es L] [] = some (I7 N Es L (u9 N Es L),[]) := by
 have c1 := Jq h hE hL;rw [aM oJw sJw (an rfl)];by_cases q : Es = []
 ·subst q;have e : u9 N [] L = none := by unfold u9; rw [Vi h]; rfl
  rw [e];unfold I7;unfold gS at *;rw [zX] at *;generalize ints L = Z at *;unfold qJw cJw;simp [wF,wE,wD,wC,wB,wA,wz,wy,wx,wv,qu,qt,qq,qp,c1,KH,Oi,Oh,aH,ai,au,aG,aT,af,ah,ae,aa,ak,az,aP,aK]
 have c2 := AB h hE hL;have l := Tk N Es L N (dy Es) (ints L) (dK N Es L) (by have := Bu h hL; omega) (Ae h) (dK N Es L).length 0 none (by omega) (by simp);rw [jj,bX,iW] at l;obtain ⟨S,_,e,_⟩ := Vg h q;have eb : (ek (ym N Es L) (dK N Es L) none).1 = u9 N Es L := rfl;rw [eb,e,iV] at l;rw [e];have lE := ai Es;have q1 : ¬ (Es.length : Int) = 0 := by have := List.length_pos_iff.2 q; omega
 rw [show I7 N Es L (some S) = AV.dW [.agg [.list 1 (ints S),.list 1 (ints (dO N Es L S))],.int .i64 0] from rfl];unfold bsE gG at l;unfold gS at *;clear e eb;generalize ints (dO N Es L S) = B at *;generalize ints S = S1 at *;generalize fC N Es L (dK N Es L) = P at *;generalize ints L = Z at *;generalize dy Es = Y at *;unfold qJw cJw;simp [wF,wE,wD,wC,wB,wA,wz,wy,wx,wv,qu,qt,qq,qp,c1,c2,l,lE,q,q1,KH,Oi,Oh,sJT,iJT,lJT,aH,ai,au,aG,aT,af,ah,ae,aa,ak,az,aP,aK]
section
variable {n : Int} {Es : List Ed} {L : List Int} (hE : Es.length < 4294967295) (hL : L.length < 4294967295) (h0 : tU n Es L ≠ 0)
include hE hL h0
theorem TT (S : List Int) : bk aA nJp [gS n Es L,.list 1 (ints S)] [] = some (.dW [.agg [.list 1 [],.list 1 []],.bool false,.int .i64 (tU n Es L)],[]) := by
 have c := qb n Es L hE hL;rw [aM oJp sJp (an rfl)];unfold gS at *;generalize tU n Es L = x at *;generalize dy Es = Y at *;generalize ints L = Z at *;generalize ints S = W at *;unfold qJp cJp;simp [DX,DW,DV,DU,DT,DS,DR,DQ,DP,DO,xj,c,h0,KH,Oi,Oh,aH,ai,au,aG,aT,af,ah,ae,aa,ak,az,aP,aK]
theorem Wi (m : Int) : bk aA nJt [gS n Es L,.int .i64 m] [] = some (.dW [.list 2 [],.int .i64 (tU n Es L)],[]) := by
 have c := qb n Es L hE hL;rw [aM oJt sJt (an rfl)];unfold gS at *;generalize tU n Es L = x at *;generalize dy Es = Y at *;generalize ints L = Z at *;unfold qJt cJt;simp [Hu,Hs,Hr,Hp,Ho,Hn,Hm,Hk,Hj,Hi,c,h0,KH,Oi,Oh,aH,ai,au,aG,aT,af,ah,ae,aa,ak,az,aP,aK]
theorem TY : bk aA nJw [gS n Es L] [] = some (.dW [.agg [.list 1 [],.list 1 []],.int .i64 (tU n Es L)],[]) := by
 have c := qb n Es L hE hL;rw [aM oJw sJw (an rfl)];unfold gS at *;generalize tU n Es L = x at *;generalize dy Es = Y at *;generalize ints L = Z at *;unfold qJw cJw;simp [wF,wE,wD,wC,wB,wA,wz,wy,wx,wv,qu,qt,qq,qp,c,h0,KH,Oi,Oh,aH,ai,au,aG,aT,af,ah,ae,aa,ak,az,aP,aK]
end
/- All six functions of biclique say of any graph what the reference says. -/
def pB (S T : List Int) : AV := .agg [.list 1 (ints S),.list 1 (ints T)]
def Kn (o : List (List Int × List Int)) : List AV := o.map fun p => pB p.1 p.2
structure Qk (n : Int) (Es : List Ed) (L : List Int) : Prop where
 ck : ∃ e : Int,bk aA Sn [gS n Es L] [] = some (.int .i64 e,[]) /\ bk aA Uk [gS n Es L] [] = some (.int .i64 e,[])
 mx : ∀ S T : List Int,S.length <= 9223372036854775807 -> T.length <= 9223372036854775807 -> ∃ b : Bool,bk aA Zc [gS n Es L,pB S T] [] = some (.bool b,[]) /\ bk aA W7 [gS n Es L,pB S T] [] = some (.bool b,[])
 cl : ∀ S : List Int,S.length <= 64 -> ∃ (A B : List Int) (e : Int),A.length <= 64 /\ B.length <= 64 /\ bk aA Zb [gS n Es L,.list 1 (ints S)] [] = some (.dW [pB A B,.int .i64 e],[]) /\ bk aA Vv [gS n Es L,.list 1 (ints S)] [] = some (.dW [pB A B,.int .i64 e],[])
 nx : ∀ S : List Int,S.length <= 64 -> ∃ (A B : List Int) (b : Bool) (e : Int),A.length <= 64 /\ B.length <= 64 /\ bk aA nJo [gS n Es L,.list 1 (ints S)] [] = some (.dW [pB A B,.bool b,.int .i64 e],[]) /\ bk aA nJp [gS n Es L,.list 1 (ints S)] [] = some (.dW [pB A B,.bool b,.int .i64 e],[])
 al : ∀ m : Int,∃ (o : List (List Int × List Int)) (e : Int),o.length <= 5000 /\ (∀ p ∈ o,p.1.length <= 64 /\ p.2.length <= 64) /\ bk aA Za [gS n Es L,.int .i64 m] [] = some (.dW [.list 2 (Kn o),.int .i64 e],[]) /\ bk aA nJt [gS n Es L,.int .i64 m] [] = some (.dW [.list 2 (Kn o),.int .i64 e],[])
 bs : ∃ (A B : List Int) (e : Int),A.length <= 64 /\ B.length <= 64 /\ bk aA nJv [gS n Es L] [] = some (.dW [pB A B,.int .i64 e],[]) /\ bk aA nJw [gS n Es L] [] = some (.dW [pB A B,.int .i64 e],[])
theorem aec {N : Nat} {Es : List Ed} {L : List Int} (h : kj N Es L) (hE : Es.length < 1000000) (hL : L.length <= 12) : Qk (N : Int) Es L where
 ck := ⟨0,nB h (by omega) (by omega),Jq h (by omega) hL⟩
 mx := fun S T hS hT => ⟨pQ N Es L S T,ME h (by omega) (by omega) S T (by omega) (by omega),KL h (by omega) S (by omega) T (by omega)⟩
 cl := fun S hS => by
  by_cases q : Up S /\ ∀ x ∈ S,x ∈ L
  ·exact ⟨iL N Es L S,dO N Es L S,0,fc _,fc _,U2 h (by omega) (by omega) q.1 q.2 (by omega) (by omega),OW h (by omega) S (by omega) q.1 q.2⟩
  ·exact ⟨[],[],4,by simp,by simp,U4 h (by omega) (by omega) S (by omega) q,QJ h (by omega) S (by omega) q⟩
 nx := fun S hS => by
  have a := Pm h (by omega) (by omega) S (by omega);have b := TR h (by omega) hL S (by omega);cases e : xV N Es L S with
  | nil =>
    rw [e] at a b;exact ⟨[],[],false,0,by simp,by simp,a,b⟩
  | cons T r =>
    rw [e] at a b
    have hT : T ∈ dK N Es L := by
     have : T ∈ xV N Es L S := by rw [e]; exact List.mem_cons_self
     unfold xV at this;exact (List.mem_filter.1 this).1
    exact ⟨T,dO N Es L T,true,0,Ae h T hT,fc _,a,b⟩
 al := fun m => by
  have a := aby h (by omega) (by omega) m;have b := Wh h (by omega) hL m
  have e : ∃ (o : List (List Int × List Int)) (e : Int),o.length <= 5000 /\ (∀ p ∈ o,p.1.length <= 64 /\ p.2.length <= 64) /\ N8 N Es L m = .dW [.list 2 (Kn o),.int .i64 e] := by
   unfold N8;split
   ·exact ⟨[],1,by simp,by simp,rfl⟩
   ·split
    ·refine ⟨(dK N Es L).map fun S => (S,dO N Es L S),0,by have := Bu h hL; simp; omega,fun p hp => ?_,?_⟩
     ·obtain ⟨S,hS,rfl⟩ := Tz.1 hp;exact ⟨Ae h S hS,fc _⟩
     ·simp [Kn,fC,pr,pB,Function.comp_def]
    ·exact ⟨[],3,by simp,by simp,rfl⟩
  obtain ⟨o,e,l1,l2,k⟩ := e;rw [k] at a b;exact ⟨o,e,l1,l2,a,b⟩
 bs := by
  have a := Qb h (by omega) (by omega);have b := TX h (by omega) hL;cases e : u9 N Es L with
  | none =>
    rw [e] at a b;exact ⟨[],[],13,by simp,by simp,a,b⟩
  | some S =>
    rw [e] at a b
    have hS : S ∈ dK N Es L := by
     rcases (vW (N := N) (Es := Es) (L := L) (dK N Es L) none).1 S e with k | k
     ·cases k
     ·exact k
    exact ⟨S,dO N Es L S,0,Ae h S hS,fc _,a,b⟩
theorem abi {n : Int} {Es : List Ed} {L : List Int} (hE : Es.length < 1000000) (hL : L.length <= 64) (h0 : tU n Es L ≠ 0) : Qk n Es L where
 ck := ⟨tU n Es L,si n Es L (by omega) (by omega),qb n Es L (by omega) (by omega)⟩
 mx := fun S T _ _ => ⟨false,aaw (by omega) (by omega) h0 S T,V5 (by omega) (by omega) h0 S T⟩
 cl := fun S _ => ⟨[],[],tU n Es L,by simp,by simp,U3 (by omega) (by omega) h0 S,QI (by omega) (by omega) h0 S⟩
 nx := fun S _ => ⟨[],[],false,tU n Es L,by simp,by simp,W5 (by omega) (by omega) h0 S,TT (by omega) (by omega) h0 S⟩
 al := fun m => ⟨[],tU n Es L,by simp,by simp,abz (by omega) (by omega) h0 m,Wi (by omega) (by omega) h0 m⟩
 bs := ⟨[],[],tU n Es L,by simp,by simp,YU (by omega) (by omega) h0,TY (by omega) (by omega) h0⟩
theorem Ka {n : Int} {Es : List Ed} {L : List Int} (hE : Es.length < 1000000) (hL : L.length <= 12) : Qk n Es L := by
 by_cases h0 : tU n Es L = 0
 ·obtain ⟨N,rfl,h⟩ := Gj.1 h0;exact aec h hE hL
 ·exact abi hE (by omega) h0
end Go.BmP
