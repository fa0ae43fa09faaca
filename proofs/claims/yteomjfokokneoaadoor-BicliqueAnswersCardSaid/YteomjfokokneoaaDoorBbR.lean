/- Plain: the list of the reference (all subsets closed, put into order) is the walk's list. -/
import Derived.Test.YteomjfokokneoaaDoorG21
import Derived.Test.YteomjfokokneoaaDoorUseM
import Derived.Test.YteomjfokokneoaaDoorK06
import Derived.Test.YteomjfokokneoaaDoorK11
import Derived.Test.YteomjfokokneoaaDoorR02d
set_option linter.unusedVariables false
open Bool renaming false_and → fE, true_and → eD
open List renaming drop_eq_getElem_cons → aZ, drop_length → bz, drop_zero → bX, length_map → nF, mem_append → aD, mem_cons → aJ, mem_cons_of_mem → yb, mem_cons_self → pY, mem_map → Tz, pairwise_cons → aN
open List.Pairwise renaming sublist → eh
open Nat renaming le_of_ble_eq_true → an
namespace Go.BmP
open Go.Am Go.Bm

theorem Hd : ∀ {a b : List (List Int)},(a.Pairwise fun x y => dJ y x = 1) -> (b.Pairwise fun x y => dJ y x = 1) -> (∀ x,x ∈ a ↔ x ∈ b) -> a = b
 | [],[],_,_,_ => rfl
 | [],y :: b,_,_,h => absurd ((h y).2 pY) List.not_mem_nil
 | x :: a,[],_,_,h => absurd ((h x).1 pY) List.not_mem_nil
 | x :: a,y :: b,ha,hb,h => by
   obtain ⟨a1,a2⟩ := aN.1 ha;obtain ⟨b1,b2⟩ := aN.1 hb;have self : ∀ z : List Int,dJ z z ≠ 1 := fun z q => by have := rY z z; omega
   have e : x = y := by
    rcases aJ.1 ((h x).1 pY) with q | q
    ·exact q
    ·rcases aJ.1 ((h y).2 pY) with q2 | q2
     ·exact q2.symm
     ·have := a1 y q2;have := b1 x q;have := rY x y;omega
   subst e
   rw [Hd a2 b2 fun z => by
    constructor
    ·intro hz;rcases aJ.1 ((h z).1 (yb _ hz)) with q | q
     ·subst q; exact absurd (a1 z hz) (self z)
     ·exact q
    ·intro hz;rcases aJ.1 ((h z).2 (yb _ hz)) with q | q
     ·subst q; exact absurd (b1 z hz) (self z)
     ·exact q]
theorem FT (a b : List Int) : dJ a b = -1 \/ dJ a b = 0 \/ dJ a b = 1 := by
 induction a generalizing b with
 | nil => cases b <;> simp [dJ]
 | cons x r ih =>
   cases b with
   | nil => simp [dJ]
   | cons y s =>
     unfold dJ;split
     ·simp
     ·split
      ·simp
      ·exact ih s
theorem FU : ∀ {a b c : List Int},dJ a b = 1 -> dJ b c = 1 -> dJ a c = 1
 | [],[],_,h,_ => by simp [dJ] at h
 | [],_ :: _,_,h,_ => by simp [dJ] at h
 | _ :: _,[],[],_,h => by simp [dJ] at h
 | _ :: _,[],_ :: _,_,h => by simp [dJ] at h
 | _ :: _,_ :: _,[],_,_ => by simp [dJ]
 | x :: a,y :: b,z :: c,h1,h2 => by
   unfold dJ at *;by_cases k1 : y < x
   ·by_cases k2 : z < y
    ·rw [if_pos (by omega)]
    ·rw [if_neg k2] at h2;by_cases k3 : y < z
     ·rw [if_pos k3] at h2; omega
     ·rw [if_pos (by omega)]
   ·rw [if_neg k1] at h1;by_cases k3 : x < y
    ·rw [if_pos k3] at h1; omega
    ·rw [if_neg k3] at h1;by_cases k2 : z < y
     ·rw [if_pos (by omega)]
     ·rw [if_neg k2] at h2;by_cases k4 : y < z
      ·rw [if_pos k4] at h2; omega
      ·rw [if_neg k4] at h2;rw [if_neg (by omega),if_neg (by omega)];exact FU h1 h2
def Ot : List Int -> List (List Int) -> List (List Int)
 | [],s => s
 | x :: r,s => Ot r (s ++ s.map (· ++ [x]))
theorem S5 : ∀ (r : List Int) (s : List (List Int)) (S : List Int),S ∈ Ot r s ↔ ∃ T ∈ s,∃ U,U.Sublist r /\ S = T ++ U
 | [],s,S => by
   constructor
   ·intro h; exact ⟨S,h,[],List.Sublist.slnil,by simp⟩
   ·rintro ⟨T,hT,U,hU,e⟩;obtain rfl := List.sublist_nil.1 hU;simpa [e,Ot] using hT
 | x :: r,s,S => by
   unfold Ot;rw [S5 r];constructor
   ·rintro ⟨T,hT,U,hU,e⟩;rcases aD.1 hT with k | k
    ·exact ⟨T,k,U,hU.cons x,e⟩
    ·obtain ⟨V,hV,rfl⟩ := Tz.1 k;exact ⟨V,hV,x :: U,hU.cons_cons x,by simpa using e⟩
   ·rintro ⟨T,hT,U,hU,e⟩;cases hU with
    | cons _ k => exact ⟨T,List.mem_append_left _ hT,U,k,e⟩
    | cons_cons _ k => exact ⟨T ++ [x],List.mem_append_right _ (Tz.2 ⟨T,hT,rfl⟩),_,k,by simpa using e⟩
theorem S6 : ∀ (r : List Int) (s : List (List Int)),(Ot r s).length = 2 ^ r.length * s.length
 | [],s => by simp [Ot]
 | x :: r,s => by
   unfold Ot;rw [S6 r,List.length_append,nF,List.length_cons,Nat.pow_succ,Nat.mul_assoc];congr 1;omega
theorem FO {L : List Int} (hL : Up L) (S : List Int) : S ∈ Ot L [[]] ↔ Up S /\ ∀ x ∈ S,x ∈ L := by
 rw [S5];constructor
 ·rintro ⟨T,hT,U,hU,e⟩;obtain rfl : T = [] := by simpa using hT
  obtain rfl : S = U := by simpa using e
  exact ⟨eh hU hL,fun x hx => hU.subset hx⟩
 ·rintro ⟨h1,h2⟩;exact ⟨[],by simp,S,vA h1 hL h2,by simp⟩
def kI : List (List Int) -> List Int -> Nat
 | [],_ => 0
 | T :: r,S => if dJ T S = -1 then kI r S + 1 else 0
def sY (o : List (List Int)) (S : List Int) : List (List Int) := if o[kI o S]? = some S then o else o.take (kI o S) ++ S :: o.drop (kI o S)
theorem ach : ∀ (o : List (List Int)) (S : List Int),kI o S <= o.length
 | [],_ => Nat.le_refl _
 | T :: r,S => by
   unfold kI;split
   ·exact Nat.succ_le_succ (ach r S)
   ·exact Nat.zero_le _
theorem Fo (o : List (List Int)) (S x : List Int) : x ∈ sY o S ↔ x = S \/ x ∈ o := by
 unfold sY;split
 ·rename_i h;constructor
  ·exact .inr
  ·rintro (k | k)
   ·subst k; exact List.mem_of_getElem? h
   ·exact k
 ·rw [aD,aJ]
  have : x ∈ o ↔ x ∈ o.take (kI o S) \/ x ∈ o.drop (kI o S) := by
   rw [<- aD,List.take_append_drop]
  rw [this];constructor
  ·rintro (k | k | k)
   ·exact .inr (.inl k)
   ·exact .inl k
   ·exact .inr (.inr k)
  ·rintro (k | k | k)
   ·exact .inr (.inl k)
   ·exact .inl k
   ·exact .inr (.inr k)
theorem Uy (T : List Int) (r : List (List Int)) (S : List Int) : sY (T :: r) S = if dJ T S = -1 then T :: sY r S else if T = S then T :: r else S :: T :: r := by
 by_cases k : dJ T S = -1
 ·have e : kI (T :: r) S = kI r S + 1 := by rw [kI,if_pos k]
  rw [if_pos k];unfold sY;rw [e,List.getElem?_cons_succ,List.take_succ_cons,List.drop_succ_cons];by_cases q : r[kI r S]? = some S
  ·rw [if_pos q,if_pos q]
  ·rw [if_neg q,if_neg q]; rfl
 ·have e : kI (T :: r) S = 0 := by rw [kI,if_neg k]
  rw [if_neg k];unfold sY;rw [e,List.getElem?_cons_zero];by_cases q : T = S
  ·rw [if_pos (by rw [q]),if_pos q]
  ·rw [if_neg (by simpa using q),if_neg q]; rfl
theorem B4 : ∀ (o : List (List Int)) (S : List Int),(o.Pairwise fun a b => dJ b a = 1) -> (sY o S).Pairwise fun a b => dJ b a = 1
 | [],S,_ => by simp [sY,kI]
 | T :: r,S,h => by
   obtain ⟨h1,h2⟩ := aN.1 h;rw [Uy];have sw := rY T S;split
   ·rename_i k;refine aN.2 ⟨fun x hx => ?_,B4 r S h2⟩;rcases (Fo r S x).1 hx with q | q
    ·subst q; omega
    ·exact h1 x q
   ·rename_i k;split
    ·exact h
    ·rename_i k2
     have t : dJ T S = 1 := by
      rcases FT T S with q | q | q
      ·exact absurd q k
      ·exact absurd (rX.1 q) k2
      ·exact q
     refine aN.2 ⟨fun x hx => ?_,h⟩;rcases aJ.1 hx with q | q
     ·subst q; exact t
     ·exact FU (h1 x q) t
def yx (N : Nat) (Es : List Ed) (L : List Int) (o : List (List Int)) (S : List Int) : List (List Int) := if iL N Es L S ≠ [] /\ dO N Es L S ≠ [] then sY o (iL N Es L S) else o
theorem KP {N : Nat} {Es : List Ed} {L : List Int} : ∀ (s o : List (List Int)),(o.Pairwise fun a b => dJ b a = 1) -> ((s.foldl (yx N Es L) o).Pairwise fun a b => dJ b a = 1) /\ ∀ x,x ∈ s.foldl (yx N Es L) o ↔ x ∈ o \/ ∃ S ∈ s,(iL N Es L S ≠ [] /\ dO N Es L S ≠ []) /\ x = iL N Es L S
 | [],o,h => ⟨h,fun x => by simp⟩
 | S :: s,o,h => by
   have h' : (yx N Es L o S).Pairwise fun a b => dJ b a = 1 := by
    unfold yx;split
    ·exact B4 _ _ h
    ·exact h
   have hm : ∀ x,x ∈ yx N Es L o S ↔ x ∈ o \/ (iL N Es L S ≠ [] /\ dO N Es L S ≠ []) /\ x = iL N Es L S := fun x => by
    unfold yx;split
    ·rename_i k;rw [Fo];constructor
     ·rintro (q | q)
      ·exact .inr ⟨k,q⟩
      ·exact .inl q
     ·rintro (q | q)
      ·exact .inr q
      ·exact .inl q.2
    ·rename_i k;constructor
     ·exact .inl
     ·rintro (q | q)
      ·exact q
      ·exact absurd q.1 k
   obtain ⟨a1,a2⟩ := KP s (yx N Es L o S) h';refine ⟨a1,fun x => ?_⟩;rw [List.foldl_cons,a2,hm];constructor
   ·rintro ((q | q) | ⟨T,hT,q⟩)
    ·exact .inl q
    ·exact .inr ⟨S,by simp,q⟩
    ·exact .inr ⟨T,by simp [hT],q⟩
   ·rintro (q | ⟨T,hT,q⟩)
    ·exact .inl (.inl q)
    ·rcases aJ.1 hT with e | e
     ·subst e; exact .inl (.inr q)
     ·exact .inr ⟨T,e,q⟩
theorem TW {N : Nat} {Es : List Ed} {L : List Int} (h : kj N Es L) : (Ot L [[]]).foldl (yx N Es L) [] = dK N Es L := by
 obtain ⟨a1,a2⟩ := KP (N := N) (Es := Es) (L := L) (Ot L [[]]) [] List.Pairwise.nil;refine Hd a1 (Ci h) fun x => ?_;rw [a2,iT h];constructor
 ·rintro (q | ⟨S,hS,⟨k1,k2⟩,rfl⟩)
  ·cases q
  ·obtain ⟨u,v⟩ := (FO h.l.1 S).1 hS;exact ⟨⟨s9 N Es L S,k1,NR h⟩,by rwa [u5 h u v],FX h u v⟩
 ·rintro ⟨⟨u,k1,v⟩,k2,k3⟩;exact .inr ⟨x,(FO h.l.1 x).2 ⟨u,v⟩,⟨by rwa [k3],k2⟩,k3.symm⟩
theorem zF {N : Nat} {Es : List Ed} {L : List Int} (h : kj N Es L) (S T : List Int) : pQ N Es L S T = true ↔ (Up S /\ ∀ x ∈ S,x ∈ L) /\ S ≠ [] /\ T ≠ [] /\ iL N Es L S = S /\ dO N Es L S = T := by
 constructor
 ·intro k;unfold pQ at k;simp only [Bool.and_eq_true,Bool.not_eq_true',decide_eq_false_iff_not,decide_eq_true_eq,uz] at k;obtain ⟨⟨⟨⟨k1,k2⟩,⟨v1,w1⟩,⟨v2,w2⟩⟩,k3⟩,k4⟩ := k;obtain ⟨u1,b1⟩ := (dG (N : Int)).1 v1;obtain ⟨u2,b2⟩ := (dG (N : Int)).1 v2;have hn := h.n;have bS : ∀ v ∈ S,0 <= v /\ v < 64 := fun v hv => by have := b1 v hv; omega
  have bT : ∀ v ∈ T,0 <= v /\ v < 64 := fun v hv => by have := b2 v hv; omega
  have inL : ∀ x ∈ S,x ∈ L := fun x hx => by
   have e := congrArg (fun n => n.testBit x.toNat) w1;have m1 := fV (j := x.toNat) (fun v hv => (bS v hv).1);have m2 := fV (j := x.toNat) (fun v hv => (fN h (fun _ k => k) v hv).1);have cx : ((x.toNat : Nat) : Int) = x := by have := bS x hx; omega
   rw [cx] at m1 m2;by_cases q : x ∈ L
   ·exact q
   ·have lt : ei L < 18446744073709551616 := fM fun v hv => (fN h (fun _ k => k) v hv).2
    have c : (18446744073709551615 - ei L).testBit x.toNat = true := by
     have := Nat.testBit_two_pow_sub_succ (n := 64) (x := ei L) lt x.toNat;rw [show (2 : Nat) ^ 64 - (ei L + 1) = 18446744073709551615 - ei L by omega] at this;rw [this,m2];have := bS x hx;simp [q];omega
    simp [Nat.testBit_and,m1,hx,c] at e
  have eT : dO N Es L S = T := by
   unfold dO;rw [k3];exact jZ u2 bT
  refine ⟨⟨u1,inL⟩,k1,k2,?_,eT⟩;unfold iL;rw [k3,k4];exact jZ u1 bS
 ·rintro ⟨⟨u,v⟩,k1,k2,k3,k4⟩;have hS : S ∈ dK N Es L := (iT h).2 ⟨⟨u,k1,v⟩,by rwa [k4],k3⟩;have := Xk h hS
  rwa [k4] at this
/- What ref27's Check, right, common and Close return of any graph. -/
set_option linter.unusedSimpArgs false
set_option maxRecDepth 100000
set_option maxHeartbeats 8000000
def Gk (L : List Int) (e : Ed) : Bool := decide (e.1 ∈ L) == decide (e.2 ∈ L)
def tU (n : Int) (Es : List Ed) (L : List Int) : Int := if F5 n Es = 0 then (if hO n (-1) L = true then (if Es.any (Gk L) = true then 7 else 0) else 4) else F5 n Es
def gS (n : Int) (Es : List Ed) (L : List Int) : AV := .agg [.int .i64 n,.list 2 (dy Es),.list 1 (ints L)]
theorem Gj {n : Int} {Es : List Ed} {L : List Int} : tU n Es L = 0 ↔ ∃ N : Nat,n = N /\ kj N Es L := by
 unfold tU;constructor
 ·intro h;split at h
  ·rename_i h0;obtain ⟨g1,g2,g3⟩ := rZ.1 h0;split at h
   ·rename_i h1;split at h
    ·omega
    ·rename_i h2;obtain ⟨v1,v2⟩ := (dG n).1 h1;refine ⟨n.toNat,by omega,by omega,⟨g2,fun e he => by have := g3 e he; omega⟩,⟨v1,fun x hx => by have := v2 x hx; omega⟩,fun e he => ?_⟩;have q : ¬ Gk L e = true := fun k => h2 (List.any_eq_true.2 ⟨e,he,k⟩);unfold Gk at q;by_cases k1 : e.1 ∈ L <;> by_cases k2 : e.2 ∈ L <;> simp_all
   ·omega
  ·rename_i h0;exact absurd h h0
 ·rintro ⟨N,rfl,h⟩;rw [if_pos (rZ.2 ⟨⟨by omega,by have := h.n; omega⟩,h.e.1,h.e.2⟩),if_pos ((dG (N : Int)).2 ⟨h.l.1,fun x hx => by have := h.l.2 x hx; omega⟩),if_neg];intro k;obtain ⟨e,he,k⟩ := List.any_eq_true.1 k;have := h.s e he;unfold Gk at k;by_cases k1 : e.1 ∈ L <;> by_cases k2 : e.2 ∈ L <;> simp_all
theorem KQ (n : Int) (Es : List Ed) (L : List Int) (hE : Es.length < 4294967295) (hL : L.length < 4294967295) : ∀ k i : Nat,i + k = Es.length -> aU aA 0 (.loop MQ) ⟨[(1,.ptr 0 0),(4,.int .i64 i)],[some [.int .i64 n,.list 2 (dy Es),.list 1 (ints L)]]⟩ =
  if (Es.drop i).any (Gk L) = true then some (.ret,⟨[(2,.int .i64 7)],[]⟩) else some (.exit 0,⟨[(1,.ptr 0 0),(4,.int .i64 Es.length),(23,.bool false)],[some [.int .i64 n,.list 2 (dy Es),.list 1 (ints L)]]⟩)
 | 0,i,hi => by
   obtain rfl : i = Es.length := by omega
   rw [bz,if_neg (by simp)];exact bC (by unfold MQ; simp [wP,wO,wN,wM,wL,wK,wJ,wI,wH,wG,qw,qv,aH,ai,au,aG,aT,af,ah,ae,aa,ak,az,aP,aK])
 | k + 1,i,hi => by
   have bA : i < Es.length := by omega
   have h1 : (i : Int) < Es.length := by omega
   have hw := fm (i := i) (by omega);have ih := KQ n Es L hE hL k (i + 1) (by omega);have c1 := zQ Es[i].1 L (by omega);have c2 := zQ Es[i].2 L (by omega);rw [aZ bA,List.any_cons];have eb : Gk L Es[i] = (decide (Es[i].1 ∈ L) == decide (Es[i].2 ∈ L)) := rfl;generalize decide (Es[i].1 ∈ L) = a at *;generalize decide (Es[i].2 ∈ L) = b at *;by_cases q : a = b
   ·rw [if_pos (by rw [eb,q]; simp)];subst q;refine dj ?_;unfold MQ;cases a
    ·simp [wP,wO,wN,wM,wL,wK,wJ,wI,wH,wG,qw,qv,h1,bA,hw,c1,c2,idx,VY,Zg,Zf,aH,ai,au,aG,aT,af,ah,ae,aa,ak,az,aP,aK]
    ·simp [wP,wO,wN,wM,wL,wK,wJ,wI,wH,wG,qw,qv,h1,bA,hw,c1,c2,idx,VY,Zg,Zf,aH,ai,au,aG,aT,af,ah,ae,aa,ak,az,aP,aK]
   ·have eb2 : Gk L Es[i] = false := by rw [eb]; simpa using q
    rw [eb2,Bool.false_or];refine (ba ?_).trans ih;unfold MQ;cases a <;> cases b
    ·exact absurd rfl q
    ·simp [wP,wO,wN,wM,wL,wK,wJ,wI,wH,wG,qw,qv,h1,bA,hw,c1,c2,idx,VY,Zg,Zf,aH,ai,au,aG,aT,af,ah,ae,aa,ak,az,aP,aK]
    ·simp [wP,wO,wN,wM,wL,wK,wJ,wI,wH,wG,qw,qv,h1,bA,hw,c1,c2,idx,VY,Zg,Zf,aH,ai,au,aG,aT,af,ah,ae,aa,ak,az,aP,aK]
    ·exact absurd rfl q
theorem qb (n : Int) (Es : List Ed) (L : List Int) (hE : Es.length < 4294967295) (hL : L.length < 4294967295) : bk aA Uk [gS n Es L] [] = some (.int .i64 (tU n Es L),[]) := by
 rw [aM oJi KH (an rfl)];have c1 := KR n Es (by omega);have c2 := Aq n L (by omega);have h := KQ n Es L hE hL Es.length 0 (by omega);rw [jj,bX] at h;unfold tU gS;generalize F5 n Es = x at *;by_cases q1 : x = 0
 case neg =>
  rw [if_neg q1];generalize dy Es = Y at *;generalize ints L = Z at *;unfold qJi cJi;simp [wP,wO,wN,wM,wL,wK,wJ,wI,wH,wG,qw,qv,c1,q1,sJE,iJE,lJE,aH,ai,au,aG,aT,af,ah,ae,aa,ak,az,aP,aK]
 subst q1;rw [if_pos rfl];cases q2 : hO n (-1) L
 ·rw [q2] at c2;rw [if_neg (by decide)];generalize dy Es = Y at *;generalize ints L = Z at *;unfold qJi cJi;simp [wP,wO,wN,wM,wL,wK,wJ,wI,wH,wG,qw,qv,c1,c2,sJE,iJE,lJE,sJF,iJF,lJF,aH,ai,au,aG,aT,af,ah,ae,aa,ak,az,aP,aK]
 ·rw [q2] at c2;rw [if_pos rfl];cases q3 : Es.any (Gk L)
  ·rw [q3,if_neg (by decide)] at h;rw [if_neg (by decide)];have lE := ai Es;generalize dy Es = Y at *;generalize ints L = Z at *;unfold qJi cJi;simp [wP,wO,wN,wM,wL,wK,wJ,wI,wH,wG,qw,qv,c1,c2,h,lE,sJE,iJE,lJE,sJF,iJF,lJF,aH,ai,au,aG,aT,af,ah,ae,aa,ak,az,aP,aK]
  ·rw [q3,if_pos rfl] at h;rw [if_pos rfl];generalize dy Es = Y at *;generalize ints L = Z at *;unfold qJi cJi;simp [wP,wO,wN,wM,wL,wK,wJ,wI,wH,wG,qw,qv,c1,c2,h,sJE,iJE,lJE,sJF,iJF,lJF,aH,ai,au,aG,aT,af,ah,ae,aa,ak,az,aP,aK]
theorem TU (n : Int) (Es : List Ed) (L : List Int) (hL : L.length < 4294967295) : bk aA nJQ [gS n Es L] [] = some (.list 1 (ints (minus (lM n) L)),[]) := by
 rw [aM oJQ sJQ (an rfl)];have c1 := TZ n;have lr : (lM n).length <= 64 := by unfold lM; rw [nF,List.length_range]; omega
 have c2 := Uo (lM n) L (by omega) hL;unfold gS;generalize dy Es = Y at *;unfold qJQ cJQ;simp [ab3,ab2,c1,c2,sJ9,iJ9,lJ9,sJ8,iJ8,lJ8,aH,ai,au,aG,aT,af,ah,ae,aa,ak,az,aP,aK]
def GZ (Es : List Ed) (side set : List Int) : List Int := side.filter fun x => set.all fun y => decide (kC x y ∈ Es)
def Vz (side set o : List Int) (i : Int) (J : Env) : Env := (1,.list 1 (ints side)) :: (2,.list 1 (ints set)) :: (3,.ptr 0 0) :: (7,.own 1 (ints o)) :: (8,.int .i64 i) :: J
theorem Tc (n : Int) (Es : List Ed) (hG : GOK n Es) (hE : Es.length < 4294967295) (side set o : List Int) (hs : side.length < 4294967295) (ht : set.length < 4294967295) (i : Nat) (hi : i < side.length) : ∀ (k j : Nat) (b : Bool),j + k = set.length -> aU aA 0 (.loop Iv) ⟨Vz side set o i [(9,.bool b),(10,.int .i64 j)],[some [.int .i64 n,.list 2 (dy Es)]]⟩ =
  some (.exit 2,⟨Vz side set o i [(9,.bool (b && (set.drop j).all fun y => decide (kC side[i] y ∈ Es))),(10,.int .i64 set.length),(20,.bool false)],[some [.int .i64 n,.list 2 (dy Es)]]⟩)
 | 0,j,b,hj => by
   obtain rfl : j = set.length := by omega
   rw [bz,List.all_nil,Bool.and_true];refine bC ?_;unfold Iv Vz;simp [y6,y5,yZ,yY,yX,yW,yV,yU,yT,yS,sN,sM,sL,aH,ai,au,aG,aT,af,ah,ae,aa,ak,az,aP,aK]
 | k + 1,j,b,hj => by
   have bA : j < set.length := by omega
   have h1 : (j : Int) < set.length := by omega
   have h2 : (i : Int) < side.length := by omega
   have hw := fm (i := j) (by omega);rw [aZ bA,List.all_cons];cases b
   ·have ih := Tc n Es hG hE side set o hs ht i hi k (j + 1) false (by omega);rw [fE] at ih ⊢;refine (ba ?_).trans ih;unfold Iv Vz;simp [y6,y5,yZ,yY,yX,yW,yV,yU,yT,yS,sN,sM,sL,h1,bA,h2,hi,hw,aH,ai,au,aG,aT,af,ah,ae,aa,ak,az,aP,aK]
   ·have f := Yi n Es (by omega) hG side[i] set[j];by_cases q : kC side[i] set[j] ∈ Es
    ·have ih := Tc n Es hG hE side set o hs ht i hi k (j + 1) true (by omega);rw [if_pos q] at f;have f0 : (0 : Int) <= (Es.idxOf (kC side[i] set[j]) : Int) := by omega
     rw [decide_eq_true q,eD];rw [eD] at ih ⊢;generalize (Es.idxOf (kC side[i] set[j]) : Int) = F at *;refine (ba ?_).trans ih;unfold Iv Vz;simp [y6,y5,yZ,yY,yX,yW,yV,yU,yT,yS,sN,sM,sL,h1,bA,h2,hi,hw,f,f0,idx,sJ7,iJ7,lJ7,aH,ai,au,aG,aT,af,ah,ae,aa,ak,az,aP,aK]
    ·have ih := Tc n Es hG hE side set o hs ht i hi k (j + 1) false (by omega);rw [if_neg q] at f;rw [decide_eq_false q,fE];rw [fE] at ih;rw [Bool.and_false];refine (ba ?_).trans ih;unfold Iv Vz;simp [y6,y5,yZ,yY,yX,yW,yV,yU,yT,yS,sN,sM,sL,h1,bA,h2,hi,hw,f,idx,sJ7,iJ7,lJ7,aH,ai,au,aG,aT,af,ah,ae,aa,ak,az,aP,aK]
theorem P4 (n : Int) (Es : List Ed) (hG : GOK n Es) (hE : Es.length < 4294967295) (side set : List Int) (hs : side.length < 4294967295) (ht : set.length < 4294967295) : ∀ (k i : Nat) (o : List Int),i + k = side.length -> o.length <= i -> aU aA 0 (.loop MX) ⟨Vz side set o i [],[some [.int .i64 n,.list 2 (dy Es)]]⟩ =
  some (.exit 0,⟨Vz side set (o ++ GZ Es (side.drop i) set) side.length [(14,.bool false)],[some [.int .i64 n,.list 2 (dy Es)]]⟩)
 | 0,i,o,hi,ho => by
   obtain rfl : i = side.length := by omega
   rw [bz,show GZ Es [] set = [] from rfl,List.append_nil];refine bC ?_;unfold MX Vz;simp [y6,y5,yZ,yY,yX,yW,yV,yU,yT,yS,sN,sM,sL,aH,ai,au,aG,aT,af,ah,ae,aa,ak,az,aP,aK]
 | k + 1,i,o,hi,ho => by
   have bA : i < side.length := by omega
   have h1 : (i : Int) < side.length := by omega
   have hw := fm (i := i) (by omega);have c := Tc n Es hG hE side set o hs ht i bA set.length 0 true (by omega);rw [jj,bX,eD] at c;unfold GZ;rw [aZ bA,List.filter_cons];generalize set.all (fun y => decide (kC side[i] y ∈ Es)) = b at *;have ls := aa set;cases b
   ·have ih := P4 n Es hG hE side set hs ht k (i + 1) o (by omega) (by omega);rw [if_neg (by decide)];refine (ba ?_).trans ih;unfold MX;unfold Vz at *;generalize ints set = Z at *;simp [y6,y5,yZ,yY,yX,yW,yV,yU,yT,yS,sN,sM,sL,h1,bA,hw,c,idx,aH,ai,au,aG,aT,af,ah,ae,aa,ak,az,aP,aK]
   ·have ih := P4 n Es hG hE side set hs ht k (i + 1) (o ++ [side[i]]) (by omega) (by simp; omega);rw [if_pos rfl,show o ++ side[i] :: List.filter (fun x => set.all fun y => decide (kC x y ∈ Es)) (side.drop (i + 1)) = (o ++ [side[i]]) ++ GZ Es (side.drop (i + 1)) set by simp [GZ]];refine (ba ?_).trans ih;unfold MX;unfold Vz at *;generalize ints set = Z at *;have hL : o.length + 1 <= 4294967296 := by omega
    simp [y6,y5,yZ,yY,yX,yW,yV,yU,yT,yS,sN,sM,sL,h1,bA,hw,c,hL,lz,ez,bR,idx,aH,ai,au,aG,aT,af,ah,ae,aa,ak,az,aP,aK]
theorem Ta (n : Int) (Es : List Ed) (hG : GOK n Es) (hE : Es.length < 4294967295) (side set : List Int) (hs : side.length < 4294967295) (ht : set.length < 4294967295) : bk aA nJP [.agg [.int .i64 n,.list 2 (dy Es)],.list 1 (ints side),.list 1 (ints set)] [] = some (.list 1 (ints (GZ Es side set)),[]) := by
 rw [aM oJP sJP (an rfl)];have c := P4 n Es hG hE side set hs ht side.length 0 [] (by omega) (by simp);rw [jj,bX,List.nil_append] at c;unfold Vz at c;rw [cD] at c;unfold qJP cJP;simp [y6,y5,yZ,yY,yX,yW,yV,yU,yT,yS,sN,sM,sL,c,bR,List.take_length,aH,ai,au,aG,aT,af,ah,ae,aa,ak,az,aP,aK]
end Go.BmP
