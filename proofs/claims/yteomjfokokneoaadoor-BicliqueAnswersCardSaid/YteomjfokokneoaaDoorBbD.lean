/- What biclique's functions return of a graph that is not in order, and of a set that is not in order. -/
import Derived.Test.YteomjfokokneoaaDoorUseM
import Derived.Test.YteomjfokokneoaaDoorBbR
import Derived.Test.YteomjfokokneoaaDoorG21
set_option linter.unusedSimpArgs false
set_option linter.unusedVariables false
set_option maxRecDepth 100000
set_option maxHeartbeats 8000000
open Bool renaming false_and → fE, true_and → eD
open List renaming all_eq_true → jc, drop_eq_getElem_cons → aZ, drop_length → bz, getElem?_eq_getElem → aI, getElem_mem → ed, length_append → bu, length_pos_iff → ga, mem_filter → Jf, take_of_length_le → bL
open List.Pairwise renaming sublist → eh
open Nat renaming add_zero → GJ, le_of_ble_eq_true → an
namespace Go.BmP
open Go.Am Go.Bm
theorem YE (N : Nat) (Es : List Ed) (L : List Int) (M : Nat) (hM : M < 18446744073709551616) (e : Ed) (h1 : 0 <= e.1 /\ e.1 < 64) (h2 : 0 <= e.2 /\ e.2 < 64) (sZ : M.testBit e.1.toNat = M.testBit e.2.toNat) : bk aA Pw [.agg [.int .i64 e.1,.int .i64 e.2],.ptr 1 0] [b0 N Es L,some [.int .u64 M]] = some (.bool true,[b0 N Es L,some [.int .u64 M]]) := by
 rw [aM oJD sJD (an rfl)];have s1 := CO M e.1 h1.1 h1.2;have s2 := CO M e.2 h2.1 h2.2;have o1 := CX M e.1 h1.1 hM;have o2 := CX M e.2 h2.1 hM;rw [sZ] at o1;generalize ((M / 2 ^ e.1.toNat : Nat) : Int) = x at *;generalize ((M / 2 ^ e.2.toNat : Nat) : Int) = y at *;have q1 : jq .eql (.int .u64 0) (.int .u64 0) = some (.bool true) := rfl;have q2 : jq .eql (.int .u64 1) (.int .u64 1) = some (.bool true) := rfl;clear sZ;unfold b0;cases hb : M.testBit e.2.toNat
 ·rw [hb] at o1 o2;simp only [Bool.not_false,Bool.false_eq_true,if_true,if_false] at o1 o2;generalize (M : Int) = X at *;unfold qJD cJD;simp [LK,LJ,s1,s2,o1,o2,q1,q2,mS,js,oq,aH,ai,au,aG,aT,af,ah,ae,aa,ak,az,aP,aK,-jq]
 ·rw [hb] at o1 o2;simp only [if_true,if_false] at o1 o2;generalize (M : Int) = X at *;unfold qJD cJD;simp [LK,LJ,s1,s2,o1,o2,q1,q2,mS,js,oq,aH,ai,au,aG,aT,af,ah,ae,aa,ak,az,aP,aK,-jq]
theorem Na (N : Nat) (Es : List Ed) (hE : Es.length < 4294967295) (L : List Int) (M : Nat) (hM : M < 18446744073709551616) (hv : ∀ e ∈ Es,(0 <= e.1 /\ e.1 < 64) /\ (0 <= e.2 /\ e.2 < 64)) : ∀ (k i : Nat),i + k = Es.length -> (∃ e ∈ Es.drop i,M.testBit e.1.toNat = M.testBit e.2.toNat) -> ∃ m : Nat,aU aA 2 (.loop Fm) ⟨[(0,.list 2 (dy Es)),(1,.func (.func Pw) [] [.ptr 1 0]),(7,.int .i64 Es.length),(8,.int .i64 i)],[b0 N Es L,some [.int .u64 M]]⟩ =
  some (.ret,⟨[(4,.int .i64 m)],[b0 N Es L,some [.int .u64 M]]⟩)
 | 0,i,hi,hx => by
   obtain rfl : i = Es.length := by omega
   obtain ⟨e,he,_⟩ := hx;rw [bz] at he;cases he
 | k + 1,i,hi,hx => by
   have bA : i < Es.length := by omega
   have h1 : (i : Int) < Es.length := by omega
   have hw := fm (i := i) (by omega);obtain ⟨e1,e2⟩ := hv Es[i] (ed bA);by_cases q : M.testBit Es[i].1.toNat = M.testBit Es[i].2.toNat
   ·have hc := YE N Es L M hM Es[i] e1 e2 q;refine ⟨i,dj ?_⟩;unfold b0 at hc ⊢;unfold Fm;simp [EF,EE,ED,EC,EB,EA,Ez,Ey,h1,bA,hw,hc,idx,sJD,iJD,lJD,js,fx,gj,cz,jP,eC,dT,bw,aH,ai,au,aG,aT,af,ah,ae,aa,ak,az,aP,aK]
   ·have hc := NU N Es L M hM Es[i] e1 e2 (by
     cases a : M.testBit Es[i].1.toNat <;> cases b : M.testBit Es[i].2.toNat <;> simp_all)
    obtain ⟨m,ih⟩ := Na N Es hE L M hM hv k (i + 1) (by omega) (by
     obtain ⟨e,he,k⟩ := hx;rw [aZ bA] at he;rcases List.mem_cons.1 he with r | r
     ·subst r; exact absurd k q
     ·exact ⟨e,r,k⟩)
    refine ⟨m,(ba ?_).trans ih⟩;clear ih hx;unfold b0 at hc ⊢;unfold Fm;simp [EF,EE,ED,EC,EB,EA,Ez,Ey,h1,bA,hw,hc,idx,sJD,iJD,lJD,js,fx,gj,cz,jP,eC,dT,bw,aH,ai,au,aG,aT,af,ah,ae,aa,ak,az,aP,aK]
theorem Yv (N : Nat) (Es : List Ed) (hE : Es.length < 4294967295) (L : List Int) (M : Nat) (hM : M < 18446744073709551616) (hv : ∀ e ∈ Es,(0 <= e.1 /\ e.1 < 64) /\ (0 <= e.2 /\ e.2 < 64)) (hx : ∃ e ∈ Es,M.testBit e.1.toNat = M.testBit e.2.toNat) : bk aA nJC [.list 2 (dy Es),.func (.func Pw) [] [.ptr 1 0]] [b0 N Es L,some [.int .u64 M]] = some (.bool true,[b0 N Es L,some [.int .u64 M]]) := by
 have hi : ∃ m : Nat,bk aA nJ1 [.list 2 (dy Es),.func (.func Pw) [] [.ptr 1 0]] [b0 N Es L,some [.int .u64 M]] = some (.int .i64 m,[b0 N Es L,some [.int .u64 M]]) := by
  obtain ⟨m,h⟩ := Na N Es hE L M hM hv Es.length 0 (by omega) (by simpa using hx);rw [jj] at h;refine ⟨m,?_⟩;rw [aM oJ1 sJ1 (an rfl)];unfold b0 at h ⊢;unfold qJ1 cJ1;simp [EF,EE,ED,EC,EB,EA,Ez,Ey,h,mS,js,oq,aH,ai,au,aG,aT,af,ah,ae,aa,ak,az,aP,aK]
 obtain ⟨m,h⟩ := hi;have h0 : (0 : Int) <= (m : Int) := by omega
 generalize (m : Int) = m at *;rw [aM oJC sJC (an rfl)];unfold b0 at h ⊢;unfold qJC cJC;simp [Ww,Wv,h,h0,sJ1,iJ1,lJ1,js,fx,gj,cz,jP,eC,dT,bw,mS,oq,aH,ai,au,aG,aT,af,ah,ae,aa,ak,az,aP,aK]
theorem si (n : Int) (Es : List Ed) (L : List Int) (hE : Es.length < 4294967295) (hL : L.length < 4294967295) : bk aA Sn [gS n Es L] [] = some (.int .i64 (tU n Es L),[]) := by
 by_cases q0 : tU n Es L = 0
 ·obtain ⟨N,rfl,h⟩ := Gj.1 q0;rw [q0];exact nB h hE hL
 have g1 := Nt n Es (by omega);have g2 := pn n L (by omega);rw [aM oJh Cn (an rfl)];by_cases q1 : F5 n Es = 0
 case neg =>
  unfold tU gS;rw [if_neg q1];generalize F5 n Es = x at *;generalize dy Es = Y at *;generalize ints L = Z at *;unfold qJh cJh;simp [Lt,Ls,Lr,Lq,Lp,Lo,Ln,Lm,Ll,Lk,g1,q1,sJz,iJz,lJz,aH,ai,au,aG,aT,af,ah,ae,aa,ak,az,aP,aK]
 obtain ⟨o1,o2,o3⟩ := rZ.1 q1;rw [q1] at g1;unfold tU gS at *;rw [if_pos q1] at q0 ⊢;cases q2 : hO n (-1) L
 ·rw [q2] at g2;rw [if_neg (by decide)];generalize dy Es = Y at *;generalize ints L = Z at *;unfold qJh cJh;simp [Lt,Ls,Lr,Lq,Lp,Lo,Ln,Lm,Ll,Lk,g1,g2,sJz,iJz,lJz,ZF,iJA,lJA,aH,ai,au,aG,aT,af,ah,ae,aa,ak,az,aP,aK]
 ·rw [q2] at g2 q0;rw [if_pos rfl] at q0 ⊢
  have q3 : Es.any (Gk L) = true := by
   cases q : Es.any (Gk L)
   ·rw [q] at q0; exact absurd rfl q0
   ·rfl
  rw [if_pos q3];obtain ⟨v1,v2⟩ := (dG n).1 q2;have hb : ∀ v ∈ L,0 <= v /\ v < 64 := fun v hv => by have := v2 v hv; omega
  have g3 := jW L hL hb;have hM := fM fun v hv => (hb v hv).2;obtain ⟨N,rfl⟩ : ∃ N : Nat,n = (N : Int) := ⟨n.toNat,by omega⟩
  have g4 := Yv N Es hE L (ei L) hM (fun e he => by have := o3 e he; exact ⟨by omega,by omega⟩) (by
   obtain ⟨e,he,k⟩ := List.any_eq_true.1 q3;have := o3 e he;refine ⟨e,he,?_⟩;rw [fV (fun v hv => (hb v hv).1),fV (fun v hv => (hb v hv).1),show ((e.1.toNat : Nat) : Int) = e.1 by omega,show ((e.2.toNat : Nat) : Int) = e.2 by omega];unfold Gk at k;exact eq_of_beq k)
  unfold b0 at g4;unfold qJh cJh;simp [Lt,Ls,Lr,Lq,Lp,Lo,Ln,Lm,Ll,Lk,g1,g2,g3,g4,sJz,iJz,lJz,ZF,iJA,lJA,Vs,XI,Xv,sJC,iJC,lJC,js,fx,gj,cz,jP,eC,dT,bw,aH,ai,au,aG,aT,af,ah,ae,aa,ak,az,aP,aK]
section
variable {n : Int} {Es : List Ed} {L : List Int} (hE : Es.length < 4294967295) (hL : L.length < 4294967295) (h0 : tU n Es L ≠ 0)
include hE hL h0
theorem U3 (S : List Int) : bk aA Zb [gS n Es L,.list 1 (ints S)] [] = some (.dW [.agg [.list 1 [],.list 1 []],.int .i64 (tU n Es L)],[]) := by
 have c := si n Es L hE hL;rw [aM oJm sJm (an rfl)];unfold gS at *;generalize tU n Es L = x at *;generalize dy Es = Y at *;generalize ints L = Z at *;generalize ints S = W at *;unfold qJm cJm;simp [K8,K7,K6,K5,K4,K3,K2,K1,K0,c,h0,Cn,Fs,Fj,aH,ai,au,aG,aT,af,ah,ae,aa,ak,az,aP,aK]
theorem aaw (S T : List Int) : bk aA Zc [gS n Es L,.agg [.list 1 (ints S),.list 1 (ints T)]] [] = some (.bool false,[]) := by
 have c := si n Es L hE hL;rw [aM oJj sJj (an rfl)];unfold gS at *;generalize tU n Es L = x at *;generalize dy Es = Y at *;generalize ints L = Z at *;generalize ints S = W at *;generalize ints T = V at *;unfold ZV cJj;simp [q7,q6,q5,qZ,qY,qX,qW,qV,qU,qT,lU,lR,lO,lN,c,h0,Cn,Fs,Fj,aH,ai,au,aG,aT,af,ah,ae,aa,ak,az,aP,aK]
theorem W5 (S : List Int) : bk aA nJo [gS n Es L,.list 1 (ints S)] [] = some (.dW [.agg [.list 1 [],.list 1 []],.bool false,.int .i64 (tU n Es L)],[]) := by
 have c := si n Es L hE hL;rw [aM oJo sJo (an rfl)];unfold gS at *;generalize tU n Es L = x at *;generalize dy Es = Y at *;generalize ints L = Z at *;generalize ints S = W at *;unfold qJo cJo;simp [Rj,Ri,Rh,Rg,Rf,Re,Rc,c,h0,Cn,Fs,Fj,aH,ai,au,aG,aT,af,ah,ae,aa,ak,az,aP,aK]
theorem abz (m : Int) : bk aA Za [gS n Es L,.int .i64 m] [] = some (.dW [.list 2 [],.int .i64 (tU n Es L)],[]) := by
 have c := si n Es L hE hL;rw [aM oJs sJs (an rfl)];unfold gS at *;generalize tU n Es L = x at *;generalize dy Es = Y at *;generalize ints L = Z at *;unfold qJs cJs;simp [HG,HF,HE,HD,HB,HA,Hz,Hy,Hw,Hv,AF,c,h0,Cn,Fs,Fj,aH,ai,au,aG,aT,af,ah,ae,aa,ak,az,aP,aK]
theorem YU : bk aA nJv [gS n Es L] [] = some (.dW [.agg [.list 1 [],.list 1 []],.int .i64 (tU n Es L)],[]) := by
 have c := si n Es L hE hL;rw [aM oJv sJv (an rfl)];unfold gS at *;generalize tU n Es L = x at *;generalize dy Es = Y at *;generalize ints L = Z at *;unfold qJv cJv;simp [QS,QR,QQ,QP,QO,QN,QM,QL,QK,c,h0,Cn,Fs,Fj,aH,ai,au,aG,aT,af,ah,ae,aa,ak,az,aP,aK]
end
theorem U4 {N : Nat} {Es : List Ed} {L : List Int} (h : kj N Es L) (hE : Es.length < 4294967295) (hL : L.length < 4294967295) (S : List Int) (hsum : S.length + L.length <= 4294967296) (hS : ¬ (Up S /\ ∀ x ∈ S,x ∈ L)) : bk aA Zb [gS N Es L,.list 1 (ints S)] [] = some (.dW [.agg [.list 1 [],.list 1 []],.int .i64 4],[]) := by
 have g1 := nB h hE hL;have g2 := pn N S (by omega);have g3 := BS S L hsum
 have q : hO (N : Int) (-1) S = false \/ (S.all fun x => decide (x ∈ L)) = false := by
  cases a : hO (N : Int) (-1) S
  ·exact .inl rfl
  ·cases b : S.all fun x => decide (x ∈ L)
   ·exact .inr rfl
   ·refine absurd ⟨((dG (N : Int)).1 a).1,fun x hx => ?_⟩ hS;rw [jc] at b;simpa using b x hx
 rw [aM oJm sJm (an rfl)];unfold gS at *;generalize hO (N : Int) (-1) S = a at *;generalize (S.all fun x => decide (x ∈ L)) = b at *;generalize dy Es = Y at *;generalize ints L = Z at *;generalize ints S = W at *;unfold qJm cJm;cases a
 ·simp [K8,K7,K6,K5,K4,K3,K2,K1,K0,g1,g2,Cn,Fs,Fj,ZF,iJA,lJA,aH,ai,au,aG,aT,af,ah,ae,aa,ak,az,aP,aK]
 ·obtain rfl : b = false := by rcases q with q | q; cases q; exact q
  simp [K8,K7,K6,K5,K4,K3,K2,K1,K0,g1,g2,g3,Cn,Fs,Fj,ZF,iJA,lJA,sJM,iJM,lJM,aH,ai,au,aG,aT,af,ah,ae,aa,ak,az,aP,aK]
/- What ref27's Close, Maximal and insert return. -/
theorem DD {n : Int} (hn : 0 <= n /\ n <= 64) (x : Int) : x ∈ lM n ↔ 0 <= x /\ x < n := by
 unfold lM;rw [List.mem_map];constructor
 ·rintro ⟨i,hi,rfl⟩;have := List.mem_range.1 hi;omega
 ·intro h;exact ⟨x.toNat,List.mem_range.2 (by omega),by omega⟩
theorem G9 {l : List Int} (h : Up l) (p : Int -> Bool) : Up (l.filter p) := eh List.filter_sublist h
theorem SI (E : List Ed) (a b : Int) : jn E a b ↔ jn E b a := Or.comm
section
variable {N : Nat} {Es : List Ed} {L : List Int} (h : kj N Es L)
include h
theorem Yw {S : List Int} (hu : Up S) (hS : ∀ x ∈ S,x ∈ L) : GZ Es (minus (lM N) L) S = dO N Es L S := by
 refine oR (G9 (kc _ _).1 _) (u4 N Es L S) fun x => ?_;unfold GZ;rw [Jf,(kc _ _).2,DD ⟨by omega,by have := h.n; omega⟩,jH h hu hS,jc];simp only [decide_eq_true_eq,<- Xx h,SI Es x];exact and_assoc
theorem Yx {S : List Int} : GZ Es L (dO N Es L S) = iL N Es L S := by
 refine oR (G9 h.l.1 _) (s9 N Es L S) fun x => ?_;unfold GZ;rw [Jf,oe h,jc];simp only [decide_eq_true_eq,<- Xx h,SI Es x]
theorem acz : L.length <= 64 := lD h.l.1 (fN h fun _ k => k)
variable (hE : Es.length < 4294967295) (S : List Int) (hS : S.length <= 9223372036854775807)
include hE hS
theorem OW (hu : Up S) (hs : ∀ x ∈ S,x ∈ L) : bk aA Vv [gS N Es L,.list 1 (ints S)] [] = some (.dW [.agg [.list 1 (ints (iL N Es L S)),.list 1 (ints (dO N Es L S))],.int .i64 0],[]) := by
 have hL := acz h;have lS0 : S.length <= 64 := lD hu (fN h hs);have c1 := qb N Es L hE (by omega);rw [Gj.2 ⟨N,rfl,h⟩] at c1;have c2 := Aq N S (by omega);rw [(dG (N : Int)).2 ⟨hu,fun x hx => by have := h.l.2 x (hs x hx); omega⟩] at c2;have c3 := De S L (by omega) (by omega);rw [show (S.all fun x => decide (x ∈ L)) = true by rw [jc]; intro x hx; simpa using hs x hx] at c3;have c4 := TU N Es L (by omega);have hG : GOK (N : Int) Es := ⟨⟨by omega,by have := h.n; omega⟩,h.e.1,h.e.2⟩
 have lr : (minus (lM N) L).length <= 64 := lD (kc _ _).1 fun x hx => by
  have := (DD ⟨by omega,by have := h.n; omega⟩ x).1 ((kc _ _).2 x |>.1 hx).1;have := h.n;omega
 have c5 := Ta N Es hG hE (minus (lM N) L) S (by omega) (by omega);rw [Yw h hu hs] at c5;have c6 := Ta N Es hG hE L (dO N Es L S) (by omega) (by have := fc (cR N Es L S); unfold dO; omega);rw [Yx h] at c6;rw [aM oJn VX (an rfl)];unfold gS at *;generalize ints (minus (lM N) L) = M at *;generalize ints (iL N Es L S) = A at *;generalize ints (dO N Es L S) = B at *;generalize dy Es = Y at *;generalize ints L = Z at *;generalize ints S = W at *;unfold qJn cJn;simp [KZ,KY,KX,KW,KV,KU,KT,KS,c1,c2,c3,c4,c5,c6,KH,Oi,Oh,sJF,iJF,lJF,sJO,iJO,lJO,sJQ,iJQ,lJQ,sJP,iJP,lJP,aH,ai,au,aG,aT,af,ah,ae,aa,ak,az,aP,aK]
theorem QJ (hs : ¬ (Up S /\ ∀ x ∈ S,x ∈ L)) : bk aA Vv [gS N Es L,.list 1 (ints S)] [] = some (.dW [.agg [.list 1 [],.list 1 []],.int .i64 4],[]) := by
 have hL := acz h;have c1 := qb N Es L hE (by omega);rw [Gj.2 ⟨N,rfl,h⟩] at c1;have c2 := Aq N S (by omega)
 have c3 : hO (N : Int) (-1) S = true -> bk aA nJO [.list 1 (ints S),.list 1 (ints L)] [] = some (.bool (S.all fun x => decide (x ∈ L)),[]) := fun k => De S L (by
  have hn := h.n;have := lD ((dG (N : Int)).1 k).1 fun v hv => by have := ((dG (N : Int)).1 k).2 v hv; omega
  omega) (by omega)
 have q : hO (N : Int) (-1) S = false \/ (S.all fun x => decide (x ∈ L)) = false := by
  cases a : hO (N : Int) (-1) S
  ·exact .inl rfl
  ·cases b : S.all fun x => decide (x ∈ L)
   ·exact .inr rfl
   ·refine absurd ⟨((dG (N : Int)).1 a).1,fun x hx => ?_⟩ hs;rw [jc] at b;simpa using b x hx
 rw [aM oJn VX (an rfl)];unfold gS at *;generalize hO (N : Int) (-1) S = a at *;generalize (S.all fun x => decide (x ∈ L)) = b at *;generalize dy Es = Y at *;generalize ints L = Z at *;generalize ints S = W at *;unfold qJn cJn;cases a
 ·simp [KZ,KY,KX,KW,KV,KU,KT,KS,c1,c2,KH,Oi,Oh,sJF,iJF,lJF,aH,ai,au,aG,aT,af,ah,ae,aa,ak,az,aP,aK]
 ·obtain rfl : b = false := by rcases q with q | q; cases q; exact q
  have c3 := c3 rfl;simp [KZ,KY,KX,KW,KV,KU,KT,KS,c1,c2,c3,KH,Oi,Oh,sJF,iJF,lJF,sJO,iJO,lJO,aH,ai,au,aG,aT,af,ah,ae,aa,ak,az,aP,aK]
theorem KL (T : List Int) (hT : T.length <= 9223372036854775807) : bk aA W7 [gS N Es L,.agg [.list 1 (ints S),.list 1 (ints T)]] [] = some (.bool (pQ N Es L S T),[]) := by
 rw [aM oJk sJk (an rfl)];have lS := aa S;have lT := aa T;by_cases v : Up S /\ ∀ x ∈ S,x ∈ L
 case neg =>
  have c := QJ h hE S hS v
  have e : pQ N Es L S T = false := by
   cases m : pQ N Es L S T
   ·rfl
   ·exact absurd ((zF h S T).1 m).1 v
  rw [e];unfold gS at *;generalize dy Es = Y at *;generalize ints L = Z at *;generalize ints S = W at *;generalize ints T = V at *;unfold qJk cJk;simp [HJ,HI,HH,c,lS,lT,VX,iJn,lJn,aH,ai,au,aG,aT,af,ah,ae,aa,ak,az,aP,aK]
 have c := OW h hE S hS v.1 v.2;have l1 : (iL N Es L S).length <= 64 := fc _;have l2 : (dO N Es L S).length <= 64 := fc _;have sm := xd (iL N Es L S) (dO N Es L S) S T (by omega) (by omega) hS hT
 have e : pQ N Es L S T = (decide (0 < (S.length : Int)) && (decide (0 < (T.length : Int)) && decide (iL N Es L S = S /\ dO N Es L S = T))) := by
  rw [Bool.eq_iff_iff,zF h];simp only [Bool.and_eq_true,decide_eq_true_eq];have p1 : (0 : Int) < S.length ↔ S ≠ [] := by rw [<- ga]; omega
  have p2 : (0 : Int) < T.length ↔ T ≠ [] := by rw [<- ga]; omega
  rw [p1,p2];constructor
  ·rintro ⟨_,a,b,c⟩; exact ⟨a,b,c⟩
  ·rintro ⟨a,b,c⟩; exact ⟨v,a,b,c⟩
 rw [e];clear e;generalize decide (iL N Es L S = S /\ dO N Es L S = T) = d at *;unfold gS at *;generalize ints (iL N Es L S) = A at *;generalize ints (dO N Es L S) = B at *;generalize dy Es = Y at *;generalize ints L = Z at *;by_cases q1 : (0 : Int) < S.length
 ·have q1' : 0 < S.length := by omega
  by_cases q2 : (0 : Int) < T.length
  ·have q2' : 0 < T.length := by omega
   rw [decide_eq_true q1,decide_eq_true q2,eD,eD];generalize ints S = W at *;generalize ints T = V at *;unfold qJk cJk;simp [HJ,HI,HH,c,sm,lS,lT,q1,q2,q1',q2',VX,iJn,lJn,sJq,iJq,lJq,aH,ai,au,aG,aT,af,ah,ae,aa,ak,az,aP,aK]
  ·have q2' : ¬ 0 < T.length := by omega
   rw [decide_eq_true q1,decide_eq_false q2,eD,fE];generalize ints S = W at *;generalize ints T = V at *;unfold qJk cJk;simp [HJ,HI,HH,c,lS,lT,q1,q2,q1',q2',VX,iJn,lJn,aH,ai,au,aG,aT,af,ah,ae,aa,ak,az,aP,aK]
 ·have q1' : ¬ 0 < S.length := by omega
  rw [decide_eq_false q1,fE];generalize ints S = W at *;generalize ints T = V at *;unfold qJk cJk;simp [HJ,HI,HH,c,lS,lT,q1,q1',VX,iJn,lJn,aH,ai,au,aG,aT,af,ah,ae,aa,ak,az,aP,aK]
end
theorem QI {n : Int} {Es : List Ed} {L : List Int} (hE : Es.length < 4294967295) (hL : L.length < 4294967295) (h0 : tU n Es L ≠ 0) (S : List Int) : bk aA Vv [gS n Es L,.list 1 (ints S)] [] = some (.dW [.agg [.list 1 [],.list 1 []],.int .i64 (tU n Es L)],[]) := by
 have c := qb n Es L hE hL;rw [aM oJn VX (an rfl)];unfold gS at *;generalize tU n Es L = x at *;generalize dy Es = Y at *;generalize ints L = Z at *;generalize ints S = W at *;unfold qJn cJn;simp [KZ,KY,KX,KW,KV,KU,KT,KS,c,h0,KH,Oi,Oh,aH,ai,au,aG,aT,af,ah,ae,aa,ak,az,aP,aK]
theorem V5 {n : Int} {Es : List Ed} {L : List Int} (hE : Es.length < 4294967295) (hL : L.length < 4294967295) (h0 : tU n Es L ≠ 0) (S T : List Int) : bk aA W7 [gS n Es L,.agg [.list 1 (ints S),.list 1 (ints T)]] [] = some (.bool false,[]) := by
 have c := QI hE hL h0 S;rw [aM oJk sJk (an rfl)];unfold gS at *;generalize tU n Es L = x at *;generalize dy Es = Y at *;generalize ints L = Z at *;generalize ints S = W at *;generalize ints T = V at *;unfold qJk cJk;simp [HJ,HI,HH,c,h0,VX,iJn,lJn,aH,ai,au,aG,aT,af,ah,ae,aa,ak,az,aP,aK]
/- What ref27's insert returns. -/
theorem aaB (o : List (List Int)) (S : List Int) (k : Nat) (hk : k < o.length) : kI (o.drop k) S = if dJ o[k] S = -1 then kI (o.drop (k + 1)) S + 1 else 0 := by
 rw [aZ hk,kI]
theorem WC (N : Nat) (Es : List Ed) (L : List Int) (o : List (List Int)) (k : Nat) : (fC N Es L o).take k = fC N Es L (o.take k) := by simp [fC]
theorem WE (N : Nat) (Es : List Ed) (L : List Int) (o : List (List Int)) (k : Nat) : (fC N Es L o).drop k = fC N Es L (o.drop k) := by simp [fC]
theorem ML (N : Nat) (Es : List Ed) (L : List Int) (o : List (List Int)) : bm (aE (fC N Es L o)) = true := by
 induction o with
 | nil => rfl
 | cons x r ih =>
   unfold fC pr at *;simp only [List.map_cons,aE,AV.cells,List.cons_append,List.nil_append,bm,AV.leaf,eD] at *;exact ih
section
variable (N : Nat) (Es : List Ed) (L : List Int) (o : List (List Int)) (S : List Int) (ho : o.length < 4000000000) (hb : ∀ T ∈ o,T.length <= 64) (hS : S.length <= 64)
include ho hb hS
theorem M7 : ∀ m k : Nat,k + m = o.length -> aU aA 0 (.loop Fk) ⟨[(0,.list 2 (fC N Es L o)),(3,.ptr 0 0),(5,.int .i64 k)],[some [.list 1 (ints S),.list 1 (ints (dO N Es L S))]]⟩ =
  some (.exit 0,⟨[(0,.list 2 (fC N Es L o)),(3,.ptr 0 0),(5,.int .i64 (k + kI (o.drop k) S : Nat)),(21,.bool false)],[some [.list 1 (ints S),.list 1 (ints (dO N Es L S))]]⟩)
 | 0,k,hk => by
   obtain rfl : k = o.length := by omega
   rw [bz,show kI [] S = 0 from rfl,GJ];have lp := dS N Es L o;generalize fC N Es L o = P at *;generalize ints (dO N Es L S) = B at *;refine bC ?_;unfold Fk;simp [xv,xt,xq,xp,xn,xm,xl,xk,lp,aH,ai,au,aG,aT,af,ah,ae,aa,ak,az,aP,aK]
 | m + 1,k,hk => by
   have bA : k < o.length := by omega
   have h1 : (k : Int) < o.length := by omega
   have hw := fm (i := k) (by omega);have lp := dS N Es L o;have cm := C8 o[k] S (by have := hb _ (ed bA); omega) (by omega);have g1 : ∀ h,(fC N Es L o)[k]'h = AV.agg [.list 1 (ints o[k]),.list 1 (ints (dO N Es L o[k]))] := fun h => RV ..;have g3 : (fC N Es L o)[k]? = some (.agg [.list 1 (ints o[k]),.list 1 (ints (dO N Es L o[k]))]) := by rw [CV,aI bA]; rfl
   have ih := M7 m (k + 1) (by omega);rw [aaB o S k bA];have tri := FT o[k] S;by_cases q : dJ o[k] S = -1
   ·rw [if_pos q,show k + (kI (o.drop (k + 1)) S + 1) = k + 1 + kI (o.drop (k + 1)) S by omega];rw [q] at cm;refine (ba ?_).trans ih;clear ih tri hb;generalize ints (dO N Es L S) = B at *;generalize ints (dO N Es L o[k]) = B1 at *;generalize fC N Es L o = P at *;unfold Fk;simp [xv,xt,xq,xp,xn,xm,xl,xk,h1,bA,hw,lp,cm,g1,g3,idx,sJy,iJy,lJy,aH,ai,au,aG,aT,af,ah,ae,aa,ak,az,aP,aK]
   ·rw [if_neg q,GJ];have q2 : ¬ dJ o[k] S < 0 := by omega
    generalize dJ o[k] S = x at *;refine bC ?_;clear ih tri hb;generalize ints (dO N Es L S) = B at *;generalize ints (dO N Es L o[k]) = B1 at *;generalize fC N Es L o = P at *;unfold Fk;simp [xv,xt,xq,xp,xn,xm,xl,xk,h1,bA,hw,lp,cm,q2,g1,g3,idx,sJy,iJy,lJy,aH,ai,au,aG,aT,af,ah,ae,aa,ak,az,aP,aK]
theorem aaE : bk aA Pu [.list 2 (fC N Es L o),.agg [.list 1 (ints S),.list 1 (ints (dO N Es L S))]] [] = some (.list 2 (fC N Es L (sY o S)),[]) := by
 have l := M7 N Es L o S ho hb hS o.length 0 (by omega);rw [jj,List.drop_zero,Nat.zero_add] at l;have kl := ach o S;rw [aM oJa3 sJa3 (an rfl)];unfold sY;generalize kI o S = k at *;have lp := dS N Es L o;have t0 : (fC N Es L o).take o.length = fC N Es L o := bL (by omega);have t1 := WC N Es L o k;have t2 := WE N Es L o k;have lt1 := dS N Es L (o.take k);have lt2 := dS N Es L (o.drop k);rw [List.length_take,Nat.min_eq_left kl] at lt1;rw [List.length_drop] at lt2;have e : fC N Es L (o.take k ++ S :: o.drop k) = fC N Es L (o.take k) ++ .agg [.list 1 (ints S),.list 1 (ints (dO N Es L S))] :: fC N Es L (o.drop k) := by simp [fC,pr]
 have t3 : (fC N Es L (o.take k)).take k = fC N Es L (o.take k) := bL (by omega);have t4 : (fC N Es L (o.take k) ++ [AV.agg [.list 1 (ints S),.list 1 (ints (dO N Es L S))]]).take (k + 1) = fC N Es L (o.take k) ++ [AV.agg [.list 1 (ints S),.list 1 (ints (dO N Es L S))]] := bL (by rw [bu,lt1]; simp);have t5 : (fC N Es L (o.drop k)).take (o.length - k) = fC N Es L (o.drop k) := bL (by omega);have t6 : (fC N Es L (o.take k) ++ AV.agg [.list 1 (ints S),.list 1 (ints (dO N Es L S))] :: fC N Es L (o.drop k)).take (k + (o.length - k + 1)) = fC N Es L (o.take k) ++ AV.agg [.list 1 (ints S),.list 1 (ints (dO N Es L S))] :: fC N Es L (o.drop k) := bL (by rw [bu,List.length_cons,lt1,lt2]; omega);have k0 : (0 : Int) <= k := by omega
 have k3 : (k : Int) <= o.length := by omega
 have k4 : o.length - k <= o.length := by omega
 have k5 : k <= 4294967296 := by omega
 have k6 : k + 1 <= 4294967296 := by omega
 have k7 : k + 1 + (o.length - k) <= 4294967296 := by omega
 have c1 := ML N Es L (o.take k);have c2 := ML N Es L (o.drop k);by_cases q : k < o.length
 ·have h1 : (k : Int) < o.length := by omega
  have sm := xd o[k] (dO N Es L o[k]) S (dO N Es L S) (by have := hb _ (ed q); omega) (by have := fc (cR N Es L o[k]); unfold dO; omega) (by omega) (by have := fc (cR N Es L S); unfold dO; omega);have g1 : ∀ h,(fC N Es L o)[k]'h = AV.agg [.list 1 (ints o[k]),.list 1 (ints (dO N Es L o[k]))] := fun h => RV ..;have g3 : (fC N Es L o)[k]? = some (.agg [.list 1 (ints o[k]),.list 1 (ints (dO N Es L o[k]))]) := by rw [CV,aI q]; rfl
  rw [aI q];by_cases r : o[k] = S
  ·rw [if_pos (by rw [r])];rw [decide_eq_true ⟨r,by rw [r]⟩] at sm;clear hb;generalize ints (dO N Es L o[k]) = B1 at *;generalize ints o[k] = A1 at *;generalize ints (dO N Es L S) = B at *;generalize ints S = A at *;generalize fC N Es L o = P at *;unfold T2 cJa3;simp [xv,xt,xq,xp,xn,xm,xl,xk,l,h1,q,lp,t0,sm,g1,g3,idx,sJq,iJq,lJq,aH,ai,au,aG,aT,af,ah,ae,aa,ak,az,aP,aK]
  ·rw [if_neg (by simpa using r),e];rw [decide_eq_false (fun z => r z.1)] at sm;clear hb;generalize ints (dO N Es L o[k]) = B1 at *;generalize ints o[k] = A1 at *;generalize ints (dO N Es L S) = B at *;generalize ints S = A at *;generalize fC N Es L (o.take k) = P1 at *;generalize fC N Es L (o.drop k) = P2 at *;generalize fC N Es L o = P at *;unfold T2 cJa3;simp [xv,xt,xq,xp,xn,xm,xl,xk,l,h1,q,lp,t0,t1,t2,t3,t4,t5,t6,lt1,lt2,k0,k3,k4,k5,k6,k7,c1,c2,sm,g1,g3,lz,idx,sJq,iJq,lJq,aH,ai,au,aG,aT,af,ah,ae,aa,ak,az,aP,aK]
 ·have h1 : ¬ (k : Int) < o.length := by omega
  obtain rfl : k = o.length := by omega
  rw [if_neg (by rw [List.getElem?_eq_none (Nat.le_refl _)]; simp),e];have eo : o.take o.length = o := List.take_length;rw [eo] at t1 lt1 t3 t4 t6 c1;rw [eo];rw [show o.length + (o.length - o.length + 1) = o.length + 1 by omega] at t6;clear hb e;generalize ints (dO N Es L S) = B at *;generalize ints S = A at *;generalize fC N Es L (o.drop o.length) = P2 at *;generalize fC N Es L o = P at *;unfold T2 cJa3;simp [xv,xt,xq,xp,xn,xm,xl,xk,l,h1,lp,t1,t2,t3,t4,t5,t6,lt1,lt2,k0,k3,k4,k5,k6,k7,c1,c2,lz,idx,aH,ai,au,aG,aT,af,ah,ae,aa,ak,az,aP,aK]
end
end Go.BmP
