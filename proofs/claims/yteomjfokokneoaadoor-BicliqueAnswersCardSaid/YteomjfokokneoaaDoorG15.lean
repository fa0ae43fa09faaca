/- What behind of biclique returns; the boxes of a walk. -/
import Derived.Test.YteomjfokokneoaaDoorUseM
import Derived.Test.YteomjfokokneoaaDoorK12
import Derived.Test.YteomjfokokneoaaDoorK09
set_option linter.unusedSimpArgs false
set_option linter.unusedVariables false
set_option maxRecDepth 100000
set_option maxHeartbeats 4000000
open Bool renaming and_eq_true → ab, eq_iff_iff → gP
open Int renaming one_mul → Al
open List renaming getD_eq_getElem?_getD → cM, getElem?_eq_getElem → aI
open Nat renaming pow_le_pow_right → gz, two_pow_pos → Bz
open Option.some renaming inj → dm
namespace Go.BmP
open Go.Am Go.Bm
theorem Qc (P : List Int) (hb : ∀ v ∈ P,0 <= v /\ v < 64) (hl : P.length < 4294967295) : bk aA Pv [.list 1 (ints P)] [] = some (.int .u64 (bh P : Nat),[]) := by
 rw [aM oJa1 sJa1 (Nat.le_of_ble_eq_true rfl)];by_cases h0 : P = []
 ·subst h0;rw [YT];unfold Wz cJa1;simp [O0,OZ,OY,OX,cD,aH,ai,au,aG,aT,af,ah,ae,aa,ak,az,aP,aK]
 ·obtain ⟨n,hn⟩ : ∃ n,P.length = n + 1 := by
   cases P with
   | nil => exact absurd rfl h0
   | cons x r => exact ⟨r.length,rfl⟩
  obtain ⟨v,hv⟩ : ∃ v,P[n]? = some v := ⟨_,aI (by omega)⟩;have hv' : ∀ h : n < P.length,P[n] = v := fun h => by rw [aI h] at hv; exact dm hv
  have Cz : P.getLast? = some v := by rw [List.getLast?_eq_getElem?,hn]; exact hv
  have eb : bh P = 2 ^ (v.toNat + 1) - 1 := by unfold bh; rw [Cz]
  obtain ⟨v0,v1⟩ := hb v (List.mem_of_getLast? Cz);have v0' : ¬ v < 0 := by omega
  have p0 : 0 < 2 ^ v.toNat := Bz _;have p1 : 2 ^ (v.toNat + 1) <= 2 ^ 64 := gz (by decide) (by omega);have p2 : 2 ^ (v.toNat + 1) = 2 ^ v.toNat * 2 := Nat.pow_succ 2 v.toNat
  have s1 : IntKind.u64.wrap (2 * 2 ^ (min v.toNat 64)) = IntKind.u64.wrap ((2 ^ (v.toNat + 1) : Nat) : Int) := by
   congr 1;rw [show min v.toNat 64 = v.toNat by omega,p2];simp only [Int.natCast_mul,Int.natCast_pow];exact Int.mul_comm _ _
  have s2 : IntKind.u64.wrap (IntKind.u64.wrap ((2 ^ (v.toNat + 1) : Nat) : Int) - 1) = ((2 ^ (v.toNat + 1) - 1 : Nat) : Int) := by
   rw [IntKind.wrap_u64,IntKind.wrap_u64]; omega
  have w1 := oQ (i := n) (by omega);have n1 : ¬ ((n : Int) + 1 = 0) := by omega
  have n2 : (n : Int) < (n : Int) + 1 := by omega
  have e3 : (n : Int) + 1 - 1 = n := by omega
  have i1 := PB (k := .i64) (i := (n : Int)) (n := n + 1) (by omega) (by omega);rw [eb];generalize IntKind.u64.wrap ((2 ^ (v.toNat + 1) : Nat) : Int) = W at *;generalize 2 ^ (v.toNat + 1) - 1 = W1 at *;clear p0 p1 p2 eb;unfold Wz cJa1;simp [O0,OZ,OY,OX,hn,n1,n2,e3,w1,i1,hv,hv',s1,s2,v0',h0,IntKind.bits,aH,ai,au,aG,aT,af,ah,ae,aa,ak,az,aP,aK]
def pr (S T : List Int) : AV := .agg [.list 1 (ints S),.list 1 (ints T)]
def fC (N : Nat) (Es : List Ed) (L : List Int) (o : List (List Int)) : List AV := o.map fun S => pr S (dO N Es L S)
theorem dS (N : Nat) (Es : List Ed) (L : List Int) (o : List (List Int)) : (fC N Es L o).length = o.length := List.length_map _
theorem WD (N : Nat) (Es : List Ed) (L : List Int) (o : List (List Int)) (S : List Int) : fC N Es L o ++ [.agg [.list 1 (ints S),.list 1 (ints (dO N Es L S))]] = fC N Es L (o ++ [S]) := by simp [fC,pr]
structure Plain (x : List AV) : Prop where
 m : ∀ g,cC g x = x
 b : cQ x = []
 n : ∀ b,jL b x = true
 c : ∀ p f j,YM p f j x = none
structure iM (x : List AV) : Prop where
 m : ∀ g,cC g x = x
 b : cQ x = []
 o : bw x = false
 p : fx x = true
 l : x.map gI = x
 n : ∀ b,3 <= b -> jL b x = true
def eH (N : Nat) (Es : List Ed) (L : List Int) (x1 x2 : List AV) (nT : Nat) (b7 : List AV) (after : List Int) (P : List Int) : Heap := [some [.int .i64 N,.list 2 (dy Es),.list 1 (ints L)],some x1,some x2,some (fw (cU N Es) (ei L) (xf N L)),some [.list 1 (ints after)],some [.func (.func nT) [] b7],some [.own 1 (ints P)],some [.func (.func E6) [] [.ptr 3 0,.ptr 6 0,.ptr 4 0,.ptr 5 0,.ptr 7 0]]]
structure Bv {σ : Type} (N : Nat) (Es : List Ed) (L : List Int) (after : List Int) (x1 : List AV) (nT : Nat) (b7 : List AV) (X2 : σ -> List AV) (tk : σ -> List Int -> σ × Bool) (Inv : σ -> Prop) : Prop where
 fn : ∃ q,aA.fn nT = some (⟨true,false,false⟩,q)
 EG : Plain x1
 Aj : ∀ s,Plain (X2 s)
 cp : iM b7
 run : ∀ s S P,Inv s -> S ≠ [] -> S.length <= 64 -> bk aA nT (.agg [.list 1 (ints S),.list 1 (ints (dO N Es L S))] :: b7) (eH N Es L x1 (X2 s) nT b7 after P) = some (.bool (tk s S).2,eH N Es L x1 (X2 (tk s S).1) nT b7 after P)
 inv : ∀ s S,Inv s -> S ≠ [] -> S.length <= 64 -> (tk s S).2 = true -> Inv (tk s S).1
/- The walk of biclique: its regions. -/
theorem Gh (a b : Int) : (a == b) = decide (a = b) := by by_cases h : a = b <;> simp [h]
theorem SK (l : List Int) : (ints l).take l.length = ints l := by rw [bR,List.take_length]
def ev (r : Nat) (t : Bool) (x : Env) : Env := (0,.int .u64 (r : Nat)) :: (1,.bool t) :: (2,.ptr 3 0) :: (3,.ptr 6 0) :: (4,.ptr 4 0) :: (5,.ptr 5 0) :: (6,.ptr 7 0) :: x
theorem eX0 (N : Nat) (Es : List Ed) (L : List Int) {x1 x2 b7 : List AV} (q1 : Plain x1) (q2 : Plain x2) (q3 : iM b7) (nT : Nat) (after : List Int) (P : List Int) (r : Nat) (t : Bool) : aU aA 8 (.aO eU false [] [0,1,2,3,4,5,6]) ⟨ev r t [],eH N Es L x1 x2 nT b7 after P⟩ = some (.normal,⟨ev r t [],eH N Es L x1 x2 nT b7 after P⟩) := by
 obtain ⟨oF,oL,oC,oI⟩ := q1;obtain ⟨oE,oK,oB,oH⟩ := q2;obtain ⟨oD,oJ,oA,ox,oG,_⟩ := q3;unfold ev eH fw;simp [eU,eS,eE,eR,eQ,eP,eO,eN,eM,eL,dn,dE,dD,dC,dz,oF,oL,oC,oI,oE,oK,oB,oH,oD,oJ,oA,ox,oG,aH,ai,au,aG,aT,af,ah,ae,aa,ak,az,aP,aK]
theorem eX1 {N : Nat} {Es : List Ed} {L : List Int} (h : kj N Es L) {x1 x2 b7 : List AV} (q1 : Plain x1) (q2 : Plain x2) (q3 : iM b7) (nT : Nat) (after : List Int)  {P : List Int} (hP : ∀ v ∈ P,0 <= v /\ v < 64) (hl : P.length < 4294967295) (r : Nat) (t : Bool) : aU aA 8 (.aO eS true [(4,4),(5,5),(0,2),(1,2),(0,3),(1,3)] [0,1,2,3,4,5,6,10]) ⟨ev r t [],eH N Es L x1 x2 nT b7 after P⟩ = some (.normal,⟨ev r t [(10,.int .u64 ((ei L &&& (18446744073709551615 - bh P) : Nat) : Int))],eH N Es L x1 x2 nT b7 after P⟩) := by
 obtain ⟨oF,oL,oC,oI⟩ := q1;obtain ⟨oE,oK,oB,oH⟩ := q2;obtain ⟨oD,oJ,oA,ox,oG,_⟩ := q3;have hb := Qc P hP hl;have e1 := u64_andNot_nat (ei L) (bh P) (fM fun v hv => (fN h (fun _ k => k) v hv).2) (ae3 fun v hv => (hP v hv).2);unfold ev eH fw;generalize ((ei L &&& (18446744073709551615 - bh P) : Nat) : Int) = W at *;simp [eU,eS,eE,eR,eQ,eP,eO,eN,eM,eL,dn,dE,dD,dC,dz,hb,e1,SK,sJa1,iJa1,lJa1,oF,oL,oC,oI,oE,oK,oB,oH,oD,oJ,oA,ox,oG,aH,ai,au,aG,aT,af,ah,ae,aa,ak,az,aP,aK]
theorem eX2z (N : Nat) (Es : List Ed) (L : List Int) {x1 x2 b7 : List AV} (q1 : Plain x1) (q2 : Plain x2) (q3 : iM b7) (nT : Nat) (after : List Int) (P : List Int) (r : Nat) (t : Bool) : aU aA 8 (.aO eE false [] [0,1,2,3,4,5,6,10,21]) ⟨ev r t [(10,.int .u64 ((0 : Nat) : Int))],eH N Es L x1 x2 nT b7 after P⟩ = some (.normal,⟨ev r t [(10,.int .u64 ((0 : Nat) : Int)),(21,.bool false)],eH N Es L x1 x2 nT b7 after P⟩) := by
 obtain ⟨oF,oL,oC,oI⟩ := q1;obtain ⟨oE,oK,oB,oH⟩ := q2;obtain ⟨oD,oJ,oA,ox,oG,_⟩ := q3;unfold ev eH fw;simp [eU,eS,eE,eR,eQ,eP,eO,eN,eM,eL,dn,dE,dD,dC,dz,oF,oL,oC,oI,oE,oK,oB,oH,oD,oJ,oA,ox,oG,aH,ai,au,aG,aT,af,ah,ae,aa,ak,az,aP,aK]
theorem eX2 (N : Nat) (Es : List Ed) (L : List Int) {x1 x2 b7 : List AV} (q1 : Plain x1) (q2 : Plain x2) (q3 : iM b7) (nT : Nat) (after : List Int) (P : List Int) (r : Nat) (t : Bool) {m : Nat} (h0 : m ≠ 0) : aU aA 8 (.aO eE false [] [0,1,2,3,4,5,6,10,21]) ⟨ev r t [(10,.int .u64 (m : Int))],eH N Es L x1 x2 nT b7 after P⟩ = some (.normal,⟨ev r t [(10,.int .u64 (m : Int)),(21,.bool true)],eH N Es L x1 x2 nT b7 after P⟩) := by
 obtain ⟨oF,oL,oC,oI⟩ := q1;obtain ⟨oE,oK,oB,oH⟩ := q2;obtain ⟨oD,oJ,oA,ox,oG,_⟩ := q3;have n0 : ¬ ((m : Int) = 0) := by omega
 generalize (m : Int) = X at *;unfold ev eH fw;simp [eU,eS,eE,eR,eQ,eP,eO,eN,eM,eL,dn,dE,dD,dC,dz,n0,oF,oL,oC,oI,oE,oK,oB,oH,oD,oJ,oA,ox,oG,aH,ai,au,aG,aT,af,ah,ae,aa,ak,az,aP,aK]
theorem eX3 (N : Nat) (Es : List Ed) (L : List Int) {x1 x2 b7 : List AV} (q1 : Plain x1) (q2 : Plain x2) (q3 : iM b7) (nT : Nat) (after : List Int) (P : List Int) (r : Nat) (t : Bool) {m : Nat} (h0 : m ≠ 0) (hm : m < 18446744073709551616) : aU aA 8 (.aO eR false [] [0,1,2,3,4,5,6,10,11]) ⟨ev r t [(10,.int .u64 (m : Int)),(21,.bool true)],eH N Es L x1 x2 nT b7 after P⟩ = some (.normal,⟨ev r t [(10,.int .u64 (m : Int)),(11,.int .i64 (tz m : Nat))],eH N Es L x1 x2 nT b7 after P⟩) := by
 obtain ⟨oF,oL,oC,oI⟩ := q1;obtain ⟨oE,oK,oB,oH⟩ := q2;obtain ⟨oD,oJ,oA,ox,oG,_⟩ := q3;have ht := OD m h0 hm;generalize (m : Int) = X at *;generalize ((tz m : Nat) : Int) = v at *;unfold ev eH fw;simp [eU,eS,eE,eR,eQ,eP,eO,eN,eM,eL,dn,dE,dD,dC,dz,ht,sJ6,iJ6,lJ6,oF,oL,oC,oI,oE,oK,oB,oH,oD,oJ,oA,ox,oG,aH,ai,au,aG,aT,af,ah,ae,aa,ak,az,aP,aK]
theorem eX4 (N : Nat) (Es : List Ed) (L : List Int) {x1 x2 b7 : List AV} (q1 : Plain x1) (q2 : Plain x2) (q3 : iM b7) (nT : Nat) (after : List Int) (P : List Int) (r : Nat) (t : Bool) (X v : Int) : aU aA 8 (.aO eQ false [] [0,1,2,3,4,5,6,10,11,12]) ⟨ev r t [(10,.int .u64 X),(11,.int .i64 v)],eH N Es L x1 x2 nT b7 after P⟩ = some (.normal,⟨ev r t [(10,.int .u64 X),(11,.int .i64 v),(12,.bool (kR after P t))],eH N Es L x1 x2 nT b7 after P⟩) := by
 obtain ⟨oF,oL,oC,oI⟩ := q1;obtain ⟨oE,oK,oB,oH⟩ := q2;obtain ⟨oD,oJ,oA,ox,oG,_⟩ := q3;unfold ev eH fw kR;cases t
 ·simp [eU,eS,eE,eR,eQ,eP,eO,eN,eM,eL,dn,dE,dD,dC,dz,oF,oL,oC,oI,oE,oK,oB,oH,oD,oJ,oA,ox,oG,aH,ai,au,aG,aT,af,ah,ae,aa,ak,az,aP,aK]
 ·simp [eU,eS,eE,eR,eQ,eP,eO,eN,eM,eL,dn,dE,dD,dC,dz,oF,oL,oC,oI,oE,oK,oB,oH,oD,oJ,oA,ox,oG,aH,ai,au,aG,aT,af,ah,ae,aa,ak,az,aP,aK]
theorem Dx {N : Nat} {Es : List Ed} {L : List Int} (h : kj N Es L) {v : Int} (hv : v ∈ L) : idx (.int .i64 v) (cU N Es).length = some v.toNat /\ (us (cU N Es))[v.toNat]? = some (.int .u64 ((cU N Es).getD v.toNat 0 : Nat)) := by
 have b := h.l.2 v hv;have e := (eJ h).1;refine ⟨PB b.1 (by rw [e]; exact b.2),?_⟩;rw [Ji,cM,aI (by omega)];rfl
theorem YZ {after P : List Int} (h : P.length < after.length) (h2 : after.length < 9223372036854775808) : idx (.int .i64 (P.length : Int)) after.length = some P.length /\ (ints after)[P.length]? = some (.int .i64 (after.getD P.length 0)) := by
 refine ⟨PB (by omega) (by omega),?_⟩;rw [ak,cM,aI h];rfl
theorem eX5 {N : Nat} {Es : List Ed} {L : List Int} (h : kj N Es L) {x1 x2 b7 : List AV} (q1 : Plain x1) (q2 : Plain x2) (q3 : iM b7) (nT : Nat) {after : List Int} (ha : after.length < 9223372036854775808) (P : List Int) {r : Nat} (hr : r < 18446744073709551616) (t : Bool) (X : Int) {v : Int} (hv : v ∈ L) : aU aA 8 (.aO eP false [] [0,1,2,3,4,5,6,10,11,12,55]) ⟨ev r t [(10,.int .u64 X),(11,.int .i64 v),(12,.bool (kR after P t))],eH N Es L x1 x2 nT b7 after P⟩ = some (.normal,⟨ev r t [(10,.int .u64 X),(11,.int .i64 v),(12,.bool (kR after P t)),(55,.bool (nY after P t v || decide (r &&& (cU N Es).getD v.toNat 0 = 0)))],eH N Es L x1 x2 nT b7 after P⟩) := by
 obtain ⟨oF,oL,oC,oI⟩ := q1;obtain ⟨oE,oK,oB,oH⟩ := q2;obtain ⟨oD,oJ,oA,ox,oG,_⟩ := q3;obtain ⟨i1,i2⟩ := Dx h hv;have hb := h.l.2 v hv;have Zn := od (eJ h).2.1 v.toNat;have w1 := u64_and_nat r ((cU N Es).getD v.toNat 0) hr Zn
 have z : decide (((r &&& (cU N Es).getD v.toNat 0 : Nat) : Int) = 0) = decide (r &&& (cU N Es).getD v.toNat 0 = 0) := by
  rw [gP,decide_eq_true_eq,decide_eq_true_eq]; omega
 have el := ko (cU N Es);have UC : ∀ h : v.toNat < (us (cU N Es)).length,(us (cU N Es))[v.toNat] = .int .u64 ((cU N Es).getD v.toNat 0 : Nat) := fun h => by rw [aI h] at i2; exact dm i2
 rw [<- z];unfold ev eH fw nY;generalize us (cU N Es) = A at *;generalize ((r &&& (cU N Es).getD v.toNat 0 : Nat) : Int) = Q at *;generalize (((cU N Es).getD v.toNat 0 : Nat) : Int) = a at *;by_cases k : kR after P t = true
 ·have k2 : P.length < after.length := by
   simp only [kR,ab,decide_eq_true_eq] at k; exact k.2
  obtain ⟨j1,j2⟩ := YZ k2 ha;have j2' : ∀ h : P.length < (ints after).length,(ints after)[P.length] = .int .i64 (after.getD P.length 0) := fun h => by rw [aI h] at j2; exact dm j2
  generalize after.getD P.length 0 = w at *;rw [k];by_cases l : v < w
  ·simp [eU,eS,eE,eR,eQ,eP,eO,eN,eM,eL,dn,dE,dD,dC,dz,i1,i2,UC,el,w1,j1,j2,j2',l,Gh,oF,oL,oC,oI,oE,oK,oB,oH,oD,oJ,oA,ox,oG,aH,ai,au,aG,aT,af,ah,ae,aa,ak,az,aP,aK]
  ·simp [eU,eS,eE,eR,eQ,eP,eO,eN,eM,eL,dn,dE,dD,dC,dz,i1,i2,UC,el,w1,j1,j2,j2',l,Gh,oF,oL,oC,oI,oE,oK,oB,oH,oD,oJ,oA,ox,oG,aH,ai,au,aG,aT,af,ah,ae,aa,ak,az,aP,aK]
 ·have k : kR after P t = false := by simpa using k
  rw [k];simp [eU,eS,eE,eR,eQ,eP,eO,eN,eM,eL,dn,dE,dD,dC,dz,i1,i2,UC,el,w1,Gh,oF,oL,oC,oI,oE,oK,oB,oH,oD,oJ,oA,ox,oG,aH,ai,au,aG,aT,af,ah,ae,aa,ak,az,aP,aK]
theorem eX6 (N : Nat) (Es : List Ed) (L : List Int) {x1 x2 b7 : List AV} (q1 : Plain x1) (q2 : Plain x2) (q3 : iM b7) (nT : Nat) {after : List Int} (ha : after.length < 9223372036854775808) (P : List Int) (r : Nat) (t : Bool) (X v : Int) : aU aA 8 (.aO eO false [] [0,1,2,3,4,5,6,10,11,12]) ⟨ev r t [(10,.int .u64 X),(11,.int .i64 v),(12,.bool (kR after P t)),(55,.bool false)],eH N Es L x1 x2 nT b7 after P⟩ = some (.normal,⟨ev r t [(10,.int .u64 X),(11,.int .i64 v),(12,.bool (Co after P t v))],eH N Es L x1 x2 nT b7 after P⟩) := by
 obtain ⟨oF,oL,oC,oI⟩ := q1;obtain ⟨oE,oK,oB,oH⟩ := q2;obtain ⟨oD,oJ,oA,ox,oG,_⟩ := q3;unfold ev eH fw Co;by_cases k : kR after P t = true
 ·have k2 : P.length < after.length := by
   simp only [kR,ab,decide_eq_true_eq] at k; exact k.2
  obtain ⟨j1,j2⟩ := YZ k2 ha;have j2' : ∀ h : P.length < (ints after).length,(ints after)[P.length] = .int .i64 (after.getD P.length 0) := fun h => by rw [aI h] at j2; exact dm j2
  generalize after.getD P.length 0 = w at *;rw [k];simp [eU,eS,eE,eR,eQ,eP,eO,eN,eM,eL,dn,dE,dD,dC,dz,j1,j2,j2',Gh,oF,oL,oC,oI,oE,oK,oB,oH,oD,oJ,oA,ox,oG,aH,ai,au,aG,aT,af,ah,ae,aa,ak,az,aP,aK]
 ·have k : kR after P t = false := by simpa using k
  rw [k];simp [eU,eS,eE,eR,eQ,eP,eO,eN,eM,eL,dn,dE,dD,dC,dz,oF,oL,oC,oI,oE,oK,oB,oH,oD,oJ,oA,ox,oG,aH,ai,au,aG,aT,af,ah,ae,aa,ak,az,aP,aK]
/- The walk of biclique: its regions, second part. -/
theorem abl {N : Nat} {Es : List Ed} {L S : List Int} (h : kj N Es L) (hu : Up S) (hS : ∀ x ∈ S,x ∈ L) : ∀ j,(cR N Es L S).testBit j = true -> j < (cU N Es).length := fun j hj => by
 have hn := h.n
 have h64 : j < 64 := by
  by_cases k : j < 64
  ·exact k
  ·have p : 2 ^ 64 <= 2 ^ j := gz (by decide) (by omega);rw [Nat.testBit_lt_two_pow (by have := Aa N Es L S; omega)] at hj;cases hj
 have := (jH h hu hS (j : Int)).1 (gM.2 ⟨j,rfl,h64,hj⟩);rw [(eJ h).1];omega
theorem eX7 {N : Nat} {Es : List Ed} {L : List Int} (h : kj N Es L) {x1 x2 b7 : List AV} (q1 : Plain x1) (q2 : Plain x2) (q3 : iM b7) (nT : Nat) (after : List Int)  {P : List Int} (hP : ∀ v ∈ P,0 <= v /\ v < 64) (hl : P.length < 4294967295) {r : Nat} (hr : r < 18446744073709551616) (t : Bool) (X : Int) {v : Int} (hv : v ∈ L) (b : Bool) (hq : ∀ j,(r &&& (cU N Es).getD v.toNat 0).testBit j = true -> j < (cU N Es).length) : aU aA 8 (.aO eN true [(15,15),(0,1),(0,2),(0,3),(1,3),(0,4),(3,4),(0,5),(0,6),(1,6),(0,7),(0,9),(1,9),(2,9),(3,9),(4,9),(5,9),(6,9),(7,9),(8,9),(0,11),(3,11),(6,11),(8,11),(9,11),(10,11),(0,12),(3,12),(6,12),(8,12),(9,12),(10,12)] [0,1,2,3,4,5,6,10,11,12,13,14]) ⟨ev r t [(10,.int .u64 X),(11,.int .i64 v),(12,.bool b)],eH N Es L x1 x2 nT b7 after P⟩ = some (.normal,⟨ev r t [(10,.int .u64 X),(11,.int .i64 v),(12,.bool b),(13,.int .u64 (cL N Es L (r &&& (cU N Es).getD v.toNat 0) : Nat)),(14,.int .u64 (ei P ||| 2 ^ v.toNat : Nat))],eH N Es L x1 x2 nT b7 after P⟩) := by
 obtain ⟨oF,oL,oC,oI⟩ := q1;obtain ⟨oE,oK,oB,oH⟩ := q2;obtain ⟨oD,oJ,oA,ox,oG,_⟩ := q3;obtain ⟨i1,i2⟩ := Dx h hv;have hb := h.l.2 v hv;have hn := h.n;have Zn := od (eJ h).2.1 v.toNat;have w1 := u64_and_nat r ((cU N Es).getD v.toNat 0) hr Zn;have el := ko (cU N Es);have UC : ∀ h : v.toNat < (us (cU N Es)).length,(us (cU N Es))[v.toNat] = .int .u64 ((cU N Es).getD v.toNat 0 : Nat) := fun h => by rw [aI h] at i2; exact dm i2
 have ml : ei L < 18446744073709551616 := fM fun v hv => (fN h (fun _ k => k) v hv).2;have hL := xB (cU N Es) (eJ h).2.1 (ei L) (xf N L) (r &&& (cU N Es).getD v.toNat 0) (Nat.lt_of_le_of_lt Nat.and_le_left hr) hq ml;have hM := jW P hl hP;have mp : ei P < 18446744073709551616 := fM fun v hv => (hP v hv).2;have v0' : ¬ v < 0 := by omega
 have s1 := VU (v := v) hb.1 (by omega);have CQ : IntKind.u64.wrap (2 ^ (min v.toNat 64)) = ((2 ^ v.toNat : Nat) : Int) := by rw [<- s1,Al]
 have w2 := u64_or_nat (ei P) (2 ^ v.toNat) mp (pf (by omega) hb.1);have ec : cL N Es L (r &&& (cU N Es).getD v.toNat 0) = pW (cU N Es) (ei L) (gN (r &&& (cU N Es).getD v.toNat 0)) := rfl;rw [ec];unfold fw at hL;unfold ev eH fw;generalize us (cU N Es) = A at *;generalize ((ei P ||| 2 ^ v.toNat : Nat) : Int) = Ow at *;generalize ((2 ^ v.toNat : Nat) : Int) = p at *;generalize ((ei P : Nat) : Int) = M at *;generalize ((pW (cU N Es) (ei L) (gN (r &&& (cU N Es).getD v.toNat 0)) : Nat) : Int) = W at *;generalize ((r &&& (cU N Es).getD v.toNat 0 : Nat) : Int) = Q at *;generalize (((cU N Es).getD v.toNat 0 : Nat) : Int) = a at *;simp [eU,eS,eE,eR,eQ,eP,eO,eN,eM,eL,dn,dE,dD,dC,dz,i1,i2,UC,el,w1,w2,hL,hM,SK,v0',s1,CQ,IntKind.bits,sJK,iJK,lJK,Vs,XI,Xv,oF,oL,oC,oI,oE,oK,oB,oH,oD,oJ,oA,ox,oG,aH,ai,au,aG,aT,af,ah,ae,aa,ak,az,aP,aK]
theorem eX8 (N : Nat) (Es : List Ed) (L : List Int) {x1 x2 b7 : List AV} (q1 : Plain x1) (q2 : Plain x2) (q3 : iM b7) (nT : Nat) (after : List Int) (P : List Int) (r : Nat) (t : Bool) (X : Int) {v : Int} (h0 : 0 <= v) (h1 : v < 64) (b : Bool) {w m : Nat} (hw : w < 18446744073709551616) (hm : m < 18446744073709551616) : aU aA 8 (.aO eM true [(10,10)] [0,1,2,3,4,5,6,10,11,12,13,14,90]) ⟨ev r t [(10,.int .u64 X),(11,.int .i64 v),(12,.bool b),(13,.int .u64 (w : Int)),(14,.int .u64 (m : Int))],eH N Es L x1 x2 nT b7 after P⟩ = some (.normal,⟨ev r t [(10,.int .u64 X),(11,.int .i64 v),(12,.bool b),(13,.int .u64 (w : Int)),(14,.int .u64 (m : Int)),(90,.bool (!decide (w &&& (2 ^ v.toNat - 1) = m &&& (2 ^ v.toNat - 1))))],eH N Es L x1 x2 nT b7 after P⟩) := by
 obtain ⟨oF,oL,oC,oI⟩ := q1;obtain ⟨oE,oK,oB,oH⟩ := q2;obtain ⟨oD,oJ,oA,ox,oG,_⟩ := q3;have v0' : ¬ v < 0 := by omega
 have pl := pf h1 h0;have s1 := VU h0 h1;have CQ : IntKind.u64.wrap (2 ^ (min v.toNat 64)) = ((2 ^ v.toNat : Nat) : Int) := by rw [<- s1,Al]
 have s2 := decU (m := 2 ^ v.toNat) (by have := Bz v.toNat; omega) pl;have w1 := u64_and_nat w (2 ^ v.toNat - 1) hw (by omega);have w2 := u64_and_nat m (2 ^ v.toNat - 1) hm (by omega)
 have z : decide (((w &&& (2 ^ v.toNat - 1) : Nat) : Int) = ((m &&& (2 ^ v.toNat - 1) : Nat) : Int)) = decide (w &&& (2 ^ v.toNat - 1) = m &&& (2 ^ v.toNat - 1)) := by
  rw [gP,decide_eq_true_eq,decide_eq_true_eq]; omega
 rw [<- z];unfold ev eH fw;generalize ((w &&& (2 ^ v.toNat - 1) : Nat) : Int) = q1 at *;generalize ((m &&& (2 ^ v.toNat - 1) : Nat) : Int) = q2 at *;generalize ((2 ^ v.toNat - 1 : Nat) : Int) = p1 at *;generalize ((2 ^ v.toNat : Nat) : Int) = p at *;generalize (w : Int) = W at *;generalize (m : Int) = M at *;by_cases k : q1 = q2
 ·simp [eU,eS,eE,eR,eQ,eP,eO,eN,eM,eL,dn,dE,dD,dC,dz,v0',s1,CQ,s2,w1,w2,k,Gh,IntKind.bits,oF,oL,oC,oI,oE,oK,oB,oH,oD,oJ,oA,ox,oG,aH,ai,au,aG,aT,af,ah,ae,aa,ak,az,aP,aK]
 ·simp [eU,eS,eE,eR,eQ,eP,eO,eN,eM,eL,dn,dE,dD,dC,dz,v0',s1,CQ,s2,w1,w2,k,Gh,IntKind.bits,oF,oL,oC,oI,oE,oK,oB,oH,oD,oJ,oA,ox,oG,aH,ai,au,aG,aT,af,ah,ae,aa,ak,az,aP,aK]
theorem eX9 (N : Nat) (Es : List Ed) (L : List Int) {x1 x2 b7 : List AV} (q1 : Plain x1) (q2 : Plain x2) (q3 : iM b7) (nT : Nat) (after : List Int)  {P : List Int} (hl : P.length < 4294967295) (r : Nat) (t : Bool) (X v : Int) (b : Bool) (W M : Int) : aU aA 8 (.aO eL false [] [0,1,2,3,4,5,6,10,11,12,13,14]) ⟨ev r t [(10,.int .u64 X),(11,.int .i64 v),(12,.bool b),(13,.int .u64 W),(14,.int .u64 M),(90,.bool false)],eH N Es L x1 x2 nT b7 after P⟩ = some (.normal,⟨ev r t [(10,.int .u64 X),(11,.int .i64 v),(12,.bool b),(13,.int .u64 W),(14,.int .u64 M)],eH N Es L x1 x2 nT b7 after (P ++ [v])⟩) := by
 obtain ⟨oF,oL,oC,oI⟩ := q1;obtain ⟨oE,oK,oB,oH⟩ := q2;obtain ⟨oD,oJ,oA,ox,oG,_⟩ := q3;have h1 : P.length + 1 <= 4294967296 := by omega
 unfold ev eH fw;simp [eU,eS,eE,eR,eQ,eP,eO,eN,eM,eL,dn,dE,dD,dC,dz,h1,lz,ez,bR,oF,oL,oC,oI,oE,oK,oB,oH,oD,oJ,oA,ox,oG,aH,ai,au,aG,aT,af,ah,ae,aa,ak,az,aP,aK]
theorem eX12 (N : Nat) (Es : List Ed) (L : List Int) {x1 x2 b7 : List AV} (q1 : Plain x1) (q2 : Plain x2) (q3 : iM b7) (nT : Nat) (after : List Int)  {P : List Int} (hl : P.length < 4294967295) (r : Nat) (t : Bool) (X v : Int) : aU aA 8 (.aO dD false [] [0,1,2,3,4,5,6,10]) ⟨ev r t [(10,.int .u64 X),(137,.bool false)],eH N Es L x1 x2 nT b7 after (P ++ [v])⟩ = some (.normal,⟨ev r t [(10,.int .u64 X)],eH N Es L x1 x2 nT b7 after P⟩) := by
 obtain ⟨oF,oL,oC,oI⟩ := q1;obtain ⟨oE,oK,oB,oH⟩ := q2;obtain ⟨oD,oJ,oA,ox,oG,_⟩ := q3;have w1 : IntKind.i64.wrap ((P.length : Int) + 1 - 1) = P.length := by rw [yj (by omega) (by omega)]; omega
 have w2 := oQ (i := P.length) (by omega);have le1 : (P.length : Int) <= P.length + 1 := by omega
 have tk : (ints (P ++ [v])).take P.length = ints P := by rw [bR]; simp
 have ln : (ints (P ++ [v])).length = P.length + 1 := by simp [ints]
 unfold ev eH fw;simp [eU,eS,eE,eR,eQ,eP,eO,eN,eM,eL,dn,dE,dD,dC,dz,w1,w2,tk,ln,le1,Mr,qS,jE,jm,iQ,oF,oL,oC,oI,oE,oK,oB,oH,oD,oJ,oA,ox,oG,aH,ai,au,aG,aT,af,ah,ae,aa,ak,az,aP,aK]
theorem eX13 (N : Nat) (Es : List Ed) (L : List Int) {x1 x2 b7 : List AV} (q1 : Plain x1) (q2 : Plain x2) (q3 : iM b7) (nT : Nat) (after : List Int) (P : List Int) (r : Nat) (t : Bool) {m : Nat} (h0 : m ≠ 0) (hm : m < 18446744073709551616) (x : Env) (hx : x = [] \/ (∃ v b,x = [(11,.int .i64 v),(12,.bool b),(55,.bool true)]) \/ ∃ v b W M,x = [(11,.int .i64 v),(12,.bool b),(13,.int .u64 W),(14,.int .u64 M),(90,.bool true)]) : aU aA 8 (.aO dC false [] [0,1,2,3,4,5,6,10]) ⟨ev r t ((10,.int .u64 (m : Int)) :: x),eH N Es L x1 x2 nT b7 after P⟩ = some (.normal,⟨ev r t [(10,.int .u64 ((m &&& (m - 1) : Nat) : Int))],eH N Es L x1 x2 nT b7 after P⟩) := by
 obtain ⟨oF,oL,oC,oI⟩ := q1;obtain ⟨oE,oK,oB,oH⟩ := q2;obtain ⟨oD,oJ,oA,ox,oG,_⟩ := q3;have w1 := decU h0 hm;have w2 := u64_and_nat m (m - 1) hm (by omega);unfold ev eH fw;generalize ((m &&& (m - 1) : Nat) : Int) = q at *;generalize ((m - 1 : Nat) : Int) = p at *;generalize (m : Int) = Y at *;rcases hx with rfl | ⟨v,b,rfl⟩ | ⟨v,b,W,M,rfl⟩
 ·simp [eU,eS,eE,eR,eQ,eP,eO,eN,eM,eL,dn,dE,dD,dC,dz,w1,w2,oF,oL,oC,oI,oE,oK,oB,oH,oD,oJ,oA,ox,oG,aH,ai,au,aG,aT,af,ah,ae,aa,ak,az,aP,aK]
 ·simp [eU,eS,eE,eR,eQ,eP,eO,eN,eM,eL,dn,dE,dD,dC,dz,w1,w2,oF,oL,oC,oI,oE,oK,oB,oH,oD,oJ,oA,ox,oG,aH,ai,au,aG,aT,af,ah,ae,aa,ak,az,aP,aK]
 ·simp [eU,eS,eE,eR,eQ,eP,eO,eN,eM,eL,dn,dE,dD,dC,dz,w1,w2,oF,oL,oC,oI,oE,oK,oB,oH,oD,oJ,oA,ox,oG,aH,ai,au,aG,aT,af,ah,ae,aa,ak,az,aP,aK]
end Go.BmP
