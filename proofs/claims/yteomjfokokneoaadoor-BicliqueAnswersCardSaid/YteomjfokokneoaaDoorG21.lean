/- The walk of biclique: what it hands out, and the step into it. -/
import Derived.Test.YteomjfokokneoaaDoorUseM
import Derived.Test.YteomjfokokneoaaDoorG15
import Derived.Test.YteomjfokokneoaaDoorR02k
set_option linter.unusedSimpArgs false
set_option linter.unusedVariables false
set_option maxRecDepth 100000
set_option maxHeartbeats 8000000
open Bool renaming and_eq_true → ab, eq_false_iff → qG, eq_iff_iff → gP
open Int renaming natCast_mul → Kw
open List renaming drop_succ_cons → gn, exists_mem_of_ne_nil → qD, filter_cons → GK, filter_eq_self → TA, getElem?_eq_getElem → aI, getElem_cons_succ → tY, getElem_cons_zero → tX, length_pos_iff → ga, mem_append → aD, mem_cons → aJ, ne_nil_of_mem → Vm, nil_append → jI, pairwise_append → ep, pairwise_cons → aN, sublist_cons_self → wh, take_length → dw
open List.Pairwise renaming sublist → eh
open List.Sublist renaming append_left → eZ
open Nat renaming and_le_left → GI, le_of_ble_eq_true → an, le_refl → aS, lt_of_le_of_lt → lC, mul_le_mul → Db
open Option.some renaming inj → dm
namespace Go.BmP
open Go.Am Go.Bm
theorem NN {Q : List Int} (h0 : Q ≠ []) (hl : Q.length < 4294967295) : bk aA Cq [.list 1 (ints Q)] [] = some (.own 1 (ints Q),[]) := by
 cases Q with
 | nil => exact absurd rfl h0
 | cons x r => exact pE x r (by simp at hl; omega)
def eA (r : Nat) (t : Bool) : List AV := [.int .u64 (r : Nat),.bool t,.ptr 3 0,.ptr 6 0,.ptr 4 0,.ptr 5 0,.ptr 7 0]
section
variable {N : Nat} {Es : List Ed} {L : List Int} (h : kj N Es L) {x1 b7 : List AV} {nT : Nat} {after : List Int} {σ : Type} {X2 : σ -> List AV} {tk : σ -> List Int -> σ × Bool} {Inv : σ -> Prop} (hT : Bv N Es L after x1 nT b7 X2 tk Inv) {s : σ} {Q : List Int} (hQ0 : Q ≠ []) (hQl : Q.length <= 64) {r : Nat} (hr : r < 18446744073709551616) (t : Bool) (X : Int) {v : Int} (hv : v ∈ L) (hc : r &&& (cU N Es).getD v.toNat 0 = cR N Es L Q)
include h hT hQ0 hQl hr hv hc
theorem acq (hs : Inv s) (hm : (tk s Q).2 = true) (W : Int) {s2 : σ} {P2 : List Int} {g : Bool} (Ni : bk aA E6 (eA (cR N Es L Q) false) (eH N Es L x1 (X2 (tk s Q).1) nT b7 after Q) = some (.bool g,eH N Es L x1 (X2 s2) nT b7 after P2)) : aU aA 8 (.aO dn true [(2,2),(3,3),(4,4),(5,5),(10,10),(11,11),(12,12),(13,13),(14,14),(27,27),(28,28),(29,29),(30,30),(40,40),(41,41),(42,42),(6,8),(7,8),(6,9),(15,16),(15,17),(15,18),(16,18),(17,18),(15,19),(16,19),(17,19),(15,20),(16,20),(17,20),(18,20),(15,21),(16,21),(17,21),(20,21),(15,22),(16,22),(17,22),(15,23),(16,23),(17,23),(18,23),(15,24),(16,24),(17,24),(15,25),(15,26),(31,32),(31,33),(31,34),(32,34),(31,35),(34,35),(31,36),(31,37),(32,37),(31,38),(31,39),(34,39),(37,39)] [0,1,2,3,4,5,6,10,137]) ⟨ev r t [(10,.int .u64 X),(11,.int .i64 v),(12,.bool false),(13,.int .u64 W),(14,.int .u64 W)],eH N Es L x1 (X2 s) nT b7 after Q⟩ = some (.normal,⟨ev r t [(10,.int .u64 X),(137,.bool (!g))],eH N Es L x1 (X2 s2) nT b7 after P2⟩) := by
 obtain ⟨i1,i2⟩ := Dx h hv;have Zn := od (eJ h).2.1 v.toNat;have w1 := u64_and_nat r ((cU N Es).getD v.toNat 0) hr Zn;rw [hc] at w1;have el := ko (cU N Es);have UC : ∀ h : v.toNat < (us (cU N Es)).length,(us (cU N Es))[v.toNat] = .int .u64 ((cU N Es).getD v.toNat 0 : Nat) := fun h => by rw [aI h] at i2; exact dm i2
 obtain ⟨oF,oL,oC,oI⟩ := hT.EG;obtain ⟨oE,oK,oB,oH⟩ := hT.Aj s;obtain ⟨oD,oJ,oA,ox,oG,_⟩ := hT.cp;have c1 := NN hQ0 (by omega);have c2 := zH (cR N Es L Q) (Aa N Es L Q);have c3 := hT.run s Q Q hs hQ0 hQl;obtain ⟨q0,sT⟩ := hT.fn;have e1 : gN (cR N Es L Q) = dO N Es L Q := rfl;rw [e1] at c2;rw [hm] at c3;obtain ⟨Z9,pb4,Z8,pc4⟩ := hT.Aj (tk s Q).1;have tk0 : (ints Q).take Q.length = ints Q := by rw [bR,dw]
 obtain ⟨pm5,pb5,pn5,pc5⟩ := hT.Aj s2;unfold eA at Ni;unfold eH fw at c3 Ni ⊢;unfold ev;generalize us (cU N Es) = A at *;generalize X2 s = Y at *;generalize dO N Es L Q = T at *;generalize ((cR N Es L Q : Nat) : Int) = q at *;generalize (((cU N Es).getD v.toNat 0 : Nat) : Int) = a at *;generalize X2 s2 = Y2 at *;generalize X2 (tk s Q).1 = Y1 at *;cases g
 ·simp [eU,eS,eE,eR,eQ,eP,eO,eN,eM,eL,dn,dE,dD,dC,dz,i1,i2,UC,el,w1,c1,c2,c3,Ni,tk0,js,fx,gj,cz,jP,eC,dT,Ay,Cu,Ct,sJN,iJN,lJN,sT,OP,UB,Uw,ae,oF,oL,oC,oI,oE,oK,oB,oH,oD,oJ,oA,ox,oG,Z9,pb4,Z8,pc4,pm5,pb5,pn5,pc5,aH,ai,au,aG,aT,af,ah,ae,aa,ak,az,aP,aK]
 ·simp [eU,eS,eE,eR,eQ,eP,eO,eN,eM,eL,dn,dE,dD,dC,dz,i1,i2,UC,el,w1,c1,c2,c3,Ni,tk0,js,fx,gj,cz,jP,eC,dT,Ay,Cu,Ct,sJN,iJN,lJN,sT,OP,UB,Uw,ae,oF,oL,oC,oI,oE,oK,oB,oH,oD,oJ,oA,ox,oG,Z9,pb4,Z8,pc4,pm5,pb5,pn5,pc5,aH,ai,au,aG,aT,af,ah,ae,aa,ak,az,aP,aK]
theorem ae0 (hs : Inv s) (hm : (tk s Q).2 = false) (W : Int) : aU aA 8 (.aO dn true [(2,2),(3,3),(4,4),(5,5),(10,10),(11,11),(12,12),(13,13),(14,14),(27,27),(28,28),(29,29),(30,30),(40,40),(41,41),(42,42),(6,8),(7,8),(6,9),(15,16),(15,17),(15,18),(16,18),(17,18),(15,19),(16,19),(17,19),(15,20),(16,20),(17,20),(18,20),(15,21),(16,21),(17,21),(20,21),(15,22),(16,22),(17,22),(15,23),(16,23),(17,23),(18,23),(15,24),(16,24),(17,24),(15,25),(15,26),(31,32),(31,33),(31,34),(32,34),(31,35),(34,35),(31,36),(31,37),(32,37),(31,38),(31,39),(34,39),(37,39)] [0,1,2,3,4,5,6,10,137]) ⟨ev r t [(10,.int .u64 X),(11,.int .i64 v),(12,.bool false),(13,.int .u64 W),(14,.int .u64 W)],eH N Es L x1 (X2 s) nT b7 after Q⟩ = some (.normal,⟨ev r t [(10,.int .u64 X),(137,.bool true)],eH N Es L x1 (X2 (tk s Q).1) nT b7 after Q⟩) := by
 obtain ⟨i1,i2⟩ := Dx h hv;have Zn := od (eJ h).2.1 v.toNat;have w1 := u64_and_nat r ((cU N Es).getD v.toNat 0) hr Zn;rw [hc] at w1;have el := ko (cU N Es);have UC : ∀ h : v.toNat < (us (cU N Es)).length,(us (cU N Es))[v.toNat] = .int .u64 ((cU N Es).getD v.toNat 0 : Nat) := fun h => by rw [aI h] at i2; exact dm i2
 obtain ⟨oF,oL,oC,oI⟩ := hT.EG;obtain ⟨oE,oK,oB,oH⟩ := hT.Aj s;obtain ⟨oD,oJ,oA,ox,oG,_⟩ := hT.cp;have c1 := NN hQ0 (by omega);have c2 := zH (cR N Es L Q) (Aa N Es L Q);have c3 := hT.run s Q Q hs hQ0 hQl;obtain ⟨q0,sT⟩ := hT.fn;have e1 : gN (cR N Es L Q) = dO N Es L Q := rfl;rw [e1] at c2;rw [hm] at c3;obtain ⟨Z9,pb4,Z8,pc4⟩ := hT.Aj (tk s Q).1;have tk0 : (ints Q).take Q.length = ints Q := by rw [bR,dw]
 unfold eH fw at c3 ⊢;unfold ev;generalize us (cU N Es) = A at *;generalize X2 s = Y at *;generalize dO N Es L Q = T at *;generalize ((cR N Es L Q : Nat) : Int) = q at *;generalize (((cU N Es).getD v.toNat 0 : Nat) : Int) = a at *;generalize X2 (tk s Q).1 = Y1 at *;simp [eU,eS,eE,eR,eQ,eP,eO,eN,eM,eL,dn,dE,dD,dC,dz,i1,i2,UC,el,w1,c1,c2,c3,tk0,js,fx,gj,cz,jP,eC,dT,Ay,Cu,Ct,sJN,iJN,lJN,sT,OP,UB,Uw,ae,oF,oL,oC,oI,oE,oK,oB,oH,oD,oJ,oA,ox,oG,Z9,pb4,Z8,pc4,aH,ai,au,aG,aT,af,ah,ae,aa,ak,az,aP,aK]
omit hQ0 hQl in
theorem acp (W M : Int) (b : Bool) (gY : ¬ (W = M /\ b = false)) (On : b = true -> Q.length <= after.length) {s2 : σ} {P2 : List Int} {g : Bool} (Ni : bk aA E6 (eA (cR N Es L Q) b) (eH N Es L x1 (X2 s) nT b7 after Q) = some (.bool g,eH N Es L x1 (X2 s2) nT b7 after P2)) : aU aA 8 (.aO dn true [(2,2),(3,3),(4,4),(5,5),(10,10),(11,11),(12,12),(13,13),(14,14),(27,27),(28,28),(29,29),(30,30),(40,40),(41,41),(42,42),(6,8),(7,8),(6,9),(15,16),(15,17),(15,18),(16,18),(17,18),(15,19),(16,19),(17,19),(15,20),(16,20),(17,20),(18,20),(15,21),(16,21),(17,21),(20,21),(15,22),(16,22),(17,22),(15,23),(16,23),(17,23),(18,23),(15,24),(16,24),(17,24),(15,25),(15,26),(31,32),(31,33),(31,34),(32,34),(31,35),(34,35),(31,36),(31,37),(32,37),(31,38),(31,39),(34,39),(37,39)] [0,1,2,3,4,5,6,10,137]) ⟨ev r t [(10,.int .u64 X),(11,.int .i64 v),(12,.bool b),(13,.int .u64 W),(14,.int .u64 M)],eH N Es L x1 (X2 s) nT b7 after Q⟩ = some (.normal,⟨ev r t [(10,.int .u64 X),(137,.bool (!g))],eH N Es L x1 (X2 s2) nT b7 after P2⟩) := by
 obtain ⟨i1,i2⟩ := Dx h hv;have Zn := od (eJ h).2.1 v.toNat;have w1 := u64_and_nat r ((cU N Es).getD v.toNat 0) hr Zn;rw [hc] at w1;have el := ko (cU N Es);have UC : ∀ h : v.toNat < (us (cU N Es)).length,(us (cU N Es))[v.toNat] = .int .u64 ((cU N Es).getD v.toNat 0 : Nat) := fun h => by rw [aI h] at i2; exact dm i2
 obtain ⟨oF,oL,oC,oI⟩ := hT.EG;obtain ⟨oE,oK,oB,oH⟩ := hT.Aj s;obtain ⟨oD,oJ,oA,ox,oG,_⟩ := hT.cp;obtain ⟨Z9,pb4,Z8,pc4⟩ := hT.Aj s2;unfold eA at Ni;unfold eH fw at Ni ⊢;unfold ev;generalize us (cU N Es) = A at *;generalize X2 s2 = Y2 at *;generalize X2 s = Y at *;generalize ((cR N Es L Q : Nat) : Int) = q at *;generalize (((cU N Es).getD v.toNat 0 : Nat) : Int) = a at *;by_cases e : W = M
 ·have b1 : b = true := by cases b <;> simp_all
  have k : (Q.length : Int) <= after.length := by have := On b1; omega
  subst b1;cases g <;> simp [eU,eS,eE,eR,eQ,eP,eO,eN,eM,eL,dn,dE,dD,dC,dz,e,k,i1,i2,UC,el,w1,Ni,js,fx,gj,cz,jP,eC,dT,OP,UB,Uw,oF,oL,oC,oI,oE,oK,oB,oH,oD,oJ,oA,ox,oG,Z9,pb4,Z8,pc4,aH,ai,au,aG,aT,af,ah,ae,aa,ak,az,aP,aK]
 ·cases g <;> simp [eU,eS,eE,eR,eQ,eP,eO,eN,eM,eL,dn,dE,dD,dC,dz,e,i1,i2,UC,el,w1,Ni,js,fx,gj,cz,jP,eC,dT,OP,UB,Uw,oF,oL,oC,oI,oE,oK,oB,oH,oD,oJ,oA,ox,oG,Z9,pb4,Z8,pc4,aH,ai,au,aG,aT,af,ah,ae,aa,ak,az,aP,aK]
end
/- The walk of biclique: what each hands out, in order. -/
theorem qA (r : Nat) (t : Bool) (x : Env) (i : Nat) (h : 6 < i) : bn aA (ev r t x) (.t i) = eG i (Am.get x i) := by
 unfold ev bn;have h0 : i ≠ 0 := by omega
 have h1 : i ≠ 1 := by omega
 have h2 : i ≠ 2 := by omega
 have h3 : i ≠ 3 := by omega
 have h4 : i ≠ 4 := by omega
 have h5 : i ≠ 5 := by omega
 have h6 : i ≠ 6 := by omega
 simp only [Bh,if_neg h0,if_neg h1,if_neg h2,if_neg h3,if_neg h4,if_neg h5,if_neg h6]
theorem eX11 (N : Nat) (Es : List Ed) (L : List Int) {x1 x2 b7 : List AV} (q1 : Plain x1) (q2 : Plain x2) (q3 : iM b7) (nT : Nat) (after : List Int) (P : List Int) (r : Nat) (t : Bool) (X : Int) : aU aA 8 (.aO dE false [] [9]) ⟨ev r t [(10,.int .u64 X),(137,.bool true)],eH N Es L x1 x2 nT b7 after P⟩ = some (.normal,⟨[(9,.bool false)],eH N Es L x1 x2 nT b7 after P⟩) := by
 obtain ⟨oF,oL,oC,oI⟩ := q1;obtain ⟨oE,oK,oB,oH⟩ := q2;obtain ⟨oD,oJ,oA,ox,oG,_⟩ := q3;unfold ev eH fw;simp [eU,eS,eE,eR,eQ,eP,eO,eN,eM,eL,dn,dE,dD,dC,dz,oF,oL,oC,oI,oE,oK,oB,oH,oD,oJ,oA,ox,oG,aH,ai,au,aG,aT,af,ah,ae,aa,ak,az,aP,aK]
theorem eX14 (N : Nat) (Es : List Ed) (L : List Int) {x1 x2 b7 : List AV} (q1 : Plain x1) (q2 : Plain x2) (q3 : iM b7) (nT : Nat) (after : List Int) (P : List Int) (r : Nat) (t : Bool) (X : Int) : aU aA 8 (.aO dz false [] [9]) ⟨ev r t [(10,.int .u64 X),(21,.bool false)],eH N Es L x1 x2 nT b7 after P⟩ = some (.normal,⟨[(9,.bool true)],eH N Es L x1 x2 nT b7 after P⟩) := by
 obtain ⟨oF,oL,oC,oI⟩ := q1;obtain ⟨oE,oK,oB,oH⟩ := q2;obtain ⟨oD,oJ,oA,ox,oG,_⟩ := q3;unfold ev eH fw;simp [eU,eS,eE,eR,eQ,eP,eO,eN,eM,eL,dn,dE,dD,dC,dz,oF,oL,oC,oI,oE,oK,oB,oH,oD,oJ,oA,ox,oG,aH,ai,au,aG,aT,af,ah,ae,aa,ak,az,aP,aK]
theorem eEnd (N : Nat) (Es : List Ed) (L : List Int) {x1 x2 b7 : List AV} (q1 : Plain x1) (q2 : Plain x2) (q3 : iM b7) (nT : Nat) (after : List Int) (P : List Int) (b : Bool) : aP aA ⟨true,false,false⟩ T3 8 (some (.ret,⟨[(9,.bool b)],eH N Es L x1 x2 nT b7 after P⟩)) = some (.bool b,eH N Es L x1 x2 nT b7 after P) := by
 obtain ⟨oF,oL,oC,oI⟩ := q1;obtain ⟨oE,oK,oB,oH⟩ := q2;obtain ⟨oD,oJ,oA,ox,oG,_⟩ := q3;unfold eH fw T3;simp [eU,eS,eE,eR,eQ,eP,eO,eN,eM,eL,dn,dE,dD,dC,dz,mS,js,fx,oq,ft,cC,b8,oF,oL,oC,oI,oE,oK,oB,oH,oD,oJ,oA,ox,oG,aH,ai,au,aG,aT,af,ah,ae,aa,ak,az,aP,aK]
section
variable {N : Nat} {Es : List Ed} {L : List Int} (h : kj N Es L) {x1 b7 : List AV} {nT : Nat} {after : List Int} {σ : Type} {X2 : σ -> List AV} {tk : σ -> List Int -> σ × Bool} {Inv : σ -> Prop} (hT : Bv N Es L after x1 nT b7 X2 tk Inv)
def Y7 {σ : Type} (N : Nat) (Es : List Ed) (L : List Int) (x1 : List AV) (nT : Nat) (b7 : List AV) (after : List Int) (X2 : σ -> List AV) (Inv : σ -> Prop) (R : σ × Bool) (P : List Int) (t : Bool) (z : Option (Ex × St)) : Prop :=
 (R.2 = true -> z = some (.exit 0,⟨ev (cR N Es L P) t [(10,.int .u64 ((0 : Nat) : Int)),(21,.bool false)],eH N Es L x1 (X2 R.1) nT b7 after P⟩) /\ Inv R.1) /\ (R.2 = false -> ∃ P2,z = some (.ret,⟨[(9,.bool false)],eH N Es L x1 (X2 R.1) nT b7 after P2⟩))
def ae5 {σ : Type} (N : Nat) (Es : List Ed) (L : List Int) (x1 : List AV) (nT : Nat) (b7 : List AV) (after : List Int) (X2 : σ -> List AV) (Inv : σ -> Prop) (R : σ × Bool) (P : List Int) (z : Option (AV × Heap)) : Prop :=
 (R.2 = true -> z = some (.bool true,eH N Es L x1 (X2 R.1) nT b7 after P) /\ Inv R.1) /\ (R.2 = false -> ∃ P2,z = some (.bool false,eH N Es L x1 (X2 R.1) nT b7 after P2))
include h hT in
theorem Tj (s : σ) {P : List Int} (hP : ∀ v ∈ P,0 <= v /\ v < 64) (hl : P.length < 4294967295) (t : Bool) (R : σ × Bool) (hL : Y7 N Es L x1 nT b7 after X2 Inv R P t (aU aA 8 (.loop mQ) ⟨ev (cR N Es L P) t [(10,.int .u64 ((ei L &&& (18446744073709551615 - bh P) : Nat) : Int))],eH N Es L x1 (X2 s) nT b7 after P⟩)) : ae5 N Es L x1 nT b7 after X2 Inv R P (bk aA E6 (eA (cR N Es L P) t) (eH N Es L x1 (X2 s) nT b7 after P)) := by
 rw [aM oJa0 OP (an rfl)]
 have e1 : aU aA (eH N Es L x1 (X2 s) nT b7 after P).length T3.body ⟨dH 0 (eA (cR N Es L P) t),eH N Es L x1 (X2 s) nT b7 after P⟩ = iP aA 8 (.seq (.aO dz false [] [9]) .ret) (CH 0 (aU aA 8 (.loop mQ) ⟨ev (cR N Es L P) t [(10,.int .u64 ((ei L &&& (18446744073709551615 - bh P) : Nat) : Int))],eH N Es L x1 (X2 s) nT b7 after P⟩)) := by
  show aU aA 8 cJa0 ⟨ev (cR N Es L P) t [],eH N Es L x1 (X2 s) nT b7 after P⟩ = _;unfold cJa0;rw [bp,eX0 N Es L hT.EG (hT.Aj _) hT.cp,b9,bp,bp,eX1 h hT.EG (hT.Aj _) hT.cp nT after hP hl,b9,oN]
 have e2 : (eH N Es L x1 (X2 s) nT b7 after P).length = 8 := rfl;rw [e1,e2];refine ⟨fun k => ?_,fun k => ?_⟩
 ·refine ⟨?_,(hL.1 k).2⟩;rw [(hL.1 k).1,Gg,if_pos rfl,b9,bp,eX14 N Es L hT.EG (hT.Aj _) hT.cp,b9,v8];exact eEnd N Es L hT.EG (hT.Aj _) hT.cp ..
 ·obtain ⟨P2,e⟩ := hL.2 k;refine ⟨P2,?_⟩;rw [e,Qa,CL];exact eEnd N Es L hT.EG (hT.Aj _) hT.cp ..
include h hT in
theorem Ao (ha : after.length < 9223372036854775808) : ∀ (C P : List Int) (t : Bool) (s : σ) (m : Nat),m < 18446744073709551616 -> gN m = C -> Up (P ++ C) -> (∀ x ∈ P ++ C,x ∈ L) -> (∃ pre,L = pre ++ C) -> Inv s -> Y7 N Es L x1 nT b7 after X2 Inv (ek tk (jd (iL N Es L) (kD N Es L) after C P t) s) P t (aU aA 8 (.loop mQ) ⟨ev (cR N Es L P) t [(10,.int .u64 (m : Int))],eH N Es L x1 (X2 s) nT b7 after P⟩)
 | [],P,t,s,m,hm,hC,hu,hS,hpre,ho => by
   obtain rfl : m = 0 := (NY hm).1 hC;refine ⟨fun _ => ⟨?_,ho⟩,fun k => by cases k⟩;refine bC ?_;unfold mQ;rw [bp,bp,eX2z N Es L hT.EG (hT.Aj _) hT.cp,b9,gC,qA _ _ _ _ (by decide)];show iP aA 8 _ (aU aA 8 (.exit 0) _) = _;rw [s8,CM];rfl
 | v :: C,P,t,s,m,hm,hC,hu,hS,⟨pre,hpre⟩,ho => by
   have h0 : m ≠ 0 := by rintro rfl; rw [sd] at hC; cases hC
   have Ak := sg h0 hm;rw [hC] at Ak;obtain ⟨hv,hC'⟩ : v = ((tz m : Nat) : Int) /\ C = gN (m &&& (m - 1)) := by simpa using Ak
   have vL : v ∈ L := hS v (by simp);have hb := fN h hS;have bv := hb v (by simp);have bP : ∀ x ∈ P,0 <= x /\ x < 64 := fun x hx => hb x (by simp [hx]);have uQ : Up (P ++ [v]) := eh (eZ ((List.nil_sublist C).cons_cons v) P) hu
   have sQ : ∀ x ∈ P ++ [v],x ∈ L := fun x hx => hS x (by
    rcases aD.1 hx with k | k
    ·simp [k]
    ·simp at k; simp [k])
   have uP : Up P := (ep.1 hu).1;have sP : ∀ x ∈ P,x ∈ L := fun x hx => hS x (by simp [hx])
   have lP : P.length < 4294967295 := by
    have := lD uP (fun x hx => bP x hx);omega
   have lQ : (P ++ [v]).length < 4294967295 := by
    have := lD uQ (fun x hx => (fN h sQ x hx));omega
   have hr := Aa N Es L P;have hc := abk h uQ sQ;have uPC : Up (P ++ C) := eh (eZ (wh v C) P) hu
   have sPC : ∀ x ∈ P ++ C,x ∈ L := fun x hx => hS x (by
    rcases aD.1 hx with k | k
    ·simp [k]
    ·simp [k])
   have acm : ∃ pre,L = pre ++ C := ⟨pre ++ [v],by rw [hpre]; simp⟩;have hdm : (m &&& (m - 1)) < 18446744073709551616 := lC GI hm;have i2 := fun s ho => Ao ha C P t s (m &&& (m - 1)) hdm hC'.symm uPC sPC acm ho;have gb := UR h uQ sQ;have a2 := eX2 N Es L hT.EG (hT.Aj s) hT.cp nT after P (cR N Es L P) t h0;have a3 := eX3 N Es L hT.EG (hT.Aj s) hT.cp nT after P (cR N Es L P) t h0 hm;rw [<- hv] at a3;have a4 := eX4 N Es L hT.EG (hT.Aj s) hT.cp nT after P (cR N Es L P) t (m : Int) v;have a5 := eX5 h hT.EG (hT.Aj s) hT.cp nT ha P hr t (m : Int) vL;by_cases c1 : (nY after P t v || decide (cR N Es L P &&& (cU N Es).getD v.toNat 0 = 0)) = true
   ·-- the node is left out
    have ew : jd (iL N Es L) (kD N Es L) after (v :: C) P t = jd (iL N Es L) (kD N Es L) after C P t := by
     have : ¬ (nY after P t v = false /\ qg (iL N Es L) (kD N Es L) P v = true) := by
      rintro ⟨k1,k2⟩;rw [k1,<- hc] at c1;rw [gb] at k2;simp at c1 k2;exact k2.1 c1
     simp only [jd,if_neg this,jI]
    rw [ew];rw [c1] at a5;have a13 := eX13 N Es L hT.EG (hT.Aj s) hT.cp nT after P (cR N Es L P) t h0 hm [(11,.int .i64 v),(12,.bool (kR after P t)),(55,.bool true)] (.inr (.inl ⟨_,_,rfl⟩))
    have e : aU aA 8 mQ ⟨ev (cR N Es L P) t [(10,.int .u64 (m : Int))],eH N Es L x1 (X2 s) nT b7 after P⟩ = some (.normal,⟨ev (cR N Es L P) t [(10,.int .u64 ((m &&& (m - 1) : Nat) : Int))],eH N Es L x1 (X2 s) nT b7 after P⟩) := by
     unfold mQ;rw [bp,bp,a2,b9,gC,qA _ _ _ _ (by decide)];show iP aA 8 _ (aU aA 8 .skip _) = _;rw [iK,b9,bp,oN,bp,a3,b9,bp,a4,b9,bp,bp,a5,b9,gC,qA _ _ _ _ (by decide)];show iP aA 8 _ (CH 1 (iP aA 8 _ (aU aA 8 (.exit 1) _))) = _;rw [s8,CM,Gg,if_pos rfl,b9];exact a13
    rw [ba e];exact i2 s ho
   ·have c1 : (nY after P t v || decide (cR N Es L P &&& (cU N Es).getD v.toNat 0 = 0)) = false := by simpa using c1
    rw [c1] at a5;have a6 := eX6 N Es L hT.EG (hT.Aj s) hT.cp nT ha P (cR N Es L P) t (m : Int) v;have a7 := eX7 h hT.EG (hT.Aj s) hT.cp nT after bP lP hr t (m : Int) vL (Co after P t v) (by rw [<- hc]; exact abl h uQ sQ);rw [<- hc,<- Xc] at a7;have hw : cL N Es L (cR N Es L (P ++ [v])) < 18446744073709551616 := YI h _;have hmq : ei (P ++ [v]) < 18446744073709551616 := fM fun x hx => (fN h sQ x hx).2;have a8 := eX8 N Es L hT.EG (hT.Aj s) hT.cp nT after P (cR N Es L P) t (m : Int) bv.1 bv.2 (Co after P t v) hw hmq
    have sk : nY after P t v = false := by
     cases k : nY after P t v
     ·rfl
     ·rw [k] at c1; simp at c1
    have nz : cR N Es L (P ++ [v]) ≠ 0 := by
     rw [hc];intro k;rw [k] at c1;simp at c1
    by_cases c2 : cL N Es L (cR N Es L (P ++ [v])) &&& (2 ^ v.toNat - 1) = ei (P ++ [v]) &&& (2 ^ v.toNat - 1)
    case neg =>
     -- a lesser node belongs to it, too
     have ew : jd (iL N Es L) (kD N Es L) after (v :: C) P t = jd (iL N Es L) (kD N Es L) after C P t := by
      have : ¬ (nY after P t v = false /\ qg (iL N Es L) (kD N Es L) P v = true) := by
       rintro ⟨k1,k2⟩;rw [gb] at k2;simp only [ab,decide_eq_true_eq] at k2;exact c2 k2.2
      simp only [jd,if_neg this,jI]
     rw [ew];rw [decide_eq_false c2,Bool.not_false] at a8;have a13 := eX13 N Es L hT.EG (hT.Aj s) hT.cp nT after P (cR N Es L P) t h0 hm _ (.inr (.inr ⟨v,Co after P t v,(cL N Es L (cR N Es L (P ++ [v])) : Nat),(ei (P ++ [v]) : Nat),rfl⟩))
     have e : aU aA 8 mQ ⟨ev (cR N Es L P) t [(10,.int .u64 (m : Int))],eH N Es L x1 (X2 s) nT b7 after P⟩ = some (.normal,⟨ev (cR N Es L P) t [(10,.int .u64 ((m &&& (m - 1) : Nat) : Int))],eH N Es L x1 (X2 s) nT b7 after P⟩) := by
      unfold mQ;rw [bp,bp,a2,b9,gC,qA _ _ _ _ (by decide)];show iP aA 8 _ (aU aA 8 .skip _) = _;rw [iK,b9,bp,oN,bp,a3,b9,bp,a4,b9,bp,bp,a5,b9,gC,qA _ _ _ _ (by decide)];show iP aA 8 _ (CH 1 (iP aA 8 _ (aU aA 8 .skip _))) = _;rw [iK,b9,bp,a6,b9,bp,a7,b9,bp,bp,a8,b9,gC,qA _ _ _ _ (by decide)];show iP aA 8 _ (CH 1 (iP aA 8 _ (aU aA 8 (.exit 1) _))) = _;rw [s8,CM,Gg,if_pos rfl,b9];exact a13
     rw [ba e];exact i2 s ho
    ·have gt : qg (iL N Es L) (kD N Es L) P v = true := by rw [gb]; simp [nz,c2]
     rw [decide_eq_true c2,Bool.not_true] at a8;have a9 := eX9 N Es L hT.EG (hT.Aj s) hT.cp nT after lP (cR N Es L P) t (m : Int) v (Co after P t v) (cL N Es L (cR N Es L (P ++ [v])) : Nat) (ei (P ++ [v]) : Nat)
     -- the rest of the round, by what comes out of the step
     have cond : ∀ (s2 : σ) (P2 : List Int) (g : Bool),(g = true -> P2 = P ++ [v]) -> aU aA 8 (.aO dn true [(2,2),(3,3),(4,4),(5,5),(10,10),(11,11),(12,12),(13,13),(14,14),(27,27),(28,28),(29,29),(30,30),(40,40),(41,41),(42,42),(6,8),(7,8),(6,9),(15,16),(15,17),(15,18),(16,18),(17,18),(15,19),(16,19),(17,19),(15,20),(16,20),(17,20),(18,20),(15,21),(16,21),(17,21),(20,21),(15,22),(16,22),(17,22),(15,23),(16,23),(17,23),(18,23),(15,24),(16,24),(17,24),(15,25),(15,26),(31,32),(31,33),(31,34),(32,34),(31,35),(34,35),(31,36),(31,37),(32,37),(31,38),(31,39),(34,39),(37,39)] [0,1,2,3,4,5,6,10,137]) ⟨ev (cR N Es L P) t [(10,.int .u64 (m : Int)),(11,.int .i64 v),(12,.bool (Co after P t v)),(13,.int .u64 (cL N Es L (cR N Es L (P ++ [v])) : Nat)),(14,.int .u64 (ei (P ++ [v]) : Nat))],eH N Es L x1 (X2 s) nT b7 after (P ++ [v])⟩ = some (.normal,⟨ev (cR N Es L P) t [(10,.int .u64 (m : Int)),(137,.bool (!g))],eH N Es L x1 (X2 s2) nT b7 after P2⟩) -> aU aA 8 mQ ⟨ev (cR N Es L P) t [(10,.int .u64 (m : Int))],eH N Es L x1 (X2 s) nT b7 after P⟩ = if g = true then some (.normal,⟨ev (cR N Es L P) t [(10,.int .u64 ((m &&& (m - 1) : Nat) : Int))],eH N Es L x1 (X2 s2) nT b7 after P⟩) else some (.ret,⟨[(9,.bool false)],eH N Es L x1 (X2 s2) nT b7 after P2⟩) := by
      intro s2 P2 g hg a10;unfold mQ;rw [bp,bp,a2,b9,gC,qA _ _ _ _ (by decide)];show iP aA 8 _ (aU aA 8 .skip _) = _;rw [iK,b9,bp,oN,bp,a3,b9,bp,a4,b9,bp,bp,a5,b9,gC,qA _ _ _ _ (by decide)];show iP aA 8 _ (CH 1 (iP aA 8 _ (aU aA 8 .skip _))) = _;rw [iK,b9,bp,a6,b9,bp,a7,b9,bp,bp,a8,b9,gC,qA _ _ _ _ (by decide)];show iP aA 8 _ (CH 1 (iP aA 8 _ (aU aA 8 .skip _))) = _;rw [iK,b9,bp,a9,b9,bp,bp,a10,b9,gC,qA _ _ _ _ (by decide)];cases g with
      | true =>
        show iP aA 8 _ (CH 1 (iP aA 8 _ (aU aA 8 .skip _))) = _;rw [iK,b9,Bool.not_true,hg rfl,eX12 N Es L hT.EG (hT.Aj s2) hT.cp nT after lP,YQ,b9,eX13 N Es L hT.EG (hT.Aj s2) hT.cp nT after P (cR N Es L P) t h0 hm [] (.inl rfl),if_pos rfl]
      | false =>
        show iP aA 8 _ (CH 1 (iP aA 8 _ (aU aA 8 (.seq _ .ret) _))) = _;rw [Bool.not_false,bp,eX11 N Es L hT.EG (hT.Aj s2) hT.cp,b9,v8,CL,Qa,CL,if_neg (by decide)]
     have uQC : Up ((P ++ [v]) ++ C) := by simpa using hu
     have sQC : ∀ x ∈ (P ++ [v]) ++ C,x ∈ L := by simpa using hS
     have inn := fun (t2 : Bool) s ho => Tj h hT s (fN h sQ) lQ t2 _ (Ao ha C (P ++ [v]) t2 s (ei L &&& (18446744073709551615 - bh (P ++ [v]))) (lC GI (fM fun x hx => (fN h (fun _ k => k) x hx).2)) (Va h.l.1 (fN h fun _ k => k) hpre) uQC sQC acm ho)
     have fin : ∀ (R : σ × Bool) (P2 : List Int),(R.2 = true -> Inv R.1) -> aU aA 8 mQ ⟨ev (cR N Es L P) t [(10,.int .u64 (m : Int))],eH N Es L x1 (X2 s) nT b7 after P⟩ = (if R.2 = true then some (.normal,⟨ev (cR N Es L P) t [(10,.int .u64 ((m &&& (m - 1) : Nat) : Int))],eH N Es L x1 (X2 R.1) nT b7 after P⟩) else some (.ret,⟨[(9,.bool false)],eH N Es L x1 (X2 R.1) nT b7 after P2⟩)) -> Y7 N Es L x1 nT b7 after X2 Inv (if R.2 = true then ek tk (jd (iL N Es L) (kD N Es L) after C P t) R.1 else (R.1,false)) P t (aU aA 8 (.loop mQ) ⟨ev (cR N Es L P) t [(10,.int .u64 (m : Int))],eH N Es L x1 (X2 s) nT b7 after P⟩) := by
      intro R P2 hR e;by_cases k : R.2 = true
      ·rw [if_pos k] at e ⊢;rw [ba e];exact i2 _ (hR k)
      ·rw [if_neg k] at e ⊢;rw [dj e];exact ⟨fun q => (by cases q),fun _ => ⟨P2,rfl⟩⟩
     have Qne : P ++ [v] ≠ [] := by simp
     have l64 : (P ++ [v]).length <= 64 := lD uQ (fun x hx => fN h sQ x hx)
     have ew : jd (iL N Es L) (kD N Es L) after (v :: C) P t = ((if iL N Es L (P ++ [v]) = P ++ [v] /\ Co after P t v = false then [P ++ [v]] else []) ++ jd (iL N Es L) (kD N Es L) after C (P ++ [v]) (Co after P t v)) ++ jd (iL N Es L) (kD N Es L) after C P t := by
      conv => lhs; unfold jd
      rw [if_pos ⟨sk,gt⟩]
     rw [ew,IL];by_cases c3 : iL N Es L (P ++ [v]) = P ++ [v] /\ Co after P t v = false
     ·rw [if_pos c3];have c4 := (uZ h uQ sQ).1 c3.1;rw [c3.2] at cond ⊢;rw [c4] at cond;by_cases c5 : (tk s (P ++ [v])).2 = true
      ·have ef : ek tk ([P ++ [v]] ++ jd (iL N Es L) (kD N Es L) after C (P ++ [v]) false) s = ek tk (jd (iL N Es L) (kD N Es L) after C (P ++ [v]) false) (tk s (P ++ [v])).1 := by
        show ek tk ((P ++ [v]) :: jd (iL N Es L) (kD N Es L) after C (P ++ [v]) false) s = _;rw [ek,if_pos c5]
       rw [ef];have ho2 := hT.inv s _ ho Qne l64 c5;obtain ⟨j1,j2⟩ := inn false (tk s (P ++ [v])).1 ho2;generalize ek tk (jd (iL N Es L) (kD N Es L) after C (P ++ [v]) false) (tk s (P ++ [v])).1 = R at *;by_cases e : R.2 = true
       case pos =>
        have := cond R.1 (P ++ [v]) true (fun _ => rfl) (acq h hT Qne l64 hr t (m : Int) vL hc.symm ho c5 _ (j1 e).1);exact fin R (P ++ [v]) (fun k => (j1 k).2) (by rw [this,e])
       case neg =>
        have e := qG.2 e;obtain ⟨P2,j⟩ := j2 e;have := cond R.1 P2 false (fun k => by cases k) (acq h hT Qne l64 hr t (m : Int) vL hc.symm ho c5 _ j);exact fin R P2 (fun k => (j1 k).2) (by rw [this,e])
      ·have c5 := qG.2 c5
       have ef : ek tk ([P ++ [v]] ++ jd (iL N Es L) (kD N Es L) after C (P ++ [v]) false) s = ((tk s (P ++ [v])).1,false) := by
        show ek tk ((P ++ [v]) :: jd (iL N Es L) (kD N Es L) after C (P ++ [v]) false) s = _;rw [ek,c5];rfl
       rw [ef];have := cond (tk s (P ++ [v])).1 (P ++ [v]) false (fun k => by cases k) (ae0 h hT Qne l64 hr t (m : Int) vL hc.symm ho c5 _);refine fin ((tk s (P ++ [v])).1,false) (P ++ [v]) (fun k => by cases k) ?_;rw [this]
     ·rw [if_neg c3,jI]
      have gY : ¬ (((cL N Es L (cR N Es L (P ++ [v])) : Nat) : Int) = ((ei (P ++ [v]) : Nat) : Int) /\ Co after P t v = false) := by
       rintro ⟨k1,k2⟩;exact c3 ⟨(uZ h uQ sQ).2 (by omega),k2⟩
      have On : Co after P t v = true -> (P ++ [v]).length <= after.length := by
       intro k;simp only [Co,kR,ab,decide_eq_true_eq] at k;simp;omega
      obtain ⟨j1,j2⟩ := inn (Co after P t v) s ho;generalize ek tk (jd (iL N Es L) (kD N Es L) after C (P ++ [v]) (Co after P t v)) s = R at *;by_cases e : R.2 = true
      case pos =>
       have := cond R.1 (P ++ [v]) true (fun _ => rfl) (acp h hT hr t (m : Int) vL hc.symm _ _ _ gY On (j1 e).1);exact fin R (P ++ [v]) (fun k => (j1 k).2) (by rw [this,e])
      case neg =>
       have e := qG.2 e;obtain ⟨P2,j⟩ := j2 e;have := cond R.1 P2 false (fun k => by cases k) (acp h hT hr t (m : Int) vL hc.symm _ _ _ gY On j);exact fin R P2 (fun k => (j1 k).2) (by rw [this,e])
end
/- What biclique's each does with the maximal pairs behind a list, and what All returns. -/
set_option maxHeartbeats 4000000
def Zy (N : Nat) (Es : List Ed) (L : List Int) (x1 x2 : List AV) : Heap := [some [.int .i64 N,.list 2 (dy Es),.list 1 (ints L)],some x1,some x2]
def xV (N : Nat) (Es : List Ed) (L after : List Int) : List (List Int) := (dK N Es L).filter fun S => decide (dJ S after = 1)
theorem FL {N : Nat} {Es : List Ed} {L : List Int} (h : kj N Es L) {x1 b7 : List AV} {nT : Nat} {after : List Int} (ha : after.length < 9223372036854775808) {σ : Type} {X2 : σ -> List AV} {tk : σ -> List Int -> σ × Bool} {Inv : σ -> Prop} (hT : Bv N Es L after x1 nT b7 X2 tk Inv) (s : σ) (hs : Inv s) : bk aA nJR [.agg (fw (cU N Es) (ei L) (xf N L)),.list 1 (ints after),.func (.func nT) [] b7] (Zy N Es L x1 (X2 s)) = some (.dW [],Zy N Es L x1 (X2 (ek tk (xV N Es L after) s).1)) := by
 have hb := fN h (S := L) (fun _ k => k);have bl : gN (ei L &&& (18446744073709551615 - bh [])) = L := YF h.l.1 hb;have ml : ei L < 18446744073709551616 := fM fun v hv => (hb v hv).2;have wl := Ao h hT ha L [] true s (ei L &&& (18446744073709551615 - bh [])) (lC GI ml) bl (by simpa using h.l.1) (by simp) ⟨[],rfl⟩ hs;have we := yl (cl := iL N Es L) (ne := kD N Es L) (after := after) L [] true (fun _ => ⟨after,rfl⟩) (fun k => by cases k);have ea : ti (iL N Es L) (kD N Es L) L [] = dK N Es L := rfl;rw [ea] at we;have eb : ((dK N Es L).filter fun S => decide (dJ S after = 1)) = xV N Es L after := rfl;rw [eb] at we;have cc := Tj h hT s (P := []) (by simp) (by simp) true _ wl;rw [we] at cc;generalize ek tk (xV N Es L after) s = R at *;clear we wl;rw [aM oJR sJR (an rfl)]
 have key : ∃ b P2,bk aA E6 (eA (cR N Es L []) true) (eH N Es L x1 (X2 s) nT b7 after []) = some (.bool b,eH N Es L x1 (X2 R.1) nT b7 after P2) := by
  by_cases k : R.2 = true
  ·exact ⟨_,_,(cc.1 k).1⟩
  ·obtain ⟨P2,e⟩ := cc.2 (qG.2 k);exact ⟨_,_,e⟩
 obtain ⟨b,P2,e⟩ := key;clear cc bl;rw [aee] at e;obtain ⟨oF,oL,oC,oI⟩ := hT.EG;obtain ⟨oE,oK,oB,oH⟩ := hT.Aj s;obtain ⟨Z9,pb4,Z8,pc4⟩ := hT.Aj R.1;obtain ⟨oD,oJ,oA,ox,oG,pn3⟩ := hT.cp;have n3 := pn3 3 (by omega);have n4 := pn3 4 (by omega);have n5 := pn3 5 (by omega);have n6 := pn3 6 (by omega);have n7 := pn3 7 (by omega);clear pn3;unfold eA eH fw at e;unfold Zy fw;rw [cD] at e;generalize X2 R.1 = Y at *;generalize X2 s = Y0 at *;unfold qJR cJR;simp [ab1,ab0,abZ,abY,abX,e,js,fx,gj,cz,jP,eC,dT,mS,oq,ft,OP,UB,Uw,oF,oL,oC,oI,oE,oK,oB,oH,oD,oJ,oA,ox,oG,Z9,pb4,Z8,pc4,n3,n4,n5,n6,n7,aH,ai,au,aG,aT,af,ah,ae,aa,ak,az,aP,aK]
theorem CV (N : Nat) (Es : List Ed) (L : List Int) (o : List (List Int)) (i : Nat) : (fC N Es L o)[i]? = (o[i]?).map fun S => pr S (dO N Es L S) := List.getElem?_map
theorem RV (N : Nat) (Es : List Ed) (L : List Int) (o : List (List Int)) (i : Nat) (h : i < (fC N Es L o).length) : (fC N Es L o)[i] = .agg [.list 1 (ints (o[i]'(by simpa [fC] using h))),.list 1 (ints (dO N Es L (o[i]'(by simpa [fC] using h))))] := by simp [fC,pr]
theorem T7 (k : Nat) (x : List AV) : Plain [.own k x] := ⟨fun _ => rfl,rfl,fun _ => rfl,fun _ _ _ => rfl⟩
theorem T8 (k : IntKind) (x : Int) : Plain [.int k x] := ⟨fun _ => rfl,rfl,fun _ => rfl,fun _ _ _ => rfl⟩
theorem EM : Plain [.own 1 [],.own 1 []] := ⟨fun _ => rfl,rfl,fun _ => rfl,fun _ _ _ => rfl⟩
theorem WI (x y : List AV) : Plain [.list 1 x,.list 1 y] := ⟨fun _ => rfl,rfl,fun _ => rfl,fun _ _ _ => rfl⟩
theorem Mg : iM [.ptr 2 0] := ⟨fun _ => rfl,rfl,rfl,rfl,rfl,fun b hb => by simp [jL,po]; omega⟩
theorem T9 : iM [.ptr 2 0,.ptr 1 0] := ⟨fun _ => rfl,rfl,rfl,rfl,rfl,fun b hb => by simp [jL,po]; omega⟩
theorem VK (N : Nat) (Es : List Ed) (L : List Int) (most : Int) (after : List Int) (o : List (List Int)) (P S : List Int) (ho : o.length < 4294967295) : bk aA nJV [.agg [.list 1 (ints S),.list 1 (ints (dO N Es L S))],.ptr 2 0,.ptr 1 0] (eH N Es L [.int .i64 most] [.own 2 (fC N Es L o)] nJV [.ptr 2 0,.ptr 1 0] after P) = some (.bool (decide ((o.length : Int) + 1 <= most)),eH N Es L [.int .i64 most] [.own 2 (fC N Es L (o ++ [S]))] nJV [.ptr 2 0,.ptr 1 0] after P) := by
 rw [aM oJV sJV (an rfl)];have h1 : o.length + 1 <= 4294967296 := by omega
 have h2 := WD N Es L o S;have h3 := dS N Es L o;have ht : (fC N Es L o).take o.length = fC N Es L o := by rw [<- h3,dw]
 have h4 := dS N Es L (o ++ [S])
 have h5 : (fC N Es L (o ++ [S])).take (o.length + 1) = fC N Es L (o ++ [S]) := by
  have := dw (l := fC N Es L (o ++ [S]))
  rwa [h4,List.length_append] at this
 unfold eH fw;generalize hX : fC N Es L (o ++ [S]) = X at *;generalize hY : fC N Es L o = Y at *;unfold qJV cJV;simp [abR,abQ,abP,h1,h2,h3,ht,h4,h5,lz,mS,js,fx,oq,ft,cC,b8,aH,ai,au,aG,aT,af,ah,ae,aa,ak,az,aP,aK]
theorem VL (N : Nat) (Es : List Ed) (L : List Int) {most : Int} (hm : most <= 4096) (after : List Int) : Bv N Es L after [.int .i64 most] nJV [.ptr 2 0,.ptr 1 0] (fun o => [.own 2 (fC N Es L o)]) (VJ most) (fun o => (o.length : Int) <= most) :=
 ⟨⟨_,sJV⟩,T8 _ _,fun _ => T7 _ _,T9,fun s S P hs _ _ => VK N Es L most after s P S (by omega),fun s S hs _ _ k => by
  have : (s.length : Int) + 1 <= most := of_decide_eq_true k;show ((s ++ [S]).length : Int) <= most;simp;omega⟩
theorem FF {most : Int} : ∀ (l o : List (List Int)),(o.length : Int) <= most -> most < (o.length : Int) + l.length -> ((ek (VJ most) l o).1.length : Int) = most + 1
 | [],o,h,k => by simp at k; omega
 | S :: l,o,h,k => by
   by_cases c : (o.length : Int) + 1 <= most
   ·rw [SZ S l c];exact FF l (o ++ [S]) (by simp; omega) (by simp at k ⊢; omega)
   ·rw [aaH S l c];simp;omega
theorem N0 {N : Nat} {Es : List Ed} {L : List Int} (h : kj N Es L) : xV N Es L [] = dK N Es L := by
 unfold xV;rw [TA];intro S hS;have := ((iT h).1 hS).1.2.1;cases S with
 | nil => exact absurd rfl this
 | cons x r => rfl
def N8 (N : Nat) (Es : List Ed) (L : List Int) (most : Int) : AV := if most < 0 \/ 4096 < most then .dW [.list 2 [],.int .i64 1] else if ((dK N Es L).length : Int) <= most then .dW [.list 2 (fC N Es L (dK N Es L)),.int .i64 0] else .dW [.list 2 [],.int .i64 3]
theorem aby {N : Nat} {Es : List Ed} {L : List Int} (h : kj N Es L) (hE : Es.length < 4294967295) (hL : L.length < 4294967295) (most : Int) : bk aA Za [.agg [.int .i64 N,.list 2 (dy Es),.list 1 (ints L)],.int .i64 most] [] = some (N8 N Es L most,[]) := by
 have c1 := nB h hE hL;have c2 := Ab h hE hL;rw [aM oJs sJs (an rfl)];by_cases k1 : most < 0
 ·have e : N8 N Es L most = AV.dW [.list 2 [],.int .i64 1] := if_pos (.inl k1);rw [e];unfold qJs cJs;simp [HG,HF,HE,HD,HB,HA,Hz,Hy,Hw,Hv,AF,c1,k1,Cn,Fs,Fj,ah,ae,aH,ai,au,aG,aT,af,ah,ae,aa,ak,az,aP,aK]
 by_cases k2 : 4096 < most
 ·have e : N8 N Es L most = AV.dW [.list 2 [],.int .i64 1] := if_pos (.inr k2);rw [e];unfold qJs cJs;simp [HG,HF,HE,HD,HB,HA,Hz,Hy,Hw,Hv,AF,c1,k1,k2,Cn,Fs,Fj,ah,ae,aH,ai,au,aG,aT,af,ah,ae,aa,ak,az,aP,aK]
 unfold N8;rw [if_neg (by omega)];have c3 := FL h (after := []) (by decide) (VL N Es L (most := most) (by omega) []) [] (by simp; omega);rw [N0 h] at c3;by_cases k3 : ((dK N Es L).length : Int) <= most
 ·have f := IM (most := most) (dK N Es L) [] (by simpa using k3);rw [jI] at f;rw [f] at c3;rw [if_pos k3];have l1 : ¬ most < ((dK N Es L).length : Int) := by omega
  have pR := dS N Es L (dK N Es L);have tk : (fC N Es L (dK N Es L)).take (dK N Es L).length = fC N Es L (dK N Es L) := by rw [<- pR,dw]
  unfold Zy fw at c3;unfold fw at c2;rw [show fC N Es L [] = [] from rfl,cD] at c3;generalize fC N Es L (dK N Es L) = Y at *;unfold qJs cJs;simp [HG,HF,HE,HD,HB,HA,Hz,Hy,Hw,Hv,AF,c1,c2,c3,k1,k2,l1,pR,tk,Cn,Fs,Fj,Vr,XH,Xu,sJR,iJR,lJR,ah,ae,iX,js,fx,gj,cz,jP,eC,dT,aH,ai,au,aG,aT,af,ah,ae,aa,ak,az,aP,aK]
 ·have f := FF (most := most) (dK N Es L) [] (by simp; omega) (by simp; omega);rw [if_neg k3];generalize (ek (VJ most) (dK N Es L) []).1 = o at *;have l1 : most < (o.length : Int) := by omega
  have pR := dS N Es L o;unfold Zy fw at c3;unfold fw at c2;rw [show fC N Es L [] = [] from rfl,cD] at c3;generalize fC N Es L o = Y at *;unfold qJs cJs;simp [HG,HF,HE,HD,HB,HA,Hz,Hy,Hw,Hv,AF,c1,c2,c3,k1,k2,l1,pR,Cn,Fs,Fj,Vr,XH,Xu,sJR,iJR,lJR,ah,ae,iX,js,fx,gj,cz,jP,eC,dT,aH,ai,au,aG,aT,af,ah,ae,aa,ak,az,aP,aK]
/- What biclique.Next and Best return of a bipartite graph. -/
def xz (N : Nat) (Es : List Ed) (L : List Int) : Option (List Int) -> List AV
 | none => [.own 1 [],.own 1 []]
 | some S => [.list 1 (ints S),.list 1 (ints (dO N Es L S))]
theorem iW (N : Nat) (Es : List Ed) (L : List Int) : xz N Es L none = [.own 1 [],.own 1 []] := rfl
theorem iV (N : Nat) (Es : List Ed) (L S : List Int) : xz N Es L (some S) = [.list 1 (ints S),.list 1 (ints (dO N Es L S))] := rfl
theorem H7 (N : Nat) (Es : List Ed) (L : List Int) (s : Option (List Int)) : Plain (xz N Es L s) := by
 cases s with
 | none => exact EM
 | some S => exact WI _ _
def tkN (_ : Option (List Int)) (S : List Int) : Option (List Int) × Bool := (some S,false)
theorem TM (N : Nat) (Es : List Ed) (L : List Int) (after : List Int) (P S : List Int) : bk aA nJS [.agg [.list 1 (ints S),.list 1 (ints (dO N Es L S))],.ptr 2 0] (eH N Es L [.own 1 [],.own 1 []] [.own 1 [],.own 1 []] nJS [.ptr 2 0] after P) = some (.bool false,eH N Es L [.own 1 [],.own 1 []] [.list 1 (ints S),.list 1 (ints (dO N Es L S))] nJS [.ptr 2 0] after P) := by
 rw [aM oJS sJS (an rfl)];unfold eH fw;generalize dO N Es L S = T at *;unfold qJS cJS;simp [abW,abV,abU,mS,js,fx,oq,ft,cC,b8,qS,jE,aH,ai,au,aG,aT,af,ah,ae,aa,ak,az,aP,aK]
theorem TK (N : Nat) (Es : List Ed) (L : List Int) (after : List Int) : Bv N Es L after [.own 1 [],.own 1 []] nJS [.ptr 2 0] (xz N Es L) tkN (fun s => s = none) :=
 ⟨⟨_,sJS⟩,EM,H7 N Es L,Mg,fun s S P hs _ _ => by subst hs; exact TM N Es L after P S,fun s S hs _ _ k => by cases k⟩
def Ik (N : Nat) (Es : List Ed) (L : List Int) : List (List Int) -> AV
 | [] => .dW [.agg [.list 1 [],.list 1 []],.bool false,.int .i64 0]
 | S :: _ => .dW [.agg [.list 1 (ints S),.list 1 (ints (dO N Es L S))],.bool true,.int .i64 0]
theorem Pm {N : Nat} {Es : List Ed} {L : List Int} (h : kj N Es L) (hE : Es.length < 4294967295) (hL : L.length < 4294967295) (after : List Int) (ha : after.length < 9223372036854775808) : bk aA nJo [.agg [.int .i64 N,.list 2 (dy Es),.list 1 (ints L)],.list 1 (ints after)] [] = some (Ik N Es L (xV N Es L after),[]) := by
 have c1 := nB h hE hL;have c2 := Ab h hE hL;have c3 := FL h ha (TK N Es L after) none rfl;rw [aM oJo sJo (an rfl)]
 have hm : ∀ S ∈ xV N Es L after,S ≠ [] := fun S hS => by
  have := (List.mem_filter.1 hS).1;exact ((iT h).1 this).1.2.1
 cases e : xV N Es L after with
 | nil =>
   rw [e] at c3;unfold Ik;unfold Zy fw ek xz at c3;unfold fw at c2;unfold qJo cJo;simp [Rj,Ri,Rh,Rg,Rf,Re,Rc,c1,c2,c3,Cn,Fs,Fj,Vr,XH,Xu,sJR,iJR,lJR,ah,ae,iX,js,fx,gj,cz,jP,eC,dT,qS,jE,aH,ai,au,aG,aT,af,ah,ae,aa,ak,az,aP,aK]
 | cons S r =>
   have hS := hm S (by rw [e]; simp);have h0 : 0 < S.length := ga.2 hS;have h1 : (0 : Int) < S.length := by omega
   have f : ek tkN (S :: r) none = (some S,false) := rfl;rw [e,f] at c3;unfold Ik;unfold Zy fw xz at c3;unfold fw at c2;generalize dO N Es L S = T at *;unfold qJo cJo;simp [Rj,Ri,Rh,Rg,Rf,Re,Rc,c1,c2,c3,h0,h1,hS,Cn,Fs,Fj,Vr,XH,Xu,sJR,iJR,lJR,ah,ae,iX,js,fx,gj,cz,jP,eC,dT,qS,jE,aH,ai,au,aG,aT,af,ah,ae,aa,ak,az,aP,aK]
def dg (N : Nat) (Es : List Ed) (L : List Int) (S : List Int) : Nat := S.length * (dO N Es L S).length
def uw (N : Nat) (Es : List Ed) (L : List Int) : Option (List Int) -> Nat
 | none => 0
 | some S => dg N Es L S
def ym (N : Nat) (Es : List Ed) (L : List Int) (s : Option (List Int)) (S : List Int) : Option (List Int) × Bool := (if uw N Es L s < dg N Es L S then some S else s,true)
theorem TN (N : Nat) (Es : List Ed) (L : List Int) (after : List Int) (s : Option (List Int)) (hs : ∀ S,s = some S -> S.length <= 64) (P S : List Int) (hS : S.length <= 64) : bk aA nJW [.agg [.list 1 (ints S),.list 1 (ints (dO N Es L S))],.ptr 2 0] (eH N Es L [.own 1 [],.own 1 []] (xz N Es L s) nJW [.ptr 2 0] after P) = some (.bool true,eH N Es L [.own 1 [],.own 1 []] (xz N Es L (ym N Es L s S).1) nJW [.ptr 2 0] after P) := by
 rw [aM oJW sJW (an rfl)];have b1 : (dO N Es L S).length <= 64 := fc _;have m1 : dg N Es L S <= 64 * 64 := Db hS b1
 have w1 : IntKind.i64.wrap ((S.length : Int) * ((dO N Es L S).length : Int)) = ((dg N Es L S : Nat) : Int) := by
  rw [<- Kw];exact oQ (by unfold dg at m1; omega)
 unfold eH fw;cases s with
 | none =>
   unfold ym uw;unfold dg at m1;by_cases k : 0 < dg N Es L S
   ·have k' : (0 : Int) < ((dg N Es L S : Nat) : Int) := by omega
    rw [if_pos k];simp only [iW,iV];generalize ((dg N Es L S : Nat) : Int) = q at *;generalize dO N Es L S = T at *;unfold qJW cJW;simp [LI,LH,LG,LF,w1,k',mS,js,fx,oq,ft,cC,b8,qS,jE,aH,ai,au,aG,aT,af,ah,ae,aa,ak,az,aP,aK]
   ·have k' : ¬ (0 : Int) < ((dg N Es L S : Nat) : Int) := by omega
    rw [if_neg k];simp only [iW,iV];generalize ((dg N Es L S : Nat) : Int) = q at *;generalize dO N Es L S = T at *;unfold qJW cJW;simp [LI,LH,LG,LF,w1,k',mS,js,fx,oq,ft,cC,b8,qS,jE,aH,ai,au,aG,aT,af,ah,ae,aa,ak,az,aP,aK]
 | some S0 =>
   have b0 : (dO N Es L S0).length <= 64 := fc _;have m0 : dg N Es L S0 <= 64 * 64 := Db (hs S0 rfl) b0
   have w0 : IntKind.i64.wrap ((S0.length : Int) * ((dO N Es L S0).length : Int)) = ((dg N Es L S0 : Nat) : Int) := by
    rw [<- Kw];exact oQ (by unfold dg at m0; omega)
   unfold ym uw;by_cases k : dg N Es L S0 < dg N Es L S
   ·have k' : ((dg N Es L S0 : Nat) : Int) < ((dg N Es L S : Nat) : Int) := by omega
    rw [if_pos k];simp only [iW,iV];clear m1 m0 k;generalize ((dg N Es L S : Nat) : Int) = q at *;generalize ((dg N Es L S0 : Nat) : Int) = q0 at *;generalize dO N Es L S = T at *;generalize dO N Es L S0 = T0 at *;unfold qJW cJW;simp [LI,LH,LG,LF,w1,w0,k',mS,js,fx,oq,ft,cC,b8,qS,jE,aH,ai,au,aG,aT,af,ah,ae,aa,ak,az,aP,aK]
   ·have k' : ¬ ((dg N Es L S0 : Nat) : Int) < ((dg N Es L S : Nat) : Int) := by omega
    rw [if_neg k];simp only [iW,iV];clear m1 m0 k;generalize ((dg N Es L S : Nat) : Int) = q at *;generalize ((dg N Es L S0 : Nat) : Int) = q0 at *;generalize dO N Es L S = T at *;generalize dO N Es L S0 = T0 at *;unfold qJW cJW;simp [LI,LH,LG,LF,w1,w0,k',mS,js,fx,oq,ft,cC,b8,qS,jE,aH,ai,au,aG,aT,af,ah,ae,aa,ak,az,aP,aK]
theorem TL (N : Nat) (Es : List Ed) (L : List Int) (after : List Int) : Bv N Es L after [.own 1 [],.own 1 []] nJW [.ptr 2 0] (xz N Es L) (ym N Es L) (fun s => ∀ S,s = some S -> S ≠ [] /\ S.length <= 64) :=
 ⟨⟨_,sJW⟩,EM,H7 N Es L,Mg,fun s S P hs _ hl => TN N Es L after s (fun S h => (hs S h).2) P S hl,fun s S hs sZ hl _ S' e => by
  unfold ym at e;simp only at e;split at e
  ·cases e; exact ⟨sZ,hl⟩
  ·exact hs S' e⟩
def u9 (N : Nat) (Es : List Ed) (L : List Int) : Option (List Int) := (ek (ym N Es L) (dK N Es L) none).1
def I7 (N : Nat) (Es : List Ed) (L : List Int) : Option (List Int) -> AV
 | none => .dW [.agg [.list 1 [],.list 1 []],.int .i64 13]
 | some S => .dW [.agg [.list 1 (ints S),.list 1 (ints (dO N Es L S))],.int .i64 0]
theorem vW {N : Nat} {Es : List Ed} {L : List Int} : ∀ (l : List (List Int)) (s : Option (List Int)),(∀ S,(ek (ym N Es L) l s).1 = some S -> s = some S \/ S ∈ l) /\ (∀ S ∈ l,dg N Es L S <= uw N Es L (ek (ym N Es L) l s).1) /\ uw N Es L s <= uw N Es L (ek (ym N Es L) l s).1
 | [],s => ⟨fun S h => .inl h,fun S h => by simp at h,aS _⟩
 | T :: l,s => by
   have e : ek (ym N Es L) (T :: l) s = ek (ym N Es L) l (ym N Es L s T).1 := rfl;rw [e];obtain ⟨i1,i2,i3⟩ := vW (N := N) (Es := Es) (L := L) l (ym N Es L s T).1
   have hp : uw N Es L s <= uw N Es L (ym N Es L s T).1 /\ dg N Es L T <= uw N Es L (ym N Es L s T).1 := by
    unfold ym;simp only;split
    ·rename_i k;exact ⟨Nat.le_of_lt k,aS _⟩
    ·rename_i k;exact ⟨aS _,by omega⟩
   refine ⟨fun S h => ?_,fun S h => ?_,by omega⟩
   ·rcases i1 S h with k | k
    ·unfold ym at k;simp only at k;split at k
     ·cases k; exact .inr (by simp)
     ·exact .inl k
    ·exact .inr (by simp [k])
   ·rcases aJ.1 h with k | k
    ·subst k; omega
    ·exact i2 S k
theorem Qb {N : Nat} {Es : List Ed} {L : List Int} (h : kj N Es L) (hE : Es.length < 4294967295) (hL : L.length < 4294967295) : bk aA nJv [.agg [.int .i64 N,.list 2 (dy Es),.list 1 (ints L)]] [] = some (I7 N Es L (u9 N Es L),[]) := by
 have c1 := nB h hE hL;have c2 := Ab h hE hL;have c3 := FL h (after := []) (by decide) (TL N Es L []) none (fun S k => by cases k);rw [N0 h] at c3;have hm := (vW (N := N) (Es := Es) (L := L) (dK N Es L) none).1;have hb : (ek (ym N Es L) (dK N Es L) none).1 = u9 N Es L := rfl;rw [hb] at c3 hm;rw [aM oJv sJv (an rfl)];rw [cD] at c3;cases e : u9 N Es L with
 | none =>
   rw [e] at c3;unfold I7;unfold Zy fw xz at c3;unfold fw at c2;unfold qJv cJv;simp [QS,QR,QQ,QP,QO,QN,QM,QL,QK,c1,c2,c3,Cn,Fs,Fj,Vr,XH,Xu,sJR,iJR,lJR,ah,ae,iX,js,fx,gj,cz,jP,eC,dT,qS,jE,aH,ai,au,aG,aT,af,ah,ae,aa,ak,az,aP,aK]
 | some S =>
   have hS : S ≠ [] := by
    rcases hm S e with k | k
    ·cases k
    ·exact ((iT h).1 k).1.2.1
   have h0 : ¬ (S.length : Int) = 0 := by have := ga.2 hS; omega
   rw [e] at c3;unfold I7;unfold Zy fw xz at c3;unfold fw at c2;generalize dO N Es L S = T at *;unfold qJv cJv;simp [QS,QR,QQ,QP,QO,QN,QM,QL,QK,c1,c2,c3,h0,hS,Cn,Fs,Fj,Vr,XH,Xu,sJR,iJR,lJR,ah,ae,iX,js,fx,gj,cz,jP,eC,dT,qS,jE,aH,ai,au,aG,aT,af,ah,ae,aa,ak,az,aP,aK]
/- What biclique.Maximal returns of a bipartite graph and any two lists. -/
def uz (N : Nat) (S : List Int) (side : Nat) : Bool := hO (N : Int) (-1) S && decide (ei S &&& (18446744073709551615 - side) = 0)
def pQ (N : Nat) (Es : List Ed) (L S T : List Int) : Bool := ((((!decide (S = [])) && !decide (T = [])) && (uz N S (ei L) && uz N T (xf N L))) && decide (cR N Es L S = ei T)) && decide (cL N Es L (ei T) = ei S)
theorem RZ {N : Nat} (hN : N <= 64) (Es : List Ed) (L S T : List Int) (A : List Nat) (lm rm : Nat) (Q : List Int) (hQ : Q.length <= 9223372036854775807) (side : Nat) (hs : side < 18446744073709551616) : bk aA nJI [.list 1 (ints Q),.int .u64 (side : Int),.ptr 0 0] [some [.int .i64 N,.list 2 (dy Es),.list 1 (ints L)],some [.list 1 (ints S),.list 1 (ints T)],some [.list 1 (us A),.int .u64 lm,.int .u64 rm]] = some (.bool (uz N Q side),[some [.int .i64 N,.list 2 (dy Es),.list 1 (ints L)],some [.list 1 (ints S),.list 1 (ints T)],some [.list 1 (us A),.int .u64 lm,.int .u64 rm]]) := by
 rw [aM oJI sJI (an rfl)];have v := pn (N : Int) Q (by omega);unfold uz;by_cases k : hO (N : Int) (-1) Q = true
 ·have hb : ∀ v ∈ Q,0 <= v /\ v < 64 := fun x hx => by
   have := ((dG (N : Int)).1 k).2 x hx;omega
  have m := jW Q (by have := lD ((dG (N : Int)).1 k).1 hb; omega) hb;have e1 := u64_andNot_nat (ei Q) side (fM fun v hv => (hb v hv).2) hs
  have z : decide (((ei Q &&& (18446744073709551615 - side) : Nat) : Int) = 0) = decide (ei Q &&& (18446744073709551615 - side) = 0) := by
   rw [gP,decide_eq_true_eq,decide_eq_true_eq]; omega
  rw [<- z,k];rw [k] at v;generalize ((ei Q &&& (18446744073709551615 - side) : Nat) : Int) = q at *;unfold qJI cJI;simp [Wu,Wt,v,m,e1,Gh,ZF,iJA,lJA,Vs,XI,Xv,mS,js,fx,oq,ft,cC,b8,aH,ai,au,aG,aT,af,ah,ae,aa,ak,az,aP,aK]
 ·have k : hO (N : Int) (-1) Q = false := by simpa using k
  rw [k];rw [k] at v;unfold qJI cJI;simp [Wu,Wt,v,ZF,iJA,lJA,Vs,XI,Xv,mS,js,fx,oq,ft,cC,b8,aH,ai,au,aG,aT,af,ah,ae,aa,ak,az,aP,aK]
theorem Qr : IntKind.i64.wrap 2 = 2 := by decide
def yk (A : List Nat) (lm rm : Nat) (S T : List Int) : List AV := [.agg [.func (.func nJJ) [.agg [.list 1 (us A),.int .u64 lm,.int .u64 rm]] [],.list 1 (ints S),.list 1 (ints T)],.agg [.func (.func Zd) [.agg [.list 1 (us A),.int .u64 lm,.int .u64 rm]] [],.list 1 (ints T),.list 1 (ints S)]]
section
variable {N : Nat} {Es : List Ed} {L : List Int} (h : kj N Es L) {S T : List Int} (hS : S.length < 4294967295) (hT : T.length < 4294967295) (bS : ∀ v ∈ S,0 <= v /\ v < (N : Int)) (bT : ∀ v ∈ T,0 <= v /\ v < (N : Int))
include h hS hT bS bT
theorem aao : aU aA 0 Fi ⟨[(57,.own 3 (yk (cU N Es) (ei L) (xf N L) S T)),(58,.int .i64 2),(59,.int .i64 0)],[]⟩ = if cR N Es L S = ei T then some (.normal,⟨[(57,.own 3 (yk (cU N Es) (ei L) (xf N L) S T)),(58,.int .i64 2),(59,.int .i64 1)],[]⟩) else some (.ret,⟨[(4,.bool false)],[]⟩) := by
 have hn := h.n;have ea := (eJ h).1;have cS : ∀ v ∈ S,0 <= v /\ v < 64 := fun v hv => by have := bS v hv; omega
 have cT : ∀ v ∈ T,0 <= v /\ v < 64 := fun v hv => by have := bT v hv; omega
 have m1 := jW S hS cS;have m2 := jW T hT cT
 have o1 := BQ (cU N Es) (eJ h).2.1 (ei L) (xf N L) (ei S) (fM fun v hv => (cS v hv).2) (fun j hj => by
  rw [fV (fun v hv => (cS v hv).1)] at hj;have := bS _ (of_decide_eq_true hj);omega) (DA N L)
 have e1 : pW (cU N Es) (xf N L) (gN (ei S)) = cR N Es L S := rfl;rw [e1] at o1;unfold fw at o1;unfold yk Fi;by_cases k0 : cR N Es L S = ei T
 ·rw [if_pos k0];have k : ((cR N Es L S : Nat) : Int) = ((ei T : Nat) : Int) := by rw [k0]
  clear k0;generalize ((cR N Es L S : Nat) : Int) = c at *;generalize ((ei T : Nat) : Int) = t at *;generalize ((ei S : Nat) : Int) = s at *;generalize ((ei L : Nat) : Int) = lm at *;generalize us (cU N Es) = A at *;simp [q7,q6,q5,qZ,qY,qX,qW,qV,qU,qT,lU,lR,lO,lN,k,m1,m2,o1,Gh,Qr,tY,tX,Vs,XI,Xv,sJJ,iJJ,lJJ,idx,aH,ai,au,aG,aT,af,ah,ae,aa,ak,az,aP,aK]
 ·rw [if_neg k0];have k : ¬ ((cR N Es L S : Nat) : Int) = ((ei T : Nat) : Int) := by omega
  clear k0;generalize ((cR N Es L S : Nat) : Int) = c at *;generalize ((ei T : Nat) : Int) = t at *;generalize ((ei S : Nat) : Int) = s at *;generalize ((ei L : Nat) : Int) = lm at *;generalize us (cU N Es) = A at *;simp [q7,q6,q5,qZ,qY,qX,qW,qV,qU,qT,lU,lR,lO,lN,k,m1,m2,o1,Gh,Qr,tY,tX,Vs,XI,Xv,sJJ,iJJ,lJJ,idx,aH,ai,au,aG,aT,af,ah,ae,aa,ak,az,aP,aK]
theorem aan : aU aA 0 Fi ⟨[(57,.own 3 (yk (cU N Es) (ei L) (xf N L) S T)),(58,.int .i64 2),(59,.int .i64 1)],[]⟩ = if cL N Es L (ei T) = ei S then some (.normal,⟨[(57,.own 3 (yk (cU N Es) (ei L) (xf N L) S T)),(58,.int .i64 2),(59,.int .i64 2)],[]⟩) else some (.ret,⟨[(4,.bool false)],[]⟩) := by
 have hn := h.n;have ea := (eJ h).1;have cS : ∀ v ∈ S,0 <= v /\ v < 64 := fun v hv => by have := bS v hv; omega
 have cT : ∀ v ∈ T,0 <= v /\ v < 64 := fun v hv => by have := bT v hv; omega
 have m1 := jW S hS cS;have m2 := jW T hT cT
 have o1 := xB (cU N Es) (eJ h).2.1 (ei L) (xf N L) (ei T) (fM fun v hv => (cT v hv).2) (fun j hj => by
  rw [fV (fun v hv => (cT v hv).1)] at hj;have := bT _ (of_decide_eq_true hj);omega) (fM fun v hv => (fN h (fun _ k => k) v hv).2)
 have e1 : pW (cU N Es) (ei L) (gN (ei T)) = cL N Es L (ei T) := rfl;rw [e1] at o1;unfold fw at o1;unfold yk Fi;by_cases k0 : cL N Es L (ei T) = ei S
 ·rw [if_pos k0];have k : ((cL N Es L (ei T) : Nat) : Int) = ((ei S : Nat) : Int) := by rw [k0]
  clear k0;generalize ((cL N Es L (ei T) : Nat) : Int) = c at *;generalize ((ei T : Nat) : Int) = t at *;generalize ((ei S : Nat) : Int) = s at *;generalize ((ei L : Nat) : Int) = lm at *;generalize us (cU N Es) = A at *;simp [q7,q6,q5,qZ,qY,qX,qW,qV,qU,qT,lU,lR,lO,lN,k,m1,m2,o1,Gh,Qr,Vs,XI,Xv,sJK,iJK,lJK,idx,aH,ai,au,aG,aT,af,ah,ae,aa,ak,az,aP,aK]
 ·rw [if_neg k0];have k : ¬ ((cL N Es L (ei T) : Nat) : Int) = ((ei S : Nat) : Int) := by omega
  clear k0;generalize ((cL N Es L (ei T) : Nat) : Int) = c at *;generalize ((ei T : Nat) : Int) = t at *;generalize ((ei S : Nat) : Int) = s at *;generalize ((ei L : Nat) : Int) = lm at *;generalize us (cU N Es) = A at *;simp [q7,q6,q5,qZ,qY,qX,qW,qV,qU,qT,lU,lR,lO,lN,k,m1,m2,o1,Gh,Qr,Vs,XI,Xv,sJK,iJK,lJK,idx,aH,ai,au,aG,aT,af,ah,ae,aa,ak,az,aP,aK]
theorem aap : aU aA 0 (.loop Fi) ⟨[(57,.own 3 (yk (cU N Es) (ei L) (xf N L) S T)),(58,.int .i64 2),(59,.int .i64 0)],[]⟩ = if cR N Es L S = ei T /\ cL N Es L (ei T) = ei S then some (.exit 0,⟨[(57,.own 3 (yk (cU N Es) (ei L) (xf N L) S T)),(58,.int .i64 2),(59,.int .i64 2),(60,.bool false)],[]⟩) else some (.ret,⟨[(4,.bool false)],[]⟩) := by
 have r0 := aao h hS hT bS bT;have r1 := aan h hS hT bS bT;by_cases k0 : cR N Es L S = ei T
 ·rw [if_pos k0] at r0;rw [ba r0];by_cases k1 : cL N Es L (ei T) = ei S
  ·rw [if_pos k1] at r1;rw [ba r1,if_pos ⟨k0,k1⟩];clear r0 r1;exact bC (by unfold Fi; simp [q7,q6,q5,qZ,qY,qX,qW,qV,qU,qT,lU,lR,lO,lN,aH,ai,au,aG,aT,af,ah,ae,aa,ak,az,aP,aK])
  ·rw [if_neg k1] at r1;rw [if_neg (fun q => k1 q.2)];exact dj r1
 ·rw [if_neg k0] at r0;rw [if_neg (fun q => k0 q.1)];exact dj r0
end
theorem ME {N : Nat} {Es : List Ed} {L : List Int} (h : kj N Es L) (hE : Es.length < 4294967295) (hL : L.length < 4294967295) (S T : List Int) (hS : S.length <= 9223372036854775807) (hT : T.length <= 9223372036854775807) : bk aA Zc [.agg [.int .i64 N,.list 2 (dy Es),.list 1 (ints L)],.agg [.list 1 (ints S),.list 1 (ints T)]] [] = some (.bool (pQ N Es L S T),[]) := by
 have c1 := nB h hE hL;have c2 := Ab h hE hL;have hn := h.n;have ml : ei L < 18446744073709551616 := fM fun v hv => (fN h (fun _ k => k) v hv).2;have w1 := RZ h.n Es L S T (cU N Es) (ei L) (xf N L) S hS (ei L) ml;have w2 := RZ h.n Es L S T (cU N Es) (ei L) (xf N L) T hT (xf N L) (DA N L);rw [aM oJj sJj (an rfl)];by_cases k1 : S = []
 ·subst k1;have e : pQ N Es L [] T = false := by simp [pQ]
  rw [e,cD];unfold ZV cJj;simp [q7,q6,q5,qZ,qY,qX,qW,qV,qU,qT,lU,lR,lO,lN,c1,Cn,Fs,Fj,ah,ae,aH,ai,au,aG,aT,af,ah,ae,aa,ak,az,aP,aK]
 have l1 : ¬ (S.length : Int) = 0 := by have := ga.2 k1; omega
 by_cases k2 : T = []
 ·subst k2;have e : pQ N Es L S [] = false := by simp [pQ]
  rw [e,cD];unfold ZV cJj;simp [q7,q6,q5,qZ,qY,qX,qW,qV,qU,qT,lU,lR,lO,lN,c1,k1,l1,Cn,Fs,Fj,ah,ae,aH,ai,au,aG,aT,af,ah,ae,aa,ak,az,aP,aK]
 have l2 : ¬ (T.length : Int) = 0 := by have := ga.2 k2; omega
 unfold fw at c2;by_cases k3 : uz N S (ei L) = true
 case neg =>
  have k3 : uz N S (ei L) = false := by simpa using k3
  have e : pQ N Es L S T = false := by simp [pQ,k3]
  rw [e];rw [k3] at w1;unfold ZV cJj;simp [q7,q6,q5,qZ,qY,qX,qW,qV,qU,qT,lU,lR,lO,lN,c1,c2,w1,k1,k2,l1,l2,Cn,Fs,Fj,Vr,XH,Xu,sJI,iJI,lJI,ah,ae,iX,js,fx,gj,cz,jP,eC,dT,aH,ai,au,aG,aT,af,ah,ae,aa,ak,az,aP,aK]
 by_cases k4 : uz N T (xf N L) = true
 case neg =>
  have k4 : uz N T (xf N L) = false := by simpa using k4
  have e : pQ N Es L S T = false := by simp [pQ,k4]
  rw [e];rw [k3] at w1;rw [k4] at w2;unfold ZV cJj;simp [q7,q6,q5,qZ,qY,qX,qW,qV,qU,qT,lU,lR,lO,lN,c1,c2,w1,w2,k1,k2,l1,l2,Cn,Fs,Fj,Vr,XH,Xu,sJI,iJI,lJI,ah,ae,iX,js,fx,gj,cz,jP,eC,dT,aH,ai,au,aG,aT,af,ah,ae,aa,ak,az,aP,aK]
 have bS : ∀ v ∈ S,0 <= v /\ v < (N : Int) := fun x hx => by
  have k := k3;unfold uz at k;rw [ab] at k;exact (((dG (N : Int)).1 k.1).2 x hx).2
 have bT : ∀ v ∈ T,0 <= v /\ v < (N : Int) := fun x hx => by
  have k := k4;unfold uz at k;rw [ab] at k;exact (((dG (N : Int)).1 k.1).2 x hx).2
 have hS : S.length < 4294967295 := by
  have k := k3;unfold uz at k;rw [ab] at k;have := lD ((dG (N : Int)).1 k.1).1 fun v hv => by have := bS v hv; omega
  omega
 have hT : T.length < 4294967295 := by
  have k := k4;unfold uz at k;rw [ab] at k;have := lD ((dG (N : Int)).1 k.1).1 fun v hv => by have := bT v hv; omega
  omega
 have lp := aap h hS hT bS bT
 have e : pQ N Es L S T = decide (cR N Es L S = ei T /\ cL N Es L (ei T) = ei S) := by
  unfold pQ;rw [k3,k4,gP];simp [k1,k2]
 rw [e];rw [k3] at w1;rw [k4] at w2;unfold yk at lp;generalize ((ei L : Nat) : Int) = lm at *;generalize ((xf N L : Nat) : Int) = rm at *;generalize us (cU N Es) = A at *;unfold ZV cJj;by_cases k5 : cR N Es L S = ei T /\ cL N Es L (ei T) = ei S
 ·rw [if_pos k5] at lp;rw [decide_eq_true k5];clear k5 e;simp [q7,q6,q5,qZ,qY,qX,qW,qV,qU,qT,lU,lR,lO,lN,c1,c2,w1,w2,k1,k2,l1,l2,lp,Cn,Fs,Fj,Vr,XH,Xu,sJI,iJI,lJI,ah,ae,iX,js,fx,gj,cz,jP,eC,dT,aH,ai,au,aG,aT,af,ah,ae,aa,ak,az,aP,aK]
 ·rw [if_neg k5] at lp;rw [decide_eq_false k5];clear k5 e;simp [q7,q6,q5,qZ,qY,qX,qW,qV,qU,qT,lU,lR,lO,lN,c1,c2,w1,w2,k1,k2,l1,l2,lp,Cn,Fs,Fj,Vr,XH,Xu,sJI,iJI,lJI,ah,ae,iX,js,fx,gj,cz,jP,eC,dT,aH,ai,au,aG,aT,af,ah,ae,aa,ak,az,aP,aK]
/- The maximal pairs in order: plain law of Next, Best, Maximal and the edges. -/
theorem Yy (P T : List Int) (h : T ≠ []) : dJ (P ++ T) P = 1 := by
 have := pD P T [];rw [List.append_nil] at this;rw [this];cases T with
 | nil => exact absurd rfl h
 | cons x r => rfl
theorem ub : ∀ {C P : List Int},Up (P ++ C) -> (wk C P).Pairwise fun a b => dJ b a = 1
 | [],P,_ => List.Pairwise.nil
 | v :: C,P,hu => by
   have hs : (P ++ C).Sublist (P ++ v :: C) := eZ (wh v C) P;have i1 := ub (C := C) (P := P ++ [v]) (by simpa using hu);have i2 := ub (C := C) (P := P) (eh hs hu)
   have gt : ∀ T U : List Int,U ≠ [] -> U.Sublist C -> dJ (P ++ U) (P ++ v :: T) = 1 := fun T U hU hs => by
    rw [pD];cases U with
    | nil => exact absurd rfl hU
    | cons u U =>
      have := (aN.1 (ep.1 hu).2.1).1 u (hs.subset (by simp));simp only [dJ];rw [if_pos this]
   simp only [wk,aN,ep,aD];refine ⟨fun b hb => ?_,i1,i2,fun a ha b hb => ?_⟩
   ·rcases hb with hb | hb
    ·obtain ⟨T,h1,_,rfl⟩ := jt.1 hb;exact Yy _ T h1
    ·obtain ⟨U,h1,h2,rfl⟩ := jt.1 hb;exact gt [] U h1 h2
   ·obtain ⟨T,_,_,rfl⟩ := jt.1 ha;obtain ⟨U,h1,h2,rfl⟩ := jt.1 hb;simpa using gt T U h1 h2
theorem Ci {N : Nat} {Es : List Ed} {L : List Int} (h : kj N Es L) : (dK N Es L).Pairwise fun a b => dJ b a = 1 := by
 rw [Da h];exact (ub (by simpa using h.l.1)).filter _
theorem rY : ∀ (a b : List Int),dJ a b = - dJ b a
 | [],[] => rfl
 | [],_ :: _ => rfl
 | _ :: _,[] => rfl
 | x :: r,y :: s => by
   have ih := rY r s;simp only [dJ];by_cases h1 : y < x
   ·have : ¬ x < y := by omega
    simp [h1,this]
   ·by_cases h2 : x < y
    ·simp [h1,h2]
    ·simp [h1,h2,ih]
theorem wX : ∀ (l : List (List Int)),(l.Pairwise fun a b => dJ b a = 1) -> ∀ (i : Nat) (h : i < l.length),(l.filter fun S => decide (dJ S l[i] = 1)) = l.drop (i + 1)
 | [],_,i,h => by simp at h
 | x :: l,hp,0,h => by
   have hp := aN.1 hp;have : dJ x x = 0 := rX.2 rfl;simp only [tX,GK,this,gn,List.drop_zero];rw [if_neg (by decide),TA];intro S hS;exact decide_eq_true (hp.1 S hS)
 | x :: l,hp,i + 1,h => by
   have XS := aN.1 hp;have hi : i < l.length := by simpa using h
   have ih := wX l XS.2 i hi
   have e : dJ x l[i] = -1 := by
    have := XS.1 l[i] (List.getElem_mem _);rw [rY,this]
   simp only [tY,GK,e,gn];rw [if_neg (by decide)];exact ih
theorem ae6 {N : Nat} {Es : List Ed} {L : List Int} (h : kj N Es L) (i : Nat) (hi : i < (dK N Es L).length) : xV N Es L (dK N Es L)[i] = (dK N Es L).drop (i + 1) := wX _ (Ci h) i hi
theorem zA {a b : Nat} (ha : a < 18446744073709551616) (hb : b < 18446744073709551616) (h : ∀ j,a.testBit j = true -> b.testBit j = true) : a &&& (18446744073709551615 - b) = 0 := by
 apply Nat.eq_of_testBit_eq;intro j;rw [Nat.testBit_and,Sh _ _ hb,Nat.zero_testBit];cases e : a.testBit j with
 | false => rfl
 | true => rw [h j e]; simp
theorem Xk {N : Nat} {Es : List Ed} {L : List Int} (h : kj N Es L) {S : List Int} (hS : S ∈ dK N Es L) : pQ N Es L S (dO N Es L S) = true := by
 obtain ⟨⟨k1,k2,k3⟩,k4,k5⟩ := (iT h).1 hS;have hn := h.n;have bS := fN h k3;have cu : Up (dO N Es L S) := u4 N Es L S
 have cb : ∀ v ∈ dO N Es L S,(0 <= v /\ v < (N : Int)) /\ v ∉ L := fun v hv => by
  have := (jH h k1 k3 v).1 hv;exact ⟨this.1,this.2.1⟩
 have e1 : ei (dO N Es L S) = cR N Es L S := NZ (fM fun v hv => by have := (cb v hv).1; omega) (Aa N Es L S) (jZ cu fun v hv => by have := (cb v hv).1; omega);have e2 := (uZ h k1 k3).1 k5
 have o1 : uz N S (ei L) = true := by
  unfold uz;rw [ab,decide_eq_true_eq];refine ⟨(dG (N : Int)).2 ⟨k1,fun x hx => ?_⟩,zA (fM fun v hv => (bS v hv).2) (fM fun v hv => (fN h (fun _ k => k) v hv).2) fun j hj => ?_⟩
  ·have := h.l.2 x (k3 x hx); omega
  ·rw [fV (fun v hv => (bS v hv).1)] at hj;rw [fV (fun v hv => (fN h (fun _ k => k) v hv).1)];exact decide_eq_true (k3 _ (of_decide_eq_true hj))
 have o2 : uz N (dO N Es L S) (xf N L) = true := by
  unfold uz;rw [ab,decide_eq_true_eq];refine ⟨(dG (N : Int)).2 ⟨cu,fun x hx => ?_⟩,zA (fM fun v hv => by have := (cb v hv).1; omega) (DA N L) fun j hj => ?_⟩
  ·have := (cb x hx).1; omega
  ·rw [fV (fun v hv => (cb v hv).1.1)] at hj;have := cb _ (of_decide_eq_true hj);rw [QC h.n h.l.2];simp [this.2];omega
 unfold pQ;rw [o1,o2,e1,e2];simp [k2,k4]
theorem aaP {N : Nat} {Es : List Ed} {L : List Int} (h : kj N Es L) {e : Ed} (he : e ∈ Es) : ∃ S ∈ dK N Es L,(e.1 ∈ S \/ e.1 ∈ dO N Es L S) /\ (e.2 ∈ S \/ e.2 ∈ dO N Es L S) := by
 have b := h.e.2 e he
 have key : ∀ a c : Int,a ∈ L -> c ∉ L -> (0 <= c /\ c < (N : Int)) -> jn Es a c -> ∃ S ∈ dK N Es L,a ∈ S /\ c ∈ dO N Es L S := by
  intro a c ha hc hb hj;have hu : Up [a] := by simp [Up]
  have hL : ∀ x ∈ [a],x ∈ L := by simpa using ha
  have hcR : c ∈ dO N Es L [a] := (jH h hu hL c).2 ⟨hb,hc,by simpa using hj⟩;refine ⟨iL N Es L [a],(iT h).2 ⟨⟨s9 N Es L [a],?_,NR h⟩,?_,FX h hu hL⟩,J7 h hu hL a (by simp),?_⟩
  ·exact Vm (J7 h hu hL a (by simp))
  ·rw [u5 h hu hL];exact Vm hcR
  ·rw [u5 h hu hL];exact hcR
 by_cases k : e.1 ∈ L
 ·obtain ⟨S,h1,h2,h3⟩ := key e.1 e.2 k ((h.s e he).1 k) ⟨by omega,by omega⟩ (.inl he);exact ⟨S,h1,.inl h2,.inr h3⟩
 ·have k2 : e.2 ∈ L := by
   by_cases q : e.2 ∈ L
   ·exact q
   ·exact absurd ((h.s e he).2 q) k
  obtain ⟨S,h1,h2,h3⟩ := key e.2 e.1 k2 k ⟨by omega,by omega⟩ (.inr he);exact ⟨S,h1,.inr h3,.inl h2⟩
theorem Vi {N : Nat} {L : List Int} (h : kj N [] L) : dK N [] L = [] := by
 rw [List.eq_nil_iff_forall_not_mem];intro S hS;obtain ⟨⟨k1,k2,k3⟩,k4,_⟩ := (iT h).1 hS;obtain ⟨x,hx⟩ := qD _ k4;obtain ⟨y,hy⟩ := qD _ k2;have := ((jH h k1 k3 x).1 hx).2.2 y hy;simp [jn] at this
def E8 (N : Nat) (Es : List Ed) (L : List Int) (l : List (List Int)) (m : Nat) : Nat := l.foldl (fun m S => max m (dg N Es L S)) m
theorem E7 {N : Nat} {Es : List Ed} {L : List Int} : ∀ (l : List (List Int)) (m : Nat),m <= E8 N Es L l m /\ (∀ S ∈ l,dg N Es L S <= E8 N Es L l m) /\ (E8 N Es L l m = m \/ ∃ S ∈ l,E8 N Es L l m = dg N Es L S)
 | [],m => ⟨aS _,fun S h => by simp at h,.inl rfl⟩
 | T :: l,m => by
   obtain ⟨i1,i2,i3⟩ := E7 (N := N) (Es := Es) (L := L) l (max m (dg N Es L T));have e : E8 N Es L (T :: l) m = E8 N Es L l (max m (dg N Es L T)) := rfl;rw [e];refine ⟨by omega,fun S h => ?_,?_⟩
   ·rcases aJ.1 h with k | k
    ·subst k; omega
    ·exact i2 S k
   ·rcases i3 with k | ⟨S,h,k⟩
    ·by_cases q : m <= dg N Es L T
     ·right; exact ⟨T,by simp,by omega⟩
     ·left; omega
    ·exact .inr ⟨S,by simp [h],k⟩
theorem Vg {N : Nat} {Es : List Ed} {L : List Int} (h : kj N Es L) (hE : Es ≠ []) : ∃ S ∈ dK N Es L,u9 N Es L = some S /\ dg N Es L S = E8 N Es L (dK N Es L) 0 := by
 obtain ⟨e,he⟩ := qD _ hE;obtain ⟨S0,hS0,_⟩ := aaP h he
 have pos : 0 < dg N Es L S0 := by
  obtain ⟨⟨_,k2,_⟩,k4,_⟩ := (iT h).1 hS0;exact Nat.mul_pos (ga.2 k2) (ga.2 k4)
 obtain ⟨f1,f2,f3⟩ := vW (N := N) (Es := Es) (L := L) (dK N Es L) none;have fb : (ek (ym N Es L) (dK N Es L) none).1 = u9 N Es L := rfl;rw [fb] at f1 f2 f3;obtain ⟨m1,m2,m3⟩ := E7 (N := N) (Es := Es) (L := L) (dK N Es L) 0;cases eb : u9 N Es L with
 | none =>
   have := f2 S0 hS0;rw [eb] at this;have : dg N Es L S0 <= 0 := this;omega
 | some S =>
   have hS : S ∈ dK N Es L := by
    rcases f1 S eb with k | k
    ·cases k
    ·exact k
   refine ⟨S,hS,rfl,?_⟩;rw [eb] at f2;have f2 : ∀ S' ∈ dK N Es L,dg N Es L S' <= dg N Es L S := f2;have a := m2 S hS;rcases m3 with k | ⟨S',h',k⟩
   ·have := f2 S0 hS0; have := m2 S0 hS0; omega
   ·have := f2 S' h'; omega
end Go.BmP
