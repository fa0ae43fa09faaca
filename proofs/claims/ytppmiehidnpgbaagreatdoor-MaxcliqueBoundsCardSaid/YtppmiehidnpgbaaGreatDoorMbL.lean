/- The law of the bounds. -/
import Derived.Test.YtppmiehidnpgbaaGreatDoorUseM
import Derived.Test.YtppmiehidnpgbaaGreatDoorMbM
import Derived.Test.YtppmiehidnpgbaaGreatDoorMbB
import Derived.Test.YtppmiehidnpgbaaGreatDoorCoA
import Derived.Test.YtppmiehidnpgbaaGreatDoorCoV
import Derived.Test.YtppmiehidnpgbaaGreatDoorN01
set_option linter.unusedSimpArgs false
set_option linter.unusedVariables false
set_option maxRecDepth 100000
set_option maxHeartbeats 8000000
open List renaming mem_map → eZ, mem_range → di
open Nat renaming le_of_ble_eq_true → aD
namespace Go.BmP
open Go.Am Go.Bm
theorem awB : br au nQc [] [] = some (.bool true,[]) := by
 have k1 : br au VQ [G9] [] = some (.dB [.list 1 (ints [0,1]),.int .i64 0],[]) := dD.2 ⟨3000,agJ⟩;have k2 : br au MQ [G9] [] = some (.dB [.list 1 (ints [2,1,0,1,0]),.int .i64 0],[]) := dD.2 ⟨3000,agI⟩;have k3 : br au VO [G9,.list 1 (ints [2,1,0,1,0])] [] = some (.bool true,[]) := dD.2 ⟨3000,agH⟩;have k4 : br au VP [G9] [] = some (.dB [.int .i64 3,.int .i64 0],[]) := dD.2 ⟨3000,abM⟩;have k5 : br au nQp [.int .i64 5,.list 2 [.agg [.int .i64 0,.int .i64 1],.agg [.int .i64 1,.int .i64 2],.agg [.int .i64 2,.int .i64 3],.agg [.int .i64 3,.int .i64 4],.agg [.int .i64 4,.int .i64 0]]] [] = some (.dB [G9,.int .i64 0],[]) := dD.2 ⟨3000,k_of⟩;have k6 : br au nQq [.list 1 (ints [0,1]),.list 1 [.int .i64 0,.int .i64 1]] [] = some (.int .i64 0,[]) := dD.2 ⟨3000,aiB⟩;unfold G9 at *;have p1 := fG [0,1];have p2 := fG [2,1,0,1,0];have p3 := aj [0,1];generalize ints [0,1] = I1 at *;generalize ints [2,1,0,1,0] = I2 at *;have c1 := ak cyc9;generalize dO cyc9 = Y at *;rw [aV oQc sQc (aD rfl)];unfold qQc cQc;simp [adD,adC,adB,adA,adz,adx,k1,k2,k3,k4,k5,k6,p1,p2,p3,c1,aN,bu,bq,ko,fQ,gz,pl,jt,dQ,l6,mg,gg,fx,xx,qQ,je,iC,sQp,iQp,lQp,sQf,iQf,lQf,sQg,iQg,lQg,sQh,iQh,lQh,sQn,iQn,lQn,sQq,iQq,lQq]
theorem OE : ∀ l : List Ed,kB (dO l) (dO l) = true
 | [] => rfl
 | e :: r => by
   have := OE r;rw [ZV];simp only [kB,qB,this,Bool.and_true,Bool.and_self,decide_true]
theorem JK : ∀ l : List Int,kB (ints l) (ints l) = true
 | [] => rfl
 | x :: r => by
   have := JK r;rw [jD];simp only [kB,qB,this,Bool.and_true,Bool.and_self,decide_true]
theorem VG {N : Nat} (hN : N <= 64) {O : List Int} (hp : O.Perm (yp N)) : O.length = N /\ bZ O = ik N /\ (∀ v ∈ O,0 <= v /\ v < (N : Int)) /\ ∀ i : Nat,i < N -> (i : Int) ∈ O := by
 have mem : ∀ x : Int,x ∈ O ↔ 0 <= x /\ x < (N : Int) := fun x => by
  rw [hp.mem_iff];unfold yp;rw [eZ];constructor
  ·rintro ⟨j,hj,rfl⟩;have := di.1 hj;omega
  ·rintro ⟨a,b⟩;exact ⟨x.toNat,di.2 (by omega),by omega⟩
 refine ⟨by rw [hp.length_eq]; simp [yp],?_,fun v hv => (mem v).1 hv,fun i hi => (mem _).2 ⟨by omega,by omega⟩⟩;obtain ⟨s1,s2⟩ := dC O;exact qW s1 (H8 N) fun x => by rw [s2,mem,DB hN]
theorem YV {N : Nat} {Es : List Ed} (hG : ke (N : Int) Es) (hN : N <= 8) (hE : Es.length < 1000000) (h0 : 0 < N) (R : List Int) (hR : R.Perm (yp N)) : ∃ (O : List Nat) (C D : List Int) (n K : Nat),
  br au VQ [.agg [.int .i64 N,.list 2 (dO Es)]] [] = some (.dB [.list 1 (ints (nz O)),.int .i64 0],[]) /\
  br au VP [.agg [.int .i64 N,.list 2 (dO Es)]] [] = some (.dB [.int .i64 n,.int .i64 0],[]) /\
  br au MQ [.agg [.int .i64 N,.list 2 (dO Es)]] [] = some (.dB [.list 1 (ints C),.int .i64 0],[]) /\
  br au YI [.agg [.int .i64 N,.list 2 (dO Es)],.list 1 (ints R)] [] = some (.dB [.list 1 (ints D),.int .i64 0],[]) /\
  br au nQk [.agg [.int .i64 N,.list 2 (dO Es)]] [] = some (.dB [.int .i64 K,.int .i64 0],[]) /\
  br au TU [.agg [.int .i64 N,.list 2 (dO Es)],.list 1 [],.int .i64 O.length] [] = some (.dB [.bool true,.int .i64 0],[]) /\
  br au TU [.agg [.int .i64 N,.list 2 (dO Es)],.list 1 [],.int .i64 ((O.length : Int) + 1)] [] = some (.dB [.bool false,.int .i64 0],[]) /\
  br au nQm [.agg [.int .i64 N,.list 2 (dO Es)],.list 1 (ints (nz O))] [] = some (.bool true,[]) /\
  br au VO [.agg [.int .i64 N,.list 2 (dO Es)],.list 1 (ints C)] [] = some (.bool true,[]) /\
  br au VO [.agg [.int .i64 N,.list 2 (dO Es)],.list 1 (ints D)] [] = some (.bool true,[]) /\
  br au TR [.list 1 (ints C)] [] = some (.list 1 (ints (bZ C)),[]) /\
  br au TR [.list 1 (ints D)] [] = some (.list 1 (ints (bZ D)),[]) /\
  O.length <= n /\ O.length <= (bZ C).length /\ O.length <= (bZ D).length /\ (bZ C).length <= K + 1 /\ K < 64 /\ O.length <= 64 /\ (bZ C).length <= 64 /\ (bZ D).length <= 64 := by
 obtain ⟨O,⟨lgO,_⟩,bO⟩ := WJ hG (by omega) hE;obtain ⟨o,ds,L,K,hp,hL,hK,kK,bR⟩ := Qb hG hE h0;have cr := Oq hG hE hp;obtain ⟨r1,r2,r3,r4⟩ := VG (by omega : N <= 64) hR;have c2 := GD hG hE R r1 r2 r3;obtain ⟨d1,d2,d3⟩ := Gl hG R r3 r4
 have d2' : ∀ x ∈ xf (eC N Es) N R,0 <= x := fun x hx => by
  obtain ⟨i,hi,rfl⟩ := List.getElem_of_mem hx;have := d2 i (by omega)
  rwa [List.getD_eq_getElem?_getD,List.getElem?_eq_getElem hi] at this
 obtain ⟨c3,c4,c5⟩ := LB hG hp;obtain ⟨L2,hL2,dr⟩ := XJ hG hE;rw [agp hL2 hL,hK] at dr;have m1 := (KY hG).2 (abG hG lgO h0)
 have hOl : O.length <= N := by
  have := De (lgO.1.1.imp fun k => k.1) List.pairwise_lt_range fun x hx => di.2 (lgO.1.2 x hx);simpa using this
 have mr := XA hG (by omega) (nz O) (by rw [pq]; omega);rw [m1] at mr;obtain ⟨r,g1,ab⟩ := WM hG (by omega) hE [] (by simp) (by rfl);have er := ahv hG lgO g1;have y1 := ab O.length;have y2 := ab ((O.length : Int) + 1);rw [er] at y1 y2;rw [decide_eq_true (by simp)] at y1;rw [decide_eq_false (by simp; omega)] at y2;have p1 := Fi hG hE _ c3 c4 c5;have p2 := Fi hG hE _ d1 d2' d3;have s1 := iu (xf (eC N Es) N (ns o).reverse);have s2 := iu (xf (eC N Es) N R);have q1 := UN lgO.1 c3 c5;have q2 := UN lgO.1 d1 d3;have q3 := ab9 hG lgO.1 kK;have q4 := ach hG hp kK
 have kN : K < 64 := by
  obtain ⟨K',e,_,k2⟩ := Oj hL;obtain rfl : K = K' := by omega
  rcases k2 with e | ⟨v,hv⟩
  ·omega
  ·obtain ⟨m',s,b,g⟩ := hv;have Ul := Gb (A := cU N Es) (N := N) (j := K) ⟨m',s,b,g⟩;have g1 := g v b;unfold QG at g1;rw [<- sE] at g1
   have := q7 (A := (v : Int) :: eS (m' &&& (cU N Es).getD v 0)) (B := (List.range 64).map fun n => ((n : Nat) : Int)) (List.nodup_cons.2 ⟨fun z => by
     obtain ⟨i,i1,i2,i3⟩ := eY.1 z;obtain rfl : v = i := by omega
     rw [Nat.testBit_and,(Bk hG).2.1 v,Bool.and_false] at i3
     exact absurd i3 (by simp),(kJ _).imp fun {a b} h => by omega⟩) fun y hy => by
      rcases List.mem_cons.1 hy with rfl | hy
      ·exact eZ.2 ⟨v,di.2 (by omega),rfl⟩
      ·obtain ⟨i,rfl,i2,i3⟩ := eY.1 hy;exact eZ.2 ⟨i,di.2 i2,rfl⟩
   rw [List.length_map,List.length_range,List.length_cons] at this;omega
 exact ⟨O,_,_,_,K,bO,bR,cr,c2,dr,y1,y2,mr,p1,p2,FD _ (by omega),FD _ (by omega),by omega,q1,q2,q4,kN,by omega,by omega,by omega⟩
def Zc : Option (AV × Heap) -> Bool
 | some (.dB [.list 1 [],.int .i64 0],[]) => true
 | _ => false
theorem Lc {r : Option (AV × Heap)} (h : Zc r = true) : r = some (.dB [.list 1 [],.int .i64 0],[]) := by
 unfold Zc at h;split at h
 ·rfl
 ·cases h
def isM1 (b : Bool) : Option (AV × Heap) -> Bool
 | some (.dB [.bool c,.int .i64 0],[]) => b == c
 | _ => false
theorem Ui {b : Bool} {r : Option (AV × Heap)} (h : isM1 b r = true) : r = some (.dB [.bool b,.int .i64 0],[]) := by
 unfold isM1 at h;split at h
 ·rw [eq_of_beq h]
 ·cases h
def G0 : AV := .agg [.int .i64 0,.list 2 []]
theorem aeP : Zc (gI au 300 VQ [G0] []) = true := by kernel_rfl
theorem aeO : Zc (gI au 300 MQ [G0] []) = true := by kernel_rfl
theorem ahl : Zc (gI au 300 YI [G0,.list 1 []] []) = true := by kernel_rfl
theorem ahk : Uj (gI au 300 nQk [G0] []) = true := by kernel_rfl
theorem ahn : isM1 true (gI au 300 TU [G0,.list 1 [],.int .i64 0] []) = true := by kernel_rfl
theorem ahm : isM1 false (gI au 300 TU [G0,.list 1 [],.int .i64 1] []) = true := by kernel_rfl
theorem M6 (l : List Int) : br au nQa [.list 1 (ints l)] [] = some (.bool true,[]) := by
 rw [aV oQa sQa (aD rfl)];have aw := awB;have few := abZ l;by_cases hl : (l.length : Int) <= 500
 case neg =>
  unfold qQa cQa;simp [SI,SH,SG,SF,SE,SD,SC,SA,Sz,Sy,Kf,Ke,Kc,Kb,Ka,J9,J8,few,hl,aw,sQb,iQb,lQb,sQc,iQc,lQc,aN,aq,aM,bp,bV,an,ak,aj,af,aE,aL,bu,bq]
 have hl5 : l.length <= 500 := by omega
 have n1 := abu l;obtain ⟨N,Es,a1,n2,hG,hN,hEl⟩ := Wd l hl5 8 (by omega) 0;obtain ⟨R,a2,n3,hR⟩ := VT l hl5 N (by omega) [u4 N (dO Es)] ⟨fun _ => rfl,rfl,fun _ _ => rfl,fun _ => rfl,fun _ _ => rfl⟩ a1;have leE := aq Es;have ce := ak Es;have av := OE Es;have avl := JK l;unfold dk u4 at n3;unfold dk at n1 n2;simp only [fY,show ((8 : Nat) : Int) = 8 from rfl] at n1 n2;by_cases h0 : N = 0
 ·subst h0
  have : Es = [] := by
   cases Es with
   | nil => rfl
   | cons e r => have := hG.2.2 e List.mem_cons_self; omega
  subst this;have : R = [] := hR.eq_nil;subst this;have z1 : br au VQ [G0] [] = _ := dD.2 ⟨300,Lc aeP⟩;have z2 : br au MQ [G0] [] = _ := dD.2 ⟨300,Lc aeO⟩;have z3 : br au YI [G0,.list 1 []] [] = _ := dD.2 ⟨300,Lc ahl⟩;have z4 : br au nQk [G0] [] = _ := dD.2 ⟨300,NH ahk⟩;have z5 : br au TU [G0,.list 1 [],.int .i64 0] [] = _ := dD.2 ⟨300,Ui ahn⟩;have z6 : br au TU [G0,.list 1 [],.int .i64 1] [] = _ := dD.2 ⟨300,Ui ahm⟩;have z7 := M7;unfold G0 at *;rw [ab7] at *;simp only [fY,cV] at n2 n3;unfold qQa cQa;simp [SI,SH,SG,SF,SE,SD,SC,SA,Sz,Sy,Kf,Ke,Kc,Kb,Ka,J9,J8,few,hl,aw,n1,n2,n3,z1,z2,z3,z4,z5,z6,z7,av,avl,ce,aN,bu,bq,ko,fQ,gz,pl,jt,dQ,l6,mg,gg,fx,xx,qQ,je,iC,eL,kj,nN,AH,jJ,ym,qB,kB,sQb,iQb,lQb,sQc,iQc,lQc,sQd,iQd,lQd,sQe,iQe,lQe,sQj,iQj,lQj,sQf,iQf,lQf,sQg,iQg,lQg,sQh,iQh,lQh,sQi,iQi,lQi,sQk,iQk,lQk,sQl,iQl,lQl]
 ·obtain ⟨O,C,D,n,K,m1,m2,m3,m4,m5,m6,m7,m8,m9,m10,m11,m12,e1,e2,e3,e4,e5,e6,e7,e8⟩ := YV hG hN (by omega) (by omega) R hR;have nz1 : ¬ (N : Int) = 0 := by omega
  have lO : (ints (nz O)).length = O.length := by rw [af,pq]
  have lC := af (bZ C);have lD := af (bZ D);have w1 : IntKind.i64.wrap ((O.length : Int) + 1) = (O.length : Int) + 1 := gK (by omega) (by omega);have w2 : IntKind.i64.wrap ((K : Int) + 1) = (K : Int) + 1 := gK (by omega) (by omega);have i1 : (O.length : Int) <= n := by omega
  have i2 : (O.length : Int) <= (bZ C).length := by omega
  have i3 : (O.length : Int) <= (bZ D).length := by omega
  have i4 : ((bZ C).length : Int) <= (K : Int) + 1 := by omega
  have pC := fG C;have pD := fG D;have pO := fG (nz O);have cC := aj C;have cD := aj D;have cO := aj (nz O);have pR := fG R;have fR := hB R;clear hG hR;generalize (bZ C).length = sc at *;generalize (bZ D).length = sd at *;generalize ints (bZ C) = S1 at *;generalize ints (bZ D) = S2 at *;generalize ints C = C1 at *;generalize ints D = D1 at *;generalize ints (nz O) = O1 at *;generalize ints R = R1 at *;generalize O.length = lo at *;generalize dO Es = Y at *;unfold qQa cQa;simp [SI,SH,SG,SF,SE,SD,SC,SA,Sz,Sy,Kf,Ke,Kc,Kb,Ka,J9,J8,few,hl,aw,n1,n2,n3,m1,m2,m3,m4,m5,m6,m7,m8,m9,m10,m11,m12,nz1,h0,lO,lC,lD,w1,w2,i1,i2,i3,i4,pC,pD,pO,cC,cD,cO,pR,fR,av,avl,ce,aN,bu,bq,ko,fQ,gz,pl,jt,dQ,l6,mg,gg,fx,xx,qQ,je,iC,eL,kj,nN,AH,jJ,ym,qB,kB,sQb,iQb,lQb,sQc,iQc,lQc,sQd,iQd,lQd,sQe,iQe,lQe,sQj,iQj,lQj,sQf,iQf,lQf,sQg,iQg,lQg,sQh,iQh,lQh,sQi,iQi,lQi,sQk,iQk,lQk,sQl,iQl,lQl,sQm,iQm,lQm,sQn,iQn,lQn,sQo,iQo,lQo]
end Go.BmP
