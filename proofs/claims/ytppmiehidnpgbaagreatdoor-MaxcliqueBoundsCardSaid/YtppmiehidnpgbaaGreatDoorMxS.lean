/- What cliques.masks and all return. -/
import Derived.Test.YtppmiehidnpgbaaGreatDoorUseM
import Derived.Test.YtppmiehidnpgbaaGreatDoorExtP
import Derived.Test.YtppmiehidnpgbaaGreatDoorX11
import Derived.Test.YtppmiehidnpgbaaGreatDoorK05
import Derived.Test.YtppmiehidnpgbaaGreatDoorR02d
import Derived.Test.YtppmiehidnpgbaaGreatDoorMxF
set_option linter.unusedSimpArgs false
set_option linter.unusedVariables false
set_option maxRecDepth 100000
set_option maxHeartbeats 4000000
open Bool renaming and_eq_true → ae, false_and → fh, true_and → eh
open Int renaming one_mul → Dg
open List renaming all_eq_true → lr, drop_eq_getElem_cons → bk, drop_length → bU, drop_zero → cS, foldl_nil → oV, getD_eq_getElem?_getD → aI, getElem?_eq_getElem → aB, getElem_mem → dN, length_replicate → bW, mem_take_iff_getElem → JQ, replicate → aF, take_length → dW
open Nat renaming le_of_ble_eq_true → aD
open Option.some renaming inj → dn
namespace Go.BmP
open Go.Am Go.Bm
theorem IQ (N : Nat) (hN : N <= 64) (Es : List Ed) (hE : Es.length < 4294967295) (hv : ∀ e ∈ Es,0 <= e.1 /\ e.1 < e.2 /\ e.2 < (N : Int)) : ∀ (k i : Nat) (A : List Nat),i + k = Es.length -> A.length = N -> Small A -> aW au 0 (.loop Ug) ⟨[(3,.own 1 (us A)),(10,.list 2 (dO Es)),(11,.int .i64 Es.length),(12,.int .i64 i)],[]⟩ =
  some (.exit 0,⟨[(3,.own 1 (us (kC (Es.drop i) A))),(10,.list 2 (dO Es)),(11,.int .i64 Es.length),(12,.int .i64 Es.length),(13,.bool false)],[]⟩)
 | 0,i,A,hi,hA,hS => by
   obtain rfl : i = Es.length := by omega
   rw [bU];exact bw (by unfold Ug; simp [Ta,S9,S8,S7,S6,S5,S4,S3,S0,kC,oV,aN,aq,aM,bp,bV,an,ak,aj,af,aE,aL,bu,bq])
 | k + 1,i,A,hi,hA,hS => by
   have bL : i < Es.length := by omega
   have h1 : (i : Int) < Es.length := by omega
   have hw := eT (i := i) (by omega);obtain ⟨u0,uv,vn⟩ := hv Es[i] (dN bL);have ih := IQ N hN Es hE hv k (i + 1) (OI A Es[i]) (by omega) (by rw [th]; exact hA) (wK hS (by omega) (by omega));rw [bk bL];have v0 : 0 <= Es[i].2 := by omega
   have un : Es[i].1 < (N : Int) := by omega
   have u0' : ¬ Es[i].1 < 0 := by omega
   have v0' : ¬ Es[i].2 < 0 := by omega
   have uN : Es[i].1.toNat < N := by omega
   have vN : Es[i].2.toNat < N := by omega
   have pu := nD (v := Es[i].1) (by omega) u0;have pv := nD (v := Es[i].2) (by omega) v0;have su := Pr (v := Es[i].1) u0 (by omega);have sv := Pr (v := Es[i].2) v0 (by omega);have su' : IntKind.u64.wrap (2 ^ (min Es[i].1.toNat 64)) = ((2 ^ Es[i].1.toNat : Nat) : Int) := by rw [<- su,Dg]
   have sv' : IntKind.u64.wrap (2 ^ (min Es[i].2.toNat 64)) = ((2 ^ Es[i].2.toNat : Nat) : Int) := by rw [<- sv,Dg]
   have gu : (us A)[Es[i].1.toNat]? = some (.int .u64 (A.getD Es[i].1.toNat 0 : Nat)) := by
    rw [pB,aI,aB (by omega)]; rfl
   have xu := iR hS Es[i].1.toNat;have ou := u64_or_nat (A.getD Es[i].1.toNat 0) (2 ^ Es[i].2.toNat) xu pv;have eu := xn A Es[i].1.toNat (A.getD Es[i].1.toNat 0 ||| 2 ^ Es[i].2.toNat);have sm : Small (A.set Es[i].1.toNat (A.getD Es[i].1.toNat 0 ||| 2 ^ Es[i].2.toNat)) := rA hS (Nat.or_lt_two_pow (n := 64) xu pv);have eln : (A.set Es[i].1.toNat (A.getD Es[i].1.toNat 0 ||| 2 ^ Es[i].2.toNat)).length = N := by rw [List.length_set]; exact hA
   have ead : kC (Es[i] :: Es.drop (i + 1)) A = kC (Es.drop (i + 1)) (OI A Es[i]) := rfl;rw [ead];have eA : OI A Es[i] = (A.set Es[i].1.toNat (A.getD Es[i].1.toNat 0 ||| 2 ^ Es[i].2.toNat)).set Es[i].2.toNat ((A.set Es[i].1.toNat (A.getD Es[i].1.toNat 0 ||| 2 ^ Es[i].2.toNat)).getD Es[i].2.toNat 0 ||| 2 ^ Es[i].1.toNat) := rfl;rw [eA] at ih ⊢;generalize hA1 : A.set Es[i].1.toNat (A.getD Es[i].1.toNat 0 ||| 2 ^ Es[i].2.toNat) = A1 at *
   have gv : (us A1)[Es[i].2.toNat]? = some (.int .u64 (A1.getD Es[i].2.toNat 0 : Nat)) := by
    rw [pB,aI,aB (by omega)]; rfl
   have ov := u64_or_nat (A1.getD Es[i].2.toNat 0) (2 ^ Es[i].1.toNat) (iR sm _) pu;have ev := xn A1 Es[i].2.toNat (A1.getD Es[i].2.toNat 0 ||| 2 ^ Es[i].1.toNat);generalize A1.getD Es[i].2.toNat 0 ||| 2 ^ Es[i].1.toNat = q at *
   generalize A.getD Es[i].1.toNat 0 ||| 2 ^ Es[i].2.toNat = p at *
   generalize A1.getD Es[i].2.toNat 0 = y at *;generalize A.getD Es[i].1.toNat 0 = x at *;generalize 2 ^ Es[i].1.toNat = pU at *;generalize 2 ^ Es[i].2.toNat = pV at *;clear pu pv xu sm eA ead hA1;have gu' : ∀ h : Es[i].1.toNat < (us A).length,(us A)[Es[i].1.toNat] = .int .u64 (x : Int) := fun h => by rw [aB h] at gu; exact dn gu
   have gv' : ∀ h : Es[i].2.toNat < (us A1).length,(us A1)[Es[i].2.toNat] = .int .u64 (y : Int) := fun h => by rw [aB h] at gv; exact dn gv
   refine (aY (s' := ⟨[(3,.own 1 (us (A1.set Es[i].2.toNat q))),(10,.list 2 (dO Es)),(11,.int .i64 Es.length),(12,.int .i64 ((i + 1 : Nat) : Int))],[]⟩) ?_).trans ih;unfold Ug;simp [Ta,S9,S8,S7,S6,S5,S4,S3,S0,h1,bL,hw,u0,v0,u0',v0',un,vn,uN,vN,su,sv,su',sv',gu,gv,gu',gv',ou,ov,eu,ev,hA,eln,dv,idx,IntKind.bits,fz,pl,AV.leaf,aN,aq,aM,bp,bV,an,ak,aj,af,aE,aL,bu,bq]
theorem YM {N : Nat} {Es : List Ed} (h : ke (N : Int) Es) (hE : Es.length < 4294967295) : br au nQ6 [.agg [.int .i64 N,.list 2 (dO Es)]] [] = some (.list 1 (us (cU N Es)),[]) := by
 rw [aV oQ6 sQ6 (aD rfl)];have hn := sa h;have hl := IQ N hn Es hE h.2.2 Es.length 0 (aF N 0) (by omega) (by simp) (fun x hx => by have := List.eq_of_mem_replicate hx; omega);rw [fY,cS] at hl;have r1 : aF N (AV.int .u64 0) = us (aF N 0) := Pd N;have n0 : ¬ (N : Int) < 0 := by omega
 have nL : (N : Int) <= 4294967296 := by omega
 have ea : kC Es (aF N 0) = cU N Es := rfl;rw [ea] at hl;have tk : (us (cU N Es)).take (cU N Es).length = us (cU N Es) := by rw [JS,dW]
 have e := (Wf h).1
 have tkr : (us (aF N 0)).take N = us (aF N 0) := by
  have := dW (l := us (aF N 0))
  rwa [dv,bW] at this
 rw [e] at tk;unfold qQ6 cQ6;simp [Ta,S9,S8,S7,S6,S5,S4,S3,S0,hl,r1,tkr,e,bW,n0,nL,dv,tk,lj,aN,aq,aM,bp,bV,an,ak,aj,af,aE,aL,bu,bq]
/- What cliques.masks and all return. -/
/- What cliques.Is, Maximal and Extend return of a graph. -/
def PJ (A : List Nat) (S : List Int) (i : Nat) : Bool := (S.take i).all fun w => (A.getD (S.getD i 0).toNat 0).testBit w.toNat
theorem shrb (M : Nat) (u : Int) (h0 : 0 <= u) (h1 : u < 64) : jz .shr (.int .u64 (M : Int)) (.int .i64 u) = some (.int .u64 ((M / 2 ^ u.toNat : Nat) : Int)) := by
 unfold jz;simp only;rw [if_neg (by omega),show min u.toNat IntKind.u64.bits = u.toNat by (show min u.toNat 64 = u.toNat); omega,powc,Int.fdiv_eq_ediv_of_nonneg _ (Int.natCast_nonneg _)];rfl
theorem oneb (M : Nat) (u : Int) (h0 : 0 <= u) (hM : M < 18446744073709551616) : jz .and (.int .u64 ((M / 2 ^ u.toNat : Nat) : Int)) (.int .u64 1) = some (.int .u64 (if M.testBit u.toNat = true then 1 else 0)) := by
 have hd : M / 2 ^ u.toNat <= M := Nat.div_le_self _ _;have h := UX (M / 2 ^ u.toNat) 1 (by omega) (by decide)
 have e : (((M / 2 ^ u.toNat) &&& 1 : Nat) : Int) = if M.testBit u.toNat = true then 1 else 0 := by
  rw [Nat.and_one_is_mod,Nat.testBit_eq_decide_div_mod_eq];by_cases k : M / 2 ^ u.toNat % 2 = 1
  ·simp [k]
  ·simp only [k,decide_false,Bool.false_eq_true,if_false]; omega
 rw [e] at h;exact h
theorem aab (A : List Nat) (hA : Small A) (S : List Int) (hS : S.length < 4294967295) (hb : ∀ v ∈ S,0 <= v /\ v < (A.length : Int)) (hA64 : A.length <= 64) (i : Nat) (hi : i < S.length) : ∀ (k j : Nat),j + k = i -> aW au 0 (.loop Nw) ⟨[(0,.list 1 (us A)),(1,.list 1 (ints S)),(6,.int .i64 (S.getD i 0)),(9,.list 1 (ints S)),(10,.int .i64 S.length),(11,.int .i64 i),(18,.list 1 (ints (S.take i))),(19,.int .i64 i),(20,.int .i64 j)],[]⟩ =
  if ((S.take i).drop j).all (fun w => (A.getD (S.getD i 0).toNat 0).testBit w.toNat) = true then some (.exit 2,⟨[(0,.list 1 (us A)),(1,.list 1 (ints S)),(6,.int .i64 (S.getD i 0)),(9,.list 1 (ints S)),(10,.int .i64 S.length),(11,.int .i64 i),(18,.list 1 (ints (S.take i))),(19,.int .i64 i),(20,.int .i64 i),(21,.bool false)],[]⟩) else some (.ret,⟨[(4,.bool false)],[]⟩)
 | 0,j,hj => by
   obtain rfl : j = i := by omega
   have : (S.take j).drop j = [] := List.drop_eq_nil_of_le (by simp; omega);rw [this,List.all_nil,if_pos rfl];exact bw (by unfold Nw; simp [zd,zc,zb,za,y0,yZ,yY,yX,yW,yV,sP,sO,aN,aq,aM,bp,bV,an,ak,aj,af,aE,aL,bu,bq])
 | k + 1,j,hj => by
   have bL : j < i := by omega
   have hlS : j < S.length := by omega
   have h1 : (j : Int) < i := by omega
   have hw := eT (i := j) (by omega);have lt : (S.take i).length = i := by simp; omega
   have ih := aab A hA S hS hb hA64 i hi k (j + 1) (by omega);have gj : (S.take i)[j]'(by omega) = S[j] := by simp
   rw [bk (by omega),List.all_cons,gj];obtain ⟨b0,b1⟩ := hb S[j] (dN hlS)
   have hSi : S.getD i 0 ∈ S := by
    rw [aI,aB hi];exact dN hi
   obtain ⟨c0,c1⟩ := hb _ hSi;have i1 := kQ (k := .i64) (i := (j : Int)) (n := i) (by omega) h1;have i2 := kQ (k := .i64) (i := S.getD i 0) (n := A.length) c0 c1
   have g2 : (us A)[(S.getD i 0).toNat]? = some (.int .u64 (A.getD (S.getD i 0).toNat 0 : Nat)) := by
    rw [pB,aI (l := A),aB (by omega)]; rfl
   have g2' : ∀ h : (S.getD i 0).toNat < (us A).length,(us A)[(S.getD i 0).toNat] = .int .u64 (A.getD (S.getD i 0).toNat 0 : Nat) := fun h => by rw [aB h] at g2; exact dn g2
   have elA := dv A;have ra := iR hA (S.getD i 0).toNat;have s1 := shrb (A.getD (S.getD i 0).toNat 0) S[j] b0 (by omega);have s2 := oneb (A.getD (S.getD i 0).toNat 0) S[j] b0 ra;have gt : (ints (S.take i))[j]? = some (.int .i64 S[j]) := by rw [aE,aB (by omega),gj]; rfl
   have gt' : ∀ h : j < (ints (S.take i)).length,(ints (S.take i))[j] = .int .i64 S[j] := fun h => by rw [aB h] at gt; exact dn gt
   have elt : (ints (S.take i)).length = i := by rw [af]; exact lt
   generalize ((A.getD (S.getD i 0).toNat 0 / 2 ^ S[j].toNat : Nat) : Int) = q1 at *;cases tb : (A.getD (S.getD i 0).toNat 0).testBit S[j].toNat with
   | true =>
     rw [tb,if_pos rfl] at s2;rw [eh];refine (aY ?_).trans ih;clear ih tb;generalize ((A.getD (S.getD i 0).toNat 0 : Nat) : Int) = p at *;generalize S.getD i 0 = sv at *;generalize us A = Z at *;generalize hT : ints (S.take i) = TT at *;have q2 : jz .eql (.int .u64 1) (.int .u64 0) = some (.bool false) := rfl;unfold Nw;simp [zd,zc,zb,za,y0,yZ,yY,yX,yW,yV,sP,sO,h1,bL,i1,i2,g2,g2',elA,gt,gt',elt,s1,s2,q2,show jz .lss (.int .i64 (j : Int)) (.int .i64 (i : Int)) = some (.bool true) from (by simp [jz,arith,h1]),show jz .add (.int .i64 (j : Int)) (.int .i64 1) = some (.int .i64 ((j + 1 : Nat) : Int)) from (by simp [jz,arith,hw]),aN,aq,aM,bp,bV,an,ak,aj,af,aE,aL,bu,bq,-jz]
   | false =>
     rw [tb,if_neg (by decide)] at s2;rw [fh,if_neg (by decide)];refine dK ?_;clear ih tb;generalize ((A.getD (S.getD i 0).toNat 0 : Nat) : Int) = p at *;generalize S.getD i 0 = sv at *;generalize us A = Z at *;generalize hT : ints (S.take i) = TT at *;have q2 : jz .eql (.int .u64 0) (.int .u64 0) = some (.bool true) := rfl;unfold Nw;simp [zd,zc,zb,za,y0,yZ,yY,yX,yW,yV,sP,sO,h1,bL,i1,i2,g2,g2',elA,gt,gt',elt,s1,s2,q2,show jz .lss (.int .i64 (j : Int)) (.int .i64 (i : Int)) = some (.bool true) from (by simp [jz,arith,h1]),aN,aq,aM,bp,bV,an,ak,aj,af,aE,aL,bu,bq,-jz]
/- What cliques.Is, Maximal and Extend return of a graph: the whole. -/
def Yx (A : List Nat) (S : List Int) : Nat -> Nat -> Bool
 | _,0 => true
 | i,k + 1 => PJ A S i && Yx A S (i + 1) k
theorem UP (A : List Nat) (hA : Small A) (S : List Int) (hS : S.length < 4294967295) (hb : ∀ v ∈ S,0 <= v /\ v < (A.length : Int)) (hA64 : A.length <= 64) : ∀ (k i : Nat),i + k = S.length -> aW au 0 (.loop Nv) ⟨[(0,.list 1 (us A)),(1,.list 1 (ints S)),(9,.list 1 (ints S)),(10,.int .i64 S.length),(11,.int .i64 i)],[]⟩ =
  if Yx A S i k = true then some (.exit 0,⟨[(0,.list 1 (us A)),(1,.list 1 (ints S)),(9,.list 1 (ints S)),(10,.int .i64 S.length),(11,.int .i64 S.length),(12,.bool false)],[]⟩) else some (.ret,⟨[(4,.bool false)],[]⟩)
 | 0,i,hi => by
   obtain rfl : i = S.length := by omega
   rw [if_pos (show Yx A S S.length 0 = true from rfl)];exact bw (by unfold Nv; simp [zd,zc,zb,za,y0,yZ,yY,yX,yW,yV,sP,sO,aN,aq,aM,bp,bV,an,ak,aj,af,aE,aL,bu,bq])
 | k + 1,i,hi => by
   have bL : i < S.length := by omega
   have h1 : (i : Int) < S.length := by omega
   have h1' : (i : Int) <= S.length := by omega
   have hw := eT (i := i) (by omega);have ih := UP A hA S hS hb hA64 k (i + 1) (by omega);have inn := aab A hA S hS hb hA64 i bL i 0 (by omega);rw [cS] at inn;have e0 : ((S.take i).all fun w => (A.getD (S.getD i 0).toNat 0).testBit w.toNat) = PJ A S i := rfl;rw [e0,fY] at inn;have i1 := kQ (k := .i64) (i := (i : Int)) (n := S.length) (by omega) h1;have gi : (ints S)[i]? = some (.int .i64 (S.getD i 0)) := by rw [aE,aI,aB bL]; rfl
   have gi' : ∀ h : i < (ints S).length,(ints S)[i] = .int .i64 (S.getD i 0) := fun h => by rw [aB h] at gi; exact dn gi
   have ti := bY S i;have lt : (ints (S.take i)).length = i := by rw [af]; simp; omega
   have ek : Yx A S i (k + 1) = (PJ A S i && Yx A S (i + 1) k) := rfl;rw [ek];cases q : PJ A S i with
   | true =>
     rw [q,if_pos rfl] at inn;rw [eh];refine (aY ?_).trans ih;clear ih ek q e0;generalize us A = Z at *;generalize S.getD i 0 = sv at *;generalize ints (S.take i) = TT at *;unfold Nv;simp [zd,zc,zb,za,y0,yZ,yY,yX,yW,yV,sP,sO,h1,h1',bL,hw,i1,gi,gi',ti,lt,inn,Nat.le_of_lt bL,aN,aq,aM,bp,bV,an,ak,aj,af,aE,aL,bu,bq]
   | false =>
     rw [q,if_neg (by decide)] at inn;rw [fh,if_neg (by decide)];refine dK ?_;clear ih ek q e0;generalize us A = Z at *;generalize S.getD i 0 = sv at *;generalize ints (S.take i) = TT at *;unfold Nv;simp [zd,zc,zb,za,y0,yZ,yY,yX,yW,yV,sP,sO,h1,h1',bL,hw,i1,gi,gi',ti,lt,inn,Nat.le_of_lt bL,aN,aq,aM,bp,bV,an,ak,aj,af,aE,aL,bu,bq]
theorem TB {A : List Nat} {S : List Int} : ∀ (k i : Nat),Yx A S i k = true ↔ ∀ j,i <= j -> j < i + k -> PJ A S j = true
 | 0,i => ⟨fun _ j h1 h2 => by omega,fun _ => rfl⟩
 | k + 1,i => by
   unfold Yx;rw [ae,TB k (i + 1)];constructor
   ·rintro ⟨h1,h2⟩ j h3 h4;by_cases e : j = i
    ·rw [e]; exact h1
    ·exact h2 j (by omega) (by omega)
   ·intro h;exact ⟨h i (by omega) (by omega),fun j h3 h4 => h j (by omega) (by omega)⟩
theorem agn {N : Nat} {Es : List Ed} (h : ke (N : Int) Es) {S : List Int} (hb : ∀ v ∈ S,0 <= v /\ v < (N : Int)) : Yx (cU N Es) S 0 S.length = true ↔ S.Pairwise (jn Es) := by
 rw [TB,List.pairwise_iff_getElem]
 have key : ∀ (i j : Nat) (hi : i < S.length) (hj : j < S.length),((cU N Es).getD (S.getD j 0).toNat 0).testBit S[i].toNat = true ↔ jn Es S[i] S[j] := by
  intro i j hi hj;have ej : S.getD j 0 = S[j] := by rw [aI,aB hj]; rfl
  have bi := hb S[i] (dN hi);have bj := hb S[j] (dN hj);rw [ej,LL h bj.1,show ((S[i].toNat : Nat) : Int) = S[i] by omega];exact ⟨CZ,CZ⟩
 constructor
 ·intro k i j hi hj CC;have := k j (by omega) (by omega);unfold PJ at this;rw [lr] at this;exact (key i j hi hj).1 (this S[i] (JQ.2 ⟨i,by omega,rfl⟩))
 ·intro k j _ hj;have hj : j < S.length := by omega
  unfold PJ;rw [lr];intro w hw;obtain ⟨i,hi,rfl⟩ := JQ.1 hw;have Wa : i < j /\ i < S.length := by omega
  exact (key i j Wa.2 hj).2 (k i j Wa.2 hj Wa.1)
def isB (N : Nat) (Es : List Ed) (S : List Int) : Bool := mf (N : Int) (-1) S && decide (S.Pairwise (jn Es))
theorem abS {N : Nat} {Es : List Ed} {S : List Int} : isB N Es S = true ↔ OK N Es S := by
 unfold isB;rw [ae,decide_eq_true_eq,vT];constructor
 ·rintro ⟨⟨h1,h2⟩,h3⟩;exact ⟨h1,fun x hx => (h2 x hx).2,h3⟩
 ·rintro ⟨h1,h2,h3⟩;exact ⟨⟨h1,fun x hx => by have := h2 x hx; omega⟩,h3⟩
theorem agK {N : Nat} {Es : List Ed} (h : ke (N : Int) Es) (hE : Es.length < 4294967295) (S : List Int) (hS : S.length < 4294967295) : br au nQG [.agg [.int .i64 N,.list 2 (dO Es)],.list 1 (ints S)] [] = some (.bool (isB N Es S),[]) := by
 rw [aV oQG sQG (aD rfl)];have c1 := nJ (N : Int) Es (by omega);rw [iw.2 h] at c1;have v := PL (N : Int) S (by omega);have m := YM h hE;unfold isB;by_cases k : mf (N : Int) (-1) S = true
 ·have hb : ∀ v ∈ S,0 <= v /\ v < (N : Int) := fun x hx => (((vT (N : Int)).1 k).2 x hx).2;have ga := Wf h;have hn := sa h;have cl := UP (cU N Es) ga.2.1 S hS (by rw [ga.1]; exact hb) (by rw [ga.1]; exact hn) S.length 0 (by omega);rw [fY] at cl
  have Ov : br au nQ5 [.list 1 (us (cU N Es)),.list 1 (ints S)] [] = some (.bool (Yx (cU N Es) S 0 S.length),[]) := by
   rw [aV oQ5 sQ5 (aD rfl)];cases q : Yx (cU N Es) S 0 S.length with
   | true =>
     rw [q,if_pos rfl] at cl;generalize us (cU N Es) = Z at *;unfold qQ5 cQ5;simp [zd,zc,zb,za,y0,yZ,yY,yX,yW,yV,sP,sO,cl,aN,aq,aM,bp,bV,an,ak,aj,af,aE,aL,bu,bq]
   | false =>
     rw [q,if_neg (by decide)] at cl;generalize us (cU N Es) = Z at *;unfold qQ5 cQ5;simp [zd,zc,zb,za,y0,yZ,yY,yX,yW,yV,sP,sO,cl,aN,aq,aM,bp,bV,an,ak,aj,af,aE,aL,bu,bq]
  have e : Yx (cU N Es) S 0 S.length = decide (S.Pairwise (jn Es)) := by
   rw [Bool.eq_iff_iff,decide_eq_true_eq]; exact agn h hb
  rw [e] at Ov;rw [k] at v;rw [k,eh];clear cl e;generalize decide (S.Pairwise (jn Es)) = d at *;generalize us (cU N Es) = Z at *;unfold qQG cQG;cases d <;> simp [X3,X2,c1,v,m,Ov,sQs,iQs,lQs,sQ4,iQ4,lQ4,sQ6,iQ6,lQ6,sQ5,iQ5,lQ5,ak,aj,Wt,aN,aq,aM,bp,bV,an,ak,aj,af,aE,aL,bu,bq]
 ·have k : mf (N : Int) (-1) S = false := by simpa using k
  rw [k] at v;rw [k,fh];unfold qQG cQG;simp [X3,X2,c1,v,sQs,iQs,lQs,sQ4,iQ4,lQ4,ak,aj,aN,aq,aM,bp,bV,an,ak,aj,af,aE,aL,bu,bq]
def maxB (N : Nat) (Es : List Ed) (S : List Int) : Bool := (!decide (S = [])) && (isB N Es S && decide (cn N Es S = 0))
/- Largest cliques and maximal ones: plain. -/
theorem Yz {X : List Int} (h : ∀ x ∈ X,0 <= x) : nz (X.map Int.toNat) = X := by
 induction X with
 | nil => rfl
 | cons x r ih =>
   have := h x (by simp);have ih := ih fun y hy => h y (by simp [hy]);unfold nz at ih ⊢;simp only [List.map_cons];rw [ih,show ((x.toNat : Nat) : Int) = x by omega]
theorem agL {N : Nat} {E : List Ed} {X : List Int} (h : OK N E X) : QS N E (X.map Int.toNat) /\ nz (X.map Int.toNat) = X := by
 have h0 : ∀ x ∈ X,0 <= x := fun x hx => (h.bd x hx).1;refine ⟨⟨?_,fun x hx => ?_⟩,Yz h0⟩
 ·rw [List.pairwise_map];refine List.Pairwise.imp_of_mem ?_ (h.up.and h.ad);intro a b ha hb k;have a0 := h0 a ha;have b0 := h0 b hb;have := k.1;refine ⟨by omega,?_⟩;rw [show ((a.toNat : Nat) : Int) = a by omega,show ((b.toNat : Nat) : Int) = b by omega];exact k.2
 ·obtain ⟨y,hy,rfl⟩ := List.mem_map.1 hx;have := h.bd y hy;omega
section
variable {N : Nat} {E : List Ed} (h : ke (N : Int) E)
include h
end
/- What maxclique.Above returns. -/
set_option maxHeartbeats 8000000
theorem U5 (A : List Nat) (hA : Small A) (n : Int) (l : List Int) (hl : l.length < 4294967295) (hb : ∀ v ∈ l,0 <= v /\ v < (A.length : Int)) : ∀ (k i m : Nat),i + k = l.length -> m < 18446744073709551616 -> aW au 0 (.loop T6) ⟨[(1,.list 1 (ints l)),(2,.int .i64 n),(9,.list 1 (us A)),(10,.int .u64 m),(28,.list 1 (ints l)),(29,.int .i64 l.length),(30,.int .i64 i)],[]⟩ =
  some (.exit 0,⟨[(1,.list 1 (ints l)),(2,.int .i64 n),(9,.list 1 (us A)),(10,.int .u64 (Bf A m (l.drop i) : Nat)),(28,.list 1 (ints l)),(29,.int .i64 l.length),(30,.int .i64 l.length),(31,.bool false)],[]⟩)
 | 0,i,m,hi,hm => by
   obtain rfl : i = l.length := by omega
   rw [bU];exact bw (by unfold T6; simp [R6,R5,R4,R0,RZ,RY,RX,RW,RV,RU,J7,J6,J5,J4,Bf,oV,aN,aq,aM,bp,bV,an,ak,aj,af,aE,aL,bu,bq])
 | k + 1,i,m,hi,hm => by
   have bL : i < l.length := by omega
   have h1 : (i : Int) < l.length := by omega
   have hw := eT (i := i) (by omega);obtain ⟨b0,b1⟩ := hb l[i] (dN bL);have ra := iR hA l[i].toNat;have w2 := u64_and_nat m (A.getD l[i].toNat 0) hm ra;have ih := U5 A hA n l hl hb k (i + 1) (m &&& A.getD l[i].toNat 0) (by omega) (Nat.lt_of_le_of_lt Nat.and_le_left hm);rw [bk bL];have e : Bf A m (l[i] :: l.drop (i + 1)) = Bf A (m &&& A.getD l[i].toNat 0) (l.drop (i + 1)) := rfl;rw [e];refine (aY ?_).trans ih;clear ih e;have i1 := kQ (k := .i64) (i := (i : Int)) (n := l.length) (by omega) h1;have i2 := kQ (k := .i64) (i := l[i]) (n := A.length) b0 b1
   have g2 : (us A)[l[i].toNat]? = some (.int .u64 (A.getD l[i].toNat 0 : Nat)) := by
    rw [pB,aI,aB (by omega)]; rfl
   have g2' : ∀ h : l[i].toNat < (us A).length,(us A)[l[i].toNat] = .int .u64 (A.getD l[i].toNat 0 : Nat) := fun h => by rw [aB h] at g2; exact dn g2
   have elA := dv A;generalize ((m &&& A.getD l[i].toNat 0 : Nat) : Int) = q at *;generalize ((A.getD l[i].toNat 0 : Nat) : Int) = p at *;generalize us A = Z at *;generalize (m : Int) = X at *;unfold T6;simp [R6,R5,R4,R0,RZ,RY,RX,RW,RV,RU,J7,J6,J5,J4,h1,bL,hw,i1,i2,g2,g2',elA,w2,aN,aq,aM,bp,bV,an,ak,aj,af,aE,aL,bu,bq]
theorem WM {N : Nat} {Es : List Ed} (h : ke (N : Int) Es) (hN : N <= 63) (hE : Es.length < 1000000) (s : List Int) (hs : s.length <= 64) (hb : isB N Es s = true) : ∃ r,Rg (cU N Es) 0 (cn N Es s) 0 r /\ ∀ n : Int,br au TU [.agg [.int .i64 N,.list 2 (dO Es)],.list 1 (ints s),.int .i64 n] [] = some (.dB [.bool (decide (n <= (s.length : Int) + r)),.int .i64 0],[]) := by
 have ck := nJ (N : Int) Es (by omega);rw [iw.2 h] at ck;have q := agK h (by omega) s (by omega);rw [hb] at q;have hc := abS.1 hb;have mk := IX h (by omega);obtain ⟨eN,hS,_⟩ := iG h;have hA := U4 h;have hp := MB (v := N) (by omega);have C4 : 0 < 2 ^ N := Nat.two_pow_pos N;have e : Bf (cU N Es) (2 ^ N - 1) s = cn N Es s := rfl;have cl := Cl h s;obtain ⟨r,g1,g2⟩ := vf hS hA (cn N Es s) cl (fun j hj => by rw [eN]; exact ((ye h (fun x hx => (hc.bd x hx).1) j).1 hj).1) 0;refine ⟨r,g1,fun n => ?_⟩;have lp := U5 (cU N Es) hS n s (by omega) (by rw [eN]; exact hc.bd) s.length 0 (2 ^ N - 1) (by omega) (by omega);rw [fY,cS,e] at lp;have r0 : 0 <= r := g1.1
 have r1 : r <= 64 := by
  rcases g1.2.2 with k | ⟨T,t1,t2,t3⟩
  ·omega
  ·have := La cl t1 t2;have e2 : ((List.range 64).filter fun j => (cn N Es s).testBit j).length = jQ (cn N Es s) := rfl;have := AJ (cn N Es s);omega
 have wr : IntKind.i64.wrap ((s.length : Int) + r) = s.length + r := gK (by omega) (by omega);obtain ⟨s1,s2⟩ := Ml (v := N) (by omega);have s3 := s1;rw [Nat.min_eq_left (show N <= 64 by omega)] at s3;have d1 : IntKind.u64.wrap (((2 ^ N : Nat) : Int) - 1) = ((2 ^ N - 1 : Nat) : Int) := decU (by omega) hp;have nn : ¬ (N : Int) < 0 := by omega
 have n0 : (0 : Int) <= N := by omega
 have n6 : N <= 64 := by omega
 rw [aV oQl sQl (aD rfl)];unfold qQl cQl;clear g1 hS hA eN C4 h hc e;generalize cn N Es s = C at *;generalize (2 ^ N - 1 : Nat) = M at *;generalize (2 ^ N : Nat) = M2 at *;generalize us (cU N Es) = AA at *;simp [R6,R5,R4,R0,RZ,RY,RX,RW,RV,RU,J7,J6,J5,J4,ck,q,mk,g2,lp,wr,s1,s2,s3,d1,nn,n0,n6,lj,IntKind.bits,fY,gz,pl,sQs,iQs,lQs,sQG,iQG,lQG,sQt,iQt,lQt,sQu,iQu,lQu,Int.toNat_natCast,ak,aj,aN,aq,aM,bp,bV,an,ak,aj,af,aE,aL,bu,bq]
end Go.BmP
