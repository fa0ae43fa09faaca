/- core.peel: the nodes one after the other; the buckets at the start. -/
import Derived.Test.YtppmiehidnpgbaaGreatDoorUseM
import Derived.Test.YtppmiehidnpgbaaGreatDoorPeB
import Derived.Test.YtppmiehidnpgbaaGreatDoorX11
import Derived.Test.YtppmiehidnpgbaaGreatDoorCoV
import Derived.Test.YtppmiehidnpgbaaGreatDoorRunX
import Derived.Test.YtppmiehidnpgbaaGreatDoorRvG
set_option linter.unusedSimpArgs false
set_option linter.unusedVariables false
set_option maxRecDepth 100000
set_option maxHeartbeats 8000000
open List renaming length_filter_le → O8, length_range → nj, length_replicate → bW, length_set → cJ, mem_map → eZ, mem_range → di, nodup_range → Hk, range → cH, replicate → aF, take_of_length_le → du
open Nat renaming eq_of_testBit_eq → Ad, le_of_ble_eq_true → aD, pow_le_pow_right → jK, pow_lt_pow_right → qC, testBit_and → bI, two_pow_pos → L4
namespace Go.BmP
open Go.Am Go.Bm
theorem abc (m : Nat) (h : m < 18446744073709551616) : br au nQU [.int .u64 m] [] = some (.int .i64 (jQ m : Nat),[]) := by
 rw [MK];have := Th m h;rw [show pcE (m : Int) = pxE (m : Int) from rfl,this]
theorem afS (m : Nat) (h : m < 18446744073709551616) : br au P1 [.int .u64 m] [] = some (.int .i64 (jQ m : Nat),[]) := by
 have o := abc m h;rw [aV oQa7 sQa7 (aD rfl)];generalize ((jQ m : Nat) : Int) = p at *;generalize (m : Int) = x at *;unfold qQa7 cQa7;simp [XZ,XY,o,aN,bu,bq,sQU,iQU,lQU]
def jk9 (J : Env) : Prop := J = [] \/ ∃ W : List Nat,J = [(90,.list 1 (ints (ns W))),(91,.int .i64 W.length),(92,.int .i64 W.length),(93,.bool false)]
theorem afR (N : Int) (Y : List AV) (O L : List Int) (A D B : List Nat) (k : Int) (J : Env) (hJ : jk9 J) : aW au 2 B6 (sQ N Y O L A D B 0 k J) = some (.exit 2,sQ N Y O L A D B 0 k [(50,.bool false)]) := by
 obtain ⟨x1,x2,x3,x4,x5,x6,_⟩ := xj B;unfold sQ u4;rw [fY];generalize us B = U1 at *;generalize ints (ns D) = D1 at *;generalize ints O = O1 at *;generalize ints L = L1 at *;generalize us A = A1 at *;rcases hJ with rfl | ⟨W,rfl⟩
 ·unfold B6;simp [tK,tJ,tI,tH,tG,tF,tE,tD,tC,tB,oL,oK,oJ,oI,oH,oG,oF,oE,oD,oC,oB,oA,ox,ot,oq,oi,oh,oe,od,ob,oa,n9,n8,x1,x2,x3,x4,x6,aN]
 ·generalize ints (ns W) = W1 at *;unfold B6;simp [tK,tJ,tI,tH,tG,tF,tE,tD,tC,tB,oL,oK,oJ,oI,oH,oG,oF,oE,oD,oC,oB,oA,ox,ot,oq,oi,oh,oe,od,ob,oa,n9,n8,x1,x2,x3,x4,x6,aN]
theorem abd (N : Int) (Y : List AV) (O L O' L' : List Int) (A D B D' B' : List Nat) (k k' : Int) (m m' : Nat) (h0 : m ≠ 0) (W : List Nat) (J : Env) (hJ : jk9 J) (h : aW au 2 (.loop F6) (sQ N Y O L A D B m k [(51,.int .i64 0)]) = some (.exit 3,sQ N Y O' L' A D' B' m' k' [(90,.list 1 (ints (ns W))),(91,.int .i64 W.length),(92,.int .i64 W.length),(93,.bool false)])) : aW au 2 B6 (sQ N Y O L A D B m k J) = some (.normal,sQ N Y O' L' A D' B' m' k' [(90,.list 1 (ints (ns W))),(91,.int .i64 W.length),(92,.int .i64 W.length),(93,.bool false)]) := by
 have m0 : ¬ ((m : Int) = 0) := by omega
 obtain ⟨x1,x2,x3,x4,x5,x6,_⟩ := xj B;unfold sQ u4 at *;generalize us B' = U2 at *;generalize us B = U1 at *;generalize ints (ns D') = D2 at *;generalize ints (ns D) = D1 at *;generalize ints O' = O2 at *;generalize ints O = O1 at *;generalize ints L' = L2 at *;generalize ints L = L1 at *;generalize us A = A1 at *;generalize (m : Int) = X at *;rcases hJ with rfl | ⟨V,rfl⟩
 ·generalize ints (ns W) = W1 at *;unfold B6;simp [tK,tJ,tI,tH,tG,tF,tE,tD,tC,tB,oL,oK,oJ,oI,oH,oG,oF,oE,oD,oC,oB,oA,ox,ot,oq,oi,oh,oe,od,ob,oa,n9,n8,h,m0,h0,x1,x2,x3,x4,x6,aN]
 ·generalize ints (ns W) = W1 at *;generalize ints (ns V) = V1 at *;unfold B6;simp [tK,tJ,tI,tH,tG,tF,tE,tD,tC,tB,oL,oK,oJ,oI,oH,oG,oF,oE,oD,oC,oB,oA,ox,ot,oq,oi,oh,oe,od,ob,oa,n9,n8,h,m0,h0,x1,x2,x3,x4,x6,aN]
theorem Fj : ∀ (o ds : List Nat) (k : Nat) (L : List Int),(lk o ds k L).length = L.length
 | [],_,_,_ => by unfold lk; rfl
 | v :: o,[],_,_ => by unfold lk; rfl
 | v :: o,d :: ds,k,L => by unfold lk; rw [Fj,cJ]
theorem afP (N : Nat) (Y : List AV) (A : List Nat) (hN : N <= 64) (hS : SymA A) (hI : ∀ a,(A.getD a 0).testBit a = false) (hA : A.length = N) (Qt : Small A) : ∀ (m : Nat) (O L : List Int) (D B : List Nat) (k : Nat) (J : Env),jk9 J -> Pst A N m D B -> O.length + jQ m <= 64 -> L.length = N ->
  ∃ (o ds D' B' : List Nat) (k' : Nat),lh A m o ds /\ aW au 2 (.loop B6) (sQ N Y O L A D B m k J) = some (.exit 2,sQ N Y (O ++ ns o) (lk o ds k L) A D' B' 0 (k' : Int) [(50,.bool false)]) := by
 intro m
 induction m using Nat.strongRecOn with
 | ind m ih =>
   intro O L D B k J hJ hP hO hL;by_cases h0 : m = 0
   ·subst h0;refine ⟨[],[],D,B,k,.nil,?_⟩;have : O ++ ns [] = O := by simp [ns]
    rw [this];exact bw (afR N Y O L A D B k J hJ)
   ·obtain ⟨d,d1,d2,d3⟩ := VA hP hN h0;obtain ⟨hp,vN,_⟩ := Mz hP hN d1 d2 d3;have pc := Yf (m := m) (a := m) hP.lt hp.1;rw [if_pos ⟨hp.2.1,hp.2.1⟩,Nat.and_self] at pc
    have e1 : wo m (tz (B.getD d 0)) &&& m = wo m (tz (B.getD d 0)) := by
     apply Ad;intro j;rw [bI,eU hP.lt hp.1];cases m.testBit j <;> simp
    rw [e1] at pc;have pp := KJ hp.1 hp.2.1;obtain ⟨D',B',W,s1,s2⟩ := Tn N Y O L A D B hN m hS hI hA Qt hP k d d1 d2 d3 (by omega) hL d 0 (by omega);obtain ⟨o,ds,D2,B2,k2,r1,r2⟩ := ih (wo m (tz (B.getD d 0))) (Q8 hP.lt hp.1 hp.2.1) (O ++ [((tz (B.getD d 0) : Nat) : Int)]) (L.set (tz (B.getD d 0)) ((max k d : Nat) : Int)) D' B' (max k d) _ (.inr ⟨W,rfl⟩) s1 (by rw [List.length_append,List.length_singleton]; omega) (by rw [cJ,hL]);refine ⟨tz (B.getD d 0) :: o,d :: ds,D2,B2,k2,.cons hp r1,?_⟩;have e2 : O ++ ns (tz (B.getD d 0) :: o) = O ++ [((tz (B.getD d 0) : Nat) : Int)] ++ ns o := by simp [ns]
    rw [e2];exact (aY (abd N Y O L _ _ A D B D' B' k _ m _ h0 W J hJ s2)).trans r2
/-! The start -/
theorem lQ (n j : Nat) : (2 ^ n - 1).testBit j = decide (j < n) := Nat.testBit_two_pow_sub_one n j
theorem abe {x i : Nat} (hi : i < 64) (h : x.testBit i = false) : jQ x < 64 := by
 unfold jQ
 have e : ((cH 64).filter fun j => x.testBit j) = (((cH 64).erase i).filter fun j => x.testBit j) := by
  rw [List.Nodup.erase_eq_filter Hk,List.filter_filter];congr 1;funext j;by_cases q : j = i
  ·subst q; simp [h]
  ·simp [q]
 rw [e];have h1 := O8 (fun j => x.testBit j) ((cH 64).erase i);rw [List.length_erase_of_mem (di.2 hi),nj] at h1;omega
theorem abf {N i : Nat} {D B : List Nat} (h : U6 N (2 ^ i - 1) D B) (hN : N <= 64) (hi : i < N) {c : Nat} (hc : c < 64) : U6 N (2 ^ (i + 1) - 1) (D.set i c) (B.set c (B.getD c 0 ||| 2 ^ i)) := by
 have hp : 2 ^ i < 18446744073709551616 := qC (by decide) (by omega : i < 64);have gB : ∀ d,(B.set c (B.getD c 0 ||| 2 ^ i)).getD d 0 = if d = c then B.getD c 0 ||| 2 ^ i else B.getD d 0 := fun d => kI _ _ _ _ (by rw [h.sW]; exact hc)
 have gD : ∀ j,(D.set i c).getD j 0 = if j = i then c else D.getD j 0 := fun j => kI _ _ _ _ (by rw [h.Hv]; exact hi);refine ⟨by rw [cJ,h.Hv],by rw [cJ,h.sW],fun d => ?_,fun d j hd => ?_,fun j hj => ?_,fun v => ?_⟩
 ·rw [gB];split
  ·exact Nat.or_lt_two_pow (n := 64) (h.sm c) hp
  ·exact h.sm d
 ·rw [gB,gD,lQ];by_cases q : d = c
  ·subst q;rw [if_pos rfl,Nat.testBit_or,Nat.testBit_two_pow,h.bit d j hd,lQ];by_cases z : j = i
   ·subst z;rw [if_pos rfl]; simp
   ·rw [if_neg z];have z' : ¬ i = j := fun k => z k.symm;have : decide (j < i + 1) = decide (j < i) := by apply decide_eq_decide.2; omega
    rw [this];simp [z']
  ·rw [if_neg q,h.bit d j hd,lQ];by_cases z : j = i
   ·subst z;rw [if_pos rfl];have : ¬ c = d := fun k => q k.symm;simp [this]
   ·rw [if_neg z];have : decide (j < i + 1) = decide (j < i) := by apply decide_eq_decide.2; omega
    rw [this]
 ·rw [lQ] at hj;have := of_decide_eq_true hj;omega
 ·rw [gD];split
  ·exact hc
  ·exact h.Wo v
def Qw (N : Int) (Y : List AV) (A D B : List Nat) (n i : Int) (J : Env) : St := ⟨(2,.own 1 []) :: (4,.list 1 (us A)) :: (5,.ptr 2 0) :: (6,.own 1 (ints (ns D))) :: (20,.list 1 (us A)) :: (21,.int .i64 n) :: (22,.int .i64 i) :: J,[u4 N Y,u4 N Y,some (us B)]⟩
theorem ZQ (N : Int) (Y : List AV) (A D B : List Nat) (hA : A.length <= 64) (Qt : Small A) (i : Nat) (hi : i < A.length) (lD : D.length = A.length) (lB : B.length = 64) (sm : ∀ d,B.getD d 0 < 18446744073709551616) (hc : jQ (A.getD i 0) < 64) : aW au 2 Nq (Qw N Y A D B A.length i []) = some (.normal,Qw N Y A (D.set i (jQ (A.getD i 0))) (B.set (jQ (A.getD i 0)) (B.getD (jQ (A.getD i 0)) 0 ||| 2 ^ i)) A.length ((i + 1 : Nat) : Int) []) := by
 have i1 : (i : Int) < A.length := by omega
 have wr := eT (i := i) (by omega);have hg := iR Qt i;have mc := afS _ hg;have gA : ∀ q,(us A)[i]'q = .int .u64 (A.getD i 0 : Nat) := fun q => Pe A i hi q;have lA := dv A;have lDD : (ints (ns D)).length = A.length := by rw [af,iv,lD]
 have sD := (YC D i (jQ (A.getD i 0))).symm;have lDD2 : (ints (ns (D.set i (jQ (A.getD i 0))))).length = A.length := by rw [af,iv,cJ,lD]
 have gD2 : ∀ h,(ints (ns (D.set i (jQ (A.getD i 0)))))[i]'h = .int .i64 (jQ (A.getD i 0) : Nat) := fun h => by
  rw [YD _ i (by rw [cJ,lD]; exact hi),kI _ _ _ _ (by rw [lD]; exact hi),if_pos rfl]
 have mb := FP i (by omega);have hp : 2 ^ i < 18446744073709551616 := qC (by decide) (by omega : i < 64);have a2 := u64_or_nat (B.getD (jQ (A.getD i 0)) 0) (2 ^ i) (sm _) hp;obtain ⟨c1,c2⟩ := zX B (jQ (A.getD i 0)) (B.getD (jQ (A.getD i 0)) 0 ||| 2 ^ i) (by omega);have n1 := zE B;have lu : (us B).length = 64 := by rw [dv,lB]
 obtain ⟨x1,x2,x3,x4,x5,x6,_⟩ := xj B;obtain ⟨y1,y2,y3,y4,y5,y6,_⟩ := xj (B.set (jQ (A.getD i 0)) (B.getD (jQ (A.getD i 0)) 0 ||| 2 ^ i));have e1 : ((jQ (A.getD i 0) : Nat) : Int) < 64 := by omega
 have e2 : jQ (A.getD i 0) <= 63 := by omega
 unfold Qw u4;generalize B.getD (jQ (A.getD i 0)) 0 ||| 2 ^ i = z1 at *
 generalize B.getD (jQ (A.getD i 0)) 0 = z2 at *;generalize us (B.set (jQ (A.getD i 0)) z1) = U2 at *;generalize us B = U1 at *;generalize ints (ns (D.set i (jQ (A.getD i 0)))) = D2 at *;generalize ints (ns D) = D1 at *;clear hg sm hp;generalize jQ (A.getD i 0) = c at *;generalize A.getD i 0 = z5 at *;generalize us A = A1 at *;generalize 2 ^ i = p2 at *;unfold Nq;simp [tK,tJ,tI,tH,tG,tF,tE,tD,tC,tB,oL,oK,oJ,oI,oH,oG,oF,oE,oD,oC,oB,oA,ox,ot,oq,oi,oh,oe,od,ob,oa,n9,n8,i1,hi,wr,mc,gA,lA,lDD,lDD2,gD2,sD,mb,a2,c1,c2,n1,lu,e1,hc,e2,x1,x2,x3,x4,x6,y1,y2,y3,y4,y6,idx,aN,IntKind.bits,sQa8,iQa8,lQa8,sQa7,iQa7,lQa7]
theorem UD (N : Nat) (Y : List AV) (A : List Nat) (hN : N <= 64) (hA : A.length = N) (Qt : Small A) (hI : ∀ a,(A.getD a 0).testBit a = false) : ∀ (c i : Nat) (D B : List Nat),i + c = N -> U6 N (2 ^ i - 1) D B -> (∀ j,j < i -> D.getD j 0 = jQ (A.getD j 0)) -> ∃ D' B',U6 N (2 ^ N - 1) D' B' /\ (∀ j,j < N -> D'.getD j 0 = jQ (A.getD j 0)) /\ aW au 2 (.loop Nq) (Qw N Y A D B N i []) = some (.exit 0,Qw N Y A D' B' N N [(23,.bool false)])
 | 0,i,D,B,hc,hP,hD => by
   obtain rfl : i = N := by omega
   refine ⟨D,B,hP,hD,bw ?_⟩;obtain ⟨x1,x2,x3,x4,x5,x6,_⟩ := xj B;unfold Qw u4;generalize us B = U1 at *;generalize ints (ns D) = D1 at *;generalize us A = A1 at *;unfold Nq;simp [tK,tJ,tI,tH,tG,tF,tE,tD,tC,tB,oL,oK,oJ,oI,oH,oG,oF,oE,oD,oC,oB,oA,ox,ot,oq,oi,oh,oe,od,ob,oa,n9,n8,x1,x2,x3,x4,x6,aN]
 | c + 1,i,D,B,hc,hP,hD => by
   have hi : i < N := by omega
   have hcn := abe (x := A.getD i 0) (i := i) (by omega) (hI i);have r := ZQ N Y A D B (by omega) Qt i (by omega) (by rw [hP.Hv,hA]) hP.sW hP.sm hcn;rw [hA] at r
   obtain ⟨D',B',h1,h2,h3⟩ := UD N Y A hN hA Qt hI c (i + 1) _ _ (by omega) (abf hP hN hi hcn) fun j hj => by
    rw [kI _ _ _ _ (by rw [hP.Hv]; exact hi)];split
    ·rename_i e; rw [e]
    ·exact hD j (by omega)
   exact ⟨D',B',h1,h2,(aY r).trans h3⟩
theorem X8 {A : List Nat} {N : Nat} {D B : List Nat} (hN : N <= 64) (hb : ∀ a j,(A.getD a 0).testBit j = true -> j < N) (h : U6 N (2 ^ N - 1) D B) (hD : ∀ j,j < N -> D.getD j 0 = jQ (A.getD j 0)) : Pst A N (2 ^ N - 1) D B := by
 have hp : 2 ^ N <= 2 ^ 64 := jK (by decide) hN;refine ⟨h,by have : (2:Nat) ^ 64 = 18446744073709551616 := rfl; have := L4 N; omega,fun j hj => ?_⟩;rw [lQ] at hj;rw [hD j (of_decide_eq_true hj)];unfold QG;congr 1;apply Ad;intro i;rw [bI,lQ];cases e : (A.getD j 0).testBit i with
 | false => simp
 | true => simp [hb j i e]
theorem Yg (N : Nat) : U6 N (2 ^ 0 - 1) (aF N 0) (aF 64 0) := by
 have g : ∀ n v,(aF n 0).getD v 0 = 0 := fun n v => by rw [List.getD_eq_getElem?_getD,List.getElem?_replicate]; split <;> rfl
 refine ⟨bW,bW,fun d => by rw [g]; decide,fun d j hd => ?_,fun j hj => ?_,fun v => by rw [g]; decide⟩
 ·rw [g,lQ]; simp
 ·rw [lQ] at hj; simp at hj
/- core.peel, core.Order, maxclique.Colours. -/
theorem aeU : us (aF 64 0) = [.int .u64 0,.int .u64 0,.int .u64 0,.int .u64 0,.int .u64 0,.int .u64 0,.int .u64 0,.int .u64 0,.int .u64 0,.int .u64 0,.int .u64 0,.int .u64 0,.int .u64 0,.int .u64 0,.int .u64 0,.int .u64 0,.int .u64 0,.int .u64 0,.int .u64 0,.int .u64 0,.int .u64 0,.int .u64 0,.int .u64 0,.int .u64 0,.int .u64 0,.int .u64 0,.int .u64 0,.int .u64 0,.int .u64 0,.int .u64 0,.int .u64 0,.int .u64 0,.int .u64 0,.int .u64 0,.int .u64 0,.int .u64 0,.int .u64 0,.int .u64 0,.int .u64 0,.int .u64 0,.int .u64 0,.int .u64 0,.int .u64 0,.int .u64 0,.int .u64 0,.int .u64 0,.int .u64 0,.int .u64 0,.int .u64 0,.int .u64 0,.int .u64 0,.int .u64 0,.int .u64 0,.int .u64 0,.int .u64 0,.int .u64 0,.int .u64 0,.int .u64 0,.int .u64 0,.int .u64 0,.int .u64 0,.int .u64 0,.int .u64 0,.int .u64 0] := rfl
theorem Bk {N : Nat} {Es : List Ed} (h : ke (N : Int) Es) : SymA (cU N Es) /\ (∀ a,((cU N Es).getD a 0).testBit a = false) /\ ∀ a j,((cU N Es).getD a 0).testBit j = true -> j < N := by
 obtain ⟨_,_,hb⟩ := iG h;refine ⟨fun a b => ?_,fun a => ?_,fun a j hj => ?_⟩
 ·rw [hb,hb,Bool.or_comm]
 ·rw [hb];cases e : (decide (((a : Int),(a : Int)) ∈ Es) || decide (((a : Int),(a : Int)) ∈ Es)) with
  | false => rfl
  | true =>
    simp only [Bool.or_self,decide_eq_true_eq] at e;have := h.2.2 _ e;simp only at this;omega
 ·rw [hb] at hj;simp only [Bool.or_eq_true,decide_eq_true_eq] at hj;rcases hj with hj | hj <;> (have := h.2.2 _ hj; simp only at this; omega)
theorem Fo {A : List Nat} {N : Nat} (hN : N <= 64) {o ds : List Nat} (h : lh A (2 ^ N - 1) o ds) : o.length = N /\ ds.length = N /\ o.Nodup /\ ∀ j,j ∈ o ↔ j < N := by
 have hp : 2 ^ N <= 2 ^ 64 := jK (by decide) hN;obtain ⟨a,b,c⟩ := ME (by have : (2:Nat) ^ 64 = 18446744073709551616 := rfl; have := L4 N; omega) h;have hm : ∀ j,j ∈ o ↔ j < N := fun j => by rw [a,lQ]; simp
 have hp : o.Perm (cH N) := (List.perm_ext_iff_of_nodup b Hk).2 fun j => by rw [hm,di]
 have hl := hp.length_eq;rw [nj] at hl;exact ⟨hl,by omega,b,hm⟩
theorem MD {N : Nat} {Es : List Ed} (hG : ke (N : Int) Es) (hE : Es.length < 1000000) (h0 : 0 < N) : ∃ o ds,lh (cU N Es) (2 ^ N - 1) o ds /\ br au nQY [.agg [.int .i64 N,.list 2 (dO Es)]] [u4 N (dO Es),u4 N (dO Es)] = some (.dB [.sl 1 2 0 N,.sl 1 3 0 N],[u4 N (dO Es),u4 N (dO Es),some (ints (ns o)),some (ints (lk o ds 0 (aF N 0)))]) := by
 have hN : N <= 64 := by have := hG.1.2; omega
 obtain ⟨hA,Qt,_⟩ := iG hG;obtain ⟨hS,hI,hb⟩ := Bk hG;obtain ⟨D,B,f1,f2,f3⟩ := UD N (dO Es) (cU N Es) hN hA Qt hI N 0 _ _ (by omega) (Yg N) (fun j hj => by omega);have hP := X8 hN hb f1 f2
 have pc : jQ (2 ^ N - 1) <= 64 := by
  unfold jQ;have := O8 (fun j => (2 ^ N - 1 : Nat).testBit j) (cH 64)
  rwa [nj] at this
 obtain ⟨o,ds,D',B',k',p1,p2⟩ := afP N (dO Es) (cU N Es) hN hS hI hA Qt (2 ^ N - 1) [] (aF N 0) D B 0 [] (.inl rfl) hP (by simpa using pc) bW;rw [List.nil_append] at p2;refine ⟨o,ds,p1,?_⟩;obtain ⟨ol,dl,_,_⟩ := Fo hN p1;have rr := Mq hG (by omega);have ma := YW N hN;have lo : (ns o).length = N := by rw [iv]; exact ol
 have ln : (lk o ds 0 (aF N 0)).length = N := by rw [Fj,bW]
 have e1 : aF N (AV.int .i64 0) = ints (aF N 0) := by simp [ints]
 have e2 : ns (aF N 0) = aF N 0 := by simp [ns]
 have t1 : (ints (ns o)).take N = ints (ns o) := du (by rw [af]; omega);have t2 : (ints (lk o ds 0 (aF N 0))).take N = ints (lk o ds 0 (aF N 0)) := du (by rw [af]; omega);have l1 : (ints (ns o)).length = N := by rw [af]; omega
 have l2 : (ints (lk o ds 0 (aF N 0))).length = N := by rw [af]; omega
 have l3 := dv (cU N Es);have fl1 := hB (ns o);have fl2 := hB (lk o ds 0 (aF N 0));have nz : ¬ N = 0 := by omega
 have nL : (N : Int) <= (lj : Int) := by unfold lj; omega
 unfold Qw at f3;unfold sQ at p2;rw [aeU,e2,fY] at f3;simp only [cV,fY] at p2;obtain ⟨x1,x2,x3,x4,x5,x6,_⟩ := xj B;obtain ⟨y1,y2,y3,y4,y5,y6,_⟩ := xj B';rw [aV oQY sQY (aD rfl)];unfold u4 at *;generalize us B = U1 at *;generalize us B' = U2 at *;generalize ints (ns o) = O1 at *;generalize ints (lk o ds 0 (aF N 0)) = L1 at *;generalize ints (aF N 0) = Z1 at *;generalize ints (ns D) = D1 at *;generalize ints (ns D') = D2 at *;rw [hA] at l3;generalize us (cU N Es) = A1 at *;generalize dO Es = Y at *;generalize 2 ^ N - 1 = m0 at *;clear hP f1 f2 p1 hG hS hI hb;unfold qQY cQY;simp [tK,tJ,tI,tH,tG,tF,tE,tD,tC,tB,oL,oK,oJ,oI,oH,oG,oF,oE,oD,oC,oB,oA,ox,ot,oq,oi,oh,oe,od,ob,oa,n9,n8,rr,ma,f3,p2,e1,t1,t2,l1,l2,l3,fl1,fl2,nz,nL,x1,x2,x3,x4,x6,y1,y2,y3,y4,y6,el,ZP,sA,Hc,bq,bu,aN,ko,fQ,mg,jt,dQ,l6,gg,fx,sQa6,iQa6,lQa6,sQa9,iQa9,lQa9]
/- What a run asks of a box of ints; slices.Reverse of ints. -/
theorem Xv (l : List Int) (h : l.length <= 4294967296) : rvG 1 (ints l) [] = some (ints l.reverse,none) := by
 unfold rvG;rw [if_pos ⟨rfl,rfl,by rw [af]; exact h⟩,show jr (ints l) = some l from k8 l];rfl
structure Lf (D : List AV) : Prop where
 bo : dh D = []
 ow : bK D = false
 mp : ∀ g,de g D = D
 pl : gz D = true
 pt : jJ D = []
 np : ∀ b,jq b D = true
 av : kB D D = true
 pp : fQ D = true
 fz : N3 D = true
 fl : aH D = D
 fr : si D = some D
theorem pd (l : List Int) : Lf (ints l) := by
 induction l with
 | nil => exact ⟨rfl,rfl,fun _ => rfl,rfl,rfl,fun _ => rfl,rfl,rfl,rfl,rfl,rfl⟩
 | cons x r ih =>
   refine ⟨?_,?_,fun g => ?_,?_,?_,fun b => ?_,?_,?_,?_,hB _,?_⟩
   ·exact ih.bo
   ·exact ih.ow
   ·show AV.int .i64 x :: de g (ints r) = _;rw [ih.mp]; rfl
   ·exact ih.pl
   ·exact ih.pt
   ·exact ih.np b
   ·show (decide _ && kB (ints r) (ints r)) = true;rw [ih.av]; simp
   ·exact ih.pp
   ·exact ih.fz
   ·show (match N8 (.int .i64 x),si (ints r) with | some y,some ys => some (y :: ys) | _,_ => none) = _;rw [ih.fr]; rfl
/- core.Order and maxclique.Colours. -/
theorem Z0 {N : Nat} {Es : List Ed} (hG : ke (N : Int) Es) (hE : Es.length < 1000000) (h0 : 0 < N) : ∃ o ds,lh (cU N Es) (2 ^ N - 1) o ds /\ br au nQy [.agg [.int .i64 N,.list 2 (dO Es)]] [u4 N (dO Es)] = some (.dB [.sl 1 2 0 N,.int .i64 0],[u4 N (dO Es),u4 N (dO Es),some (ints (ns o))]) := by
 obtain ⟨o,ds,hp,pr⟩ := MD hG hE h0;refine ⟨o,ds,hp,?_⟩;have g := nJ (N : Int) Es (by omega);rw [iw.2 hG] at g;obtain ⟨a1,a2,a3,a4,a5,a6,a7,a8,a9,aa,ab⟩ := pd (ns o);obtain ⟨b1,b2,b3,b4,b5,b6,b7,b8,b9,ba,bb⟩ := pd (lk o ds 0 (aF N 0));rw [aV oQy sQy (aD rfl)];unfold u4 at *;generalize ints (ns o) = O1 at *;generalize ints (lk o ds 0 (aF N 0)) = L1 at *;generalize dO Es = Y at *;unfold qQy cQy;simp [ac9,ac8,ac7,ac6,ac5,ac4,g,pr,a1,a2,a3,a4,a5,a6,a7,a8,a9,aa,ab,b1,b2,b3,b4,b5,b6,b7,b8,b9,ba,bb,aN,bu,bq,ko,fQ,gz,pl,jt,dQ,l6,mg,gg,fx,eL,kj,nN,AH,jJ,ym,qB,kB,sQY,iQY,lQY,sQs,iQs,lQs]
def sY : Option (AV × Heap) -> Bool
 | some (.dB [.list 1 [],.int .i64 0],[]) => true
 | _ => false
theorem abR {r : Option (AV × Heap)} (h : sY r = true) : r = some (.dB [.list 1 [],.int .i64 0],[]) := by
 unfold sY at h;split at h
 ·rfl
 ·cases h
theorem Z5 : sY (gI au 300 MQ [.agg [.int .i64 0,.list 2 []]] []) = true := by kernel_rfl
theorem Z4 : br au MQ [.agg [.int .i64 0,.list 2 []]] [] = some (.dB [.list 1 [],.int .i64 0],[]) := dD.2 ⟨300,abR Z5⟩
theorem H8 (n : Int) : Up (ik n) := by
 unfold ik Up;rw [List.pairwise_map];exact List.pairwise_lt_range.imp fun h => by omega
theorem DB {N : Nat} (hN : N <= 64) (x : Int) : x ∈ ik (N : Int) ↔ 0 <= x /\ x < N := by
 unfold ik;rw [eZ];constructor
 ·rintro ⟨j,hj,rfl⟩;have := di.1 hj;omega
 ·rintro ⟨a,b⟩;exact ⟨x.toNat,di.2 (by omega),by omega⟩
theorem H6 {N : Nat} (hN : N <= 64) {o : List Nat} (hl : o.length = N) (hn : o.Nodup) (hm : ∀ j,j ∈ o ↔ j < N) : (ns o).reverse.length = N /\ bZ (ns o).reverse = ik N /\ (∀ v ∈ (ns o).reverse,0 <= v /\ v < (N : Int)) /\ ∀ i : Nat,i < N -> (i : Int) ∈ (ns o).reverse := by
 have mem : ∀ v : Int,v ∈ (ns o).reverse ↔ ∃ j : Nat,v = j /\ j < N := fun v => by
  rw [List.mem_reverse];unfold ns;rw [eZ];constructor
  ·rintro ⟨j,hj,rfl⟩; exact ⟨j,rfl,(hm j).1 hj⟩
  ·rintro ⟨j,rfl,hj⟩; exact ⟨j,(hm j).2 hj,rfl⟩
 refine ⟨by rw [List.length_reverse,iv,hl],?_,fun v hv => ?_,fun i hi => (mem i).2 ⟨i,rfl,hi⟩⟩
 ·obtain ⟨s1,s2⟩ := dC (ns o).reverse;refine qW s1 (H8 N) fun x => ?_;rw [s2,mem,DB hN];constructor
  ·rintro ⟨j,rfl,h⟩; omega
  ·intro h; exact ⟨x.toNat,by omega,by omega⟩
 ·obtain ⟨j,rfl,h⟩ := (mem v).1 hv;omega
theorem Ck {N : Nat} {Es : List Ed} (hG : ke (N : Int) Es) (hE : Es.length < 1000000) : ∃ o ds,lh (cU N Es) (2 ^ N - 1) o ds /\ br au MQ [.agg [.int .i64 N,.list 2 (dO Es)]] [] = some (.dB [.list 1 (ints (xf (eC N Es) N (ns o).reverse)),.int .i64 0],[]) := by
 have hN : N <= 64 := by have := hG.1.2; omega
 by_cases h0 : N = 0
 ·subst h0
  have : Es = [] := by
   cases Es with
   | nil => rfl
   | cons e r => have := hG.2.2 e List.mem_cons_self; omega
  subst this;exact ⟨[],[],.nil,Z4⟩
 ·obtain ⟨o,ds,hp,pr⟩ := Z0 hG hE (by omega);refine ⟨o,ds,hp,?_⟩;obtain ⟨ol,_,nd,om⟩ := Fo hN hp;obtain ⟨q1,q2,q3,q4⟩ := H6 hN ol nd om;have cr := GD hG hE (ns o).reverse q1 q2 q3;have r1 := Xv (ns o) (by rw [iv]; omega);have l1 : (ints (ns o)).length = N := by rw [af,iv]; exact ol
  have l2 : (ints (ns o).reverse).length = N := by rw [af]; exact q1
  have t1 : (ints (ns o)).take N = ints (ns o) := du (by omega);have t2 : (ints (ns o).reverse).take N = ints (ns o).reverse := du (by omega);have k1 : (ints (ns o)).drop N = [] := List.drop_eq_nil_of_le (by omega);obtain ⟨a1,a2,a3,a4,a5,a6,a7,a8,a9,aa,ab⟩ := pd (ns o);obtain ⟨b1,b2,b3,b4,b5,b6,b7,b8,b9,ba,bb⟩ := pd (ns o).reverse;have pg := fG (xf (eC N Es) N (ns o).reverse);rw [aV oQh sQh (aD rfl)];unfold u4 at *;generalize ints (xf (eC N Es) N (ns o).reverse) = R1 at *;generalize ints (ns o).reverse = O2 at *;generalize ints (ns o) = O1 at *;generalize dO Es = Y at *;unfold qQh cQh;simp [adt,ads,adr,adq,adp,ado,h0,pr,cr,r1,l1,l2,t1,t2,k1,pg,a1,a2,a3,a4,a5,a6,a7,a8,a9,aa,ab,b1,b2,b3,b4,b5,b6,b7,b8,b9,ba,bb,aN,bu,bq,ko,fQ,gz,pl,Bm.Hw,jt,dQ,l6,mg,gg,fx,eL,kj,nN,AH,jJ,ym,qB,kB,Cr,Ag,sQy,iQy,lQy,sQi,iQi,lQi,iQz,lQz]
end Go.BmP
