/- What the bits of biclique return: TrailingZeros64, list, mask. -/
import Derived.Test.YtppmiehidnpgbaaGreatDoorUseM
import Derived.Test.YtppmiehidnpgbaaGreatDoorR02d
import Derived.Test.YtppmiehidnpgbaaGreatDoorN01
import Derived.Test.YtppmiehidnpgbaaGreatDoorK05
import Derived.Test.YtppmiehidnpgbaaGreatDoorT01
import Derived.Test.YtppmiehidnpgbaaGreatDoorT03
set_option linter.unusedSimpArgs false
set_option linter.unusedVariables false
set_option maxRecDepth 100000
set_option maxHeartbeats 4000000
open Int renaming one_mul → Dg
open List renaming append_assoc → dj, drop_eq_getElem_cons → bk, drop_zero → cS, eq_of_mem_replicate → LU, getD_eq_getElem?_getD → aI, getElem?_eq_getElem → aB, getElem?_replicate → fv, getElem?_set_ne → dq, getElem?_set_self → OP, getElem_mem → dN, length_cons → cj, length_replicate → bW, nil_append → yA, replicate → aF, take_length → dW
open Nat renaming le_of_ble_eq_true → aD
open Option.some renaming inj → dn, injEq → ah
open Prod.mk renaming injEq → aJ
namespace Go.BmP
open Go.Am Go.Bm
theorem agP : au.gl 0 = Mb.map (AV.int .u8) := rfl
theorem aeX : ∀ k,k < 64 -> 2 ^ k * 285870213051353865 % 18446744073709551616 / 288230376151711744 < 64 /\ (Mb.map (AV.int .u8)).drop (2 ^ k * 285870213051353865 % 18446744073709551616 / 288230376151711744) = .int .u8 (k : Nat) :: (Mb.map (AV.int .u8)).drop (2 ^ k * 285870213051353865 % 18446744073709551616 / 288230376151711744 + 1) := by
 intro k hk;have h1 : ∀ k,k < 64 -> 2 ^ k * 285870213051353865 % 18446744073709551616 / 288230376151711744 < 64 /\ Mb[2 ^ k * 285870213051353865 % 18446744073709551616 / 288230376151711744]? = some ((k : Nat) : Int) := by decide +kernel
 obtain ⟨a,b⟩ := h1 k hk;refine ⟨a,?_⟩;generalize 2 ^ k * 285870213051353865 % 18446744073709551616 / 288230376151711744 = j at a b;obtain ⟨hj,e⟩ := List.getElem?_eq_some_iff.1 b;rw [bk (by simpa using hj),List.getElem_map,e]
theorem powc (n : Nat) : (2 : Int) ^ n = ((2 ^ n : Nat) : Int) := by simp
theorem acP (q s : Nat) (hs : s < 64) : jz .shr (.int .u64 (q : Int)) (.int .u64 (s : Int)) = some (.int .u64 ((q / 2 ^ s : Nat) : Int)) := by
 unfold jz;simp only;have hp : 0 < 2 ^ s := Nat.two_pow_pos s;rw [if_neg (by omega),show min (s : Int).toNat IntKind.u64.bits = s by (show min (s : Int).toNat 64 = s); omega,powc,Int.fdiv_eq_ediv_of_nonneg _ (Int.natCast_nonneg _)];rfl
theorem UX (a b : Nat) (ha : a < 18446744073709551616) (hb : b < 18446744073709551616) : jz .and (.int .u64 (a : Int)) (.int .u64 (b : Int)) = some (.int .u64 ((a &&& b : Nat) : Int)) := by
 unfold jz;simp only [if_true,arith,u64_and_nat a b ha hb]
theorem acQ (a b : Nat) : jz .mul (.int .u64 (a : Int)) (.int .u64 (b : Int)) = some (.int .u64 ((a * b % 18446744073709551616 : Nat) : Int)) := by
 unfold jz;simp only [if_true,arith,IntKind.wrap_u64];rw [<- Int.natCast_mul];rfl
theorem MJ {c : eE} {call : Nat -> List AV -> Heap -> Option (AV × Heap)} : ∀ (a b : List O) (s : St) {s' s'' : St} {f g : List Fq},lI c call a s = some (s',f) -> lI c call b s' = some (s'',g) -> lI c call (a ++ b) s = some (s'',f ++ g)
 | [],b,s,s',s'',f,g,h,k => by
   simp only [lI,ah,aJ] at h;obtain ⟨rfl,rfl⟩ := h;exact k
 | o :: r,b,s,s',s'',f,g,h,k => by
   simp only [lI,List.cons_append] at h ⊢;split at h
   case h_2 => cases h
   rename_i s1 fl h1;split at h
   case h_2 => cases h
   rename_i s2 oR h2;simp only [ah,aJ] at h;obtain ⟨rfl,rfl⟩ := h;rw [MJ r b s1 h2 k];rfl
theorem tz_a (x : Nat) (h0 : x ≠ 0) (hx : x < 18446744073709551616) : ∃ (y p q j : Int) (T : List AV),lI au (br au) (Br.take 6) ⟨[(0,.int .u64 x),(4,.bool false)],[]⟩ = some (⟨[(0,.int .u64 x),(4,.bool false),(5,.int .u64 x),(6,.int .u64 x),(7,.int .u64 y),(8,.int .u64 p),(9,.int .u64 q),(10,.int .u64 j)],[]⟩,[.no,.no,.no,.no,.no,.no]) /\ (0 <= j /\ j < 64) /\ (au.gl 0).drop j.toNat = .int .u8 (tz x : Nat) :: T /\ tz x < 64 := by
 obtain ⟨e1,e2⟩ := Lib.lowest_bit 64 x h0 hx;have e2 : tz x < 64 := e2;have e1 : x &&& (18446744073709551616 - x) = 2 ^ tz x := e1;obtain ⟨e3,e4⟩ := aeX (tz x) e2
 have b1 : jz .eql (.int .u64 (x : Int)) (.int .u64 0) = some (.bool false) := by
  have : ((x : Int) == 0) = false := by rw [beq_eq_false_iff_ne]; omega
  unfold jz;simp only [if_true,arith,this]
 have u1 : Pg .neg (.int .u64 (x : Int)) = some (.int .u64 ((18446744073709551616 - x : Nat) : Int)) := by
  unfold Pg;simp only [IntKind.wrap_u64];rw [show (0 - (x : Int)) % 18446744073709551616 = ((18446744073709551616 - x : Nat) : Int) by omega]
 have b2 := UX x (18446744073709551616 - x) hx (by omega);rw [e1] at b2;have b3 := acQ (2 ^ tz x) 285870213051353865;have b4 := acP (2 ^ tz x * 285870213051353865 % 18446744073709551616) 58 (by omega);rw [show (2 ^ 58 : Nat) = 288230376151711744 from rfl] at b4;generalize 2 ^ tz x * 285870213051353865 % 18446744073709551616 / 288230376151711744 = j at *;generalize 2 ^ tz x * 285870213051353865 % 18446744073709551616 = q at *;generalize 2 ^ tz x = p at *;have b3 : jz .mul (.int .u64 (p : Int)) (.int .u64 285870213051353865) = some (.int .u64 (q : Int)) := b3;have b4 : jz .shr (.int .u64 (q : Int)) (.int .u64 58) = some (.int .u64 (j : Int)) := b4;have f5 : (j : Int) < 64 := by omega
 have f6 : IntKind.i64.wrap ((tz x : Nat) : Int) = ((tz x : Nat) : Int) := ur (by omega);clear e1;generalize tz x = z at *;generalize 18446744073709551616 - x = y at *;generalize (x : Int) = X at *;generalize hC : (285870213051353865 : Int) = C at *;rw [<- agP] at e4;refine ⟨y,p,q,j,_,?_,⟨by omega,f5⟩,by rw [show (j : Int).toNat = j by omega]; exact e4,e2⟩;clear e4 e3 e2 f6;generalize (j : Int) = J at *;generalize (q : Int) = Q at *;generalize (p : Int) = Pp at *;generalize (y : Int) = Y at *;unfold Br;simp [Mv,Mu,XP,Br,List.take_succ_cons,List.take_zero,b1,u1,b2,hC,b3,b4,aN,aq,aM,bp,bV,an,ak,aj,af,aE,aL,bu,bq,-jz,-Pg,-Pg]
theorem tz_b (X Y Pp Q J : Int) (z : Nat) (T : List AV) (h0 : 0 <= J) (h1 : J < 64) (hz : z < 64) (h : (au.gl 0).drop J.toNat = .int .u8 (z : Nat) :: T) : ∃ T',lI au (br au) (Br.drop 6) ⟨[(0,.int .u64 X),(4,.bool false),(5,.int .u64 X),(6,.int .u64 X),(7,.int .u64 Y),(8,.int .u64 Pp),(9,.int .u64 Q),(10,.int .u64 J)],[]⟩ = some (⟨[(0,.int .u64 X),(2,.int .i64 (z : Nat)),(4,.bool false),(5,.int .u64 X),(6,.int .u64 X),(7,.int .u64 Y),(8,.int .u64 Pp),(9,.int .u64 Q),(10,.int .u64 J),(11,.dw T'),(12,.int .u8 (z : Nat)),(13,.int .i64 (z : Nat))],[]⟩,[.no,.rd [],.no,.no]) := by
 refine ⟨.int .u8 (z : Nat) :: T,?_⟩;have hw := ur (i := z) (by omega);generalize hG : au.gl 0 = G at *;unfold Br;simp [Mv,Mu,XP,Br,List.drop_succ_cons,cS,h0,h1,hG,h,hw,idx,aN,aq,aM,bp,bV,an,ak,aj,af,aE,aL,bu,bq]
theorem Dk (x : Nat) (h0 : x ≠ 0) (hx : x < 18446744073709551616) : br au YH [.int .u64 x] [] = some (.int .i64 (tz x : Nat),[]) := by
 rw [aV oQv sQv (aD rfl)];obtain ⟨y,p,q,j,T,r1,⟨j0,j1⟩,r2,r3⟩ := tz_a x h0 hx;obtain ⟨T',r4⟩ := tz_b x y p q j (tz x) T j0 j1 r3 r2;have r5 := MJ _ _ _ r1 r4;rw [List.take_append_drop] at r5
 have r6 : aW au 0 (.aO Br false [] [2]) ⟨[(0,.int .u64 x),(4,.bool false)],[]⟩ = some (.normal,⟨[(2,.int .i64 (tz x : Nat))],[]⟩) := by
  rw [Jz,r5];clear r1 r2 r3 r4 r5;simp [XG,QC,qP,bJ,ZU,qf,trim,M5,IW]
 have b1 : jz .eql (.int .u64 (x : Int)) (.int .u64 0) = some (.bool false) := by
  have : ((x : Int) == 0) = false := by rw [beq_eq_false_iff_ne]; omega
  unfold jz;simp only [if_true,arith,this]
 clear r1 r2 r3 r4 r5 h0 hx;generalize ((tz x : Nat) : Int) = z at *;generalize (x : Int) = X at *
 have r7 : aW au 0 (.aO Mu false [] [0,4]) ⟨[(0,.int .u64 X)],[]⟩ = some (.normal,⟨[(0,.int .u64 X),(4,.bool false)],[]⟩) := by
  unfold Mu;simp [pZ,pY,pX,pT,pS,pQ,pP,pN,pK,b1,aN,aq,aM,bp,bV,an,ak,aj,af,aE,aL,bu,bq,-jz]
 have r8 : aW au 0 (.aO Mv false [] [0]) ⟨[(0,.int .u64 X)],[]⟩ = some (.normal,⟨[(0,.int .u64 X)],[]⟩) := by
  unfold Mv;simp [pZ,pY,pX,pT,pS,pQ,pP,pN,pK,aN,aq,aM,bp,bV,an,ak,aj,af,aE,aL,bu,bq]
 show bu au _ _ 0 (aW au 0 cQv ⟨[(0,.int .u64 X)],[]⟩) = _;unfold cQv;rw [cQ,r8,e9,cQ,cQ,r7,e9,mN];show bu au _ _ 0 (uu au 0 _ (aW au 0 .skip ⟨[(0,.int .u64 X),(4,.bool false)],[]⟩)) = _;rw [kT,e9,cQ,r6,e9,Jy];simp [bu,bq,qQv,oW,Vt,bt,eW,A9,nt,kS,Qy]
theorem P7 : ∀ (m : Nat),m < 18446744073709551616 -> ∀ (o : List Int),o.length + (eS m).length <= 64 -> aW au 0 (.loop Uh) ⟨[(0,.int .u64 m),(3,.own 1 (ints o))],[]⟩ = some (.exit 0,⟨[(0,.int .u64 (0 : Nat)),(3,.own 1 (ints (o ++ eS m))),(5,.bool false)],[]⟩) := by
 intro m
 induction m using Nat.strongRecOn with
 | ind m ih =>
   intro hm o hL;by_cases h0 : m = 0
   ·subst h0;rw [JJ,List.append_nil];exact bw (by unfold Uh; simp [Tg,Tf,Te,Td,Tc,Tb,aN,aq,aM,bp,bV,an,ak,aj,af,aE,aL,bu,bq])
   ·have n0 : ¬ ((m : Int) = 0) := by omega
    have hd := UG h0;have ht := Dk m h0 hm;have w1 := decU h0 hm;have w2 := u64_and_nat m (m - 1) hm (by omega);rw [wJ h0 hm,cj] at hL;have hL1 : o.length + 1 <= 4294967296 := by omega
    have ih := ih (m &&& (m - 1)) hd (by omega) (o ++ [(tz m : Int)]) (by simp; omega);rw [wJ h0 hm];rw [dj] at ih;generalize (m : Int) = X at *;exact (aY (by unfold Uh; simp [Tg,Tf,Te,Td,Tc,Tb,n0,ht,w1,w2,hL1,lj,eB,bY,sQv,iQv,lQv,aN,aq,aM,bp,bV,an,ak,aj,af,aE,aL,bu,bq])).trans ih
theorem IV (m : Nat) (hm : m < 18446744073709551616) : br au nQ0 [.int .u64 m] [] = some (.list 1 (ints (eS m)),[]) := by
 rw [aV oQ0 sQ0 (aD rfl)];have h := P7 m hm [] (by have := GR m; simpa using this);rw [yA,fY,cV] at h;unfold qQ0 cQ0;simp [Tg,Tf,Te,Td,Tc,Tb,h,bY,aN,aq,aM,bp,bV,an,ak,aj,af,aE,aL,bu,bq]
/- What masks.Rows and masks.Count return; degree.Degrees. -/
theorem H5 (N : Nat) (hN : N <= 64) (Es : List Ed) (hE : Es.length < 4294967295) (hv : ∀ e ∈ Es,0 <= e.1 /\ e.1 < e.2 /\ e.2 < (N : Int)) : ∀ (k i : Nat) (A : List Nat),i + k = Es.length -> A.length = N -> Small A -> aW au 0 (.loop K8) ⟨[(3,.own 1 (us A)),(12,.list 2 (dO Es)),(13,.int .i64 Es.length),(14,.int .i64 i)],[]⟩ =
  some (.exit 0,⟨[(3,.own 1 (us (kC (Es.drop i) A))),(12,.list 2 (dO Es)),(13,.int .i64 Es.length),(14,.int .i64 Es.length),(15,.bool false)],[]⟩)
 | 0,i,A,hi,hA,hS => by
   obtain rfl : i = Es.length := by omega
   rw [List.drop_length];exact bw (by unfold K8; simp [Kp,Ko,Kn,Km,Kl,Kk,Kj,Ki,Kh,Kg,kC,List.foldl_nil])
 | k + 1,i,A,hi,hA,hS => by
   have bL : i < Es.length := by omega
   have h1 : (i : Int) < Es.length := by omega
   have hw := eT (i := i) (by omega);obtain ⟨u0,uv,vn⟩ := hv Es[i] (dN bL);have ih := H5 N hN Es hE hv k (i + 1) (OI A Es[i]) (by omega) (by rw [th]; exact hA) (wK hS (by omega) (by omega));rw [bk bL];have v0 : 0 <= Es[i].2 := by omega
   have un : Es[i].1 < (N : Int) := by omega
   have u0' : ¬ Es[i].1 < 0 := by omega
   have v0' : ¬ Es[i].2 < 0 := by omega
   have uN : Es[i].1.toNat < N := by omega
   have vN : Es[i].2.toNat < N := by omega
   have pu := nD (v := Es[i].1) (by omega) u0;have pv := nD (v := Es[i].2) (by omega) v0;have su := Pr (v := Es[i].1) u0 (by omega);have sv := Pr (v := Es[i].2) v0 (by omega);have su' : IntKind.u64.wrap (2 ^ (min Es[i].1.toNat 64)) = ((2 ^ Es[i].1.toNat : Nat) : Int) := by rw [<- su,Dg]
   have sv' : IntKind.u64.wrap (2 ^ (min Es[i].2.toNat 64)) = ((2 ^ Es[i].2.toNat : Nat) : Int) := by rw [<- sv,Dg]
   have gu : (us A)[Es[i].1.toNat]? = some (.int .u64 (A.getD Es[i].1.toNat 0 : Nat)) := by
    rw [pB,aI,aB (by omega)]; rfl
   have xu := iR hS Es[i].1.toNat;have ou := u64_or_nat (A.getD Es[i].1.toNat 0) (2 ^ Es[i].2.toNat) xu pv;have eu := xn A Es[i].1.toNat (A.getD Es[i].1.toNat 0 ||| 2 ^ Es[i].2.toNat);have sm : Small (A.set Es[i].1.toNat (A.getD Es[i].1.toNat 0 ||| 2 ^ Es[i].2.toNat)) := rA hS (Nat.or_lt_two_pow (n := 64) xu pv);have eln : (A.set Es[i].1.toNat (A.getD Es[i].1.toNat 0 ||| 2 ^ Es[i].2.toNat)).length = N := by rw [List.length_set]; exact hA
   have ead : kC (Es[i] :: Es.drop (i + 1)) A = kC (Es.drop (i + 1)) (OI A Es[i]) := rfl;rw [ead];have eA : OI A Es[i] = (A.set Es[i].1.toNat (A.getD Es[i].1.toNat 0 ||| 2 ^ Es[i].2.toNat)).set Es[i].2.toNat ((A.set Es[i].1.toNat (A.getD Es[i].1.toNat 0 ||| 2 ^ Es[i].2.toNat)).getD Es[i].2.toNat 0 ||| 2 ^ Es[i].1.toNat) := rfl;rw [eA] at ih ⊢;generalize hA1 : A.set Es[i].1.toNat (A.getD Es[i].1.toNat 0 ||| 2 ^ Es[i].2.toNat) = A1 at *
   have gv : (us A1)[Es[i].2.toNat]? = some (.int .u64 (A1.getD Es[i].2.toNat 0 : Nat)) := by
    rw [pB,aI,aB (by omega)]; rfl
   have ov := u64_or_nat (A1.getD Es[i].2.toNat 0) (2 ^ Es[i].1.toNat) (iR sm _) pu;have ev := xn A1 Es[i].2.toNat (A1.getD Es[i].2.toNat 0 ||| 2 ^ Es[i].1.toNat);generalize A1.getD Es[i].2.toNat 0 ||| 2 ^ Es[i].1.toNat = q at *
   generalize A.getD Es[i].1.toNat 0 ||| 2 ^ Es[i].2.toNat = p at *
   generalize A1.getD Es[i].2.toNat 0 = y at *;generalize A.getD Es[i].1.toNat 0 = x at *;generalize 2 ^ Es[i].1.toNat = pU at *;generalize 2 ^ Es[i].2.toNat = pV at *;clear pu pv xu sm eA ead hA1;have gu' : ∀ h : Es[i].1.toNat < (us A).length,(us A)[Es[i].1.toNat] = .int .u64 (x : Int) := fun h => by rw [aB h] at gu; exact dn gu
   have gv' : ∀ h : Es[i].2.toNat < (us A1).length,(us A1)[Es[i].2.toNat] = .int .u64 (y : Int) := fun h => by rw [aB h] at gv; exact dn gv
   refine (aY (s' := ⟨[(3,.own 1 (us (A1.set Es[i].2.toNat q))),(12,.list 2 (dO Es)),(13,.int .i64 Es.length),(14,.int .i64 ((i + 1 : Nat) : Int))],[]⟩) ?_).trans ih;have g1 : (dO Es)[i]? = some (.agg [.int .i64 Es[i].1,.int .i64 Es[i].2]) := by rw [aM,aB bL]; rfl
   have g2 : ∀ h,(dO Es)[i]'h = .agg [.int .i64 Es[i].1,.int .i64 Es[i].2] := fun h => bp ..;have g5 := aq Es;have vN' : Es[i].2 < (N : Int) := vn;unfold K8;simp [Kp,Ko,Kn,Km,Kl,Kk,Kj,Ki,Kh,Kg,h1,bL,hw,u0,v0,u0',v0',un,vn,uv,uN,vN,su,sv,su',sv',gu,gv,gu',gv',g1,g2,g5,ou,ov,eu,ev,hA,eln,dv,idx,IntKind.bits,fz,pl,AV.leaf,aN]
theorem iG {N : Nat} {Es : List Ed} (h : ke (N : Int) Es) : (cU N Es).length = N /\ Small (cU N Es) /\ ∀ a b : Nat,((cU N Es).getD a 0).testBit b = (decide (((a : Int),(b : Int)) ∈ Es) || decide (((b : Int),(a : Int)) ∈ Es)) := by
 have hn := h.1;obtain ⟨i1,i2,i3⟩ := yq N (by omega) Es (aF N 0) (by simp) (fun x hx => by have := LU hx; omega) h.2.2;refine ⟨i1,i2,fun a b => ?_⟩;unfold cU;rw [i3];have : ((aF N 0).getD a 0) = 0 := by rw [aI,fv]; split <;> rfl
 rw [this,Nat.zero_testBit,Bool.false_or]
theorem Mq {N : Nat} {Es : List Ed} (h : ke (N : Int) Es) (hE : Es.length < 4294967295) : br au MU [.agg [.int .i64 N,.list 2 (dO Es)]] [] = some (.list 1 (us (cU N Es)),[]) := by
 have hn : N <= 64 := by have := h.1; omega
 have hl := H5 N hn Es hE h.2.2 Es.length 0 (aF N 0) (by omega) (by simp) (fun x hx => by have := LU hx; omega);rw [fY,cS] at hl;have r1 : aF N (AV.int .u64 0) = us (aF N 0) := Pd N;have n0 : ¬ (N : Int) < 0 := by omega
 have nL : (N : Int) <= 4294967296 := by omega
 have m1 : max (N : Int) 0 = (N : Int) := by omega
 have m2 : ¬ (64 : Int) < N := by omega
 have ea : kC Es (aF N 0) = cU N Es := rfl;rw [ea] at hl;have tk : (us (cU N Es)).take (cU N Es).length = us (cU N Es) := by rw [JS,dW]
 have e := (iG h).1
 have tkr : (us (aF N 0)).take N = us (aF N 0) := by
  have := dW (l := us (aF N 0))
  rwa [dv,bW] at this
 rw [e] at tk;have g5 := aq Es;rw [aV oQa6 sQa6 (aD rfl)];unfold qQa6 cQa6;generalize dO Es = Y at *;simp [Kp,Ko,Kn,Km,Kl,Kk,Kj,Ki,Kh,Kg,hl,r1,tkr,e,bW,n0,nL,m1,m2,dv,tk,g5,lj,aN,gz,pl,bu,bq]
def pc9 (m : Nat) : Nat := ((List.range 9).filter fun j => m.testBit j).length
def pcA (x : Int) : Int := IntKind.u64.wrap (bits .and .u64 (x.fdiv 2) 6148914691236517205 + bits .and .u64 x 6148914691236517205)
def pcB (x : Int) : Int := IntKind.u64.wrap (bits .and .u64 (x.fdiv 4) 3689348814741910323 + bits .and .u64 x 3689348814741910323)
def pcC (x : Int) : Int := bits .and .u64 (IntKind.u64.wrap (x.fdiv 16 + x)) 1085102592571150095
def pcD (n : Int) (x : Int) : Int := IntKind.u64.wrap (x + x.fdiv n)
def pcE (x : Int) : Int := bits .and .i64 (IntKind.i64.wrap (pcD 4294967296 (pcD 65536 (pcD 256 (pcC (pcB (pcA x))))))) 127
theorem MK (x : Int) : br au nQU [.int .u64 x] [] = some (.int .i64 (pcE x),[]) := by
 obtain ⟨a,ea⟩ : ∃ a,IntKind.u64.wrap (bits .and .u64 (x.fdiv 2) 6148914691236517205 + bits .and .u64 x 6148914691236517205) = a := ⟨_,rfl⟩;obtain ⟨b,eb⟩ : ∃ b,IntKind.u64.wrap (bits .and .u64 (a.fdiv 4) 3689348814741910323 + bits .and .u64 a 3689348814741910323) = b := ⟨_,rfl⟩;obtain ⟨c,ec⟩ : ∃ c,bits .and .u64 (IntKind.u64.wrap (b.fdiv 16 + b)) 1085102592571150095 = c := ⟨_,rfl⟩;obtain ⟨d,ed⟩ : ∃ d,IntKind.u64.wrap (c + c.fdiv 256) = d := ⟨_,rfl⟩;obtain ⟨e,ee⟩ : ∃ e,IntKind.u64.wrap (d + d.fdiv 65536) = e := ⟨_,rfl⟩;obtain ⟨f,ef⟩ : ∃ f,IntKind.u64.wrap (e + e.fdiv 4294967296) = f := ⟨_,rfl⟩;have hp : pcE x = bits .and .i64 (IntKind.i64.wrap f) 127 := by unfold pcE pcD pcC pcB pcA; rw [ea,eb,ec,ed,ee,ef]
 rw [hp];rw [aV oQU sQU (aD rfl)];unfold qQU cQU;simp [adW,adV,adU,adT,adS,adR,adQ,adP,ea,eb,ec,ed,ee,ef,IntKind.bits,aN,bu,bq]
/- The neighbours that triangles.lists computes: plain law. -/
def nbF (u : Int) (e : Ed) : Option Int := if e.1 = u then some e.2 else if e.2 = u then some e.1 else none
theorem abE {R : List (List Int)} {e : Ed} {u : Nat} (hu : u < R.length) (h0 : 0 <= e.1) (h1 : e.1 < e.2) : (lsF R e).getD u [] = R.getD u [] ++ (nbF u e).toList := by
 unfold lsF nbF;simp only [aI];by_cases k1 : e.1 = (u : Int)
 ·have k2 : ¬ e.2 = (u : Int) := by omega
  rw [if_pos k1,dq (by omega),show e.1.toNat = u by omega,OP hu];rfl
 ·rw [if_neg k1];by_cases k2 : e.2 = (u : Int)
  ·rw [if_pos k2,show e.2.toNat = u by omega,OP (by simpa using hu)];rfl
  ·rw [if_neg k2,dq (by omega),dq (by omega)];simp
theorem Jq {N : Nat} {u : Nat} (hu : u < N) : ∀ (Es : List Ed) (R : List (List Int)),R.length = N -> (∀ e ∈ Es,0 <= e.1 /\ e.1 < e.2) -> (Es.foldl lsF R).getD u [] = R.getD u [] ++ Es.filterMap (nbF u)
 | [],R,_,_ => by simp
 | e :: r,R,hR,h => by
   have he := h e (by simp);rw [List.foldl_cons,Jq hu r (lsF R e) (by rw [FV]; exact hR) (fun x hx => h x (by simp [hx])),abE (by omega) he.1 he.2,List.filterMap_cons,dj];congr 1;cases nbF u e <;> simp
def B3 (N : Nat) (Es : List Ed) (u : Int) : List Int := (lstE N Es).getD u.toNat []
theorem YF {N : Nat} {Es : List Ed} {u : Nat} (hu : u < N) (h : ∀ e ∈ Es,0 <= e.1 /\ e.1 < e.2) : B3 N Es u = gY (Es.filterMap (nbF u)) := by
 have := Jq hu Es (aF N []) (by simp) h;have e0 : (aF N ([] : List Int)).getD u [] = [] := by rw [aI,fv,if_pos hu]; rfl
 rw [e0,yA] at this;unfold B3 lstE;have hl : u < (Es.foldl lsF (aF N [])).length := by rw [Wh,bW]; exact hu
 rw [show ((u : Int)).toNat = u by omega,aI,List.getElem?_map];rw [aI] at this;rw [aB hl] at this ⊢;simp at this ⊢;rw [this]
theorem vc {u x : Int} {e : Ed} : nbF u e = some x ↔ (e.1 = u /\ e.2 = x) \/ (e.1 ≠ u /\ e.2 = u /\ e.1 = x) := by
 unfold nbF;split
 ·rename_i h; simp [h]
 ·rename_i h;split
  ·rename_i h2; simp [h,h2]
  ·rename_i h2; simp [h,h2]
theorem o9 {N : Nat} {Es : List Ed} (hG : ke (N : Int) Es) {u : Int} (h0 : 0 <= u) (h1 : u < N) (x : Int) : x ∈ B3 N Es u ↔ jn Es u x := by
 obtain ⟨w,rfl⟩ : ∃ w : Nat,u = w := ⟨u.toNat,by omega⟩;rw [YF (by omega) fun e he => ⟨(hG.2.2 e he).1,(hG.2.2 e he).2.1⟩,(jT _).mem_iff,List.mem_filterMap];unfold jn;constructor
 ·rintro ⟨e,he,h⟩;rcases vc.1 h with ⟨a,b⟩ | ⟨a,b,c⟩
  ·left; rw [<- a,<- b]; exact he
  ·right; rw [<- b,<- c]; exact he
 ·rintro (h | h)
  ·exact ⟨_,h,vc.2 (.inl ⟨rfl,rfl⟩)⟩
  ·have := (hG.2.2 _ h).2.1;exact ⟨_,h,vc.2 (.inr ⟨by simp only at this ⊢; omega,rfl,rfl⟩)⟩
theorem PR {N : Nat} {Es : List Ed} (hG : ke (N : Int) Es) {u : Int} (h0 : 0 <= u) (h1 : u < N) : Up (B3 N Es u) := by
 obtain ⟨w,rfl⟩ : ∃ w : Nat,u = w := ⟨u.toNat,by omega⟩;rw [YF (by omega) fun e he => ⟨(hG.2.2 e he).1,(hG.2.2 e he).2.1⟩]
 have nd : (Es.filterMap (nbF w)).Nodup := by
  have hp : Es.Pairwise (fun a b => FU a b /\ (a.1 < a.2 /\ b.1 < b.2)) := by
   refine List.Pairwise.imp_of_mem (fun {a b} ha hb h => ⟨h,(hG.2.2 a ha).2.1,(hG.2.2 b hb).2.1⟩) hG.2.1
  refine List.Pairwise.filterMap _ (fun a b h x hx y hy e => ?_) hp;subst e;obtain ⟨h1,h2,h3⟩ := h
  have : a = b := by
   rcases vc.1 hx with ⟨p,q⟩ | ⟨p,q,r⟩ <;> rcases vc.1 hy with ⟨p',q'⟩ | ⟨p',q',r'⟩
   ·exact Prod.ext (by omega) (by omega)
   ·exfalso; omega
   ·exfalso; omega
   ·exact Prod.ext (by omega) (by omega)
  subst this;exact abD h1
 have nd2 : (gY (Es.filterMap (nbF w))).Nodup := (jT _).nodup_iff.2 nd;refine List.Pairwise.imp₂ (fun {a b} h1 h2 => ?_) (rV _) nd2;omega
theorem F8 {N : Nat} {Es : List Ed} (hG : ke (N : Int) Es) {u x : Int} (h : jn Es u x) : (0 <= u /\ u < N) /\ (0 <= x /\ x < N) /\ u ≠ x := by
 rcases h with h | h <;> (have := hG.2.2 _ h; simp only at this; omega)
theorem Q9 {N : Nat} : ∀ {l : List Int} {a : Nat},Up l -> (∀ x ∈ l,(a : Int) <= x /\ x < N) -> l.length <= N - a
 | [],a,_,_ => by simp
 | x :: r,a,hu,h => by
   obtain ⟨h1,h2⟩ := List.pairwise_cons.1 hu;have hx := h x (by simp);have ih := Q9 (l := r) (a := a + 1) h2 fun y hy => ⟨by have := h1 y hy; omega,(h y (by simp [hy])).2⟩;simp only [cj];omega
theorem TM {N : Nat} {Es : List Ed} (hG : ke (N : Int) Es) {u : Int} (h0 : 0 <= u) (h1 : u < N) : (B3 N Es u).length <= N := by
 have := Q9 (a := 0) (N := N) (PR hG h0 h1) fun x hx => ⟨by have := (F8 hG ((o9 hG h0 h1 x).1 hx)).2.1; omega,(F8 hG ((o9 hG h0 h1 x).1 hx)).2.1.2⟩;omega
def com (N : Nat) (Es : List Ed) (e : Ed) : List Int := shr (B3 N Es e.1) (B3 N Es e.2)
def bump (n : List Int) (w : Int) : List Int := n.set w.toNat (n.getD w.toNat 0 + 1)
def triN (N : Nat) (Es : List Ed) : List Int := Es.foldl (fun n e => (com N Es e).foldl bump n) (aF N 0)
def triS (N : Nat) (Es : List Ed) : Nat := (Es.map fun e => (com N Es e).length).sum
/- What graph.Neighbours returns (X01's head, beside RwP, K07, T04). -/
theorem LH {N : Nat} {Es : List Ed} (hG : ke (N : Int) Es) {v : Nat} (hv : v < N) : eS ((cU N Es).getD v 0) = B3 N Es v := by
 have hN := hG.1;obtain ⟨_,_,h3⟩ := iG hG;refine qW (kJ _) (PR hG (by omega) (by omega)) fun x => ?_;rw [eY,o9 hG (by omega) (by omega)];constructor
 ·rintro ⟨j,rfl,_,hj⟩;rw [h3] at hj;unfold jn;simpa using hj
 ·intro hj;have hb := F8 hG hj;obtain ⟨j,rfl⟩ : ∃ j : Nat,x = j := ⟨x.toNat,by omega⟩;refine ⟨j,rfl,by omega,?_⟩;rw [h3];unfold jn at hj;simpa using hj
theorem aaO {N : Nat} {Es : List Ed} (hG : ke (N : Int) Es) (hE : Es.length < 1000000) {v : Nat} (hv : v < N) : br au nQ1 [.agg [.int .i64 N,.list 2 (dO Es)],.int .i64 v] [] = some (.int .u64 ((cU N Es).getD v 0 : Nat),[]) := by
 have hN := hG.1;have rr := Mq hG (by omega);have cc := nJ (N : Int) Es (by omega);rw [iw.2 hG] at cc;obtain ⟨a1,a2,_⟩ := iG hG;have v0 : ¬ (v : Int) < 0 := by omega
 have v1 : ¬ ((cU N Es).length : Int) <= (v : Int) := by omega
 have v2 : (v : Int) < (cU N Es).length := by omega
 have v3 : v < (cU N Es).length := by omega
 have gv : (us (cU N Es))[v]? = some (.int .u64 ((cU N Es).getD v 0 : Nat)) := by
  rw [pB,aB v3,aI,aB v3]; rfl
 have gv' : ∀ h : v < (us (cU N Es)).length,(us (cU N Es))[v] = .int .u64 ((cU N Es).getD v 0 : Nat) := fun h => by rw [aB h] at gv; exact dn gv
 rw [aV oQ1 sQ1 (aD rfl)];unfold qQ1 cQ1;generalize dO Es = Y at *;have gl := dv (cU N Es);generalize us (cU N Es) = Z at *;generalize (cU N Es).getD v 0 = q at *;rw [a1] at *;simp [aej,aei,aeh,aeg,aef,rr,cc,v0,v1,v2,v3,gv,gv',gl,a1,idx,sQa6,iQa6,lQa6,sQs,iQs,lQs,aN,aq,aM,bp,bV,an,ak,aj,af,aE,aL,bu,bq]
theorem abU {N : Nat} {Es : List Ed} (hG : ke (N : Int) Es) (hE : Es.length < 1000000) {v : Nat} (hv : v < N) : br au nQD [.agg [.int .i64 N,.list 2 (dO Es)],.int .i64 v] [] = some (.list 1 (ints (B3 N Es v)),[]) := by
 have rr := aaO hG hE hv;obtain ⟨a1,a2,_⟩ := iG hG
 have sm : (cU N Es).getD v 0 < 18446744073709551616 := by
  rw [aI,aB (by omega)];exact a2 _ (dN _)
 have ll := IV _ sm;rw [LH hG hv] at ll;generalize (cU N Es).getD v 0 = q at rr ll;rw [aV oQD sQD (aD rfl)];unfold qQD cQD;generalize dO Es = Y at *;generalize ints (B3 N Es v) = Z at *;simp [aee,aed,rr,ll,sQ1,iQ1,lQ1,sQ0,iQ0,lQ0,aN,aq,aM,bp,bV,an,ak,aj,af,aE,aL,bu,bq]
end Go.BmP
