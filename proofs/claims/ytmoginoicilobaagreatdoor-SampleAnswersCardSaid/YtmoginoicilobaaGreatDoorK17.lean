/- What masks.Rows returns. -/
import Derived.Test.YtmoginoicilobaaGreatDoorUseM
import Derived.Test.YtmoginoicilobaaGreatDoorWdgP
import Derived.Test.YtmoginoicilobaaGreatDoorT06
import Derived.Test.YtmoginoicilobaaGreatDoorL01
import Derived.Test.YtmoginoicilobaaGreatDoorR02d
set_option linter.unusedSimpArgs false
set_option linter.unusedVariables false
set_option maxRecDepth 100000
set_option maxHeartbeats 4000000
open List renaming drop_eq_getElem_cons → aP, drop_zero → b9, eq_of_mem_replicate → mL, getD_eq_getElem?_getD → bk, getElem?_eq_getElem → af, length_replicate → dT, replicate → aM, take_length → cX
open Nat renaming le_of_ble_eq_true → ab
open Option.some renaming inj → bU, injEq → ai
open Prod.mk renaming injEq → aF
namespace Go.BmP
open Go.Am Go.Bm
theorem HO (N : Nat) (hN : N <= 64) (Es : List Ed) (hE : Es.length < 4294967295) (hv : ∀ e ∈ Es,0 <= e.1 /\ e.1 < e.2 /\ e.2 < (N : Int)) : ∀ (k i : Nat) (A : List Nat),i + k = Es.length -> A.length = N -> Small A -> bj aj 0 (.loop KN) ⟨[(3,.own 1 (us A)),(12,.list 2 (bc Es)),(13,.int .i64 Es.length),(14,.int .i64 i)],[]⟩ =
  some (.exit 0,⟨[(3,.own 1 (us (vR (Es.drop i) A))),(12,.list 2 (bc Es)),(13,.int .i64 Es.length),(14,.int .i64 Es.length),(15,.bool false)],[]⟩)
 | 0,i,A,hi,hA,hS => by
   obtain rfl : i = Es.length := by omega
   rw [List.drop_length];exact bm (by unfold KN; simp [Kc,Kb,Ka,J9,J8,J7,J6,J5,J4,J3,vR,List.foldl_nil])
 | k + 1,i,A,hi,hA,hS => by
   have bz : i < Es.length := by omega
   have h1 : (i : Int) < Es.length := by omega
   have hw := dw (i := i) (by omega);obtain ⟨u0,uv,vn⟩ := hv Es[i] (List.getElem_mem bz);have ih := HO N hN Es hE hv k (i + 1) (adF A Es[i]) (by omega) (by rw [GR]; exact hA) (Jv hS (by omega) (by omega));rw [aP bz];have v0 : 0 <= Es[i].2 := by omega
   have un : Es[i].1 < (N : Int) := by omega
   have u0' : ¬ Es[i].1 < 0 := by omega
   have v0' : ¬ Es[i].2 < 0 := by omega
   have uN : Es[i].1.toNat < N := by omega
   have vN : Es[i].2.toNat < N := by omega
   have pu := zu (v := Es[i].1) (by omega) u0;have pv := zu (v := Es[i].2) (by omega) v0;have su := shlU (v := Es[i].1) u0 (by omega);have sv := shlU (v := Es[i].2) v0 (by omega);have su' : IntKind.u64.wrap (2 ^ (min Es[i].1.toNat 64)) = ((2 ^ Es[i].1.toNat : Nat) : Int) := by rw [<- su,Int.one_mul]
   have sv' : IntKind.u64.wrap (2 ^ (min Es[i].2.toNat 64)) = ((2 ^ Es[i].2.toNat : Nat) : Int) := by rw [<- sv,Int.one_mul]
   have gu : (us A)[Es[i].1.toNat]? = some (.int .u64 (A.getD Es[i].1.toNat 0 : Nat)) := by
    rw [On,bk,af (by omega)]; rfl
   have xu := Dv hS Es[i].1.toNat;have ou := u64_or_nat (A.getD Es[i].1.toNat 0) (2 ^ Es[i].2.toNat) xu pv;have eu := VS A Es[i].1.toNat (A.getD Es[i].1.toNat 0 ||| 2 ^ Es[i].2.toNat);have sm : Small (A.set Es[i].1.toNat (A.getD Es[i].1.toNat 0 ||| 2 ^ Es[i].2.toNat)) := Au hS (Nat.or_lt_two_pow (n := 64) xu pv);have eln : (A.set Es[i].1.toNat (A.getD Es[i].1.toNat 0 ||| 2 ^ Es[i].2.toNat)).length = N := by rw [List.length_set]; exact hA
   have ead : vR (Es[i] :: Es.drop (i + 1)) A = vR (Es.drop (i + 1)) (adF A Es[i]) := rfl;rw [ead];have eA : adF A Es[i] = (A.set Es[i].1.toNat (A.getD Es[i].1.toNat 0 ||| 2 ^ Es[i].2.toNat)).set Es[i].2.toNat ((A.set Es[i].1.toNat (A.getD Es[i].1.toNat 0 ||| 2 ^ Es[i].2.toNat)).getD Es[i].2.toNat 0 ||| 2 ^ Es[i].1.toNat) := rfl;rw [eA] at ih ⊢;generalize hA1 : A.set Es[i].1.toNat (A.getD Es[i].1.toNat 0 ||| 2 ^ Es[i].2.toNat) = A1 at *
   have gv : (us A1)[Es[i].2.toNat]? = some (.int .u64 (A1.getD Es[i].2.toNat 0 : Nat)) := by
    rw [On,bk,af (by omega)]; rfl
   have ov := u64_or_nat (A1.getD Es[i].2.toNat 0) (2 ^ Es[i].1.toNat) (Dv sm _) pu;have ev := VS A1 Es[i].2.toNat (A1.getD Es[i].2.toNat 0 ||| 2 ^ Es[i].1.toNat);generalize A1.getD Es[i].2.toNat 0 ||| 2 ^ Es[i].1.toNat = q at *
   generalize A.getD Es[i].1.toNat 0 ||| 2 ^ Es[i].2.toNat = p at *
   generalize A1.getD Es[i].2.toNat 0 = y at *;generalize A.getD Es[i].1.toNat 0 = x at *;generalize 2 ^ Es[i].1.toNat = pU at *;generalize 2 ^ Es[i].2.toNat = pV at *;clear pu pv xu sm eA ead hA1;have gu' : ∀ h : Es[i].1.toNat < (us A).length,(us A)[Es[i].1.toNat] = .int .u64 (x : Int) := fun h => by rw [af h] at gu; exact bU gu
   have gv' : ∀ h : Es[i].2.toNat < (us A1).length,(us A1)[Es[i].2.toNat] = .int .u64 (y : Int) := fun h => by rw [af h] at gv; exact bU gv
   refine (aR (s' := ⟨[(3,.own 1 (us (A1.set Es[i].2.toNat q))),(12,.list 2 (bc Es)),(13,.int .i64 Es.length),(14,.int .i64 ((i + 1 : Nat) : Int))],[]⟩) ?_).trans ih;have g1 : (bc Es)[i]? = some (.agg [.int .i64 Es[i].1,.int .i64 Es[i].2]) := by rw [aO,af bz]; rfl
   have g2 : ∀ h,(bc Es)[i]'h = .agg [.int .i64 Es[i].1,.int .i64 Es[i].2] := fun h => bF ..;have g5 := au Es;have vN' : Es[i].2 < (N : Int) := vn;unfold KN;simp [Kc,Kb,Ka,J9,J8,J7,J6,J5,J4,J3,h1,bz,hw,u0,v0,u0',v0',un,vn,uv,uN,vN,su,sv,su',sv',gu,gv,gu',gv',g1,g2,g5,ou,ov,eu,ev,hA,eln,vX,idx,IntKind.bits,fz,pl,AV.leaf,aJ]
theorem Ak {N : Nat} {Es : List Ed} (h : kC (N : Int) Es) : (n6 N Es).length = N /\ Small (n6 N Es) /\ ∀ a b : Nat,((n6 N Es).getD a 0).testBit b = (decide (((a : Int),(b : Int)) ∈ Es) || decide (((b : Int),(a : Int)) ∈ Es)) := by
 have hn := h.1;obtain ⟨i1,i2,i3⟩ := GQ N (by omega) Es (aM N 0) (by simp) (fun x hx => by have := mL hx; omega) h.2.2;refine ⟨i1,i2,fun a b => ?_⟩;unfold n6;rw [i3];have : ((aM N 0).getD a 0) = 0 := by rw [bk,List.getElem?_replicate]; split <;> rfl
 rw [this,Nat.zero_testBit,Bool.false_or]
theorem Wz {N : Nat} {Es : List Ed} (h : kC (N : Int) Es) (hE : Es.length < 4294967295) : bf aj Pv [.agg [.int .i64 N,.list 2 (bc Es)]] [] = some (.list 1 (us (n6 N Es)),[]) := by
 have hn : N <= 64 := by have := h.1; omega
 have hl := HO N hn Es hE h.2.2 Es.length 0 (aM N 0) (by omega) (by simp) (fun x hx => by have := mL hx; omega);rw [iB,b9] at hl;have r1 : aM N (AV.int .u64 0) = us (aM N 0) := adH N;have n0 : ¬ (N : Int) < 0 := by omega
 have nL : (N : Int) <= 4294967296 := by omega
 have m1 : max (N : Int) 0 = (N : Int) := by omega
 have m2 : ¬ (64 : Int) < N := by omega
 have ea : vR Es (aM N 0) = n6 N Es := rfl;rw [ea] at hl;have tk : (us (n6 N Es)).take (n6 N Es).length = us (n6 N Es) := by rw [aaj,cX]
 have e := (Ak h).1
 have tkr : (us (aM N 0)).take N = us (aM N 0) := by
  have := cX (l := us (aM N 0))
  rwa [vX,dT] at this
 rw [e] at tk;have g5 := au Es;rw [aB oQb6 sQb6 (ab rfl)];unfold qQb6 cQb6;generalize bc Es = Y at *;simp [Kc,Kb,Ka,J9,J8,J7,J6,J5,J4,J3,hl,r1,tkr,e,dT,n0,nL,m1,m2,vX,tk,g5,kR,aJ,df,pl,aY,aV]
/- What TrailingZeros64 and masks.List return. -/
theorem afn : aj.gl 0 = LG.map (AV.int .u8) := rfl
theorem adM : ∀ k,k < 64 -> 2 ^ k * 285870213051353865 % 18446744073709551616 / 288230376151711744 < 64 /\ (LG.map (AV.int .u8)).drop (2 ^ k * 285870213051353865 % 18446744073709551616 / 288230376151711744) = .int .u8 (k : Nat) :: (LG.map (AV.int .u8)).drop (2 ^ k * 285870213051353865 % 18446744073709551616 / 288230376151711744 + 1) := by
 intro k hk;have h1 : ∀ k,k < 64 -> 2 ^ k * 285870213051353865 % 18446744073709551616 / 288230376151711744 < 64 /\ LG[2 ^ k * 285870213051353865 % 18446744073709551616 / 288230376151711744]? = some ((k : Nat) : Int) := by decide +kernel
 obtain ⟨a,b⟩ := h1 k hk;refine ⟨a,?_⟩;generalize 2 ^ k * 285870213051353865 % 18446744073709551616 / 288230376151711744 = j at a b;obtain ⟨hj,e⟩ := List.getElem?_eq_some_iff.1 b;rw [aP (by simpa using hj),List.getElem_map,e]
theorem powc (n : Nat) : (2 : Int) ^ n = ((2 ^ n : Nat) : Int) := by simp
theorem ab8 (q s : Nat) (hs : s < 64) : oM .shr (.int .u64 (q : Int)) (.int .u64 (s : Int)) = some (.int .u64 ((q / 2 ^ s : Nat) : Int)) := by
 unfold oM;simp only;have hp : 0 < 2 ^ s := Nat.two_pow_pos s;rw [if_neg (by omega),show min (s : Int).toNat IntKind.u64.bits = s by (show min (s : Int).toNat 64 = s); omega,powc,Int.fdiv_eq_ediv_of_nonneg _ (Int.natCast_nonneg _)];rfl
theorem aca (a b : Nat) (ha : a < 18446744073709551616) (hb : b < 18446744073709551616) : oM .and (.int .u64 (a : Int)) (.int .u64 (b : Int)) = some (.int .u64 ((a &&& b : Nat) : Int)) := by
 unfold oM;simp only [if_true,arith,u64_and_nat a b ha hb]
theorem ab9 (a b : Nat) : oM .mul (.int .u64 (a : Int)) (.int .u64 (b : Int)) = some (.int .u64 ((a * b % 18446744073709551616 : Nat) : Int)) := by
 unfold oM;simp only [if_true,arith,IntKind.wrap_u64];rw [<- Int.natCast_mul];rfl
theorem Mu {c : dR} {call : Nat -> List AV -> Heap -> Option (AV × Heap)} : ∀ (a b : List O) (s : St) {s' s'' : St} {f g : List Fq},mn c call a s = some (s',f) -> mn c call b s' = some (s'',g) -> mn c call (a ++ b) s = some (s'',f ++ g)
 | [],b,s,s',s'',f,g,h,k => by
   simp only [mn,ai,aF] at h;obtain ⟨rfl,rfl⟩ := h;exact k
 | o :: r,b,s,s',s'',f,g,h,k => by
   simp only [mn,List.cons_append] at h ⊢;split at h
   case h_2 => cases h
   rename_i s1 fl h1;split at h
   case h_2 => cases h
   rename_i s2 oL h2;simp only [ai,aF] at h;obtain ⟨rfl,rfl⟩ := h;rw [Mu r b s1 h2 k];rfl
theorem tz_a (x : Nat) (h0 : x ≠ 0) (hx : x < 18446744073709551616) : ∃ (y p q j : Int) (T : List AV),mn aj (bf aj) (uG.take 6) ⟨[(0,.int .u64 x),(4,.bool false)],[]⟩ = some (⟨[(0,.int .u64 x),(4,.bool false),(5,.int .u64 x),(6,.int .u64 x),(7,.int .u64 y),(8,.int .u64 p),(9,.int .u64 q),(10,.int .u64 j)],[]⟩,[.no,.no,.no,.no,.no,.no]) /\ (0 <= j /\ j < 64) /\ (aj.gl 0).drop j.toNat = .int .u8 (tz x : Nat) :: T /\ tz x < 64 := by
 obtain ⟨e1,e2⟩ := Lib.lowest_bit 64 x h0 hx;have e2 : tz x < 64 := e2;have e1 : x &&& (18446744073709551616 - x) = 2 ^ tz x := e1;obtain ⟨e3,e4⟩ := adM (tz x) e2
 have b1 : oM .eql (.int .u64 (x : Int)) (.int .u64 0) = some (.bool false) := by
  have : ((x : Int) == 0) = false := by rw [beq_eq_false_iff_ne]; omega
  unfold oM;simp only [if_true,arith,this]
 have u1 : Oq .neg (.int .u64 (x : Int)) = some (.int .u64 ((18446744073709551616 - x : Nat) : Int)) := by
  unfold Oq;simp only [IntKind.wrap_u64];rw [show (0 - (x : Int)) % 18446744073709551616 = ((18446744073709551616 - x : Nat) : Int) by omega]
 have b2 := aca x (18446744073709551616 - x) hx (by omega);rw [e1] at b2;have b3 := ab9 (2 ^ tz x) 285870213051353865;have b4 := ab8 (2 ^ tz x * 285870213051353865 % 18446744073709551616) 58 (by omega);rw [show (2 ^ 58 : Nat) = 288230376151711744 from rfl] at b4;generalize 2 ^ tz x * 285870213051353865 % 18446744073709551616 / 288230376151711744 = j at *;generalize 2 ^ tz x * 285870213051353865 % 18446744073709551616 = q at *;generalize 2 ^ tz x = p at *;have b3 : oM .mul (.int .u64 (p : Int)) (.int .u64 285870213051353865) = some (.int .u64 (q : Int)) := b3;have b4 : oM .shr (.int .u64 (q : Int)) (.int .u64 58) = some (.int .u64 (j : Int)) := b4;have f5 : (j : Int) < 64 := by omega
 have f6 : IntKind.i64.wrap ((tz x : Nat) : Int) = ((tz x : Nat) : Int) := HB (by omega);clear e1;generalize tz x = z at *;generalize 18446744073709551616 - x = y at *;generalize (x : Int) = X at *;generalize hC : (285870213051353865 : Int) = C at *;rw [<- afn] at e4;refine ⟨y,p,q,j,_,?_,⟨by omega,f5⟩,by rw [show (j : Int).toNat = j by omega]; exact e4,e2⟩;clear e4 e3 e2 f6;generalize (j : Int) = J at *;generalize (q : Int) = Q at *;generalize (p : Int) = Pp at *;generalize (y : Int) = Y at *;unfold uG;simp [Ep,Eo,O1,uG,List.take_succ_cons,List.take_zero,b1,u1,b2,hC,b3,b4,aJ,au,aO,bF,cB,az,aC,aA,ae,aI,aT,aY,aV,-oM,-Oq,-Oq]
theorem tz_b (X Y Pp Q J : Int) (z : Nat) (T : List AV) (h0 : 0 <= J) (h1 : J < 64) (hz : z < 64) (h : (aj.gl 0).drop J.toNat = .int .u8 (z : Nat) :: T) : ∃ T',mn aj (bf aj) (uG.drop 6) ⟨[(0,.int .u64 X),(4,.bool false),(5,.int .u64 X),(6,.int .u64 X),(7,.int .u64 Y),(8,.int .u64 Pp),(9,.int .u64 Q),(10,.int .u64 J)],[]⟩ = some (⟨[(0,.int .u64 X),(2,.int .i64 (z : Nat)),(4,.bool false),(5,.int .u64 X),(6,.int .u64 X),(7,.int .u64 Y),(8,.int .u64 Pp),(9,.int .u64 Q),(10,.int .u64 J),(11,.dh T'),(12,.int .u8 (z : Nat)),(13,.int .i64 (z : Nat))],[]⟩,[.no,.rd [],.no,.no]) := by
 refine ⟨.int .u8 (z : Nat) :: T,?_⟩;have hw := HB (i := z) (by omega);generalize hG : aj.gl 0 = G at *;unfold uG;simp [Ep,Eo,O1,uG,List.drop_succ_cons,b9,h0,h1,hG,h,hw,idx,aJ,au,aO,bF,cB,az,aC,aA,ae,aI,aT,aY,aV]
theorem adI (x : Nat) (h0 : x ≠ 0) (hx : x < 18446744073709551616) : bf aj Pw [.int .u64 x] [] = some (.int .i64 (tz x : Nat),[]) := by
 rw [aB oQb5 sQb5 (ab rfl)];obtain ⟨y,p,q,j,T,r1,⟨j0,j1⟩,r2,r3⟩ := tz_a x h0 hx;obtain ⟨T',r4⟩ := tz_b x y p q j (tz x) T j0 j1 r3 r2;have r5 := Mu _ _ _ r1 r4;rw [List.take_append_drop] at r5
 have r6 : bj aj 0 (.aH uG false [] [2]) ⟨[(0,.int .u64 x),(4,.bool false)],[]⟩ = some (.normal,⟨[(2,.int .i64 (tz x : Nat))],[]⟩) := by
  rw [Jh,r5];clear r1 r2 r3 r4 r5;simp [WK,PZ,qD,bJ,ZA,pI,trim,MN,Iz]
 have b1 : oM .eql (.int .u64 (x : Int)) (.int .u64 0) = some (.bool false) := by
  have : ((x : Int) == 0) = false := by rw [beq_eq_false_iff_ne]; omega
  unfold oM;simp only [if_true,arith,this]
 clear r1 r2 r3 r4 r5 h0 hx;generalize ((tz x : Nat) : Int) = z at *;generalize (x : Int) = X at *
 have r7 : bj aj 0 (.aH Eo false [] [0,4]) ⟨[(0,.int .u64 X)],[]⟩ = some (.normal,⟨[(0,.int .u64 X),(4,.bool false)],[]⟩) := by
  unfold Eo;simp [u4,uZ,uY,uX,uW,uV,uU,uT,uS,b1,aJ,au,aO,bF,cB,az,aC,aA,ae,aI,aT,aY,aV,-oM]
 have r8 : bj aj 0 (.aH Ep false [] [0]) ⟨[(0,.int .u64 X)],[]⟩ = some (.normal,⟨[(0,.int .u64 X)],[]⟩) := by
  unfold Ep;simp [u4,uZ,uY,uX,uW,uV,uU,uT,uS,aJ,au,aO,bF,cB,az,aC,aA,ae,aI,aT,aY,aV]
 show aY aj _ _ 0 (bj aj 0 cQb5 ⟨[(0,.int .u64 X)],[]⟩) = _;unfold cQb5;rw [kh,r8,oX,kh,kh,r7,oX,Ji];show aY aj _ _ 0 (HH aj 0 _ (bj aj 0 .skip ⟨[(0,.int .u64 X),(4,.bool false)],[]⟩)) = _;rw [Gj,oX,kh,r6,oX,Jg];simp [aY,aV,qQb5,oR,Uo,bp,ep,IY,nJ,kY,PX]
theorem UK : ∀ (m : Nat),m < 18446744073709551616 -> ∀ (o : List Int),o.length + (tY m).length <= 64 -> bj aj 0 (.loop KP) ⟨[(0,.int .u64 m),(3,.own 1 (ints o))],[]⟩ = some (.exit 0,⟨[(0,.int .u64 (0 : Nat)),(3,.own 1 (ints (o ++ tY m))),(5,.bool false)],[]⟩) := by
 intro m
 induction m using Nat.strongRecOn with
 | ind m ih =>
   intro hm o hL;by_cases h0 : m = 0
   ·subst h0;rw [Vu,List.append_nil];exact bm (by unfold KP; simp [Kn,Km,Kl,Kk,Kj,Ki,aJ,au,aO,bF,cB,az,aC,aA,ae,aI,aT,aY,aV])
   ·have n0 : ¬ ((m : Int) = 0) := by omega
    have hd := abz h0;have ht := adI m h0 hm;have w1 := decU h0 hm;have w2 := u64_and_nat m (m - 1) hm (by omega);rw [Js h0 hm,List.length_cons] at hL;have hL1 : o.length + 1 <= 4294967296 := by omega
    have ih := ih (m &&& (m - 1)) hd (by omega) (o ++ [(tz m : Int)]) (by simp; omega);rw [Js h0 hm];rw [List.append_assoc] at ih;generalize (m : Int) = X at *;exact (aR (by unfold KP; simp [Kn,Km,Kl,Kk,Kj,Ki,n0,ht,w1,w2,hL1,kR,er,dE,sQb5,iQb5,lQb5,aJ,au,aO,bF,cB,az,aC,aA,ae,aI,aT,aY,aV])).trans ih
theorem Yu (m : Nat) (hm : m < 18446744073709551616) : bf aj PD [.int .u64 m] [] = some (.list 1 (ints (tY m)),[]) := by
 rw [aB oQa2 sQa2 (ab rfl)];have h := UK m hm [] (by have := Z4 m; simpa using this);rw [List.nil_append,iB,ec] at h;unfold qQa2 cQa2;simp [Kn,Km,Kl,Kk,Kj,Ki,h,dE,aJ,au,aO,bF,cB,az,aC,aA,ae,aI,aT,aY,aV]
end Go.BmP
