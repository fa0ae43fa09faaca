/- Bipartite graphs as bits: plain facts. -/
import Derived.Test.YtoobjomjclombaaDoorRvG
import Derived.Test.YtoobjomjclombaaDoorUseM
import Derived.Test.YtoobjomjclombaaDoorR02d
import Derived.Test.YtoobjomjclombaaDoorCfS
set_option linter.unusedVariables false
set_option linter.unusedSimpArgs false
namespace Go.Bm
open Go.Am
def us (l : List Nat) : List AV := l.map fun n => .int .u64 ((n : Nat) : Int)
theorem us_length (l : List Nat) : (us l).length = l.length := List.length_map _
theorem us_get (l : List Nat) (i : Nat) : (us l)[i]? = (l[i]?).map (fun n => .int .u64 ((n : Nat) : Int)) := List.getElem?_map
theorem us_set (l : List Nat) (i n : Nat) : (us l).set i (.int .u64 (n : Int)) = us (l.set i n) := by simp [us,List.map_set]
theorem us_rep (n : Nat) : List.replicate n (AV.int .u64 0) = us (List.replicate n 0) := by simp [us]
theorem us_take (l : List Nat) (n : Nat) : (us l).take n = us (l.take n) := by simp [us]
def Small (A : List Nat) : Prop := ∀ x ∈ A,x < 18446744073709551616
theorem pow_lt64 {v : Int} (h : v < 64) (h0 : 0 <= v) : 2 ^ v.toNat < 18446744073709551616 := by
 have := Nat.pow_lt_pow_right (a := 2) (by decide) (show v.toNat < 64 by omega);exact this
def adF (A : List Nat) (e : Ed) : List Nat :=
 (A.set e.1.toNat (A.getD e.1.toNat 0 ||| 2 ^ e.2.toNat)).set e.2.toNat ((A.set e.1.toNat (A.getD e.1.toNat 0 ||| 2 ^ e.2.toNat)).getD e.2.toNat 0 ||| 2 ^ e.1.toNat)
theorem adF_length (A : List Nat) (e : Ed) : (adF A e).length = A.length := by simp [adF]
theorem getD_lt {A : List Nat} (h : Small A) (i : Nat) : A.getD i 0 < 18446744073709551616 := by
 rw [List.getD_eq_getElem?_getD];cases e : A[i]? with
 | none => simp
 | some x => exact h x (List.mem_of_getElem? e)
theorem set_small {A : List Nat} (h : Small A) {i n : Nat} (hn : n < 18446744073709551616) : Small (A.set i n) := by
 intro x hx;rcases List.mem_or_eq_of_mem_set hx with h1 | h1
 ·exact h x h1
 ·omega
theorem adF_small {A : List Nat} (h : Small A) {e : Ed} (h1 : 0 <= e.1 /\ e.1 < 64) (h2 : 0 <= e.2 /\ e.2 < 64) : Small (adF A e) := by
 have s1 : Small (A.set e.1.toNat (A.getD e.1.toNat 0 ||| 2 ^ e.2.toNat)) := set_small h (Nat.or_lt_two_pow (n := 64) (getD_lt h _) (pow_lt64 h2.2 h2.1));exact set_small s1 (Nat.or_lt_two_pow (n := 64) (getD_lt s1 _) (pow_lt64 h1.2 h1.1))
theorem adF_bit {A : List Nat} {e : Ed} (h1 : 0 <= e.1 /\ e.1.toNat < A.length) (h2 : 0 <= e.2 /\ e.2.toNat < A.length) (hne : e.1 ≠ e.2) (a b : Nat) : ((adF A e).getD a 0).testBit b = ((A.getD a 0).testBit b || (decide ((a : Int) = e.1 /\ (b : Int) = e.2) || decide ((a : Int) = e.2 /\ (b : Int) = e.1))) := by
 have hn : e.1.toNat ≠ e.2.toNat := by omega
 unfold adF;simp only [List.getD_eq_getElem?_getD,List.getElem?_set,List.length_set,if_neg hn,if_neg (Ne.symm hn)];by_cases ha : e.2.toNat = a
 ·subst ha;rw [if_pos rfl,if_pos h2.2];simp only [Option.getD_some,Nat.testBit_or,Nat.testBit_two_pow];congr 1;have e1 : ¬ ((e.2.toNat : Int) = e.1) := by omega
  have e2 : ((e.2.toNat : Int) = e.2) := by omega
  have e3 : ¬ (e.2 = e.1) := fun k => hne k.symm;simp only [e1,e2,e3,false_and,true_and,decide_false,Bool.false_or];rw [Bool.eq_iff_iff,decide_eq_true_eq,decide_eq_true_eq]; omega
 ·rw [if_neg ha];have e2 : ¬ ((a : Int) = e.2) := by omega
  by_cases hb : e.1.toNat = a
  ·subst hb;rw [if_pos rfl,if_pos h1.2];simp only [Option.getD_some,Nat.testBit_or,Nat.testBit_two_pow];congr 1;have e1 : ((e.1.toNat : Int) = e.1) := by omega
   have e3 : ¬ (e.1 = e.2) := hne;simp only [e1,e2,e3,false_and,true_and,decide_false,Bool.or_false];rw [Bool.eq_iff_iff,decide_eq_true_eq,decide_eq_true_eq];omega
  ·rw [if_neg hb];have e1 : ¬ ((a : Int) = e.1) := by omega
   simp [e1,e2]
def adjOf (l : List Ed) (A : List Nat) : List Nat := l.foldl adF A
theorem adjOf_spec (N : Nat) (hN : N <= 64) : ∀ (l : List Ed) (A : List Nat),A.length = N -> Small A -> (∀ e ∈ l,0 <= e.1 /\ e.1 < e.2 /\ e.2 < (N : Int)) -> (adjOf l A).length = N /\ Small (adjOf l A) /\ ∀ a b : Nat,((adjOf l A).getD a 0).testBit b = ((A.getD a 0).testBit b || (decide (((a : Int),(b : Int)) ∈ l) || decide (((b : Int),(a : Int)) ∈ l)))
 | [],A,hl,hs,_ => ⟨hl,hs,fun a b => by simp [adjOf]⟩
 | e :: r,A,hl,hs,h => by
   have he := h e (by simp);obtain ⟨i1,i2,i3⟩ := adjOf_spec N hN r (adF A e) (by rw [adF_length]; exact hl) (adF_small hs (by omega) (by omega)) (fun x hx => h x (by simp [hx]));refine ⟨i1,i2,fun a b => ?_⟩;show ((adjOf r (adF A e)).getD a 0).testBit b = _;rw [i3,adF_bit (by omega) (by omega) (by omega)];rw [Bool.eq_iff_iff];simp only [Bool.or_eq_true,decide_eq_true_eq,List.mem_cons,Prod.ext_iff];constructor
   ·rintro ((h | (h | h)) | (h | h))
    ·exact .inl h
    ·exact .inr (.inl (.inl h))
    ·exact .inr (.inr (.inl ⟨h.2,h.1⟩))
    ·exact .inr (.inl (.inr h))
    ·exact .inr (.inr (.inr h))
   ·rintro (h | ((h | h) | (h | h)))
    ·exact .inl (.inl h)
    ·exact .inl (.inr (.inl h))
    ·exact .inr (.inl h)
    ·exact .inl (.inr (.inr ⟨h.2,h.1⟩))
    ·exact .inr (.inr h)
def comL (A : List Nat) (side : Nat) (l : List Int) : Nat := l.foldl (fun s v => s &&& A.getD v.toNat 0) side
structure BOK (N : Nat) (E : List Ed) (L : List Int) : Prop where
 n : N <= 64
 e : UpE E /\ ∀ e ∈ E,0 <= e.1 /\ e.1 < e.2 /\ e.2 < (N : Int)
 l : Up L /\ ∀ x ∈ L,0 <= x /\ x < (N : Int)
 s : ∀ e ∈ E,e.1 ∈ L ↔ ¬ e.2 ∈ L
def jn (E : List Ed) (a b : Int) : Prop := (a,b) ∈ E \/ (b,a) ∈ E
instance (E : List Ed) (a b : Int) : Decidable (jn E a b) := by unfold jn; infer_instance
def adjE (N : Nat) (E : List Ed) : List Nat := adjOf E (List.replicate N 0)
def rgt (N : Nat) (L : List Int) : Nat := (2 ^ N - 1) &&& (18446744073709551615 - msk L)
def cR (N : Nat) (E : List Ed) (L S : List Int) : Nat := comL (adjE N E) (rgt N L) (bitL (msk S))
def cL (N : Nat) (E : List Ed) (L : List Int) (r : Nat) : Nat := comL (adjE N E) (msk L) (bitL r)
def clR (N : Nat) (E : List Ed) (L S : List Int) : List Int := bitL (cR N E L S)
def clL (N : Nat) (E : List Ed) (L S : List Int) : List Int := bitL (cL N E L (cR N E L S))
end Go.Bm
/- What the bits of biclique return: TrailingZeros64, list, mask. -/
set_option maxRecDepth 100000
set_option maxHeartbeats 4000000
namespace Go.BmP
open Go.Am Go.Bm
theorem gl_tab : cfgS.gl 0 = tabZ.map (AV.int .u8) := rfl
theorem tab_at : ∀ k,k < 64 -> 2 ^ k * 285870213051353865 % 18446744073709551616 / 288230376151711744 < 64 /\ (tabZ.map (AV.int .u8)).drop (2 ^ k * 285870213051353865 % 18446744073709551616 / 288230376151711744) = .int .u8 (k : Nat) :: (tabZ.map (AV.int .u8)).drop (2 ^ k * 285870213051353865 % 18446744073709551616 / 288230376151711744 + 1) := by
 intro k hk;have h1 : ∀ k,k < 64 -> 2 ^ k * 285870213051353865 % 18446744073709551616 / 288230376151711744 < 64 /\ tabZ[2 ^ k * 285870213051353865 % 18446744073709551616 / 288230376151711744]? = some ((k : Nat) : Int) := by decide +kernel
 obtain ⟨a,b⟩ := h1 k hk;refine ⟨a,?_⟩;generalize 2 ^ k * 285870213051353865 % 18446744073709551616 / 288230376151711744 = j at a b;obtain ⟨hj,e⟩ := List.getElem?_eq_some_iff.1 b;rw [List.drop_eq_getElem_cons (by simpa using hj),List.getElem_map,e]
theorem powc (n : Nat) : (2 : Int) ^ n = ((2 ^ n : Nat) : Int) := by simp
theorem bin_shr (q s : Nat) (hs : s < 64) : binA .shr (.int .u64 (q : Int)) (.int .u64 (s : Int)) = some (.int .u64 ((q / 2 ^ s : Nat) : Int)) := by
 unfold binA;simp only;have hp : 0 < 2 ^ s := Nat.two_pow_pos s;rw [if_neg (by omega),show min (s : Int).toNat IntKind.u64.bits = s by (show min (s : Int).toNat 64 = s); omega,powc,Int.fdiv_eq_ediv_of_nonneg _ (Int.natCast_nonneg _)];rfl
theorem bin_and (a b : Nat) (ha : a < 18446744073709551616) (hb : b < 18446744073709551616) : binA .and (.int .u64 (a : Int)) (.int .u64 (b : Int)) = some (.int .u64 ((a &&& b : Nat) : Int)) := by
 unfold binA;simp only [if_true,arith,u64_and_nat a b ha hb]
theorem bin_mul (a b : Nat) : binA .mul (.int .u64 (a : Int)) (.int .u64 (b : Int)) = some (.int .u64 ((a * b % 18446744073709551616 : Nat) : Int)) := by
 unfold binA;simp only [if_true,arith,IntKind.wrap_u64];rw [<- Int.natCast_mul];rfl
theorem opsB_app {c : Cfg} {call : Nat -> List AV -> Heap -> Option (AV × Heap)} : ∀ (a b : List O) (s : St) {s' s'' : St} {f g : List Fq},opsB c call a s = some (s',f) -> opsB c call b s' = some (s'',g) -> opsB c call (a ++ b) s = some (s'',f ++ g)
 | [],b,s,s',s'',f,g,h,k => by
   simp only [opsB,Option.some.injEq,Prod.mk.injEq] at h;obtain ⟨rfl,rfl⟩ := h;exact k
 | o :: r,b,s,s',s'',f,g,h,k => by
   simp only [opsB,List.cons_append] at h ⊢;split at h
   case h_2 => cases h
   rename_i s1 fl h1;split at h
   case h_2 => cases h
   rename_i s2 fls h2;simp only [Option.some.injEq,Prod.mk.injEq] at h;obtain ⟨rfl,rfl⟩ := h;rw [opsB_app r b s1 h2 k];rfl
theorem tz_a (x : Nat) (h0 : x ≠ 0) (hx : x < 18446744073709551616) : ∃ (y p q j : Int) (T : List AV),opsB cfgS (callL cfgS) (rQOX3.take 6) ⟨[(0,.int .u64 x),(4,.bool false)],[]⟩ = some (⟨[(0,.int .u64 x),(4,.bool false),(5,.int .u64 x),(6,.int .u64 x),(7,.int .u64 y),(8,.int .u64 p),(9,.int .u64 q),(10,.int .u64 j)],[]⟩,[.no,.no,.no,.no,.no,.no]) /\ (0 <= j /\ j < 64) /\ (cfgS.gl 0).drop j.toNat = .int .u8 (tz x : Nat) :: T /\ tz x < 64 := by
 obtain ⟨e1,e2⟩ := Lib.lowest_bit 64 x h0 hx;have e2 : tz x < 64 := e2;have e1 : x &&& (18446744073709551616 - x) = 2 ^ tz x := e1;obtain ⟨e3,e4⟩ := tab_at (tz x) e2
 have b1 : binA .eql (.int .u64 (x : Int)) (.int .u64 0) = some (.bool false) := by
  have : ((x : Int) == 0) = false := by rw [beq_eq_false_iff_ne]; omega
  unfold binA;simp only [if_true,arith,this]
 have u1 : unA .neg (.int .u64 (x : Int)) = some (.int .u64 ((18446744073709551616 - x : Nat) : Int)) := by
  unfold unA;simp only [IntKind.wrap_u64];rw [show (0 - (x : Int)) % 18446744073709551616 = ((18446744073709551616 - x : Nat) : Int) by omega]
 have b2 := bin_and x (18446744073709551616 - x) hx (by omega);rw [e1] at b2;have b3 := bin_mul (2 ^ tz x) 285870213051353865;have b4 := bin_shr (2 ^ tz x * 285870213051353865 % 18446744073709551616) 58 (by omega);rw [show (2 ^ 58 : Nat) = 288230376151711744 from rfl] at b4;generalize 2 ^ tz x * 285870213051353865 % 18446744073709551616 / 288230376151711744 = j at *;generalize 2 ^ tz x * 285870213051353865 % 18446744073709551616 = q at *;generalize 2 ^ tz x = p at *;have b3 : binA .mul (.int .u64 (p : Int)) (.int .u64 285870213051353865) = some (.int .u64 (q : Int)) := b3;have b4 : binA .shr (.int .u64 (q : Int)) (.int .u64 58) = some (.int .u64 (j : Int)) := b4;have f5 : (j : Int) < 64 := by omega
 have f6 : IntKind.i64.wrap ((tz x : Nat) : Int) = ((tz x : Nat) : Int) := wrapN (by omega);clear e1;generalize tz x = z at *;generalize 18446744073709551616 - x = y at *;generalize (x : Int) = X at *;generalize hC : (285870213051353865 : Int) = C at *;rw [<- gl_tab] at e4;refine ⟨y,p,q,j,_,?_,⟨by omega,f5⟩,by rw [show (j : Int).toNat = j by omega]; exact e4,e2⟩;clear e4 e3 e2 f6;generalize (j : Int) = J at *;generalize (q : Int) = Q at *;generalize (p : Int) = Pp at *;generalize (y : Int) = Y at *;unfold rQOX3;simp [rQOX0,rQOX1,rQOX2,rQOX3,List.take_succ_cons,List.take_zero,b1,u1,b2,hC,b3,b4,blk,eds_length,eds_get,edsAt,edAV,allLeaf_eds,cleanL_eds,cleanL_ints,ints_length,ints_get,intsAt,endL,finB,-binA,-unA,-unA]
theorem tz_b (X Y Pp Q J : Int) (z : Nat) (T : List AV) (h0 : 0 <= J) (h1 : J < 64) (hz : z < 64) (h : (cfgS.gl 0).drop J.toNat = .int .u8 (z : Nat) :: T) : ∃ T',opsB cfgS (callL cfgS) (rQOX3.drop 6) ⟨[(0,.int .u64 X),(4,.bool false),(5,.int .u64 X),(6,.int .u64 X),(7,.int .u64 Y),(8,.int .u64 Pp),(9,.int .u64 Q),(10,.int .u64 J)],[]⟩ = some (⟨[(0,.int .u64 X),(2,.int .i64 (z : Nat)),(4,.bool false),(5,.int .u64 X),(6,.int .u64 X),(7,.int .u64 Y),(8,.int .u64 Pp),(9,.int .u64 Q),(10,.int .u64 J),(11,.fptr T'),(12,.int .u8 (z : Nat)),(13,.int .i64 (z : Nat))],[]⟩,[.no,.rd [],.no,.no]) := by
 refine ⟨.int .u8 (z : Nat) :: T,?_⟩;have hw := wrapN (i := z) (by omega);generalize hG : cfgS.gl 0 = G at *;unfold rQOX3;simp [rQOX0,rQOX1,rQOX2,rQOX3,List.drop_succ_cons,List.drop_zero,h0,h1,hG,h,hw,idx,blk,eds_length,eds_get,edsAt,edAV,allLeaf_eds,cleanL_eds,cleanL_ints,ints_length,ints_get,intsAt,endL,finB]
theorem tz_run (x : Nat) (h0 : x ≠ 0) (hx : x < 18446744073709551616) : callL cfgS nQO [.int .u64 x] [] = some (.int .i64 (tz x : Nat),[]) := by
 rw [callL_end oQO sQO (Nat.le_of_ble_eq_true rfl)];obtain ⟨y,p,q,j,T,r1,⟨j0,j1⟩,r2,r3⟩ := tz_a x h0 hx;obtain ⟨T',r4⟩ := tz_b x y p q j (tz x) T j0 j1 r3 r2;have r5 := opsB_app _ _ _ r1 r4;rw [List.take_append_drop] at r5
 have r6 : codeL cfgS 0 (.reg rQOX3 false [] [2]) ⟨[(0,.int .u64 x),(4,.bool false)],[]⟩ = some (.normal,⟨[(2,.int .i64 (tz x : Nat))],[]⟩) := by
  rw [codeL_reg,r5];clear r1 r2 r3 r4 r5;simp [regL_s,endR,hasOwnE,hasOwn,endK,keepIn,trim,mem_nil',mem_cons']
 have b1 : binA .eql (.int .u64 (x : Int)) (.int .u64 0) = some (.bool false) := by
  have : ((x : Int) == 0) = false := by rw [beq_eq_false_iff_ne]; omega
  unfold binA;simp only [if_true,arith,this]
 clear r1 r2 r3 r4 r5 h0 hx;generalize ((tz x : Nat) : Int) = z at *;generalize (x : Int) = X at *
 have r7 : codeL cfgS 0 (.reg rQOX1 false [] [0,4]) ⟨[(0,.int .u64 X)],[]⟩ = some (.normal,⟨[(0,.int .u64 X),(4,.bool false)],[]⟩) := by
  unfold rQOX1;simp [rQ4X0,rQ4X1,rQ4X2,rQ4X3,rQ4X4,rQ4X5,rQ4X6,rQ4X7,rQ4X8,b1,blk,eds_length,eds_get,edsAt,edAV,allLeaf_eds,cleanL_eds,cleanL_ints,ints_length,ints_get,intsAt,endL,finB,-binA]
 have r8 : codeL cfgS 0 (.reg rQOX0 false [] [0]) ⟨[(0,.int .u64 X)],[]⟩ = some (.normal,⟨[(0,.int .u64 X)],[]⟩) := by
  unfold rQOX0;simp [rQ4X0,rQ4X1,rQ4X2,rQ4X3,rQ4X4,rQ4X5,rQ4X6,rQ4X7,rQ4X8,blk,eds_length,eds_get,edsAt,edAV,allLeaf_eds,cleanL_eds,cleanL_ints,ints_length,ints_get,intsAt,endL,finB]
 show endL cfgS _ _ 0 (codeL cfgS 0 cQO ⟨[(0,.int .u64 X)],[]⟩) = _;unfold cQO;rw [codeL_seq,r8,thenL_n,codeL_seq,codeL_seq,r7,thenL_n,codeL_cnd];show endL cfgS _ _ 0 (thenL cfgS 0 _ (codeL cfgS 0 .skip ⟨[(0,.int .u64 X),(4,.bool false)],[]⟩)) = _;rw [codeL_skip,thenL_n,codeL_seq,r6,thenL_n,codeL_ret];simp [endL,finB,qQO,resVs,resV,opnd,lend,get_cons',tupOf,frzV,frzR]
theorem mlist_loop : ∀ (m : Nat),m < 18446744073709551616 -> ∀ (o : List Int),o.length + (bitL m).length <= 64 -> codeL cfgS 0 (.loop lQUX0) ⟨[(0,.int .u64 m),(3,.own 1 (ints o))],[]⟩ = some (.exit 0,⟨[(0,.int .u64 (0 : Nat)),(3,.own 1 (ints (o ++ bitL m))),(5,.bool false)],[]⟩) := by
 intro m
 induction m using Nat.strongRecOn with
 | ind m ih =>
   intro hm o hL;by_cases h0 : m = 0
   ·subst h0;rw [bitL_zero,List.append_nil];exact loop_exit (by unfold lQUX0; simp [rQUX0,rQUX1,rQUX2,rQUX3,rQUX4,rQUX5,blk,eds_length,eds_get,edsAt,edAV,allLeaf_eds,cleanL_eds,cleanL_ints,ints_length,ints_get,intsAt,endL,finB])
   ·have n0 : ¬ ((m : Int) = 0) := by omega
    have hd := drop_lt h0;have ht := tz_run m h0 hm;have w1 := decU h0 hm;have w2 := u64_and_nat m (m - 1) hm (by omega);rw [bitL_step h0 hm,List.length_cons] at hL;have hL1 : o.length + 1 <= 4294967296 := by omega
    have ih := ih (m &&& (m - 1)) hd (by omega) (o ++ [(tz m : Int)]) (by simp; omega);rw [bitL_step h0 hm];rw [List.append_assoc] at ih;generalize (m : Int) = X at *;exact (loop_next (by unfold lQUX0; simp [rQUX0,rQUX1,rQUX2,rQUX3,rQUX4,rQUX5,n0,ht,w1,w2,hL1,LIM,ints_snoc,ints_take,sQO,iQO,lQO,blk,eds_length,eds_get,edsAt,edAV,allLeaf_eds,cleanL_eds,cleanL_ints,ints_length,ints_get,intsAt,endL,finB])).trans ih
theorem mlist_run (m : Nat) (hm : m < 18446744073709551616) : callL cfgS nQU [.int .u64 m] [] = some (.list 1 (ints (bitL m)),[]) := by
 rw [callL_end oQU sQU (Nat.le_of_ble_eq_true rfl)];have h := mlist_loop m hm [] (by have := bitL_len m; simpa using this);rw [List.nil_append,nat0,ints_nil] at h;unfold qQU cQU;simp [rQUX0,rQUX1,rQUX2,rQUX3,rQUX4,rQUX5,h,ints_take,blk,eds_length,eds_get,edsAt,edAV,allLeaf_eds,cleanL_eds,cleanL_ints,ints_length,ints_get,intsAt,endL,finB]
/- What functions of cohesionref03 return: Before, edge, ends, with, Of, Check. -/
theorem before_run (a b : Ed) : callL cfgS nQX [.agg [.int .i64 a.1,.int .i64 a.2],.agg [.int .i64 b.1,.int .i64 b.2]] [] = some (.bool (decide (ltE a b)),[]) := by
 rw [callL_end oQX sQX (Nat.le_of_ble_eq_true rfl)];unfold qQX cQX ltE;by_cases h1 : a.1 < b.1
 ·simp [rQXX0,rQXX1,h1,blk,eds_length,eds_get,edsAt,edAV,allLeaf_eds,cleanL_eds,cleanL_ints,ints_length,ints_get,intsAt,endL,finB]
 ·by_cases h2 : a.1 = b.1
  ·by_cases h3 : a.2 < b.2
   ·simp [rQXX0,rQXX1,h1,h2,h3,blk,eds_length,eds_get,edsAt,edAV,allLeaf_eds,cleanL_eds,cleanL_ints,ints_length,ints_get,intsAt,endL,finB]
   ·simp [rQXX0,rQXX1,h1,h2,h3,blk,eds_length,eds_get,edsAt,edAV,allLeaf_eds,cleanL_eds,cleanL_ints,ints_length,ints_get,intsAt,endL,finB]
  ·simp [rQXX0,rQXX1,h1,h2,blk,eds_length,eds_get,edsAt,edAV,allLeaf_eds,cleanL_eds,cleanL_ints,ints_length,ints_get,intsAt,endL,finB]
theorem edge_run (u v : Int) : callL cfgS nQH [.int .i64 u,.int .i64 v] [] = some (.agg [.int .i64 (nrmE u v).1,.int .i64 (nrmE u v).2],[]) := by
 rw [callL_end oQH sQH (Nat.le_of_ble_eq_true rfl)];unfold qQH cQH nrmE;simp [rQHX0,rQHX1,blk,eds_length,eds_get,edsAt,edAV,allLeaf_eds,cleanL_eds,cleanL_ints,ints_length,ints_get,intsAt,endL,finB]
theorem ends_run (n u v : Int) : callL cfgS nQF [.int .i64 n,.int .i64 u,.int .i64 v] [] = some (.bool (decide (0 <= u /\ 0 <= v /\ u < n /\ v < n /\ u ≠ v)),[]) := by
 rw [callL_end oQF sQF (Nat.le_of_ble_eq_true rfl)];unfold qQF cQF;by_cases h1 : 0 <= u
 ·by_cases h2 : 0 <= v
  ·by_cases h3 : u < n
   ·by_cases h4 : v < n
    ·by_cases h5 : u = v
     ·subst h5;simp [rQFX0,rQFX1,h1,h3,blk,eds_length,eds_get,edsAt,edAV,allLeaf_eds,cleanL_eds,cleanL_ints,ints_length,ints_get,intsAt,endL,finB]
     ·simp [rQFX0,rQFX1,h1,h2,h3,h4,h5,blk,eds_length,eds_get,edsAt,edAV,allLeaf_eds,cleanL_eds,cleanL_ints,ints_length,ints_get,intsAt,endL,finB]
    ·simp [rQFX0,rQFX1,h1,h2,h3,h4,blk,eds_length,eds_get,edsAt,edAV,allLeaf_eds,cleanL_eds,cleanL_ints,ints_length,ints_get,intsAt,endL,finB]
   ·simp [rQFX0,rQFX1,h1,h2,h3,blk,eds_length,eds_get,edsAt,edAV,allLeaf_eds,cleanL_eds,cleanL_ints,ints_length,ints_get,intsAt,endL,finB]
  ·simp [rQFX0,rQFX1,h1,h2,blk,eds_length,eds_get,edsAt,edAV,allLeaf_eds,cleanL_eds,cleanL_ints,ints_length,ints_get,intsAt,endL,finB]
 ·simp [rQFX0,rQFX1,h1,blk,eds_length,eds_get,edsAt,edAV,allLeaf_eds,cleanL_eds,cleanL_ints,ints_length,ints_get,intsAt,endL,finB]
/- What graph.Check and what it calls returns. -/
theorem or_run (a b : Int) : callL cfgS nQ4 [.list 1 [.int .i64 a,.int .i64 b]] [] = some (.int .i64 (if a = 0 then b else a),[]) := by
 rw [callL_end oQ4 sQ4 (Nat.le_of_ble_eq_true rfl)];have t2 : IntKind.i64.wrap 2 = 2 := by decide
 have l3 : codeL cfgS 0 (.loop lQ4X0) ⟨[(3,.int .i64 0),(6,.list 1 [.int .i64 a,.int .i64 b]),(7,.int .i64 2),(8,.int .i64 2)],[]⟩ = some (.exit 0,⟨[(3,.int .i64 0),(6,.list 1 [.int .i64 a,.int .i64 b]),(7,.int .i64 2),(8,.int .i64 2),(9,.bool false)],[]⟩) :=
  loop_exit (by unfold lQ4X0; simp [rQ4X0,rQ4X1,rQ4X2,rQ4X3,rQ4X4,rQ4X5,rQ4X6,rQ4X7,rQ4X8,blk,eds_length,eds_get,edsAt,edAV,allLeaf_eds,cleanL_eds,cleanL_ints,ints_length,ints_get,intsAt,endL,finB])
 have l2 : codeL cfgS 0 (.loop lQ4X0) ⟨[(3,.int .i64 0),(6,.list 1 [.int .i64 a,.int .i64 b]),(7,.int .i64 2),(8,.int .i64 1)],[]⟩ = if b = 0 then some (.exit 0,⟨[(3,.int .i64 0),(6,.list 1 [.int .i64 a,.int .i64 b]),(7,.int .i64 2),(8,.int .i64 2),(9,.bool false)],[]⟩) else some (.ret,⟨[(2,.int .i64 b)],[]⟩) := by
  by_cases hb : b = 0
  ·subst hb;rw [if_pos rfl];exact (loop_next (by unfold lQ4X0; simp [rQ4X0,rQ4X1,rQ4X2,rQ4X3,rQ4X4,rQ4X5,rQ4X6,rQ4X7,rQ4X8,idx,t2,blk,eds_length,eds_get,edsAt,edAV,allLeaf_eds,cleanL_eds,cleanL_ints,ints_length,ints_get,intsAt,endL,finB])).trans l3
  ·rw [if_neg hb];exact loop_ret (by unfold lQ4X0; simp [rQ4X0,rQ4X1,rQ4X2,rQ4X3,rQ4X4,rQ4X5,rQ4X6,rQ4X7,rQ4X8,hb,idx,blk,eds_length,eds_get,edsAt,edAV,allLeaf_eds,cleanL_eds,cleanL_ints,ints_length,ints_get,intsAt,endL,finB])
 have l1 : codeL cfgS 0 (.loop lQ4X0) ⟨[(3,.int .i64 0),(6,.list 1 [.int .i64 a,.int .i64 b]),(7,.int .i64 2),(8,.int .i64 0)],[]⟩ = if a = 0 then (if b = 0 then some (.exit 0,⟨[(3,.int .i64 0),(6,.list 1 [.int .i64 a,.int .i64 b]),(7,.int .i64 2),(8,.int .i64 2),(9,.bool false)],[]⟩) else some (.ret,⟨[(2,.int .i64 b)],[]⟩)) else some (.ret,⟨[(2,.int .i64 a)],[]⟩) := by
  by_cases ha : a = 0
  ·subst ha;rw [if_pos rfl];exact (loop_next (by unfold lQ4X0; simp [rQ4X0,rQ4X1,rQ4X2,rQ4X3,rQ4X4,rQ4X5,rQ4X6,rQ4X7,rQ4X8,idx,blk,eds_length,eds_get,edsAt,edAV,allLeaf_eds,cleanL_eds,cleanL_ints,ints_length,ints_get,intsAt,endL,finB])).trans l2
  ·rw [if_neg ha];exact loop_ret (by unfold lQ4X0; simp [rQ4X0,rQ4X1,rQ4X2,rQ4X3,rQ4X4,rQ4X5,rQ4X6,rQ4X7,rQ4X8,ha,idx,blk,eds_length,eds_get,edsAt,edAV,allLeaf_eds,cleanL_eds,cleanL_ints,ints_length,ints_get,intsAt,endL,finB])
 clear l2 l3;unfold qQ4 cQ4;by_cases ha : a = 0
 ·subst ha;rw [if_pos rfl] at l1;by_cases hb : b = 0
  ·subst hb;rw [if_pos rfl] at l1;simp [rQ4X0,rQ4X1,rQ4X2,rQ4X3,rQ4X4,rQ4X5,rQ4X6,rQ4X7,rQ4X8,l1,blk,eds_length,eds_get,edsAt,edAV,allLeaf_eds,cleanL_eds,cleanL_ints,ints_length,ints_get,intsAt,endL,finB]
  ·rw [if_neg hb] at l1;simp [rQ4X0,rQ4X1,rQ4X2,rQ4X3,rQ4X4,rQ4X5,rQ4X6,rQ4X7,rQ4X8,l1,hb,blk,eds_length,eds_get,edsAt,edAV,allLeaf_eds,cleanL_eds,cleanL_ints,ints_length,ints_get,intsAt,endL,finB]
 ·rw [if_neg ha] at l1;simp [rQ4X0,rQ4X1,rQ4X2,rQ4X3,rQ4X4,rQ4X5,rQ4X6,rQ4X7,rQ4X8,l1,ha,blk,eds_length,eds_get,edsAt,edAV,allLeaf_eds,cleanL_eds,cleanL_ints,ints_length,ints_get,intsAt,endL,finB]
def ordI (a b : Ed) : Int := if cmpI a.1 b.1 = 0 then cmpI a.2 b.2 else cmpI a.1 b.1
theorem ordI_ge (a b : Ed) : 0 <= ordI a b ↔ ¬ ltE a b := by
 unfold ordI cmpI ltE;by_cases h1 : a.1 < b.1
 ·simp [h1]
 ·by_cases h2 : b.1 < a.1
  ·have : ¬ a.1 = b.1 := by omega
   simp [h1,h2,this]
  ·have : a.1 = b.1 := by omega
   simp only [h1,h2,this,if_false,if_true,true_and,false_or];by_cases h3 : a.2 < b.2
   ·simp [h3]
   ·by_cases h4 : b.2 < a.2 <;> simp [h3,h4]
theorem order_run (a b : Ed) : callL cfgS nQR [.agg [.int .i64 a.1,.int .i64 a.2],.agg [.int .i64 b.1,.int .i64 b.2]] [] = some (.int .i64 (ordI a b),[]) := by
 rw [callL_end oQR sQR (Nat.le_of_ble_eq_true rfl)];have c1 := cmpI_run a.1 b.1;have c2 := cmpI_run a.2 b.2;have c3 := or_run (cmpI a.1 b.1) (cmpI a.2 b.2);unfold qQR cQR ordI;simp [rQRX0,rQRX1,c1,c2,c3,sQ5,iQ5,lQ5,sQ4,iQ4,lQ4,blk,eds_length,eds_get,edsAt,edAV,allLeaf_eds,cleanL_eds,cleanL_ints,ints_length,ints_get,intsAt,endL,finB]
def prevE (l : List Ed) (i : Nat) : Option Ed := if i = 0 then none else l[i - 1]?
theorem prevE_zero (l : List Ed) : prevE l 0 = none := rfl
theorem prevE_succ (l : List Ed) (i : Nat) (h : i < l.length) : prevE l (i + 1) = some l[i] := by simp [prevE,h]
theorem gchk_loop (m : Int) (l : List Ed) (hl : l.length < 4294967297) : ∀ n i : Nat,i + n = l.length -> codeL cfgS 0 (.loop lQuX0) ⟨[(1,.ptr 0 0),(14,.list 2 (eds l)),(15,.int .i64 l.length),(16,.int .i64 i)],[some [.int .i64 m,.list 2 (eds l)]]⟩ =
  if chkGo m (prevE l i) (l.drop i) = 0 then some (.exit 0,⟨[(1,.ptr 0 0),(14,.list 2 (eds l)),(15,.int .i64 l.length),(16,.int .i64 l.length),(17,.bool false)],[some [.int .i64 m,.list 2 (eds l)]]⟩) else some (.ret,⟨[(2,.int .i64 (chkGo m (prevE l i) (l.drop i)))],[]⟩)
 | 0,i,hi => by
   have e : i = l.length := by omega
   subst e;rw [List.drop_length];exact loop_exit (by unfold lQuX0; simp [rQuX0,rQuX1,rQuX2,rQuX3,rQuX4,rQuX5,rQuX6,rQuX7,rQuX8,rQuX9,rQuX10,rQuX11,blk,eds_length,eds_get,edsAt,edAV,allLeaf_eds,cleanL_eds,cleanL_ints,ints_length,ints_get,intsAt,endL,finB])
 | n + 1,i,hi => by
   have hlt : i < l.length := by omega
   have h1 : (i : Int) < l.length := by omega
   have ih := gchk_loop m l hl n (i + 1) (by omega);have hw := wrapS (i := i) (by omega);rw [prevE_succ l i hlt] at ih;rw [List.drop_eq_getElem_cons hlt];by_cases ha : l[i].1 < 0
   ·have e : chkGo m (prevE l i) (l[i] :: l.drop (i + 1)) = 6 := by unfold chkGo; rw [if_pos (.inl ha)]
    rw [e];exact loop_ret (by unfold lQuX0; simp [rQuX0,rQuX1,rQuX2,rQuX3,rQuX4,rQuX5,rQuX6,rQuX7,rQuX8,rQuX9,rQuX10,rQuX11,h1,hlt,ha,idx,blk,eds_length,eds_get,edsAt,edAV,allLeaf_eds,cleanL_eds,cleanL_ints,ints_length,ints_get,intsAt,endL,finB])
   by_cases hb : l[i].2 <= l[i].1
   ·have e : chkGo m (prevE l i) (l[i] :: l.drop (i + 1)) = 6 := by unfold chkGo; rw [if_pos (.inr (.inl hb))]
    rw [e];exact loop_ret (by unfold lQuX0; simp [rQuX0,rQuX1,rQuX2,rQuX3,rQuX4,rQuX5,rQuX6,rQuX7,rQuX8,rQuX9,rQuX10,rQuX11,h1,hlt,ha,hb,idx,blk,eds_length,eds_get,edsAt,edAV,allLeaf_eds,cleanL_eds,cleanL_ints,ints_length,ints_get,intsAt,endL,finB])
   by_cases hc : m <= l[i].2
   ·have e : chkGo m (prevE l i) (l[i] :: l.drop (i + 1)) = 6 := by unfold chkGo; rw [if_pos (.inr (.inr hc))]
    rw [e];exact loop_ret (by unfold lQuX0; simp [rQuX0,rQuX1,rQuX2,rQuX3,rQuX4,rQuX5,rQuX6,rQuX7,rQuX8,rQuX9,rQuX10,rQuX11,h1,hlt,ha,hb,hc,idx,blk,eds_length,eds_get,edsAt,edAV,allLeaf_eds,cleanL_eds,cleanL_ints,ints_length,ints_get,intsAt,endL,finB])
   have hn : ¬ (l[i].1 < 0 \/ l[i].2 <= l[i].1 \/ m <= l[i].2) := by omega
   cases i with
   | zero =>
     have e : chkGo m (prevE l 0) (l[0] :: l.drop (0 + 1)) = chkGo m (some l[0]) (l.drop (0 + 1)) := by
      conv => lhs; unfold chkGo
      rw [if_neg hn,prevE_zero,if_neg (show ¬ badP none l[0] from fun h => h)]
     rw [e];exact (loop_next (by unfold lQuX0; simp [rQuX0,rQuX1,rQuX2,rQuX3,rQuX4,rQuX5,rQuX6,rQuX7,rQuX8,rQuX9,rQuX10,rQuX11,h1,hlt,ha,hb,hc,hw,idx,blk,eds_length,eds_get,edsAt,edAV,allLeaf_eds,cleanL_eds,cleanL_ints,ints_length,ints_get,intsAt,endL,finB])).trans ih
   | succ j =>
     have hj : j < l.length := by omega
     have hj1 : (j : Int) < l.length := by omega
     have hp : (0 : Int) < (j : Int) + 1 := by omega
     have hp0 : (0 : Int) <= (j : Int) + 1 := by omega
     have hw2 := wrapN (i := j) (by omega);have h1 : (j : Int) + 1 < l.length := by omega
     have hw : IntKind.i64.wrap ((j : Int) + 1 + 1) = (j : Int) + 1 + 1 := wrapZ (j := j + 1 + 1) rfl (by omega);have ho := order_run l[j] l[j + 1];by_cases hd : 0 <= ordI l[j] l[j + 1]
     ·have e : chkGo m (prevE l (j + 1)) (l[j + 1] :: l.drop (j + 1 + 1)) = 5 := by
       unfold chkGo;rw [if_neg hn,prevE_succ l j hj,if_pos (show badP (some l[j]) l[j + 1] from (ordI_ge _ _).1 hd)]
      rw [e];exact loop_ret (by unfold lQuX0; simp [rQuX0,rQuX1,rQuX2,rQuX3,rQuX4,rQuX5,rQuX6,rQuX7,rQuX8,rQuX9,rQuX10,rQuX11,h1,hlt,ha,hb,hc,hj,hj1,hp,hp0,hw2,ho,hd,idx,sQR,iQR,lQR,blk,eds_length,eds_get,edsAt,edAV,allLeaf_eds,cleanL_eds,cleanL_ints,ints_length,ints_get,intsAt,endL,finB])
     ·have hlt' : ltE l[j] l[j + 1] := by
       apply Decidable.not_not.1;exact fun k => hd ((ordI_ge _ _).2 k)
      have e : chkGo m (prevE l (j + 1)) (l[j + 1] :: l.drop (j + 1 + 1)) = chkGo m (some l[j + 1]) (l.drop (j + 1 + 1)) := by
       conv => lhs; unfold chkGo
       rw [if_neg hn,prevE_succ l j hj,if_neg (show ¬ badP (some l[j]) l[j + 1] from fun k => k hlt')]
      rw [e];exact (loop_next (by unfold lQuX0; simp [rQuX0,rQuX1,rQuX2,rQuX3,rQuX4,rQuX5,rQuX6,rQuX7,rQuX8,rQuX9,rQuX10,rQuX11,h1,hlt,ha,hb,hc,hj,hj1,hp,hp0,hw,hw2,ho,hd,idx,sQR,iQR,lQR,blk,eds_length,eds_get,edsAt,edAV,allLeaf_eds,cleanL_eds,cleanL_ints,ints_length,ints_get,intsAt,endL,finB])).trans ih
theorem gchk_run (m : Int) (l : List Ed) (hl : l.length < 4294967297) : callL cfgS nQu [.agg [.int .i64 m,.list 2 (eds l)]] [] = some (.int .i64 (chkG m l),[]) := by
 rw [callL_end oQu sQu (Nat.le_of_ble_eq_true rfl)];have h := gchk_loop m l hl l.length 0 (by omega);rw [nat0,List.drop_zero,prevE_zero] at h;unfold qQu cQu chkG;by_cases ha : m < 0
 ·simp [rQuX0,rQuX1,rQuX2,rQuX3,rQuX4,rQuX5,rQuX6,rQuX7,rQuX8,rQuX9,rQuX10,rQuX11,ha,blk,eds_length,eds_get,edsAt,edAV,allLeaf_eds,cleanL_eds,cleanL_ints,ints_length,ints_get,intsAt,endL,finB]
 by_cases hb : 64 < m
 ·simp [rQuX0,rQuX1,rQuX2,rQuX3,rQuX4,rQuX5,rQuX6,rQuX7,rQuX8,rQuX9,rQuX10,rQuX11,ha,hb,blk,eds_length,eds_get,edsAt,edAV,allLeaf_eds,cleanL_eds,cleanL_ints,ints_length,ints_get,intsAt,endL,finB]
 rw [if_neg (by omega)];by_cases hc : chkGo m none l = 0
 ·rw [if_pos hc] at h;rw [hc];simp [rQuX0,rQuX1,rQuX2,rQuX3,rQuX4,rQuX5,rQuX6,rQuX7,rQuX8,rQuX9,rQuX10,rQuX11,ha,hb,h,blk,eds_length,eds_get,edsAt,edAV,allLeaf_eds,cleanL_eds,cleanL_ints,ints_length,ints_get,intsAt,endL,finB]
 ·rw [if_neg hc] at h;simp [rQuX0,rQuX1,rQuX2,rQuX3,rQuX4,rQuX5,rQuX6,rQuX7,rQuX8,rQuX9,rQuX10,rQuX11,ha,hb,h,blk,eds_length,eds_get,edsAt,edAV,allLeaf_eds,cleanL_eds,cleanL_ints,ints_length,ints_get,intsAt,endL,finB]
/- What masks.Rows and masks.Count return; degree.Degrees. -/
theorem rows_loop (N : Nat) (hN : N <= 64) (Es : List Ed) (hE : Es.length < 4294967295) (hv : ∀ e ∈ Es,0 <= e.1 /\ e.1 < e.2 /\ e.2 < (N : Int)) : ∀ (k i : Nat) (A : List Nat),i + k = Es.length -> A.length = N -> Small A -> codeL cfgS 0 (.loop lQa0X0) ⟨[(3,.own 1 (us A)),(12,.list 2 (eds Es)),(13,.int .i64 Es.length),(14,.int .i64 i)],[]⟩ =
  some (.exit 0,⟨[(3,.own 1 (us (adjOf (Es.drop i) A))),(12,.list 2 (eds Es)),(13,.int .i64 Es.length),(14,.int .i64 Es.length),(15,.bool false)],[]⟩)
 | 0,i,A,hi,hA,hS => by
   obtain rfl : i = Es.length := by omega
   rw [List.drop_length];exact loop_exit (by unfold lQa0X0; simp [rQa0X0,rQa0X1,rQa0X2,rQa0X3,rQa0X4,rQa0X5,rQa0X6,rQa0X7,rQa0X8,rQa0X9,adjOf,List.foldl_nil])
 | k + 1,i,A,hi,hA,hS => by
   have hlt : i < Es.length := by omega
   have h1 : (i : Int) < Es.length := by omega
   have hw := wrapS (i := i) (by omega);obtain ⟨u0,uv,vn⟩ := hv Es[i] (List.getElem_mem hlt);have ih := rows_loop N hN Es hE hv k (i + 1) (adF A Es[i]) (by omega) (by rw [adF_length]; exact hA) (adF_small hS (by omega) (by omega));rw [List.drop_eq_getElem_cons hlt];have v0 : 0 <= Es[i].2 := by omega
   have un : Es[i].1 < (N : Int) := by omega
   have u0' : ¬ Es[i].1 < 0 := by omega
   have v0' : ¬ Es[i].2 < 0 := by omega
   have uN : Es[i].1.toNat < N := by omega
   have vN : Es[i].2.toNat < N := by omega
   have pu := pow_lt64 (v := Es[i].1) (by omega) u0;have pv := pow_lt64 (v := Es[i].2) (by omega) v0;have su := shlU (v := Es[i].1) u0 (by omega);have sv := shlU (v := Es[i].2) v0 (by omega);have su' : IntKind.u64.wrap (2 ^ (min Es[i].1.toNat 64)) = ((2 ^ Es[i].1.toNat : Nat) : Int) := by rw [<- su,Int.one_mul]
   have sv' : IntKind.u64.wrap (2 ^ (min Es[i].2.toNat 64)) = ((2 ^ Es[i].2.toNat : Nat) : Int) := by rw [<- sv,Int.one_mul]
   have gu : (us A)[Es[i].1.toNat]? = some (.int .u64 (A.getD Es[i].1.toNat 0 : Nat)) := by
    rw [us_get,List.getD_eq_getElem?_getD,List.getElem?_eq_getElem (by omega)]; rfl
   have xu := getD_lt hS Es[i].1.toNat;have ou := u64_or_nat (A.getD Es[i].1.toNat 0) (2 ^ Es[i].2.toNat) xu pv;have eu := us_set A Es[i].1.toNat (A.getD Es[i].1.toNat 0 ||| 2 ^ Es[i].2.toNat);have sm : Small (A.set Es[i].1.toNat (A.getD Es[i].1.toNat 0 ||| 2 ^ Es[i].2.toNat)) := set_small hS (Nat.or_lt_two_pow (n := 64) xu pv);have eln : (A.set Es[i].1.toNat (A.getD Es[i].1.toNat 0 ||| 2 ^ Es[i].2.toNat)).length = N := by rw [List.length_set]; exact hA
   have ead : adjOf (Es[i] :: Es.drop (i + 1)) A = adjOf (Es.drop (i + 1)) (adF A Es[i]) := rfl;rw [ead];have eA : adF A Es[i] = (A.set Es[i].1.toNat (A.getD Es[i].1.toNat 0 ||| 2 ^ Es[i].2.toNat)).set Es[i].2.toNat ((A.set Es[i].1.toNat (A.getD Es[i].1.toNat 0 ||| 2 ^ Es[i].2.toNat)).getD Es[i].2.toNat 0 ||| 2 ^ Es[i].1.toNat) := rfl;rw [eA] at ih ⊢;generalize hA1 : A.set Es[i].1.toNat (A.getD Es[i].1.toNat 0 ||| 2 ^ Es[i].2.toNat) = A1 at *
   have gv : (us A1)[Es[i].2.toNat]? = some (.int .u64 (A1.getD Es[i].2.toNat 0 : Nat)) := by
    rw [us_get,List.getD_eq_getElem?_getD,List.getElem?_eq_getElem (by omega)]; rfl
   have ov := u64_or_nat (A1.getD Es[i].2.toNat 0) (2 ^ Es[i].1.toNat) (getD_lt sm _) pu;have ev := us_set A1 Es[i].2.toNat (A1.getD Es[i].2.toNat 0 ||| 2 ^ Es[i].1.toNat);generalize A1.getD Es[i].2.toNat 0 ||| 2 ^ Es[i].1.toNat = q at *
   generalize A.getD Es[i].1.toNat 0 ||| 2 ^ Es[i].2.toNat = p at *
   generalize A1.getD Es[i].2.toNat 0 = y at *;generalize A.getD Es[i].1.toNat 0 = x at *;generalize 2 ^ Es[i].1.toNat = pU at *;generalize 2 ^ Es[i].2.toNat = pV at *;clear pu pv xu sm eA ead hA1;have gu' : ∀ h : Es[i].1.toNat < (us A).length,(us A)[Es[i].1.toNat] = .int .u64 (x : Int) := fun h => by rw [List.getElem?_eq_getElem h] at gu; exact Option.some.inj gu
   have gv' : ∀ h : Es[i].2.toNat < (us A1).length,(us A1)[Es[i].2.toNat] = .int .u64 (y : Int) := fun h => by rw [List.getElem?_eq_getElem h] at gv; exact Option.some.inj gv
   refine (loop_next (s' := ⟨[(3,.own 1 (us (A1.set Es[i].2.toNat q))),(12,.list 2 (eds Es)),(13,.int .i64 Es.length),(14,.int .i64 ((i + 1 : Nat) : Int))],[]⟩) ?_).trans ih;have g1 : (eds Es)[i]? = some (.agg [.int .i64 Es[i].1,.int .i64 Es[i].2]) := by rw [eds_get,List.getElem?_eq_getElem hlt]; rfl
   have g2 : ∀ h,(eds Es)[i]'h = .agg [.int .i64 Es[i].1,.int .i64 Es[i].2] := fun h => edsAt ..;have g5 := eds_length Es;have vN' : Es[i].2 < (N : Int) := vn;unfold lQa0X0;simp [rQa0X0,rQa0X1,rQa0X2,rQa0X3,rQa0X4,rQa0X5,rQa0X6,rQa0X7,rQa0X8,rQa0X9,h1,hlt,hw,u0,v0,u0',v0',un,vn,uv,uN,vN,su,sv,su',sv',gu,gv,gu',gv',g1,g2,g5,ou,ov,eu,ev,hA,eln,us_length,idx,IntKind.bits,fz,pl,AV.leaf,blk]
theorem adj_spec {N : Nat} {Es : List Ed} (h : GOK (N : Int) Es) : (adjE N Es).length = N /\ Small (adjE N Es) /\ ∀ a b : Nat,((adjE N Es).getD a 0).testBit b = (decide (((a : Int),(b : Int)) ∈ Es) || decide (((b : Int),(a : Int)) ∈ Es)) := by
 have hn := h.1;obtain ⟨i1,i2,i3⟩ := adjOf_spec N (by omega) Es (List.replicate N 0) (by simp) (fun x hx => by have := List.eq_of_mem_replicate hx; omega) h.2.2;refine ⟨i1,i2,fun a b => ?_⟩;unfold adjE;rw [i3];have : ((List.replicate N 0).getD a 0) = 0 := by rw [List.getD_eq_getElem?_getD,List.getElem?_replicate]; split <;> rfl
 rw [this,Nat.zero_testBit,Bool.false_or]
theorem rows_run {N : Nat} {Es : List Ed} (h : GOK (N : Int) Es) (hE : Es.length < 4294967295) : callL cfgS nQa0 [.agg [.int .i64 N,.list 2 (eds Es)]] [] = some (.list 1 (us (adjE N Es)),[]) := by
 have hn : N <= 64 := by have := h.1; omega
 have hl := rows_loop N hn Es hE h.2.2 Es.length 0 (List.replicate N 0) (by omega) (by simp) (fun x hx => by have := List.eq_of_mem_replicate hx; omega);rw [nat0,List.drop_zero] at hl;have r1 : List.replicate N (AV.int .u64 0) = us (List.replicate N 0) := us_rep N;have n0 : ¬ (N : Int) < 0 := by omega
 have nL : (N : Int) <= 4294967296 := by omega
 have m1 : max (N : Int) 0 = (N : Int) := by omega
 have m2 : ¬ (64 : Int) < N := by omega
 have ea : adjOf Es (List.replicate N 0) = adjE N Es := rfl;rw [ea] at hl;have tk : (us (adjE N Es)).take (adjE N Es).length = us (adjE N Es) := by rw [us_take,List.take_length]
 have e := (adj_spec h).1
 have tkr : (us (List.replicate N 0)).take N = us (List.replicate N 0) := by
  have := List.take_length (l := us (List.replicate N 0))
  rwa [us_length,List.length_replicate] at this
 rw [e] at tk;have g5 := eds_length Es;rw [callL_end oQa0 sQa0 (Nat.le_of_ble_eq_true rfl)];unfold qQa0 cQa0;generalize eds Es = Y at *;simp [rQa0X0,rQa0X1,rQa0X2,rQa0X3,rQa0X4,rQa0X5,rQa0X6,rQa0X7,rQa0X8,rQa0X9,hl,r1,tkr,e,List.length_replicate,n0,nL,m1,m2,us_length,tk,g5,LIM,blk,plL,pl,endL,finB]
def pc9 (m : Nat) : Nat := ((List.range 9).filter fun j => m.testBit j).length
def pcA (x : Int) : Int := IntKind.u64.wrap (bits .and .u64 (x.fdiv 2) 6148914691236517205 + bits .and .u64 x 6148914691236517205)
def pcB (x : Int) : Int := IntKind.u64.wrap (bits .and .u64 (x.fdiv 4) 3689348814741910323 + bits .and .u64 x 3689348814741910323)
def pcC (x : Int) : Int := bits .and .u64 (IntKind.u64.wrap (x.fdiv 16 + x)) 1085102592571150095
def pcD (n : Int) (x : Int) : Int := IntKind.u64.wrap (x + x.fdiv n)
def pcE (x : Int) : Int := bits .and .i64 (IntKind.i64.wrap (pcD 4294967296 (pcD 65536 (pcD 256 (pcC (pcB (pcA x))))))) 127
theorem ones_run (x : Int) : callL cfgS nQ1 [.int .u64 x] [] = some (.int .i64 (pcE x),[]) := by
 obtain ⟨a,ea⟩ : ∃ a,IntKind.u64.wrap (bits .and .u64 (x.fdiv 2) 6148914691236517205 + bits .and .u64 x 6148914691236517205) = a := ⟨_,rfl⟩;obtain ⟨b,eb⟩ : ∃ b,IntKind.u64.wrap (bits .and .u64 (a.fdiv 4) 3689348814741910323 + bits .and .u64 a 3689348814741910323) = b := ⟨_,rfl⟩;obtain ⟨c,ec⟩ : ∃ c,bits .and .u64 (IntKind.u64.wrap (b.fdiv 16 + b)) 1085102592571150095 = c := ⟨_,rfl⟩;obtain ⟨d,ed⟩ : ∃ d,IntKind.u64.wrap (c + c.fdiv 256) = d := ⟨_,rfl⟩;obtain ⟨e,ee⟩ : ∃ e,IntKind.u64.wrap (d + d.fdiv 65536) = e := ⟨_,rfl⟩;obtain ⟨f,ef⟩ : ∃ f,IntKind.u64.wrap (e + e.fdiv 4294967296) = f := ⟨_,rfl⟩;have hp : pcE x = bits .and .i64 (IntKind.i64.wrap f) 127 := by unfold pcE pcD pcC pcB pcA; rw [ea,eb,ec,ed,ee,ef]
 rw [hp];rw [callL_end oQ1 sQ1 (Nat.le_of_ble_eq_true rfl)];unfold qQ1 cQ1;simp [rQ1X0,rQ1X1,rQ1X2,rQ1X3,rQ1X4,rQ1X5,rQ1X6,rQ1X7,ea,eb,ec,ed,ee,ef,IntKind.bits,blk,endL,finB]
end Go.BmP
