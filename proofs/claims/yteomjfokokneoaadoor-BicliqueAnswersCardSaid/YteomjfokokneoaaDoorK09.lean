/- What the bits of biclique return: TrailingZeros64, list, mask. -/
import Derived.Test.YteomjfokokneoaaDoorUseM
import Derived.Test.YteomjfokokneoaaDoorR02d
import Derived.Test.YteomjfokokneoaaDoorK06
import Derived.Test.YteomjfokokneoaaDoorR02k
set_option linter.unusedSimpArgs false
set_option linter.unusedVariables false
set_option maxRecDepth 100000
set_option maxHeartbeats 4000000
open Bool renaming false_eq_true → aX
open Int renaming fdiv_eq_ediv_of_nonneg → Jh, one_mul → Al
open List renaming drop_eq_getElem_cons → aZ, drop_length → bz, drop_zero → bX, foldl_nil → G2, getD_eq_getElem?_getD → cM, getElem?_eq_getElem → aI, getElem_mem → ed, replicate → cK
open Nat renaming le_of_ble_eq_true → an, or_lt_two_pow → GG, pow_le_pow_right → gz, two_pow_pos → Bz
open Option.some renaming inj → dm, injEq → aj
open Prod.mk renaming injEq → aF
namespace Go.BmP
open Go.Am Go.Bm
theorem adT : aA.gl 0 = KA.map (AV.int .u8) := rfl
theorem acL : ∀ k,k < 64 -> 2 ^ k * 285870213051353865 % 18446744073709551616 / 288230376151711744 < 64 /\ (KA.map (AV.int .u8)).drop (2 ^ k * 285870213051353865 % 18446744073709551616 / 288230376151711744) = .int .u8 (k : Nat) :: (KA.map (AV.int .u8)).drop (2 ^ k * 285870213051353865 % 18446744073709551616 / 288230376151711744 + 1) := by
 intro k hk;have h1 : ∀ k,k < 64 -> 2 ^ k * 285870213051353865 % 18446744073709551616 / 288230376151711744 < 64 /\ KA[2 ^ k * 285870213051353865 % 18446744073709551616 / 288230376151711744]? = some ((k : Nat) : Int) := by decide +kernel
 obtain ⟨a,b⟩ := h1 k hk;refine ⟨a,?_⟩;generalize 2 ^ k * 285870213051353865 % 18446744073709551616 / 288230376151711744 = j at a b;obtain ⟨hj,e⟩ := List.getElem?_eq_some_iff.1 b;rw [aZ (by simpa using hj),List.getElem_map,e]
theorem powc (n : Nat) : (2 : Int) ^ n = ((2 ^ n : Nat) : Int) := by simp
theorem abr (q s : Nat) (hs : s < 64) : jq .shr (.int .u64 (q : Int)) (.int .u64 (s : Int)) = some (.int .u64 ((q / 2 ^ s : Nat) : Int)) := by
 unfold jq;simp only;have hp : 0 < 2 ^ s := Bz s;rw [if_neg (by omega),show min (s : Int).toNat IntKind.u64.bits = s by (show min (s : Int).toNat 64 = s); omega,powc,Jh _ (Int.natCast_nonneg _)];rfl
theorem Tm (a b : Nat) (ha : a < 18446744073709551616) (hb : b < 18446744073709551616) : jq .and (.int .u64 (a : Int)) (.int .u64 (b : Int)) = some (.int .u64 ((a &&& b : Nat) : Int)) := by
 unfold jq;simp only [if_true,arith,u64_and_nat a b ha hb]
theorem abt (a b : Nat) : jq .mul (.int .u64 (a : Int)) (.int .u64 (b : Int)) = some (.int .u64 ((a * b % 18446744073709551616 : Nat) : Int)) := by
 unfold jq;simp only [if_true,arith,IntKind.wrap_u64];rw [<- Int.natCast_mul];rfl
theorem Mj {c : dN} {call : Nat -> List AV -> Heap -> Option (AV × Heap)} : ∀ (a b : List O) (s : St) {s' ZG : St} {f g : List Fq},kL c call a s = some (s',f) -> kL c call b s' = some (ZG,g) -> kL c call (a ++ b) s = some (ZG,f ++ g)
 | [],b,s,s',ZG,f,g,h,k => by
   simp only [kL,aj,aF] at h;obtain ⟨rfl,rfl⟩ := h;exact k
 | o :: r,b,s,s',ZG,f,g,h,k => by
   simp only [kL,List.cons_append] at h ⊢;split at h
   case h_2 => cases h
   rename_i s1 fl h1;split at h
   case h_2 => cases h
   rename_i s2 nU h2;simp only [aj,aF] at h;obtain ⟨rfl,rfl⟩ := h;rw [Mj r b s1 h2 k];rfl
theorem tz_a (x : Nat) (h0 : x ≠ 0) (hx : x < 18446744073709551616) : ∃ (y p q j : Int) (T : List AV),kL aA (bk aA) (BP.take 6) ⟨[(0,.int .u64 x),(4,.bool false)],[]⟩ = some (⟨[(0,.int .u64 x),(4,.bool false),(5,.int .u64 x),(6,.int .u64 x),(7,.int .u64 y),(8,.int .u64 p),(9,.int .u64 q),(10,.int .u64 j)],[]⟩,[.no,.no,.no,.no,.no,.no]) /\ (0 <= j /\ j < 64) /\ (aA.gl 0).drop j.toNat = .int .u8 (tz x : Nat) :: T /\ tz x < 64 := by
 obtain ⟨e1,e2⟩ := Lib.lowest_bit 64 x h0 hx;have e2 : tz x < 64 := e2;have e1 : x &&& (18446744073709551616 - x) = 2 ^ tz x := e1;obtain ⟨e3,e4⟩ := acL (tz x) e2
 have b1 : jq .eql (.int .u64 (x : Int)) (.int .u64 0) = some (.bool false) := by
  have : ((x : Int) == 0) = false := by rw [beq_eq_false_iff_ne]; omega
  unfold jq;simp only [if_true,arith,this]
 have u1 : OC .neg (.int .u64 (x : Int)) = some (.int .u64 ((18446744073709551616 - x : Nat) : Int)) := by
  unfold OC;simp only [IntKind.wrap_u64];rw [show (0 - (x : Int)) % 18446744073709551616 = ((18446744073709551616 - x : Nat) : Int) by omega]
 have b2 := Tm x (18446744073709551616 - x) hx (by omega);rw [e1] at b2;have b3 := abt (2 ^ tz x) 285870213051353865;have b4 := abr (2 ^ tz x * 285870213051353865 % 18446744073709551616) 58 (by omega);rw [show (2 ^ 58 : Nat) = 288230376151711744 from rfl] at b4;generalize 2 ^ tz x * 285870213051353865 % 18446744073709551616 / 288230376151711744 = j at *;generalize 2 ^ tz x * 285870213051353865 % 18446744073709551616 = q at *;generalize 2 ^ tz x = p at *;have b3 : jq .mul (.int .u64 (p : Int)) (.int .u64 285870213051353865) = some (.int .u64 (q : Int)) := b3;have b4 : jq .shr (.int .u64 (q : Int)) (.int .u64 58) = some (.int .u64 (j : Int)) := b4;have f5 : (j : Int) < 64 := by omega
 have f6 : IntKind.i64.wrap ((tz x : Nat) : Int) = ((tz x : Nat) : Int) := oQ (by omega);clear e1;generalize tz x = z at *;generalize 18446744073709551616 - x = y at *;generalize (x : Int) = X at *;generalize hC : (285870213051353865 : Int) = C at *;rw [<- adT] at e4;refine ⟨y,p,q,j,_,?_,⟨by omega,f5⟩,by rw [show (j : Int).toNat = j by omega]; exact e4,e2⟩;clear e4 e3 e2 f6;generalize (j : Int) = J at *;generalize (q : Int) = Q at *;generalize (p : Int) = Pp at *;generalize (y : Int) = Y at *;unfold BP;simp [L8,L7,Wx,BP,List.take_succ_cons,List.take_zero,b1,u1,b2,hC,b3,b4,aH,ai,au,aG,aT,af,ah,ae,aa,ak,az,aP,aK,-jq,-OC,-OC]
theorem tz_b (X Y Pp Q J : Int) (z : Nat) (T : List AV) (h0 : 0 <= J) (h1 : J < 64) (hz : z < 64) (h : (aA.gl 0).drop J.toNat = .int .u8 (z : Nat) :: T) : ∃ T',kL aA (bk aA) (BP.drop 6) ⟨[(0,.int .u64 X),(4,.bool false),(5,.int .u64 X),(6,.int .u64 X),(7,.int .u64 Y),(8,.int .u64 Pp),(9,.int .u64 Q),(10,.int .u64 J)],[]⟩ = some (⟨[(0,.int .u64 X),(2,.int .i64 (z : Nat)),(4,.bool false),(5,.int .u64 X),(6,.int .u64 X),(7,.int .u64 Y),(8,.int .u64 Pp),(9,.int .u64 Q),(10,.int .u64 J),(11,.cX T'),(12,.int .u8 (z : Nat)),(13,.int .i64 (z : Nat))],[]⟩,[.no,.rd [],.no,.no]) := by
 refine ⟨.int .u8 (z : Nat) :: T,?_⟩;have hw := oQ (i := z) (by omega);generalize hG : aA.gl 0 = G at *;unfold BP;simp [L8,L7,Wx,BP,List.drop_succ_cons,bX,h0,h1,hG,h,hw,idx,aH,ai,au,aG,aT,af,ah,ae,aa,ak,az,aP,aK]
theorem OD (x : Nat) (h0 : x ≠ 0) (hx : x < 18446744073709551616) : bk aA nJ6 [.int .u64 x] [] = some (.int .i64 (tz x : Nat),[]) := by
 rw [aM oJ6 sJ6 (an rfl)];obtain ⟨y,p,q,j,T,r1,⟨j0,j1⟩,r2,r3⟩ := tz_a x h0 hx;obtain ⟨T',r4⟩ := tz_b x y p q j (tz x) T j0 j1 r3 r2;have r5 := Mj _ _ _ r1 r4;rw [List.take_append_drop] at r5
 have r6 : aU aA 0 (.aO BP false [] [2]) ⟨[(0,.int .u64 x),(4,.bool false)],[]⟩ = some (.normal,⟨[(2,.int .i64 (tz x : Nat))],[]⟩) := by
  rw [IY,r5];clear r1 r2 r3 r4 r5;simp [Wb,PR,qf,bI,Yo,pw,trim,MD,Io]
 have b1 : jq .eql (.int .u64 (x : Int)) (.int .u64 0) = some (.bool false) := by
  have : ((x : Int) == 0) = false := by rw [beq_eq_false_iff_ne]; omega
  unfold jq;simp only [if_true,arith,this]
 clear r1 r2 r3 r4 r5 h0 hx;generalize ((tz x : Nat) : Int) = z at *;generalize (x : Int) = X at *
 have r7 : aU aA 0 (.aO L7 false [] [0,4]) ⟨[(0,.int .u64 X)],[]⟩ = some (.normal,⟨[(0,.int .u64 X),(4,.bool false)],[]⟩) := by
  unfold L7;simp [pd,pc,o9,o8,o7,oZ,oY,oX,oW,b1,aH,ai,au,aG,aT,af,ah,ae,aa,ak,az,aP,aK,-jq]
 have r8 : aU aA 0 (.aO L8 false [] [0]) ⟨[(0,.int .u64 X)],[]⟩ = some (.normal,⟨[(0,.int .u64 X)],[]⟩) := by
  unfold L8;simp [pd,pc,o9,o8,o7,oZ,oY,oX,oW,aH,ai,au,aG,aT,af,ah,ae,aa,ak,az,aP,aK]
 show aP aA _ _ 0 (aU aA 0 cJ6 ⟨[(0,.int .u64 X)],[]⟩) = _;unfold cJ6;rw [bp,r8,b9,bp,bp,r7,b9,gC];show aP aA _ _ 0 (iP aA 0 _ (aU aA 0 .skip ⟨[(0,.int .u64 X),(4,.bool false)],[]⟩)) = _;rw [iK,b9,bp,r6,b9,v8];simp [aP,aK,qJ6,nZ,TV,bn,eG,Bh,m7,kg,PO]
theorem Ut : ∀ (m : Nat),m < 18446744073709551616 -> ∀ (o : List Int),o.length + (gN m).length <= 64 -> aU aA 0 (.loop SE) ⟨[(0,.int .u64 m),(3,.own 1 (ints o))],[]⟩ = some (.exit 0,⟨[(0,.int .u64 (0 : Nat)),(3,.own 1 (ints (o ++ gN m))),(5,.bool false)],[]⟩) := by
 intro m
 induction m using Nat.strongRecOn with
 | ind m ih =>
   intro hm o hL;by_cases h0 : m = 0
   ·subst h0;rw [sd,List.append_nil];exact bC (by unfold SE; simp [Rr,Rq,Rp,Ro,Rn,Rm,aH,ai,au,aG,aT,af,ah,ae,aa,ak,az,aP,aK])
   ·have n0 : ¬ ((m : Int) = 0) := by omega
    have hd := S3 h0;have ht := OD m h0 hm;have w1 := decU h0 hm;have w2 := u64_and_nat m (m - 1) hm (by omega);rw [sg h0 hm,List.length_cons] at hL;have hL1 : o.length + 1 <= 4294967296 := by omega
    have ih := ih (m &&& (m - 1)) hd (by omega) (o ++ [(tz m : Int)]) (by simp; omega);rw [sg h0 hm];rw [List.append_assoc] at ih;generalize (m : Int) = X at *;exact (ba (by unfold SE; simp [Rr,Rq,Rp,Ro,Rn,Rm,n0,ht,w1,w2,hL1,lz,ez,bR,sJ6,iJ6,lJ6,aH,ai,au,aG,aT,af,ah,ae,aa,ak,az,aP,aK])).trans ih
theorem zH (m : Nat) (hm : m < 18446744073709551616) : bk aA nJN [.int .u64 m] [] = some (.list 1 (ints (gN m)),[]) := by
 rw [aM oJN sJN (an rfl)];have h := Ut m hm [] (by have := fc m; simpa using this);rw [List.nil_append,jj,cD] at h;unfold qJN cJN;simp [Rr,Rq,Rp,Ro,Rn,Rm,h,bR,aH,ai,au,aG,aT,af,ah,ae,aa,ak,az,aP,aK]
theorem Ip (l : List Int) (hl : l.length < 4294967295) (hb : ∀ v ∈ l,0 <= v /\ v < 64) : ∀ (n i m : Nat),i + n = l.length -> m < 18446744073709551616 -> aU aA 0 (.loop SG) ⟨[(3,.int .u64 m),(6,.list 1 (ints l)),(7,.int .i64 l.length),(8,.int .i64 i)],[]⟩ =
  some (.exit 0,⟨[(3,.int .u64 (GP (l.drop i) m : Nat)),(6,.list 1 (ints l)),(7,.int .i64 l.length),(8,.int .i64 l.length),(9,.bool false)],[]⟩)
 | 0,i,m,hi,hm => by
   obtain rfl : i = l.length := by omega
   rw [bz];exact bC (by unfold SG; simp [RL,RK,RJ,RI,RH,RG,RF,RE,GP,G2,aH,ai,au,aG,aT,af,ah,ae,aa,ak,az,aP,aK])
 | n + 1,i,m,hi,hm => by
   have bA : i < l.length := by omega
   have h1 : (i : Int) < l.length := by omega
   have hw := fm (i := i) (by omega);obtain ⟨b0,b1⟩ := hb l[i] (ed bA);have b0' : ¬ l[i] < 0 := by omega
   have hp := pf b1 b0;have w1 := VU b0 b1;have w1' : IntKind.u64.wrap (2 ^ (min l[i].toNat 64)) = ((2 ^ l[i].toNat : Nat) : Int) := by rw [<- w1,Al]
   have w2 := u64_or_nat m (2 ^ l[i].toNat) hm hp;have ih := Ip l hl hb n (i + 1) (m ||| 2 ^ l[i].toNat) (by omega) (GG (n := 64) hm hp);rw [aZ bA,show GP (l[i] :: l.drop (i + 1)) m = GP (l.drop (i + 1)) (m ||| 2 ^ l[i].toNat) from rfl];generalize 2 ^ l[i].toNat = p at *;exact (ba (by unfold SG; simp [RL,RK,RJ,RI,RH,RG,RF,RE,h1,bA,hw,b0',w1,w1',w2,idx,IntKind.bits,aH,ai,au,aG,aT,af,ah,ae,aa,ak,az,aP,aK])).trans ih
theorem jW (l : List Int) (hl : l.length < 4294967295) (hb : ∀ v ∈ l,0 <= v /\ v < 64) : bk aA Um [.list 1 (ints l)] [] = some (.int .u64 (ei l : Nat),[]) := by
 rw [aM oJB Vs (an rfl)];have h := Ip l hl hb l.length 0 0 (by omega) (by decide);rw [jj,bX] at h;unfold qJB cJB ei;simp [RL,RK,RJ,RI,RH,RG,RF,RE,h,aH,ai,au,aG,aT,af,ah,ae,aa,ak,az,aP,aK]
/- What biclique's bits return: common, onRight, onLeft, of. -/
def fw (A : List Nat) (lm rm : Nat) : List AV := [.list 1 (us A),.int .u64 lm,.int .u64 rm]
theorem NJ (A : List Nat) (hA : Small A) (lm rm : Nat) : ∀ (set : Nat),set < 18446744073709551616 -> (∀ j,set.testBit j = true -> j < A.length) -> ∀ side : Nat,side < 18446744073709551616 -> aU aA 0 (.loop SH) ⟨[(1,.int .u64 side),(2,.int .u64 set),(3,.ptr 0 0)],[some (fw A lm rm)]⟩ =
  some (.exit 0,⟨[(1,.int .u64 (pW A side (gN set) : Nat)),(2,.int .u64 (0 : Nat)),(3,.ptr 0 0),(8,.bool false)],[some (fw A lm rm)]⟩) := by
 intro set
 induction set using Nat.strongRecOn with
 | ind m ih =>
   intro hm hb side hs;by_cases h0 : m = 0
   ·subst h0;rw [sd];exact bC (by unfold SH fw; simp [RQ,RP,RO,RN,RM,pW,G2,aH,ai,au,aG,aT,af,ah,ae,aa,ak,az,aP,aK])
   ·have n0 : ¬ ((m : Int) = 0) := by omega
    have hd := S3 h0;have ht := OD m h0 hm;have w1 := decU h0 hm;have w2 := u64_and_nat m (m - 1) hm (by omega);have hi := hb _ (VD h0 hm).1;have hi1 : ((tz m : Nat) : Int) < A.length := by omega
    have hx : A[tz m] < 18446744073709551616 := hA _ (ed hi);have w3 := u64_and_nat side A[tz m] hs hx;have ih := ih (m &&& (m - 1)) hd (by omega) (fun j hj => hb j (by rw [zY h0 hm,Bool.and_eq_true] at hj; exact hj.1)) (side &&& A[tz m]) (Nat.lt_of_le_of_lt Nat.and_le_left hs)
    have e : pW A side (gN m) = pW A (side &&& A[tz m]) (gN (m &&& (m - 1))) := by
     rw [sg h0 hm];show pW A (side &&& A.getD (((tz m : Nat) : Int)).toNat 0) _ = _;rw [show (((tz m : Nat) : Int)).toNat = tz m by omega,cM,aI hi];rfl
    rw [e];generalize (m : Int) = X at *;exact (ba (by unfold SH fw; simp [RQ,RP,RO,RN,RM,n0,ht,w1,w2,w3,hi,hi1,ko,Ji,usAt,idx,sJ6,iJ6,lJ6,aH,ai,au,aG,aT,af,ah,ae,aa,ak,az,aP,aK])).trans ih
theorem FP (A : List Nat) (hA : Small A) (lm rm side set : Nat) (h1 : set < 18446744073709551616) (h2 : ∀ j,set.testBit j = true -> j < A.length) (h3 : side < 18446744073709551616) : bk aA nJ3 [.agg (fw A lm rm),.int .u64 side,.int .u64 set] [] = some (.int .u64 (pW A side (gN set) : Nat),[]) := by
 rw [aM oJ3 sJ3 (an rfl)];have h := NJ A hA lm rm set h1 h2 side h3;unfold fw at h ⊢;unfold qJ3 cJ3;simp [RQ,RP,RO,RN,RM,h,aH,ai,au,aG,aT,af,ah,ae,aa,ak,az,aP,aK]
theorem BQ (A : List Nat) (hA : Small A) (lm rm set : Nat) (h1 : set < 18446744073709551616) (h2 : ∀ j,set.testBit j = true -> j < A.length) (h3 : rm < 18446744073709551616) : bk aA nJJ [.agg (fw A lm rm),.int .u64 set] [] = some (.int .u64 (pW A rm (gN set) : Nat),[]) := by
 rw [aM oJJ sJJ (an rfl)];have h := FP A hA lm rm rm set h1 h2 h3;unfold fw at h ⊢;unfold qJJ cJJ;simp [ab7,ab6,h,sJ3,iJ3,lJ3,aH,ai,au,aG,aT,af,ah,ae,aa,ak,az,aP,aK]
theorem xB (A : List Nat) (hA : Small A) (lm rm set : Nat) (h1 : set < 18446744073709551616) (h2 : ∀ j,set.testBit j = true -> j < A.length) (h3 : lm < 18446744073709551616) : bk aA Zd [.agg (fw A lm rm),.int .u64 set] [] = some (.int .u64 (pW A lm (gN set) : Nat),[]) := by
 rw [aM oJK sJK (an rfl)];have h := FP A hA lm rm lm set h1 h2 h3;unfold fw at h ⊢;unfold qJK cJK;simp [ab5,ab4,h,sJ3,iJ3,lJ3,aH,ai,au,aG,aT,af,ah,ae,aa,ak,az,aP,aK]
def ofH (N : Nat) (Es : List Ed) (L : List Int) (A : List Nat) (lm rm : Nat) : Heap := [some [.int .i64 N,.list 2 (dy Es),.list 1 (ints L)],some [.own 1 [],.int .u64 0,.int .u64 0],some [.own 1 (us A),.int .u64 lm,.int .u64 rm]]
theorem NX (N : Nat) (hN : N <= 64) (Es : List Ed) (hE : Es.length < 4294967295) (hv : ∀ e ∈ Es,0 <= e.1 /\ e.1 < e.2 /\ e.2 < (N : Int)) (L : List Int) (lm rm : Nat) : ∀ (k i : Nat) (A : List Nat),i + k = Es.length -> A.length = N -> Small A -> aU aA 0 (.loop SF) ⟨[(2,.ptr 1 0),(3,.ptr 2 0),(25,.list 2 (dy Es)),(26,.int .i64 Es.length),(27,.int .i64 i)],ofH N Es L A lm rm⟩ =
  some (.exit 0,⟨[(2,.ptr 1 0),(3,.ptr 2 0),(25,.list 2 (dy Es)),(26,.int .i64 Es.length),(27,.int .i64 Es.length),(28,.bool false)],ofH N Es L (vj (Es.drop i) A) lm rm⟩)
 | 0,i,A,hi,hA,hS => by
   obtain rfl : i = Es.length := by omega
   rw [bz];exact bC (by unfold SF ofH; simp [RD,RC,RB,RA,Rz,Ry,Rx,Rw,Ru,Rs,vj,G2,aH,ai,au,aG,aT,af,ah,ae,aa,ak,az,aP,aK])
 | k + 1,i,A,hi,hA,hS => by
   have bA : i < Es.length := by omega
   have h1 : (i : Int) < Es.length := by omega
   have hw := fm (i := i) (by omega);obtain ⟨u0,uv,vn⟩ := hv Es[i] (ed bA);have ih := NX N hN Es hE hv L lm rm k (i + 1) (Y4 A Es[i]) (by omega) (by rw [Gy]; exact hA) (I9 hS (by omega) (by omega));rw [aZ bA];have v0 : 0 <= Es[i].2 := by omega
   have un : Es[i].1 < (N : Int) := by omega
   have u0' : ¬ Es[i].1 < 0 := by omega
   have v0' : ¬ Es[i].2 < 0 := by omega
   have uN : Es[i].1.toNat < N := by omega
   have vN : Es[i].2.toNat < N := by omega
   have pu := pf (v := Es[i].1) (by omega) u0;have pv := pf (v := Es[i].2) (by omega) v0;have su := VU (v := Es[i].1) u0 (by omega);have sv := VU (v := Es[i].2) v0 (by omega);have su' : IntKind.u64.wrap (2 ^ (min Es[i].1.toNat 64)) = ((2 ^ Es[i].1.toNat : Nat) : Int) := by rw [<- su,Al]
   have sv' : IntKind.u64.wrap (2 ^ (min Es[i].2.toNat 64)) = ((2 ^ Es[i].2.toNat : Nat) : Int) := by rw [<- sv,Al]
   have gu : (us A)[Es[i].1.toNat]? = some (.int .u64 (A.getD Es[i].1.toNat 0 : Nat)) := by
    rw [Ji,cM,aI (by omega)]; rfl
   have xu := od hS Es[i].1.toNat;have ou := u64_or_nat (A.getD Es[i].1.toNat 0) (2 ^ Es[i].2.toNat) xu pv;have eu := VC A Es[i].1.toNat (A.getD Es[i].1.toNat 0 ||| 2 ^ Es[i].2.toNat);have sm : Small (A.set Es[i].1.toNat (A.getD Es[i].1.toNat 0 ||| 2 ^ Es[i].2.toNat)) := Aw hS (GG (n := 64) xu pv);have eln : (A.set Es[i].1.toNat (A.getD Es[i].1.toNat 0 ||| 2 ^ Es[i].2.toNat)).length = N := by rw [List.length_set]; exact hA
   have ead : vj (Es[i] :: Es.drop (i + 1)) A = vj (Es.drop (i + 1)) (Y4 A Es[i]) := rfl;rw [ead];have eA : Y4 A Es[i] = (A.set Es[i].1.toNat (A.getD Es[i].1.toNat 0 ||| 2 ^ Es[i].2.toNat)).set Es[i].2.toNat ((A.set Es[i].1.toNat (A.getD Es[i].1.toNat 0 ||| 2 ^ Es[i].2.toNat)).getD Es[i].2.toNat 0 ||| 2 ^ Es[i].1.toNat) := rfl;rw [eA] at ih ⊢;generalize hA1 : A.set Es[i].1.toNat (A.getD Es[i].1.toNat 0 ||| 2 ^ Es[i].2.toNat) = A1 at *
   have gv : (us A1)[Es[i].2.toNat]? = some (.int .u64 (A1.getD Es[i].2.toNat 0 : Nat)) := by
    rw [Ji,cM,aI (by omega)]; rfl
   have ov := u64_or_nat (A1.getD Es[i].2.toNat 0) (2 ^ Es[i].1.toNat) (od sm _) pu;have ev := VC A1 Es[i].2.toNat (A1.getD Es[i].2.toNat 0 ||| 2 ^ Es[i].1.toNat);generalize A1.getD Es[i].2.toNat 0 ||| 2 ^ Es[i].1.toNat = q at *
   generalize A.getD Es[i].1.toNat 0 ||| 2 ^ Es[i].2.toNat = p at *
   generalize A1.getD Es[i].2.toNat 0 = y at *;generalize A.getD Es[i].1.toNat 0 = x at *;generalize 2 ^ Es[i].1.toNat = pU at *;generalize 2 ^ Es[i].2.toNat = pV at *;clear pu pv xu sm eA ead hA1;have gu' : ∀ h : Es[i].1.toNat < (us A).length,(us A)[Es[i].1.toNat] = .int .u64 (x : Int) := fun h => by rw [aI h] at gu; exact dm gu
   have gv' : ∀ h : Es[i].2.toNat < (us A1).length,(us A1)[Es[i].2.toNat] = .int .u64 (y : Int) := fun h => by rw [aI h] at gv; exact dm gv
   refine (ba (s' := ⟨[(2,.ptr 1 0),(3,.ptr 2 0),(25,.list 2 (dy Es)),(26,.int .i64 Es.length),(27,.int .i64 ((i + 1 : Nat) : Int))],ofH N Es L (A1.set Es[i].2.toNat q) lm rm⟩) ?_).trans ih;unfold SF ofH;simp [RD,RC,RB,RA,Rz,Ry,Rx,Rw,Ru,Rs,h1,bA,hw,u0,v0,u0',v0',un,vn,uN,vN,su,sv,su',sv',gu,gv,gu',gv',ou,ov,eu,ev,hA,eln,ko,idx,IntKind.bits,fz,pl,AV.leaf,aH,ai,au,aG,aT,af,ah,ae,aa,ak,az,aP,aK]
theorem Ab {N : Nat} {Es : List Ed} {L : List Int} (h : kj N Es L) (hE : Es.length < 4294967295) (hL : L.length < 4294967295) : bk aA Xa [.agg [.int .i64 N,.list 2 (dy Es),.list 1 (ints L)]] [] = some (.agg (fw (cU N Es) (ei L) (xf N L)),[]) := by
 rw [aM oJH Vr (an rfl)];have hn := h.n;have hb : ∀ v ∈ L,0 <= v /\ v < 64 := fun v hv => by have := h.l.2 v hv; omega
 have hl := NX N hn Es hE h.e.2 L (ei L) (xf N L) Es.length 0 (cK N 0) (by omega) (by simp) (fun x hx => by have := List.eq_of_mem_replicate hx; omega);rw [jj,bX] at hl;have hm := jW L hL hb;have r1 : cK N (AV.int .u64 0) = us (cK N 0) := acI N;have n0 : ¬ (N : Int) < 0 := by omega
 have nL : (N : Int) <= 4294967296 := by omega
 have e1 : IntKind.u64.wrap (1 * 2 ^ (min N 64)) = IntKind.u64.wrap ((2 ^ N : Nat) : Int) := by rw [show min N 64 = N by omega,Al]; simp
 have e1' : IntKind.u64.wrap (2 ^ (min N 64)) = IntKind.u64.wrap ((2 ^ N : Nat) : Int) := by rw [show min N 64 = N by omega]; simp
 have hp : 0 < 2 ^ N := Bz N;have hq : 2 ^ N <= 2 ^ 64 := gz (by decide) hn
 have e2 : IntKind.u64.wrap (IntKind.u64.wrap ((2 ^ N : Nat) : Int) - 1) = ((2 ^ N - 1 : Nat) : Int) := by
  rw [IntKind.wrap_u64,IntKind.wrap_u64]; omega
 have e3 := u64_andNot_nat (2 ^ N - 1) (ei L) (by omega) (fM fun v hv => (hb v hv).2);have e4 : (2 ^ N - 1) &&& (18446744073709551615 - ei L) = xf N L := rfl;rw [e4] at e3;unfold ofH at hl;unfold fw;have ea : vj Es (cK N 0) = cU N Es := rfl;rw [ea] at hl;generalize IntKind.u64.wrap ((2 ^ N : Nat) : Int) = W at *;generalize 2 ^ N - 1 = W1 at *;unfold qJH cJH;simp [RD,RC,RB,RA,Rz,Ry,Rx,Rw,Ru,Rs,hl,hm,r1,n0,nL,e1,e1',e2,e3,ko,Zu,lz,IntKind.bits,Vs,XI,Xv,aH,ai,au,aG,aT,af,ah,ae,aa,ak,az,aP,aK]
/- What biclique.Check and Close return of a bipartite graph. -/
theorem CO (M : Nat) (u : Int) (h0 : 0 <= u) (h1 : u < 64) : jq .shr (.int .u64 (M : Int)) (.int .i64 u) = some (.int .u64 ((M / 2 ^ u.toNat : Nat) : Int)) := by
 unfold jq;simp only;rw [if_neg (by omega),show min u.toNat IntKind.u64.bits = u.toNat by (show min u.toNat 64 = u.toNat); omega,powc,Jh _ (Int.natCast_nonneg _)];rfl
theorem CX (M : Nat) (u : Int) (h0 : 0 <= u) (hM : M < 18446744073709551616) : jq .and (.int .u64 ((M / 2 ^ u.toNat : Nat) : Int)) (.int .u64 1) = some (.int .u64 (if M.testBit u.toNat = true then 1 else 0)) := by
 have hd : M / 2 ^ u.toNat <= M := Nat.div_le_self _ _;have h := Tm (M / 2 ^ u.toNat) 1 (by omega) (by decide)
 have e : (((M / 2 ^ u.toNat) &&& 1 : Nat) : Int) = if M.testBit u.toNat = true then 1 else 0 := by
  rw [Nat.and_one_is_mod,Nat.testBit_eq_decide_div_mod_eq];by_cases k : M / 2 ^ u.toNat % 2 = 1
  ·simp [k]
  ·simp only [k,decide_false,aX,if_false]; omega
 rw [e] at h;exact h
def b0 (N : Nat) (Es : List Ed) (L : List Int) : Ql := some [.int .i64 N,.list 2 (dy Es),.list 1 (ints L)]
theorem NU (N : Nat) (Es : List Ed) (L : List Int) (M : Nat) (hM : M < 18446744073709551616) (e : Ed) (h1 : 0 <= e.1 /\ e.1 < 64) (h2 : 0 <= e.2 /\ e.2 < 64) (sZ : M.testBit e.1.toNat = !M.testBit e.2.toNat) : bk aA Pw [.agg [.int .i64 e.1,.int .i64 e.2],.ptr 1 0] [b0 N Es L,some [.int .u64 M]] = some (.bool false,[b0 N Es L,some [.int .u64 M]]) := by
 rw [aM oJD sJD (an rfl)];have s1 := CO M e.1 h1.1 h1.2;have s2 := CO M e.2 h2.1 h2.2;have o1 := CX M e.1 h1.1 hM;have o2 := CX M e.2 h2.1 hM;rw [sZ] at o1;generalize ((M / 2 ^ e.1.toNat : Nat) : Int) = x at *;generalize ((M / 2 ^ e.2.toNat : Nat) : Int) = y at *;have q1 : jq .eql (.int .u64 0) (.int .u64 1) = some (.bool false) := rfl;have q2 : jq .eql (.int .u64 1) (.int .u64 0) = some (.bool false) := rfl;clear sZ;unfold b0;cases hb : M.testBit e.2.toNat
 ·rw [hb] at o1 o2;simp only [Bool.not_false,aX,if_true,if_false] at o1 o2;generalize (M : Int) = X at *;unfold qJD cJD;simp [LK,LJ,s1,s2,o1,o2,q1,q2,mS,js,oq,aH,ai,au,aG,aT,af,ah,ae,aa,ak,az,aP,aK,-jq]
 ·rw [hb] at o1 o2;simp only [Bool.not_true,aX,if_true,if_false] at o1 o2;generalize (M : Int) = X at *;unfold qJD cJD;simp [LK,LJ,s1,s2,o1,o2,q1,q2,mS,js,oq,aH,ai,au,aG,aT,af,ah,ae,aa,ak,az,aP,aK,-jq]
theorem Iy (N : Nat) (Es : List Ed) (hE : Es.length < 4294967295) (L : List Int) (M : Nat) (hM : M < 18446744073709551616) (hv : ∀ e ∈ Es,(0 <= e.1 /\ e.1 < 64) /\ (0 <= e.2 /\ e.2 < 64) /\ M.testBit e.1.toNat = !M.testBit e.2.toNat) : ∀ (k i : Nat),i + k = Es.length -> aU aA 2 (.loop Fm) ⟨[(0,.list 2 (dy Es)),(1,.func (.func Pw) [] [.ptr 1 0]),(7,.int .i64 Es.length),(8,.int .i64 i)],[b0 N Es L,some [.int .u64 M]]⟩ =
  some (.exit 0,⟨[(0,.list 2 (dy Es)),(1,.func (.func Pw) [] [.ptr 1 0]),(7,.int .i64 Es.length),(8,.int .i64 Es.length),(9,.bool false)],[b0 N Es L,some [.int .u64 M]]⟩)
 | 0,i,hi => by
   obtain rfl : i = Es.length := by omega
   exact bC (by unfold Fm b0; simp [EF,EE,ED,EC,EB,EA,Ez,Ey,aH,ai,au,aG,aT,af,ah,ae,aa,ak,az,aP,aK])
 | k + 1,i,hi => by
   have bA : i < Es.length := by omega
   have h1 : (i : Int) < Es.length := by omega
   have hw := fm (i := i) (by omega);obtain ⟨e1,e2,e3⟩ := hv Es[i] (ed bA);have hc := NU N Es L M hM Es[i] e1 e2 e3;have ih := Iy N Es hE L M hM hv k (i + 1) (by omega);unfold b0 at hc ih ⊢;exact (ba (by unfold Fm; simp [EF,EE,ED,EC,EB,EA,Ez,Ey,h1,bA,hw,hc,idx,sJD,iJD,lJD,js,fx,gj,cz,jP,eC,dT,bw,aH,ai,au,aG,aT,af,ah,ae,aa,ak,az,aP,aK])).trans ih
theorem XG (N : Nat) (Es : List Ed) (hE : Es.length < 4294967295) (L : List Int) (M : Nat) (hM : M < 18446744073709551616) (hv : ∀ e ∈ Es,(0 <= e.1 /\ e.1 < 64) /\ (0 <= e.2 /\ e.2 < 64) /\ M.testBit e.1.toNat = !M.testBit e.2.toNat) : bk aA nJ1 [.list 2 (dy Es),.func (.func Pw) [] [.ptr 1 0]] [b0 N Es L,some [.int .u64 M]] = some (.int .i64 (-1),[b0 N Es L,some [.int .u64 M]]) := by
 rw [aM oJ1 sJ1 (an rfl)];have h := Iy N Es hE L M hM hv Es.length 0 (by omega);rw [jj] at h;unfold b0 at h ⊢;unfold qJ1 cJ1;simp [EF,EE,ED,EC,EB,EA,Ez,Ey,h,mS,js,oq,aH,ai,au,aG,aT,af,ah,ae,aa,ak,az,aP,aK]
theorem Yu (N : Nat) (Es : List Ed) (hE : Es.length < 4294967295) (L : List Int) (M : Nat) (hM : M < 18446744073709551616) (hv : ∀ e ∈ Es,(0 <= e.1 /\ e.1 < 64) /\ (0 <= e.2 /\ e.2 < 64) /\ M.testBit e.1.toNat = !M.testBit e.2.toNat) : bk aA nJC [.list 2 (dy Es),.func (.func Pw) [] [.ptr 1 0]] [b0 N Es L,some [.int .u64 M]] = some (.bool false,[b0 N Es L,some [.int .u64 M]]) := by
 rw [aM oJC sJC (an rfl)];have h := XG N Es hE L M hM hv;unfold b0 at h ⊢;unfold qJC cJC;simp [Ww,Wv,h,sJ1,iJ1,lJ1,js,fx,gj,cz,jP,eC,dT,bw,mS,oq,aH,ai,au,aG,aT,af,ah,ae,aa,ak,az,aP,aK]
theorem nB {N : Nat} {Es : List Ed} {L : List Int} (h : kj N Es L) (hE : Es.length < 4294967295) (hL : L.length < 4294967295) : bk aA Sn [.agg [.int .i64 N,.list 2 (dy Es),.list 1 (ints L)]] [] = some (.int .i64 0,[]) := by
 rw [aM oJh Cn (an rfl)];have hn := h.n;have hb : ∀ v ∈ L,0 <= v /\ v < 64 := fun v hv => by have := h.l.2 v hv; omega
 have g1 := Nt N Es (by omega);rw [rZ.2 (show GOK N Es from ⟨⟨by omega,by omega⟩,h.e.1,h.e.2⟩)] at g1;have g2 := pn N L (by omega);have v1 : hO N (-1) L = true := (dG N).2 ⟨h.l.1,fun x hx => by have := h.l.2 x hx; omega⟩;rw [v1] at g2;have g3 := jW L hL hb;have hM := fM fun v hv => (hb v hv).2
 have g4 := Yu N Es hE L (ei L) hM fun e he => by
  have := h.e.2 e he;refine ⟨by omega,by omega,?_⟩;have hs := h.s e he;rw [fV (fun v hv => (hb v hv).1),fV (fun v hv => (hb v hv).1),show ((e.1.toNat : Nat) : Int) = e.1 by omega,show ((e.2.toNat : Nat) : Int) = e.2 by omega,Bool.eq_iff_iff];simpa using hs
 unfold b0 at g4;unfold qJh cJh;simp [Lt,Ls,Lr,Lq,Lp,Lo,Ln,Lm,Ll,Lk,g1,g2,g3,g4,sJz,iJz,lJz,ZF,iJA,lJA,Vs,XI,Xv,sJC,iJC,lJC,js,fx,gj,cz,jP,eC,dT,bw,aH,ai,au,aG,aT,af,ah,ae,aa,ak,az,aP,aK]
theorem U2 {N : Nat} {Es : List Ed} {L S : List Int} (h : kj N Es L) (hE : Es.length < 4294967295) (hL : L.length < 4294967295) (hu : Up S) (hS : ∀ x ∈ S,x ∈ L) (hSl : S.length < 4294967295) (hsum : S.length + L.length <= 4294967296) : bk aA Zb [.agg [.int .i64 N,.list 2 (dy Es),.list 1 (ints L)],.list 1 (ints S)] [] = some (.dW [.agg [.list 1 (ints (iL N Es L S)),.list 1 (ints (dO N Es L S))],.int .i64 0],[]) := by
 rw [aM oJm sJm (an rfl)];have hn := h.n;have hb : ∀ v ∈ S,0 <= v /\ v < 64 := fun v hv => by have := h.l.2 v (hS v hv); omega
 have g1 := nB h hE hL;have g2 := pn N S (by omega);have v1 : hO N (-1) S = true := (dG N).2 ⟨hu,fun x hx => by have := h.l.2 x (hS x hx); omega⟩;rw [v1] at g2;have g3 := BS S L hsum;have v2 : (S.all fun x => decide (x ∈ L)) = true := by rw [List.all_eq_true]; intro x hx; simpa using hS x hx
 rw [v2] at g3;have g4 := Ab h hE hL;have g5 := jW S hSl hb;obtain ⟨a1,a2,_⟩ := eJ h
 have hbit : ∀ j,(ei S).testBit j = true -> j < (cU N Es).length := fun j hj => by
  rw [fV (fun v hv => (hb v hv).1),decide_eq_true_eq] at hj;have := h.l.2 _ (hS _ hj);omega
 have g6 := BQ (cU N Es) a2 (ei L) (xf N L) (ei S) (fM fun v hv => (hb v hv).2) hbit (DA N L);have e6 : pW (cU N Es) (xf N L) (gN (ei S)) = cR N Es L S := rfl;rw [e6] at g6
 have aco : ∀ j,(cR N Es L S).testBit j = true -> j < (cU N Es).length := fun j hj => by
  have : j < 64 := Nat.lt_of_not_le fun k => by
   have h2 := Nat.testBit_lt_two_pow (x := cR N Es L S) (i := j) (Nat.lt_of_lt_of_le (Aa N Es L S) (show 18446744073709551616 <= 2 ^ j from gz (n := 2) (by decide) k));rw [h2] at hj; cases hj
  have := (jH h hu hS (j : Int)).1 (gM.2 ⟨j,rfl,this,hj⟩);omega
 have g7 := xB (cU N Es) a2 (ei L) (xf N L) (cR N Es L S) (Aa N Es L S) aco (fM fun v hv => by have := h.l.2 v hv; omega);have e7 : pW (cU N Es) (ei L) (gN (cR N Es L S)) = cL N Es L (cR N Es L S) := rfl;rw [e7] at g7;have g8 := zH (cL N Es L (cR N Es L S)) (YI h _);have g9 := zH (cR N Es L S) (Aa N Es L S);have e8 : gN (cL N Es L (cR N Es L S)) = iL N Es L S := rfl;have e9 : gN (cR N Es L S) = dO N Es L S := rfl;rw [e8] at g8;rw [e9] at g9;unfold fw at g4 g6 g7;clear hbit aco e6 e7 e8 e9 v1 v2 hb a1 a2;unfold qJm cJm;simp [K8,K7,K6,K5,K4,K3,K2,K1,K0,g1,g2,g3,g4,g5,g6,g7,g8,g9,Cn,Fs,Fj,ZF,iJA,lJA,sJM,iJM,lJM,Vr,XH,Xu,Vs,XI,Xv,sJJ,iJJ,lJJ,sJK,iJK,lJK,sJN,iJN,lJN,aH,ai,au,aG,aT,af,ah,ae,aa,ak,az,aP,aK]
end Go.BmP
