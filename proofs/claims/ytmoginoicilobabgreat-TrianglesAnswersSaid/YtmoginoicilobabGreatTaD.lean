/- What masks.Rows and masks.Count return; degree.Degrees. -/
import Derived.Test.YtmoginoicilobabGreatUseM
import Derived.Test.YtmoginoicilobabGreatK05
import Derived.Test.YtmoginoicilobabGreatGrfP
import Derived.Laws.BitsAllLaws
import Derived.Test.YtmoginoicilobabGreatT06
import Derived.Test.YtmoginoicilobabGreatTnP
set_option linter.unusedSimpArgs false
set_option linter.unusedVariables false
set_option maxRecDepth 100000
set_option maxHeartbeats 4000000
open Bool renaming or_eq_true → e9
open Int renaming fdiv_eq_ediv_of_nonneg → pI, natCast_add → lz, natCast_mul → yh, tdiv_eq_ediv_of_nonneg → IY
open List renaming eq_of_mem_replicate → lx, getD_eq_getElem?_getD → aP, getElem?_eq_getElem → ai, getElem_mem → cY, length_map → jR, length_replicate → eH, mem_filter → IX, mem_range → Lm, range → kB, replicate → aO, take_length → GK
open Nat renaming add_zero → wg, and_two_pow_sub_one_eq_mod → Dc, div_add_mod → GJ, div_eq_of_lt → Db, div_le_self → ik, gcd → cG, gcd_comm → Cm, gcd_pos_of_pos_right → Ll, le_of_ble_eq_true → ae, lt_of_le_of_lt → eX, lt_of_lt_of_le → fj, lt_trans → PE, mod_lt → pH, mul_comm → ff, strongRecOn → pG, testBit_and → GF, testBit_two_pow_mul_add → jJ, zero_div → PC
open Option.some renaming inj → cK
namespace Go.BmP
open Go.Am Go.Bm
theorem Hm (N : Nat) (hN : N <= 64) (Es : List Ed) (hE : Es.length < 4294967295) (hv : ∀ e ∈ Es,0 <= e.1 /\ e.1 < e.2 /\ e.2 < (N : Int)) : ∀ (k i : Nat) (A : List Nat),i + k = Es.length -> A.length = N -> Small A -> bL ak 0 (.loop Kv) ⟨[(3,.own 1 (us A)),(12,.list 2 (bm Es)),(13,.int .i64 Es.length),(14,.int .i64 i)],[]⟩ =
  some (.exit 0,⟨[(3,.own 1 (us (uP (Es.drop i) A))),(12,.list 2 (bm Es)),(13,.int .i64 Es.length),(14,.int .i64 Es.length),(15,.bool false)],[]⟩)
 | 0,i,A,hi,hA,hS => by
   obtain rfl : i = Es.length := by omega
   rw [List.drop_length];exact cj (by unfold Kv; simp [JJ,JI,JH,JG,JF,JE,JD,JC,JB,JA,uP,List.foldl_nil])
 | k + 1,i,A,hi,hA,hS => by
   have bO : i < Es.length := by omega
   have h1 : (i : Int) < Es.length := by omega
   have hw := fT (i := i) (by omega);obtain ⟨u0,uv,vn⟩ := hv Es[i] (cY bO);have ih := Hm N hN Es hE hv k (i + 1) (adF A Es[i]) (by omega) (by rw [Gu]; exact hA) (IP hS (by omega) (by omega));rw [List.drop_eq_getElem_cons bO];have v0 : 0 <= Es[i].2 := by omega
   have un : Es[i].1 < (N : Int) := by omega
   have u0' : ¬ Es[i].1 < 0 := by omega
   have v0' : ¬ Es[i].2 < 0 := by omega
   have uN : Es[i].1.toNat < N := by omega
   have vN : Es[i].2.toNat < N := by omega
   have pu := yH (v := Es[i].1) (by omega) u0;have pv := yH (v := Es[i].2) (by omega) v0;have su := shlU (v := Es[i].1) u0 (by omega);have sv := shlU (v := Es[i].2) v0 (by omega);have su' : IntKind.u64.wrap (2 ^ (min Es[i].1.toNat 64)) = ((2 ^ Es[i].1.toNat : Nat) : Int) := by rw [<- su,Int.one_mul]
   have sv' : IntKind.u64.wrap (2 ^ (min Es[i].2.toNat 64)) = ((2 ^ Es[i].2.toNat : Nat) : Int) := by rw [<- sv,Int.one_mul]
   have gu : (us A)[Es[i].1.toNat]? = some (.int .u64 (A.getD Es[i].1.toNat 0 : Nat)) := by
    rw [PJ,aP,ai (by omega)]; rfl
   have xu := C5 hS Es[i].1.toNat;have ou := u64_or_nat (A.getD Es[i].1.toNat 0) (2 ^ Es[i].2.toNat) xu pv;have eu := WZ A Es[i].1.toNat (A.getD Es[i].1.toNat 0 ||| 2 ^ Es[i].2.toNat);have sm : Small (A.set Es[i].1.toNat (A.getD Es[i].1.toNat 0 ||| 2 ^ Es[i].2.toNat)) := zN hS (Nat.or_lt_two_pow (n := 64) xu pv);have eln : (A.set Es[i].1.toNat (A.getD Es[i].1.toNat 0 ||| 2 ^ Es[i].2.toNat)).length = N := by rw [List.length_set]; exact hA
   have ead : uP (Es[i] :: Es.drop (i + 1)) A = uP (Es.drop (i + 1)) (adF A Es[i]) := rfl;rw [ead];have eA : adF A Es[i] = (A.set Es[i].1.toNat (A.getD Es[i].1.toNat 0 ||| 2 ^ Es[i].2.toNat)).set Es[i].2.toNat ((A.set Es[i].1.toNat (A.getD Es[i].1.toNat 0 ||| 2 ^ Es[i].2.toNat)).getD Es[i].2.toNat 0 ||| 2 ^ Es[i].1.toNat) := rfl;rw [eA] at ih ⊢;generalize hA1 : A.set Es[i].1.toNat (A.getD Es[i].1.toNat 0 ||| 2 ^ Es[i].2.toNat) = A1 at *
   have gv : (us A1)[Es[i].2.toNat]? = some (.int .u64 (A1.getD Es[i].2.toNat 0 : Nat)) := by
    rw [PJ,aP,ai (by omega)]; rfl
   have ov := u64_or_nat (A1.getD Es[i].2.toNat 0) (2 ^ Es[i].1.toNat) (C5 sm _) pu;have ev := WZ A1 Es[i].2.toNat (A1.getD Es[i].2.toNat 0 ||| 2 ^ Es[i].1.toNat);generalize A1.getD Es[i].2.toNat 0 ||| 2 ^ Es[i].1.toNat = q at *
   generalize A.getD Es[i].1.toNat 0 ||| 2 ^ Es[i].2.toNat = p at *
   generalize A1.getD Es[i].2.toNat 0 = y at *;generalize A.getD Es[i].1.toNat 0 = x at *;generalize 2 ^ Es[i].1.toNat = pU at *;generalize 2 ^ Es[i].2.toNat = pV at *;clear pu pv xu sm eA ead hA1;have gu' : ∀ h : Es[i].1.toNat < (us A).length,(us A)[Es[i].1.toNat] = .int .u64 (x : Int) := fun h => by rw [ai h] at gu; exact cK gu
   have gv' : ∀ h : Es[i].2.toNat < (us A1).length,(us A1)[Es[i].2.toNat] = .int .u64 (y : Int) := fun h => by rw [ai h] at gv; exact cK gv
   refine (bG (s' := ⟨[(3,.own 1 (us (A1.set Es[i].2.toNat q))),(12,.list 2 (bm Es)),(13,.int .i64 Es.length),(14,.int .i64 ((i + 1 : Nat) : Int))],[]⟩) ?_).trans ih;have g1 : (bm Es)[i]? = some (.agg [.int .i64 Es[i].1,.int .i64 Es[i].2]) := by rw [aX,ai bO]; rfl
   have g2 : ∀ h,(bm Es)[i]'h = .agg [.int .i64 Es[i].1,.int .i64 Es[i].2] := fun h => bV ..;have g5 := av Es;have vN' : Es[i].2 < (N : Int) := vn;unfold Kv;simp [JJ,JI,JH,JG,JF,JE,JD,JC,JB,JA,h1,bO,hw,u0,v0,u0',v0',un,vn,uv,uN,vN,su,sv,su',sv',gu,gv,gu',gv',g1,g2,g5,ou,ov,eu,ev,hA,eln,uV,idx,IntKind.bits,fz,pl,AV.leaf,aJ]
theorem o7 {N : Nat} {Es : List Ed} (h : gK (N : Int) Es) : (o8 N Es).length = N /\ Small (o8 N Es) /\ ∀ a b : Nat,((o8 N Es).getD a 0).testBit b = (decide (((a : Int),(b : Int)) ∈ Es) || decide (((b : Int),(a : Int)) ∈ Es)) := by
 have hn := h.1;obtain ⟨i1,i2,i3⟩ := Gq N (by omega) Es (aO N 0) (by simp) (fun x hx => by have := lx hx; omega) h.2.2;refine ⟨i1,i2,fun a b => ?_⟩;unfold o8;rw [i3];have : ((aO N 0).getD a 0) = 0 := by rw [aP,List.getElem?_replicate]; split <;> rfl
 rw [this,Nat.zero_testBit,Bool.false_or]
theorem XC {N : Nat} {Es : List Ed} (h : gK (N : Int) Es) (hE : Es.length < 4294967295) : aY ak NP [.agg [.int .i64 N,.list 2 (bm Es)]] [] = some (.list 1 (us (o8 N Es)),[]) := by
 have hn : N <= 64 := by have := h.1; omega
 have hl := Hm N hn Es hE h.2.2 Es.length 0 (aO N 0) (by omega) (by simp) (fun x hx => by have := lx hx; omega);rw [iR,List.drop_zero] at hl;have r1 : aO N (AV.int .u64 0) = us (aO N 0) := ae1 N;have n0 : ¬ (N : Int) < 0 := by omega
 have nL : (N : Int) <= 4294967296 := by omega
 have m1 : max (N : Int) 0 = (N : Int) := by omega
 have m2 : ¬ (64 : Int) < N := by omega
 have ea : uP Es (aO N 0) = o8 N Es := rfl;rw [ea] at hl;have tk : (us (o8 N Es)).take (o8 N Es).length = us (o8 N Es) := by rw [abh,GK]
 have e := (o7 h).1
 have tkr : (us (aO N 0)).take N = us (aO N 0) := by
  have := GK (l := us (aO N 0))
  rwa [uV,eH] at this
 rw [e] at tk;have g5 := av Es;rw [aB oQb7 sQb7 (ae rfl)];unfold qQb7 cQb7;generalize bm Es = Y at *;simp [JJ,JI,JH,JG,JF,JE,JD,JC,JB,JA,hl,r1,tkr,e,eH,n0,nL,m1,m2,uV,tk,g5,jQ,aJ,dK,pl,ba,aZ]
def pc9 (m : Nat) : Nat := ((kB 9).filter fun j => m.testBit j).length
def pcA (x : Int) : Int := IntKind.u64.wrap (bits .and .u64 (x.fdiv 2) 6148914691236517205 + bits .and .u64 x 6148914691236517205)
def pcB (x : Int) : Int := IntKind.u64.wrap (bits .and .u64 (x.fdiv 4) 3689348814741910323 + bits .and .u64 x 3689348814741910323)
def pcC (x : Int) : Int := bits .and .u64 (IntKind.u64.wrap (x.fdiv 16 + x)) 1085102592571150095
def pcD (n : Int) (x : Int) : Int := IntKind.u64.wrap (x + x.fdiv n)
def pcE (x : Int) : Int := bits .and .i64 (IntKind.i64.wrap (pcD 4294967296 (pcD 65536 (pcD 256 (pcC (pcB (pcA x))))))) 127
theorem Zt (x : Int) : aY ak Kg [.int .u64 x] [] = some (.int .i64 (pcE x),[]) := by
 obtain ⟨a,ea⟩ : ∃ a,IntKind.u64.wrap (bits .and .u64 (x.fdiv 2) 6148914691236517205 + bits .and .u64 x 6148914691236517205) = a := ⟨_,rfl⟩;obtain ⟨b,eb⟩ : ∃ b,IntKind.u64.wrap (bits .and .u64 (a.fdiv 4) 3689348814741910323 + bits .and .u64 a 3689348814741910323) = b := ⟨_,rfl⟩;obtain ⟨c,ec⟩ : ∃ c,bits .and .u64 (IntKind.u64.wrap (b.fdiv 16 + b)) 1085102592571150095 = c := ⟨_,rfl⟩;obtain ⟨d,ed⟩ : ∃ d,IntKind.u64.wrap (c + c.fdiv 256) = d := ⟨_,rfl⟩;obtain ⟨e,ee⟩ : ∃ e,IntKind.u64.wrap (d + d.fdiv 65536) = e := ⟨_,rfl⟩;obtain ⟨f,ef⟩ : ∃ f,IntKind.u64.wrap (e + e.fdiv 4294967296) = f := ⟨_,rfl⟩;have hp : pcE x = bits .and .i64 (IntKind.i64.wrap f) 127 := by unfold pcE pcD pcC pcB pcA; rw [ea,eb,ec,ed,ee,ef]
 rw [hp];rw [aB oQb6 sQb6 (ae rfl)];unfold qQb6 cQb6;simp [YS,YR,YQ,YP,YO,YN,YM,YL,ea,eb,ec,ed,ee,ef,IntKind.bits,aJ,ba,aZ]
/- The number of bits of a word, by the sums of its bytes. -/
def K7 (u : Nat) : Nat -> Nat
 | 0 => 0
 | k + 1 => 256 * K7 u k + u
theorem and8 (y b M u : Nat) (hb : b < 256) (hu : u < 256) : (256 * y + b) &&& (256 * M + u) = 256 * (y &&& M) + (b &&& u) := by
 apply Nat.eq_of_testBit_eq;intro j;have h3 : b &&& u < 2 ^ 8 := eX Nat.and_le_left hb;have e1 := jJ y (b := b) (i := 8) hb j;have e2 := jJ M (b := u) (i := 8) hu j;have e3 := jJ (y &&& M) (b := b &&& u) (i := 8) h3 j;rw [show (2 : Nat) ^ 8 = 256 from rfl] at e1 e2 e3;rw [GF,e1,e2,e3];split
 ·rw [GF]
 ·rw [GF]
def fA (k x : Nat) : Nat := (x / 2 &&& K7 85 k) + (x &&& K7 85 k)
def fB (k x : Nat) : Nat := (x / 4 &&& K7 51 k) + (x &&& K7 51 k)
def fC (k x : Nat) : Nat := (x / 16 + x) &&& K7 15 k
def bA (b : Nat) : Nat := (b / 2 &&& 85) + (b &&& 85)
def bB (b : Nat) : Nat := (b / 4 &&& 51) + (b &&& 51)
def GP (b : Nat) : Nat := (bB (bA b) / 16 + bB (bA b)) % 16
theorem byA : ∀ b : Fin 256,∀ r : Fin 2,(128 * r.val + b.val / 2 &&& 85) = (b.val / 2 &&& 85) /\ bA b.val < 256 := by decide +kernel
theorem byB : ∀ b : Fin 256,∀ r : Fin 4,(64 * r.val + b.val / 4 &&& 51) = (b.val / 4 &&& 51) /\ bB b.val < 256 := by decide +kernel
theorem byC : ∀ b : Fin 256,bB (bA b.val) <= 68 /\ bB (bA b.val) % 16 <= 4 /\ GP b.val <= 8 /\ GP b.val = ((kB 8).filter fun j => b.val.testBit j).length := by decide +kernel
theorem acI (k y b : Nat) (hb : b < 256) : fA (k + 1) (256 * y + b) = 256 * fA k y + bA b := by
 unfold fA bA;rw [show K7 85 (k + 1) = 256 * K7 85 k + 85 from rfl];have e : (256 * y + b) / 2 = 256 * (y / 2) + (128 * (y % 2) + b / 2) := by omega
 have h1 := (byA ⟨b,hb⟩ ⟨y % 2,by omega⟩).1;simp only at h1;rw [e,and8 _ _ _ _ (by omega) (by omega),and8 _ _ _ _ hb (by omega),h1];omega
theorem acH (k y b : Nat) (hb : b < 256) : fB (k + 1) (256 * y + b) = 256 * fB k y + bB b := by
 unfold fB bB;rw [show K7 51 (k + 1) = 256 * K7 51 k + 51 from rfl];have e : (256 * y + b) / 4 = 256 * (y / 4) + (64 * (y % 4) + b / 4) := by omega
 have h1 := (byB ⟨b,hb⟩ ⟨y % 4,by omega⟩).1;simp only at h1;rw [e,and8 _ _ _ _ (by omega) (by omega),and8 _ _ _ _ hb (by omega),h1];omega
theorem acG (k y b : Nat) (hb : b <= 68) (hy : y % 16 <= 4) : fC (k + 1) (256 * y + b) = 256 * fC k y + (b / 16 + b) % 16 := by
 unfold fC;rw [show K7 15 (k + 1) = 256 * K7 15 k + 15 from rfl];have e : (256 * y + b) / 16 + (256 * y + b) = 256 * (y / 16 + y) + (16 * (y % 16) + b / 16 + b) := by omega
 have e2 : (16 * (y % 16) + b / 16 + b) &&& 15 = (b / 16 + b) % 16 := by
  rw [show (15 : Nat) = 2 ^ 4 - 1 from rfl,Dc];omega
 rw [e,and8 _ _ _ _ (by omega) (by omega),e2]
def pcW : Nat -> Nat -> Nat
 | 0,_ => 0
 | k + 1,x => 256 * pcW k (x / 256) + GP (x % 256)
theorem fABC : ∀ k x : Nat,fB k (fA k x) % 16 <= 4 /\ fC k (fB k (fA k x)) = pcW k x /\ fA k x < 256 ^ k /\ fB k (fA k x) < 256 ^ k /\ fB k (fA k x) / 16 + fB k (fA k x) < 256 ^ k
 | 0,x => by
   have h1 : ∀ y,fA 0 y = 0 := fun y => by simp [fA,K7]
   have h2 : ∀ y,fB 0 y = 0 := fun y => by simp [fB,K7]
   have h3 : ∀ y,fC 0 y = 0 := fun y => by simp [fC,K7]
   rw [h1,h2,h3];simp [pcW]
 | k + 1,x => by
   obtain ⟨i1,i2,i3,i4,i5⟩ := fABC k (x / 256);have hb : x % 256 < 256 := pH _ (by omega);have ex : 256 * (x / 256) + x % 256 = x := GJ _ _;have a1 := acI k (x / 256) (x % 256) hb;rw [ex] at a1;have hA := (byA ⟨x % 256,hb⟩ 0).2;obtain ⟨c1,c2,c3,_⟩ := byC ⟨x % 256,hb⟩;simp only at hA c1 c2 c3;have c4 : bB (bA (x % 256)) % 16 <= 4 := c2;have b1 := acH k (fA k (x / 256)) (bA (x % 256)) hA;rw [<- a1] at b1;have d1 := acG k (fB k (fA k (x / 256))) (bB (bA (x % 256))) c1 i1;rw [<- b1] at d1;have e1 : 256 ^ (k + 1) = 256 * 256 ^ k := by rw [Nat.pow_succ,ff]
   refine ⟨by rw [b1,show (256 : Nat) = 16 * 16 from rfl,Nat.mul_assoc,Nat.mul_add_mod]; exact c4,by rw [d1,i2]; rfl,by rw [a1,e1]; omega,by rw [b1,e1]; omega,by rw [b1,e1]; omega⟩
theorem Wz (k y b : Nat) (hb : b < 256) : ((kB (8 * (k + 1))).filter fun j => (256 * y + b).testBit j).length = ((kB 8).filter fun j => b.testBit j).length + ((kB (8 * k)).filter fun j => y.testBit j).length := by
 rw [show 8 * (k + 1) = 8 + 8 * k by omega,List.range_add,List.filter_append,List.length_append];have e1 : ∀ j,(256 * y + b).testBit j = if j < 8 then b.testBit j else y.testBit (j - 8) := jJ y (b := b) (i := 8) hb;congr 1
 ·congr 1;refine List.filter_congr fun j hj => ?_;rw [e1,if_pos (Lm.1 hj)]
 ·rw [List.filter_map,jR];congr 1;refine List.filter_congr fun j _ => ?_;simp only [Function.comp];rw [e1,if_neg (by omega),Nat.add_sub_cancel_left]
def pcn (m : Nat) : Nat := ((kB 64).filter fun j => m.testBit j).length
theorem Vi (m : Nat) (h : m < 2 ^ 64) : pcn m = GP (m % 256) + (GP (m / 256 % 256) + (GP (m / 256 / 256 % 256) + (GP (m / 256 / 256 / 256 % 256) + (GP (m / 256 / 256 / 256 / 256 % 256) + (GP (m / 256 / 256 / 256 / 256 / 256 % 256) + (GP (m / 256 / 256 / 256 / 256 / 256 / 256 % 256) + GP (m / 256 / 256 / 256 / 256 / 256 / 256 / 256 % 256))))))) := by
 have st : ∀ k x,((kB (8 * (k + 1))).filter fun j => x.testBit j).length = GP (x % 256) + ((kB (8 * k)).filter fun j => (x / 256).testBit j).length := by
  intro k x;have hb : x % 256 < 256 := pH _ (by omega);have := Wz k (x / 256) (x % 256) hb;rw [GJ] at this;rw [this,(byC ⟨x % 256,hb⟩).2.2.2]
 unfold pcn;rw [show (64 : Nat) = 8 * (7 + 1) from rfl,st,show (8 * 7 : Nat) = 8 * (6 + 1) from rfl,st,show (8 * 6 : Nat) = 8 * (5 + 1) from rfl,st,show (8 * 5 : Nat) = 8 * (4 + 1) from rfl,st,show (8 * 4 : Nat) = 8 * (3 + 1) from rfl,st,show (8 * 3 : Nat) = 8 * (2 + 1) from rfl,st,show (8 * 2 : Nat) = 8 * (1 + 1) from rfl,st,show (8 * 1 : Nat) = 8 * (0 + 1) from rfl,st];simp
theorem I4 {n : Nat} (h : n < 2 ^ 64) : IntKind.u64.wrap (n : Int) = n := by
 rw [IntKind.wrap_u64];omega
theorem Oz (a b : Nat) (ha : a < 9223372036854775808) (hb : b < 9223372036854775808) : bits .and .i64 (a : Int) (b : Int) = ((a &&& b : Nat) : Int) := by
 have hx : a &&& b < 2 ^ 63 := Nat.and_lt_two_pow _ (by omega);show IntKind.i64.wrap ((BitVec.ofInt 64 (a : Int) &&& BitVec.ofInt 64 (b : Int)).toNat : Int) = _;rw [BitVec.toNat_and,ofInt_u64 a (by omega),ofInt_u64 b (by omega),IntKind.wrap_i64];omega
theorem Uj (m n : Nat) (hn : 0 < n) : (m : Int).fdiv (n : Int) = ((m / n : Nat) : Int) := by
 rw [pI _ (by omega)]; rfl
def pxA (x : Int) : Int := IntKind.u64.wrap (bits .and .u64 (x.fdiv 2) 6148914691236517205 + bits .and .u64 x 6148914691236517205)
def pxB (x : Int) : Int := IntKind.u64.wrap (bits .and .u64 (x.fdiv 4) 3689348814741910323 + bits .and .u64 x 3689348814741910323)
def pxC (x : Int) : Int := bits .and .u64 (IntKind.u64.wrap (x.fdiv 16 + x)) 1085102592571150095
def pxD (n : Int) (x : Int) : Int := IntKind.u64.wrap (x + x.fdiv n)
def pxE (x : Int) : Int := bits .and .i64 (IntKind.i64.wrap (pxD 4294967296 (pxD 65536 (pxD 256 (pxC (pxB (pxA x))))))) 127
theorem agr (m : Nat) (h : m < 2 ^ 64) (g : fA 8 m < 2 ^ 64) : pxA (m : Int) = (fA 8 m : Nat) := by
 have k1 : K7 85 8 = 6148914691236517205 := by decide
 unfold fA at g ⊢;rw [k1] at g ⊢;unfold pxA;have a1 := u64_and_nat (m / 2) 6148914691236517205 (by omega) (by decide);have a2 := u64_and_nat m 6148914691236517205 (by omega) (by decide);have d := Uj m 2 (by decide);generalize m / 2 &&& 6148914691236517205 = p at *;generalize m &&& 6148914691236517205 = q at *;have d' : (m : Int).fdiv 2 = ((m / 2 : Nat) : Int) := d;have a1' : bits .and .u64 ((m / 2 : Nat) : Int) 6148914691236517205 = (p : Int) := a1;have a2' : bits .and .u64 (m : Int) 6148914691236517205 = (q : Int) := a2;rw [d',a1',a2',<- lz,I4 g]
theorem agq (a : Nat) (h : a < 2 ^ 64) (g : fB 8 a < 2 ^ 64) : pxB (a : Int) = (fB 8 a : Nat) := by
 have k2 : K7 51 8 = 3689348814741910323 := by decide
 unfold fB at g ⊢;rw [k2] at g ⊢;unfold pxB;have a1 := u64_and_nat (a / 4) 3689348814741910323 (by omega) (by decide);have a2 := u64_and_nat a 3689348814741910323 (by omega) (by decide);have d := Uj a 4 (by decide);generalize a / 4 &&& 3689348814741910323 = p at *;generalize a &&& 3689348814741910323 = q at *;have d' : (a : Int).fdiv 4 = ((a / 4 : Nat) : Int) := d;have a1' : bits .and .u64 ((a / 4 : Nat) : Int) 3689348814741910323 = (p : Int) := a1;have a2' : bits .and .u64 (a : Int) 3689348814741910323 = (q : Int) := a2;rw [d',a1',a2',<- lz,I4 g]
theorem agp (b : Nat) (g : b / 16 + b < 2 ^ 64) : pxC (b : Int) = (fC 8 b : Nat) := by
 have k3 : K7 15 8 = 1085102592571150095 := by decide
 unfold fC;rw [k3];unfold pxC;have d := Uj b 16 (by decide);have d' : (b : Int).fdiv 16 = ((b / 16 : Nat) : Int) := d;have a1 := u64_and_nat (b / 16 + b) 1085102592571150095 (by omega) (by decide);generalize (b / 16 + b) &&& 1085102592571150095 = p at *;have a1' : bits .and .u64 ((b / 16 + b : Nat) : Int) 1085102592571150095 = (p : Int) := a1;rw [d',<- lz,I4 g,a1']
theorem Qr (n x : Nat) (hn : 0 < n) (g : x + x / n < 2 ^ 64) : pxD (n : Int) (x : Int) = ((x + x / n : Nat) : Int) := by
 unfold pxD;rw [Uj x n hn,<- lz,I4 g]
theorem ahu {c0 c1 c2 c3 c4 c5 c6 c7 x y z : Nat} (h0 : c0 <= 8) (h1 : c1 <= 8) (h2 : c2 <= 8) (h3 : c3 <= 8) (h4 : c4 <= 8) (h5 : c5 <= 8) (h6 : c6 <= 8) (h7 : c7 <= 8)
  (ex : x = 256 * (256 * (256 * (256 * (256 * (256 * (256 * c7 + c6) + c5) + c4) + c3) + c2) + c1) + c0) (ey : y = x + x / 256) (ez : z = y + y / 65536) :
  x + x / 256 < 2 ^ 62 /\ y + y / 65536 < 2 ^ 62 /\ z + z / 4294967296 < 2 ^ 62 /\ (z + z / 4294967296) % 128 = c0 + (c1 + (c2 + (c3 + (c4 + (c5 + (c6 + c7)))))) := by
 have ey2 : y = 256 * (256 * (256 * (256 * (256 * (256 * (256 * c7 + (c6 + c7)) + (c5 + c6)) + (c4 + c5)) + (c3 + c4)) + (c2 + c3)) + (c1 + c2)) + (c0 + c1) := by omega
 have ez2 : z = 256 * (256 * (256 * (256 * (256 * (256 * (256 * c7 + (c6 + c7)) + (c5 + c6 + c7)) + (c4 + c5 + (c6 + c7))) + (c3 + c4 + (c5 + c6))) + (c2 + c3 + (c4 + c5))) + (c1 + c2 + (c3 + c4))) + (c0 + c1 + (c2 + c3)) := by
  clear ey ex;omega
 refine ⟨?_,?_,?_,?_⟩
 ·clear ez2 ez ey2 ey; omega
 ·clear ez2 ez ey ex; omega
 ·clear ez ey2 ey ex; omega
 ·clear ez ey2 ey ex;have eq : z / 4294967296 = 256 * (256 * (256 * c7 + (c6 + c7)) + (c5 + c6 + c7)) + (c4 + c5 + (c6 + c7)) := by omega
  rw [eq];obtain ⟨A,eA⟩ : ∃ A,z = 256 * A + (c0 + c1 + (c2 + c3)) := ⟨_,ez2⟩;rw [eA];clear eA ez2 eq;omega
theorem ab0 (m : Nat) (h : m < 2 ^ 64) : pxE (m : Int) = (pcn m : Int) := by
 obtain ⟨g1,g2,g3,g4,g5⟩ := fABC 8 m;have e256 : (256 : Nat) ^ 8 = 2 ^ 64 := by decide
 rw [e256] at g3 g4 g5;have b8 : ∀ x,GP (x % 256) <= 8 := fun x => (byC ⟨x % 256,pH _ (by decide)⟩).2.2.1;have ew : pcW 8 m = 256 * (256 * (256 * (256 * (256 * (256 * (256 * (256 * 0 + GP (m / 256 / 256 / 256 / 256 / 256 / 256 / 256 % 256)) + GP (m / 256 / 256 / 256 / 256 / 256 / 256 % 256)) + GP (m / 256 / 256 / 256 / 256 / 256 % 256)) + GP (m / 256 / 256 / 256 / 256 % 256)) + GP (m / 256 / 256 / 256 % 256)) + GP (m / 256 / 256 % 256)) + GP (m / 256 % 256)) + GP (m % 256) := rfl;rw [Nat.mul_zero,Nat.zero_add] at ew;obtain ⟨t1,t2,t3,t4⟩ := ahu (b8 m) (b8 (m / 256)) (b8 (m / 256 / 256)) (b8 (m / 256 / 256 / 256)) (b8 (m / 256 / 256 / 256 / 256)) (b8 (m / 256 / 256 / 256 / 256 / 256)) (b8 (m / 256 / 256 / 256 / 256 / 256 / 256)) (b8 (m / 256 / 256 / 256 / 256 / 256 / 256 / 256)) ew rfl rfl;have t64 : (2 : Nat) ^ 62 < 2 ^ 64 := by decide
 unfold pxE;rw [agr m h g3,agq _ g3 g4,agp _ g5,g2,Vi m h,<- t4];generalize pcW 8 m = x at *;have s1 := Qr 256 x (by decide) (PE t1 t64);have s2 := Qr 65536 (x + x / 256) (by decide) (PE t2 t64);have s3 := Qr 4294967296 (x + x / 256 + (x + x / 256) / 65536) (by decide) (PE t3 t64);have GM : pxD 256 (x : Int) = _ := s1;have s2' : pxD 65536 ((x + x / 256 : Nat) : Int) = _ := s2;have s3' : pxD 4294967296 ((x + x / 256 + (x + x / 256) / 65536 : Nat) : Int) = _ := s3;rw [GM,s2',s3'];generalize x + x / 256 + (x + x / 256) / 65536 + (x + x / 256 + (x + x / 256) / 65536) / 4294967296 = f at *
 have w : IntKind.i64.wrap (f : Int) = (f : Int) := by
  rw [IntKind.wrap_i64]; omega
 have a1 := Oz f 127 (by omega) (by decide);have a1' : bits .and .i64 (f : Int) 127 = ((f &&& 127 : Nat) : Int) := a1;rw [w,a1',show (127 : Nat) = 2 ^ 7 - 1 from rfl,Dc]
/- What ratio.Make returns for small numbers that are not negative. -/
theorem ahM (a b : Nat) : (a : Int).tmod b = ((a % b : Nat) : Int) := (Int.ofNat_tmod a b).symm
theorem adE {a : Nat} (b : Nat) (ha : a < 1000000000000) : IntKind.i64.wrap ((a : Int).tdiv b) = ((a / b : Nat) : Int) := by
 have h : ((a / b : Nat) : Int) = (a : Int).tdiv b := Int.ofNat_tdiv a b;have := ik a b;rw [<- h];generalize a / b = x at *;exact cM (by omega) (by omega)
def cmSt (a b : Nat) (J : Env) : St := ⟨(0,.int .i64 a) :: (1,.int .i64 b) :: J,[]⟩
theorem acY : ∀ (b a : Nat),a < 1000000000000 -> b < 1000000000000 -> bL ak 0 (.loop Ku) (cmSt a b []) = some (.exit 0,cmSt (cG a b) 0 [(6,.bool false)]) := fun b => by
 induction b using pG with
 | ind b ih =>
   intro a ha hb;by_cases h : b = 0
   ·subst h;rw [Nat.gcd_zero_right];refine cj ?_;unfold cmSt Ku;simp [Jx,Jw,Jv,Ju]
   ·have lt := pH a (show b > 0 by omega);have e : cG a b = cG b (a % b) := by rw [Cm b,<- Nat.gcd_rec b a,Cm]
    rw [e];refine (bG ?_).trans (ih (a % b) lt b hb (by omega));have h1 : ¬ (b : Int) = 0 := by omega
    have q := ahM a b;generalize a % b = r at *;unfold cmSt Ku;simp [Jx,Jw,Jv,Ju,h,h1,q]
theorem LX {a b : Nat} (ha : a < 1000000000000) (hb : b < 1000000000000) : aY ak NK [.int .i64 a,.int .i64 b] [] = some (.int .i64 (cG a b : Nat),[]) := by
 have lp := acY b a ha hb;rw [aB oQc2 sQc2 (ae rfl)];generalize cG a b = g at *;unfold cmSt at lp;unfold qQc2 cQc2;simp [Jx,Jw,Jv,Ju,lp,aJ,ba,aZ]
theorem DA {a m : Nat} (hm : m < 9223372036854775807) (h : a <= m) : aY ak GS [.int .i64 a,.int .i64 m] [] = some (.bool true,[]) := by
 have q : IntKind.i64.wrap (-(m : Int)) = -(m : Int) := cM (by omega) (by omega);have h1 : -(m : Int) <= (a : Int) := by omega
 have h2 : (a : Int) <= m := by omega
 rw [aB oQb1 sQb1 (ae rfl)];unfold qQb1 cQb1;simp [Y7,Y6,q,h1,h2,aJ,ba,aZ]
theorem XY {a b : Nat} (ha : a < 1000000000000) (hb : b < 1000000000000) : aY ak Ke [.agg [.int .i64 a,.int .i64 b]] [] = some (.dD [.agg [.int .i64 a,.int .i64 b],.int .i64 0],[]) := by
 have w := DA (a := a) (m := 1152921504606846976) (by omega) (by omega);rw [show ((1152921504606846976 : Nat) : Int) = 1152921504606846976 from rfl] at w;have h1 : ¬ (1152921504606846976 : Int) < b := by omega
 rw [aB oQc3 sQc3 (ae rfl)];unfold qQc3 cQc3;simp [YI,YH,YG,YF,w,h1,aJ,sQb1,iQb1,lQb1,eQb1,dK,pl,ba,aZ]
theorem XX {a b : Nat} (ha : a < 1000000000000) (hb : b < 1000000000000) (b0 : 0 < b) : aY ak NR [.int .i64 a,.int .i64 b] [] = some (.dD [.agg [.int .i64 (a / cG a b : Nat),.int .i64 (b / cG a b : Nat)],.int .i64 0],[]) := by
 have c := LX ha hb;have g0 : 0 < cG a b := Ll _ b0;have k := XY (a := a / cG a b) (b := b / cG a b) (eX (ik _ _) ha) (eX (ik _ _) hb);have d1 := adE (cG a b) ha;have d2 := adE (cG a b) hb;rw [IY (by omega)] at d1 d2;have n0 : ¬ (b : Int) < 0 := by omega
 have q : IntKind.i64.wrap (-(a : Int)) = -(a : Int) := cM (by omega) (by omega);have mx : ¬ (a : Int) < -(a : Int) := by omega
 have g1 : ¬ cG a b = 0 := by omega
 generalize a / cG a b = x at *;generalize b / cG a b = y at *;generalize cG a b = g at *;rw [aB oQb2 sQb2 (ae rfl)];unfold qQb2 cQb2;simp [Y5,Y3,YZ,YY,YX,c,k,d1,d2,n0,q,mx,g1,aJ,sQc2,iQc2,lQc2,eQc2,sQc3,iQc3,lQc3,eQc3,dK,pl,ba,aZ]
theorem XW {a b : Nat} (ha : a < 1000000000000) (hb : b < 1000000000000) (b0 : 0 < b) : aY ak nQ3 [.int .i64 a,.int .i64 b] [] = some (.dD [.agg [.int .i64 (a / cG a b : Nat),.int .i64 (b / cG a b : Nat)],.int .i64 0],[]) := by
 have c := XX ha hb b0;have w1 := DA (a := a) (m := 4611686018427387904) (by omega) (by omega);have w2 := DA (a := b) (m := 4611686018427387904) (by omega) (by omega);rw [show ((4611686018427387904 : Nat) : Int) = 4611686018427387904 from rfl] at w1 w2;have n0 : ¬ (b : Int) = 0 := by omega
 have n1 : ¬ b = 0 := by omega
 generalize a / cG a b = x at *;generalize b / cG a b = y at *;rw [aB oQ3 sQ3 (ae rfl)];unfold qQ3 cQ3;simp [aeC,aeB,aeA,aez,aey,aex,c,w1,w2,n0,n1,aJ,sQb2,iQb2,lQb2,eQb2,sQb1,iQb1,lQb1,eQb1,dK,pl,ba,aZ]
/- What the wide numbers of ref01 return for small numbers: double, less, sub, divide. -/
def wd (x : Nat) : AV := .agg [.int .u64 0,.int .u64 x]
theorem or00 : bits .or .u64 0 0 = 0 := by decide +kernel
theorem IL : bits .and .u64 0 1 = 0 := by decide +kernel
theorem or1 {x : Nat} (h : x < 1000000000000) : bits .or .u64 ((2 * x : Nat) : Int) 1 = ((2 * x + 1 : Nat) : Int) := by
 have := u64_or_nat (2 * x) 1 (by omega) (by decide);rw [show ((1 : Nat) : Int) = 1 from rfl] at this;rw [this];congr 1;have := Nat.shiftLeft_add_eq_or_of_lt (b := 1) (i := 1) (by decide) x;rw [Nat.shiftLeft_eq,Nat.pow_one,ff] at this;exact this.symm
theorem aiH {x : Nat} (h : x < 18446744073709551616) : bits .and .u64 (x : Int) 1 = ((x % 2 : Nat) : Int) := by
 have := u64_and_nat x 1 h (by decide);rw [show ((1 : Nat) : Int) = 1 from rfl] at this;rw [this,Nat.and_one_is_mod]
theorem FJ {x : Nat} (h : x < 1000000000000) : aY ak Kb [wd x] [] = some (wd (2 * x),[]) := by
 have e1 : ((x : Nat) : Int).fdiv 9223372036854775808 = 0 := by
  rw [pI _ (by decide)]; omega
 have e2 : IntKind.u64.wrap ((x : Int) * 2) = ((2 * x : Nat) : Int) := by rw [IntKind.wrap_u64]; omega
 have e0 : IntKind.u64.wrap 0 = 0 := by decide
 unfold wd;generalize ((2 * x : Nat) : Int) = y at *;rw [aB oQd9 PX (ae rfl)];unfold qQd9 cQd9;simp [YA,Yz,e0,e1,e2,or00,IntKind.bits,aJ,dK,pl,ba,aZ]
theorem aab {x y : Nat} : aY ak NH [wd x,wd y] [] = some (.bool (decide (x < y)),[]) := by
 rw [aB oQe0 PW (ae rfl)];unfold qQe0 cQe0 wd;simp [Yy,Yx,aJ,dK,pl,ba,aZ]
theorem abn {x y : Nat} (hx : x < 1000000000000) (h : y <= x) : aY ak Ka [wd x,wd y] [] = some (wd (x - y),[]) := by
 have e1 : IntKind.u64.wrap ((x : Int) - (y : Int)) = ((x - y : Nat) : Int) := by rw [IntKind.wrap_u64]; omega
 have e0 : IntKind.u64.wrap 0 = 0 := by decide
 have n : ¬ (x : Int) < (y : Int) := by omega
 have n1 : ¬ x < y := by omega
 unfold wd;generalize ((x - y : Nat) : Int) = z at *;rw [aB oQe1 sQe1 (ae rfl)];unfold qQe1 cQe1;simp [Yw,Yv,Yu,Yt,Ys,e0,e1,n,n1,aJ,dK,pl,ba,aZ]
def CA (a b q r : Nat) (i : Int) (J : Env) : St := ⟨(2,.ptr 0 0) :: (3,.ptr 1 0) :: (4,.ptr 2 0) :: (5,.ptr 3 0) :: (6,.ptr 4 0) :: (7,.ptr 5 0) :: (8,.int .i64 i) :: J,[some [.int .u64 0,.int .u64 a],some [.int .u64 0,.int .u64 b],some [.int .u64 0,.int .u64 0],some [.int .u64 0,.int .u64 0],some [.int .u64 0,.int .u64 q],some [.int .u64 0,.int .u64 r]]⟩
theorem aaE (a b q r n : Nat) (ha : a < 1000000000000) (hb : b < 1000000000000 / 8) (hr : r < b) (hq : q < 1000000000000 / 4) (hn : n < 128) :
  bL ak 0 pQ (CA a b q r n []) = some (.normal,CA a b (if 2 * r + a / 2 ^ n % 2 < b then 2 * q else 2 * q + 1) (if 2 * r + a / 2 ^ n % 2 < b then 2 * r + a / 2 ^ n % 2 else 2 * r + a / 2 ^ n % 2 - b) ((n : Int) - 1) []) := by
 have d1 := FJ (x := r) (by omega);have d2 := FJ (x := q) (by omega);have n0 : (0 : Int) <= (n : Int) := by omega
 have hw : IntKind.i64.wrap ((n : Int) - 1) = (n : Int) - 1 := cM (by omega) (by omega);have o1 := or1 (x := r) (by omega);have o2 := or1 (x := q) (by omega);have bt2 : a / 2 ^ n % 2 = 0 \/ a / 2 ^ n % 2 = 1 := by omega
 have key : ∀ J : Env,True := fun _ => trivial
 have a0 : 64 <= n -> a / 2 ^ n % 2 = 0 := fun h => by
  have : a < 2 ^ n := fj ha (Nat.le_trans (show 1000000000000 <= 2 ^ 64 by decide) (Nat.pow_le_pow_right (by decide) h));rw [Db this]
 have l1 := aab (x := 2 * r + a / 2 ^ n % 2) (y := b);have s1 : ¬ 2 * r + a / 2 ^ n % 2 < b -> aY ak Ka [wd (2 * r + a / 2 ^ n % 2),wd b] [] = some (wd (2 * r + a / 2 ^ n % 2 - b),[]) := fun h => abn (by omega) (by omega);unfold wd at d1 d2 l1 s1;by_cases QU : 64 <= n
 ·have b0 := a0 QU;rw [b0,wg] at l1 s1 ⊢;have h64 : (64 : Int) <= (n : Int) := by omega
  have QZ : ¬ (n : Int) < 64 := by omega
  have w1 : IntKind.i64.wrap ((n : Int) - 64) = ((n - 64 : Nat) : Int) := by rw [show ((n : Int) - 64) = ((n - 64 : Nat) : Int) by omega]; exact cM (by omega) (by omega)
  have w2 : IntKind.u64.wrap ((n - 64 : Nat) : Int) = ((n - 64 : Nat) : Int) := RF (by omega);have w3 : ¬ ((n - 64 : Nat) : Int) < 0 := by omega
  generalize n - 64 = m at *;by_cases c : 2 * r < b
  ·rw [if_pos c,if_pos c];rw [decide_eq_true c] at l1;generalize 2 * r = rr at *;generalize 2 * q = qq at *;unfold CA pQ;simp [q6,q5,qZ,qY,qX,qW,qV,qU,qT,qS,nq,nn,nk,n0,QU,h64,QZ,w1,w2,w3,hw,d1,d2,l1,IL,IntKind.bits,aJ,Int.zero_fdiv,PX,VL,VC,Wd,PW,VK,VB,Wc]
  ·rw [if_neg c,if_neg c];have s := s1 c;rw [decide_eq_false c] at l1;generalize 2 * r - b = r2 at *;generalize 2 * r = rr at *;generalize 2 * q + 1 = q1 at *;generalize 2 * q = qq at *;unfold CA pQ;simp [q6,q5,qZ,qY,qX,qW,qV,qU,qT,qS,nq,nn,nk,n0,QU,h64,QZ,w1,w2,w3,hw,d1,d2,l1,s,o2,IL,IntKind.bits,aJ,Int.zero_fdiv,PX,VL,VC,Wd,PW,VK,VB,Wc,sQe1,iQe1,lQe1,eQe1]
 ·have h64 : ¬ (64 : Int) <= (n : Int) := by omega
  have QZ : (n : Int) < 64 := by omega
  have w2 : IntKind.u64.wrap (n : Int) = (n : Int) := RF (by omega);have w3 : ¬ (n : Int) < 0 := by omega
  have hmin : min n 64 = n := by omega
  have e1 : ((a : Nat) : Int).fdiv (2 ^ n) = ((a / 2 ^ n : Nat) : Int) := by
   rw [pI _ (Int.pow_nonneg (by decide)),Int.natCast_ediv,Int.natCast_pow]; rfl
  have e2 := aiH (x := a / 2 ^ n) (eX (ik _ _) (by omega));rcases bt2 with b0 | b0
  ·rw [b0,wg] at l1 s1 ⊢;rw [b0] at e2;generalize a / 2 ^ n = an at *;by_cases c : 2 * r < b
   ·rw [if_pos c,if_pos c];rw [decide_eq_true c] at l1;generalize 2 * r = rr at *;generalize 2 * q = qq at *;unfold CA pQ;simp [q6,q5,qZ,qY,qX,qW,qV,qU,qT,qS,nq,nn,nk,n0,QU,h64,QZ,w2,w3,hmin,e1,e2,hw,d1,d2,l1,IL,IntKind.bits,aJ,PX,VL,VC,Wd,PW,VK,VB,Wc]
   ·rw [if_neg c,if_neg c];have s := s1 c;rw [decide_eq_false c] at l1;generalize 2 * r - b = r2 at *;generalize 2 * r = rr at *;generalize 2 * q + 1 = q1 at *;generalize 2 * q = qq at *;unfold CA pQ;simp [q6,q5,qZ,qY,qX,qW,qV,qU,qT,qS,nq,nn,nk,n0,QU,h64,QZ,w2,w3,hmin,e1,e2,hw,d1,d2,l1,s,o2,IL,IntKind.bits,aJ,PX,VL,VC,Wd,PW,VK,VB,Wc,sQe1,iQe1,lQe1,eQe1]
  ·rw [b0] at l1 s1 e2 ⊢;generalize a / 2 ^ n = an at *;by_cases c : 2 * r + 1 < b
   ·rw [if_pos c,if_pos c];rw [decide_eq_true c] at l1;generalize 2 * r + 1 = r1 at *;generalize 2 * r = rr at *;generalize 2 * q = qq at *;unfold CA pQ;simp [q6,q5,qZ,qY,qX,qW,qV,qU,qT,qS,nq,nn,nk,n0,QU,h64,QZ,w2,w3,hmin,e1,e2,hw,d1,d2,l1,o1,IL,IntKind.bits,aJ,PX,VL,VC,Wd,PW,VK,VB,Wc]
   ·rw [if_neg c,if_neg c];have s := s1 c;rw [decide_eq_false c] at l1;generalize 2 * r + 1 - b = r2 at *;generalize 2 * r + 1 = r1 at *;generalize 2 * r = rr at *;generalize 2 * q + 1 = q1 at *;generalize 2 * q = qq at *;unfold CA pQ;simp [q6,q5,qZ,qY,qX,qW,qV,qU,qT,qS,nq,nn,nk,n0,QU,h64,QZ,w2,w3,hmin,e1,e2,hw,d1,d2,l1,s,o1,o2,IL,IntKind.bits,aJ,PX,VL,VC,Wd,PW,VK,VB,Wc,sQe1,iQe1,lQe1,eQe1]
theorem Um (a b : Nat) (ha : a < 1000000000000 / 8) (hb : b < 1000000000000 / 8) (b0 : 0 < b) : ∀ n : Nat,n <= 128 -> bL ak 0 (.loop pQ) (CA a b (a / 2 ^ n / b) (a / 2 ^ n % b) ((n : Int) - 1) []) = some (.exit 0,CA a b (a / b) (a % b) (-1) [(10,.bool false)])
 | 0,_ => by
   rw [Nat.pow_zero,Nat.div_one];refine cj ?_;generalize a / b = q at *;generalize a % b = r at *;unfold CA pQ;simp [q6,q5,qZ,qY,qX,qW,qV,qU,qT,qS,nq,nn,nk]
 | n + 1,hn => by
   have ih := Um a b ha hb b0 n (by omega);have hr := pH (a / 2 ^ (n + 1)) b0;have hq : a / 2 ^ (n + 1) / b < 1000000000000 / 4 := eX (ik _ _) (eX (ik _ _) (by omega));have rd := aaE a b (a / 2 ^ (n + 1) / b) (a / 2 ^ (n + 1) % b) n (by omega) hb hr hq (by omega)
   have e1 : a / 2 ^ n = 2 * (a / 2 ^ (n + 1)) + a / 2 ^ n % 2 := by
    rw [Nat.pow_succ,<- Nat.div_div_eq_div_mul]; omega
   have e2 := GJ (a / 2 ^ (n + 1)) b;generalize a / 2 ^ (n + 1) / b = q at *;generalize a / 2 ^ (n + 1) % b = r at *;generalize a / 2 ^ (n + 1) = z at *;have bt2 : a / 2 ^ n % 2 < 2 := pH _ (by omega);generalize a / 2 ^ n % 2 = c at *;generalize a / 2 ^ n = y at *
   have f1 : y = b * (if 2 * r + c < b then 2 * q else 2 * q + 1) + (if 2 * r + c < b then 2 * r + c else 2 * r + c - b) := by
    split
    ·rw [Nat.mul_left_comm]; omega
    ·rw [Nat.mul_add,Nat.mul_left_comm]; omega
   have f2 : (if 2 * r + c < b then 2 * r + c else 2 * r + c - b) < b := by split <;> omega
   generalize (if 2 * r + c < b then 2 * q else 2 * q + 1) = q2 at *;generalize (if 2 * r + c < b then 2 * r + c else 2 * r + c - b) = r2 at *;have g1 : y / b = q2 := by rw [f1,Nat.mul_add_div b0,Db f2,wg]
   have g2 : y % b = r2 := by rw [f1,Nat.mul_add_mod,Nat.mod_eq_of_lt f2]
   rw [g1,g2] at ih;refine (bG ?_).trans ih;rw [show (((n + 1 : Nat) : Int) - 1) = (n : Int) by omega];exact rd
theorem xY {a b : Nat} (ha : a < 1000000000000 / 8) (hb : b < 1000000000000 / 8) (b0 : 0 < b) : aY ak GR [wd a,wd b] [] = some (.dD [wd (a / b),wd (a % b)],[]) := by
 have lp := Um a b ha hb b0 128 (by omega);have z : a / 2 ^ 128 = 0 := Db (fj ha (by decide));rw [z,PC,Nat.zero_mod,show (((128 : Nat) : Int) - 1) = 127 from rfl] at lp;generalize a / b = q at *;generalize a % b = r at *;unfold CA at lp;rw [iR] at lp;rw [aB oQd7 sQd7 (ae rfl)];unfold qQd7 cQd7 wd;simp [q6,q5,qZ,qY,qX,qW,qV,qU,qT,qS,nq,nn,nk,lp,aJ,dK,pl,ba,aZ]
/- What ref01.Of returns for small numbers. -/
def gcSt (a b : Nat) (J : Env) : St := ⟨(2,.ptr 0 0) :: (3,.ptr 1 0) :: (4,.ptr 2 0) :: J,[some [.int .u64 0,.int .u64 a],some [.int .u64 0,.int .u64 b],some [.int .u64 0,.int .u64 0]]⟩
theorem acy : ∀ (b a : Nat),a < 1000000000000 / 8 -> b < 1000000000000 / 8 -> bL ak 0 (.loop Kt) (gcSt a b []) = some (.exit 0,gcSt (cG a b) 0 [(9,.bool false)]) := fun b => by
 induction b using pG with
 | ind b ih =>
   intro a ha hb;by_cases h : b = 0
   ·subst h;rw [Nat.gcd_zero_right];refine cj ?_;unfold gcSt Kt;simp [Jr,Jq,Jp,Jo,Jn,FC,sQ,aJ]
   ·have lt := pH a (show b > 0 by omega);have e : cG a b = cG b (a % b) := by rw [Cm b,<- Nat.gcd_rec b a,Cm]
    rw [e];refine (bG ?_).trans (ih (a % b) lt b hb (by omega));have h1 : ¬ (b : Int) = 0 := by omega
    have d := xY ha hb (show 0 < b by omega);generalize a % b = r at *;generalize a / b = q at *;unfold wd at d;unfold gcSt Kt;simp [Jr,Jq,Jp,Jo,Jn,h,h1,d,FC,sQ,aJ,sQd7,iQd7,lQd7,eQd7]
theorem acx {a b : Nat} (ha : a < 1000000000000 / 8) (hb : b < 1000000000000 / 8) : aY ak NI [wd a,wd b] [] = some (wd (cG a b),[]) := by
 have lp := acy b a ha hb;generalize cG a b = g at *;unfold gcSt at lp;rw [iR] at lp;rw [aB oQd6 sQd6 (ae rfl)];unfold qQd6 cQd6 wd;simp [Jr,Jq,Jp,Jo,Jn,lp,aJ,dK,pl,ba,aZ]
def fr (a b : Nat) : AV := .agg [.int .i64 (a / cG a b : Nat),.int .i64 (b / cG a b : Nat)]
theorem P7 {a b : Nat} (ha : a < 1000000000000 / 8) (hb : b < 1000000000000 / 8) (b0 : 0 < b) : aY ak NJ [.bool false,wd a,wd b] [] = some (.dD [fr a b,.int .i64 0],[]) := by
 by_cases h : a = 0
 ·subst h;unfold fr;rw [Nat.gcd_zero_left,PC,Nat.div_self b0];rw [aB oQc8 sQc8 (ae rfl)];unfold Zi cQc8 wd;simp [Qj,Qi,Qh,Qg,Qf,Qe,Qd,Qc,Qb,Qa,Jt,Js,FC,sQ,aJ,dK,pl,ba,aZ]
 ·have g := acx ha hb;have g0 : 0 < cG a b := Ll _ b0;have gl : cG a b < 1000000000000 / 8 := eX (Nat.gcd_le_right _ b0) hb;have d1 := xY ha gl g0;have d2 := xY hb gl g0;have l1 : a / cG a b < 1000000000000 / 8 := eX (ik _ _) ha;have l2 : b / cG a b < 1000000000000 / 8 := eX (ik _ _) hb;unfold fr;generalize a / cG a b = x at *;generalize b / cG a b = y at *;generalize a % cG a b = x' at *;generalize b % cG a b = y' at *;generalize cG a b = G at *;have n1 : ¬ (1152921504606846976 : Int) < x := by omega
  have n2 : ¬ (1152921504606846976 : Int) < y := by omega
  have w1 : IntKind.i64.wrap (x : Int) = (x : Int) := cM (by omega) (by omega);have w2 : IntKind.i64.wrap (y : Int) = (y : Int) := cM (by omega) (by omega);have h1 : ¬ (a : Int) = 0 := by omega
  unfold wd at g d1 d2;rw [aB oQc8 sQc8 (ae rfl)];unfold Zi cQc8 wd;simp [Qj,Qi,Qh,Qg,Qf,Qe,Qd,Qc,Qb,Qa,Jt,Js,FC,sQ,h,h1,g,d1,d2,n1,n2,w1,w2,aJ,sQd6,iQd6,lQd6,eQd6,sQd7,iQd7,lQd7,eQd7,dK,pl,ba,aZ]
theorem LK {a : Nat} (ha : a < 1000000000000) : aY ak Kc [.int .i64 a] [] = some (.int .u64 a,[]) := by
 have w1 : IntKind.u64.wrap (a : Int) = (a : Int) := RF (by omega);have n : ¬ (a : Int) < 0 := by omega
 rw [aB oQc9 sQc9 (ae rfl)];unfold qQc9 cQc9;simp [YE,YD,YC,YB,w1,n,aJ,dK,pl,ba,aZ]
theorem U8 {a b : Nat} (ha : a < 1000000000000 / 8) (hb : b < 1000000000000 / 8) (b0 : 0 < b) : aY ak NQ [.int .i64 a,.int .i64 b] [] = some (.dD [fr a b,.int .i64 0],[]) := by
 have s1 := LK (a := a) (by omega);have s2 := LK (a := b) (by omega);have r := P7 ha hb b0;have n1 : ¬ (a : Int) < 0 := by omega
 have n2 : ¬ (b : Int) < 0 := by omega
 have n3 : ¬ (b : Int) = 0 := by omega
 have n4 : ¬ b = 0 := by omega
 unfold fr wd at r;unfold fr;generalize a / cG a b = x at *;generalize b / cG a b = y at *;rw [aB oQb5 sQb5 (ae rfl)];unfold qQb5 cQb5;simp [YW,YV,YU,YT,s1,s2,r,n1,n2,n3,n4,FC,aJ,sQc9,iQc9,lQc9,eQc9,sQc8,iQc8,lQc8,eQc8,dK,pl,ba,aZ]
theorem aav {a b : Nat} (ha : a < 1000000000000 / 8) (hb : b < 1000000000000 / 8) (b0 : 0 < b) : aY ak nQ5 [.int .i64 a,.int .i64 b] [] = some (fr a b,[]) := by
 have r := U8 ha hb b0;unfold fr at r ⊢;generalize a / cG a b = x at *;generalize b / cG a b = y at *;rw [aB oQ5 sQ5 (ae rfl)];unfold qQ5 cQ5;simp [aeu,aet,aes,r,aJ,sQb5,iQb5,lQb5,eQb5,dK,pl,ba,aZ]
theorem acA {b : Nat} (b0 : 0 < b) : fr 0 b = .agg [.int .i64 0,.int .i64 1] := by
 unfold fr;rw [Nat.gcd_zero_left,PC,Nat.div_self b0]; rfl
/- The degree of a node, triangles.Local and Whole, for any graph that is in order. -/
set_option maxHeartbeats 8000000
theorem Vl (m : Nat) (h : m < 18446744073709551616) : aY ak Kg [.int .u64 m] [] = some (.int .i64 (pcn m : Nat),[]) := by
 rw [Zt];have := ab0 m h;rw [show pcE (m : Int) = pxE (m : Int) from rfl,this]
theorem Vx (m : Nat) (h : m < 18446744073709551616) : aY ak nQ8 [.int .u64 m] [] = some (.int .i64 (pcn m : Nat),[]) := by
 have o := Vl m h;rw [aB oQ8 sQ8 (ae rfl)];generalize ((pcn m : Nat) : Int) = p at *;generalize (m : Int) = x at *;unfold qQ8 cQ8;simp [aen,aem,o,aJ,ba,aZ,sQb6,iQb6,lQb6,eQb6]
def dgA (N : Nat) (Es : List Ed) : List Int := (o8 N Es).map fun m => ((pcn m : Nat) : Int)
theorem acO {N : Nat} {Es : List Ed} (h : gK (N : Int) Es) : (dgA N Es).length = N := by rw [dgA,jR]; exact (o7 h).1
theorem ZM {N : Nat} {Es : List Ed} (h : gK (N : Int) Es) {u : Nat} (hu : u < N) : fF N Es u = Pf ((o8 N Es).getD u 0) := by
 refine wi (tW h (by omega) (by omega)) ?_ fun x => ?_
 ·unfold Pf Up;rw [List.pairwise_map];exact (List.pairwise_lt_range.filter _).imp fun k => by omega
 ·rw [nt h (by omega) (by omega)];unfold Pf;rw [List.mem_map];have ab := (o7 h).2.2 u;constructor
  ·intro k
   have hx : 0 <= x /\ x < (N : Int) := by
    have hN := h.1.2;rcases k with k | k <;> (have := h.2.2 _ k; simp only at this; omega)
   have hN := h.1.2;refine ⟨x.toNat,IX.2 ⟨Lm.2 (by omega),?_⟩,by omega⟩;rw [ab,show ((x.toNat : Nat) : Int) = x by omega,e9,decide_eq_true_eq,decide_eq_true_eq];exact k
  ·rintro ⟨j,hj,rfl⟩;have := (IX.1 hj).2;rw [ab,e9,decide_eq_true_eq,decide_eq_true_eq] at this;exact this
theorem acP {N : Nat} {Es : List Ed} (h : gK (N : Int) Es) {u : Nat} (hu : u < N) : ((fF N Es u).length : Int) = (dgA N Es)[u]'(by rw [acO h]; exact hu) := by
 rw [ZM h hu];simp only [dgA,List.getElem_map];have hl := (o7 h).1;rw [aP,ai (by rw [hl]; exact hu)];simp [Pf,pcn]
theorem acN {N : Nat} {Es : List Ed} (h : gK (N : Int) Es) {u : Nat} (hu : u < N) : ((fF N Es u).length : Int) = ((pcn ((o8 N Es).getD u 0) : Nat) : Int) := by
 rw [acP h hu];have hl := (o7 h).1;simp only [dgA,List.getElem_map];rw [aP,ai (by rw [hl]; exact hu)];rfl
theorem V6 {N : Nat} {Es : List Ed} (h : gK (N : Int) Es) (hE : Es.length < 1000000) {u : Nat} (hu : u < N) : aY ak nQO [.agg [.int .i64 N,.list 2 (bm Es)],.int .i64 u] [] = some (.int .i64 (fF N Es u).length,[]) := by
 have rr := XC h (by omega);have ck := gz N Es (by omega);rw [eK.2 h] at ck;have ln := (o7 h).1
 have gu : (us (o8 N Es))[u]? = some (.int .u64 ((o8 N Es).getD u 0 : Nat)) := by
  rw [PJ,aP,ai (by omega)]; rfl
 have gu' : ∀ h : u < (us (o8 N Es)).length,(us (o8 N Es))[u] = .int .u64 ((o8 N Es).getD u 0 : Nat) := fun h => by rw [ai h] at gu; exact cK gu
 have hN := h.1;have sm := (o7 h).2.1
 have on := Vx ((o8 N Es).getD u 0) (by
  rw [aP,ai (by omega)];exact sm _ (cY _))
 rw [<- acN h hu] at on;have k1 : (u : Int) < N := by omega
 have k2 : ¬ (u : Int) < 0 := by omega
 have k3 : ¬ (N : Int) <= u := by omega
 have k4 : ¬ N <= u := by omega
 have g5 : (us (o8 N Es)).length = N := by rw [uV,ln]
 generalize (o8 N Es).getD u 0 = r at *;generalize us (o8 N Es) = A at *;generalize bm Es = Y at *;generalize (fF N Es u).length = n at *
 have row : aY ak nQ9 [.agg [.int .i64 N,.list 2 Y],.int .i64 u] [] = some (.int .u64 r,[]) := by
  rw [aB oQ9 sQ9 (ae rfl)];unfold qQ9 cQ9;simp [ael,aek,aej,aei,aeh,rr,ck,gu,gu',k1,k2,k3,k4,hu,g5,idx,sQb7,iQb7,lQb7,eQb7,Jc,K9,K8,Lj,aJ,dK,pl,ba,aZ]
 rw [aB oQO sQO (ae rfl)];unfold qQO cQO;simp [adW,adV,row,on,sQ9,iQ9,lQ9,eQ9,sQ8,iQ8,lQ8,eQ8,aJ,dK,pl,ba,aZ]
theorem Dh {a b : Nat} (ha : a < 1000000000000) (hb : b < 1000000000000) : aY ak nQI [.int .i64 a,.int .i64 b] [] = some (.dD [.agg [.int .i64 (a / cG a (max b 1) : Nat),.int .i64 (max b 1 / cG a (max b 1) : Nat)],.int .i64 0],[]) := by
 have c := XW ha (b := max b 1) (by omega) (by omega);have mx : (if (b : Int) < 1 then 1 else (b : Int)) = ((max b 1 : Nat) : Int) := by split <;> omega
 generalize max b 1 = m at *;generalize a / cG a m = x at *;generalize m / cG a m = y at *;rw [aB oQI sQI (ae rfl)];unfold qQI cQI;simp [ad8,ad7,c,mx,aJ,sQ3,iQ3,lQ3,eQ3,dK,pl,ba,aZ]
theorem HO {n : Nat} (h : n <= 64) : aY ak nQH [.int .i64 n] [] = some (.int .i64 (pr n),[]) := by
 have b := yG h;have t := EJ n;have w1 : IntKind.i64.wrap ((n : Int) - 1) = (n : Int) - 1 := cM (by omega) (by omega)
 have e : (n : Int) * ((n : Int) - 1) = ((2 * pr n : Nat) : Int) := by
  rw [t];rcases Nat.eq_zero_or_pos n with k | k
  ·subst k; rfl
  ·rw [yh,show ((n - 1 : Nat) : Int) = (n : Int) - 1 by omega]
 have w2 : IntKind.i64.wrap ((2 * pr n : Nat) : Int) = ((2 * pr n : Nat) : Int) := cM (by omega) (by omega)
 have w3 : IntKind.i64.wrap (((2 * pr n : Nat) : Int).tdiv 2) = (pr n : Nat) := by
  rw [IY (by omega),show (((2 * pr n : Nat) : Int) / 2) = (pr n : Nat) by omega]; exact cM (by omega) (by omega)
 generalize ((2 * pr n : Nat) : Int) = z at *;rw [aB oQH sQH (ae rfl)];unfold qQH cQH;simp [aea,ad9,w1,e,w2,w3,aJ,dK,pl,ba,aZ]
theorem UU {N : Nat} {Es : List Ed} (hG : gK (N : Int) Es) (hE : Es.length < 1000000) {u : Nat} (hu : u < N) : aY ak ZR [.agg [.int .i64 N,.list 2 (bm Es)],.int .i64 u] [] = some (.dD [fr (tn N Es u) (max (pr (fF N Es u).length) 1),.int .i64 0],[]) := by
 have hN := hG.1;have g := gz N Es (by omega);rw [eK.2 hG] at g;have cr := l8 hG hE;have nl := jq hG (u := u) (by omega) (by omega);have b := adC hG hu;have pb := yG (n := (fF N Es u).length) (by omega);have hN := hG.1;have d := V6 hG hE hu;have p := HO (n := (fF N Es u).length) (by omega);have s := Dh (a := tn N Es u) (b := pr (fF N Es u).length) (by omega) (by omega);have ln := cS N Es;have gt := qe hG hu;rw [aP,ai (by omega)] at gt;simp only [Option.getD_some] at gt;have gu : (ints (du N Es))[u]? = some (.int .i64 (tn N Es u : Nat)) := by rw [aM,ai (by omega),<- gt]; rfl
 have gu' : ∀ h : u < (ints (du N Es)).length,(ints (du N Es))[u] = .int .i64 (tn N Es u : Nat) := fun h => by rw [ai h] at gu; exact cK gu
 have g5 : (ints (du N Es)).length = N := by rw [aj,ln]
 have k1 : (u : Int) < N := by omega
 have k2 : ¬ (u : Int) < 0 := by omega
 have k3 : ¬ (N : Int) <= u := by omega
 have k4 : ¬ N <= u := by omega
 unfold fr;generalize tn N Es u / cG (tn N Es u) (max (pr (fF N Es u).length) 1) = x at *;generalize max (pr (fF N Es u).length) 1 / cG (tn N Es u) (max (pr (fF N Es u).length) 1) = y at *;generalize tn N Es u = t at *;generalize pr (fF N Es u).length = q at *;generalize (fF N Es u).length = n at *;generalize (fw N Es : Int) / 3 = tS at *;generalize ints (du N Es) = tN at *;generalize bm Es = Y at *;rw [aB oQu sQu (ae rfl)];unfold qQu cQu;simp [MI,MH,MG,MF,ME,MD,MC,MB,g,cr,d,p,s,gu,gu',g5,k1,k2,k3,k4,hu,idx,aJ,Jc,K9,K8,Lj,sQD,iQD,lQD,eQD,sQO,iQO,lQO,eQO,sQH,iQH,lQH,eQH,sQI,iQI,lQI,eQI,dK,pl,ba,aZ]
def WY (N : Nat) (Y Z : List AV) (t : Int) (s : Int) (i : Nat) (J : Env) : St := ⟨(2,.ptr 1 0) :: (5,.int .i64 t) :: (7,.int .i64 s) :: (22,.list 1 Z) :: (23,.int .i64 N) :: (24,.int .i64 i) :: J,[some [.int .i64 N,.list 2 Y],some [.int .i64 0,.int .i64 0]]⟩
theorem RH {N : Nat} {Es : List Ed} (hG : gK (N : Int) Es) (t : Int) : ∀ (k i : Nat),i + k = N -> bL ak 0 (.loop TX) (WY N (bm Es) (ub (jM N Es)) t (sm i (fun v => pr (fF N Es v).length) : Nat) i []) = some (.exit 0,WY N (bm Es) (ub (jM N Es)) t (sm N (fun v => pr (fF N Es v).length) : Nat) N [(25,.bool false)])
 | 0,i,hi => by
   obtain rfl : i = N := by omega
   refine cj ?_;generalize sm i (fun v => pr (fF i Es v).length) = s at *;unfold WY TX;simp [M3,M1,M0,MZ,MY,MX,MW,MV,MU,MT,DN,DM,aJ]
 | k + 1,i,hi => by
   have bO : i < N := by omega
   have hN := hG.1;refine (bG ?_).trans (RH hG t k (i + 1) (by omega));have h1 : (i : Int) < N := by omega
   have hw := fT (i := i) (by omega);have nl := jq hG (u := i) (by omega) (by omega);have p := HO (n := (fF N Es i).length) (by omega);have pb := yG (n := (fF N Es i).length) (by omega)
   have sb : sm i (fun v => pr (fF N Es v).length) <= i * 4096 := by
    have : ∀ n,n <= N -> sm n (fun v => pr (fF N Es v).length) <= n * 4096 := by
     intro n
     induction n with
     | zero => intro _; simp [sm]
     | succ j ih =>
       intro hj;have := ih (by omega);have b2 := jq hG (u := j) (by omega) (by omega);have b1 := yG (n := (fF N Es j).length) (by omega);rw [sm]; omega
    exact this i (by omega)
   have zl := E9 (N := N) (Es := Es) bO;have zl' : ∀ h : i < (ub (jM N Es)).length,(ub (jM N Es))[i] = .list 1 (ints (fF N Es i)) := fun h => by rw [ai h] at zl; exact cK zl
   have zn : (ub (jM N Es)).length = N := by simp [ub,mu]
   have es : sm (i + 1) (fun v => pr (fF N Es v).length) = sm i (fun v => pr (fF N Es v).length) + pr (fF N Es i).length := rfl;rw [es];generalize sm i (fun v => pr (fF N Es v).length) = s at *
   have w : IntKind.i64.wrap ((s : Int) + (pr (fF N Es i).length : Nat)) = ((s + pr (fF N Es i).length : Nat) : Int) := by
    rw [<- lz]; exact cM (by omega) (by omega)
   generalize s + pr (fF N Es i).length = s2 at *;generalize pr (fF N Es i).length = q at *;have g5 := aj (fF N Es i);generalize hn : (fF N Es i).length = n at *;generalize ints (fF N Es i) = I at *;generalize ub (jM N Es) = Z at *;generalize bm Es = Y at *;unfold WY TX;simp [M3,M1,M0,MZ,MY,MX,MW,MV,MU,MT,DN,DM,h1,bO,hw,p,w,zl,zl',zn,g5,idx,aJ,sQH,iQH,lQH,eQH]
theorem Lv {N : Nat} {Es : List Ed} (hG : gK (N : Int) Es) (hE : Es.length < 1000000) (hs : sm N (fun v => pr (fF N Es v).length) < 1000000000) (ht : j7 N Es < 1000000000) : aY ak ZT [.agg [.int .i64 N,.list 2 (bm Es)]] [] = some (.dD [fr (3 * j7 N Es) (max (sm N fun v => pr (fF N Es v).length) 1),.int .i64 0],[]) := by
 have hN := hG.1;have g := gz N Es (by omega);rw [eK.2 hG] at g;have cr := l8 hG hE;rw [pj hG] at cr;have lr := Av N Es (by omega) (by omega) hG.2.2;have lp := RH hG (j7 N Es) N 0 (by omega);have s := Dh (a := 3 * j7 N Es) (b := sm N fun v => pr (fF N Es v).length) (by omega) (by omega);rw [show sm 0 (fun v => pr (fF N Es v).length) = 0 from rfl,iR] at lp
 have w : IntKind.i64.wrap (3 * (j7 N Es : Int)) = ((3 * j7 N Es : Nat) : Int) := by
  rw [yh]; exact cM (by omega) (by omega)
 have zn : (ub (jM N Es)).length = N := by simp [ub,mu]
 unfold fr;generalize sm N (fun v => pr (fF N Es v).length) = P at *;generalize 3 * j7 N Es = t3 at *;generalize t3 / cG t3 (max P 1) = x at *;generalize max P 1 / cG t3 (max P 1) = y at *;generalize (j7 N Es : Int) = t at *;generalize ints (du N Es) = tN at *;generalize ub (jM N Es) = Z at *;generalize bm Es = Y at *;unfold WY at lp;rw [iR] at lp;rw [aB oQn sQn (ae rfl)];unfold qQn cQn;simp [M3,M1,M0,MZ,MY,MX,MW,MV,MU,MT,DN,DM,g,cr,lr,lp,s,w,zn,aJ,Jc,K9,K8,Lj,sQD,iQD,lQD,eQD,sQG,iQG,lQG,eQG,sQI,iQI,lQI,eQI,dK,pl,ba,aZ]
end Go.BmP
