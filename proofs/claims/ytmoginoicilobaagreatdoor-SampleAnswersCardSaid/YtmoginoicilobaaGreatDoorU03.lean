/- What ratio.Make returns for small numbers that are not negative. -/
import Derived.Test.YtmoginoicilobaaGreatDoorUseM
import Derived.Test.YtmoginoicilobaaGreatDoorT06
set_option linter.unusedSimpArgs false
set_option linter.unusedVariables false
set_option maxRecDepth 100000
set_option maxHeartbeats 4000000
open Int renaming fdiv_eq_ediv_of_nonneg → JD
open Nat renaming add_zero → xn, div_eq_of_lt → DA, div_le_self → iV, gcd → cW, gcd_comm → CV, gcd_pos_of_pos_right → Lw, le_of_ble_eq_true → ab, lt_of_le_of_lt → dM, lt_of_lt_of_le → fw, mod_lt → Jz, strongRecOn → qK, zero_div → Od
namespace Go.BmP
open Go.Am Go.Bm
theorem afV (a b : Nat) : (a : Int).tmod b = ((a % b : Nat) : Int) := (Int.ofNat_tmod a b).symm
theorem acn {a : Nat} (b : Nat) (ha : a < 1000000000000) : IntKind.i64.wrap ((a : Int).tdiv b) = ((a / b : Nat) : Int) := by
 have h : ((a / b : Nat) : Int) = (a : Int).tdiv b := Int.ofNat_tdiv a b;have := iV a b;rw [<- h];generalize a / b = x at *;exact cS (by omega) (by omega)
def ZK (a b : Nat) (J : Env) : St := ⟨(0,.int .i64 a) :: (1,.int .i64 b) :: J,[]⟩
theorem abH : ∀ (b a : Nat),a < 1000000000000 -> b < 1000000000000 -> bj aj 0 (.loop KO) (ZK a b []) = some (.exit 0,ZK (cW a b) 0 [(6,.bool false)]) := fun b => by
 induction b using qK with
 | ind b ih =>
   intro a ha hb;by_cases h : b = 0
   ·subst h;rw [Nat.gcd_zero_right];refine bm ?_;unfold ZK KO;simp [Kh,Kg,Kf,Ke]
   ·have lt := Jz a (show b > 0 by omega);have e : cW a b = cW b (a % b) := by rw [CV b,<- Nat.gcd_rec b a,CV]
    rw [e];refine (aR ?_).trans (ih (a % b) lt b hb (by omega));have h1 : ¬ (b : Int) = 0 := by omega
    have q := afV a b;generalize a % b = r at *;unfold ZK KO;simp [Kh,Kg,Kf,Ke,h,h1,q]
theorem Mf {a b : Nat} (ha : a < 1000000000000) (hb : b < 1000000000000) : bf aj PA [.int .i64 a,.int .i64 b] [] = some (.int .i64 (cW a b : Nat),[]) := by
 have lp := abH b a ha hb;rw [aB oQa5 sQa5 (ab rfl)];generalize cW a b = g at *;unfold ZK at lp;unfold qQa5 cQa5;simp [Kh,Kg,Kf,Ke,lp,aJ,aY,aV]
theorem D2 {a m : Nat} (hm : m < 9223372036854775807) (h : a <= m) : bf aj nQ0 [.int .i64 a,.int .i64 m] [] = some (.bool true,[]) := by
 have q : IntKind.i64.wrap (-(m : Int)) = -(m : Int) := cS (by omega) (by omega);have h1 : -(m : Int) <= (a : Int) := by omega
 have h2 : (a : Int) <= m := by omega
 rw [aB oQ0 sQ0 (ab rfl)];unfold qQ0 cQ0;simp [ade,adb,q,h1,h2,aJ,aY,aV]
theorem WX {a b : Nat} (ha : a < 1000000000000) (hb : b < 1000000000000) : bf aj MG [.agg [.int .i64 a,.int .i64 b]] [] = some (.dp [.agg [.int .i64 a,.int .i64 b],.int .i64 0],[]) := by
 have w := D2 (a := a) (m := 1152921504606846976) (by omega) (by omega);rw [show ((1152921504606846976 : Nat) : Int) = 1152921504606846976 from rfl] at w;have h1 : ¬ (1152921504606846976 : Int) < b := by omega
 rw [aB oQa6 sQa6 (ab rfl)];unfold qQa6 cQa6;simp [Xo,Xn,Xm,Xl,w,h1,aJ,sQ0,iQ0,lQ0,df,pl,aY,aV]
theorem WW {a b : Nat} (ha : a < 1000000000000) (hb : b < 1000000000000) (b0 : 0 < b) : bf aj nQ1 [.int .i64 a,.int .i64 b] [] = some (.dp [.agg [.int .i64 (a / cW a b : Nat),.int .i64 (b / cW a b : Nat)],.int .i64 0],[]) := by
 have c := Mf ha hb;have g0 : 0 < cW a b := Lw _ b0;have k := WX (a := a / cW a b) (b := b / cW a b) (dM (iV _ _) ha) (dM (iV _ _) hb);have d1 := acn (cW a b) ha;have d2 := acn (cW a b) hb;rw [Int.tdiv_eq_ediv_of_nonneg (by omega)] at d1 d2;have n0 : ¬ (b : Int) < 0 := by omega
 have q : IntKind.i64.wrap (-(a : Int)) = -(a : Int) := cS (by omega) (by omega);have mx : ¬ (a : Int) < -(a : Int) := by omega
 have g1 : ¬ cW a b = 0 := by omega
 generalize a / cW a b = x at *;generalize b / cW a b = y at *;generalize cW a b = g at *;rw [aB oQ1 sQ1 (ab rfl)];unfold qQ1 cQ1;simp [ada,ac9,ac8,ac7,ac6,c,k,d1,d2,n0,q,mx,g1,aJ,sQa5,iQa5,lQa5,sQa6,iQa6,lQa6,df,pl,aY,aV]
theorem WV {a b : Nat} (ha : a < 1000000000000) (hb : b < 1000000000000) (b0 : 0 < b) : bf aj nQN [.int .i64 a,.int .i64 b] [] = some (.dp [.agg [.int .i64 (a / cW a b : Nat),.int .i64 (b / cW a b : Nat)],.int .i64 0],[]) := by
 have c := WW ha hb b0;have w1 := D2 (a := a) (m := 4611686018427387904) (by omega) (by omega);have w2 := D2 (a := b) (m := 4611686018427387904) (by omega) (by omega);rw [show ((4611686018427387904 : Nat) : Int) = 4611686018427387904 from rfl] at w1 w2;have n0 : ¬ (b : Int) = 0 := by omega
 have n1 : ¬ b = 0 := by omega
 generalize a / cW a b = x at *;generalize b / cW a b = y at *;rw [aB oQN sQN (ab rfl)];unfold qQN cQN;simp [acO,acN,acM,acL,acK,acJ,c,w1,w2,n0,n1,aJ,sQ1,iQ1,lQ1,sQ0,iQ0,lQ0,df,pl,aY,aV]
/- What the wide numbers of ref01 return for small numbers: double, less, sub, divide. -/
def wd (x : Nat) : AV := .agg [.int .u64 0,.int .u64 x]
theorem or00 : bits .or .u64 0 0 = 0 := by decide +kernel
theorem Ju : bits .and .u64 0 1 = 0 := by decide +kernel
theorem or1 {x : Nat} (h : x < 1000000000000) : bits .or .u64 ((2 * x : Nat) : Int) 1 = ((2 * x + 1 : Nat) : Int) := by
 have := u64_or_nat (2 * x) 1 (by omega) (by decide);rw [show ((1 : Nat) : Int) = 1 from rfl] at this;rw [this];congr 1;have := Nat.shiftLeft_add_eq_or_of_lt (b := 1) (i := 1) (by decide) x;rw [Nat.shiftLeft_eq,Nat.pow_one,Nat.mul_comm] at this;exact this.symm
theorem agW {x : Nat} (h : x < 18446744073709551616) : bits .and .u64 (x : Int) 1 = ((x % 2 : Nat) : Int) := by
 have := u64_and_nat x 1 h (by decide);rw [show ((1 : Nat) : Int) = 1 from rfl] at this;rw [this,Nat.and_one_is_mod]
theorem Gg {x : Nat} (h : x < 1000000000000) : bf aj MD [wd x] [] = some (wd (2 * x),[]) := by
 have e1 : ((x : Nat) : Int).fdiv 9223372036854775808 = 0 := by
  rw [JD _ (by decide)]; omega
 have e2 : IntKind.u64.wrap ((x : Int) * 2) = ((2 * x : Nat) : Int) := by rw [IntKind.wrap_u64]; omega
 have e0 : IntKind.u64.wrap 0 = 0 := by decide
 unfold wd;generalize ((2 * x : Nat) : Int) = y at *;rw [aB oQd1 OH (ab rfl)];unfold qQd1 cQd1;simp [W8,W7,e0,e1,e2,or00,IntKind.bits,aJ,df,pl,aY,aV]
theorem Yw {x y : Nat} : bf aj Po [wd x,wd y] [] = some (.bool (decide (x < y)),[]) := by
 rw [aB oQd2 OG (ab rfl)];unfold qQd2 cQd2 wd;simp [W6,W5,aJ,df,pl,aY,aV]
theorem aap {x y : Nat} (hx : x < 1000000000000) (h : y <= x) : bf aj MC [wd x,wd y] [] = some (wd (x - y),[]) := by
 have e1 : IntKind.u64.wrap ((x : Int) - (y : Int)) = ((x - y : Nat) : Int) := by rw [IntKind.wrap_u64]; omega
 have e0 : IntKind.u64.wrap 0 = 0 := by decide
 have n : ¬ (x : Int) < (y : Int) := by omega
 have n1 : ¬ x < y := by omega
 unfold wd;generalize ((x - y : Nat) : Int) = z at *;rw [aB oQd3 sQd3 (ab rfl)];unfold qQd3 cQd3;simp [W4,W3,W0,WZ,WY,e0,e1,n,n1,aJ,df,pl,aY,aV]
def Dd (a b q r : Nat) (i : Int) (J : Env) : St := ⟨(2,.ptr 0 0) :: (3,.ptr 1 0) :: (4,.ptr 2 0) :: (5,.ptr 3 0) :: (6,.ptr 4 0) :: (7,.ptr 5 0) :: (8,.int .i64 i) :: J,[some [.int .u64 0,.int .u64 a],some [.int .u64 0,.int .u64 b],some [.int .u64 0,.int .u64 0],some [.int .u64 0,.int .u64 0],some [.int .u64 0,.int .u64 q],some [.int .u64 0,.int .u64 r]]⟩
theorem ZD (a b q r n : Nat) (ha : a < 1000000000000) (hb : b < 1000000000000 / 8) (hr : r < b) (hq : q < 1000000000000 / 4) (hn : n < 128) :
  bj aj 0 qS (Dd a b q r n []) = some (.normal,Dd a b (if 2 * r + a / 2 ^ n % 2 < b then 2 * q else 2 * q + 1) (if 2 * r + a / 2 ^ n % 2 < b then 2 * r + a / 2 ^ n % 2 else 2 * r + a / 2 ^ n % 2 - b) ((n : Int) - 1) []) := by
 have d1 := Gg (x := r) (by omega);have d2 := Gg (x := q) (by omega);have n0 : (0 : Int) <= (n : Int) := by omega
 have hw : IntKind.i64.wrap ((n : Int) - 1) = (n : Int) - 1 := cS (by omega) (by omega);have o1 := or1 (x := r) (by omega);have o2 := or1 (x := q) (by omega);have bt2 : a / 2 ^ n % 2 = 0 \/ a / 2 ^ n % 2 = 1 := by omega
 have key : ∀ J : Env,True := fun _ => trivial
 have a0 : 64 <= n -> a / 2 ^ n % 2 = 0 := fun h => by
  have : a < 2 ^ n := fw ha (Nat.le_trans (show 1000000000000 <= 2 ^ 64 by decide) (Nat.pow_le_pow_right (by decide) h));rw [DA this]
 have l1 := Yw (x := 2 * r + a / 2 ^ n % 2) (y := b);have s1 : ¬ 2 * r + a / 2 ^ n % 2 < b -> bf aj MC [wd (2 * r + a / 2 ^ n % 2),wd b] [] = some (wd (2 * r + a / 2 ^ n % 2 - b),[]) := fun h => aap (by omega) (by omega);unfold wd at d1 d2 l1 s1;by_cases PM : 64 <= n
 ·have b0 := a0 PM;rw [b0,xn] at l1 s1 ⊢;have h64 : (64 : Int) <= (n : Int) := by omega
  have PU : ¬ (n : Int) < 64 := by omega
  have w1 : IntKind.i64.wrap ((n : Int) - 64) = ((n - 64 : Nat) : Int) := by rw [show ((n : Int) - 64) = ((n - 64 : Nat) : Int) by omega]; exact cS (by omega) (by omega)
  have w2 : IntKind.u64.wrap ((n - 64 : Nat) : Int) = ((n - 64 : Nat) : Int) := LA (by omega);have w3 : ¬ ((n - 64 : Nat) : Int) < 0 := by omega
  generalize n - 64 = m at *;by_cases c : 2 * r < b
  ·rw [if_pos c,if_pos c];rw [decide_eq_true c] at l1;generalize 2 * r = rr at *;generalize 2 * q = qq at *;unfold Dd qS;simp [sM,sL,sK,sJ,sI,sG,sF,sD,sC,sB,o8,o7,oZ,n0,PM,h64,PU,w1,w2,w3,hw,d1,d2,l1,Ju,IntKind.bits,aJ,Int.zero_fdiv,OH,UW,UN,OG,UU,UM]
  ·rw [if_neg c,if_neg c];have s := s1 c;rw [decide_eq_false c] at l1;generalize 2 * r - b = r2 at *;generalize 2 * r = rr at *;generalize 2 * q + 1 = q1 at *;generalize 2 * q = qq at *;unfold Dd qS;simp [sM,sL,sK,sJ,sI,sG,sF,sD,sC,sB,o8,o7,oZ,n0,PM,h64,PU,w1,w2,w3,hw,d1,d2,l1,s,o2,Ju,IntKind.bits,aJ,Int.zero_fdiv,OH,UW,UN,OG,UU,UM,sQd3,iQd3,lQd3]
 ·have h64 : ¬ (64 : Int) <= (n : Int) := by omega
  have PU : (n : Int) < 64 := by omega
  have w2 : IntKind.u64.wrap (n : Int) = (n : Int) := LA (by omega);have w3 : ¬ (n : Int) < 0 := by omega
  have YZ : min n 64 = n := by omega
  have e1 : ((a : Nat) : Int).fdiv (2 ^ n) = ((a / 2 ^ n : Nat) : Int) := by
   rw [JD _ (Int.pow_nonneg (by decide)),Int.natCast_ediv,Int.natCast_pow]; rfl
  have e2 := agW (x := a / 2 ^ n) (dM (iV _ _) (by omega));rcases bt2 with b0 | b0
  ·rw [b0,xn] at l1 s1 ⊢;rw [b0] at e2;generalize a / 2 ^ n = an at *;by_cases c : 2 * r < b
   ·rw [if_pos c,if_pos c];rw [decide_eq_true c] at l1;generalize 2 * r = rr at *;generalize 2 * q = qq at *;unfold Dd qS;simp [sM,sL,sK,sJ,sI,sG,sF,sD,sC,sB,o8,o7,oZ,n0,PM,h64,PU,w2,w3,YZ,e1,e2,hw,d1,d2,l1,Ju,IntKind.bits,aJ,OH,UW,UN,OG,UU,UM]
   ·rw [if_neg c,if_neg c];have s := s1 c;rw [decide_eq_false c] at l1;generalize 2 * r - b = r2 at *;generalize 2 * r = rr at *;generalize 2 * q + 1 = q1 at *;generalize 2 * q = qq at *;unfold Dd qS;simp [sM,sL,sK,sJ,sI,sG,sF,sD,sC,sB,o8,o7,oZ,n0,PM,h64,PU,w2,w3,YZ,e1,e2,hw,d1,d2,l1,s,o2,Ju,IntKind.bits,aJ,OH,UW,UN,OG,UU,UM,sQd3,iQd3,lQd3]
  ·rw [b0] at l1 s1 e2 ⊢;generalize a / 2 ^ n = an at *;by_cases c : 2 * r + 1 < b
   ·rw [if_pos c,if_pos c];rw [decide_eq_true c] at l1;generalize 2 * r + 1 = r1 at *;generalize 2 * r = rr at *;generalize 2 * q = qq at *;unfold Dd qS;simp [sM,sL,sK,sJ,sI,sG,sF,sD,sC,sB,o8,o7,oZ,n0,PM,h64,PU,w2,w3,YZ,e1,e2,hw,d1,d2,l1,o1,Ju,IntKind.bits,aJ,OH,UW,UN,OG,UU,UM]
   ·rw [if_neg c,if_neg c];have s := s1 c;rw [decide_eq_false c] at l1;generalize 2 * r + 1 - b = r2 at *;generalize 2 * r + 1 = r1 at *;generalize 2 * r = rr at *;generalize 2 * q + 1 = q1 at *;generalize 2 * q = qq at *;unfold Dd qS;simp [sM,sL,sK,sJ,sI,sG,sF,sD,sC,sB,o8,o7,oZ,n0,PM,h64,PU,w2,w3,YZ,e1,e2,hw,d1,d2,l1,s,o1,o2,Ju,IntKind.bits,aJ,OH,UW,UN,OG,UU,UM,sQd3,iQd3,lQd3]
theorem TC (a b : Nat) (ha : a < 1000000000000 / 8) (hb : b < 1000000000000 / 8) (b0 : 0 < b) : ∀ n : Nat,n <= 128 -> bj aj 0 (.loop qS) (Dd a b (a / 2 ^ n / b) (a / 2 ^ n % b) ((n : Int) - 1) []) = some (.exit 0,Dd a b (a / b) (a % b) (-1) [(10,.bool false)])
 | 0,_ => by
   rw [Nat.pow_zero,Nat.div_one];refine bm ?_;generalize a / b = q at *;generalize a % b = r at *;unfold Dd qS;simp [sM,sL,sK,sJ,sI,sG,sF,sD,sC,sB,o8,o7,oZ]
 | n + 1,hn => by
   have ih := TC a b ha hb b0 n (by omega);have hr := Jz (a / 2 ^ (n + 1)) b0;have hq : a / 2 ^ (n + 1) / b < 1000000000000 / 4 := dM (iV _ _) (dM (iV _ _) (by omega));have rd := ZD a b (a / 2 ^ (n + 1) / b) (a / 2 ^ (n + 1) % b) n (by omega) hb hr hq (by omega)
   have e1 : a / 2 ^ n = 2 * (a / 2 ^ (n + 1)) + a / 2 ^ n % 2 := by
    rw [Nat.pow_succ,<- Nat.div_div_eq_div_mul]; omega
   have e2 := Nat.div_add_mod (a / 2 ^ (n + 1)) b;generalize a / 2 ^ (n + 1) / b = q at *;generalize a / 2 ^ (n + 1) % b = r at *;generalize a / 2 ^ (n + 1) = z at *;have bt2 : a / 2 ^ n % 2 < 2 := Jz _ (by omega);generalize a / 2 ^ n % 2 = c at *;generalize a / 2 ^ n = y at *
   have f1 : y = b * (if 2 * r + c < b then 2 * q else 2 * q + 1) + (if 2 * r + c < b then 2 * r + c else 2 * r + c - b) := by
    split
    ·rw [Nat.mul_left_comm]; omega
    ·rw [Nat.mul_add,Nat.mul_left_comm]; omega
   have f2 : (if 2 * r + c < b then 2 * r + c else 2 * r + c - b) < b := by split <;> omega
   generalize (if 2 * r + c < b then 2 * q else 2 * q + 1) = q2 at *;generalize (if 2 * r + c < b then 2 * r + c else 2 * r + c - b) = r2 at *;have g1 : y / b = q2 := by rw [f1,Nat.mul_add_div b0,DA f2,xn]
   have g2 : y % b = r2 := by rw [f1,Nat.mul_add_mod,Nat.mod_eq_of_lt f2]
   rw [g1,g2] at ih;refine (aR ?_).trans ih;rw [show (((n + 1 : Nat) : Int) - 1) = (n : Int) by omega];exact rd
theorem yw {a b : Nat} (ha : a < 1000000000000 / 8) (hb : b < 1000000000000 / 8) (b0 : 0 < b) : bf aj KE [wd a,wd b] [] = some (.dp [wd (a / b),wd (a % b)],[]) := by
 have lp := TC a b ha hb b0 128 (by omega);have z : a / 2 ^ 128 = 0 := DA (fw ha (by decide));rw [z,Od,Nat.zero_mod,show (((128 : Nat) : Int) - 1) = 127 from rfl] at lp;generalize a / b = q at *;generalize a % b = r at *;unfold Dd at lp;rw [iB] at lp;rw [aB oQd0 sQd0 (ab rfl)];unfold qQd0 cQd0 wd;simp [sM,sL,sK,sJ,sI,sG,sF,sD,sC,sB,o8,o7,oZ,lp,aJ,df,pl,aY,aV]
/- What ref01.Of returns for small numbers. -/
def Zn (a b : Nat) (J : Env) : St := ⟨(2,.ptr 0 0) :: (3,.ptr 1 0) :: (4,.ptr 2 0) :: J,[some [.int .u64 0,.int .u64 a],some [.int .u64 0,.int .u64 b],some [.int .u64 0,.int .u64 0]]⟩
theorem abn : ∀ (b a : Nat),a < 1000000000000 / 8 -> b < 1000000000000 / 8 -> bj aj 0 (.loop KM) (Zn a b []) = some (.exit 0,Zn (cW a b) 0 [(9,.bool false)]) := fun b => by
 induction b using qK with
 | ind b ih =>
   intro a ha hb;by_cases h : b = 0
   ·subst h;rw [Nat.gcd_zero_right];refine bm ?_;unfold Zn KM;simp [J0,JZ,JY,JX,JW,Gd,tO,aJ]
   ·have lt := Jz a (show b > 0 by omega);have e : cW a b = cW b (a % b) := by rw [CV b,<- Nat.gcd_rec b a,CV]
    rw [e];refine (aR ?_).trans (ih (a % b) lt b hb (by omega));have h1 : ¬ (b : Int) = 0 := by omega
    have d := yw ha hb (show 0 < b by omega);generalize a % b = r at *;generalize a / b = q at *;unfold wd at d;unfold Zn KM;simp [J0,JZ,JY,JX,JW,h,h1,d,Gd,tO,aJ,sQd0,iQd0,lQd0]
theorem abm {a b : Nat} (ha : a < 1000000000000 / 8) (hb : b < 1000000000000 / 8) : bf aj Pq [wd a,wd b] [] = some (wd (cW a b),[]) := by
 have lp := abn b a ha hb;generalize cW a b = g at *;unfold Zn at lp;rw [iB] at lp;rw [aB oQc9 sQc9 (ab rfl)];unfold qQc9 cQc9 wd;simp [J0,JZ,JY,JX,JW,lp,aJ,df,pl,aY,aV]
def fr (a b : Nat) : AV := .agg [.int .i64 (a / cW a b : Nat),.int .i64 (b / cW a b : Nat)]
theorem OO {a b : Nat} (ha : a < 1000000000000 / 8) (hb : b < 1000000000000 / 8) (b0 : 0 < b) : bf aj Ps [.bool false,wd a,wd b] [] = some (.dp [fr a b,.int .i64 0],[]) := by
 by_cases h : a = 0
 ·subst h;unfold fr;rw [Nat.gcd_zero_left,Od,Nat.div_self b0];rw [aB oQc5 sQc5 (ab rfl)];unfold XL cQc5 wd;simp [O0,OZ,OY,OX,OW,OV,OU,OT,OS,OR,J2,J1,Gd,tO,aJ,df,pl,aY,aV]
 ·have g := abm ha hb;have g0 : 0 < cW a b := Lw _ b0;have gl : cW a b < 1000000000000 / 8 := dM (Nat.gcd_le_right _ b0) hb;have d1 := yw ha gl g0;have d2 := yw hb gl g0;have l1 : a / cW a b < 1000000000000 / 8 := dM (iV _ _) ha;have l2 : b / cW a b < 1000000000000 / 8 := dM (iV _ _) hb;unfold fr;generalize a / cW a b = x at *;generalize b / cW a b = y at *;generalize a % cW a b = x' at *;generalize b % cW a b = y' at *;generalize cW a b = G at *;have n1 : ¬ (1152921504606846976 : Int) < x := by omega
  have n2 : ¬ (1152921504606846976 : Int) < y := by omega
  have w1 : IntKind.i64.wrap (x : Int) = (x : Int) := cS (by omega) (by omega);have w2 : IntKind.i64.wrap (y : Int) = (y : Int) := cS (by omega) (by omega);have h1 : ¬ (a : Int) = 0 := by omega
  unfold wd at g d1 d2;rw [aB oQc5 sQc5 (ab rfl)];unfold XL cQc5 wd;simp [O0,OZ,OY,OX,OW,OV,OU,OT,OS,OR,J2,J1,Gd,tO,h,h1,g,d1,d2,n1,n2,w1,w2,aJ,sQc9,iQc9,lQc9,sQd0,iQd0,lQd0,df,pl,aY,aV]
theorem LU {a : Nat} (ha : a < 1000000000000) : bf aj ME [.int .i64 a] [] = some (.int .u64 a,[]) := by
 have w1 : IntKind.u64.wrap (a : Int) = (a : Int) := LA (by omega);have n : ¬ (a : Int) < 0 := by omega
 rw [aB oQc6 sQc6 (ab rfl)];unfold qQc6 cQc6;simp [Xc,Xb,Xa,W9,w1,n,aJ,df,pl,aY,aV]
theorem Um {a b : Nat} (ha : a < 1000000000000 / 8) (hb : b < 1000000000000 / 8) (b0 : 0 < b) : bf aj Pz [.int .i64 a,.int .i64 b] [] = some (.dp [fr a b,.int .i64 0],[]) := by
 have s1 := LU (a := a) (by omega);have s2 := LU (a := b) (by omega);have r := OO ha hb b0;have n1 : ¬ (a : Int) < 0 := by omega
 have n2 : ¬ (b : Int) < 0 := by omega
 have n3 : ¬ (b : Int) = 0 := by omega
 have n4 : ¬ b = 0 := by omega
 unfold fr wd at r;unfold fr;generalize a / cW a b = x at *;generalize b / cW a b = y at *;rw [aB oQb1 sQb1 (ab rfl)];unfold qQb1 cQb1;simp [Xk,Xj,Xi,Xh,s1,s2,r,n1,n2,n3,n4,Gd,aJ,sQc6,iQc6,lQc6,sQc5,iQc5,lQc5,df,pl,aY,aV]
theorem Zr {a b : Nat} (ha : a < 1000000000000 / 8) (hb : b < 1000000000000 / 8) (b0 : 0 < b) : bf aj nQ4 [.int .i64 a,.int .i64 b] [] = some (fr a b,[]) := by
 have r := Um ha hb b0;unfold fr at r ⊢;generalize a / cW a b = x at *;generalize b / cW a b = y at *;rw [aB oQ4 sQ4 (ab rfl)];unfold qQ4 cQ4;simp [ac5,ac4,ac3,r,aJ,sQb1,iQb1,lQb1,df,pl,aY,aV]
theorem abp {b : Nat} (b0 : 0 < b) : fr 0 b = .agg [.int .i64 0,.int .i64 1] := by
 unfold fr;rw [Nat.gcd_zero_left,Od,Nat.div_self b0]; rfl
end Go.BmP
