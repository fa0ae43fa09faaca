/- The law of sums returns true. -/
import Derived.Test.YtahcjjgkefjhbaaU05
import Derived.Test.YtahcjjgkefjhbaaL01
import Derived.Test.YtahcjjgkefjhbaaT06
set_option linter.unusedSimpArgs false
set_option linter.unusedVariables false
set_option maxRecDepth 100000
set_option maxHeartbeats 4000000
namespace Go.BmP
open Go.Am Go.Bm
theorem awake29 : callL cfgS nLaw29Awake [] [] = some (.bool true, []) := callL_iff.2 ⟨3000, by kernel_rfl⟩
def suSt (l : List Int) (a N : Nat) (Y T W : List AV) (n s p : Int) (i : Nat) (J : Env) : St := ⟨(3, .ptr 1 0) :: (4, .int .i64 n) :: (8, .ptr 2 0) :: (10, .int .i64 s) :: (11, .int .i64 p) :: (56, .list 1 T) :: (57, .int .i64 N) :: (58, .int .i64 i) :: J, [dk l a, some [.int .i64 N, .list 2 Y], some W]⟩
def prs (N : Nat) (Es : List Ed) (v : Nat) : Nat := pr (nbr N Es v).length
theorem prs_bd {N : Nat} {Es : List Ed} (hG : GOK (N : Int) Es) : ∀ n, n ≤ N → sm n (prs N Es) ≤ n * 4096 := by
  intro n
  induction n with
  | zero => intro _; simp [sm]
  | succ j ih =>
    intro hj
    have := ih (by omega)
    have hN := hG.1
    have b2 := nbr_len hG (u := j) (by omega) (by omega)
    have b1 := pr_bd (n := (nbr N Es j).length) (by omega)
    rw [sm]; unfold prs at *; omega
theorem tns_bd {N : Nat} {Es : List Ed} (hG : GOK (N : Int) Es) : ∀ n, n ≤ N → sm n (tn N Es) ≤ n * (64 * Es.length) := by
  intro n
  induction n with
  | zero => intro _; simp [sm]
  | succ j ih =>
    intro hj
    have := ih (by omega)
    have b1 := tn_bd hG (v := j) (by omega)
    rw [sm, Nat.add_mul]; omega
section
attribute [local simp] codeL_seq codeL_reg codeL_blk codeL_skip codeL_ret codeL_exit codeL_cnd condL_b thenL_n thenL_e thenL_r blkL_n blkL_e blkL_r regL_s opsB stepB opB opP opnd opnds lend lendC get_nil' get_cons' put_nil' put_cons' mem_nil' mem_cons' putdB putB slowP hasOwn hasOwnL finO relab anyB anyE anyH anyR borOf borL inSlot HAND endR hasOwnE endK keepIn trim noPtr noPtrL noPtrE noPtrH binA arith unA eqB isNilB eqc lenB bndB bnd rdN rdc AV.cells fillB peek ldOK AV.leaf allLeaf fz pl plL drawB allCW cwF okDrawB okPair Fq.ok dstOff wrOff notSlot noneIn apartR oldBoxes O.reads Kd.reads E.slot slots slotO slotsP List.getD pairIn nilL okRes clean cleanL resV resVs tupOf mkEnv partsBor doCallB inpB getArgs doCallO frzA frzV frzL minA minF cont ownAt at_ setAt rel dropS relC dropAll frzP frzAll firstBor borIn borC borS borE borH handTo mapSt mapE mapH mapB mapBL sw rt fb mvB mvRt seesP inRt isRoot rootOf boxOf seesB rootsL Am.rep ovw flatCells_ints allLeaf_ints flatCells el grp updE isNilB inpV inpL stB okL unA orcA bndB plL_ints fzL stBox inCells wrap0 wrap1 wrapm1 take_snoc BIGB marks boxZ ldLab cellOf cellN CELLM boxIn isCell apartC frzR frzRL frzS frzC frzCL
theorem sus_round (l : List Int) (a N : Nat) (hN : N ≤ 9) {Es : List Ed} (hG : GOK (N : Int) Es) (hE : Es.length < 1000000) (w0 w1 : Int) (n : Int) (i : Nat) (hi : i < N) :
    codeL cfgS 0 lLaw29TrianglesSumsX0 (suSt l a N (eds Es) (ints (triN N Es)) [.int .i64 w0, .int .i64 w1] n (sm i (tn N Es) : Nat) (sm i (prs N Es) : Nat) i []) = some (.normal, suSt l a N (eds Es) (ints (triN N Es)) [.int .i64 w0, .int .i64 w1] n (sm (i + 1) (tn N Es) : Nat) (sm (i + 1) (prs N Es) : Nat) (i + 1) []) := by
  have h1 : (i : Int) < N := by omega
  have hw := wrapS (i := i) (by omega)
  have dg := degree_run hG hE (v := i) (by omega) (by omega)
  have lc := tlocal_run hN hG hE hi
  have nl := nbr_len hG (u := i) (by omega) (by omega)
  have b := tn_bd hG hi
  have ln := triN_length N Es
  have gt := triN_get hG hi
  rw [List.getD_eq_getElem?_getD, List.getElem?_eq_getElem (by omega)] at gt
  simp only [Option.getD_some] at gt
  have gu : (ints (triN N Es))[i]? = some (.int .i64 (tn N Es i : Nat)) := by rw [ints_get, List.getElem?_eq_getElem (by omega), ← gt]; rfl
  have gu' : ∀ h : i < (ints (triN N Es)).length, (ints (triN N Es))[i] = .int .i64 (tn N Es i : Nat) := fun h => by rw [List.getElem?_eq_getElem h] at gu; exact Option.some.inj gu
  have g5 : (ints (triN N Es)).length = N := by rw [ints_length, ln]
  have sb1 := tns_bd hG i (by omega)
  have sb1' : i * (64 * Es.length) ≤ 9 * (64 * Es.length) := Nat.mul_le_mul_right _ (by omega)
  have sb2 := prs_bd hG i (by omega)
  have pb := pr_bd (n := (nbr N Es i).length) (by omega)
  have p2 := pr_two (nbr N Es i).length
  rw [show sm (i + 1) (tn N Es) = sm i (tn N Es) + tn N Es i from rfl, show sm (i + 1) (prs N Es) = sm i (prs N Es) + pr (nbr N Es i).length from rfl]
  have q1 : IntKind.i64.wrap ((sm i (tn N Es) : Nat) + (tn N Es i : Nat)) = ((sm i (tn N Es) + tn N Es i : Nat) : Int) := by rw [← Int.natCast_add]; exact wrap_id (by omega) (by omega)
  have q2 : IntKind.i64.wrap ((sm i (prs N Es) : Nat) + (pr (nbr N Es i).length : Nat)) = ((sm i (prs N Es) + pr (nbr N Es i).length : Nat) : Int) := by rw [← Int.natCast_add]; exact wrap_id (by omega) (by omega)
  generalize sm i (tn N Es) + tn N Es i = s2 at *
  generalize sm i (prs N Es) + pr (nbr N Es i).length = r2 at *
  generalize sm i (tn N Es) = s at *
  generalize sm i (prs N Es) = r at *
  have m1 : IntKind.i64.wrap (((nbr N Es i).length : Int) - 1) = ((nbr N Es i).length : Int) - 1 := wrap_id (by omega) (by omega)
  have e : ((nbr N Es i).length : Int) * (((nbr N Es i).length : Int) - 1) = ((2 * pr (nbr N Es i).length : Nat) : Int) := by
    rw [p2]
    rcases Nat.eq_zero_or_pos (nbr N Es i).length with k | k
    · rw [k]; rfl
    · rw [Int.natCast_mul, show (((nbr N Es i).length - 1 : Nat) : Int) = ((nbr N Es i).length : Int) - 1 by omega]
  have m2 : IntKind.i64.wrap ((2 * pr (nbr N Es i).length : Nat) : Int) = ((2 * pr (nbr N Es i).length : Nat) : Int) := wrap_id (by omega) (by omega)
  have m3 : IntKind.i64.wrap (((2 * pr (nbr N Es i).length : Nat) : Int).tdiv 2) = (pr (nbr N Es i).length : Nat) := by
    rw [Int.tdiv_eq_ediv_of_nonneg (by omega), show (((2 * pr (nbr N Es i).length : Nat) : Int) / 2) = (pr (nbr N Es i).length : Nat) by omega]; exact wrap_id (by omega) (by omega)
  have m4 : IntKind.i64.wrap (2 * (tn N Es i : Int)) = ((2 * tn N Es i : Nat) : Int) := by rw [Int.natCast_mul]; exact wrap_id (by omega) (by omega)
  by_cases c : 2 ≤ (nbr N Es i).length
  · have pp := pr_pos c
    have ff := frof_run (a := 2 * tn N Es i) (b := 2 * pr (nbr N Es i).length) (by omega) (by omega) (by omega)
    rw [fr_mul (by omega)] at ff
    rw [show max (pr (nbr N Es i).length) 1 = pr (nbr N Es i).length by omega] at lc
    have c1 : (2 : Int) ≤ ((nbr N Es i).length : Int) := by omega
    have c2 : ¬ ((nbr N Es i).length : Int) < 2 := by omega
    unfold fr at ff lc
    generalize ((2 * tn N Es i : Nat) : Int) = t2 at *
    generalize ((2 * pr (nbr N Es i).length : Nat) : Int) = pp2 at *
    generalize tn N Es i / Nat.gcd (tn N Es i) (pr (nbr N Es i).length) = fx at *
    generalize pr (nbr N Es i).length / Nat.gcd (tn N Es i) (pr (nbr N Es i).length) = fy at *
    generalize tn N Es i = t at *
    generalize pr (nbr N Es i).length = q at *
    generalize (nbr N Es i).length = k at *
    generalize ints (triN N Es) = tN at *
    generalize eds Es = Y at *
    unfold suSt lLaw29TrianglesSumsX0 dk
    simp [rLaw29TrianglesSumsX0, rLaw29TrianglesSumsX1, rLaw29TrianglesSumsX2, rLaw29TrianglesSumsX3, rLaw29TrianglesSumsX4, rLaw29TrianglesSumsX5, rLaw29TrianglesSumsX6, rLaw29TrianglesSumsX7, rLaw29TrianglesSumsX8, rLaw29TrianglesSumsX9, rLaw29TrianglesSumsX10, rLaw29TrianglesSumsX11, rLaw29TrianglesSumsX12, rLaw29TrianglesSumsX13, rLaw29TrianglesSumsX14, rLaw29TrianglesSumsX15, rLaw29TrianglesSumsX16, rLaw29TrianglesSumsX17, rLaw29TrianglesSumsX18, rLaw29TrianglesSumsX19, h1, hi, hw, dg, lc, gu, gu', g5, q1, q2, m1, e, m2, m3, m4, ff, c, c1, c2, idx, eqA, eqc, blk, sRef03Degree, iRef03Degree, sTrianglesLocal, iTrianglesLocal, sRef01Of, iRef01Of, plp, plpL, allB, notBox, swC, swS, seesC, inBox, relB, handBox, mvBB, mvRtB]
  · have tz := tn_zero hG hi (by omega)
    rw [tz, fr_zero (by omega)] at lc
    have c1 : ¬ (2 : Int) ≤ ((nbr N Es i).length : Int) := by omega
    have c2 : ((nbr N Es i).length : Int) < 2 := by omega
    have c3 : (nbr N Es i).length < 2 := by omega
    generalize ((2 * tn N Es i : Nat) : Int) = t2 at *
    generalize ((2 * pr (nbr N Es i).length : Nat) : Int) = pp2 at *
    clear tz
    generalize tn N Es i = t at *
    generalize pr (nbr N Es i).length = q at *
    generalize (nbr N Es i).length = k at *
    generalize ints (triN N Es) = tN at *
    generalize eds Es = Y at *
    unfold suSt lLaw29TrianglesSumsX0 dk
    simp [rLaw29TrianglesSumsX0, rLaw29TrianglesSumsX1, rLaw29TrianglesSumsX2, rLaw29TrianglesSumsX3, rLaw29TrianglesSumsX4, rLaw29TrianglesSumsX5, rLaw29TrianglesSumsX6, rLaw29TrianglesSumsX7, rLaw29TrianglesSumsX8, rLaw29TrianglesSumsX9, rLaw29TrianglesSumsX10, rLaw29TrianglesSumsX11, rLaw29TrianglesSumsX12, rLaw29TrianglesSumsX13, rLaw29TrianglesSumsX14, rLaw29TrianglesSumsX15, rLaw29TrianglesSumsX16, rLaw29TrianglesSumsX17, rLaw29TrianglesSumsX18, rLaw29TrianglesSumsX19, h1, hi, hw, dg, lc, gu, gu', g5, q1, q2, m1, e, m2, m3, m4, c, c1, c2, c3, idx, eqA, eqc, blk, sRef03Degree, iRef03Degree, sTrianglesLocal, iTrianglesLocal, sRef01Of, iRef01Of, plp, plpL, allB, notBox, swC, swS, seesC, inBox, relB, handBox, mvBB, mvRtB]
end
end Go.BmP
