/- What triangles.Local and Whole return. -/
import Derived.Test.YtahcjjgkefjhbaaU01
import Derived.Test.YtahcjjgkefjhbaaU03
import Derived.Test.YtahcjjgkefjhbaaU04
import Derived.Test.YtahcjjgkefjhbaaTnP
set_option linter.unusedSimpArgs false
set_option linter.unusedVariables false
set_option maxRecDepth 100000
set_option maxHeartbeats 4000000
namespace Go.BmP
open Go.Am Go.Bm
section
attribute [local simp] codeL_seq codeL_reg codeL_blk codeL_skip codeL_ret codeL_exit codeL_cnd condL_b thenL_n thenL_e thenL_r blkL_n blkL_e blkL_r regL_s opsB stepB opB opP opnd opnds lend lendC get_nil' get_cons' put_nil' put_cons' mem_nil' mem_cons' putdB putB slowP hasOwn hasOwnL finO relab anyB anyE anyH anyR borOf borL inSlot HAND endR hasOwnE endK keepIn trim noPtr noPtrL noPtrE noPtrH binA arith unA eqB isNilB eqc lenB bndB bnd rdN rdc AV.cells fillB peek ldOK AV.leaf allLeaf fz pl plL drawB allCW cwF okDrawB okPair Fq.ok dstOff wrOff notSlot noneIn apartR oldBoxes O.reads Kd.reads E.slot slots slotO slotsP List.getD pairIn nilL okRes clean cleanL resV resVs tupOf mkEnv partsBor doCallB inpB getArgs doCallO frzA frzV frzL minA minF cont ownAt at_ setAt rel dropS relC dropAll frzP frzAll firstBor borIn borC borS borE borH handTo mapSt mapE mapH mapB mapBL sw rt fb mvB mvRt seesP inRt isRoot rootOf boxOf seesB rootsL Am.rep ovw flatCells_ints allLeaf_ints flatCells el grp updE isNilB inpV inpL stB okL unA orcA bndB plL_ints fzL stBox inCells wrap0 wrap1 wrapm1 take_snoc BIGB marks boxZ ldLab cellOf cellN CELLM boxIn isCell apartC frzR frzRL frzS frzC frzCL
theorem pairs_run {n : Nat} (h : n ≤ 64) : callL cfgS nTrianglesPairs [.int .i64 n] [] = some (.int .i64 (pr n), []) := by
  have b := pr_bd h
  have t := pr_two n
  have w1 : IntKind.i64.wrap ((n : Int) - 1) = (n : Int) - 1 := wrap_id (by omega) (by omega)
  have e : (n : Int) * ((n : Int) - 1) = ((2 * pr n : Nat) : Int) := by
    rw [t]
    rcases Nat.eq_zero_or_pos n with k | k
    · subst k; rfl
    · rw [Int.natCast_mul, show ((n - 1 : Nat) : Int) = (n : Int) - 1 by omega]
  have w2 : IntKind.i64.wrap ((2 * pr n : Nat) : Int) = ((2 * pr n : Nat) : Int) := wrap_id (by omega) (by omega)
  have w3 : IntKind.i64.wrap (((2 * pr n : Nat) : Int).tdiv 2) = (pr n : Nat) := by
    rw [Int.tdiv_eq_ediv_of_nonneg (by omega), show (((2 * pr n : Nat) : Int) / 2) = (pr n : Nat) by omega]; exact wrap_id (by omega) (by omega)
  generalize ((2 * pr n : Nat) : Int) = z at *
  rw [callL_end oTrianglesPairs sTrianglesPairs (Nat.le_of_ble_eq_true rfl)]
  unfold qTrianglesPairs cTrianglesPairs
  simp [rTrianglesPairsX0, rTrianglesPairsX1, w1, e, w2, w3, blk, plL, pl, endL, finB]
theorem tlocal_run {N : Nat} (hN : N ≤ 9) {Es : List Ed} (hG : GOK (N : Int) Es) (hE : Es.length < 1000000) {u : Nat} (hu : u < N) : callL cfgS nTrianglesLocal [.agg [.int .i64 N, .list 2 (eds Es)], .int .i64 u] [] = some (.tup [fr (tn N Es u) (max (pr (nbr N Es u).length) 1), .int .i64 0], []) := by
  have g := gchk_run N Es (by omega)
  rw [chkG_zero.2 hG] at g
  have cr := counts_run hG hE
  have nl := nbr_len hG (u := u) (by omega) (by omega)
  have b := tn_bd hG hu
  have pb := pr_bd (n := (nbr N Es u).length) (by omega)
  have d := gdegree_run hN hG hE hu
  have p := pairs_run (n := (nbr N Es u).length) (by omega)
  have s := tshare_run (a := tn N Es u) (b := pr (nbr N Es u).length) (by omega) (by omega)
  have ln := triN_length N Es
  have gt := triN_get hG hu
  rw [List.getD_eq_getElem?_getD, List.getElem?_eq_getElem (by omega)] at gt
  simp only [Option.getD_some] at gt
  have gu : (ints (triN N Es))[u]? = some (.int .i64 (tn N Es u : Nat)) := by rw [ints_get, List.getElem?_eq_getElem (by omega), ← gt]; rfl
  have gu' : ∀ h : u < (ints (triN N Es)).length, (ints (triN N Es))[u] = .int .i64 (tn N Es u : Nat) := fun h => by rw [List.getElem?_eq_getElem h] at gu; exact Option.some.inj gu
  have g5 : (ints (triN N Es)).length = N := by rw [ints_length, ln]
  have k1 : (u : Int) < N := by omega
  have k2 : ¬ (u : Int) < 0 := by omega
  have k3 : ¬ (N : Int) ≤ u := by omega
  have k4 : ¬ N ≤ u := by omega
  unfold fr
  generalize tn N Es u / Nat.gcd (tn N Es u) (max (pr (nbr N Es u).length) 1) = x at *
  generalize max (pr (nbr N Es u).length) 1 / Nat.gcd (tn N Es u) (max (pr (nbr N Es u).length) 1) = y at *
  generalize tn N Es u = t at *
  generalize pr (nbr N Es u).length = q at *
  generalize (nbr N Es u).length = n at *
  generalize (triS N Es : Int) / 3 = tS at *
  generalize ints (triN N Es) = tN at *
  generalize eds Es = Y at *
  rw [callL_end oTrianglesLocal sTrianglesLocal (Nat.le_of_ble_eq_true rfl)]
  unfold qTrianglesLocal cTrianglesLocal
  simp [rTrianglesLocalX0, rTrianglesLocalX1, rTrianglesLocalX2, rTrianglesLocalX3, rTrianglesLocalX4, rTrianglesLocalX5, rTrianglesLocalX6, rTrianglesLocalX7, g, cr, d, p, s, gu, gu', g5, k1, k2, k3, k4, hu, idx, blk, sGraphCheck, iGraphCheck, sTrianglesCounts, iTrianglesCounts, sGraphDegree, iGraphDegree, sTrianglesPairs, iTrianglesPairs, sTrianglesShare, iTrianglesShare, plL, pl, endL, finB]
end
def whSt (N : Nat) (Y Z : List AV) (t : Int) (s : Int) (i : Nat) (J : Env) : St := ⟨(2, .ptr 1 0) :: (5, .int .i64 t) :: (7, .int .i64 s) :: (22, .list 1 Z) :: (23, .int .i64 N) :: (24, .int .i64 i) :: J, [some [.int .i64 N, .list 2 Y], some [.int .i64 0, .int .i64 0]]⟩
section
attribute [local simp] codeL_seq codeL_reg codeL_blk codeL_skip codeL_ret codeL_exit codeL_cnd condL_b thenL_n thenL_e thenL_r blkL_n blkL_e blkL_r regL_s opsB stepB opB opP opnd opnds lend lendC get_nil' get_cons' put_nil' put_cons' mem_nil' mem_cons' putdB putB slowP hasOwn hasOwnL finO relab anyB anyE anyH anyR borOf borL inSlot HAND endR hasOwnE endK keepIn trim noPtr noPtrL noPtrE noPtrH binA arith unA eqB isNilB eqc lenB bndB bnd rdN rdc AV.cells fillB peek ldOK AV.leaf allLeaf fz pl plL drawB allCW cwF okDrawB okPair Fq.ok dstOff wrOff notSlot noneIn apartR oldBoxes O.reads Kd.reads E.slot slots slotO slotsP List.getD pairIn nilL okRes clean cleanL resV resVs tupOf mkEnv partsBor doCallB inpB getArgs doCallO frzA frzV frzL minA minF cont ownAt at_ setAt rel dropS relC dropAll frzP frzAll firstBor borIn borC borS borE borH handTo mapSt mapE mapH mapB mapBL sw rt fb mvB mvRt seesP inRt isRoot rootOf boxOf seesB rootsL Am.rep ovw flatCells_ints allLeaf_ints flatCells el grp updE isNilB inpV inpL stB okL unA orcA bndB plL_ints fzL stBox inCells wrap0 wrap1 wrapm1 take_snoc BIGB marks boxZ ldLab cellOf cellN CELLM boxIn isCell apartC frzR frzRL frzS frzC frzCL
theorem wh_loop {N : Nat} {Es : List Ed} (hG : GOK (N : Int) Es) (t : Int) : ∀ (k i : Nat), i + k = N → codeL cfgS 0 (.loop lTrianglesWholeX0) (whSt N (eds Es) (llT (lstE N Es)) t (sm i (fun v => pr (nbr N Es v).length) : Nat) i []) = some (.exit 0, whSt N (eds Es) (llT (lstE N Es)) t (sm N (fun v => pr (nbr N Es v).length) : Nat) N [(25, .bool false)])
  | 0, i, hi => by
    obtain rfl : i = N := by omega
    refine loop_exit ?_
    generalize sm i (fun v => pr (nbr i Es v).length) = s at *
    unfold whSt lTrianglesWholeX0
    simp [rTrianglesWholeX0, rTrianglesWholeX1, rTrianglesWholeX2, rTrianglesWholeX3, rTrianglesWholeX4, rTrianglesWholeX5, rTrianglesWholeX6, rTrianglesWholeX7, rTrianglesWholeX8, rTrianglesWholeX9, rTrianglesWholeX10, rTrianglesWholeX11, blk]
  | k + 1, i, hi => by
    have hlt : i < N := by omega
    have hN := hG.1
    refine (loop_next ?_).trans (wh_loop hG t k (i + 1) (by omega))
    have h1 : (i : Int) < N := by omega
    have hw := wrapS (i := i) (by omega)
    have nl := nbr_len hG (u := i) (by omega) (by omega)
    have p := pairs_run (n := (nbr N Es i).length) (by omega)
    have pb := pr_bd (n := (nbr N Es i).length) (by omega)
    have sb : sm i (fun v => pr (nbr N Es v).length) ≤ i * 4096 := by
      have : ∀ n, n ≤ N → sm n (fun v => pr (nbr N Es v).length) ≤ n * 4096 := by
        intro n
        induction n with
        | zero => intro _; simp [sm]
        | succ j ih =>
          intro hj
          have := ih (by omega)
          have b2 := nbr_len hG (u := j) (by omega) (by omega)
          have b1 := pr_bd (n := (nbr N Es j).length) (by omega)
          rw [sm]; omega
      exact this i (by omega)
    have zl := lls_at (N := N) (Es := Es) hlt
    have zl' : ∀ h : i < (llT (lstE N Es)).length, (llT (lstE N Es))[i] = .list 1 (ints (nbr N Es i)) := fun h => by rw [List.getElem?_eq_getElem h] at zl; exact Option.some.inj zl
    have zn : (llT (lstE N Es)).length = N := by simp [llT, lstE_length]
    have es : sm (i + 1) (fun v => pr (nbr N Es v).length) = sm i (fun v => pr (nbr N Es v).length) + pr (nbr N Es i).length := rfl
    rw [es]
    generalize sm i (fun v => pr (nbr N Es v).length) = s at *
    have w : IntKind.i64.wrap ((s : Int) + (pr (nbr N Es i).length : Nat)) = ((s + pr (nbr N Es i).length : Nat) : Int) := by
      rw [← Int.natCast_add]; exact wrap_id (by omega) (by omega)
    generalize s + pr (nbr N Es i).length = s2 at *
    generalize pr (nbr N Es i).length = q at *
    have g5 := ints_length (nbr N Es i)
    generalize hn : (nbr N Es i).length = n at *
    generalize ints (nbr N Es i) = I at *
    generalize llT (lstE N Es) = Z at *
    generalize eds Es = Y at *
    unfold whSt lTrianglesWholeX0
    simp [rTrianglesWholeX0, rTrianglesWholeX1, rTrianglesWholeX2, rTrianglesWholeX3, rTrianglesWholeX4, rTrianglesWholeX5, rTrianglesWholeX6, rTrianglesWholeX7, rTrianglesWholeX8, rTrianglesWholeX9, rTrianglesWholeX10, rTrianglesWholeX11, h1, hlt, hw, p, w, zl, zl', zn, g5, idx, blk, sTrianglesPairs, iTrianglesPairs]
theorem trwhole_run {N : Nat} {Es : List Ed} (hG : GOK (N : Int) Es) (hE : Es.length < 1000000) (hs : sm N (fun v => pr (nbr N Es v).length) < 1000000000) (ht : tri N Es < 1000000000) : callL cfgS nTrianglesWhole [.agg [.int .i64 N, .list 2 (eds Es)]] [] = some (.tup [fr (3 * tri N Es) (max (sm N fun v => pr (nbr N Es v).length) 1), .int .i64 0], []) := by
  have hN := hG.1
  have g := gchk_run N Es (by omega)
  rw [chkG_zero.2 hG] at g
  have cr := counts_run hG hE
  rw [tri_quo hG] at cr
  have lr := lists_run N Es (by omega) (by omega) hG.2.2
  have lp := wh_loop hG (tri N Es) N 0 (by omega)
  have s := tshare_run (a := 3 * tri N Es) (b := sm N fun v => pr (nbr N Es v).length) (by omega) (by omega)
  rw [show sm 0 (fun v => pr (nbr N Es v).length) = 0 from rfl, nat0] at lp
  have w : IntKind.i64.wrap (3 * (tri N Es : Int)) = ((3 * tri N Es : Nat) : Int) := by
    rw [Int.natCast_mul]; exact wrap_id (by omega) (by omega)
  have zn : (llT (lstE N Es)).length = N := by simp [llT, lstE_length]
  unfold fr
  generalize sm N (fun v => pr (nbr N Es v).length) = P at *
  generalize 3 * tri N Es = t3 at *
  generalize t3 / Nat.gcd t3 (max P 1) = x at *
  generalize max P 1 / Nat.gcd t3 (max P 1) = y at *
  generalize (tri N Es : Int) = t at *
  generalize ints (triN N Es) = tN at *
  generalize llT (lstE N Es) = Z at *
  generalize eds Es = Y at *
  unfold whSt at lp
  rw [nat0] at lp
  rw [callL_end oTrianglesWhole sTrianglesWhole (Nat.le_of_ble_eq_true rfl)]
  unfold qTrianglesWhole cTrianglesWhole
  simp [rTrianglesWholeX0, rTrianglesWholeX1, rTrianglesWholeX2, rTrianglesWholeX3, rTrianglesWholeX4, rTrianglesWholeX5, rTrianglesWholeX6, rTrianglesWholeX7, rTrianglesWholeX8, rTrianglesWholeX9, rTrianglesWholeX10, rTrianglesWholeX11, g, cr, lr, lp, s, w, zn, blk, sGraphCheck, iGraphCheck, sTrianglesCounts, iTrianglesCounts, sTrianglesLists, iTrianglesLists, sTrianglesShare, iTrianglesShare, plL, pl, endL, finB]
end
end Go.BmP
