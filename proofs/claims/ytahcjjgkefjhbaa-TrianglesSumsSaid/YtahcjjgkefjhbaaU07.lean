/- The law of sums returns true. -/
import Derived.Test.YtahcjjgkefjhbaaU06
set_option linter.unusedSimpArgs false
set_option linter.unusedVariables false
set_option maxRecDepth 100000
set_option maxHeartbeats 4000000
namespace Go.BmP
open Go.Am Go.Bm
section
attribute [local simp] codeL_seq codeL_reg codeL_blk codeL_skip codeL_ret codeL_exit codeL_cnd condL_b thenL_n thenL_e thenL_r blkL_n blkL_e blkL_r regL_s opsB stepB opB opP opnd opnds lend lendC get_nil' get_cons' put_nil' put_cons' mem_nil' mem_cons' putdB putB slowP hasOwn hasOwnL finO relab anyB anyE anyH anyR borOf borL inSlot HAND endR hasOwnE endK keepIn trim noPtr noPtrL noPtrE noPtrH binA arith unA eqB isNilB eqc lenB bndB bnd rdN rdc AV.cells fillB peek ldOK AV.leaf allLeaf fz pl plL drawB allCW cwF okDrawB okPair Fq.ok dstOff wrOff notSlot noneIn apartR oldBoxes O.reads Kd.reads E.slot slots slotO slotsP List.getD pairIn nilL okRes clean cleanL resV resVs tupOf mkEnv partsBor doCallB inpB getArgs doCallO frzA frzV frzL minA minF cont ownAt at_ setAt rel dropS relC dropAll frzP frzAll firstBor borIn borC borS borE borH handTo mapSt mapE mapH mapB mapBL sw rt fb mvB mvRt seesP inRt isRoot rootOf boxOf seesB rootsL Am.rep ovw flatCells_ints allLeaf_ints flatCells el grp updE isNilB inpV inpL stB okL unA orcA bndB plL_ints fzL stBox inCells wrap0 wrap1 wrapm1 take_snoc BIGB marks boxZ ldLab cellOf cellN CELLM boxIn isCell apartC frzR frzRL frzS frzC frzCL
theorem sus_loop (l : List Int) (a N : Nat) (hN : N ≤ 9) {Es : List Ed} (hG : GOK (N : Int) Es) (hE : Es.length < 1000000) (w0 w1 : Int) (n : Int) : ∀ (k i : Nat), i + k = N →
    codeL cfgS 0 (.loop lLaw29TrianglesSumsX0) (suSt l a N (eds Es) (ints (triN N Es)) [.int .i64 w0, .int .i64 w1] n (sm i (tn N Es) : Nat) (sm i (prs N Es) : Nat) i []) = some (.exit 0, suSt l a N (eds Es) (ints (triN N Es)) [.int .i64 w0, .int .i64 w1] n (sm N (tn N Es) : Nat) (sm N (prs N Es) : Nat) N [(59, .bool false)])
  | 0, i, hi => by
    obtain rfl : i = N := by omega
    refine loop_exit ?_
    generalize sm i (tn i Es) = s at *
    generalize sm i (prs i Es) = r at *
    generalize ints (triN i Es) = tN at *
    generalize eds Es = Y at *
    unfold suSt lLaw29TrianglesSumsX0 dk
    simp [rLaw29TrianglesSumsX0, rLaw29TrianglesSumsX1, rLaw29TrianglesSumsX2, rLaw29TrianglesSumsX3, rLaw29TrianglesSumsX4, rLaw29TrianglesSumsX5, rLaw29TrianglesSumsX6, rLaw29TrianglesSumsX7, rLaw29TrianglesSumsX8, rLaw29TrianglesSumsX9, rLaw29TrianglesSumsX10, rLaw29TrianglesSumsX11, rLaw29TrianglesSumsX12, rLaw29TrianglesSumsX13, rLaw29TrianglesSumsX14, rLaw29TrianglesSumsX15, rLaw29TrianglesSumsX16, rLaw29TrianglesSumsX17, rLaw29TrianglesSumsX18, rLaw29TrianglesSumsX19]
  | k + 1, i, hi => (loop_next (sus_round l a N hN hG hE w0 w1 n i (by omega))).trans (sus_loop l a N hN hG hE w0 w1 n k (i + 1) (by omega))
theorem trisums_run (l : List Int) : callL cfgS nLaw29TrianglesSums [.list 1 (ints l)] [] = some (.bool true, []) := by
  rw [callL_end oLaw29TrianglesSums sLaw29TrianglesSums (Nat.le_of_ble_eq_true rfl)]
  have aw := awake29
  have few := few_run l
  by_cases hl : (l.length : Int) ≤ 500
  case neg =>
    unfold qLaw29TrianglesSums cLaw29TrianglesSums
    simp [rLaw29TrianglesSumsX0, rLaw29TrianglesSumsX1, rLaw29TrianglesSumsX2, rLaw29TrianglesSumsX3, rLaw29TrianglesSumsX4, rLaw29TrianglesSumsX5, rLaw29TrianglesSumsX6, rLaw29TrianglesSumsX7, rLaw29TrianglesSumsX8, rLaw29TrianglesSumsX9, rLaw29TrianglesSumsX10, rLaw29TrianglesSumsX11, rLaw29TrianglesSumsX12, rLaw29TrianglesSumsX13, rLaw29TrianglesSumsX14, rLaw29TrianglesSumsX15, rLaw29TrianglesSumsX16, rLaw29TrianglesSumsX17, rLaw29TrianglesSumsX18, rLaw29TrianglesSumsX19, few, hl, aw, sMakeFew, iMakeFew, sLaw29Awake, iLaw29Awake, blk, endL, finB]
  have hl5 : l.length ≤ 500 := by omega
  have n1 := new_run l
  obtain ⟨N, Es, a1, n2, hG, hN, hEl⟩ := graph_run l hl5 9 (by omega) 0
  rw [show ((9 : Nat) : Int) = 9 from rfl] at n2
  have hE : Es.length < 1000000 := by omega
  have c1 := count_run hG hE
  rw [tri_quo hG] at c1
  have c2 := nodes_run hG hE
  have pb := prs_bd hG N (by omega)
  have t3 := tn_sum hG
  have tb := tns_bd hG N (by omega)
  have tb' : N * (64 * Es.length) ≤ 9 * (64 * Es.length) := Nat.mul_le_mul_right _ (by omega)
  have c3 := trwhole_run hG hE (show sm N (fun v => pr (nbr N Es v).length) < 1000000000 from Nat.lt_of_le_of_lt pb (by omega)) (by omega)
  rw [show sm N (fun v => pr (nbr N Es v).length) = sm N (prs N Es) from rfl] at c3
  have pz : sm N (prs N Es) = 0 → tri N Es = 0 := prs_zero hG
  have g5 : (ints (triN N Es)).length = N := by rw [ints_length, triN_length]
  have q1 : IntKind.i64.wrap (3 * (tri N Es : Int)) = ((3 * tri N Es : Nat) : Int) := by
    rw [Int.natCast_mul]; exact wrap_id (by omega) (by omega)
  unfold fr at c3
  have lp := sus_loop l a1 N hN hG hE ((3 * tri N Es / Nat.gcd (3 * tri N Es) (max (sm N (prs N Es)) 1) : Nat) : Int) ((max (sm N (prs N Es)) 1 / Nat.gcd (3 * tri N Es) (max (sm N (prs N Es)) 1) : Nat) : Int) (tri N Es) N 0 (by omega)
  rw [show sm 0 (tn N Es) = 0 from rfl, show sm 0 (prs N Es) = 0 from rfl, t3] at lp
  unfold suSt dk at lp
  simp only [nat0] at lp
  unfold dk at n1 n2
  simp only [nat0] at n1 n2
  unfold qLaw29TrianglesSums cLaw29TrianglesSums
  by_cases p0 : sm N (prs N Es) = 0
  · have t0 := pz p0
    rw [p0] at lp c3
    rw [t0] at lp c1 c3 q1
    simp only [Nat.mul_zero, Nat.zero_max, Nat.gcd_one_right, Nat.div_one, nat0] at lp c1 c3 q1
    rw [show ((1 : Nat) : Int) = 1 from rfl] at lp c3
    generalize ints (triN N Es) = tN at *
    generalize eds Es = Y at *
    clear t3 tb tb' pb pz hG
    simp [rLaw29TrianglesSumsX0, rLaw29TrianglesSumsX1, rLaw29TrianglesSumsX2, rLaw29TrianglesSumsX3, rLaw29TrianglesSumsX4, rLaw29TrianglesSumsX5, rLaw29TrianglesSumsX6, rLaw29TrianglesSumsX7, rLaw29TrianglesSumsX8, rLaw29TrianglesSumsX9, rLaw29TrianglesSumsX10, rLaw29TrianglesSumsX11, rLaw29TrianglesSumsX12, rLaw29TrianglesSumsX13, rLaw29TrianglesSumsX14, rLaw29TrianglesSumsX15, rLaw29TrianglesSumsX16, rLaw29TrianglesSumsX17, rLaw29TrianglesSumsX18, rLaw29TrianglesSumsX19, few, hl, n1, n2, lp, c1, c2, c3, q1, g5, aw, eqA, eqc, blk, sMakeFew, iMakeFew, sMakeNew, iMakeNew, sMakeGraph, iMakeGraph, sTrianglesCount, iTrianglesCount, sTrianglesNodes, iTrianglesNodes, sTrianglesWhole, iTrianglesWhole, sLaw29Awake, iLaw29Awake, plp, plpL, allB, notBox, swC, swS, seesC, inBox, relB, handBox, mvBB, mvRtB, endL, finB]
  · have ff := frof_run (a := 3 * tri N Es) (b := sm N (prs N Es)) (by omega) (by omega) (by omega)
    rw [show max (sm N (prs N Es)) 1 = sm N (prs N Es) by omega] at lp c3
    have p1 : ¬ ((sm N (prs N Es) : Nat) : Int) = 0 := by omega
    have p2 : (0 : Int) < ((sm N (prs N Es) : Nat) : Int) := by omega
    have p3 : 0 < sm N (prs N Es) := by omega
    unfold fr at ff
    generalize 3 * tri N Es / Nat.gcd (3 * tri N Es) (sm N (prs N Es)) = fx at *
    generalize sm N (prs N Es) / Nat.gcd (3 * tri N Es) (sm N (prs N Es)) = fy at *
    generalize ((3 * tri N Es : Nat) : Int) = t3n at *
    generalize (tri N Es : Int) = tE at *
    generalize sm N (prs N Es) = P at *
    generalize ints (triN N Es) = tN at *
    generalize eds Es = Y at *
    clear tb tb' pb pz hG
    simp [rLaw29TrianglesSumsX0, rLaw29TrianglesSumsX1, rLaw29TrianglesSumsX2, rLaw29TrianglesSumsX3, rLaw29TrianglesSumsX4, rLaw29TrianglesSumsX5, rLaw29TrianglesSumsX6, rLaw29TrianglesSumsX7, rLaw29TrianglesSumsX8, rLaw29TrianglesSumsX9, rLaw29TrianglesSumsX10, rLaw29TrianglesSumsX11, rLaw29TrianglesSumsX12, rLaw29TrianglesSumsX13, rLaw29TrianglesSumsX14, rLaw29TrianglesSumsX15, rLaw29TrianglesSumsX16, rLaw29TrianglesSumsX17, rLaw29TrianglesSumsX18, rLaw29TrianglesSumsX19, few, hl, n1, n2, lp, c1, c2, c3, q1, g5, aw, ff, p0, p1, p2, p3, eqA, eqc, blk, sMakeFew, iMakeFew, sMakeNew, iMakeNew, sMakeGraph, iMakeGraph, sTrianglesCount, iTrianglesCount, sTrianglesNodes, iTrianglesNodes, sTrianglesWhole, iTrianglesWhole, sRef01Of, iRef01Of, sLaw29Awake, iLaw29Awake, plp, plpL, allB, notBox, swC, swS, seesC, inBox, relB, handBox, mvBB, mvRtB, endL, finB]
end
end Go.BmP
