/- The law of the bound returns true. -/
import Derived.Test.YtcjfhegnnjnmgaaV04
import Derived.Test.YtcjfhegnnjnmgaaBndP
import Derived.Test.YtcjfhegnnjnmgaaL01
set_option linter.unusedSimpArgs false
set_option linter.unusedVariables false
set_option maxRecDepth 100000
set_option maxHeartbeats 4000000
namespace Go.BmP
open Go.Am Go.Bm
theorem awake29b : callL cfgS nLaw29Awake [] [] = some (.bool true, []) := callL_iff.2 ⟨3000, by kernel_rfl⟩
def gb29 (N : Nat) (Es : List Ed) : Blk := some [.int .i64 N, .list 2 (eds Es)]
def tb29 (N : Nat) (Es : List Ed) : Blk := some [.int .i64 N, .list 2 (eds Es), .int .i64 (tri N Es : Nat), .list 1 (ints (triN N Es))]
theorem rest_gt (N : Nat) (Es : List Ed) : Rest [gb29 N Es, tb29 N Es] := ⟨fun _ => rfl, rfl, fun _ _ => rfl, fun _ => rfl, fun _ _ => rfl⟩
section
attribute [local simp] codeL_seq codeL_reg codeL_blk codeL_skip codeL_ret codeL_exit codeL_cnd condL_b thenL_n thenL_e thenL_r blkL_n blkL_e blkL_r regL_s opsB stepB opB opP opnd opnds lend lendC get_nil' get_cons' put_nil' put_cons' mem_nil' mem_cons' putdB putB slowP hasOwn hasOwnL finO relab anyB anyE anyH anyR borOf borL inSlot HAND endR hasOwnE endK keepIn trim noPtr noPtrL noPtrE noPtrH binA arith unA eqB isNilB eqc lenB bndB bnd rdN rdc AV.cells fillB peek ldOK AV.leaf allLeaf fz pl plL drawB allCW cwF okDrawB okPair Fq.ok dstOff wrOff notSlot noneIn apartR oldBoxes O.reads Kd.reads E.slot slots slotO slotsP List.getD pairIn nilL okRes clean cleanL resV resVs tupOf mkEnv partsBor doCallB inpB getArgs doCallO frzA frzV frzL minA minF cont ownAt at_ setAt rel dropS relC dropAll frzP frzAll firstBor borIn borC borS borE borH handTo mapSt mapE mapH mapB mapBL sw rt fb mvB mvRt seesP inRt isRoot rootOf boxOf seesB rootsL Am.rep ovw flatCells_ints allLeaf_ints flatCells el grp updE isNilB inpV inpL stB okL unA orcA bndB plL_ints fzL stBox inCells wrap0 wrap1 wrapm1 take_snoc BIGB marks boxZ ldLab cellOf cellN CELLM boxIn isCell apartC frzR frzRL frzS frzC frzCL locB locV offBox
theorem tribound_run (l : List Int) : callL cfgS nLaw29TrianglesBound [.list 1 (ints l)] [] = some (.bool true, []) := by
  rw [callL_end oLaw29TrianglesBound sLaw29TrianglesBound (Nat.le_of_ble_eq_true rfl)]
  have aw := awake29b
  have few := few_run l
  by_cases hl : (l.length : Int) ≤ 500
  case neg =>
    unfold qLaw29TrianglesBound cLaw29TrianglesBound
    simp [rLaw29TrianglesBoundX0, rLaw29TrianglesBoundX1, rLaw29TrianglesBoundX2, rLaw29TrianglesBoundX3, rLaw29TrianglesBoundX4, rLaw29TrianglesBoundX5, rLaw29TrianglesBoundX6, rLaw29TrianglesBoundX7, rLaw29TrianglesBoundX8, rLaw29TrianglesBoundX9, rLaw29TrianglesBoundX10, rLaw29TrianglesBoundX11, few, hl, aw, sMakeFew, iMakeFew, lMakeFew, eMakeFew, sLaw29Awake, iLaw29Awake, lLaw29Awake, eLaw29Awake, blk, endL, finB]
  have hl5 : l.length ≤ 500 := by omega
  have n1 := new_run l
  obtain ⟨N, Es, a1, n2, hG, hN, hEl⟩ := graph_run l hl5 9 (by omega) 0
  rw [show ((9 : Nat) : Int) = 9 from rfl] at n2
  have hE : Es.length < 1000000 := by omega
  have c1 := count_run hG hE
  have op := topen_run hG hE
  have d1 := next_run l hl5 a1 9 (by omega) [gb29 N Es, tb29 N Es] (rest_gt N Es)
  have d2 := next_run l hl5 (nxA l a1 9) 9 (by omega) [gb29 N Es, tb29 N Es] (rest_gt N Es)
  generalize nxV l a1 9 = u at *
  generalize nxA l (nxA l a1 9) 9 = a3 at *
  generalize nxV l (nxA l a1 9) 9 = v at *
  generalize nxA l a1 9 = a2 at *
  have ins := tinsert_run hG hE u v
  have bd := tri_bound hG
  have tb := triS_bd hG
  have t3 := triS_three hG
  rw [tri_quo hG] at c1 op ins
  have tT : tri N Es ≤ 1000000 := by omega
  have mM : Es.length ≤ 10000 := hEl
  clear tb t3
  have g5 := eds_length Es
  generalize hT : tri N Es = T at *
  generalize hM : Es.length = M at *
  have p1 : 9 * T * T ≤ 9 * 1000000 * 1000000 := Nat.mul_le_mul (Nat.mul_le_mul_left 9 tT) tT
  have p2 : 2 * M * M ≤ 2 * 10000 * 10000 := Nat.mul_le_mul (Nat.mul_le_mul_left 2 mM) mM
  have p3 : 2 * M * M * M ≤ 2 * 10000 * 10000 * 10000 := Nat.mul_le_mul p2 mM
  have q1 : IntKind.i64.wrap (9 * (T : Int)) = ((9 * T : Nat) : Int) := by rw [Int.natCast_mul]; exact wrap_id (by omega) (by omega)
  have q2 : IntKind.i64.wrap (((9 * T : Nat) : Int) * (T : Int)) = ((9 * T * T : Nat) : Int) := by rw [← Int.natCast_mul]; exact wrapN (by omega)
  have q3 : IntKind.i64.wrap (2 * (M : Int)) = ((2 * M : Nat) : Int) := by rw [Int.natCast_mul]; exact wrap_id (by omega) (by omega)
  have q4 : IntKind.i64.wrap (((2 * M : Nat) : Int) * (M : Int)) = ((2 * M * M : Nat) : Int) := by rw [← Int.natCast_mul]; exact wrapN (by omega)
  have q5 : IntKind.i64.wrap (((2 * M * M : Nat) : Int) * (M : Int)) = ((2 * M * M * M : Nat) : Int) := by rw [← Int.natCast_mul]; exact wrapN (by omega)
  have q6 : ((9 * T * T : Nat) : Int) ≤ ((2 * M * M * M : Nat) : Int) := by omega
  clear p1 p2 p3 bd
  unfold dk at n1 n2
  rw [nat0] at n1 n2
  unfold dk at d1 d2
  unfold triAV at op ins
  by_cases q : EndsOK N u v
  · rw [if_pos q] at ins
    by_cases m : nrmE u v ∈ Es
    · rw [if_pos m] at ins
      unfold triZ at ins
      unfold qLaw29TrianglesBound cLaw29TrianglesBound
      clear hT hM hG
      generalize ints (triN N Es) = tN at *
      generalize eds Es = Y at *
      generalize ((9 * T * T : Nat) : Int) = z1 at *
      generalize ((9 * T : Nat) : Int) = z2 at *
      generalize ((2 * M * M * M : Nat) : Int) = z3 at *
      generalize ((2 * M * M : Nat) : Int) = z4 at *
      generalize ((2 * M : Nat) : Int) = z5 at *
      simp [rLaw29TrianglesBoundX0, rLaw29TrianglesBoundX1, rLaw29TrianglesBoundX2, rLaw29TrianglesBoundX3, rLaw29TrianglesBoundX4, rLaw29TrianglesBoundX5, rLaw29TrianglesBoundX6, rLaw29TrianglesBoundX7, rLaw29TrianglesBoundX8, rLaw29TrianglesBoundX9, rLaw29TrianglesBoundX10, rLaw29TrianglesBoundX11, few, hl, n1, n2, c1, op, d1, d2, ins, g5, q1, q2, q3, q4, q5, q6, aw, sMakeFew, iMakeFew, lMakeFew, eMakeFew, sMakeNew, iMakeNew, lMakeNew, eMakeNew, sMakeGraph, iMakeGraph, lMakeGraph, eMakeGraph, sMakeDeckNext, iMakeDeckNext, lMakeDeckNext, eMakeDeckNext, sTrianglesCount, iTrianglesCount, lTrianglesCount, eTrianglesCount, sTrianglesOpen, iTrianglesOpen, lTrianglesOpen, eTrianglesOpen, sTrianglesInsert, iTrianglesInsert, lTrianglesInsert, eTrianglesInsert, sLaw29Awake, iLaw29Awake, lLaw29Awake, eLaw29Awake, blk, plp, plpL, allB, notBox, swC, swS, seesC, inBox, relB, handBox, mvBB, mvRtB, offBoxes, offLab, calmB, ptrs, ptrsL, blkE, avE, avLE, endL, finB]
    · rw [if_neg m] at ins
      have n0 : ¬ ((com N Es (u, v)).length : Int) < 0 := by omega
      have n3 : ¬ (T : Int) + (com N Es (u, v)).length < T := by omega
      unfold qLaw29TrianglesBound cLaw29TrianglesBound
      clear hT hM hG
      generalize ints (chN (triN N Es) (com N Es (u, v)) u.toNat v.toNat 1) = tM at *
      generalize ints (triN N Es) = tN at *
      generalize eds (putE (nrmE u v) Es) = Y2 at *
      generalize eds Es = Y at *
      generalize (com N Es (u, v)).length = n at *
      generalize ((9 * T * T : Nat) : Int) = z1 at *
      generalize ((9 * T : Nat) : Int) = z2 at *
      generalize ((2 * M * M * M : Nat) : Int) = z3 at *
      generalize ((2 * M * M : Nat) : Int) = z4 at *
      generalize ((2 * M : Nat) : Int) = z5 at *
      simp [rLaw29TrianglesBoundX0, rLaw29TrianglesBoundX1, rLaw29TrianglesBoundX2, rLaw29TrianglesBoundX3, rLaw29TrianglesBoundX4, rLaw29TrianglesBoundX5, rLaw29TrianglesBoundX6, rLaw29TrianglesBoundX7, rLaw29TrianglesBoundX8, rLaw29TrianglesBoundX9, rLaw29TrianglesBoundX10, rLaw29TrianglesBoundX11, few, hl, n1, n2, c1, op, d1, d2, ins, g5, n0, n3, q1, q2, q3, q4, q5, q6, aw, sMakeFew, iMakeFew, lMakeFew, eMakeFew, sMakeNew, iMakeNew, lMakeNew, eMakeNew, sMakeGraph, iMakeGraph, lMakeGraph, eMakeGraph, sMakeDeckNext, iMakeDeckNext, lMakeDeckNext, eMakeDeckNext, sTrianglesCount, iTrianglesCount, lTrianglesCount, eTrianglesCount, sTrianglesOpen, iTrianglesOpen, lTrianglesOpen, eTrianglesOpen, sTrianglesInsert, iTrianglesInsert, lTrianglesInsert, eTrianglesInsert, sLaw29Awake, iLaw29Awake, lLaw29Awake, eLaw29Awake, blk, plp, plpL, allB, notBox, swC, swS, seesC, inBox, relB, handBox, mvBB, mvRtB, offBoxes, offLab, calmB, ptrs, ptrsL, blkE, avE, avLE, endL, finB]
  · rw [if_neg q] at ins
    unfold triZ at ins
    unfold qLaw29TrianglesBound cLaw29TrianglesBound
    clear hT hM hG
    generalize ints (triN N Es) = tN at *
    generalize eds Es = Y at *
    generalize ((9 * T * T : Nat) : Int) = z1 at *
    generalize ((9 * T : Nat) : Int) = z2 at *
    generalize ((2 * M * M * M : Nat) : Int) = z3 at *
    generalize ((2 * M * M : Nat) : Int) = z4 at *
    generalize ((2 * M : Nat) : Int) = z5 at *
    simp [rLaw29TrianglesBoundX0, rLaw29TrianglesBoundX1, rLaw29TrianglesBoundX2, rLaw29TrianglesBoundX3, rLaw29TrianglesBoundX4, rLaw29TrianglesBoundX5, rLaw29TrianglesBoundX6, rLaw29TrianglesBoundX7, rLaw29TrianglesBoundX8, rLaw29TrianglesBoundX9, rLaw29TrianglesBoundX10, rLaw29TrianglesBoundX11, few, hl, n1, n2, c1, op, d1, d2, ins, g5, q1, q2, q3, q4, q5, q6, aw, sMakeFew, iMakeFew, lMakeFew, eMakeFew, sMakeNew, iMakeNew, lMakeNew, eMakeNew, sMakeGraph, iMakeGraph, lMakeGraph, eMakeGraph, sMakeDeckNext, iMakeDeckNext, lMakeDeckNext, eMakeDeckNext, sTrianglesCount, iTrianglesCount, lTrianglesCount, eTrianglesCount, sTrianglesOpen, iTrianglesOpen, lTrianglesOpen, eTrianglesOpen, sTrianglesInsert, iTrianglesInsert, lTrianglesInsert, eTrianglesInsert, sLaw29Awake, iLaw29Awake, lLaw29Awake, eLaw29Awake, blk, plp, plpL, allB, notBox, swC, swS, seesC, inBox, relB, handBox, mvBB, mvRtB, offBoxes, offLab, calmB, ptrs, ptrsL, blkE, avE, avLE, endL, finB]
end
end Go.BmP
