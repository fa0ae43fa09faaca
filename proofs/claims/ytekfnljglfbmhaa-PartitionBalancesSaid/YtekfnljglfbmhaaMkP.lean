/- partition.Make: the loop that lays the workers' sums. -/
import Derived.Test.YtekfnljglfbmhaaMnP
set_option linter.unusedSimpArgs false
set_option linter.unusedVariables false
set_option maxRecDepth 100000
set_option maxHeartbeats 4000000
namespace Go.BmP
open Go.Am Go.Bm
/-- The boxes of partition.Make: the graph, the result, the plan. -/
def mkH (N : Nat) (Y : List AV) (w : Nat) (O Hv : List AV) : Heap := [some [.int .i64 N, .list 2 Y], some [.int .i64 0, .own 1 [], .own 1 []], some [.int .i64 w, .own 1 O, .own 1 Hv]]
def sum0 (i : Nat) : List (Int × Int) := (List.range i).map fun j => ((0 : Int), ((j : Nat) : Int))
theorem sum0_length (i : Nat) : (sum0 i).length = i := by simp [sum0]
theorem sum0_succ (i : Nat) : sum0 (i + 1) = sum0 i ++ [((0 : Int), ((i : Nat) : Int))] := by simp [sum0, List.range_succ]
def m1St (N : Nat) (Y : List AV) (w : Nat) (O Hv ns : List AV) (i : Nat) (J : Env) : St := ⟨(6, .ptr 1 0) :: (10, .ptr 2 0) :: (11, .own 2 ns) :: (12, .own 2 (prs2 (sum0 i))) :: (66, .int .i64 w) :: (67, .int .i64 i) :: J, mkH N Y w O Hv⟩
section
attribute [local simp] codeL_seq codeL_reg codeL_blk codeL_skip codeL_ret codeL_exit codeL_cnd condL_b thenL_n thenL_e thenL_r blkL_n blkL_e blkL_r regL_s opsB stepB opB opP opnd opnds lend lendC get_nil' get_cons' put_nil' put_cons' mem_nil' mem_cons' putdB putB slowP hasOwn hasOwnL finO relab anyB anyE anyH anyR borOf borL inSlot HAND endR hasOwnE endK keepIn trim noPtr noPtrL noPtrE noPtrH binA arith unA eqB isNilB eqc lenB bndB bnd rdN rdc AV.cells fillB peek ldOK AV.leaf allLeaf fz pl plL drawB allCW cwF okDrawB okPair Fq.ok dstOff wrOff notSlot noneIn apartR oldBoxes O.reads Kd.reads E.slot slots slotO slotsP List.getD pairIn nilL okRes clean cleanL resV resVs tupOf mkEnv partsBor doCallB inpB getArgs doCallO frzA frzV frzL minA minF cont ownAt at_ setAt rel dropS relC dropAll frzP frzAll firstBor borIn borC borS borE borH handTo mapSt mapE mapH mapB mapBL sw rt fb mvB mvRt seesP inRt isRoot rootOf boxOf seesB rootsL Am.rep ovw flatCells_ints allLeaf_ints flatCells el grp updE isNilB inpV inpL stB okL unA orcA bndB plL_ints fzL stBox inCells wrap0 wrap1 wrapm1 take_snoc BIGB marks boxZ ldLab cellOf cellN CELLM boxIn isCell apartC frzR frzRL frzS frzC frzCL
theorem m1_loop (N : Nat) (Y : List AV) (w : Nat) (hw8 : w ≤ 64) (O Hv ns : List AV) : ∀ (k i : Nat), i + k = w → codeL cfgS 0 (.loop lPartitionMakeX1) (m1St N Y w O Hv ns i []) = some (.exit 2, m1St N Y w O Hv ns w [(68, .bool false)])
  | 0, i, hi => by
    obtain rfl : i = w := by omega
    refine loop_exit ?_
    unfold m1St lPartitionMakeX1 mkH
    generalize prs2 (sum0 i) = L at *
    simp [rPartitionMakeX0, rPartitionMakeX1, rPartitionMakeX2, rPartitionMakeX3, rPartitionMakeX4, rPartitionMakeX5, rPartitionMakeX6, rPartitionMakeX7, rPartitionMakeX8, rPartitionMakeX9, rPartitionMakeX10, rPartitionMakeX11, rPartitionMakeX12, rPartitionMakeX13, rPartitionMakeX14, rPartitionMakeX15, rPartitionMakeX16, rPartitionMakeX17, rPartitionMakeX18, rPartitionMakeX19, rPartitionMakeX20, rPartitionMakeX21, rPartitionMakeX22, rPartitionMakeX23, rPartitionMakeX24, rPartitionMakeX25, rPartitionMakeX26, rPartitionMakeX27, rPartitionMakeX28, rPartitionMakeX29, rPartitionMakeX30, rPartitionMakeX31, rPartitionMakeX32, rPartitionMakeX33]
  | k + 1, i, hi => by
    have hlt : i < w := by omega
    refine (loop_next ?_).trans (m1_loop N Y w hw8 O Hv ns k (i + 1) (by omega))
    have k1 : (i : Int) < w := by omega
    have hw := wrapS (i := i) (by omega)
    have hL : i + 1 ≤ 4294967296 := by omega
    have g5 : (prs2 (sum0 i)).length = i := by rw [prs2, List.length_map, sum0_length]
    have sn : prs2 (sum0 i) ++ [.agg [.int .i64 0, .int .i64 i]] = prs2 (sum0 (i + 1)) := by rw [sum0_succ]; simp [prs2, pr2]
    have tk : (prs2 (sum0 (i + 1))).take (i + 1) = prs2 (sum0 (i + 1)) := List.take_of_length_le (by rw [prs2, List.length_map, sum0_length]; omega)
    have tko : (prs2 (sum0 i)).take i = prs2 (sum0 i) := List.take_of_length_le (by omega)
    unfold m1St lPartitionMakeX1 mkH
    generalize prs2 (sum0 (i + 1)) = L2 at *
    generalize prs2 (sum0 i) = L at *
    simp [rPartitionMakeX0, rPartitionMakeX1, rPartitionMakeX2, rPartitionMakeX3, rPartitionMakeX4, rPartitionMakeX5, rPartitionMakeX6, rPartitionMakeX7, rPartitionMakeX8, rPartitionMakeX9, rPartitionMakeX10, rPartitionMakeX11, rPartitionMakeX12, rPartitionMakeX13, rPartitionMakeX14, rPartitionMakeX15, rPartitionMakeX16, rPartitionMakeX17, rPartitionMakeX18, rPartitionMakeX19, rPartitionMakeX20, rPartitionMakeX21, rPartitionMakeX22, rPartitionMakeX23, rPartitionMakeX24, rPartitionMakeX25, rPartitionMakeX26, rPartitionMakeX27, rPartitionMakeX28, rPartitionMakeX29, rPartitionMakeX30, rPartitionMakeX31, rPartitionMakeX32, rPartitionMakeX33, k1, hlt, hw, hL, g5, sn, tk, tko, LIM, blk, plp, plpL, allB, notBox, swC, swS, seesC, inBox]
end
end Go.BmP
