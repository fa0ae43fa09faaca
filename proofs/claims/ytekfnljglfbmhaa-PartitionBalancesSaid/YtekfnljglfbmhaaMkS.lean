/- partition.Make: all sums that equal the least one grow. -/
import Derived.Test.YtekfnljglfbmhaaMkR
set_option linter.unusedSimpArgs false
set_option linter.unusedVariables false
set_option maxRecDepth 100000
set_option maxHeartbeats 4000000
namespace Go.BmP
open Go.Am Go.Bm
def upS (x m : Int × Int) (s : List (Int × Int)) : List (Int × Int) := s.map fun y => if y = m then (y.1 + x.1, y.2) else y
theorem upS_length (x m : Int × Int) (s : List (Int × Int)) : (upS x m s).length = s.length := List.length_map _
theorem grw_mid (x m : Int × Int) (A : List (Int × Int)) (y : Int × Int) (R : List (Int × Int)) : grw x m (A ++ y :: R) A.length y = A ++ (if y = m then (y.1 + x.1, y.2) else y) :: R := by
  unfold grw
  split
  · rw [List.set_append_right _ _ (Nat.le_refl _), Nat.sub_self]; rfl
  · rfl
section
attribute [local simp] codeL_seq codeL_reg codeL_blk codeL_skip codeL_ret codeL_exit codeL_cnd condL_b thenL_n thenL_e thenL_r blkL_n blkL_e blkL_r regL_s opsB stepB opB opP opnd opnds lend lendC get_nil' get_cons' put_nil' put_cons' mem_nil' mem_cons' putdB putB slowP hasOwn hasOwnL finO relab anyB anyE anyH anyR borOf borL inSlot HAND endR hasOwnE endK keepIn trim noPtr noPtrL noPtrE noPtrH binA arith unA eqB isNilB eqc lenB bndB bnd rdN rdc AV.cells fillB peek ldOK AV.leaf allLeaf fz pl plL drawB allCW cwF okDrawB okPair Fq.ok dstOff wrOff notSlot noneIn apartR oldBoxes O.reads Kd.reads E.slot slots slotO slotsP List.getD pairIn nilL okRes clean cleanL resV resVs tupOf mkEnv partsBor doCallB inpB getArgs doCallO frzA frzV frzL minA minF cont ownAt at_ setAt rel dropS relC dropAll frzP frzAll firstBor borIn borC borS borE borH handTo mapSt mapE mapH mapB mapBL sw rt fb mvB mvRt seesP inRt isRoot rootOf boxOf seesB rootsL Am.rep ovw flatCells_ints allLeaf_ints flatCells el grp updE isNilB inpV inpL stB okL unA orcA bndB plL_ints fzL stBox inCells wrap0 wrap1 wrapm1 take_snoc BIGB marks boxZ ldLab cellOf cellN CELLM boxIn isCell apartC frzR frzRL frzS frzC frzCL
theorem m2_loop (N : Nat) (Y : List AV) (w : Nat) (O Hv ns : List AV) (j : Nat) (x m : Int × Int) (hx : 0 ≤ x.1 ∧ x.1 < 1000000000) (hm : 0 ≤ m.1 ∧ m.1 < 1000000000) : ∀ (R A : List (Int × Int)), (A ++ R).length < 1000000 →
    codeL cfgS 0 (.loop lPartitionMakeX2) (m2St N Y w O Hv ns j x m (A ++ R) A.length []) = some (.exit 6, m2St N Y w O Hv ns j x m (A ++ upS x m R) (A ++ R).length [(89, .bool false)])
  | [], A, hl => by
    rw [show upS x m [] = [] from rfl, List.append_nil]
    have g5 : (prs2 A).length = A.length := List.length_map _
    refine loop_exit ?_
    unfold m2St lPartitionMakeX2 mkH
    generalize prs2 A = L at *
    simp [rPartitionMakeX0, rPartitionMakeX1, rPartitionMakeX2, rPartitionMakeX3, rPartitionMakeX4, rPartitionMakeX5, rPartitionMakeX6, rPartitionMakeX7, rPartitionMakeX8, rPartitionMakeX9, rPartitionMakeX10, rPartitionMakeX11, rPartitionMakeX12, rPartitionMakeX13, rPartitionMakeX14, rPartitionMakeX15, rPartitionMakeX16, rPartitionMakeX17, rPartitionMakeX18, rPartitionMakeX19, rPartitionMakeX20, rPartitionMakeX21, rPartitionMakeX22, rPartitionMakeX23, rPartitionMakeX24, rPartitionMakeX25, rPartitionMakeX26, rPartitionMakeX27, rPartitionMakeX28, rPartitionMakeX29, rPartitionMakeX30, rPartitionMakeX31, rPartitionMakeX32, rPartitionMakeX33, g5]
  | y :: R, A, hl => by
    have hlt : A.length < (A ++ y :: R).length := by simp
    have r := m2_round N Y w O Hv ns j x m (A ++ y :: R) hl A.length hlt hx hm
    have e : (A ++ y :: R)[A.length] = y := by simp
    rw [e, grw_mid] at r
    have ih := m2_loop N Y w O Hv ns j x m hx hm R (A ++ [if y = m then (y.1 + x.1, y.2) else y]) (by simp at hl ⊢; omega)
    have e2 : (A ++ [if y = m then (y.1 + x.1, y.2) else y]).length = A.length + 1 := by simp
    have e3 : (A ++ [if y = m then (y.1 + x.1, y.2) else y] ++ R).length = (A ++ y :: R).length := by simp
    have e4 : A ++ [if y = m then (y.1 + x.1, y.2) else y] ++ upS x m R = A ++ upS x m (y :: R) := by simp [upS]
    have e5 : A ++ [if y = m then (y.1 + x.1, y.2) else y] ++ R = A ++ (if y = m then (y.1 + x.1, y.2) else y) :: R := by simp
    rw [e3, e4, e2, e5] at ih
    exact (loop_next r).trans ih
end
end Go.BmP
