/- partition.Make: the sum of the least worker grows. -/
import Derived.Test.YtekfnljglfbmhaaMkQ
set_option linter.unusedSimpArgs false
set_option linter.unusedVariables false
set_option maxRecDepth 100000
set_option maxHeartbeats 4000000
namespace Go.BmP
open Go.Am Go.Bm
def m2St (N : Nat) (Y : List AV) (w : Nat) (O Hv ns : List AV) (j : Nat) (x m : Int × Int) (s : List (Int × Int)) (i : Nat) (J : Env) : St := ⟨(6, .ptr 1 0) :: (10, .ptr 2 0) :: (12, .own 2 (prs2 s)) :: (17, .ptr 3 0) :: (18, .ptr 4 0) :: (78, .own 2 ns) :: (79, .int .i64 ns.length) :: (80, .int .i64 j) :: (86, .bor 2 (.s 12) 0 s.length) :: (87, .int .i64 s.length) :: (88, .int .i64 i) :: J, mkH N Y w O Hv ++ [some [.int .i64 x.1, .int .i64 x.2], some [.int .i64 m.1, .int .i64 m.2]]⟩
/-- The sum at place i grows, if it is the least one's. -/
def grw (x m : Int × Int) (s : List (Int × Int)) (i : Nat) (y : Int × Int) : List (Int × Int) := if y = m then s.set i (y.1 + x.1, y.2) else s
section
attribute [local simp] codeL_seq codeL_reg codeL_blk codeL_skip codeL_ret codeL_exit codeL_cnd condL_b thenL_n thenL_e thenL_r blkL_n blkL_e blkL_r regL_s opsB stepB opB opP opnd opnds lend lendC get_nil' get_cons' put_nil' put_cons' mem_nil' mem_cons' putdB putB slowP hasOwn hasOwnL finO relab anyB anyE anyH anyR borOf borL inSlot HAND endR hasOwnE endK keepIn trim noPtr noPtrL noPtrE noPtrH binA arith unA eqB isNilB eqc lenB bndB bnd rdN rdc AV.cells fillB peek ldOK AV.leaf allLeaf fz pl plL drawB allCW cwF okDrawB okPair Fq.ok dstOff wrOff notSlot noneIn apartR oldBoxes O.reads Kd.reads E.slot slots slotO slotsP List.getD pairIn nilL okRes clean cleanL resV resVs tupOf mkEnv partsBor doCallB inpB getArgs doCallO frzA frzV frzL minA minF cont ownAt at_ setAt rel dropS relC dropAll frzP frzAll firstBor borIn borC borS borE borH handTo mapSt mapE mapH mapB mapBL sw rt fb mvB mvRt seesP inRt isRoot rootOf boxOf seesB rootsL Am.rep ovw flatCells_ints allLeaf_ints flatCells el grp updE isNilB inpV inpL stB okL unA orcA bndB plL_ints fzL stBox inCells wrap0 wrap1 wrapm1 take_snoc BIGB marks boxZ ldLab cellOf cellN CELLM boxIn isCell apartC frzR frzRL frzS frzC frzCL
theorem m2_round (N : Nat) (Y : List AV) (w : Nat) (O Hv ns : List AV) (j : Nat) (x m : Int × Int) (s : List (Int × Int)) (hs : s.length < 1000000) (i : Nat) (hlt : i < s.length) (hx : 0 ≤ x.1 ∧ x.1 < 1000000000) (hm : 0 ≤ m.1 ∧ m.1 < 1000000000) : codeL cfgS 0 lPartitionMakeX2 (m2St N Y w O Hv ns j x m s i []) = some (.normal, m2St N Y w O Hv ns j x m (grw x m s i s[i]) (i + 1) []) := by
  have k1 : (i : Int) < s.length := by omega
  have hw := wrapS (i := i) (by omega)
  have g5 : (prs2 s).length = s.length := List.length_map _
  have g3 : (prs2 s)[i]? = some (pr2 s[i]) := by unfold prs2; rw [List.getElem?_map, List.getElem?_eq_getElem hlt]; rfl
  have g4 : ∀ h, (prs2 s)[i]'h = pr2 s[i] := fun h => by
    have := List.getElem?_eq_getElem (l := prs2 s) h
    rw [g3] at this
    exact (Option.some.inj this).symm
  have tk : (prs2 s).take s.length = prs2 s := List.take_of_length_le (by omega)
  generalize s[i] = y at *
  have b1 : (prs2 s).set i (pr2 (y.1 + x.1, y.2)) = prs2 (s.set i (y.1 + x.1, y.2)) := by simp [prs2, List.map_set]
  have ls : (s.set i (y.1 + x.1, y.2)).length = s.length := List.length_set
  unfold grw
  by_cases e : y = m
  · rw [if_pos e]
    subst e
    have q1 : IntKind.i64.wrap (y.1 + x.1) = y.1 + x.1 := wrap_id (by omega) (by omega)
    unfold m2St lPartitionMakeX2 mkH
    rw [ls]
    obtain ⟨a, b⟩ := y
    obtain ⟨u, v⟩ := x
    unfold pr2 at g3 g4 b1
    simp only at g3 g4 b1 q1 ⊢
    generalize prs2 (s.set i (a + u, b)) = L2 at *
    generalize prs2 s = L at *
    generalize s.length = n at *
    simp [rPartitionMakeX0, rPartitionMakeX1, rPartitionMakeX2, rPartitionMakeX3, rPartitionMakeX4, rPartitionMakeX5, rPartitionMakeX6, rPartitionMakeX7, rPartitionMakeX8, rPartitionMakeX9, rPartitionMakeX10, rPartitionMakeX11, rPartitionMakeX12, rPartitionMakeX13, rPartitionMakeX14, rPartitionMakeX15, rPartitionMakeX16, rPartitionMakeX17, rPartitionMakeX18, rPartitionMakeX19, rPartitionMakeX20, rPartitionMakeX21, rPartitionMakeX22, rPartitionMakeX23, rPartitionMakeX24, rPartitionMakeX25, rPartitionMakeX26, rPartitionMakeX27, rPartitionMakeX28, rPartitionMakeX29, rPartitionMakeX30, rPartitionMakeX31, rPartitionMakeX32, rPartitionMakeX33, k1, hlt, hw, g3, g4, g5, tk, b1, q1, eqA, eqc, idx, blk, plp, plpL, allB, notBox, swC, swS, seesC, inBox]
  · rw [if_neg e]
    obtain ⟨a, b⟩ := y
    obtain ⟨p, q⟩ := m
    obtain ⟨u, v⟩ := x
    unfold pr2 at g3 g4
    try simp only at g3 g4
    have be : ¬ (a = p ∧ b = q) := fun h => e (Prod.ext h.1 h.2)
    have be2 : a = p → ¬ b = q := fun h h2 => e (Prod.ext h h2)
    unfold m2St lPartitionMakeX2 mkH
    clear b1 ls e
    generalize prs2 s = L at *
    generalize s.length = n at *
    simp [rPartitionMakeX0, rPartitionMakeX1, rPartitionMakeX2, rPartitionMakeX3, rPartitionMakeX4, rPartitionMakeX5, rPartitionMakeX6, rPartitionMakeX7, rPartitionMakeX8, rPartitionMakeX9, rPartitionMakeX10, rPartitionMakeX11, rPartitionMakeX12, rPartitionMakeX13, rPartitionMakeX14, rPartitionMakeX15, rPartitionMakeX16, rPartitionMakeX17, rPartitionMakeX18, rPartitionMakeX19, rPartitionMakeX20, rPartitionMakeX21, rPartitionMakeX22, rPartitionMakeX23, rPartitionMakeX24, rPartitionMakeX25, rPartitionMakeX26, rPartitionMakeX27, rPartitionMakeX28, rPartitionMakeX29, rPartitionMakeX30, rPartitionMakeX31, rPartitionMakeX32, rPartitionMakeX33, k1, hlt, hw, g3, g4, g5, tk, be, be2, eqA, eqc, idx, blk, plp, plpL, allB, notBox, swC, swS, seesC, inBox]
end
end Go.BmP
