/- partition.Make: the loop that lays the nodes and the heavy ones. -/
import Derived.Test.YtekfnljglfbmhaaMkP
set_option linter.unusedSimpArgs false
set_option linter.unusedVariables false
set_option maxRecDepth 100000
set_option maxHeartbeats 4000000
namespace Go.BmP
open Go.Am Go.Bm
def nd (D : List Int) (i : Nat) : List (Int × Int) := (List.range i).map fun v => (D.getD v 0, ((v : Nat) : Int))
theorem nd_length (D : List Int) (i : Nat) : (nd D i).length = i := by simp [nd]
theorem nd_succ (D : List Int) (i : Nat) : nd D (i + 1) = nd D i ++ [(D.getD i 0, ((i : Nat) : Int))] := by simp [nd, List.range_succ]
/-- The heavy nodes. -/
def hvL (D : List Int) (h : Int) (i : Nat) : List Int := ((List.range i).filter fun v => decide (h ≤ D.getD v 0)).map fun v => ((v : Nat) : Int)
theorem hvL_length (D : List Int) (h : Int) (i : Nat) : (hvL D h i).length ≤ i := by
  unfold hvL
  rw [List.length_map]
  exact Nat.le_trans (List.length_filter_le _ _) (by simp)
theorem hvL_succ (D : List Int) (h : Int) (i : Nat) : hvL D h (i + 1) = if h ≤ D.getD i 0 then hvL D h i ++ [((i : Nat) : Int)] else hvL D h i := by
  unfold hvL
  rw [List.range_succ, List.filter_append, List.map_append]
  by_cases k : h ≤ D.getD i 0
  · have e : List.filter (fun v => decide (h ≤ D.getD v 0)) [i] = [i] := List.filter_cons_of_pos (by simpa using k)
    rw [if_pos k, e]; rfl
  · have e : List.filter (fun v => decide (h ≤ D.getD v 0)) [i] = [] := List.filter_cons_of_neg (by simpa using k)
    rw [if_neg k, e]; simp
def m0St (N : Nat) (Y : List AV) (w : Nat) (h : Int) (O : List AV) (D : List Int) (i : Nat) (J : Env) : St := ⟨(1, .int .i64 w) :: (2, .int .i64 h) :: (6, .ptr 1 0) :: (10, .ptr 2 0) :: (11, .own 2 (prs2 (nd D i))) :: (12, .own 2 []) :: (43, .list 1 (ints D)) :: (44, .int .i64 D.length) :: (45, .int .i64 i) :: J, mkH N Y w O (ints (hvL D h i))⟩
section
attribute [local simp] codeL_seq codeL_reg codeL_blk codeL_skip codeL_ret codeL_exit codeL_cnd condL_b thenL_n thenL_e thenL_r blkL_n blkL_e blkL_r regL_s opsB stepB opB opP opnd opnds lend lendC get_nil' get_cons' put_nil' put_cons' mem_nil' mem_cons' putdB putB slowP hasOwn hasOwnL finO relab anyB anyE anyH anyR borOf borL inSlot HAND endR hasOwnE endK keepIn trim noPtr noPtrL noPtrE noPtrH binA arith unA eqB isNilB eqc lenB bndB bnd rdN rdc AV.cells fillB peek ldOK AV.leaf allLeaf fz pl plL drawB allCW cwF okDrawB okPair Fq.ok dstOff wrOff notSlot noneIn apartR oldBoxes O.reads Kd.reads E.slot slots slotO slotsP List.getD pairIn nilL okRes clean cleanL resV resVs tupOf mkEnv partsBor doCallB inpB getArgs doCallO frzA frzV frzL minA minF cont ownAt at_ setAt rel dropS relC dropAll frzP frzAll firstBor borIn borC borS borE borH handTo mapSt mapE mapH mapB mapBL sw rt fb mvB mvRt seesP inRt isRoot rootOf boxOf seesB rootsL Am.rep ovw flatCells_ints allLeaf_ints flatCells el grp updE isNilB inpV inpL stB okL unA orcA bndB plL_ints fzL stBox inCells wrap0 wrap1 wrapm1 take_snoc BIGB marks boxZ ldLab cellOf cellN CELLM boxIn isCell apartC frzR frzRL frzS frzC frzCL
theorem m0_round (N : Nat) (Y : List AV) (w : Nat) (h : Int) (O : List AV) (D : List Int) (hD : D.length < 1000000) (i : Nat) (hlt : i < D.length) : codeL cfgS 0 lPartitionMakeX0 (m0St N Y w h O D i []) = some (.normal, m0St N Y w h O D (i + 1) []) := by
  have k1 : (i : Int) < D.length := by omega
  have hw := wrapS (i := i) (by omega)
  have hL : i + 1 ≤ 4294967296 := by omega
  have g3 : (ints D)[i]? = some (.int .i64 (D.getD i 0)) := by rw [ints_get, List.getElem?_eq_getElem hlt]; simp [List.getD_eq_getElem?_getD, List.getElem?_eq_getElem hlt]
  have g4 : ∀ h, (ints D)[i]'h = .int .i64 (D.getD i 0) := fun h => by
    have := List.getElem?_eq_getElem (l := ints D) h
    rw [g3] at this
    exact (Option.some.inj this).symm
  have gD := ints_length D
  have g5 : (prs2 (nd D i)).length = i := by rw [prs2, List.length_map, nd_length]
  have sn : prs2 (nd D i) ++ [.agg [.int .i64 (D.getD i 0), .int .i64 i]] = prs2 (nd D (i + 1)) := by rw [nd_succ]; simp [prs2, pr2]
  have tk : (prs2 (nd D (i + 1))).take (i + 1) = prs2 (nd D (i + 1)) := List.take_of_length_le (by rw [prs2, List.length_map, nd_length]; omega)
  have tko : (prs2 (nd D i)).take i = prs2 (nd D i) := List.take_of_length_le (by omega)
  have lh := hvL_length D h i
  have g6 : (ints (hvL D h i)).length = (hvL D h i).length := ints_length _
  have hL2 : (hvL D h i).length + 1 ≤ 4294967296 := by omega
  have es := hvL_succ D h i
  have sh : ints (hvL D h i) ++ [.int .i64 i] = ints (hvL D h i ++ [((i : Nat) : Int)]) := by simp [ints]
  have th : (ints (hvL D h i ++ [((i : Nat) : Int)])).take ((hvL D h i).length + 1) = ints (hvL D h i ++ [((i : Nat) : Int)]) := List.take_of_length_le (by rw [ints_length]; simp)
  have tho : (ints (hvL D h i)).take (hvL D h i).length = ints (hvL D h i) := List.take_of_length_le (by rw [ints_length]; omega)
  unfold m0St
  rw [es]
  clear es
  generalize D.getD i 0 = d at *
  unfold lPartitionMakeX0 mkH
  by_cases c : h ≤ d
  · rw [if_pos c]
    generalize ints (hvL D h i ++ [((i : Nat) : Int)]) = H2 at *
    generalize ints (hvL D h i) = Hv at *
    generalize prs2 (nd D (i + 1)) = L2 at *
    generalize prs2 (nd D i) = L at *
    generalize ints D = DD at *
    simp [rPartitionMakeX0, rPartitionMakeX1, rPartitionMakeX2, rPartitionMakeX3, rPartitionMakeX4, rPartitionMakeX5, rPartitionMakeX6, rPartitionMakeX7, rPartitionMakeX8, rPartitionMakeX9, rPartitionMakeX10, rPartitionMakeX11, rPartitionMakeX12, rPartitionMakeX13, rPartitionMakeX14, rPartitionMakeX15, rPartitionMakeX16, rPartitionMakeX17, rPartitionMakeX18, rPartitionMakeX19, rPartitionMakeX20, rPartitionMakeX21, rPartitionMakeX22, rPartitionMakeX23, rPartitionMakeX24, rPartitionMakeX25, rPartitionMakeX26, rPartitionMakeX27, rPartitionMakeX28, rPartitionMakeX29, rPartitionMakeX30, rPartitionMakeX31, rPartitionMakeX32, rPartitionMakeX33, k1, hlt, hw, hL, g3, g4, gD, g5, sn, tk, tko, g6, hL2, sh, th, tho, c, LIM, idx, blk, plp, plpL, allB, notBox, swC, swS, seesC, inBox]
  · rw [if_neg c]
    generalize ints (hvL D h i) = Hv at *
    generalize prs2 (nd D (i + 1)) = L2 at *
    generalize prs2 (nd D i) = L at *
    generalize ints D = DD at *
    simp [rPartitionMakeX0, rPartitionMakeX1, rPartitionMakeX2, rPartitionMakeX3, rPartitionMakeX4, rPartitionMakeX5, rPartitionMakeX6, rPartitionMakeX7, rPartitionMakeX8, rPartitionMakeX9, rPartitionMakeX10, rPartitionMakeX11, rPartitionMakeX12, rPartitionMakeX13, rPartitionMakeX14, rPartitionMakeX15, rPartitionMakeX16, rPartitionMakeX17, rPartitionMakeX18, rPartitionMakeX19, rPartitionMakeX20, rPartitionMakeX21, rPartitionMakeX22, rPartitionMakeX23, rPartitionMakeX24, rPartitionMakeX25, rPartitionMakeX26, rPartitionMakeX27, rPartitionMakeX28, rPartitionMakeX29, rPartitionMakeX30, rPartitionMakeX31, rPartitionMakeX32, rPartitionMakeX33, k1, hlt, hw, hL, g3, g4, gD, g5, sn, tk, tko, g6, hL2, tho, c, LIM, idx, blk, plp, plpL, allB, notBox, swC, swS, seesC, inBox]
theorem m0_loop (N : Nat) (Y : List AV) (w : Nat) (h : Int) (O : List AV) (D : List Int) (hD : D.length < 1000000) : ∀ (k i : Nat), i + k = D.length → codeL cfgS 0 (.loop lPartitionMakeX0) (m0St N Y w h O D i []) = some (.exit 0, m0St N Y w h O D D.length [(46, .bool false)])
  | 0, i, hi => by
    obtain rfl : i = D.length := by omega
    refine loop_exit ?_
    unfold m0St lPartitionMakeX0 mkH
    generalize prs2 (nd D D.length) = L at *
    generalize ints (hvL D h D.length) = Hv at *
    generalize ints D = DD at *
    simp [rPartitionMakeX0, rPartitionMakeX1, rPartitionMakeX2, rPartitionMakeX3, rPartitionMakeX4, rPartitionMakeX5, rPartitionMakeX6, rPartitionMakeX7, rPartitionMakeX8, rPartitionMakeX9, rPartitionMakeX10, rPartitionMakeX11, rPartitionMakeX12, rPartitionMakeX13, rPartitionMakeX14, rPartitionMakeX15, rPartitionMakeX16, rPartitionMakeX17, rPartitionMakeX18, rPartitionMakeX19, rPartitionMakeX20, rPartitionMakeX21, rPartitionMakeX22, rPartitionMakeX23, rPartitionMakeX24, rPartitionMakeX25, rPartitionMakeX26, rPartitionMakeX27, rPartitionMakeX28, rPartitionMakeX29, rPartitionMakeX30, rPartitionMakeX31, rPartitionMakeX32, rPartitionMakeX33]
  | k + 1, i, hi => (loop_next (m0_round N Y w h O D hD i (by omega))).trans (m0_loop N Y w h O D hD k (i + 1) (by omega))
end
end Go.BmP
