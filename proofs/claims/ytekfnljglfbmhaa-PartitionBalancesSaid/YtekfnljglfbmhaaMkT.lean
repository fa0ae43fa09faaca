/- partition.Make: one node goes to the least worker. -/
import Derived.Test.YtekfnljglfbmhaaMkS
set_option linter.unusedSimpArgs false
set_option linter.unusedVariables false
set_option maxRecDepth 100000
set_option maxHeartbeats 4000000
namespace Go.BmP
open Go.Am Go.Bm
def m3St (N : Nat) (Y : List AV) (w : Nat) (o : List Int) (Hv : List AV) (ns : List (Int × Int)) (s : List (Int × Int)) (j : Nat) (J : Env) : St := ⟨(6, .ptr 1 0) :: (10, .ptr 2 0) :: (12, .own 2 (prs2 s)) :: (78, .own 2 (prs2 ns)) :: (79, .int .i64 ns.length) :: (80, .int .i64 j) :: J, mkH N Y w (ints o) Hv⟩
section
attribute [local simp] codeL_seq codeL_reg codeL_blk codeL_skip codeL_ret codeL_exit codeL_cnd condL_b thenL_n thenL_e thenL_r blkL_n blkL_e blkL_r regL_s opsB stepB opB opP opnd opnds lend lendC get_nil' get_cons' put_nil' put_cons' mem_nil' mem_cons' putdB putB slowP hasOwn hasOwnL finO relab anyB anyE anyH anyR borOf borL inSlot HAND endR hasOwnE endK keepIn trim noPtr noPtrL noPtrE noPtrH binA arith unA eqB isNilB eqc lenB bndB bnd rdN rdc AV.cells fillB peek ldOK AV.leaf allLeaf fz pl plL drawB allCW cwF okDrawB okPair Fq.ok dstOff wrOff notSlot noneIn apartR oldBoxes O.reads Kd.reads E.slot slots slotO slotsP List.getD pairIn nilL okRes clean cleanL resV resVs tupOf mkEnv partsBor doCallB inpB getArgs doCallO frzA frzV frzL minA minF cont ownAt at_ setAt rel dropS relC dropAll frzP frzAll firstBor borIn borC borS borE borH handTo mapSt mapE mapH mapB mapBL sw rt fb mvB mvRt seesP inRt isRoot rootOf boxOf seesB rootsL Am.rep ovw flatCells_ints allLeaf_ints flatCells el grp updE isNilB inpV inpL stB okL unA orcA bndB plL_ints fzL stBox inCells wrap0 wrap1 wrapm1 take_snoc BIGB marks boxZ ldLab cellOf cellN CELLM boxIn isCell apartC frzR frzRL frzS frzC frzCL
theorem m3_round (N : Nat) (Y : List AV) (w : Nat) (o : List Int) (Hv : List AV) (ns : List (Int × Int)) (hn : ns.length < 1000000) (z : Int × Int) (r : List (Int × Int)) (hr : r.length < 99999) (j : Nat) (hlt : j < ns.length) (x m : Int × Int) (ex : ns[j] = x) (em : r.foldl minStep z = m) (hx : 0 ≤ x.1 ∧ x.1 < 1000000000) (hm : 0 ≤ m.1 ∧ m.1 < 1000000000) (v : Nat) (ev : x.2 = v) (hv : v < o.length) :
    codeL cfgS 0 lPartitionMakeX3 (m3St N Y w o Hv ns (z :: r) j []) = some (.normal, m3St N Y w (o.set v m.2) Hv ns (upS x m (z :: r)) (j + 1) []) := by
  have k1 : (j : Int) < ns.length := by omega
  have kv : (v : Int) < o.length := by omega
  have hw := wrapS (i := j) (by omega)
  have g5 : (prs2 ns).length = ns.length := List.length_map _
  have g3 : (prs2 ns)[j]? = some (pr2 x) := by unfold prs2; rw [List.getElem?_map, List.getElem?_eq_getElem hlt, ex]; rfl
  have g4 : ∀ h, (prs2 ns)[j]'h = pr2 x := fun h => by
    have := List.getElem?_eq_getElem (l := prs2 ns) h
    rw [g3] at this
    exact (Option.some.inj this).symm
  have mn := min_run z r (by omega)
  rw [em] at mn
  have lp := m2_loop N Y w (ints o) Hv (prs2 ns) j x m hx hm (z :: r) [] (by simp; omega)
  rw [List.nil_append, List.nil_append, show ([] : List (Int × Int)).length = 0 from rfl] at lp
  have gs : (prs2 (z :: r)).length = (z :: r).length := List.length_map _
  have gu : (prs2 (upS x m (z :: r))).length = (z :: r).length := by rw [prs2, List.length_map, upS_length]
  have tkL : (prs2 (z :: r)).take (z :: r).length = prs2 (z :: r) := List.take_of_length_le (by omega)
  have go := ints_length o
  have so : (ints o).set v (.int .i64 m.2) = ints (o.set v m.2) := by simp [ints, List.map_set]
  unfold m2St mkH at lp
  rw [nat0, upS_length, g5] at lp
  obtain ⟨u, t⟩ := x
  simp only at ev
  subst ev
  obtain ⟨p, q⟩ := m
  unfold pr2 at g3 g4 mn
  simp only [List.cons_append, List.nil_append] at g3 g4 mn lp so
  unfold m3St lPartitionMakeX3 mkH
  generalize upS (u, (v : Int)) (p, q) (z :: r) = s2 at *
  generalize z :: r = s at *
  generalize prs2 s2 = L2 at *
  generalize prs2 s = L at *
  generalize prs2 ns = NS at *
  generalize ints (o.set v q) = O2 at *
  generalize ints o = O at *
  simp [rPartitionMakeX0, rPartitionMakeX1, rPartitionMakeX2, rPartitionMakeX3, rPartitionMakeX4, rPartitionMakeX5, rPartitionMakeX6, rPartitionMakeX7, rPartitionMakeX8, rPartitionMakeX9, rPartitionMakeX10, rPartitionMakeX11, rPartitionMakeX12, rPartitionMakeX13, rPartitionMakeX14, rPartitionMakeX15, rPartitionMakeX16, rPartitionMakeX17, rPartitionMakeX18, rPartitionMakeX19, rPartitionMakeX20, rPartitionMakeX21, rPartitionMakeX22, rPartitionMakeX23, rPartitionMakeX24, rPartitionMakeX25, rPartitionMakeX26, rPartitionMakeX27, rPartitionMakeX28, rPartitionMakeX29, rPartitionMakeX30, rPartitionMakeX31, rPartitionMakeX32, rPartitionMakeX33, k1, hlt, hw, kv, hv, g3, g4, g5, gs, gu, go, so, tkL, mn, lp, idx, blk, sSlicesMinFuncPartitionPartPartitionPart, iSlicesMinFuncPartitionPartPartitionPart, plp, plpL, allB, notBox, swC, swS, seesC, inBox]
end
end Go.BmP
