/- The law of names: each node is in as many triangles. -/
import Derived.Test.YtahcjjgkefjhbaaT09
import Derived.Test.YtahcjjgkefjhbaaT05
import Derived.Test.YtahcjjgkefjhbaaL01
set_option linter.unusedSimpArgs false
set_option linter.unusedVariables false
set_option maxRecDepth 100000
set_option maxHeartbeats 4000000
namespace Go.BmP
open Go.Am Go.Bm
theorem awake29n : callL cfgS nLaw29Awake [] [] = some (.bool true, []) := callL_iff.2 ⟨3000, by kernel_rfl⟩
def gN (N : Nat) (Es : List Ed) : Blk := some [.int .i64 N, .list 2 (eds Es)]
theorem rest_gN (N M : Nat) (E F : List Ed) : Rest [gN N E, gN M F] := ⟨fun _ => rfl, rfl, fun _ _ => rfl, fun _ => rfl, fun _ _ => rfl⟩
def naSt (nm A B : List Int) (x y z : Int) (n i : Nat) (J : Env) : St := ⟨(6, .list 1 (ints nm)) :: (7, .list 1 (ints A)) :: (9, .list 1 (ints B)) :: (11, .int .i64 x) :: (13, .int .i64 y) :: (15, .int .i64 z) :: (94, .int .i64 n) :: (95, .int .i64 i) :: J, []⟩
section
attribute [local simp] codeL_seq codeL_reg codeL_blk codeL_skip codeL_ret codeL_exit codeL_cnd condL_b thenL_n thenL_e thenL_r blkL_n blkL_e blkL_r regL_s opsB stepB opB opP opnd opnds lend lendC get_nil' get_cons' put_nil' put_cons' mem_nil' mem_cons' putdB putB slowP hasOwn hasOwnL finO relab anyB anyE anyH anyR borOf borL inSlot HAND endR hasOwnE endK keepIn trim noPtr noPtrL noPtrE noPtrH binA arith unA eqB isNilB eqc lenB bndB bnd rdN rdc AV.cells fillB peek ldOK AV.leaf allLeaf fz pl plL drawB allCW cwF okDrawB okPair Fq.ok dstOff wrOff notSlot noneIn apartR oldBoxes O.reads Kd.reads E.slot slots slotO slotsP List.getD pairIn nilL okRes clean cleanL resV resVs tupOf mkEnv partsBor doCallB inpB getArgs doCallO frzA frzV frzL minA minF cont ownAt at_ setAt rel dropS relC dropAll frzP frzAll firstBor borIn borC borS borE borH handTo mapSt mapE mapH mapB mapBL sw rt fb mvB mvRt seesP inRt isRoot rootOf boxOf seesB rootsL Am.rep ovw flatCells_ints allLeaf_ints flatCells el grp updE isNilB inpV inpL stB okL unA orcA bndB plL_ints fzL stBox inCells wrap0 wrap1 wrapm1 take_snoc BIGB marks boxZ ldLab cellOf cellN CELLM boxIn isCell apartC frzR frzRL frzS frzC frzCL
theorem na_loop (nm A B : List Int) (x y z : Int) (n : Nat) (hn : n < 4294967295) (h1 : nm.length = n) (h2 : A.length = n) (h3 : B.length = n) (hb : ∀ i : Nat, i < n → 0 ≤ nmf nm i ∧ nmf nm i < (n : Int) ∧ B.getD (nmf nm i).toNat 0 = A.getD i 0) : ∀ (k i : Nat), i + k = n → codeL cfgS 0 (.loop lLaw29TrianglesNamesX0) (naSt nm A B x y z n i []) = some (.exit 0, naSt nm A B x y z n n [(96, .bool false)])
  | 0, i, hi => by
    obtain rfl : i = n := by omega
    refine loop_exit ?_
    unfold lLaw29TrianglesNamesX0 naSt
    simp [rLaw29TrianglesNamesX0, rLaw29TrianglesNamesX1, rLaw29TrianglesNamesX2, rLaw29TrianglesNamesX3, rLaw29TrianglesNamesX4, rLaw29TrianglesNamesX5, rLaw29TrianglesNamesX6, rLaw29TrianglesNamesX7, rLaw29TrianglesNamesX8, rLaw29TrianglesNamesX9, rLaw29TrianglesNamesX10, rLaw29TrianglesNamesX11, rLaw29TrianglesNamesX12, rLaw29TrianglesNamesX13, rLaw29TrianglesNamesX14, rLaw29TrianglesNamesX15, rLaw29TrianglesNamesX16, rLaw29TrianglesNamesX17, rLaw29TrianglesNamesX18, rLaw29TrianglesNamesX19, blk, eds_length, eds_get, edsAt, edAV, allLeaf_eds, cleanL_eds, cleanL_ints, ints_length, ints_get, intsAt, endL, finB]
  | k + 1, i, hi => by
    have hlt : i < n := by omega
    have ih := na_loop nm A B x y z n hn h1 h2 h3 hb k (i + 1) (by omega)
    refine (loop_next ?_).trans ih
    clear ih
    obtain ⟨b0, b1, b2⟩ := hb i hlt
    obtain ⟨w, ew⟩ : ∃ w : Nat, nmf nm i = w := ⟨(nmf nm i).toNat, by omega⟩
    have kw : w < n := by omega
    have k1 : (i : Int) < n := by omega
    have k2 : (w : Int) < n := by omega
    have hw := wrapS (i := i) (by omega)
    have at_ : ∀ (l : List Int) (j : Nat), j < l.length → (ints l)[j]? = some (.int .i64 (l.getD j 0)) := fun l j hj => by
      rw [ints_get, List.getD_eq_getElem?_getD, List.getElem?_eq_getElem hj]; rfl
    have g1 := at_ nm i (by omega)
    rw [show nm.getD i 0 = nmf nm i by unfold nmf; simp, ew] at g1
    have g2 := at_ A i (by omega)
    have g3 := at_ B w (by omega)
    rw [ew, show ((w : Int)).toNat = w by omega] at b2
    rw [b2] at g3
    have gg : ∀ (l : List Int) (j : Nat) (v : AV), (ints l)[j]? = some v → ∀ h, (ints l)[j]'h = v := fun l j v e h => by
      have := List.getElem?_eq_getElem (l := ints l) h
      rw [e] at this
      exact (Option.some.inj this).symm
    have g1' := gg _ _ _ g1
    have g2' := gg _ _ _ g2
    have g3' := gg _ _ _ g3
    have l1 : (ints nm).length = n := by rw [ints_length, h1]
    have l2 : (ints A).length = n := by rw [ints_length, h2]
    have l3 : (ints B).length = n := by rw [ints_length, h3]
    clear at_ gg b2 hb
    generalize A.getD i 0 = c at *
    unfold lLaw29TrianglesNamesX0 naSt
    generalize ints nm = W at *
    generalize ints A = WA at *
    generalize ints B = WB at *
    simp [rLaw29TrianglesNamesX0, rLaw29TrianglesNamesX1, rLaw29TrianglesNamesX2, rLaw29TrianglesNamesX3, rLaw29TrianglesNamesX4, rLaw29TrianglesNamesX5, rLaw29TrianglesNamesX6, rLaw29TrianglesNamesX7, rLaw29TrianglesNamesX8, rLaw29TrianglesNamesX9, rLaw29TrianglesNamesX10, rLaw29TrianglesNamesX11, rLaw29TrianglesNamesX12, rLaw29TrianglesNamesX13, rLaw29TrianglesNamesX14, rLaw29TrianglesNamesX15, rLaw29TrianglesNamesX16, rLaw29TrianglesNamesX17, rLaw29TrianglesNamesX18, rLaw29TrianglesNamesX19, k1, k2, kw, hlt, hw, g1, g2, g3, g1', g2', g3', l1, l2, l3, idx, blk, eds_length, eds_get, edsAt, edAV, allLeaf_eds, cleanL_eds, cleanL_ints, ints_length, ints_get, intsAt, endL, finB]
theorem trinames_run (l : List Int) : callL cfgS nLaw29TrianglesNames [.list 1 (ints l)] [] = some (.bool true, []) := by
  rw [callL_end oLaw29TrianglesNames sLaw29TrianglesNames (Nat.le_of_ble_eq_true rfl)]
  have aw := awake29n
  have few := few_run l
  by_cases hl : (l.length : Int) ≤ 500
  case neg =>
    unfold qLaw29TrianglesNames cLaw29TrianglesNames
    simp [rLaw29TrianglesNamesX0, rLaw29TrianglesNamesX1, rLaw29TrianglesNamesX2, rLaw29TrianglesNamesX3, rLaw29TrianglesNamesX4, rLaw29TrianglesNamesX5, rLaw29TrianglesNamesX6, rLaw29TrianglesNamesX7, rLaw29TrianglesNamesX8, rLaw29TrianglesNamesX9, rLaw29TrianglesNamesX10, rLaw29TrianglesNamesX11, rLaw29TrianglesNamesX12, rLaw29TrianglesNamesX13, rLaw29TrianglesNamesX14, rLaw29TrianglesNamesX15, rLaw29TrianglesNamesX16, rLaw29TrianglesNamesX17, rLaw29TrianglesNamesX18, rLaw29TrianglesNamesX19, few, hl, aw, sMakeFew, iMakeFew, sLaw29Awake, iLaw29Awake, blk, eds_length, eds_get, edsAt, edAV, allLeaf_eds, cleanL_eds, cleanL_ints, ints_length, ints_get, intsAt, endL, finB]
  have hl5 : l.length ≤ 500 := by omega
  have n1 := new_run l
  obtain ⟨N, Es, a1, n2, hG, hN, hEl⟩ := graph_run l hl5 8 (by omega) 0
  obtain ⟨M, Fs, a2, n3, hF, hM, hFl⟩ := graph_run l hl5 6 (by omega) a1
  obtain ⟨nm, a3, n4, hp⟩ := mkord_run l hl5 N (by omega) [gN N Es, gN M Fs] (rest_gN N M Es Fs) a2
  have nd1 := nodes_run hG (by omega)
  have rn := renamed_run hG (by omega) nm hp
  have hR := rnG_ok hG hp
  have rl : (rnG nm Es).length < 1000000 := by
    have := ofE_len (Es.map (rnE nm)) []
    unfold rnG
    simp at this
    omega
  have nd2 := nodes_run hR rl
  have c1 := count_run hG (by omega)
  have c2 := count_run hF (by omega)
  have bs := beside_run hG hF (by omega) (by omega) (by omega)
  have hB := bsE_ok hG hF (by omega)
  have bl : (bsE N Es Fs).length < 1000000 := by
    have := ofE_len (Es ++ Fs.map (shE N)) []
    unfold bsE
    simp at this
    omega
  have c3 := count_run hB bl
  rw [tri_quo hG] at c1
  rw [tri_quo hF] at c2
  rw [tri_quo hB, tri_bs hG hF] at c3
  have nl := nmf_len hp
  have lp := na_loop nm (triN N Es) (triN N (rnG nm Es)) (tri N Es) (tri M Fs) ((tri N Es + tri M Fs : Nat) : Int) N (by omega) nl (triN_length _ _) (triN_length _ _) (fun i hi => by
    have b := nmf_bd hp (i : Int) ⟨by omega, by omega⟩
    unfold inN at b
    refine ⟨b.1, b.2, ?_⟩
    rw [triN_get hR (by omega), triN_get hG hi, tn_rn hG hp hi]) N 0 (by omega)
  have b1 : ∀ (n : Nat) (E : List Ed), n ≤ 9 → tri n E ≤ 729 := fun n E hn => by
    unfold tri trip
    have z : ∀ u v w, ad E u v * ad E u w * ad E v w ≤ 1 := fun u v w => by
      unfold ad; split <;> split <;> split <;> omega
    have s1 : ∀ (f : Nat → Nat) (c n : Nat), (∀ i, i < n → f i ≤ c) → sm n f ≤ n * c := fun f c n => by
      induction n with
      | zero => intro _; simp [sm]
      | succ k ih =>
        intro h
        have := ih fun i hi => h i (by omega)
        have := h k (by omega)
        rw [sm, Nat.add_mul]; omega
    refine Nat.le_trans (s1 _ 81 n fun w hw => Nat.le_trans (s1 _ 9 w fun v hv => Nat.le_trans (s1 _ 1 v fun u hu => z u v w) (by omega)) (by omega)) (by omega)
  have bE := b1 N Es (by omega)
  have bF := b1 M Fs (by omega)
  have q1 : IntKind.i64.wrap ((tri N Es : Int) + (tri M Fs : Int)) = ((tri N Es + tri M Fs : Nat) : Int) := by rw [wrap_id (by omega) (by omega)]; omega
  have l2 : (ints (triN N Es)).length = N := by rw [ints_length, triN_length]
  have l3 : (ints (triN N (rnG nm Es))).length = N := by rw [ints_length, triN_length]
  unfold rnG at rn nd2 lp l3
  unfold naSt at lp
  rw [nat0] at lp
  unfold dk gN at n4
  unfold dk at n1 n2 n3
  simp only [nat0, show ((8 : Nat) : Int) = 8 from rfl, show ((6 : Nat) : Int) = 6 from rfl] at n1 n2 n3
  unfold qLaw29TrianglesNames cLaw29TrianglesNames
  generalize ofE (Es.map (rnE nm)) [] = Rs at *
  generalize ints (triN N Es) = tA at *
  generalize ints (triN N Rs) = tB at *
  generalize ((tri N Es + tri M Fs : Nat) : Int) = t3 at *
  generalize (tri N Es : Int) = t1 at *
  generalize (tri M Fs : Int) = t2 at *
  generalize bsE N Es Fs = Bs at *
  generalize ((N + M : Nat) : Int) = NM at *
  generalize eds Es = YE at *
  generalize eds Fs = YF at *
  generalize eds Rs = YR at *
  generalize eds Bs = YB at *
  generalize ints nm = W at *
  clear b1 hR hB hF hG
  simp [rLaw29TrianglesNamesX0, rLaw29TrianglesNamesX1, rLaw29TrianglesNamesX2, rLaw29TrianglesNamesX3, rLaw29TrianglesNamesX4, rLaw29TrianglesNamesX5, rLaw29TrianglesNamesX6, rLaw29TrianglesNamesX7, rLaw29TrianglesNamesX8, rLaw29TrianglesNamesX9, rLaw29TrianglesNamesX10, rLaw29TrianglesNamesX11, rLaw29TrianglesNamesX12, rLaw29TrianglesNamesX13, rLaw29TrianglesNamesX14, rLaw29TrianglesNamesX15, rLaw29TrianglesNamesX16, rLaw29TrianglesNamesX17, rLaw29TrianglesNamesX18, rLaw29TrianglesNamesX19, few, hl, n1, n2, n3, n4, nd1, nd2, rn, c1, c2, c3, bs, lp, q1, l2, l3, aw, sMakeFew, iMakeFew, sMakeNew, iMakeNew, sMakeGraph, iMakeGraph, sMakeOrder, iMakeOrder, sTrianglesCount, iTrianglesCount, sTrianglesNodes, iTrianglesNodes, sFieldRenamed, iFieldRenamed, sFieldBeside, iFieldBeside, sLaw29Awake, iLaw29Awake, plp, plpL, allB, notBox, swC, swS, seesC, inBox, relB, handBox, mvBB, mvRtB, offBoxes, offLab, calmB, ptrs, ptrsL, blkE, avE, avLE, blk, eds_length, eds_get, edsAt, edAV, allLeaf_eds, cleanL_eds, cleanL_ints, ints_length, ints_get, intsAt, endL, finB]
end
end Go.BmP
