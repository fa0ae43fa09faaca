/- The law of all triangles returns true. -/
import Derived.Test.YtahcjjgkefjhbaaT07
set_option linter.unusedSimpArgs false
set_option linter.unusedVariables false
set_option maxRecDepth 100000
set_option maxHeartbeats 4000000
namespace Go.BmP
open Go.Am Go.Bm
theorem ivr_ad {N : Nat} {Es o : List Ed} (hG : GOK (N : Int) Es) (hI : IVR N Es o N 0) (hO : GOK (N : Int) o) {u v : Nat} (hu : u < N) (hv : v < N) (n : u ≠ v) : ad Es u v + ad o u v = 1 := by
  have key : ∀ u v : Nat, u < v → v < N → ad Es u v + ad o u v = 1 := fun u v h hv => by
    rw [← inE_ad hG h, ← inE_ad hO h]
    unfold inE
    have := hI.2 u v (by omega) (by omega) (by omega) (.inl (by omega))
    by_cases k : ((u : Int), (v : Int)) ∈ Es
    · rw [if_pos k, if_neg fun q => this.1 q k]
    · rw [if_neg k, if_pos (this.2 k)]
  rcases Nat.lt_or_gt_of_ne n with h | h
  · exact key u v h hv
  · rw [ad_symm Es, ad_symm o]; exact key v u h hu
theorem sm_off (u : Nat) (n : Nat) : sm n (fun v => if v = u then 0 else 1) + (if u < n then 1 else 0) = n := by
  have h := sm_ind (fun _ => 1) u n
  have e : sm n (fun v => (if v = u then 0 else 1) + (if v = u then 1 else 0)) = n := by
    rw [sm_congr (g := fun _ => 1) fun v _ => by split <;> rfl, sm_one]
  rw [sm_add, h] at e
  exact e
theorem whole_law {N : Nat} {Es o : List Ed} (hG : GOK (N : Int) Es) (hI : IVR N Es o N 0) : GOK (N : Int) o ∧ (tri N Es : Int) + (tri N o : Int) = ((N : Int) * ((N : Int) - 1) * ((N : Int) - 2)) / 6 - ((sm N (mxN N Es) : Nat) : Int) / 2 := by
  have hO : GOK (N : Int) o := ⟨hG.1, hI.1.1, hI.1.2.1⟩
  refine ⟨hO, ?_⟩
  have hz : ∀ u v, ad Es u v * ad o u v = 0 := fun u v => by
    unfold ad
    by_cases k : jn Es u v
    · by_cases q : jn o u v
      · obtain ⟨h1, h2, h3⟩ := jn_bd hG k
        have := ivr_ad hG hI hO (u := u) (v := v) (by omega) (by omega) (by omega)
        unfold ad at this
        rw [if_pos k, if_pos q] at this
        omega
      · rw [if_neg q]; rfl
    · rw [if_neg k]; simp
  obtain ⟨m1, m2⟩ := mixed_two (ad Es) (ad o) (ad_symm Es) (ad_symm o) (ad_irr hG) (ad_irr hO) N (fun u v hu hv n => ivr_ad hG hI hO hu hv n) hz
  have c3 := trip_one N
  have mx : sm N (mxN N Es) = sm N fun u => (sm N fun v => ad Es u v) * (sm N fun w => ad o u w) := sm_congr fun u hu => by
    unfold mxN
    rw [nbr_count hG hu]
    congr 1
    have h1 : sm N (fun v => ad Es u v + ad o u v) = sm N fun v => if v = u then 0 else 1 := sm_congr fun v hv => by
      by_cases e : v = u
      · subst e; rw [ad_irr hG, ad_irr hO]; simp
      · rw [if_neg e]; exact ivr_ad hG hI hO hu hv fun q => e q.symm
    have h2 := sm_off u N
    rw [if_pos hu] at h2
    have h3 : (sm N fun v => ad Es u v) + (sm N fun w => ad o u w) = sm N fun v => if v = u then 0 else 1 := (sm_add _ _ _).symm.trans h1
    omega
  rw [← mx] at m2
  have m1' : tri N Es + tri N o + trip N (fun u v w => 1 - ad Es u v * ad Es u w * ad Es v w - ad o u v * ad o u w * ad o v w) = trip N (fun _ _ _ => 1) := m1
  generalize trip N (fun u v w => 1 - ad Es u v * ad Es u w * ad Es v w - ad o u v * ad o u w * ad o v w) = M at *
  have e6 : (N : Int) * ((N : Int) - 1) * ((N : Int) - 2) = 6 * (trip N (fun _ _ _ => 1) : Nat) := by
    have : ((6 * trip N (fun _ _ _ => 1) : Nat) : Int) = ((N * (N - 1) * (N - 2) : Nat) : Int) := by rw [c3]
    rw [Int.natCast_mul] at this
    refine Eq.trans ?_ this.symm
    rcases Nat.lt_or_ge N 2 with h | h
    · rcases (show N = 0 ∨ N = 1 by omega) with e | e <;> subst e <;> rfl
    · rw [Int.natCast_mul, Int.natCast_mul, show ((N - 1 : Nat) : Int) = (N : Int) - 1 by omega, show ((N - 2 : Nat) : Int) = (N : Int) - 2 by omega]
  rw [e6, m2]
  omega
section
attribute [local simp] codeL_seq codeL_reg codeL_blk codeL_skip codeL_ret codeL_exit codeL_cnd condL_b thenL_n thenL_e thenL_r blkL_n blkL_e blkL_r regL_s opsB stepB opB opP opnd opnds lend lendC get_nil' get_cons' put_nil' put_cons' mem_nil' mem_cons' putdB putB slowP hasOwn hasOwnL finO relab anyB anyE anyH anyR borOf borL inSlot HAND endR hasOwnE endK keepIn trim noPtr noPtrL noPtrE noPtrH binA arith unA eqB isNilB eqc lenB bndB bnd rdN rdc AV.cells fillB peek ldOK AV.leaf allLeaf fz pl plL drawB allCW cwF okDrawB okPair Fq.ok dstOff wrOff notSlot noneIn apartR oldBoxes O.reads Kd.reads E.slot slots slotO slotsP List.getD pairIn nilL okRes clean cleanL resV resVs tupOf mkEnv partsBor doCallB inpB getArgs doCallO frzA frzV frzL minA minF cont ownAt at_ setAt rel dropS relC dropAll frzP frzAll firstBor borIn borC borS borE borH handTo mapSt mapE mapH mapB mapBL sw rt fb mvB mvRt seesP inRt isRoot rootOf boxOf seesB rootsL Am.rep ovw flatCells_ints allLeaf_ints flatCells el grp updE isNilB inpV inpL stB okL unA orcA bndB plL_ints fzL stBox inCells wrap0 wrap1 wrapm1 take_snoc BIGB marks boxZ ldLab cellOf cellN CELLM boxIn isCell apartC frzR frzRL frzS frzC frzCL
theorem whole_run (l : List Int) : callL cfgS nLaw29TrianglesWhole [.list 1 (ints l)] [] = some (.bool true, []) := by
  rw [callL_end oLaw29TrianglesWhole sLaw29TrianglesWhole (Nat.le_of_ble_eq_true rfl)]
  have aw := awake29
  have few := few_run l
  by_cases hl : (l.length : Int) ≤ 500
  case neg =>
    unfold qLaw29TrianglesWhole cLaw29TrianglesWhole
    simp [rLaw29TrianglesWholeX0, rLaw29TrianglesWholeX1, rLaw29TrianglesWholeX2, rLaw29TrianglesWholeX3, rLaw29TrianglesWholeX4, rLaw29TrianglesWholeX5, rLaw29TrianglesWholeX6, rLaw29TrianglesWholeX7, rLaw29TrianglesWholeX8, rLaw29TrianglesWholeX9, rLaw29TrianglesWholeX10, rLaw29TrianglesWholeX11, rLaw29TrianglesWholeX12, rLaw29TrianglesWholeX13, rLaw29TrianglesWholeX14, rLaw29TrianglesWholeX15, rLaw29TrianglesWholeX16, rLaw29TrianglesWholeX17, rLaw29TrianglesWholeX18, rLaw29TrianglesWholeX19, few, hl, aw, sMakeFew, iMakeFew, sLaw29Awake, iLaw29Awake, blk, eds_length, eds_get, edsAt, edAV, allLeaf_eds, cleanL_eds, cleanL_ints, ints_length, ints_get, intsAt, endL, finB]
  have hl5 : l.length ≤ 500 := by omega
  have n1 := new_run l
  obtain ⟨N, Es, a1, n2, hG, hN, hEl⟩ := graph_run l hl5 9 (by omega) 0
  rw [show ((9 : Nat) : Int) = 9 from rfl] at n2
  have hI0 : IVR N Es [] 0 0 := ⟨⟨by simp [UpE], by simp, by simp, by simp⟩, fun a b h0 h1 h2 h3 => by omega⟩
  obtain ⟨o, lp, hI⟩ := w1_loop l a1 N Es hG (by omega) N 0 [] (by omega) hI0
  obtain ⟨hO, law⟩ := whole_law hG hI
  have ol : o.length ≤ 100000 := by have := hI.1.2.2.2; omega
  have c1 := count_run hG (by omega)
  have c2 := count_run hO (by omega)
  rw [tri_quo hG] at c1
  rw [tri_quo hO] at c2
  have b1 : ∀ E : List Ed, tri N E ≤ 729 := fun E => by
    unfold tri trip
    have z : ∀ u v w, ad E u v * ad E u w * ad E v w ≤ 1 := fun u v w => by
      unfold ad; split <;> split <;> split <;> omega
    have s1 : ∀ (f : Nat → Nat) (c n : Nat), (∀ i, i < n → f i ≤ c) → sm n f ≤ n * c := fun f c n => by
      induction n with
      | zero => intro _; simp [sm]
      | succ k ih =>
        intro h
        have := ih fun i hi => h i (by omega)
        have := h k (by omega)
        rw [sm, Nat.add_mul]; omega
    refine Nat.le_trans (s1 _ 81 N fun w hw => Nat.le_trans (s1 _ 9 w fun v hv => Nat.le_trans (s1 _ 1 v fun u hu => z u v w) (by omega)) (by omega)) (by omega)
  have bE := b1 Es
  have bO := b1 o
  have bm : sm N (mxN N Es) ≤ 10000000 := by
    have : ∀ n, n ≤ N → sm n (mxN N Es) ≤ n * 4096 := by
      intro n
      induction n with
      | zero => intro _; simp [sm]
      | succ j ih =>
        intro hj
        have := ih (by omega)
        rw [sm]
        have b1 := nbr_lt hG (u := j) (by omega)
        have : mxN N Es j ≤ 64 * 64 := Nat.mul_le_mul (by omega) (by omega)
        omega
    have := this N (Nat.le_refl _)
    omega
  have q1 : IntKind.i64.wrap ((tri N Es : Int) + (tri N o : Int)) = (tri N Es : Int) + (tri N o : Int) := wrap_id (by omega) (by omega)
  have p0 : 0 ≤ (N : Int) * ((N : Int) - 1) * ((N : Int) - 2) ∧ (N : Int) * ((N : Int) - 1) * ((N : Int) - 2) ≤ 504 ∧ 0 ≤ (N : Int) * ((N : Int) - 1) ∧ (N : Int) * ((N : Int) - 1) ≤ 72 := by
    have : ∀ n : Nat, n ≤ 9 → 0 ≤ (n : Int) * ((n : Int) - 1) * ((n : Int) - 2) ∧ (n : Int) * ((n : Int) - 1) * ((n : Int) - 2) ≤ 504 ∧ 0 ≤ (n : Int) * ((n : Int) - 1) ∧ (n : Int) * ((n : Int) - 1) ≤ 72 := by decide
    exact this N hN
  have q2 : IntKind.i64.wrap ((N : Int) - 1) = (N : Int) - 1 := wrap_id (by omega) (by omega)
  have q3 : IntKind.i64.wrap ((N : Int) - 2) = (N : Int) - 2 := wrap_id (by omega) (by omega)
  have q4 : IntKind.i64.wrap ((N : Int) * ((N : Int) - 1)) = (N : Int) * ((N : Int) - 1) := wrap_id (by omega) (by omega)
  have q5 : IntKind.i64.wrap ((N : Int) * ((N : Int) - 1) * ((N : Int) - 2)) = (N : Int) * ((N : Int) - 1) * ((N : Int) - 2) := wrap_id (by omega) (by omega)
  have q6 : IntKind.i64.wrap (((N : Int) * ((N : Int) - 1) * ((N : Int) - 2)).tdiv 6) = ((N : Int) * ((N : Int) - 1) * ((N : Int) - 2)) / 6 := by
    rw [Int.tdiv_eq_ediv_of_nonneg (by omega), wrap_id (by omega) (by omega)]
  have q7 : IntKind.i64.wrap (((sm N (mxN N Es) : Nat) : Int).tdiv 2) = ((sm N (mxN N Es) : Nat) : Int) / 2 := by
    rw [Int.tdiv_eq_ediv_of_nonneg (by omega), wrap_id (by omega) (by omega)]
  have q7' : IntKind.i64.wrap (((sm N (mxN N Es) : Nat) : Int) / 2) = ((sm N (mxN N Es) : Nat) : Int) / 2 := wrap_id (by omega) (by omega)
  have q8 : IntKind.i64.wrap (((N : Int) * ((N : Int) - 1) * ((N : Int) - 2)) / 6 - ((sm N (mxN N Es) : Nat) : Int) / 2) = (tri N Es : Int) + (tri N o : Int) := by rw [← law]; exact q1
  have tko : List.take o.length (eds o) = eds o := List.take_of_length_le (by rw [eds_length]; omega)
  have g5 := eds_length o
  unfold w1St dk gT rB at lp
  rw [nat0, show eds [] = [] from rfl, show sm 0 (mxN N Es) = 0 from rfl, nat0] at lp
  unfold dk at n1 n2
  simp only [nat0] at n1 n2
  unfold qLaw29TrianglesWhole cLaw29TrianglesWhole
  generalize (tri N Es : Int) = tE at *
  generalize (tri N o : Int) = tO at *
  generalize ((sm N (mxN N Es) : Nat) : Int) = mx at *
  generalize hP : (N : Int) * ((N : Int) - 1) = P at *
  generalize hP2 : P * ((N : Int) - 2) = P2 at *
  generalize eds Es = Y at *
  generalize eds o = YO at *
  generalize o.length = ol at *
  clear b1 hI hO hG hI0
  simp [rLaw29TrianglesWholeX0, rLaw29TrianglesWholeX1, rLaw29TrianglesWholeX2, rLaw29TrianglesWholeX3, rLaw29TrianglesWholeX4, rLaw29TrianglesWholeX5, rLaw29TrianglesWholeX6, rLaw29TrianglesWholeX7, rLaw29TrianglesWholeX8, rLaw29TrianglesWholeX9, rLaw29TrianglesWholeX10, rLaw29TrianglesWholeX11, rLaw29TrianglesWholeX12, rLaw29TrianglesWholeX13, rLaw29TrianglesWholeX14, rLaw29TrianglesWholeX15, rLaw29TrianglesWholeX16, rLaw29TrianglesWholeX17, rLaw29TrianglesWholeX18, rLaw29TrianglesWholeX19, few, hl, n1, n2, lp, c1, c2, q1, q2, q3, q4, q5, q6, q7, q7', q8, hP, hP2, tko, g5, aw, sMakeFew, iMakeFew, sMakeNew, iMakeNew, sMakeGraph, iMakeGraph, sTrianglesCount, iTrianglesCount, sLaw29Awake, iLaw29Awake, plp, plpL, allB, notBox, swC, swS, seesC, inBox, relB, handBox, mvBB, mvRtB, blk, eds_length, eds_get, edsAt, edAV, allLeaf_eds, cleanL_eds, cleanL_ints, ints_length, ints_get, intsAt, endL, finB]
end
end Go.BmP
