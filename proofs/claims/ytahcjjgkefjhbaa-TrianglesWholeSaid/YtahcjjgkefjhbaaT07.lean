/- The law of all triangles: a graph and its complement. -/
import Derived.Test.YtahcjjgkefjhbaaTriQ
import Derived.Test.YtahcjjgkefjhbaaT05
import Derived.Test.YtahcjjgkefjhbaaT06
import Derived.Test.YtahcjjgkefjhbaaL01
set_option linter.unusedSimpArgs false
set_option linter.unusedVariables false
set_option maxRecDepth 100000
set_option maxHeartbeats 4000000
namespace Go.BmP
open Go.Am Go.Bm
theorem awake29 : callL cfgS nLaw29Awake [] [] = some (.bool true, []) := callL_iff.2 ⟨3000, by kernel_rfl⟩
/-- Edges that are not there, up to a place. -/
def IVR (N : Nat) (Es o : List Ed) (u v : Nat) : Prop := IVG N o u v ∧ ∀ a b : Int, 0 ≤ a → a < b → b < N → (a < u ∨ a = u ∧ b < v) → ((a, b) ∈ o ↔ (a, b) ∉ Es)
theorem ivr_skip {N : Nat} {Es o : List Ed} {u v : Nat} (h : IVR N Es o u v) (k : ((u : Int), (v : Int)) ∈ Es) : IVR N Es o u (v + 1) := by
  refine ⟨ivg_skip h.1, fun a b h0 h1 h2 h3 => ?_⟩
  by_cases e : a = u ∧ b = v
  · obtain ⟨rfl, rfl⟩ := e
    constructor
    · intro hm
      have := h.1.2.2.1 _ hm
      simp only at this
      omega
    · intro hn; exact absurd k hn
  · exact h.2 a b h0 h1 h2 (by omega)
theorem ivr_add {N : Nat} {Es o : List Ed} {u v : Nat} (h : IVR N Es o u v) (k : ((u : Int), (v : Int)) ∉ Es) (huv : u < v) (hv : v < N) : IVR N Es (o ++ [((u : Int), (v : Int))]) u (v + 1) := by
  refine ⟨ivg_add h.1 huv hv, fun a b h0 h1 h2 h3 => ?_⟩
  rw [List.mem_append, List.mem_singleton]
  by_cases e : a = u ∧ b = v
  · obtain ⟨rfl, rfl⟩ := e
    simp [k]
  · have e2 : ¬ (a, b) = ((u : Int), (v : Int)) := fun q => e (by cases q; exact ⟨rfl, rfl⟩)
    simp only [e2, or_false]
    exact h.2 a b h0 h1 h2 (by omega)
def rB (N : Nat) (o : List Ed) : Blk := some [.int .i64 N, .own 2 (eds o)]
def gT (N : Nat) (Es : List Ed) : Blk := some [.int .i64 N, .list 2 (eds Es)]
def w0St (l : List Int) (a N : Nat) (Es o : List Ed) (m : Int) (u v : Nat) (J : Env) : St := ⟨(3, .ptr 1 0) :: (4, .ptr 2 0) :: (5, .int .i64 m) :: (6, .int .i64 u) :: (7, .int .i64 v) :: J, [dk l a, gT N Es, rB N o]⟩
theorem nrm_lt {u v : Nat} (h : u < v) : nrmE (u : Int) (v : Int) = ((u : Int), (v : Int)) := by
  unfold nrmE; rw [if_neg (by omega), if_pos (by omega)]
section
attribute [local simp] codeL_seq codeL_reg codeL_blk codeL_skip codeL_ret codeL_exit codeL_cnd condL_b thenL_n thenL_e thenL_r blkL_n blkL_e blkL_r regL_s opsB stepB opB opP opnd opnds lend lendC get_nil' get_cons' put_nil' put_cons' mem_nil' mem_cons' putdB putB slowP hasOwn hasOwnL finO relab anyB anyE anyH anyR borOf borL inSlot HAND endR hasOwnE endK keepIn trim noPtr noPtrL noPtrE noPtrH binA arith unA eqB isNilB eqc lenB bndB bnd rdN rdc AV.cells fillB peek ldOK AV.leaf allLeaf fz pl plL drawB allCW cwF okDrawB okPair Fq.ok dstOff wrOff notSlot noneIn apartR oldBoxes O.reads Kd.reads E.slot slots slotO slotsP List.getD pairIn nilL okRes clean cleanL resV resVs tupOf mkEnv partsBor doCallB inpB getArgs doCallO frzA frzV frzL minA minF cont ownAt at_ setAt rel dropS relC dropAll frzP frzAll firstBor borIn borC borS borE borH handTo mapSt mapE mapH mapB mapBL sw rt fb mvB mvRt seesP inRt isRoot rootOf boxOf seesB rootsL Am.rep ovw flatCells_ints allLeaf_ints flatCells el grp updE isNilB inpV inpL stB okL unA orcA bndB plL_ints fzL stBox inCells wrap0 wrap1 wrapm1 take_snoc BIGB marks boxZ ldLab cellOf cellN CELLM boxIn isCell apartC frzR frzRL frzS frzC frzCL
theorem w0_round (l : List Int) (a N : Nat) (Es o : List Ed) (hG : GOK (N : Int) Es) (hE : Es.length < 1000000) (ho : o.length ≤ 100000) (m : Int) (u v : Nat) (huv : u < v) (hv : v < N) :
    codeL cfgS 0 lLaw29TrianglesWholeX0 (w0St l a N Es o m u v []) = some (.normal, w0St l a N Es (if ((u : Int), (v : Int)) ∈ Es then o else o ++ [((u : Int), (v : Int))]) m u (v + 1) []) := by
  have h1 : (v : Int) < N := by omega
  have hN := hG.1
  have hw := wrapS (i := v) (by omega)
  have hL : o.length + 1 ≤ 4294967296 := by omega
  have fd := find_run (N : Int) Es (by omega) hG u v
  rw [nrm_lt huv] at fd
  have tko : (eds o).take o.length = eds o := List.take_of_length_le (by rw [eds_length]; omega)
  by_cases k : ((u : Int), (v : Int)) ∈ Es
  · rw [if_pos k] at fd ⊢
    have n0 : ¬ ((Es.idxOf ((u : Int), (v : Int)) : Nat) : Int) < 0 := by omega
    generalize Es.idxOf ((u : Int), (v : Int)) = x at *
    unfold lLaw29TrianglesWholeX0 w0St dk gT rB
    simp [rLaw29TrianglesWholeX0, rLaw29TrianglesWholeX1, rLaw29TrianglesWholeX2, rLaw29TrianglesWholeX3, rLaw29TrianglesWholeX4, rLaw29TrianglesWholeX5, rLaw29TrianglesWholeX6, rLaw29TrianglesWholeX7, rLaw29TrianglesWholeX8, rLaw29TrianglesWholeX9, rLaw29TrianglesWholeX10, rLaw29TrianglesWholeX11, rLaw29TrianglesWholeX12, rLaw29TrianglesWholeX13, rLaw29TrianglesWholeX14, rLaw29TrianglesWholeX15, rLaw29TrianglesWholeX16, rLaw29TrianglesWholeX17, rLaw29TrianglesWholeX18, rLaw29TrianglesWholeX19, h1, hw, fd, n0, tko, sRef03Find, iRef03Find, plp, plpL, allB, notBox, swC, seesC, inBox, blk, eds_length, eds_get, edsAt, edAV, allLeaf_eds, cleanL_eds, cleanL_ints, ints_length, ints_get, intsAt, endL, finB]
  · rw [if_neg k] at fd ⊢
    unfold lLaw29TrianglesWholeX0 w0St dk gT rB
    simp [rLaw29TrianglesWholeX0, rLaw29TrianglesWholeX1, rLaw29TrianglesWholeX2, rLaw29TrianglesWholeX3, rLaw29TrianglesWholeX4, rLaw29TrianglesWholeX5, rLaw29TrianglesWholeX6, rLaw29TrianglesWholeX7, rLaw29TrianglesWholeX8, rLaw29TrianglesWholeX9, rLaw29TrianglesWholeX10, rLaw29TrianglesWholeX11, rLaw29TrianglesWholeX12, rLaw29TrianglesWholeX13, rLaw29TrianglesWholeX14, rLaw29TrianglesWholeX15, rLaw29TrianglesWholeX16, rLaw29TrianglesWholeX17, rLaw29TrianglesWholeX18, rLaw29TrianglesWholeX19, h1, hw, fd, hL, LIM, eds_snocM, eds_take, take_snocE, tko, sRef03Find, iRef03Find, plp, plpL, allB, notBox, swC, seesC, inBox, relB, handBox, mvBB, mvRtB, blk, eds_length, eds_get, edsAt, edAV, allLeaf_eds, cleanL_eds, cleanL_ints, ints_length, ints_get, intsAt, endL, finB]
theorem w0_loop (l : List Int) (a N : Nat) (Es : List Ed) (hG : GOK (N : Int) Es) (hE : Es.length < 1000000) (m : Int) (u : Nat) : ∀ (k v : Nat) (o : List Ed), v + k = N → u < v → IVR N Es o u v → ∃ o', codeL cfgS 0 (.loop lLaw29TrianglesWholeX0) (w0St l a N Es o m u v []) = some (.exit 2, w0St l a N Es o' m u N [(35, .bool false)]) ∧ IVR N Es o' u N
  | 0, v, o, hi, huv, hI => by
    obtain rfl : v = N := by omega
    refine ⟨o, loop_exit ?_, hI⟩
    unfold lLaw29TrianglesWholeX0 w0St dk gT rB
    simp [rLaw29TrianglesWholeX0, rLaw29TrianglesWholeX1, rLaw29TrianglesWholeX2, rLaw29TrianglesWholeX3, rLaw29TrianglesWholeX4, rLaw29TrianglesWholeX5, rLaw29TrianglesWholeX6, rLaw29TrianglesWholeX7, rLaw29TrianglesWholeX8, rLaw29TrianglesWholeX9, rLaw29TrianglesWholeX10, rLaw29TrianglesWholeX11, rLaw29TrianglesWholeX12, rLaw29TrianglesWholeX13, rLaw29TrianglesWholeX14, rLaw29TrianglesWholeX15, rLaw29TrianglesWholeX16, rLaw29TrianglesWholeX17, rLaw29TrianglesWholeX18, rLaw29TrianglesWholeX19, blk, eds_length, eds_get, edsAt, edAV, allLeaf_eds, cleanL_eds, cleanL_ints, ints_length, ints_get, intsAt, endL, finB]
  | k + 1, v, o, hi, huv, hI => by
    have hN := hG.1
    have hlen := hI.1.2.2.2
    have e := w0_round l a N Es o hG hE (by
      have : u ≤ 64 := by omega
      have : u * 64 ≤ 64 * 64 := Nat.mul_le_mul_right 64 this
      omega) m u v huv (by omega)
    obtain ⟨o', e2, hI2⟩ := w0_loop l a N Es hG hE m u k (v + 1) (if ((u : Int), (v : Int)) ∈ Es then o else o ++ [((u : Int), (v : Int))]) (by omega) (by omega) (by
      by_cases q : ((u : Int), (v : Int)) ∈ Es
      · rw [if_pos q]; exact ivr_skip hI q
      · rw [if_neg q]; exact ivr_add hI q huv (by omega))
    exact ⟨o', (loop_next e).trans e2, hI2⟩
end
/-- A node's share. -/
def mxN (N : Nat) (Es : List Ed) (i : Nat) : Nat := (nbr N Es i).length * (N - 1 - (nbr N Es i).length)
def w1St (l : List Int) (a N : Nat) (Es o : List Ed) (m : Int) (u : Nat) (J : Env) : St := ⟨(3, .ptr 1 0) :: (4, .ptr 2 0) :: (5, .int .i64 m) :: (6, .int .i64 u) :: J, [dk l a, gT N Es, rB N o]⟩
theorem nbr_lt {N : Nat} {Es : List Ed} (hG : GOK (N : Int) Es) {u : Nat} (hu : u < N) : (nbr N Es u).length ≤ N - 1 := by
  rw [nbr_count hG hu]
  have h : ∀ n, u < n → sm n (fun w => ad Es u w) ≤ n - 1 := by
    intro n
    induction n with
    | zero => intro h; omega
    | succ k ih =>
      intro h
      rw [sm]
      have b : ∀ w, ad Es u w ≤ 1 := fun w => by unfold ad; split <;> omega
      by_cases e : u = k
      · subst e
        have z : ad Es u u = 0 := ad_irr hG u
        have : ∀ n, sm n (fun w => ad Es u w) ≤ n := fun n => by
          induction n with
          | zero => exact Nat.le_refl _
          | succ j ihj => rw [sm]; have := b j; omega
        have := this u
        omega
      · have := ih (by omega)
        have := b k
        omega
  exact h N hu
section
attribute [local simp] codeL_seq codeL_reg codeL_blk codeL_skip codeL_ret codeL_exit codeL_cnd condL_b thenL_n thenL_e thenL_r blkL_n blkL_e blkL_r regL_s opsB stepB opB opP opnd opnds lend lendC get_nil' get_cons' put_nil' put_cons' mem_nil' mem_cons' putdB putB slowP hasOwn hasOwnL finO relab anyB anyE anyH anyR borOf borL inSlot HAND endR hasOwnE endK keepIn trim noPtr noPtrL noPtrE noPtrH binA arith unA eqB isNilB eqc lenB bndB bnd rdN rdc AV.cells fillB peek ldOK AV.leaf allLeaf fz pl plL drawB allCW cwF okDrawB okPair Fq.ok dstOff wrOff notSlot noneIn apartR oldBoxes O.reads Kd.reads E.slot slots slotO slotsP List.getD pairIn nilL okRes clean cleanL resV resVs tupOf mkEnv partsBor doCallB inpB getArgs doCallO frzA frzV frzL minA minF cont ownAt at_ setAt rel dropS relC dropAll frzP frzAll firstBor borIn borC borS borE borH handTo mapSt mapE mapH mapB mapBL sw rt fb mvB mvRt seesP inRt isRoot rootOf boxOf seesB rootsL Am.rep ovw flatCells_ints allLeaf_ints flatCells el grp updE isNilB inpV inpL stB okL unA orcA bndB plL_ints fzL stBox inCells wrap0 wrap1 wrapm1 take_snoc BIGB marks boxZ ldLab cellOf cellN CELLM boxIn isCell apartC frzR frzRL frzS frzC frzCL
theorem w1_loop (l : List Int) (a N : Nat) (Es : List Ed) (hG : GOK (N : Int) Es) (hE : Es.length < 1000000) : ∀ (k u : Nat) (o : List Ed), u + k = N → IVR N Es o u 0 → ∃ o', codeL cfgS 0 (.loop lLaw29TrianglesWholeX1) (w1St l a N Es o (sm u (mxN N Es) : Nat) u []) = some (.exit 0, w1St l a N Es o' (sm N (mxN N Es) : Nat) N [(27, .bool false)]) ∧ IVR N Es o' N 0
  | 0, u, o, hi, hI => by
    obtain rfl : u = N := by omega
    refine ⟨o, loop_exit ?_, hI⟩
    unfold lLaw29TrianglesWholeX1 w1St dk gT rB
    simp [rLaw29TrianglesWholeX0, rLaw29TrianglesWholeX1, rLaw29TrianglesWholeX2, rLaw29TrianglesWholeX3, rLaw29TrianglesWholeX4, rLaw29TrianglesWholeX5, rLaw29TrianglesWholeX6, rLaw29TrianglesWholeX7, rLaw29TrianglesWholeX8, rLaw29TrianglesWholeX9, rLaw29TrianglesWholeX10, rLaw29TrianglesWholeX11, rLaw29TrianglesWholeX12, rLaw29TrianglesWholeX13, rLaw29TrianglesWholeX14, rLaw29TrianglesWholeX15, rLaw29TrianglesWholeX16, rLaw29TrianglesWholeX17, rLaw29TrianglesWholeX18, rLaw29TrianglesWholeX19, blk, eds_length, eds_get, edsAt, edAV, allLeaf_eds, cleanL_eds, cleanL_ints, ints_length, ints_get, intsAt, endL, finB]
  | k + 1, u, o, hi, hI => by
    have hN := hG.1
    have h1 : (u : Int) < N := by omega
    have hw := wrapS (i := u) (by omega)
    have hI1 : IVR N Es o u (u + 1) := ⟨⟨hI.1.1, hI.1.2.1, fun e he => by have := hI.1.2.2.1 e he; have := (hI.1.2.1 e he).1; omega, by have := hI.1.2.2.2; omega⟩, fun a b h0 h1 h2 h3 => hI.2 a b h0 h1 h2 (by omega)⟩
    have lmt : ∀ n, n ≤ N → sm n (mxN N Es) ≤ n * 4096 := by
      intro n
      induction n with
      | zero => intro _; simp [sm]
      | succ j ih =>
        intro hj
        have := ih (by omega)
        rw [sm]
        have b1 := nbr_lt hG (u := j) (by omega)
        have : mxN N Es j ≤ 64 * 64 := Nat.mul_le_mul (by omega) (by omega)
        omega
    have lm := lmt u (by omega)
    have lm2 := lmt (u + 1) (by omega)
    rw [sm] at lm2
    obtain ⟨o1, e1, hI2⟩ := w0_loop l a N Es hG hE (sm u (mxN N Es) : Nat) u (N - (u + 1)) (u + 1) o (by omega) (by omega) hI1
    have hI3 : IVR N Es o1 (u + 1) 0 := ⟨⟨hI2.1.1, hI2.1.2.1, fun e he => by have := hI2.1.2.2.1 e he; omega, by have := hI2.1.2.2.2; omega⟩, fun a b h0 h1 h2 h3 => hI2.2 a b h0 h1 h2 (by omega)⟩
    obtain ⟨o', e2, hI4⟩ := w1_loop l a N Es hG hE k (u + 1) o1 (by omega) hI3
    refine ⟨o', (loop_next ?_).trans e2, hI4⟩
    have dg := degree_run hG hE (v := (u : Int)) (by omega) (by omega)
    have b1 := nbr_lt hG (u := u) (by omega)
    have w1 : IntKind.i64.wrap ((N : Int) - 1) = (N : Int) - 1 := wrap_id (by omega) (by omega)
    have w2 : IntKind.i64.wrap ((N : Int) - 1 - (nbr N Es u).length) = (N : Int) - 1 - (nbr N Es u).length := wrap_id (by omega) (by omega)
    have em : ((nbr N Es u).length : Int) * ((N : Int) - 1 - (nbr N Es u).length) = (mxN N Es u : Nat) := by
      unfold mxN
      rw [Int.natCast_mul, show ((N - 1 - (nbr N Es u).length : Nat) : Int) = (N : Int) - 1 - (nbr N Es u).length by omega]
    have w3 : IntKind.i64.wrap ((mxN N Es u : Nat) : Int) = (mxN N Es u : Nat) := wrap_id (by omega) (by omega)
    have w4 : IntKind.i64.wrap ((sm u (mxN N Es) : Nat) + (mxN N Es u : Nat) : Int) = (sm (u + 1) (mxN N Es) : Nat) := by rw [wrap_id (by omega) (by omega), sm]; omega
    unfold w0St dk gT rB at e1
    rw [show ((u + 1 : Nat) : Int) = (u : Int) + 1 from rfl] at e1
    unfold lLaw29TrianglesWholeX1 w1St dk gT rB
    generalize (sm (u + 1) (mxN N Es) : Nat) = m2 at *
    generalize (sm u (mxN N Es) : Nat) = m1 at *
    generalize mxN N Es u = mx at *
    generalize (nbr N Es u).length = dl at *
    clear e2 hI4 hI2 hI3 hI1 hI lmt
    simp [rLaw29TrianglesWholeX0, rLaw29TrianglesWholeX1, rLaw29TrianglesWholeX2, rLaw29TrianglesWholeX3, rLaw29TrianglesWholeX4, rLaw29TrianglesWholeX5, rLaw29TrianglesWholeX6, rLaw29TrianglesWholeX7, rLaw29TrianglesWholeX8, rLaw29TrianglesWholeX9, rLaw29TrianglesWholeX10, rLaw29TrianglesWholeX11, rLaw29TrianglesWholeX12, rLaw29TrianglesWholeX13, rLaw29TrianglesWholeX14, rLaw29TrianglesWholeX15, rLaw29TrianglesWholeX16, rLaw29TrianglesWholeX17, rLaw29TrianglesWholeX18, rLaw29TrianglesWholeX19, h1, hw, e1, dg, w1, w2, em, w3, w4, sRef03Degree, iRef03Degree, plp, plpL, allB, notBox, swC, seesC, inBox, blk, eds_length, eds_get, edsAt, edAV, allLeaf_eds, cleanL_eds, cleanL_ints, ints_length, ints_get, intsAt, endL, finB]
end
end Go.BmP
