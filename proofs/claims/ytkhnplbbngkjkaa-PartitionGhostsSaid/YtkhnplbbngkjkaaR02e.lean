/- nodeset.merged: its loop and its answer. -/
import Derived.Test.YtkhnplbbngkjkaaR02d
set_option linter.unusedSimpArgs false
set_option linter.unusedVariables false
set_option maxRecDepth 100000
set_option maxHeartbeats 4000000
namespace Go.BmP
open Go.Am Go.Bm
def sq (b : Bool) (l : List Int) : AV := if b then .own 1 (ints l) else .list 1 (ints l)
theorem sq_t (l : List Int) : sq true l = .own 1 (ints l) := rfl
theorem sq_f (l : List Int) : sq false l = .list 1 (ints l) := rfl
def KeepOK (f : Nat) (keep : Bool → Bool → Bool) : Prop := (∃ q, cfgS.fn f = some (⟨false, false, true⟩, q)) ∧ ∀ p r, callL cfgS f [.bool p, .bool r] [] = some (.bool (keep p r), [])
section
attribute [local simp] codeL_seq codeL_reg codeL_blk codeL_skip codeL_ret codeL_exit codeL_cnd condL_b thenL_n thenL_e thenL_r blkL_n blkL_e blkL_r regL_s opsB stepB opB opP opnd opnds lend lendC get_nil' get_cons' put_nil' put_cons' mem_nil' mem_cons' putdB putB slowP hasOwn hasOwnL finO relab anyB anyE anyH anyR borOf borL inSlot HAND endR hasOwnE endK keepIn trim noPtr noPtrL noPtrE noPtrH binA arith unA eqB isNilB eqc lenB bndB bnd rdN rdc AV.cells fillB peek ldOK AV.leaf allLeaf fz pl plL drawB allCW cwF okDrawB okPair Fq.ok dstOff wrOff notSlot noneIn apartR oldBoxes O.reads Kd.reads E.slot slots slotO slotsP List.getD pairIn nilL okRes clean cleanL resV resVs tupOf mkEnv partsBor doCallB inpB getArgs doCallO frzA frzV frzL minA minF cont ownAt at_ setAt rel dropS relC dropAll frzP frzAll firstBor borIn borC borS borE borH handTo mapSt mapE mapH mapB mapBL sw rt fb mvB mvRt seesP inRt isRoot rootOf boxOf seesB rootsL Am.rep ovw flatCells_ints allLeaf_ints flatCells el grp updE isNilB inpV inpL stB okL unA orcA bndB plL_ints fzL stBox inCells wrap0 wrap1 wrapm1 take_snoc BIGB marks boxZ ldLab cellOf cellN CELLM boxIn isCell apartC frzR frzRL frzS frzC frzCL locN notBox frzLab eatE0 isFn anyFn locB
theorem union1_ok : KeepOK nQW (fun _ _ => true) := by
  refine ⟨⟨_, sQW⟩, fun p r => ?_⟩
  rw [callL_end oQW sQW (Nat.le_of_ble_eq_true rfl)]
  unfold qQW cQW
  simp [rQWX0, rQWX1, endL, finB]
end
def jk : Bool → Int → Env
  | true, _ => []
  | false, x => [(10, .int .i64 x), (80, .bool false)]
def mst (f : Nat) (b1 b2 : Bool) (A B out : List Int) (J : Env) : St := ⟨(0, sq b1 A) :: (1, sq b2 B) :: (2, .func (.func f) [] []) :: (7, .own 1 (ints out)) :: J, []⟩
section
attribute [local simp] codeL_seq codeL_reg codeL_blk codeL_skip codeL_ret codeL_exit codeL_cnd condL_b thenL_n thenL_e thenL_r blkL_n blkL_e blkL_r regL_s opsB stepB opB opP opnd opnds lend lendC get_nil' get_cons' put_nil' put_cons' mem_nil' mem_cons' putdB putB slowP hasOwn hasOwnL finO relab anyB anyE anyH anyR borOf borL inSlot HAND endR hasOwnE endK keepIn trim noPtr noPtrL noPtrE noPtrH binA arith unA eqB isNilB eqc lenB bndB bnd rdN rdc AV.cells fillB peek ldOK AV.leaf allLeaf fz pl plL drawB allCW cwF okDrawB okPair Fq.ok dstOff wrOff notSlot noneIn apartR oldBoxes O.reads Kd.reads E.slot slots slotO slotsP List.getD pairIn nilL okRes clean cleanL resV resVs tupOf mkEnv partsBor doCallB inpB getArgs doCallO frzA frzV frzL minA minF cont ownAt at_ setAt rel dropS relC dropAll frzP frzAll firstBor borIn borC borS borE borH handTo mapSt mapE mapH mapB mapBL sw rt fb mvB mvRt seesP inRt isRoot rootOf boxOf seesB rootsL Am.rep ovw flatCells_ints allLeaf_ints flatCells el grp updE isNilB inpV inpL stB okL unA orcA bndB plL_ints fzL stBox inCells wrap0 wrap1 wrapm1 take_snoc BIGB marks boxZ ldLab cellOf cellN CELLM boxIn isCell apartC frzR frzRL frzS frzC frzCL locN notBox frzLab eatE0 isFn anyFn locB
theorem mrg_end (f : Nat) (b1 b2 : Bool) (out : List Int) : codeL cfgS 0 (.loop lQVX0) (mst f b1 b2 [] [] out []) = some (.exit 0, ⟨[(0, sq b1 []), (1, sq b2 []), (2, .func (.func f) [] []), (7, .own 1 (ints out)), (30, .bool false)], []⟩) := by
  cases b1 <;> cases b2 <;> (simp only [mst, sq_t, sq_f]; exact loop_exit (by unfold lQVX0; simp [rQVX0, rQVX1, rQVX2, rQVX3, rQVX4, rQVX5, rQVX6, rQVX7, rQVX8, rQVX9, rQVX10, rQVX11, rQVX12, rQVX13, rQVX14, rQVX15, rQVX16, ints_nil]))
theorem mrg_j (f : Nat) (b1 b2 : Bool) (A B out : List Int) (k : Bool) (x : Int) : codeL cfgS 0 lQVX0 (mst f b1 b2 A B out (jk k x)) = codeL cfgS 0 lQVX0 (mst f b1 b2 A B out []) := by
  cases k
  case true => rfl
  unfold lQVX0
  have e : codeL cfgS 0 (.reg rQVX6 false [] [0, 1, 2, 7, 30]) (mst f b1 b2 A B out (jk false x)) = codeL cfgS 0 (.reg rQVX6 false [] [0, 1, 2, 7, 30]) (mst f b1 b2 A B out []) := by
    cases A with
    | nil => cases b1 <;> cases b2 <;> (simp only [mst, sq_t, sq_f, jk]; simp [rQVX0, rQVX1, rQVX2, rQVX3, rQVX4, rQVX5, rQVX6, rQVX7, rQVX8, rQVX9, rQVX10, rQVX11, rQVX12, rQVX13, rQVX14, rQVX15, rQVX16, ints_nil, ints_length])
    | cons a r =>
      have h0 : (0 : Int) < (r.length : Int) + 1 := by omega
      cases b1 <;> cases b2 <;> (simp only [mst, sq_t, sq_f, jk]; simp [rQVX0, rQVX1, rQVX2, rQVX3, rQVX4, rQVX5, rQVX6, rQVX7, rQVX8, rQVX9, rQVX10, rQVX11, rQVX12, rQVX13, rQVX14, rQVX15, rQVX16, ints_nil, ints_length, h0])
  rw [codeL_seq, codeL_seq, e, ← codeL_seq, ← codeL_seq]
end
end Go.BmP
