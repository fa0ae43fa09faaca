/- nodeset.merged: rounds of its loop. -/
import Derived.Test.YtkhnplbbngkjkaaR02e
set_option linter.unusedSimpArgs false
set_option linter.unusedVariables false
set_option maxRecDepth 100000
set_option maxHeartbeats 4000000
namespace Go.BmP
open Go.Am Go.Bm
section
attribute [local simp] codeL_seq codeL_reg codeL_blk codeL_skip codeL_ret codeL_exit codeL_cnd condL_b thenL_n thenL_e thenL_r blkL_n blkL_e blkL_r regL_s opsB stepB opB opP opnd opnds lend lendC get_nil' get_cons' put_nil' put_cons' mem_nil' mem_cons' putdB putB slowP hasOwn hasOwnL finO relab anyB anyE anyH anyR borOf borL inSlot HAND endR hasOwnE endK keepIn trim noPtr noPtrL noPtrE noPtrH binA arith unA eqB isNilB eqc lenB bndB bnd rdN rdc AV.cells fillB peek ldOK AV.leaf allLeaf fz pl plL drawB allCW cwF okDrawB okPair Fq.ok dstOff wrOff notSlot noneIn apartR oldBoxes O.reads Kd.reads E.slot slots slotO slotsP List.getD pairIn nilL okRes clean cleanL resV resVs tupOf mkEnv partsBor doCallB inpB getArgs doCallO frzA frzV frzL minA minF cont ownAt at_ setAt rel dropS relC dropAll frzP frzAll firstBor borIn borC borS borE borH handTo mapSt mapE mapH mapB mapBL sw rt fb mvB mvRt seesP inRt isRoot rootOf boxOf seesB rootsL Am.rep ovw flatCells_ints allLeaf_ints flatCells el grp updE isNilB inpV inpL stB okL unA orcA bndB plL_ints fzL stBox inCells wrap0 wrap1 wrapm1 take_snoc BIGB marks boxZ ldLab cellOf cellN CELLM boxIn isCell apartC frzR frzRL frzS frzC frzCL locN notBox frzLab eatE0 isFn anyFn locB
theorem mrg_eq (f : Nat) (keep : Bool → Bool → Bool) (hk : KeepOK f keep) (x : Int) (r s : List Int) (out : List Int) (hL : out.length + 1 ≤ 4294967296) (b1 b2 : Bool) : codeL cfgS 0 lQVX0 (mst f b1 b2 (x :: r) (x :: s) out []) = some (.normal, mst f false false r s (out ++ put1 (keep true true) x []) (jk (keep true true) x)) := by
  obtain ⟨⟨q, hf⟩, hc⟩ := hk
  have h0 : (0 : Int) < (r.length : Int) + 1 := by omega
  have h1 : ¬ ((r.length : Int) + 1 = 0) := by omega
  have h2 : (1 : Int) ≤ (r.length : Int) + 1 := by omega
  have h3 : 1 + r.length ≤ r.length + 1 := by omega
  have k0 : (0 : Int) < (s.length : Int) + 1 := by omega
  have k1 : ¬ ((s.length : Int) + 1 = 0) := by omega
  have k2 : (1 : Int) ≤ (s.length : Int) + 1 := by omega
  have k3 : 1 + s.length ≤ s.length + 1 := by omega
  have hkk := hc true true
  cases hkv : keep true true <;> rw [hkv] at hkk <;> cases b1 <;> cases b2 <;>
    (simp only [mst, sq_t, sq_f, jk, put1, Bool.false_eq_true, if_true, if_false, List.append_nil]
     unfold lQVX0
     simp [rQVX0, rQVX1, rQVX2, rQVX3, rQVX4, rQVX5, rQVX6, rQVX7, rQVX8, rQVX9, rQVX10, rQVX11, rQVX12, rQVX13, rQVX14, rQVX15, rQVX16, ints_nil, ints_cons, ints_length, h0, h1, h2, h3, k0, k1, k2, k3, hf, hkk, idx, LIM, hL, ints_take, ints_drop, ints_snoc, List.drop_succ_cons, List.drop_zero, List.take_succ_cons, List.take_zero])
end
end Go.BmP
