/- nodeset.merged as a whole; Union, Meet, Minus, Of, Within. -/
import Derived.Test.YtikffbngaolphaaDoorR02f
import Derived.Test.YtikffbngaolphaaDoorR02g
import Derived.Test.YtikffbngaolphaaDoorR02h
import Derived.Test.YtikffbngaolphaaDoorR02i
import Derived.Test.YtikffbngaolphaaDoorR02j
set_option linter.unusedSimpArgs false
set_option linter.unusedVariables false
set_option maxRecDepth 100000
set_option maxHeartbeats 4000000
namespace Go.BmP
open Go.Am Go.Bm
theorem cleanL_ints0 (l : List Int) : cleanL (ints l) = true := by
  induction l with
  | nil => rfl
  | cons x r ih => simp only [ints, List.map_cons, cleanL, clean] at ih ⊢; rw [ih]; rfl
theorem put1_app (c : Bool) (x : Int) (m : List Int) : put1 c x m = put1 c x [] ++ m := by cases c <;> rfl
section
attribute [local simp] codeL_seq codeL_reg codeL_blk codeL_skip codeL_ret codeL_exit codeL_cnd condL_b thenL_n thenL_e thenL_r blkL_n blkL_e blkL_r regL_s opsB stepB opB opP opnd opnds lend lendC get_nil' get_cons' put_nil' put_cons' mem_nil' mem_cons' putdB putB slowP hasOwn hasOwnL finO relab anyB anyE anyH anyR borOf borL inSlot HAND endR hasOwnE endK keepIn trim noPtr noPtrL noPtrE noPtrH binA arith unA eqB isNilB eqc lenB bndB bnd rdN rdc AV.cells fillB peek ldOK AV.leaf allLeaf fz pl plL drawB allCW cwF okDrawB okPair Fq.ok dstOff wrOff notSlot noneIn apartR oldBoxes O.reads Kd.reads E.slot slots slotO slotsP List.getD pairIn nilL okRes clean cleanL resV resVs tupOf mkEnv partsBor doCallB inpB getArgs doCallO frzA frzV frzL minA minF cont ownAt at_ setAt rel dropS relC dropAll frzP frzAll firstBor borIn borC borS borE borH handTo mapSt mapE mapH mapB mapBL sw rt fb mvB mvRt seesP inRt isRoot rootOf boxOf seesB rootsL Am.rep ovw flatCells_ints allLeaf_ints flatCells el grp updE isNilB inpV inpL stB okL unA orcA bndB plL_ints fzL stBox inCells wrap0 wrap1 wrapm1 take_snoc
theorem clone_cons (x : Int) (r : List Int) (hl : r.length + 1 ≤ 4294967296) : callL cfgS nSlicesCloneIntInt [.list 1 (ints (x :: r))] [] = some (.own 1 (ints (x :: r)), []) := by
  rw [callL_ofA (by simp [orcA, oSlicesCloneIntInt, gClo, ints_cons]) sSlicesCloneIntInt (Nat.le_of_ble_eq_true rfl)]
  unfold qSlicesCloneIntInt cSlicesCloneIntInt
  simp [rSlicesCloneIntIntX0, rSlicesCloneIntIntX1, rSlicesCloneIntIntX2, rSlicesCloneIntIntX3, ints_cons, ints_length, hl, LIM, endL, finB, allLocal, local_, takeR, takeV, ints_take, List.take_take, Nat.min_self, List.take_length, AV.cells, AV.leaf]
end
theorem srtG_ints (l : List Int) (h : l.length ≤ 4294967296) : srtG 1 (ints l) [] = some (ints (isort l), none) := by
  have e : intsOf (ints l) = some l := intsOf_ints l
  unfold srtG
  simp only [ints_length, LIM, h, if_true, e]
  rfl
theorem cptG_ints (l : List Int) (h : l.length ≤ 4294967296) : cptG 1 (ints l) [] = some (ints (dd l ++ List.replicate (l.length - (dd l).length) 0), some (dd l).length) := by
  have e : intsOf (ints l) = some l := intsOf_ints l
  unfold cptG
  simp only [ints_length, LIM, h, if_true, e]
  rfl
theorem srtG_nil : srtG 1 [] [] = some ([], none) := srtG_ints [] (by simp)
theorem cptG_nil : cptG 1 [] [] = some ([], some 0) := cptG_ints [] (by simp)
theorem seq_assoc {c : Cfg} {b : Nat} {x y z : C} {s : St} : codeL c b (.seq (.seq x y) z) s = codeL c b (.seq x (.seq y z)) s := by
  rw [codeL_seq, codeL_seq, codeL_seq]
  cases e : codeL c b x s with
  | none => rfl
  | some w =>
    obtain ⟨ex, s'⟩ := w
    cases ex with
    | normal => rw [thenL_n, thenL_n, codeL_seq]
    | exit i => rfl
    | ret => rfl
theorem seq_congr {c : Cfg} {b : Nat} {x y z : C} (h : ∀ s, codeL c b y s = codeL c b z s) (s : St) : codeL c b (.seq x y) s = codeL c b (.seq x z) s := by
  rw [codeL_seq, codeL_seq]
  cases e : codeL c b x s with
  | none => rfl
  | some w =>
    obtain ⟨ex, s'⟩ := w
    cases ex with
    | normal => rw [thenL_n, thenL_n, h]
    | exit i => rfl
    | ret => rfl
end Go.BmP
