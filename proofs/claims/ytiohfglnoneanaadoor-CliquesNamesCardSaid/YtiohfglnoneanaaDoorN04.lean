/- The law of names: with other names of the nodes, the maximal cliques are the same but for these names. -/
import Derived.Test.YtiohfglnoneanaaDoorN03
import Derived.Test.YtiohfglnoneanaaDoorL01
import Derived.Test.YtiohfglnoneanaaDoorH18
import Derived.Test.YtiohfglnoneanaaDoorR02d
set_option linter.unusedSimpArgs false
set_option linter.unusedVariables false
set_option maxRecDepth 100000
set_option maxHeartbeats 4000000
namespace Go.BmP
open Go.Am Go.Bm
theorem awake24 : callL cfgS nLaw24Awake [] [] = some (.bool true, []) := callL_iff.2 ⟨3000, by kernel_rfl⟩
def gb (N : Nat) (Es : List Ed) : Blk := some [.int .i64 N, .list 2 (eds Es)]
theorem rest_gb (N : Nat) (Es : List Ed) : Rest [gb N Es] := ⟨fun _ => rfl, rfl, fun _ _ => rfl, fun _ => rfl, fun _ _ => rfl⟩
def n0St (nm : List Int) (A B : List (List Int)) (i : Nat) (S o : List Int) (j : Nat) (J : Env) : St := ⟨(5, .list 1 (ints nm)) :: (8, .list 1 (lls B)) :: (12, .own 1 (ints o)) :: (55, .list 1 (lls A)) :: (56, .int .i64 A.length) :: (57, .int .i64 i) :: (61, .list 1 (ints S)) :: (62, .int .i64 S.length) :: (63, .int .i64 j) :: J, []⟩
section
attribute [local simp] codeL_seq codeL_reg codeL_blk codeL_skip codeL_ret codeL_exit codeL_cnd condL_b thenL_n thenL_e thenL_r blkL_n blkL_e blkL_r regL_s opsB stepB opB opP opnd opnds lend lendC get_nil' get_cons' put_nil' put_cons' mem_nil' mem_cons' putdB putB slowP hasOwn hasOwnL finO relab anyB anyE anyH anyR borOf borL inSlot HAND endR hasOwnE endK keepIn trim noPtr noPtrL noPtrE noPtrH binA arith unA eqB isNilB eqc lenB bndB bnd rdN rdc AV.cells fillB peek ldOK AV.leaf allLeaf fz pl plL drawB allCW cwF okDrawB okPair Fq.ok dstOff wrOff notSlot noneIn apartR oldBoxes O.reads Kd.reads E.slot slots slotO slotsP List.getD pairIn nilL okRes clean cleanL resV resVs tupOf mkEnv partsBor doCallB inpB getArgs doCallO frzA frzV frzL minA minF cont ownAt at_ setAt rel dropS relC dropAll frzP frzAll firstBor borIn borC borS borE borH handTo mapSt mapE mapH mapB mapBL sw rt fb mvB mvRt seesP inRt isRoot rootOf boxOf seesB rootsL Am.rep ovw flatCells_ints allLeaf_ints flatCells el grp updE isNilB inpV inpL stB okL unA orcA bndB plL_ints fzL stBox inCells wrap0 wrap1 wrapm1 take_snoc BIGB marks
theorem n0_loop (N : Nat) (hN : N ≤ 64) (nm : List Int) (hn : nm.length = N) (A B : List (List Int)) (i : Nat) (S : List Int) (hS : S.length ≤ 64) (hb : ∀ x ∈ S, 0 ≤ x ∧ x < (N : Int)) : ∀ (k j : Nat) (o : List Int), j + k = S.length → o.length ≤ j → codeL cfgS 0 (.loop lLaw24CliquesNamesX0) (n0St nm A B i S o j []) = some (.exit 2, n0St nm A B i S (o ++ (S.drop j).map (nmf nm)) S.length [(64, .bool false)])
  | 0, j, o, hi, ho => by
    obtain rfl : j = S.length := by omega
    rw [List.drop_length, List.map_nil, List.append_nil]
    exact loop_exit (by unfold lLaw24CliquesNamesX0 n0St; simp [rLaw24CliquesNamesX0, rLaw24CliquesNamesX1, rLaw24CliquesNamesX2, rLaw24CliquesNamesX3, rLaw24CliquesNamesX4, rLaw24CliquesNamesX5, rLaw24CliquesNamesX6, rLaw24CliquesNamesX7, rLaw24CliquesNamesX8, rLaw24CliquesNamesX9, rLaw24CliquesNamesX10, rLaw24CliquesNamesX11, rLaw24CliquesNamesX12, rLaw24CliquesNamesX13, rLaw24CliquesNamesX14, rLaw24CliquesNamesX15, rLaw24CliquesNamesX16, rLaw24CliquesNamesX17, rLaw24CliquesNamesX18, rLaw24CliquesNamesX19, rLaw24CliquesNamesX20, rLaw24CliquesNamesX21, rLaw24CliquesNamesX22, rLaw24CliquesNamesX23, rLaw24CliquesNamesX24, rLaw24CliquesNamesX25, rLaw24CliquesNamesX26, rLaw24CliquesNamesX27, rLaw24CliquesNamesX28, rLaw24CliquesNamesX29, rLaw24CliquesNamesX30, blk, eds_length, eds_get, edsAt, edAV, allLeaf_eds, cleanL_eds, cleanL_ints, ints_length, ints_get, intsAt, endL, finB])
  | k + 1, j, o, hi, ho => by
    have hlt : j < S.length := by omega
    have h1 : (j : Int) < S.length := by omega
    have hw := wrapS (i := j) (by omega)
    have hL : o.length + 1 ≤ 4294967296 := by omega
    have ih := n0_loop N hN nm hn A B i S hS hb k (j + 1) (o ++ [nmf nm S[j]]) (by omega) (by simp; omega)
    rw [List.append_assoc] at ih
    rw [List.drop_eq_getElem_cons hlt, List.map_cons]
    refine (loop_next ?_).trans ih
    clear ih
    obtain ⟨v0, vN⟩ := hb S[j] (List.getElem_mem hlt)
    have v0' : ¬ S[j] < 0 := by omega
    have vn : ¬ (N : Int) ≤ S[j] := by omega
    have vk : S[j].toNat < N := by omega
    have i1 := idx_lt (k := .i64) (i := (j : Int)) (n := S.length) (by omega) h1
    have gv : (ints nm)[S[j].toNat]? = some (.int .i64 (nmf nm S[j])) := by
      unfold nmf
      rw [ints_get, List.getD_eq_getElem?_getD, List.getElem?_eq_getElem (by omega)]; rfl
    have gv' : ∀ h : S[j].toNat < (ints nm).length, (ints nm)[S[j].toNat] = .int .i64 (nmf nm S[j]) := fun h => by rw [List.getElem?_eq_getElem h] at gv; exact Option.some.inj gv
    have nl : (ints nm).length = N := by rw [ints_length, hn]
    have sn := ints_snoc o (nmf nm S[j])
    have tk : (ints (o ++ [nmf nm S[j]])).take (o.length + 1) = ints (o ++ [nmf nm S[j]]) := by
      rw [ints_take, List.take_of_length_le (by simp)]
    have tko := ints_tk o
    unfold n0St lLaw24CliquesNamesX0
    generalize ints (o ++ [nmf nm S[j]]) = Z at *
    generalize nmf nm S[j] = x at *
    generalize ints nm = W at *
    simp [rLaw24CliquesNamesX0, rLaw24CliquesNamesX1, rLaw24CliquesNamesX2, rLaw24CliquesNamesX3, rLaw24CliquesNamesX4, rLaw24CliquesNamesX5, rLaw24CliquesNamesX6, rLaw24CliquesNamesX7, rLaw24CliquesNamesX8, rLaw24CliquesNamesX9, rLaw24CliquesNamesX10, rLaw24CliquesNamesX11, rLaw24CliquesNamesX12, rLaw24CliquesNamesX13, rLaw24CliquesNamesX14, rLaw24CliquesNamesX15, rLaw24CliquesNamesX16, rLaw24CliquesNamesX17, rLaw24CliquesNamesX18, rLaw24CliquesNamesX19, rLaw24CliquesNamesX20, rLaw24CliquesNamesX21, rLaw24CliquesNamesX22, rLaw24CliquesNamesX23, rLaw24CliquesNamesX24, rLaw24CliquesNamesX25, rLaw24CliquesNamesX26, rLaw24CliquesNamesX27, rLaw24CliquesNamesX28, rLaw24CliquesNamesX29, rLaw24CliquesNamesX30, h1, hlt, hw, hL, i1, v0, vN, v0', vn, vk, gv, gv', nl, sn, tk, tko, LIM, idx, blk, eds_length, eds_get, edsAt, edAV, allLeaf_eds, cleanL_eds, cleanL_ints, ints_length, ints_get, intsAt, endL, finB]
end
/-- The list of the names, owned or not. -/
def CurN (A : AV) (y : List Int) : Prop := A = .own 1 (ints y) ∨ A = .list 1 (ints y)
def n1St (nm : List Int) (A B : List (List Int)) (i : Nat) (Y : AV) (f : Bool) (j : Nat) (J : Env) : St := ⟨(5, .list 1 (ints nm)) :: (8, .list 1 (lls B)) :: (12, Y) :: (15, .bool f) :: (55, .list 1 (lls A)) :: (56, .int .i64 A.length) :: (57, .int .i64 i) :: (83, .list 1 (lls B)) :: (84, .int .i64 B.length) :: (85, .int .i64 j) :: J, []⟩
section
attribute [local simp] codeL_seq codeL_reg codeL_blk codeL_skip codeL_ret codeL_exit codeL_cnd condL_b thenL_n thenL_e thenL_r blkL_n blkL_e blkL_r regL_s opsB stepB opB opP opnd opnds lend lendC get_nil' get_cons' put_nil' put_cons' mem_nil' mem_cons' putdB putB slowP hasOwn hasOwnL finO relab anyB anyE anyH anyR borOf borL inSlot HAND endR hasOwnE endK keepIn trim noPtr noPtrL noPtrE noPtrH binA arith unA eqB isNilB eqc lenB bndB bnd rdN rdc AV.cells fillB peek ldOK AV.leaf allLeaf fz pl plL drawB allCW cwF okDrawB okPair Fq.ok dstOff wrOff notSlot noneIn apartR oldBoxes O.reads Kd.reads E.slot slots slotO slotsP List.getD pairIn nilL okRes clean cleanL resV resVs tupOf mkEnv partsBor doCallB inpB getArgs doCallO frzA frzV frzL minA minF cont ownAt at_ setAt rel dropS relC dropAll frzP frzAll firstBor borIn borC borS borE borH handTo mapSt mapE mapH mapB mapBL sw rt fb mvB mvRt seesP inRt isRoot rootOf boxOf seesB rootsL Am.rep ovw flatCells_ints allLeaf_ints flatCells el grp updE isNilB inpV inpL stB okL unA orcA bndB plL_ints fzL stBox inCells wrap0 wrap1 wrapm1 take_snoc BIGB marks
theorem n1_round (nm : List Int) (A B : List (List Int)) (i : Nat) (y : List Int) (hy : y.length ≤ 64) (hB : B.length ≤ 4096) (j : Nat) (hlt : j < B.length) (hb : B[j].length ≤ 64) (Y : AV) (hY : CurN Y y) (f : Bool) : ∃ Y', CurN Y' y ∧ codeL cfgS 0 lLaw24CliquesNamesX1 (n1St nm A B i Y f j []) = some (.normal, n1St nm A B i Y' (f || decide (setOf y = B[j])) (j + 1) []) := by
  have h1 : (j : Int) < B.length := by omega
  have hw := wrapS (i := j) (by omega)
  have i1 := idx_lt (k := .i64) (i := (j : Int)) (n := B.length) (by omega) h1
  have g1 : ∀ h, (lls B)[j]'h = AV.list 1 (ints B[j]) := fun h => llsAt ..
  have g2 := lls_length B
  have g3 : (lls B)[j]? = some (.list 1 (ints B[j])) := by rw [lls_get, List.getElem?_eq_getElem hlt]; rfl
  have of1 := of_run y (by omega)
  have sl := setOf_len y
  have cm := cmp_run (setOf y) B[j] (by omega) (by omega)
  have cz : (cmpL (setOf y) B[j] = 0) = (setOf y = B[j]) := propext cmpL_zero
  have tk := ints_tk y
  have nl := ints_length y
  cases f with
  | true =>
    refine ⟨Y, hY, ?_⟩
    unfold n1St lLaw24CliquesNamesX1
    generalize lls B = X at *
    generalize lls A = XA at *
    generalize ints nm = W at *
    generalize ints y = V at *
    rcases hY with rfl | rfl
    · simp [rLaw24CliquesNamesX0, rLaw24CliquesNamesX1, rLaw24CliquesNamesX2, rLaw24CliquesNamesX3, rLaw24CliquesNamesX4, rLaw24CliquesNamesX5, rLaw24CliquesNamesX6, rLaw24CliquesNamesX7, rLaw24CliquesNamesX8, rLaw24CliquesNamesX9, rLaw24CliquesNamesX10, rLaw24CliquesNamesX11, rLaw24CliquesNamesX12, rLaw24CliquesNamesX13, rLaw24CliquesNamesX14, rLaw24CliquesNamesX15, rLaw24CliquesNamesX16, rLaw24CliquesNamesX17, rLaw24CliquesNamesX18, rLaw24CliquesNamesX19, rLaw24CliquesNamesX20, rLaw24CliquesNamesX21, rLaw24CliquesNamesX22, rLaw24CliquesNamesX23, rLaw24CliquesNamesX24, rLaw24CliquesNamesX25, rLaw24CliquesNamesX26, rLaw24CliquesNamesX27, rLaw24CliquesNamesX28, rLaw24CliquesNamesX29, rLaw24CliquesNamesX30, h1, hlt, hw, i1, g1, g2, g3, tk, nl, blk, eds_length, eds_get, edsAt, edAV, allLeaf_eds, cleanL_eds, cleanL_ints, ints_length, ints_get, intsAt, endL, finB]
    · simp [rLaw24CliquesNamesX0, rLaw24CliquesNamesX1, rLaw24CliquesNamesX2, rLaw24CliquesNamesX3, rLaw24CliquesNamesX4, rLaw24CliquesNamesX5, rLaw24CliquesNamesX6, rLaw24CliquesNamesX7, rLaw24CliquesNamesX8, rLaw24CliquesNamesX9, rLaw24CliquesNamesX10, rLaw24CliquesNamesX11, rLaw24CliquesNamesX12, rLaw24CliquesNamesX13, rLaw24CliquesNamesX14, rLaw24CliquesNamesX15, rLaw24CliquesNamesX16, rLaw24CliquesNamesX17, rLaw24CliquesNamesX18, rLaw24CliquesNamesX19, rLaw24CliquesNamesX20, rLaw24CliquesNamesX21, rLaw24CliquesNamesX22, rLaw24CliquesNamesX23, rLaw24CliquesNamesX24, rLaw24CliquesNamesX25, rLaw24CliquesNamesX26, rLaw24CliquesNamesX27, rLaw24CliquesNamesX28, rLaw24CliquesNamesX29, rLaw24CliquesNamesX30, h1, hlt, hw, i1, g1, g2, g3, tk, nl, blk, eds_length, eds_get, edsAt, edAV, allLeaf_eds, cleanL_eds, cleanL_ints, ints_length, ints_get, intsAt, endL, finB]
  | false =>
    refine ⟨.list 1 (ints y), .inr rfl, ?_⟩
    unfold n1St lLaw24CliquesNamesX1
    generalize lls B = X at *
    generalize lls A = XA at *
    generalize ints nm = W at *
    generalize setOf y = T at *
    generalize B[j] = U at *
    have cl := cleanL_ints y
    have pl1 := plL_ints y
    have al := allLeaf_ints y
    rcases hY with rfl | rfl
    · simp [rLaw24CliquesNamesX0, rLaw24CliquesNamesX1, rLaw24CliquesNamesX2, rLaw24CliquesNamesX3, rLaw24CliquesNamesX4, rLaw24CliquesNamesX5, rLaw24CliquesNamesX6, rLaw24CliquesNamesX7, rLaw24CliquesNamesX8, rLaw24CliquesNamesX9, rLaw24CliquesNamesX10, rLaw24CliquesNamesX11, rLaw24CliquesNamesX12, rLaw24CliquesNamesX13, rLaw24CliquesNamesX14, rLaw24CliquesNamesX15, rLaw24CliquesNamesX16, rLaw24CliquesNamesX17, rLaw24CliquesNamesX18, rLaw24CliquesNamesX19, rLaw24CliquesNamesX20, rLaw24CliquesNamesX21, rLaw24CliquesNamesX22, rLaw24CliquesNamesX23, rLaw24CliquesNamesX24, rLaw24CliquesNamesX25, rLaw24CliquesNamesX26, rLaw24CliquesNamesX27, rLaw24CliquesNamesX28, rLaw24CliquesNamesX29, rLaw24CliquesNamesX30, h1, hlt, hw, i1, g1, g2, g3, tk, nl, of1, cm, cz, beqI, sRef02Of, iRef02Of, sRef02Cmp, iRef02Cmp, blk, eds_length, eds_get, edsAt, edAV, allLeaf_eds, cleanL_eds, cleanL_ints, ints_length, ints_get, intsAt, endL, finB]
    · simp [rLaw24CliquesNamesX0, rLaw24CliquesNamesX1, rLaw24CliquesNamesX2, rLaw24CliquesNamesX3, rLaw24CliquesNamesX4, rLaw24CliquesNamesX5, rLaw24CliquesNamesX6, rLaw24CliquesNamesX7, rLaw24CliquesNamesX8, rLaw24CliquesNamesX9, rLaw24CliquesNamesX10, rLaw24CliquesNamesX11, rLaw24CliquesNamesX12, rLaw24CliquesNamesX13, rLaw24CliquesNamesX14, rLaw24CliquesNamesX15, rLaw24CliquesNamesX16, rLaw24CliquesNamesX17, rLaw24CliquesNamesX18, rLaw24CliquesNamesX19, rLaw24CliquesNamesX20, rLaw24CliquesNamesX21, rLaw24CliquesNamesX22, rLaw24CliquesNamesX23, rLaw24CliquesNamesX24, rLaw24CliquesNamesX25, rLaw24CliquesNamesX26, rLaw24CliquesNamesX27, rLaw24CliquesNamesX28, rLaw24CliquesNamesX29, rLaw24CliquesNamesX30, h1, hlt, hw, i1, g1, g2, g3, tk, nl, of1, cm, cz, beqI, sRef02Of, iRef02Of, sRef02Cmp, iRef02Cmp, blk, eds_length, eds_get, edsAt, edAV, allLeaf_eds, cleanL_eds, cleanL_ints, ints_length, ints_get, intsAt, endL, finB]
theorem n1_loop (nm : List Int) (A B : List (List Int)) (i : Nat) (y : List Int) (hy : y.length ≤ 64) (hB : B.length ≤ 4096) (hb : ∀ S ∈ B, S.length ≤ 64) : ∀ (k j : Nat) (Y : AV) (f : Bool), j + k = B.length → CurN Y y → ∃ Y', CurN Y' y ∧ codeL cfgS 0 (.loop lLaw24CliquesNamesX1) (n1St nm A B i Y f j []) = some (.exit 4, n1St nm A B i Y' (f || decide (setOf y ∈ B.drop j)) B.length [(86, .bool false)])
  | 0, j, Y, f, hi, hY => by
    obtain rfl : j = B.length := by omega
    refine ⟨Y, hY, loop_exit ?_⟩
    have e : (f || decide (setOf y ∈ B.drop B.length)) = f := by simp
    rw [e]
    rcases hY with rfl | rfl <;> unfold lLaw24CliquesNamesX1 n1St <;> simp [rLaw24CliquesNamesX0, rLaw24CliquesNamesX1, rLaw24CliquesNamesX2, rLaw24CliquesNamesX3, rLaw24CliquesNamesX4, rLaw24CliquesNamesX5, rLaw24CliquesNamesX6, rLaw24CliquesNamesX7, rLaw24CliquesNamesX8, rLaw24CliquesNamesX9, rLaw24CliquesNamesX10, rLaw24CliquesNamesX11, rLaw24CliquesNamesX12, rLaw24CliquesNamesX13, rLaw24CliquesNamesX14, rLaw24CliquesNamesX15, rLaw24CliquesNamesX16, rLaw24CliquesNamesX17, rLaw24CliquesNamesX18, rLaw24CliquesNamesX19, rLaw24CliquesNamesX20, rLaw24CliquesNamesX21, rLaw24CliquesNamesX22, rLaw24CliquesNamesX23, rLaw24CliquesNamesX24, rLaw24CliquesNamesX25, rLaw24CliquesNamesX26, rLaw24CliquesNamesX27, rLaw24CliquesNamesX28, rLaw24CliquesNamesX29, rLaw24CliquesNamesX30, blk, eds_length, eds_get, edsAt, edAV, allLeaf_eds, cleanL_eds, cleanL_ints, ints_length, ints_get, intsAt, endL, finB]
  | k + 1, j, Y, f, hi, hY => by
    have hlt : j < B.length := by omega
    obtain ⟨Y1, hY1, e1⟩ := n1_round nm A B i y hy hB j hlt (hb _ (List.getElem_mem hlt)) Y hY f
    obtain ⟨Y2, hY2, e2⟩ := n1_loop nm A B i y hy hB hb k (j + 1) Y1 _ (by omega) hY1
    refine ⟨Y2, hY2, (loop_next e1).trans (e2.trans ?_)⟩
    have e : (f || decide (setOf y = B[j]) || decide (setOf y ∈ B.drop (j + 1))) = (f || decide (setOf y ∈ B.drop j)) := by
      rw [List.drop_eq_getElem_cons hlt, Bool.or_assoc, ← Bool.decide_or]
      congr 1
      rw [decide_eq_decide, List.mem_cons]
    rw [e]
end
def n2St (nm : List Int) (A B : List (List Int)) (i : Nat) (J : Env) : St := ⟨(5, .list 1 (ints nm)) :: (8, .list 1 (lls B)) :: (55, .list 1 (lls A)) :: (56, .int .i64 A.length) :: (57, .int .i64 i) :: J, []⟩
section
attribute [local simp] codeL_seq codeL_reg codeL_blk codeL_skip codeL_ret codeL_exit codeL_cnd condL_b thenL_n thenL_e thenL_r blkL_n blkL_e blkL_r regL_s opsB stepB opB opP opnd opnds lend lendC get_nil' get_cons' put_nil' put_cons' mem_nil' mem_cons' putdB putB slowP hasOwn hasOwnL finO relab anyB anyE anyH anyR borOf borL inSlot HAND endR hasOwnE endK keepIn trim noPtr noPtrL noPtrE noPtrH binA arith unA eqB isNilB eqc lenB bndB bnd rdN rdc AV.cells fillB peek ldOK AV.leaf allLeaf fz pl plL drawB allCW cwF okDrawB okPair Fq.ok dstOff wrOff notSlot noneIn apartR oldBoxes O.reads Kd.reads E.slot slots slotO slotsP List.getD pairIn nilL okRes clean cleanL resV resVs tupOf mkEnv partsBor doCallB inpB getArgs doCallO frzA frzV frzL minA minF cont ownAt at_ setAt rel dropS relC dropAll frzP frzAll firstBor borIn borC borS borE borH handTo mapSt mapE mapH mapB mapBL sw rt fb mvB mvRt seesP inRt isRoot rootOf boxOf seesB rootsL Am.rep ovw flatCells_ints allLeaf_ints flatCells el grp updE isNilB inpV inpL stB okL unA orcA bndB plL_ints fzL stBox inCells wrap0 wrap1 wrapm1 take_snoc BIGB marks
theorem n2_loop (N : Nat) (hN : N ≤ 64) (nm : List Int) (hn : nm.length = N) (A B : List (List Int)) (hA : A.length ≤ 4096) (hB : B.length ≤ 4096) (hb : ∀ S ∈ B, S.length ≤ 64) (ha : ∀ S ∈ A, S.length ≤ 64 ∧ ∀ x ∈ S, 0 ≤ x ∧ x < (N : Int)) (hm : ∀ S ∈ A, setOf (S.map (nmf nm)) ∈ B) : ∀ (k i : Nat), i + k = A.length → codeL cfgS 0 (.loop lLaw24CliquesNamesX2) (n2St nm A B i []) = some (.exit 0, n2St nm A B A.length [(58, .bool false)])
  | 0, i, hi => by
    obtain rfl : i = A.length := by omega
    exact loop_exit (by unfold lLaw24CliquesNamesX2 n2St; simp [rLaw24CliquesNamesX0, rLaw24CliquesNamesX1, rLaw24CliquesNamesX2, rLaw24CliquesNamesX3, rLaw24CliquesNamesX4, rLaw24CliquesNamesX5, rLaw24CliquesNamesX6, rLaw24CliquesNamesX7, rLaw24CliquesNamesX8, rLaw24CliquesNamesX9, rLaw24CliquesNamesX10, rLaw24CliquesNamesX11, rLaw24CliquesNamesX12, rLaw24CliquesNamesX13, rLaw24CliquesNamesX14, rLaw24CliquesNamesX15, rLaw24CliquesNamesX16, rLaw24CliquesNamesX17, rLaw24CliquesNamesX18, rLaw24CliquesNamesX19, rLaw24CliquesNamesX20, rLaw24CliquesNamesX21, rLaw24CliquesNamesX22, rLaw24CliquesNamesX23, rLaw24CliquesNamesX24, rLaw24CliquesNamesX25, rLaw24CliquesNamesX26, rLaw24CliquesNamesX27, rLaw24CliquesNamesX28, rLaw24CliquesNamesX29, rLaw24CliquesNamesX30, blk, eds_length, eds_get, edsAt, edAV, allLeaf_eds, cleanL_eds, cleanL_ints, ints_length, ints_get, intsAt, endL, finB])
  | k + 1, i, hi => by
    have hlt : i < A.length := by omega
    have h1 : (i : Int) < A.length := by omega
    have hw := wrapS (i := i) (by omega)
    have ih := n2_loop N hN nm hn A B hA hB hb ha hm k (i + 1) (by omega)
    refine (loop_next ?_).trans ih
    clear ih
    obtain ⟨sl, sb⟩ := ha A[i] (List.getElem_mem hlt)
    have i1 := idx_lt (k := .i64) (i := (i : Int)) (n := A.length) (by omega) h1
    have g1 : ∀ h, (lls A)[i]'h = AV.list 1 (ints A[i]) := fun h => llsAt ..
    have g2 := lls_length A
    have g2b := lls_length B
    have g3 : (lls A)[i]? = some (.list 1 (ints A[i])) := by rw [lls_get, List.getElem?_eq_getElem hlt]; rfl
    have l0 := n0_loop N hN nm hn A B i A[i] sl sb A[i].length 0 [] (by omega) (by simp)
    rw [List.drop_zero, List.nil_append] at l0
    obtain ⟨Y', hY', l1⟩ := n1_loop nm A B i (A[i].map (nmf nm)) (by rw [List.length_map]; exact sl) hB hb B.length 0 (.own 1 (ints (A[i].map (nmf nm)))) false (by omega) (.inl rfl)
    rw [List.drop_zero, decide_eq_true (hm _ (List.getElem_mem hlt)), Bool.or_true] at l1
    unfold n0St at l0
    unfold n1St at l1
    rw [nat0] at l0 l1
    rw [ints_nil] at l0
    unfold n2St lLaw24CliquesNamesX2
    generalize ints (A[i].map (nmf nm)) = V at *
    generalize A[i] = S at *
    generalize lls B = XB at *
    generalize lls A = XA at *
    generalize ints nm = W at *
    rcases hY' with rfl | rfl
    · simp [rLaw24CliquesNamesX0, rLaw24CliquesNamesX1, rLaw24CliquesNamesX2, rLaw24CliquesNamesX3, rLaw24CliquesNamesX4, rLaw24CliquesNamesX5, rLaw24CliquesNamesX6, rLaw24CliquesNamesX7, rLaw24CliquesNamesX8, rLaw24CliquesNamesX9, rLaw24CliquesNamesX10, rLaw24CliquesNamesX11, rLaw24CliquesNamesX12, rLaw24CliquesNamesX13, rLaw24CliquesNamesX14, rLaw24CliquesNamesX15, rLaw24CliquesNamesX16, rLaw24CliquesNamesX17, rLaw24CliquesNamesX18, rLaw24CliquesNamesX19, rLaw24CliquesNamesX20, rLaw24CliquesNamesX21, rLaw24CliquesNamesX22, rLaw24CliquesNamesX23, rLaw24CliquesNamesX24, rLaw24CliquesNamesX25, rLaw24CliquesNamesX26, rLaw24CliquesNamesX27, rLaw24CliquesNamesX28, rLaw24CliquesNamesX29, rLaw24CliquesNamesX30, h1, hlt, hw, i1, g1, g2, g2b, g3, l0, l1, blk, eds_length, eds_get, edsAt, edAV, allLeaf_eds, cleanL_eds, cleanL_ints, ints_length, ints_get, intsAt, endL, finB]
    · simp [rLaw24CliquesNamesX0, rLaw24CliquesNamesX1, rLaw24CliquesNamesX2, rLaw24CliquesNamesX3, rLaw24CliquesNamesX4, rLaw24CliquesNamesX5, rLaw24CliquesNamesX6, rLaw24CliquesNamesX7, rLaw24CliquesNamesX8, rLaw24CliquesNamesX9, rLaw24CliquesNamesX10, rLaw24CliquesNamesX11, rLaw24CliquesNamesX12, rLaw24CliquesNamesX13, rLaw24CliquesNamesX14, rLaw24CliquesNamesX15, rLaw24CliquesNamesX16, rLaw24CliquesNamesX17, rLaw24CliquesNamesX18, rLaw24CliquesNamesX19, rLaw24CliquesNamesX20, rLaw24CliquesNamesX21, rLaw24CliquesNamesX22, rLaw24CliquesNamesX23, rLaw24CliquesNamesX24, rLaw24CliquesNamesX25, rLaw24CliquesNamesX26, rLaw24CliquesNamesX27, rLaw24CliquesNamesX28, rLaw24CliquesNamesX29, rLaw24CliquesNamesX30, h1, hlt, hw, i1, g1, g2, g2b, g3, l0, l1, blk, eds_length, eds_get, edsAt, edAV, allLeaf_eds, cleanL_eds, cleanL_ints, ints_length, ints_get, intsAt, endL, finB]
theorem names_run (l : List Int) : callL cfgS nLaw24CliquesNames [.list 1 (ints l)] [] = some (.bool true, []) := by
  rw [callL_end oLaw24CliquesNames sLaw24CliquesNames (Nat.le_of_ble_eq_true rfl)]
  have aw := awake24
  have few := few_run l
  by_cases hl : (l.length : Int) ≤ 500
  case neg =>
    unfold qLaw24CliquesNames cLaw24CliquesNames
    simp [rLaw24CliquesNamesX0, rLaw24CliquesNamesX1, rLaw24CliquesNamesX2, rLaw24CliquesNamesX3, rLaw24CliquesNamesX4, rLaw24CliquesNamesX5, rLaw24CliquesNamesX6, rLaw24CliquesNamesX7, rLaw24CliquesNamesX8, rLaw24CliquesNamesX9, rLaw24CliquesNamesX10, rLaw24CliquesNamesX11, rLaw24CliquesNamesX12, rLaw24CliquesNamesX13, rLaw24CliquesNamesX14, rLaw24CliquesNamesX15, rLaw24CliquesNamesX16, rLaw24CliquesNamesX17, rLaw24CliquesNamesX18, rLaw24CliquesNamesX19, rLaw24CliquesNamesX20, rLaw24CliquesNamesX21, rLaw24CliquesNamesX22, rLaw24CliquesNamesX23, rLaw24CliquesNamesX24, rLaw24CliquesNamesX25, rLaw24CliquesNamesX26, rLaw24CliquesNamesX27, rLaw24CliquesNamesX28, rLaw24CliquesNamesX29, rLaw24CliquesNamesX30, few, hl, aw, sMakeFew, iMakeFew, sLaw24Awake, iLaw24Awake, blk, eds_length, eds_get, edsAt, edAV, allLeaf_eds, cleanL_eds, cleanL_ints, ints_length, ints_get, intsAt, endL, finB]
  have hl5 : l.length ≤ 500 := by omega
  have n1 := new_run l
  obtain ⟨N, Es, a1, n2, hG, hN, hEl⟩ := graph_run l hl5 8 (by omega) 0
  obtain ⟨nm, a2, n3, hp⟩ := mkord_run l hl5 N (by omega) [gb N Es] (rest_gb N Es) a1
  have hF := rnG_ok hG hp
  have re := renamed_run hG (by omega) nm hp
  have lF : (rnG nm Es).length ≤ 10000 := by
    have := ofE_len (Es.map (rnE nm)) []
    rw [List.length_map] at this
    have e : rnG nm Es = ofE (Es.map (rnE nm)) [] := rfl
    rw [e]
    simp at this
    omega
  have re2 : callL cfgS nFieldRenamed [.agg [.int .i64 N, .list 2 (eds Es)], .list 1 (ints nm)] [] = some (.agg [.int .i64 N, .list 2 (eds (rnG nm Es))], []) := re
  clear re
  obtain ⟨k1, k2⟩ := names_law hG hp
  have al := allK_run hG (by omega) 4096
  have be := allK_run hF (by omega) 4096
  have few2 : ∀ {F : List Ed}, GOK (N : Int) F → (mcl N F).length ≤ 4096 := fun {F} h => by
    have f := mcl_few h
    have : 2 ^ N ≤ 2 ^ 8 := Nat.pow_le_pow_right (by decide) hN
    omega
  have ev : ∀ {F : List Ed}, GOK (N : Int) F → allK N F 4096 = .tup [.list 1 (lls (mcl N F)), .int .i64 0] := fun {F} h => by
    have := few2 h
    unfold allK
    rw [if_neg (by omega), if_pos (by omega)]
  rw [ev hG] at al
  rw [ev hF] at be
  have ob : ∀ {F : List Ed}, GOK (N : Int) F → ∀ S ∈ mcl N F, S.length ≤ 64 ∧ ∀ x ∈ S, 0 ≤ x ∧ x < (N : Int) := fun {F} h S hS => by
    have m := ((mcl_mem h).1 hS).1
    exact ⟨up_len m.up (isC_bd h m), m.bd⟩
  have lp := n2_loop N (by omega) nm (nmf_len hp) (mcl N Es) (mcl N (rnG nm Es)) (few2 hG) (few2 hF) (fun S hS => (ob hF S hS).1) (ob hG) k2 (mcl N Es).length 0 (by omega)
  have ga := lls_length (mcl N Es)
  have gbb := lls_length (mcl N (rnG nm Es))
  have k3 : ((mcl N Es).length : Int) = (mcl N (rnG nm Es)).length := by omega
  unfold n2St at lp
  rw [nat0] at lp
  unfold dk gb at *
  simp only [nat0, show ((8 : Nat) : Int) = 8 from rfl] at n1 n2
  clear ev ob few2 k2 hF lF
  rw [← k1] at gbb
  generalize (mcl N Es).length = n at *
  generalize lls (mcl N Es) = XA at *
  generalize lls (mcl N (rnG nm Es)) = XB at *
  generalize rnG nm Es = F at *
  unfold qLaw24CliquesNames cLaw24CliquesNames
  simp [rLaw24CliquesNamesX0, rLaw24CliquesNamesX1, rLaw24CliquesNamesX2, rLaw24CliquesNamesX3, rLaw24CliquesNamesX4, rLaw24CliquesNamesX5, rLaw24CliquesNamesX6, rLaw24CliquesNamesX7, rLaw24CliquesNamesX8, rLaw24CliquesNamesX9, rLaw24CliquesNamesX10, rLaw24CliquesNamesX11, rLaw24CliquesNamesX12, rLaw24CliquesNamesX13, rLaw24CliquesNamesX14, rLaw24CliquesNamesX15, rLaw24CliquesNamesX16, rLaw24CliquesNamesX17, rLaw24CliquesNamesX18, rLaw24CliquesNamesX19, rLaw24CliquesNamesX20, rLaw24CliquesNamesX21, rLaw24CliquesNamesX22, rLaw24CliquesNamesX23, rLaw24CliquesNamesX24, rLaw24CliquesNamesX25, rLaw24CliquesNamesX26, rLaw24CliquesNamesX27, rLaw24CliquesNamesX28, rLaw24CliquesNamesX29, rLaw24CliquesNamesX30, few, hl, n1, n2, n3, al, be, re2, lp, ga, gbb, aw, sMakeFew, iMakeFew, sMakeNew, iMakeNew, sMakeGraph, iMakeGraph, sMakeOrder, iMakeOrder, sFieldRenamed, iFieldRenamed, sCliquesAll, iCliquesAll, sLaw24Awake, iLaw24Awake, plp, plpL, allB, notBox, swC, swS, seesC, inBox, relB, handBox, mvBB, mvRtB, blk, eds_length, eds_get, edsAt, edAV, allLeaf_eds, cleanL_eds, cleanL_ints, ints_length, ints_get, intsAt, endL, finB]
end
end Go.BmP
