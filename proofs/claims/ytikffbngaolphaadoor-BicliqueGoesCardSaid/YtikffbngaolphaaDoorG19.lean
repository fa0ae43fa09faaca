/- What biclique.Next and Best return of a bipartite graph. -/
import Derived.Test.YtikffbngaolphaaDoorG18
set_option linter.unusedSimpArgs false
set_option linter.unusedVariables false
set_option maxRecDepth 100000
set_option maxHeartbeats 4000000
namespace Go.BmP
open Go.Am Go.Bm
/-- A pair that may not be there yet. -/
def optP (N : Nat) (Es : List Ed) (L : List Int) : Option (List Int) → List AV
  | none => [.own 1 [], .own 1 []]
  | some S => [.list 1 (ints S), .list 1 (ints (clR N Es L S))]
theorem optP_none (N : Nat) (Es : List Ed) (L : List Int) : optP N Es L none = [.own 1 [], .own 1 []] := rfl
theorem optP_some (N : Nat) (Es : List Ed) (L S : List Int) : optP N Es L (some S) = [.list 1 (ints S), .list 1 (ints (clR N Es L S))] := rfl
theorem plain_opt (N : Nat) (Es : List Ed) (L : List Int) (s : Option (List Int)) : Plain (optP N Es L s) := by
  cases s with
  | none => exact plain_oo
  | some S => exact plain_ll _ _
def tkN (_ : Option (List Int)) (S : List Int) : Option (List Int) × Bool := (some S, false)
section
attribute [local simp] codeL_seq codeL_reg codeL_blk codeL_skip codeL_ret codeL_exit codeL_cnd condL_b thenL_n thenL_e thenL_r blkL_n blkL_e blkL_r regL_s opsB stepB opB opP opnd opnds lend lendC get_nil' get_cons' put_nil' put_cons' mem_nil' mem_cons' putdB putB slowP hasOwn hasOwnL finO relab anyB anyE anyH anyR borOf borL inSlot HAND endR hasOwnE endK keepIn trim noPtr noPtrL noPtrE noPtrH binA arith unA eqB isNilB eqc lenB bndB bnd rdN rdc AV.cells fillB peek ldOK AV.leaf allLeaf fz pl plL drawB allCW cwF okDrawB okPair Fq.ok dstOff wrOff notSlot noneIn apartR oldBoxes O.reads Kd.reads E.slot slots slotO slotsP List.getD pairIn nilL okRes clean cleanL resV resVs tupOf mkEnv partsBor doCallB inpB getArgs doCallO frzA frzV frzL minA minF cont ownAt at_ setAt rel dropS relC dropAll frzP frzAll firstBor borIn borC borS borE borH handTo mapSt mapE mapH mapB mapBL sw rt fb mvB mvRt seesP inRt isRoot rootOf boxOf seesB rootsL Am.rep ovw flatCells_ints allLeaf_ints flatCells el grp updE isNilB inpV inpL stB okL unA orcA bndB plL_ints fzL stBox inCells wrap0 wrap1 wrapm1 take_snoc
theorem takeN_run (N : Nat) (Es : List Ed) (L : List Int) (after : List Int) (P S : List Int) : callL cfgS nBicliqueNext1 [.agg [.list 1 (ints S), .list 1 (ints (clR N Es L S))], .ptr 2 0] (eH N Es L [.own 1 [], .own 1 []] [.own 1 [], .own 1 []] nBicliqueNext1 [.ptr 2 0] after P) = some (.bool false, eH N Es L [.own 1 [], .own 1 []] [.list 1 (ints S), .list 1 (ints (clR N Es L S))] nBicliqueNext1 [.ptr 2 0] after P) := by
  rw [callL_end oBicliqueNext1 sBicliqueNext1 (Nat.le_of_ble_eq_true rfl)]
  unfold eH sdAV
  generalize clR N Es L S = T at *
  unfold qBicliqueNext1 cBicliqueNext1
  simp [rBicliqueNext1X0, rBicliqueNext1X1, rBicliqueNext1X2, finS, plp, plpL, swS, mapH, mapBL, mapB, relB, handBox, blk, eds_length, eds_get, edsAt, edAV, allLeaf_eds, cleanL_eds, cleanL_ints, ints_length, ints_get, intsAt, endL, finB]
end
theorem take_next (N : Nat) (Es : List Ed) (L : List Int) (after : List Int) : TakeOK N Es L after [.own 1 [], .own 1 []] nBicliqueNext1 [.ptr 2 0] (optP N Es L) tkN (fun s => s = none) :=
  ⟨⟨_, sBicliqueNext1⟩, plain_oo, plain_opt N Es L, plainC_2, fun s S P hs _ _ => by subst hs; exact takeN_run N Es L after P S, fun s S hs _ _ k => by cases k⟩
/-- What Next returns. -/
def nextV (N : Nat) (Es : List Ed) (L : List Int) : List (List Int) → AV
  | [] => .tup [.agg [.list 1 [], .list 1 []], .bool false, .int .i64 0]
  | S :: _ => .tup [.agg [.list 1 (ints S), .list 1 (ints (clR N Es L S))], .bool true, .int .i64 0]
section
attribute [local simp] codeL_seq codeL_reg codeL_blk codeL_skip codeL_ret codeL_exit codeL_cnd condL_b thenL_n thenL_e thenL_r blkL_n blkL_e blkL_r regL_s opsB stepB opB opP opnd opnds lend lendC get_nil' get_cons' put_nil' put_cons' mem_nil' mem_cons' putdB putB slowP hasOwn hasOwnL finO relab anyB anyE anyH anyR borOf borL inSlot HAND endR hasOwnE endK keepIn trim noPtr noPtrL noPtrE noPtrH binA arith unA eqB isNilB eqc lenB bndB bnd rdN rdc AV.cells fillB peek ldOK AV.leaf allLeaf fz pl plL drawB allCW cwF okDrawB okPair Fq.ok dstOff wrOff notSlot noneIn apartR oldBoxes O.reads Kd.reads E.slot slots slotO slotsP List.getD pairIn nilL okRes clean cleanL resV resVs tupOf mkEnv partsBor doCallB inpB getArgs doCallO frzA frzV frzL minA minF cont ownAt at_ setAt rel dropS relC dropAll frzP frzAll firstBor borIn borC borS borE borH handTo mapSt mapE mapH mapB mapBL sw rt fb mvB mvRt seesP inRt isRoot rootOf boxOf seesB rootsL Am.rep ovw flatCells_ints allLeaf_ints flatCells el grp updE isNilB inpV inpL stB okL unA orcA bndB plL_ints fzL stBox inCells wrap0 wrap1 wrapm1 take_snoc
theorem next_run27 {N : Nat} {Es : List Ed} {L : List Int} (h : BOK N Es L) (hE : Es.length < 4294967295) (hL : L.length < 4294967295) (after : List Int) (ha : after.length < 9223372036854775808) : callL cfgS nBicliqueNext [.agg [.int .i64 N, .list 2 (eds Es), .list 1 (ints L)], .list 1 (ints after)] [] = some (nextV N Es L (behC N Es L after), []) := by
  have c1 := bchk_run h hE hL
  have c2 := bof_run h hE hL
  have c3 := each_run h ha (take_next N Es L after) none rfl
  rw [callL_end oBicliqueNext sBicliqueNext (Nat.le_of_ble_eq_true rfl)]
  have hm : ∀ S ∈ behC N Es L after, S ≠ [] := fun S hS => by
    have := (List.mem_filter.1 hS).1
    exact ((allC_mem h).1 this).1.2.1
  cases e : behC N Es L after with
  | nil =>
    rw [e] at c3
    unfold nextV
    unfold tkH sdAV foldS optP at c3
    unfold sdAV at c2
    unfold qBicliqueNext cBicliqueNext
    simp [rBicliqueNextX0, rBicliqueNextX1, rBicliqueNextX2, rBicliqueNextX3, rBicliqueNextX4, rBicliqueNextX5, rBicliqueNextX6, c1, c2, c3, sBicliqueCheck, iBicliqueCheck, sBicliqueOf, iBicliqueOf, sBicliqueSidesEach, iBicliqueSidesEach, cleanL_eds, cleanL_ints, cleanL_us, plp, plpL, allB, notBox, swC, seesC, inBox, relB, handBox, blk, eds_length, eds_get, edsAt, edAV, allLeaf_eds, cleanL_eds, cleanL_ints, ints_length, ints_get, intsAt, endL, finB]
  | cons S r =>
    have hS := hm S (by rw [e]; simp)
    have h0 : 0 < S.length := List.length_pos_iff.2 hS
    have h1 : (0 : Int) < S.length := by omega
    have f : foldS tkN (S :: r) none = (some S, false) := rfl
    rw [e, f] at c3
    unfold nextV
    unfold tkH sdAV optP at c3
    unfold sdAV at c2
    generalize clR N Es L S = T at *
    unfold qBicliqueNext cBicliqueNext
    simp [rBicliqueNextX0, rBicliqueNextX1, rBicliqueNextX2, rBicliqueNextX3, rBicliqueNextX4, rBicliqueNextX5, rBicliqueNextX6, c1, c2, c3, h0, h1, hS, sBicliqueCheck, iBicliqueCheck, sBicliqueOf, iBicliqueOf, sBicliqueSidesEach, iBicliqueSidesEach, cleanL_eds, cleanL_ints, cleanL_us, plp, plpL, allB, notBox, swC, seesC, inBox, relB, handBox, blk, eds_length, eds_get, edsAt, edAV, allLeaf_eds, cleanL_eds, cleanL_ints, ints_length, ints_get, intsAt, endL, finB]
end
/-- The product of the sizes of a pair. -/
def prodC (N : Nat) (Es : List Ed) (L : List Int) (S : List Int) : Nat := S.length * (clR N Es L S).length
def prodO (N : Nat) (Es : List Ed) (L : List Int) : Option (List Int) → Nat
  | none => 0
  | some S => prodC N Es L S
def tkB (N : Nat) (Es : List Ed) (L : List Int) (s : Option (List Int)) (S : List Int) : Option (List Int) × Bool := (if prodO N Es L s < prodC N Es L S then some S else s, true)
section
attribute [local simp] codeL_seq codeL_reg codeL_blk codeL_skip codeL_ret codeL_exit codeL_cnd condL_b thenL_n thenL_e thenL_r blkL_n blkL_e blkL_r regL_s opsB stepB opB opP opnd opnds lend lendC get_nil' get_cons' put_nil' put_cons' mem_nil' mem_cons' putdB putB slowP hasOwn hasOwnL finO relab anyB anyE anyH anyR borOf borL inSlot HAND endR hasOwnE endK keepIn trim noPtr noPtrL noPtrE noPtrH binA arith unA eqB isNilB eqc lenB bndB bnd rdN rdc AV.cells fillB peek ldOK AV.leaf allLeaf fz pl plL drawB allCW cwF okDrawB okPair Fq.ok dstOff wrOff notSlot noneIn apartR oldBoxes O.reads Kd.reads E.slot slots slotO slotsP List.getD pairIn nilL okRes clean cleanL resV resVs tupOf mkEnv partsBor doCallB inpB getArgs doCallO frzA frzV frzL minA minF cont ownAt at_ setAt rel dropS relC dropAll frzP frzAll firstBor borIn borC borS borE borH handTo mapSt mapE mapH mapB mapBL sw rt fb mvB mvRt seesP inRt isRoot rootOf boxOf seesB rootsL Am.rep ovw flatCells_ints allLeaf_ints flatCells el grp updE isNilB inpV inpL stB okL unA orcA bndB plL_ints fzL stBox inCells wrap0 wrap1 wrapm1 take_snoc
theorem takeB_run (N : Nat) (Es : List Ed) (L : List Int) (after : List Int) (s : Option (List Int)) (hs : ∀ S, s = some S → S.length ≤ 64) (P S : List Int) (hS : S.length ≤ 64) : callL cfgS nBicliqueBest1 [.agg [.list 1 (ints S), .list 1 (ints (clR N Es L S))], .ptr 2 0] (eH N Es L [.own 1 [], .own 1 []] (optP N Es L s) nBicliqueBest1 [.ptr 2 0] after P) = some (.bool true, eH N Es L [.own 1 [], .own 1 []] (optP N Es L (tkB N Es L s S).1) nBicliqueBest1 [.ptr 2 0] after P) := by
  rw [callL_end oBicliqueBest1 sBicliqueBest1 (Nat.le_of_ble_eq_true rfl)]
  have b1 : (clR N Es L S).length ≤ 64 := bitL_len _
  have m1 : prodC N Es L S ≤ 64 * 64 := Nat.mul_le_mul hS b1
  have w1 : IntKind.i64.wrap ((S.length : Int) * ((clR N Es L S).length : Int)) = ((prodC N Es L S : Nat) : Int) := by
    rw [← Int.natCast_mul]
    exact wrapN (by unfold prodC at m1; omega)
  unfold eH sdAV
  cases s with
  | none =>
    unfold tkB prodO
    unfold prodC at m1
    by_cases k : 0 < prodC N Es L S
    · have k' : (0 : Int) < ((prodC N Es L S : Nat) : Int) := by omega
      rw [if_pos k]
      simp only [optP_none, optP_some]
      generalize ((prodC N Es L S : Nat) : Int) = q at *
      generalize clR N Es L S = T at *
      unfold qBicliqueBest1 cBicliqueBest1
      simp [rBicliqueBest1X0, rBicliqueBest1X1, rBicliqueBest1X2, rBicliqueBest1X3, w1, k', finS, plp, plpL, swS, mapH, mapBL, mapB, relB, handBox, blk, eds_length, eds_get, edsAt, edAV, allLeaf_eds, cleanL_eds, cleanL_ints, ints_length, ints_get, intsAt, endL, finB]
    · have k' : ¬ (0 : Int) < ((prodC N Es L S : Nat) : Int) := by omega
      rw [if_neg k]
      simp only [optP_none, optP_some]
      generalize ((prodC N Es L S : Nat) : Int) = q at *
      generalize clR N Es L S = T at *
      unfold qBicliqueBest1 cBicliqueBest1
      simp [rBicliqueBest1X0, rBicliqueBest1X1, rBicliqueBest1X2, rBicliqueBest1X3, w1, k', finS, plp, plpL, swS, mapH, mapBL, mapB, relB, handBox, blk, eds_length, eds_get, edsAt, edAV, allLeaf_eds, cleanL_eds, cleanL_ints, ints_length, ints_get, intsAt, endL, finB]
  | some S0 =>
    have b0 : (clR N Es L S0).length ≤ 64 := bitL_len _
    have m0 : prodC N Es L S0 ≤ 64 * 64 := Nat.mul_le_mul (hs S0 rfl) b0
    have w0 : IntKind.i64.wrap ((S0.length : Int) * ((clR N Es L S0).length : Int)) = ((prodC N Es L S0 : Nat) : Int) := by
      rw [← Int.natCast_mul]
      exact wrapN (by unfold prodC at m0; omega)
    unfold tkB prodO
    by_cases k : prodC N Es L S0 < prodC N Es L S
    · have k' : ((prodC N Es L S0 : Nat) : Int) < ((prodC N Es L S : Nat) : Int) := by omega
      rw [if_pos k]
      simp only [optP_none, optP_some]
      clear m1 m0 k
      generalize ((prodC N Es L S : Nat) : Int) = q at *
      generalize ((prodC N Es L S0 : Nat) : Int) = q0 at *
      generalize clR N Es L S = T at *
      generalize clR N Es L S0 = T0 at *
      unfold qBicliqueBest1 cBicliqueBest1
      simp [rBicliqueBest1X0, rBicliqueBest1X1, rBicliqueBest1X2, rBicliqueBest1X3, w1, w0, k', finS, plp, plpL, swS, mapH, mapBL, mapB, relB, handBox, blk, eds_length, eds_get, edsAt, edAV, allLeaf_eds, cleanL_eds, cleanL_ints, ints_length, ints_get, intsAt, endL, finB]
    · have k' : ¬ ((prodC N Es L S0 : Nat) : Int) < ((prodC N Es L S : Nat) : Int) := by omega
      rw [if_neg k]
      simp only [optP_none, optP_some]
      clear m1 m0 k
      generalize ((prodC N Es L S : Nat) : Int) = q at *
      generalize ((prodC N Es L S0 : Nat) : Int) = q0 at *
      generalize clR N Es L S = T at *
      generalize clR N Es L S0 = T0 at *
      unfold qBicliqueBest1 cBicliqueBest1
      simp [rBicliqueBest1X0, rBicliqueBest1X1, rBicliqueBest1X2, rBicliqueBest1X3, w1, w0, k', finS, plp, plpL, swS, mapH, mapBL, mapB, relB, handBox, blk, eds_length, eds_get, edsAt, edAV, allLeaf_eds, cleanL_eds, cleanL_ints, ints_length, ints_get, intsAt, endL, finB]
end
theorem take_best (N : Nat) (Es : List Ed) (L : List Int) (after : List Int) : TakeOK N Es L after [.own 1 [], .own 1 []] nBicliqueBest1 [.ptr 2 0] (optP N Es L) (tkB N Es L) (fun s => ∀ S, s = some S → S ≠ [] ∧ S.length ≤ 64) :=
  ⟨⟨_, sBicliqueBest1⟩, plain_oo, plain_opt N Es L, plainC_2, fun s S P hs _ hl => takeB_run N Es L after s (fun S h => (hs S h).2) P S hl, fun s S hs hne hl _ S' e => by
    unfold tkB at e
    simp only at e
    split at e
    · cases e; exact ⟨hne, hl⟩
    · exact hs S' e⟩
/-- The first maximal pair with the greatest product. -/
def bestC (N : Nat) (Es : List Ed) (L : List Int) : Option (List Int) := (foldS (tkB N Es L) (allC N Es L) none).1
def bestV (N : Nat) (Es : List Ed) (L : List Int) : Option (List Int) → AV
  | none => .tup [.agg [.list 1 [], .list 1 []], .int .i64 13]
  | some S => .tup [.agg [.list 1 (ints S), .list 1 (ints (clR N Es L S))], .int .i64 0]
theorem foldB_mem {N : Nat} {Es : List Ed} {L : List Int} : ∀ (l : List (List Int)) (s : Option (List Int)), (∀ S, (foldS (tkB N Es L) l s).1 = some S → s = some S ∨ S ∈ l) ∧ (∀ S ∈ l, prodC N Es L S ≤ prodO N Es L (foldS (tkB N Es L) l s).1) ∧ prodO N Es L s ≤ prodO N Es L (foldS (tkB N Es L) l s).1
  | [], s => ⟨fun S h => .inl h, fun S h => by simp at h, Nat.le_refl _⟩
  | T :: l, s => by
    have e : foldS (tkB N Es L) (T :: l) s = foldS (tkB N Es L) l (tkB N Es L s T).1 := rfl
    rw [e]
    obtain ⟨i1, i2, i3⟩ := foldB_mem (N := N) (Es := Es) (L := L) l (tkB N Es L s T).1
    have hp : prodO N Es L s ≤ prodO N Es L (tkB N Es L s T).1 ∧ prodC N Es L T ≤ prodO N Es L (tkB N Es L s T).1 := by
      unfold tkB
      simp only
      split
      · rename_i k
        exact ⟨Nat.le_of_lt k, Nat.le_refl _⟩
      · rename_i k
        exact ⟨Nat.le_refl _, by omega⟩
    refine ⟨fun S h => ?_, fun S h => ?_, by omega⟩
    · rcases i1 S h with k | k
      · unfold tkB at k
        simp only at k
        split at k
        · cases k; exact .inr (by simp)
        · exact .inl k
      · exact .inr (by simp [k])
    · rcases List.mem_cons.1 h with k | k
      · subst k; omega
      · exact i2 S k
section
attribute [local simp] codeL_seq codeL_reg codeL_blk codeL_skip codeL_ret codeL_exit codeL_cnd condL_b thenL_n thenL_e thenL_r blkL_n blkL_e blkL_r regL_s opsB stepB opB opP opnd opnds lend lendC get_nil' get_cons' put_nil' put_cons' mem_nil' mem_cons' putdB putB slowP hasOwn hasOwnL finO relab anyB anyE anyH anyR borOf borL inSlot HAND endR hasOwnE endK keepIn trim noPtr noPtrL noPtrE noPtrH binA arith unA eqB isNilB eqc lenB bndB bnd rdN rdc AV.cells fillB peek ldOK AV.leaf allLeaf fz pl plL drawB allCW cwF okDrawB okPair Fq.ok dstOff wrOff notSlot noneIn apartR oldBoxes O.reads Kd.reads E.slot slots slotO slotsP List.getD pairIn nilL okRes clean cleanL resV resVs tupOf mkEnv partsBor doCallB inpB getArgs doCallO frzA frzV frzL minA minF cont ownAt at_ setAt rel dropS relC dropAll frzP frzAll firstBor borIn borC borS borE borH handTo mapSt mapE mapH mapB mapBL sw rt fb mvB mvRt seesP inRt isRoot rootOf boxOf seesB rootsL Am.rep ovw flatCells_ints allLeaf_ints flatCells el grp updE isNilB inpV inpL stB okL unA orcA bndB plL_ints fzL stBox inCells wrap0 wrap1 wrapm1 take_snoc
theorem best_run27 {N : Nat} {Es : List Ed} {L : List Int} (h : BOK N Es L) (hE : Es.length < 4294967295) (hL : L.length < 4294967295) : callL cfgS nBicliqueBest [.agg [.int .i64 N, .list 2 (eds Es), .list 1 (ints L)]] [] = some (bestV N Es L (bestC N Es L), []) := by
  have c1 := bchk_run h hE hL
  have c2 := bof_run h hE hL
  have c3 := each_run h (after := []) (by decide) (take_best N Es L []) none (fun S k => by cases k)
  rw [behC_nil h] at c3
  have hm := (foldB_mem (N := N) (Es := Es) (L := L) (allC N Es L) none).1
  have hb : (foldS (tkB N Es L) (allC N Es L) none).1 = bestC N Es L := rfl
  rw [hb] at c3 hm
  rw [callL_end oBicliqueBest sBicliqueBest (Nat.le_of_ble_eq_true rfl)]
  rw [ints_nil] at c3
  cases e : bestC N Es L with
  | none =>
    rw [e] at c3
    unfold bestV
    unfold tkH sdAV optP at c3
    unfold sdAV at c2
    unfold qBicliqueBest cBicliqueBest
    simp [rBicliqueBestX0, rBicliqueBestX1, rBicliqueBestX2, rBicliqueBestX3, rBicliqueBestX4, rBicliqueBestX5, rBicliqueBestX6, rBicliqueBestX7, rBicliqueBestX8, c1, c2, c3, sBicliqueCheck, iBicliqueCheck, sBicliqueOf, iBicliqueOf, sBicliqueSidesEach, iBicliqueSidesEach, cleanL_eds, cleanL_ints, cleanL_us, plp, plpL, allB, notBox, swC, seesC, inBox, relB, handBox, blk, eds_length, eds_get, edsAt, edAV, allLeaf_eds, cleanL_eds, cleanL_ints, ints_length, ints_get, intsAt, endL, finB]
  | some S =>
    have hS : S ≠ [] := by
      rcases hm S e with k | k
      · cases k
      · exact ((allC_mem h).1 k).1.2.1
    have h0 : ¬ (S.length : Int) = 0 := by have := List.length_pos_iff.2 hS; omega
    rw [e] at c3
    unfold bestV
    unfold tkH sdAV optP at c3
    unfold sdAV at c2
    generalize clR N Es L S = T at *
    unfold qBicliqueBest cBicliqueBest
    simp [rBicliqueBestX0, rBicliqueBestX1, rBicliqueBestX2, rBicliqueBestX3, rBicliqueBestX4, rBicliqueBestX5, rBicliqueBestX6, rBicliqueBestX7, rBicliqueBestX8, c1, c2, c3, h0, hS, sBicliqueCheck, iBicliqueCheck, sBicliqueOf, iBicliqueOf, sBicliqueSidesEach, iBicliqueSidesEach, cleanL_eds, cleanL_ints, cleanL_us, plp, plpL, allB, notBox, swC, seesC, inBox, relB, handBox, blk, eds_length, eds_get, edsAt, edAV, allLeaf_eds, cleanL_eds, cleanL_ints, ints_length, ints_get, intsAt, endL, finB]
end
end Go.BmP
