/- What biclique's each does with the maximal pairs behind a list, and what All returns. -/
import Derived.Test.YtikffbngaolphaaDoorG17
set_option linter.unusedSimpArgs false
set_option linter.unusedVariables false
set_option maxRecDepth 100000
set_option maxHeartbeats 4000000
namespace Go.BmP
open Go.Am Go.Bm
def tkH (N : Nat) (Es : List Ed) (L : List Int) (x1 x2 : List AV) : Heap := [some [.int .i64 N, .list 2 (eds Es), .list 1 (ints L)], some x1, some x2]
/-- The maximal pairs behind a list. -/
def behC (N : Nat) (Es : List Ed) (L after : List Int) : List (List Int) := (allC N Es L).filter fun S => decide (cmpL S after = 1)
section
attribute [local simp] codeL_seq codeL_reg codeL_blk codeL_skip codeL_ret codeL_exit codeL_cnd condL_b thenL_n thenL_e thenL_r blkL_n blkL_e blkL_r regL_s opsB stepB opB opP opnd opnds lend lendC get_nil' get_cons' put_nil' put_cons' mem_nil' mem_cons' putdB putB slowP hasOwn hasOwnL finO relab anyB anyE anyH anyR borOf borL inSlot HAND endR hasOwnE endK keepIn trim noPtr noPtrL noPtrE noPtrH binA arith unA eqB isNilB eqc lenB bndB bnd rdN rdc AV.cells fillB peek ldOK AV.leaf allLeaf fz pl plL drawB allCW cwF okDrawB okPair Fq.ok dstOff wrOff notSlot noneIn apartR oldBoxes O.reads Kd.reads E.slot slots slotO slotsP List.getD pairIn nilL okRes clean cleanL resV resVs tupOf mkEnv partsBor doCallB inpB getArgs doCallO frzA frzV frzL minA minF cont ownAt at_ setAt rel dropS relC dropAll frzP frzAll firstBor borIn borC borS borE borH handTo mapSt mapE mapH mapB mapBL sw rt fb mvB mvRt seesP inRt isRoot rootOf boxOf seesB rootsL Am.rep ovw flatCells_ints allLeaf_ints flatCells el grp updE isNilB inpV inpL stB okL unA orcA bndB plL_ints fzL stBox inCells wrap0 wrap1 wrapm1 take_snoc
theorem each_run {N : Nat} {Es : List Ed} {L : List Int} (h : BOK N Es L) {x1 caps : List AV} {nT : Nat} {after : List Int} (ha : after.length < 9223372036854775808) {σ : Type} {X2 : σ → List AV} {tk : σ → List Int → σ × Bool} {Inv : σ → Prop} (hT : TakeOK N Es L after x1 nT caps X2 tk Inv) (s : σ) (hs : Inv s) : callL cfgS nBicliqueSidesEach [.agg (sdAV (adjE N Es) (msk L) (rgt N L)), .list 1 (ints after), .func (.func nT) [] caps] (tkH N Es L x1 (X2 s)) = some (.tup [], tkH N Es L x1 (X2 (foldS tk (behC N Es L after) s).1)) := by
  have hb := bOK_bd h (S := L) (fun _ k => k)
  have bl : bitL (msk L &&& (18446744073709551615 - bh [])) = L := cand_nil h.l.1 hb
  have ml : msk L < 18446744073709551616 := msk_lt fun v hv => (hb v hv).2
  have wl := walk_loop h hT ha L [] true s (msk L &&& (18446744073709551615 - bh [])) (Nat.lt_of_le_of_lt Nat.and_le_left ml) bl (by simpa using h.l.1) (by simp) ⟨[], rfl⟩ hs
  have we := walkA_eq (cl := clL N Es L) (ne := nonE N Es L) (after := after) L [] true (fun _ => ⟨after, rfl⟩) (fun k => by cases k)
  have ea : walkE (clL N Es L) (nonE N Es L) L [] = allC N Es L := rfl
  rw [ea] at we
  have eb : ((allC N Es L).filter fun S => decide (cmpL S after = 1)) = behC N Es L after := rfl
  rw [eb] at we
  have cc := call_of h hT s (P := []) (by simp) (by simp) true _ wl
  rw [we] at cc
  generalize foldS tk (behC N Es L after) s = R at *
  clear we wl
  rw [callL_end oBicliqueSidesEach sBicliqueSidesEach (Nat.le_of_ble_eq_true rfl)]
  have key : ∃ b P2, callL cfgS nBicliqueSidesEach1 (eA (cR N Es L []) true) (eH N Es L x1 (X2 s) nT caps after []) = some (.bool b, eH N Es L x1 (X2 R.1) nT caps after P2) := by
    by_cases k : R.2 = true
    · exact ⟨_, _, (cc.1 k).1⟩
    · obtain ⟨P2, e⟩ := cc.2 (Bool.eq_false_iff.2 k)
      exact ⟨_, _, e⟩
  obtain ⟨b, P2, e⟩ := key
  clear cc bl
  rw [cR_nil] at e
  obtain ⟨pm1, pb1, pn1, pc1⟩ := hT.px1
  obtain ⟨pm2, pb2, pn2, pc2⟩ := hT.px2 s
  obtain ⟨pm4, pb4, pn4, pc4⟩ := hT.px2 R.1
  obtain ⟨pm3, pb3, po3, pp3, pl3, pn3⟩ := hT.cp
  have n3 := pn3 3 (by omega)
  have n4 := pn3 4 (by omega)
  have n5 := pn3 5 (by omega)
  have n6 := pn3 6 (by omega)
  have n7 := pn3 7 (by omega)
  clear pn3
  unfold eA eH sdAV at e
  unfold tkH sdAV
  rw [ints_nil] at e
  generalize X2 R.1 = Y at *
  generalize X2 s = Y0 at *
  unfold qBicliqueSidesEach cBicliqueSidesEach
  simp [rBicliqueSidesEachX0, rBicliqueSidesEachX1, rBicliqueSidesEachX2, rBicliqueSidesEachX3, rBicliqueSidesEachX4, e, plp, plpL, allB, notBox, swC, seesC, inBox, finS, swS, mapH, sBicliqueSidesEach1, iBicliqueSidesEach1, pm1, pb1, pn1, pc1, pm2, pb2, pn2, pc2, pm3, pb3, po3, pp3, pl3, pm4, pb4, pn4, pc4, n3, n4, n5, n6, n7, blk, eds_length, eds_get, edsAt, edAV, allLeaf_eds, cleanL_eds, cleanL_ints, ints_length, ints_get, intsAt, endL, finB]
end
theorem prs_get (N : Nat) (Es : List Ed) (L : List Int) (o : List (List Int)) (i : Nat) : (prs N Es L o)[i]? = (o[i]?).map fun S => pr S (clR N Es L S) := List.getElem?_map
theorem prsAt (N : Nat) (Es : List Ed) (L : List Int) (o : List (List Int)) (i : Nat) (h : i < (prs N Es L o).length) : (prs N Es L o)[i] = .agg [.list 1 (ints (o[i]'(by simpa [prs] using h))), .list 1 (ints (clR N Es L (o[i]'(by simpa [prs] using h))))] := by simp [prs, pr]
theorem plain_own (k : Nat) (x : List AV) : Plain [.own k x] := ⟨fun _ => rfl, rfl, fun _ => rfl, fun _ _ _ => rfl⟩
theorem plain_int (k : IntKind) (x : Int) : Plain [.int k x] := ⟨fun _ => rfl, rfl, fun _ => rfl, fun _ _ _ => rfl⟩
theorem plain_oo : Plain [.own 1 [], .own 1 []] := ⟨fun _ => rfl, rfl, fun _ => rfl, fun _ _ _ => rfl⟩
theorem plain_ll (x y : List AV) : Plain [.list 1 x, .list 1 y] := ⟨fun _ => rfl, rfl, fun _ => rfl, fun _ _ _ => rfl⟩
theorem plainC_2 : PlainC [.ptr 2 0] := ⟨fun _ => rfl, rfl, rfl, rfl, rfl, fun b hb => by simp [noPtrL, noPtr]; omega⟩
theorem plainC_21 : PlainC [.ptr 2 0, .ptr 1 0] := ⟨fun _ => rfl, rfl, rfl, rfl, rfl, fun b hb => by simp [noPtrL, noPtr]; omega⟩
section
attribute [local simp] codeL_seq codeL_reg codeL_blk codeL_skip codeL_ret codeL_exit codeL_cnd condL_b thenL_n thenL_e thenL_r blkL_n blkL_e blkL_r regL_s opsB stepB opB opP opnd opnds lend lendC get_nil' get_cons' put_nil' put_cons' mem_nil' mem_cons' putdB putB slowP hasOwn hasOwnL finO relab anyB anyE anyH anyR borOf borL inSlot HAND endR hasOwnE endK keepIn trim noPtr noPtrL noPtrE noPtrH binA arith unA eqB isNilB eqc lenB bndB bnd rdN rdc AV.cells fillB peek ldOK AV.leaf allLeaf fz pl plL drawB allCW cwF okDrawB okPair Fq.ok dstOff wrOff notSlot noneIn apartR oldBoxes O.reads Kd.reads E.slot slots slotO slotsP List.getD pairIn nilL okRes clean cleanL resV resVs tupOf mkEnv partsBor doCallB inpB getArgs doCallO frzA frzV frzL minA minF cont ownAt at_ setAt rel dropS relC dropAll frzP frzAll firstBor borIn borC borS borE borH handTo mapSt mapE mapH mapB mapBL sw rt fb mvB mvRt seesP inRt isRoot rootOf boxOf seesB rootsL Am.rep ovw flatCells_ints allLeaf_ints flatCells el grp updE isNilB inpV inpL stB okL unA orcA bndB plL_ints fzL stBox inCells wrap0 wrap1 wrapm1 take_snoc
theorem take_run (N : Nat) (Es : List Ed) (L : List Int) (most : Int) (after : List Int) (o : List (List Int)) (P S : List Int) (ho : o.length < 4294967295) : callL cfgS nBicliqueAll1 [.agg [.list 1 (ints S), .list 1 (ints (clR N Es L S))], .ptr 2 0, .ptr 1 0] (eH N Es L [.int .i64 most] [.own 2 (prs N Es L o)] nBicliqueAll1 [.ptr 2 0, .ptr 1 0] after P) = some (.bool (decide ((o.length : Int) + 1 ≤ most)), eH N Es L [.int .i64 most] [.own 2 (prs N Es L (o ++ [S]))] nBicliqueAll1 [.ptr 2 0, .ptr 1 0] after P) := by
  rw [callL_end oBicliqueAll1 sBicliqueAll1 (Nat.le_of_ble_eq_true rfl)]
  have h1 : o.length + 1 ≤ 4294967296 := by omega
  have h2 := prs_snoc N Es L o S
  have h3 := prs_length N Es L o
  have ht : (prs N Es L o).take o.length = prs N Es L o := by rw [← h3, List.take_length]
  have h4 := prs_length N Es L (o ++ [S])
  have h5 : (prs N Es L (o ++ [S])).take (o.length + 1) = prs N Es L (o ++ [S]) := by
    have := List.take_length (l := prs N Es L (o ++ [S]))
    rwa [h4, List.length_append] at this
  unfold eH sdAV
  generalize hX : prs N Es L (o ++ [S]) = X at *
  generalize hY : prs N Es L o = Y at *
  unfold qBicliqueAll1 cBicliqueAll1
  simp [rBicliqueAll1X0, rBicliqueAll1X1, rBicliqueAll1X2, h1, h2, h3, ht, h4, h5, LIM, finS, plp, plpL, swS, mapH, mapBL, mapB, blk, eds_length, eds_get, edsAt, edAV, allLeaf_eds, cleanL_eds, cleanL_ints, ints_length, ints_get, intsAt, endL, finB]
end
theorem take_all (N : Nat) (Es : List Ed) (L : List Int) {most : Int} (hm : most ≤ 4096) (after : List Int) : TakeOK N Es L after [.int .i64 most] nBicliqueAll1 [.ptr 2 0, .ptr 1 0] (fun o => [.own 2 (prs N Es L o)]) (tkA most) (fun o => (o.length : Int) ≤ most) :=
  ⟨⟨_, sBicliqueAll1⟩, plain_int _ _, fun _ => plain_own _ _, plainC_21, fun s S P hs _ _ => take_run N Es L most after s P S (by omega), fun s S hs _ _ k => by
    have : (s.length : Int) + 1 ≤ most := of_decide_eq_true k
    show ((s ++ [S]).length : Int) ≤ most
    simp
    omega⟩
theorem foldS_more {most : Int} : ∀ (l o : List (List Int)), (o.length : Int) ≤ most → most < (o.length : Int) + l.length → ((foldS (tkA most) l o).1.length : Int) = most + 1
  | [], o, h, k => by simp at k; omega
  | S :: l, o, h, k => by
    by_cases c : (o.length : Int) + 1 ≤ most
    · rw [foldA_t S l c]
      exact foldS_more l (o ++ [S]) (by simp; omega) (by simp at k ⊢; omega)
    · rw [foldA_f S l c]
      simp
      omega
theorem behC_nil {N : Nat} {Es : List Ed} {L : List Int} (h : BOK N Es L) : behC N Es L [] = allC N Es L := by
  unfold behC
  rw [List.filter_eq_self]
  intro S hS
  have := ((allC_mem h).1 hS).1.2.1
  cases S with
  | nil => exact absurd rfl this
  | cons x r => rfl
/-- What All returns. -/
def allV (N : Nat) (Es : List Ed) (L : List Int) (most : Int) : AV := if most < 0 ∨ 4096 < most then .tup [.list 2 [], .int .i64 1] else if ((allC N Es L).length : Int) ≤ most then .tup [.list 2 (prs N Es L (allC N Es L)), .int .i64 0] else .tup [.list 2 [], .int .i64 3]
section
attribute [local simp] codeL_seq codeL_reg codeL_blk codeL_skip codeL_ret codeL_exit codeL_cnd condL_b thenL_n thenL_e thenL_r blkL_n blkL_e blkL_r regL_s opsB stepB opB opP opnd opnds lend lendC get_nil' get_cons' put_nil' put_cons' mem_nil' mem_cons' putdB putB slowP hasOwn hasOwnL finO relab anyB anyE anyH anyR borOf borL inSlot HAND endR hasOwnE endK keepIn trim noPtr noPtrL noPtrE noPtrH binA arith unA eqB isNilB eqc lenB bndB bnd rdN rdc AV.cells fillB peek ldOK AV.leaf allLeaf fz pl plL drawB allCW cwF okDrawB okPair Fq.ok dstOff wrOff notSlot noneIn apartR oldBoxes O.reads Kd.reads E.slot slots slotO slotsP List.getD pairIn nilL okRes clean cleanL resV resVs tupOf mkEnv partsBor doCallB inpB getArgs doCallO frzA frzV frzL minA minF cont ownAt at_ setAt rel dropS relC dropAll frzP frzAll firstBor borIn borC borS borE borH handTo mapSt mapE mapH mapB mapBL sw rt fb mvB mvRt seesP inRt isRoot rootOf boxOf seesB rootsL Am.rep ovw flatCells_ints allLeaf_ints flatCells el grp updE isNilB inpV inpL stB okL unA orcA bndB plL_ints fzL stBox inCells wrap0 wrap1 wrapm1 take_snoc
theorem all_run {N : Nat} {Es : List Ed} {L : List Int} (h : BOK N Es L) (hE : Es.length < 4294967295) (hL : L.length < 4294967295) (most : Int) : callL cfgS nBicliqueAll [.agg [.int .i64 N, .list 2 (eds Es), .list 1 (ints L)], .int .i64 most] [] = some (allV N Es L most, []) := by
  have c1 := bchk_run h hE hL
  have c2 := bof_run h hE hL
  rw [callL_end oBicliqueAll sBicliqueAll (Nat.le_of_ble_eq_true rfl)]
  by_cases k1 : most < 0
  · have e : allV N Es L most = AV.tup [.list 2 [], .int .i64 1] := if_pos (.inl k1)
    rw [e]
    unfold qBicliqueAll cBicliqueAll
    simp [rBicliqueAllX0, rBicliqueAllX1, rBicliqueAllX2, rBicliqueAllX3, rBicliqueAllX4, rBicliqueAllX5, rBicliqueAllX6, rBicliqueAllX7, rBicliqueAllX8, rBicliqueAllX9, rBicliqueAllX10, c1, k1, sBicliqueCheck, iBicliqueCheck, cleanL_eds, cleanL_ints, blk, eds_length, eds_get, edsAt, edAV, allLeaf_eds, cleanL_eds, cleanL_ints, ints_length, ints_get, intsAt, endL, finB]
  by_cases k2 : 4096 < most
  · have e : allV N Es L most = AV.tup [.list 2 [], .int .i64 1] := if_pos (.inr k2)
    rw [e]
    unfold qBicliqueAll cBicliqueAll
    simp [rBicliqueAllX0, rBicliqueAllX1, rBicliqueAllX2, rBicliqueAllX3, rBicliqueAllX4, rBicliqueAllX5, rBicliqueAllX6, rBicliqueAllX7, rBicliqueAllX8, rBicliqueAllX9, rBicliqueAllX10, c1, k1, k2, sBicliqueCheck, iBicliqueCheck, cleanL_eds, cleanL_ints, blk, eds_length, eds_get, edsAt, edAV, allLeaf_eds, cleanL_eds, cleanL_ints, ints_length, ints_get, intsAt, endL, finB]
  unfold allV
  rw [if_neg (by omega)]
  have c3 := each_run h (after := []) (by decide) (take_all N Es L (most := most) (by omega) []) [] (by simp; omega)
  rw [behC_nil h] at c3
  by_cases k3 : ((allC N Es L).length : Int) ≤ most
  · have f := foldS_all (most := most) (allC N Es L) [] (by simpa using k3)
    rw [List.nil_append] at f
    rw [f] at c3
    rw [if_pos k3]
    have l1 : ¬ most < ((allC N Es L).length : Int) := by omega
    have hpl := prs_length N Es L (allC N Es L)
    have tk : (prs N Es L (allC N Es L)).take (allC N Es L).length = prs N Es L (allC N Es L) := by rw [← hpl, List.take_length]
    unfold tkH sdAV at c3
    unfold sdAV at c2
    rw [show prs N Es L [] = [] from rfl, ints_nil] at c3
    generalize prs N Es L (allC N Es L) = Y at *
    unfold qBicliqueAll cBicliqueAll
    simp [rBicliqueAllX0, rBicliqueAllX1, rBicliqueAllX2, rBicliqueAllX3, rBicliqueAllX4, rBicliqueAllX5, rBicliqueAllX6, rBicliqueAllX7, rBicliqueAllX8, rBicliqueAllX9, rBicliqueAllX10, c1, c2, c3, k1, k2, l1, hpl, tk, sBicliqueCheck, iBicliqueCheck, sBicliqueOf, iBicliqueOf, sBicliqueSidesEach, iBicliqueSidesEach, cleanL_eds, cleanL_ints, cleanL_us, plp, plpL, allB, notBox, swC, seesC, inBox, blk, eds_length, eds_get, edsAt, edAV, allLeaf_eds, cleanL_eds, cleanL_ints, ints_length, ints_get, intsAt, endL, finB]
  · have f := foldS_more (most := most) (allC N Es L) [] (by simp; omega) (by simp; omega)
    rw [if_neg k3]
    generalize (foldS (tkA most) (allC N Es L) []).1 = o at *
    have l1 : most < (o.length : Int) := by omega
    have hpl := prs_length N Es L o
    unfold tkH sdAV at c3
    unfold sdAV at c2
    rw [show prs N Es L [] = [] from rfl, ints_nil] at c3
    generalize prs N Es L o = Y at *
    unfold qBicliqueAll cBicliqueAll
    simp [rBicliqueAllX0, rBicliqueAllX1, rBicliqueAllX2, rBicliqueAllX3, rBicliqueAllX4, rBicliqueAllX5, rBicliqueAllX6, rBicliqueAllX7, rBicliqueAllX8, rBicliqueAllX9, rBicliqueAllX10, c1, c2, c3, k1, k2, l1, hpl, sBicliqueCheck, iBicliqueCheck, sBicliqueOf, iBicliqueOf, sBicliqueSidesEach, iBicliqueSidesEach, cleanL_eds, cleanL_ints, cleanL_us, plp, plpL, allB, notBox, swC, seesC, inBox, blk, eds_length, eds_get, edsAt, edAV, allLeaf_eds, cleanL_eds, cleanL_ints, ints_length, ints_get, intsAt, endL, finB]
end
end Go.BmP
