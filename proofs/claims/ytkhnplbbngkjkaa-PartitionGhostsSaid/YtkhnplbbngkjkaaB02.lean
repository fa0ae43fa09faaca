/- What partition.Ghosts returns. -/
import Derived.Test.YtkhnplbbngkjkaaB01
import Derived.Test.YtkhnplbbngkjkaaR02k
set_option linter.unusedSimpArgs false
set_option linter.unusedVariables false
set_option maxRecDepth 100000
set_option maxHeartbeats 4000000
namespace Go.BmP
open Go.Am Go.Bm
def endsL (F : List Ed) : List Int := F.flatMap fun e => [e.1, e.2]
theorem endsL_snoc (F : List Ed) (e : Ed) : endsL (F ++ [e]) = endsL F ++ [e.1, e.2] := by simp [endsL]
theorem endsL_length : ∀ F : List Ed, (endsL F).length = 2 * F.length
  | [] => rfl
  | e :: r => by
    have := endsL_length r
    unfold endsL at this ⊢
    simp only [List.flatMap_cons, List.length_append, this, List.length_cons, List.length_nil]
    omega
theorem endsL_mem {F : List Ed} {v : Int} : v ∈ endsL F ↔ ∃ e ∈ F, v = e.1 ∨ v = e.2 := by
  unfold endsL
  simp [List.mem_flatMap]
def goSt (N w : Nat) (Es : List Ed) (o hv : List Int) (x : Nat) (F : List Ed) (q : List Int) (i : Nat) (J : Env) : St := ⟨(4, .ptr 1 0) :: (5, .ptr 2 0) :: (10, .own 1 (ints q)) :: (24, .list 2 (eds F)) :: (25, .int .i64 F.length) :: (26, .int .i64 i) :: J, [some [.int .i64 N, .list 2 (eds Es)], some [.int .i64 w, .list 1 (ints o), .list 1 (ints hv)], some [.int .i64 x]]⟩
section
attribute [local simp] codeL_seq codeL_reg codeL_blk codeL_skip codeL_ret codeL_exit codeL_cnd condL_b thenL_n thenL_e thenL_r blkL_n blkL_e blkL_r regL_s opsB stepB opB opP opnd opnds lend lendC get_nil' get_cons' put_nil' put_cons' mem_nil' mem_cons' putdB putB slowP hasOwn hasOwnL finO relab anyB anyE anyH anyR borOf borL inSlot HAND endR hasOwnE endK keepIn trim noPtr noPtrL noPtrE noPtrH binA arith unA eqB isNilB eqc lenB bndB bnd rdN rdc AV.cells fillB peek ldOK AV.leaf allLeaf fz pl plL drawB allCW cwF okDrawB okPair Fq.ok dstOff wrOff notSlot noneIn apartR oldBoxes O.reads Kd.reads E.slot slots slotO slotsP List.getD pairIn nilL okRes clean cleanL resV resVs tupOf mkEnv partsBor doCallB inpB getArgs doCallO frzA frzV frzL minA minF cont ownAt at_ setAt rel dropS relC dropAll frzP frzAll firstBor borIn borC borS borE borH handTo mapSt mapE mapH mapB mapBL sw rt fb mvB mvRt seesP inRt isRoot rootOf boxOf seesB rootsL Am.rep ovw flatCells_ints allLeaf_ints flatCells el grp updE isNilB inpV inpL stB okL unA orcA bndB plL_ints fzL stBox inCells wrap0 wrap1 wrapm1 take_snoc BIGB marks boxZ ldLab cellOf cellN CELLM boxIn isCell apartC frzR frzRL frzS frzC frzCL locN notBox frzLab eatE0 isFn anyFn locB
theorem go_round (N w : Nat) (Es : List Ed) (o hv : List Int) (x : Nat) (F : List Ed) (hF : F.length < 1000000) (q : List Int) (hq : q.length < 4000000) (i : Nat) (hi : i < F.length) :
    codeL cfgS 0 lQiX0 (goSt N w Es o hv x F q i []) = some (.normal, goSt N w Es o hv x F (q ++ [F[i].1, F[i].2]) (i + 1) []) := by
  have k1 : (i : Int) < F.length := by omega
  have hw := wrapS (i := i) (by omega)
  have g3 : (eds F)[i]? = some (.agg [.int .i64 F[i].1, .int .i64 F[i].2]) := by rw [eds_get, List.getElem?_eq_getElem hi]; rfl
  have g4 : ∀ h, (eds F)[i]'h = .agg [.int .i64 F[i].1, .int .i64 F[i].2] := fun h => edsAt ..
  have g5 := eds_length F
  have g6 := ints_length q
  have hL : q.length + 2 ≤ 4294967296 := by omega
  unfold goSt lQiX0
  have sn : ints q ++ [.int .i64 F[i].1, .int .i64 F[i].2] = ints (q ++ [F[i].1, F[i].2]) := by simp [ints]
  have tk : (ints (q ++ [F[i].1, F[i].2])).take (q.length + 2) = ints (q ++ [F[i].1, F[i].2]) := List.take_of_length_le (by rw [ints_length]; simp)
  have tko : (ints q).take q.length = ints q := List.take_of_length_le (by omega)
  have cq := cleanL_ints q
  have aq := allLeaf_ints q
  have cF := cleanL_eds F
  have hj1 : ((i + 1 : Nat) : Int) = (i : Int) + 1 := rfl
  rw [hj1] at hw ⊢
  generalize ints (q ++ [F[i].1, F[i].2]) = Z at *
  generalize F[i].1 = u at *
  generalize F[i].2 = v at *
  generalize ints q = Q at *
  generalize ints o = O at *
  generalize ints hv = Hv at *
  generalize eds F = V at *
  generalize eds Es = Y at *
  simp [rQiX0, rQiX1, rQiX2, rQiX3, rQiX4, rQiX5, rQiX6, rQiX7, rQiX8, rQiX9, rQiX10, k1, hi, hw, g3, g4, g5, g6, hL, sn, tk, tko, cq, aq, cF, LIM, idx, blk, eds_length, eds_get, edsAt, edAV, allLeaf_eds, cleanL_eds, cleanL_ints, ints_length, ints_get, intsAt, endL, finB]
theorem go_loop (N w : Nat) (Es : List Ed) (o hv : List Int) (x : Nat) (F : List Ed) (hF : F.length < 1000000) : ∀ (k i : Nat) (q : List Int), i + k = F.length → q.length ≤ 2 * i →
    codeL cfgS 0 (.loop lQiX0) (goSt N w Es o hv x F q i []) = some (.exit 0, goSt N w Es o hv x F (q ++ endsL (F.drop i)) F.length [(27, .bool false)])
  | 0, i, q, hi, hq => by
    obtain rfl : i = F.length := by omega
    rw [List.drop_length]
    have e0 : endsL [] = [] := rfl
    rw [e0, List.append_nil]
    refine loop_exit ?_
    unfold goSt lQiX0
    have g5 := eds_length F
    generalize eds F = V at *
    generalize eds Es = Y at *
    generalize ints o = O at *
    generalize ints hv = Hv at *
    simp [rQiX0, rQiX1, rQiX2, rQiX3, rQiX4, rQiX5, rQiX6, rQiX7, rQiX8, rQiX9, rQiX10, g5, blk, eds_length, eds_get, edsAt, edAV, allLeaf_eds, cleanL_eds, cleanL_ints, ints_length, ints_get, intsAt, endL, finB]
  | k + 1, i, q, hi, hq => by
    have hlt : i < F.length := by omega
    refine (loop_next (go_round N w Es o hv x F hF q (by omega) i hlt)).trans ((go_loop N w Es o hv x F hF k (i + 1) _ (by omega) (by rw [List.length_append]; simp only [List.length_cons, List.length_nil]; omega)).trans ?_)
    rw [List.drop_eq_getElem_cons hlt, List.append_assoc]
    rfl
end
theorem intsOf_map (zs : List Int) : intsOf (ints zs) = some zs := intsOf_ints zs
theorem delf_eq (k : Int) (o hv q : List Int) (x : Nat) (hq : q.length ≤ 4294967296) (hb : ∀ z ∈ q, 0 ≤ z ∧ z < (o.length : Int)) : delfG nQw 1 (ints q) [.func (.func nQw) [] [.fptr [.int .i64 k, .list 1 (ints o), .list 1 (ints hv)], .fptr [.int .i64 x]]] = some (ints (q.filter fun z => !ownsB o x z)) := by
  unfold delfG
  simp only
  rw [if_pos ⟨trivial, trivial, by rw [ints_length]; unfold LIM; exact hq⟩, intsOf_map, intsOf_map]
  simp only
  rw [if_pos hb]
  rfl
def ghL (w : Nat) (o hv : List Int) (x : Nat) (Es : List Ed) : List Int := setOf ((endsL (lcE w o hv x Es)).filter fun z => !ownsB o x z)
theorem lcE_sub {w : Nat} {o hv : List Int} {x : Int} {Es : List Ed} {e : Ed} (h : e ∈ lcE w o hv x Es) : e ∈ Es := (List.mem_filter.1 h).1
theorem lcE_len (w : Nat) (o hv : List Int) (x : Int) (Es : List Ed) : (lcE w o hv x Es).length ≤ Es.length := List.length_filter_le _ _
section
attribute [local simp] codeL_seq codeL_reg codeL_blk codeL_skip codeL_ret codeL_exit codeL_cnd condL_b thenL_n thenL_e thenL_r blkL_n blkL_e blkL_r regL_s opsB stepB opB opP opnd opnds lend lendC get_nil' get_cons' put_nil' put_cons' mem_nil' mem_cons' putdB putB slowP hasOwn hasOwnL finO relab anyB anyE anyH anyR borOf borL inSlot HAND endR hasOwnE endK keepIn trim noPtr noPtrL noPtrE noPtrH binA arith unA eqB isNilB eqc lenB bndB bnd rdN rdc AV.cells fillB peek ldOK AV.leaf allLeaf fz pl plL drawB allCW cwF okDrawB okPair Fq.ok dstOff wrOff notSlot noneIn apartR oldBoxes O.reads Kd.reads E.slot slots slotO slotsP List.getD pairIn nilL okRes clean cleanL resV resVs tupOf mkEnv partsBor doCallB inpB getArgs doCallO frzA frzV frzL minA minF cont ownAt at_ setAt rel dropS relC dropAll frzP frzAll firstBor borIn borC borS borE borH handTo mapSt mapE mapH mapB mapBL sw rt fb mvB mvRt seesP inRt isRoot rootOf boxOf seesB rootsL Am.rep ovw flatCells_ints allLeaf_ints flatCells el grp updE isNilB inpV inpL stB okL unA orcA bndB plL_ints fzL stBox inCells wrap0 wrap1 wrapm1 take_snoc BIGB marks boxZ ldLab cellOf cellN CELLM boxIn isCell apartC frzR frzRL frzS frzC frzCL locN notBox frzLab eatE0 isFn anyFn locB
theorem ghosts_run {N w : Nat} (h0 : 1 ≤ w) (h1 : w ≤ 8) {Es : List Ed} (hG : GOK (N : Int) Es) (hE : Es.length < 100000) (o hv : List Int) (ho : o.length = N) (hh : hv.length < 1000000) (hV : valGo N (-1) hv = true) (hb : ∀ x ∈ o, 0 ≤ x ∧ x < (w : Int)) (x : Nat) (hx : x < w) : callL cfgS nQi [.agg [.int .i64 N, .list 2 (eds Es)], .agg [.int .i64 w, .list 1 (ints o), .list 1 (ints hv)], .int .i64 x] [] = some (.tup [.list 1 (ints (ghL w o hv x Es)), .int .i64 0], []) := by
  have hN := hG.1
  have lc := local_run h0 h1 hG (by omega) o hv ho hh hV hb x hx
  have fl := lcE_len w o hv x Es
  have hz : ∀ z ∈ endsL (lcE w o hv x Es), 0 ≤ z ∧ z < (o.length : Int) := fun z hz => by
    obtain ⟨e, he, q⟩ := endsL_mem.1 hz
    have := hG.2.2 e (lcE_sub he)
    rcases q with rfl | rfl <;> omega
  unfold ghL
  generalize lcE w o hv x Es = F at *
  have lp := go_loop N w Es o hv x F (by omega) F.length 0 [] (by omega) (by simp)
  rw [List.drop_zero, List.nil_append] at lp
  have le := endsL_length F
  have df := delf_eq (w : Int) o hv (endsL F) x (by omega) hz
  have lf := List.length_filter_le (fun z => !ownsB o x z) (endsL F)
  have nf := nof_run ((endsL F).filter fun z => !ownsB o x z) (by omega)
  clear hz
  generalize (endsL F).filter (fun z => !ownsB o x z) = G at *
  have g1 := ints_length (endsL F)
  have g2 := ints_length G
  have g3 := eds_length F
  have tk1 : (ints (endsL F)).take (endsL F).length = ints (endsL F) := List.take_of_length_le (by omega)
  have tk2 : (ints G).take G.length = ints G := List.take_of_length_le (by omega)
  have c1 := cleanL_ints (endsL F)
  have c2 := cleanL_ints G
  have c3 := cleanL_eds F
  have c4 := cleanL_ints o
  have c5 := cleanL_ints hv
  unfold goSt at lp
  rw [nat0, ints_nil] at lp
  rw [callL_end oQi sQi (Nat.le_of_ble_eq_true rfl)]
  unfold qQi cQi
  generalize endsL F = q at *
  generalize ints (setOf G) = Z at *
  generalize ints q = Q at *
  generalize ints G = GG at *
  generalize ints o = O at *
  generalize ints hv = Hv at *
  generalize eds F = V at *
  generalize eds Es = Y at *
  simp [rQiX0, rQiX1, rQiX2, rQiX3, rQiX4, rQiX5, rQiX6, rQiX7, rQiX8, rQiX9, rQiX10, lc, lp, df, nf, g1, g2, g3, tk1, tk2, c1, c2, c3, c4, c5, eatV, eatL, eatE, capL, capC, capV, LIM, sQh, iQh, eQh, sQv, iQv, eQv, sQu, iQu, eQu, plp, plpL, allB, notBox, swC, swS, seesC, inBox, relB, handBox, mvBB, mvRtB, offBoxes, offLab, calmB, ptrs, ptrsL, blkE, avE, avLE, blk, eds_length, eds_get, edsAt, edAV, allLeaf_eds, cleanL_eds, cleanL_ints, ints_length, ints_get, intsAt, endL, finB]
end
end Go.BmP
