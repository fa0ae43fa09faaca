/- The law of ghosts returns true. -/
import Derived.Test.YtkhnplbbngkjkaaB02
import Derived.Test.YtkhnplbbngkjkaaL01
import Derived.Test.YtkhnplbbngkjkaaR02c
set_option linter.unusedSimpArgs false
set_option linter.unusedVariables false
set_option maxRecDepth 100000
set_option maxHeartbeats 4000000
namespace Go.BmP
open Go.Am Go.Bm
theorem awake37 : callL cfgS nQd [] [] = some (.bool true, []) := callL_iff.2 ⟨3000, by kernel_rfl⟩
def gsE (w : Nat) (o : List Int) (x : Nat) (Es : List Ed) : List Int := (endsL (lcE w o [] x Es)).filter fun z => !ownsB o x z
theorem hmE_nil (w : Nat) (o : List Int) (e : Ed) (h : 0 ≤ e.1) : hmE w o [] e = o.getD e.1.toNat 0 := by
  unfold hmE hmV
  simp
theorem lcE_snoc (w : Nat) (o : List Int) (x : Nat) (L : List Ed) (e : Ed) (h : 0 ≤ e.1) : lcE w o [] x (L ++ [e]) = lcE w o [] x L ++ (if o.getD e.1.toNat 0 = (x : Int) then [e] else []) := by
  unfold lcE
  rw [List.filter_append, List.filter_cons, List.filter_nil, hmE_nil w o e h]
  by_cases q : o.getD e.1.toNat 0 = (x : Int)
  · rw [if_pos q, decide_eq_true q]; rfl
  · rw [if_neg q, decide_eq_false q]; rfl
theorem gsE_snoc (w : Nat) (o : List Int) (x : Nat) (L : List Ed) (e : Ed) (h : 0 ≤ e.1) : gsE w o x (L ++ [e]) = gsE w o x L ++ (if o.getD e.1.toNat 0 = (x : Int) ∧ ¬ o.getD e.2.toNat 0 = (x : Int) then [e.2] else []) := by
  unfold gsE
  rw [lcE_snoc w o x L e h]
  by_cases q : o.getD e.1.toNat 0 = (x : Int)
  · rw [if_pos q, endsL_snoc, List.filter_append]
    congr 1
    have a1 : ownsB o x e.1 = true := decide_eq_true q
    by_cases r : o.getD e.2.toNat 0 = (x : Int)
    · have a2 : ownsB o x e.2 = true := decide_eq_true r
      rw [if_neg (fun z => z.2 r)]
      simp [a1, a2]
    · have a2 : ownsB o x e.2 = false := decide_eq_false r
      rw [if_pos ⟨q, r⟩]
      simp [a1, a2]
  · rw [if_neg q, if_neg (fun z => q z.1), List.append_nil, List.append_nil]
def pbH (w : Nat) (o : List Int) (HV : AV) : Blk := some [.int .i64 w, .list 1 (ints o), HV]
def gq0 (l : List Int) (a N w : Nat) (Es : List Ed) (o : List Int) (HV : AV) (x : Nat) (E : List Int) (n i : Nat) (J : Env) : St := ⟨(4, .ptr 1 0) :: (5, .ptr 2 0) :: (6, .int .i64 x) :: (7, .own 1 (ints E)) :: (8, .int .i64 n) :: (35, .list 2 (eds Es)) :: (36, .int .i64 Es.length) :: (37, .int .i64 i) :: J, [dk l a, gb N Es, pbH w o HV]⟩
section
attribute [local simp] codeL_seq codeL_reg codeL_blk codeL_skip codeL_ret codeL_exit codeL_cnd condL_b thenL_n thenL_e thenL_r blkL_n blkL_e blkL_r regL_s opsB stepB opB opP opnd opnds lend lendC get_nil' get_cons' put_nil' put_cons' mem_nil' mem_cons' putdB putB slowP hasOwn hasOwnL finO relab anyB anyE anyH anyR borOf borL inSlot HAND endR hasOwnE endK keepIn trim noPtr noPtrL noPtrE noPtrH binA arith unA eqB isNilB eqc lenB bndB bnd rdN rdc AV.cells fillB peek ldOK AV.leaf allLeaf fz pl plL drawB allCW cwF okDrawB okPair Fq.ok dstOff wrOff notSlot noneIn apartR oldBoxes O.reads Kd.reads E.slot slots slotO slotsP List.getD pairIn nilL okRes clean cleanL resV resVs tupOf mkEnv partsBor doCallB inpB getArgs doCallO frzA frzV frzL minA minF cont ownAt at_ setAt rel dropS relC dropAll frzP frzAll firstBor borIn borC borS borE borH handTo mapSt mapE mapH mapB mapBL sw rt fb mvB mvRt seesP inRt isRoot rootOf boxOf seesB rootsL Am.rep ovw flatCells_ints allLeaf_ints flatCells el grp updE isNilB inpV inpL stB okL unA orcA bndB plL_ints fzL stBox inCells wrap0 wrap1 wrapm1 take_snoc BIGB marks boxZ ldLab cellOf cellN CELLM boxIn isCell apartC frzR frzRL frzS frzC frzCL locN notBox frzLab eatE0 isFn anyFn locB
theorem gq0_round (l : List Int) (a N w : Nat) (Es : List Ed) (hE : Es.length < 100000) (o : List Int) (ho : o.length = N) (hN : N ≤ 64) (HV : AV) (hHV : HV = .own 1 [] ∨ HV = .list 1 []) (x : Nat) (E : List Int) (lE : E.length < 1000000) (n i : Nat) (hn : n < 1000000) (hi : i < Es.length) (he : 0 ≤ Es[i].1 ∧ Es[i].1 < Es[i].2 ∧ Es[i].2 < (N : Int)) :
    codeL cfgS 0 lQaX0 (gq0 l a N w Es o HV x E n i []) = some (.normal, gq0 l a N w Es o HV x (E ++ if o.getD Es[i].1.toNat 0 = (x : Int) ∧ ¬ o.getD Es[i].2.toNat 0 = (x : Int) then [Es[i].2] else []) (if o.getD Es[i].1.toNat 0 = (x : Int) then n + 1 else n) (i + 1) []) := by
  obtain ⟨u, hu⟩ : ∃ u : Nat, Es[i].1 = u := ⟨Es[i].1.toNat, by omega⟩
  obtain ⟨v, hv2⟩ : ∃ v : Nat, Es[i].2 = v := ⟨Es[i].2.toNat, by omega⟩
  rw [hu, hv2, show ((u : Int)).toNat = u by omega, show ((v : Int)).toNat = v by omega]
  have k1 : (i : Int) < Es.length := by omega
  have hw := wrapS (i := i) (by omega)
  have hwn := wrapS (i := n) (by omega)
  have g3 : (eds Es)[i]? = some (.agg [.int .i64 u, .int .i64 v]) := by rw [eds_get, List.getElem?_eq_getElem hi]; simp [edAV, hu, hv2]
  have g4 : ∀ h, (eds Es)[i]'h = .agg [.int .i64 u, .int .i64 v] := fun h => by
    have := List.getElem?_eq_getElem (l := eds Es) h
    rw [g3] at this
    exact (Option.some.inj this).symm
  have g5 := eds_length Es
  have lu : u < o.length := by omega
  have lv : v < o.length := by omega
  have ku : (u : Int) < o.length := by omega
  have kv : (v : Int) < o.length := by omega
  have at_ : ∀ j : Nat, j < o.length → (ints o)[j]? = some (.int .i64 (o.getD j 0)) := fun j hj => by
    rw [ints_get, List.getElem?_eq_getElem hj]; simp [List.getD_eq_getElem?_getD, List.getElem?_eq_getElem hj]
  have g6 := at_ u lu
  have g7 := at_ v lv
  have gg : ∀ (j : Nat) (y : AV), (ints o)[j]? = some y → ∀ h, (ints o)[j]'h = y := fun j y e h => by
    have := List.getElem?_eq_getElem (l := ints o) h
    rw [e] at this
    exact (Option.some.inj this).symm
  have g6' := gg _ _ g6
  have g7' := gg _ _ g7
  have g8 := ints_length o
  have g9 := ints_length E
  have hL : E.length + 1 ≤ 4294967296 := by omega
  have sn : ints E ++ [.int .i64 (v : Int)] = ints (E ++ [(v : Int)]) := ints_snoc E v
  have tk : (ints (E ++ [(v : Int)])).take (E.length + 1) = ints (E ++ [(v : Int)]) := List.take_of_length_le (by rw [ints_length]; simp)
  have tko : (ints E).take E.length = ints E := List.take_of_length_le (by omega)
  have cE := cleanL_ints E
  have aE := allLeaf_ints E
  have hj1 : ((i + 1 : Nat) : Int) = (i : Int) + 1 := rfl
  have hj2 : ((n + 1 : Nat) : Int) = (n : Int) + 1 := rfl
  clear at_ gg
  generalize o.getD u 0 = ou at *
  generalize o.getD v 0 = ov at *
  by_cases q : ou = (x : Int)
  · by_cases r : ov = (x : Int)
    · rw [if_pos q, if_neg (fun z => z.2 r), List.append_nil]
      unfold gq0 lQaX0 dk gb pbH
      rw [hj1] at hw ⊢
      rw [hj2] at hwn ⊢
      generalize ints E = Q at *
      generalize ints o = O at *
      generalize eds Es = Y at *
      rcases hHV with rfl | rfl
      · simp [rQaX0, rQaX1, rQaX2, rQaX3, rQaX4, rQaX5, rQaX6, rQaX7, rQaX8, rQaX9, rQaX10, rQaX11, rQaX12, rQaX13, rQaX14, rQaX15, rQaX16, rQaX17, rQaX18, rQaX19, rQaX20, rQaX21, rQaX22, rQaX23, rQaX24, q, r, k1, hi, hw, hwn, g3, g4, g5, lu, lv, ku, kv, g6, g7, g6', g7', g8, g9, cE, idx, blk, eds_length, eds_get, edsAt, edAV, allLeaf_eds, cleanL_eds, cleanL_ints, ints_length, ints_get, intsAt, endL, finB]
      · simp [rQaX0, rQaX1, rQaX2, rQaX3, rQaX4, rQaX5, rQaX6, rQaX7, rQaX8, rQaX9, rQaX10, rQaX11, rQaX12, rQaX13, rQaX14, rQaX15, rQaX16, rQaX17, rQaX18, rQaX19, rQaX20, rQaX21, rQaX22, rQaX23, rQaX24, q, r, k1, hi, hw, hwn, g3, g4, g5, lu, lv, ku, kv, g6, g7, g6', g7', g8, g9, cE, idx, blk, eds_length, eds_get, edsAt, edAV, allLeaf_eds, cleanL_eds, cleanL_ints, ints_length, ints_get, intsAt, endL, finB]
    · rw [if_pos q, if_pos ⟨q, r⟩]
      unfold gq0 lQaX0 dk gb pbH
      rw [hj1] at hw ⊢
      rw [hj2] at hwn ⊢
      generalize ints (E ++ [(v : Int)]) = Z at *
      generalize ints E = Q at *
      generalize ints o = O at *
      generalize eds Es = Y at *
      rcases hHV with rfl | rfl
      · simp [rQaX0, rQaX1, rQaX2, rQaX3, rQaX4, rQaX5, rQaX6, rQaX7, rQaX8, rQaX9, rQaX10, rQaX11, rQaX12, rQaX13, rQaX14, rQaX15, rQaX16, rQaX17, rQaX18, rQaX19, rQaX20, rQaX21, rQaX22, rQaX23, rQaX24, q, r, k1, hi, hw, hwn, g3, g4, g5, lu, lv, ku, kv, g6, g7, g6', g7', g8, g9, hL, sn, tk, tko, cE, aE, LIM, idx, blk, eds_length, eds_get, edsAt, edAV, allLeaf_eds, cleanL_eds, cleanL_ints, ints_length, ints_get, intsAt, endL, finB]
      · simp [rQaX0, rQaX1, rQaX2, rQaX3, rQaX4, rQaX5, rQaX6, rQaX7, rQaX8, rQaX9, rQaX10, rQaX11, rQaX12, rQaX13, rQaX14, rQaX15, rQaX16, rQaX17, rQaX18, rQaX19, rQaX20, rQaX21, rQaX22, rQaX23, rQaX24, q, r, k1, hi, hw, hwn, g3, g4, g5, lu, lv, ku, kv, g6, g7, g6', g7', g8, g9, hL, sn, tk, tko, cE, aE, LIM, idx, blk, eds_length, eds_get, edsAt, edAV, allLeaf_eds, cleanL_eds, cleanL_ints, ints_length, ints_get, intsAt, endL, finB]
  · rw [if_neg q, if_neg (fun z => q z.1), List.append_nil]
    unfold gq0 lQaX0 dk gb pbH
    rw [hj1] at hw ⊢
    generalize ints E = Q at *
    generalize ints o = O at *
    generalize eds Es = Y at *
    rcases hHV with rfl | rfl
    · simp [rQaX0, rQaX1, rQaX2, rQaX3, rQaX4, rQaX5, rQaX6, rQaX7, rQaX8, rQaX9, rQaX10, rQaX11, rQaX12, rQaX13, rQaX14, rQaX15, rQaX16, rQaX17, rQaX18, rQaX19, rQaX20, rQaX21, rQaX22, rQaX23, rQaX24, q, k1, hi, hw, g3, g4, g5, lu, lv, ku, kv, g6, g7, g6', g7', g8, g9, cE, idx, blk, eds_length, eds_get, edsAt, edAV, allLeaf_eds, cleanL_eds, cleanL_ints, ints_length, ints_get, intsAt, endL, finB]
    · simp [rQaX0, rQaX1, rQaX2, rQaX3, rQaX4, rQaX5, rQaX6, rQaX7, rQaX8, rQaX9, rQaX10, rQaX11, rQaX12, rQaX13, rQaX14, rQaX15, rQaX16, rQaX17, rQaX18, rQaX19, rQaX20, rQaX21, rQaX22, rQaX23, rQaX24, q, k1, hi, hw, g3, g4, g5, lu, lv, ku, kv, g6, g7, g6', g7', g8, g9, cE, idx, blk, eds_length, eds_get, edsAt, edAV, allLeaf_eds, cleanL_eds, cleanL_ints, ints_length, ints_get, intsAt, endL, finB]
end
theorem gsE_len (w : Nat) (o : List Int) (x : Nat) (Es : List Ed) : (gsE w o x Es).length ≤ 2 * Es.length := by
  unfold gsE
  have h1 := List.length_filter_le (fun z => !ownsB o x z) (endsL (lcE w o [] x Es))
  have h2 := endsL_length (lcE w o [] x Es)
  have h3 := lcE_len w o [] x Es
  omega
section
attribute [local simp] codeL_seq codeL_reg codeL_blk codeL_skip codeL_ret codeL_exit codeL_cnd condL_b thenL_n thenL_e thenL_r blkL_n blkL_e blkL_r regL_s opsB stepB opB opP opnd opnds lend lendC get_nil' get_cons' put_nil' put_cons' mem_nil' mem_cons' putdB putB slowP hasOwn hasOwnL finO relab anyB anyE anyH anyR borOf borL inSlot HAND endR hasOwnE endK keepIn trim noPtr noPtrL noPtrE noPtrH binA arith unA eqB isNilB eqc lenB bndB bnd rdN rdc AV.cells fillB peek ldOK AV.leaf allLeaf fz pl plL drawB allCW cwF okDrawB okPair Fq.ok dstOff wrOff notSlot noneIn apartR oldBoxes O.reads Kd.reads E.slot slots slotO slotsP List.getD pairIn nilL okRes clean cleanL resV resVs tupOf mkEnv partsBor doCallB inpB getArgs doCallO frzA frzV frzL minA minF cont ownAt at_ setAt rel dropS relC dropAll frzP frzAll firstBor borIn borC borS borE borH handTo mapSt mapE mapH mapB mapBL sw rt fb mvB mvRt seesP inRt isRoot rootOf boxOf seesB rootsL Am.rep ovw flatCells_ints allLeaf_ints flatCells el grp updE isNilB inpV inpL stB okL unA orcA bndB plL_ints fzL stBox inCells wrap0 wrap1 wrapm1 take_snoc BIGB marks boxZ ldLab cellOf cellN CELLM boxIn isCell apartC frzR frzRL frzS frzC frzCL locN notBox frzLab eatE0 isFn anyFn locB
theorem gq0_loop (l : List Int) (a N w : Nat) (Es : List Ed) (hE : Es.length < 100000) (o : List Int) (ho : o.length = N) (hN : N ≤ 64) (HV : AV) (hHV : HV = .own 1 [] ∨ HV = .list 1 []) (x : Nat) (he : ∀ e ∈ Es, 0 ≤ e.1 ∧ e.1 < e.2 ∧ e.2 < (N : Int)) : ∀ (k i : Nat), i + k = Es.length →
    codeL cfgS 0 (.loop lQaX0) (gq0 l a N w Es o HV x (gsE w o x (Es.take i)) (lcE w o [] x (Es.take i)).length i []) = some (.exit 2, gq0 l a N w Es o HV x (gsE w o x Es) (lcE w o [] x Es).length Es.length [(38, .bool false)])
  | 0, i, hi => by
    obtain rfl : i = Es.length := by omega
    rw [List.take_length]
    refine loop_exit ?_
    unfold gq0 lQaX0 dk gb pbH
    have g5 := eds_length Es
    generalize eds Es = Y at *
    generalize ints o = O at *
    generalize ints (gsE w o x Es) = Q at *
    rcases hHV with rfl | rfl
    · simp [rQaX0, rQaX1, rQaX2, rQaX3, rQaX4, rQaX5, rQaX6, rQaX7, rQaX8, rQaX9, rQaX10, rQaX11, rQaX12, rQaX13, rQaX14, rQaX15, rQaX16, rQaX17, rQaX18, rQaX19, rQaX20, rQaX21, rQaX22, rQaX23, rQaX24, g5, blk, eds_length, eds_get, edsAt, edAV, allLeaf_eds, cleanL_eds, cleanL_ints, ints_length, ints_get, intsAt, endL, finB]
    · simp [rQaX0, rQaX1, rQaX2, rQaX3, rQaX4, rQaX5, rQaX6, rQaX7, rQaX8, rQaX9, rQaX10, rQaX11, rQaX12, rQaX13, rQaX14, rQaX15, rQaX16, rQaX17, rQaX18, rQaX19, rQaX20, rQaX21, rQaX22, rQaX23, rQaX24, g5, blk, eds_length, eds_get, edsAt, edAV, allLeaf_eds, cleanL_eds, cleanL_ints, ints_length, ints_get, intsAt, endL, finB]
  | k + 1, i, hi => by
    have hlt : i < Es.length := by omega
    have h0 := he _ (List.getElem_mem hlt)
    have l1 := gsE_len w o x (Es.take i)
    have l2 := lcE_len w o [] x (Es.take i)
    have l3 : (Es.take i).length = i := by rw [List.length_take]; omega
    refine (loop_next (gq0_round l a N w Es hE o ho hN HV hHV x _ (by omega) _ i (by omega) hlt h0)).trans (Eq.trans ?_ (gq0_loop l a N w Es hE o ho hN HV hHV x he k (i + 1) (by omega)))
    have e : Es.take (i + 1) = Es.take i ++ [Es[i]] := by rw [List.take_add_one, List.getElem?_eq_getElem hlt]; rfl
    rw [e, gsE_snoc w o x _ _ h0.1, lcE_snoc w o x _ _ h0.1, List.length_append]
    congr 2
    split <;> simp
end
def gq1 (l : List Int) (a N w : Nat) (Es : List Ed) (o : List Int) (HV : AV) (x : Nat) (J : Env) : St := ⟨(4, .ptr 1 0) :: (5, .ptr 2 0) :: (6, .int .i64 x) :: J, [dk l a, gb N Es, pbH w o HV]⟩
section
attribute [local simp] codeL_seq codeL_reg codeL_blk codeL_skip codeL_ret codeL_exit codeL_cnd condL_b thenL_n thenL_e thenL_r blkL_n blkL_e blkL_r regL_s opsB stepB opB opP opnd opnds lend lendC get_nil' get_cons' put_nil' put_cons' mem_nil' mem_cons' putdB putB slowP hasOwn hasOwnL finO relab anyB anyE anyH anyR borOf borL inSlot HAND endR hasOwnE endK keepIn trim noPtr noPtrL noPtrE noPtrH binA arith unA eqB isNilB eqc lenB bndB bnd rdN rdc AV.cells fillB peek ldOK AV.leaf allLeaf fz pl plL drawB allCW cwF okDrawB okPair Fq.ok dstOff wrOff notSlot noneIn apartR oldBoxes O.reads Kd.reads E.slot slots slotO slotsP List.getD pairIn nilL okRes clean cleanL resV resVs tupOf mkEnv partsBor doCallB inpB getArgs doCallO frzA frzV frzL minA minF cont ownAt at_ setAt rel dropS relC dropAll frzP frzAll firstBor borIn borC borS borE borH handTo mapSt mapE mapH mapB mapBL sw rt fb mvB mvRt seesP inRt isRoot rootOf boxOf seesB rootsL Am.rep ovw flatCells_ints allLeaf_ints flatCells el grp updE isNilB inpV inpL stB okL unA orcA bndB plL_ints fzL stBox inCells wrap0 wrap1 wrapm1 take_snoc BIGB marks boxZ ldLab cellOf cellN CELLM boxIn isCell apartC frzR frzRL frzS frzC frzCL locN notBox frzLab eatE0 isFn anyFn locB
theorem gq1_round (l : List Int) (a : Nat) {N w : Nat} (h0 : 1 ≤ w) (h1 : w ≤ 8) {Es : List Ed} (hG : GOK (N : Int) Es) (hE : Es.length < 100000) (o : List Int) (ho : o.length = N) (hb : ∀ x ∈ o, 0 ≤ x ∧ x < (w : Int)) (HV : AV) (hHV : HV = .own 1 [] ∨ HV = .list 1 []) (x : Nat) (hx : x < w) :
    codeL cfgS 0 lQaX1 (gq1 l a N w Es o HV x []) = some (.normal, gq1 l a N w Es o (.list 1 []) (x + 1) []) := by
  have hN := hG.1
  have k1 : (x : Int) < w := by omega
  have hw := wrapS (i := x) (by omega)
  have lp := gq0_loop l a N w Es hE o ho (by omega) HV hHV x hG.2.2 Es.length 0 (by omega)
  have lc := local_run h0 h1 hG (by omega) o [] ho (by simp) rfl hb x hx
  have gh := ghosts_run h0 h1 hG hE o [] ho (by simp) rfl hb x hx
  have eg : ghL w o [] x Es = setOf (gsE w o x Es) := rfl
  rw [eg] at gh
  have l1 := gsE_len w o x Es
  have l2 := lcE_len w o [] x Es
  have f2 := of_run (gsE w o x Es) (by omega)
  have ls0 := setOf_len (gsE w o x Es)
  have ls : (setOf (gsE w o x Es)).length < 4294967295 := by omega
  have c2 := cmp_run (setOf (gsE w o x Es)) (setOf (gsE w o x Es)) ls ls
  rw [cmpL_zero.2 rfl] at c2
  have z1 : gsE w o x [] = [] := rfl
  have z2 : lcE w o [] (x : Int) [] = [] := rfl
  rw [List.take_zero, z1, z2] at lp
  have gY := eds_length Es
  rw [ints_nil] at lc gh
  have g5 := eds_length (lcE w o [] x Es)
  have g6 := ints_length (gsE w o x Es)
  have tk : (ints (gsE w o x Es)).take (gsE w o x Es).length = ints (gsE w o x Es) := List.take_of_length_le (by omega)
  have cE := cleanL_ints (gsE w o x Es)
  have hj1 : ((x + 1 : Nat) : Int) = (x : Int) + 1 := rfl
  unfold gq0 dk gb pbH at lp
  rw [nat0, ints_nil, show (([] : List Ed).length : Int) = 0 from rfl] at lp
  unfold gq1 dk gb pbH
  rw [hj1] at hw ⊢
  unfold lQaX1
  generalize ints (setOf (gsE w o x Es)) = T at *
  generalize gsE w o x Es = S at *
  generalize lcE w o [] x Es = F at *
  generalize ints S = Q at *
  generalize eds F = V at *
  generalize ints o = O at *
  generalize eds Es = Y at *
  rcases hHV with rfl | rfl
  · simp [rQaX0, rQaX1, rQaX2, rQaX3, rQaX4, rQaX5, rQaX6, rQaX7, rQaX8, rQaX9, rQaX10, rQaX11, rQaX12, rQaX13, rQaX14, rQaX15, rQaX16, rQaX17, rQaX18, rQaX19, rQaX20, rQaX21, rQaX22, rQaX23, rQaX24, k1, hx, hw, lp, lc, gh, f2, c2, gY, g5, g6, tk, cE, sQh, iQh, eQh, sQi, iQi, eQi, sQk, iQk, eQk, sQj, iQj, eQj, plp, plpL, allB, notBox, swC, swS, seesC, inBox, relB, handBox, mvBB, mvRtB, offBoxes, offLab, calmB, ptrs, ptrsL, blkE, avE, avLE, blk, eds_length, eds_get, edsAt, edAV, allLeaf_eds, cleanL_eds, cleanL_ints, ints_length, ints_get, intsAt, endL, finB]
  · simp [rQaX0, rQaX1, rQaX2, rQaX3, rQaX4, rQaX5, rQaX6, rQaX7, rQaX8, rQaX9, rQaX10, rQaX11, rQaX12, rQaX13, rQaX14, rQaX15, rQaX16, rQaX17, rQaX18, rQaX19, rQaX20, rQaX21, rQaX22, rQaX23, rQaX24, k1, hx, hw, lp, lc, gh, f2, c2, gY, g5, g6, tk, cE, sQh, iQh, eQh, sQi, iQi, eQi, sQk, iQk, eQk, sQj, iQj, eQj, plp, plpL, allB, notBox, swC, swS, seesC, inBox, relB, handBox, mvBB, mvRtB, offBoxes, offLab, calmB, ptrs, ptrsL, blkE, avE, avLE, blk, eds_length, eds_get, edsAt, edAV, allLeaf_eds, cleanL_eds, cleanL_ints, ints_length, ints_get, intsAt, endL, finB]
theorem gq1_loop (l : List Int) (a : Nat) {N w : Nat} (h0 : 1 ≤ w) (h1 : w ≤ 8) {Es : List Ed} (hG : GOK (N : Int) Es) (hE : Es.length < 100000) (o : List Int) (ho : o.length = N) (hb : ∀ x ∈ o, 0 ≤ x ∧ x < (w : Int)) : ∀ (k x : Nat) (HV : AV), (HV = .own 1 [] ∨ HV = .list 1 []) → x + k = w →
    ∃ HV', codeL cfgS 0 (.loop lQaX1) (gq1 l a N w Es o HV x []) = some (.exit 0, gq1 l a N w Es o HV' w [(31, .bool false)])
  | 0, x, HV, hHV, hi => by
    obtain rfl : x = w := by omega
    refine ⟨HV, loop_exit ?_⟩
    unfold gq1 lQaX1 dk gb pbH
    generalize eds Es = Y at *
    generalize ints o = O at *
    rcases hHV with rfl | rfl
    · simp [rQaX0, rQaX1, rQaX2, rQaX3, rQaX4, rQaX5, rQaX6, rQaX7, rQaX8, rQaX9, rQaX10, rQaX11, rQaX12, rQaX13, rQaX14, rQaX15, rQaX16, rQaX17, rQaX18, rQaX19, rQaX20, rQaX21, rQaX22, rQaX23, rQaX24, blk, eds_length, eds_get, edsAt, edAV, allLeaf_eds, cleanL_eds, cleanL_ints, ints_length, ints_get, intsAt, endL, finB]
    · simp [rQaX0, rQaX1, rQaX2, rQaX3, rQaX4, rQaX5, rQaX6, rQaX7, rQaX8, rQaX9, rQaX10, rQaX11, rQaX12, rQaX13, rQaX14, rQaX15, rQaX16, rQaX17, rQaX18, rQaX19, rQaX20, rQaX21, rQaX22, rQaX23, rQaX24, blk, eds_length, eds_get, edsAt, edAV, allLeaf_eds, cleanL_eds, cleanL_ints, ints_length, ints_get, intsAt, endL, finB]
  | k + 1, x, HV, hHV, hi => by
    obtain ⟨HV', e⟩ := gq1_loop l a h0 h1 hG hE o ho hb k (x + 1) (.list 1 []) (.inr rfl) (by omega)
    exact ⟨HV', (loop_next (gq1_round l a h0 h1 hG hE o ho hb HV hHV x (by omega))).trans e⟩
theorem ghostlaw_run (l : List Int) : callL cfgS nQa [.list 1 (ints l)] [] = some (.bool true, []) := by
  rw [callL_end oQa sQa (Nat.le_of_ble_eq_true rfl)]
  have aw := awake37
  have few := few_run l
  by_cases hl : (l.length : Int) ≤ 500
  case neg =>
    unfold qQa cQa
    simp [rQaX0, rQaX1, rQaX2, rQaX3, rQaX4, rQaX5, rQaX6, rQaX7, rQaX8, rQaX9, rQaX10, rQaX11, rQaX12, rQaX13, rQaX14, rQaX15, rQaX16, rQaX17, rQaX18, rQaX19, rQaX20, rQaX21, rQaX22, rQaX23, rQaX24, few, hl, aw, sQc, iQc, eQc, sQd, iQd, eQd, blk, eds_length, eds_get, edsAt, edAV, allLeaf_eds, cleanL_eds, cleanL_ints, ints_length, ints_get, intsAt, endL, finB]
  have hl5 : l.length ≤ 500 := by omega
  have n1 := new_run l
  obtain ⟨N, Es, a1, n2, hG, hN, hEl⟩ := graph_run l hl5 9 (by omega) 0
  rw [show ((9 : Nat) : Int) = 9 from rfl] at n2
  obtain ⟨w, o, hv, a2, n3, ⟨w1, w4⟩, ⟨o1, o2⟩, v1, v2⟩ := plan_run l hl5 N (by omega) Es a1
  obtain ⟨HV, lp⟩ := gq1_loop l a2 w1 (by omega) hG (by omega) o o1 o2 w 0 (.own 1 []) (.inl rfl) (by omega)
  unfold gq1 pbH at lp
  unfold dk gb at *
  rw [nat0] at n1 n2 lp
  have cO := cleanL_ints o
  have cH := cleanL_ints hv
  clear hG o2 v2
  unfold qQa cQa
  generalize eds Es = Y at *
  generalize ints o = O at *
  generalize ints hv = Hv at *
  simp [rQaX0, rQaX1, rQaX2, rQaX3, rQaX4, rQaX5, rQaX6, rQaX7, rQaX8, rQaX9, rQaX10, rQaX11, rQaX12, rQaX13, rQaX14, rQaX15, rQaX16, rQaX17, rQaX18, rQaX19, rQaX20, rQaX21, rQaX22, rQaX23, rQaX24, few, hl, n1, n2, n3, lp, cO, cH, aw, sQc, iQc, eQc, sQe, iQe, eQe, sQf, iQf, eQf, sQg, iQg, eQg, sQd, iQd, eQd, plp, plpL, allB, notBox, swC, swS, seesC, inBox, relB, handBox, mvBB, mvRtB, offBoxes, offLab, calmB, ptrs, ptrsL, blkE, avE, avLE, blk, eds_length, eds_get, edsAt, edAV, allLeaf_eds, cleanL_eds, cleanL_ints, ints_length, ints_get, intsAt, endL, finB]
end
end Go.BmP
