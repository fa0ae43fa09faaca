/- What field.Renamed returns. -/
import Derived.Test.YtahcjjgkefjhbaaK05
import Derived.Test.YtahcjjgkefjhbaaN01
set_option linter.unusedSimpArgs false
set_option linter.unusedVariables false
set_option maxRecDepth 100000
set_option maxHeartbeats 4000000
namespace Go.BmP
open Go.Am Go.Bm
/-- An edge with other names. -/
def rnE (nm : List Int) (e : Ed) : Ed := (nm.getD e.1.toNat 0, nm.getD e.2.toNat 0)
def rnSt (N : Nat) (Es : List Ed) (nm : List Int) (o : List Ed) (i : Nat) (J : Env) : St := ⟨(1, .list 1 (ints nm)) :: (2, .ptr 0 0) :: (4, .ptr 1 0) :: (5, .own 2 (eds o)) :: (6, .int .i64 i) :: J, [some [.int .i64 N, .list 2 (eds Es)], some [.int .i64 0, .own 2 []]]⟩
section
attribute [local simp] codeL_seq codeL_reg codeL_blk codeL_skip codeL_ret codeL_exit codeL_cnd condL_b thenL_n thenL_e thenL_r blkL_n blkL_e blkL_r regL_s opsB stepB opB opP opnd opnds lend lendC get_nil' get_cons' put_nil' put_cons' mem_nil' mem_cons' putdB putB slowP hasOwn hasOwnL finO relab anyB anyE anyH anyR borOf borL inSlot HAND endR hasOwnE endK keepIn trim noPtr noPtrL noPtrE noPtrH binA arith unA eqB isNilB eqc lenB bndB bnd rdN rdc AV.cells fillB peek ldOK AV.leaf allLeaf fz pl plL drawB allCW cwF okDrawB okPair Fq.ok dstOff wrOff notSlot noneIn apartR oldBoxes O.reads Kd.reads E.slot slots slotO slotsP List.getD pairIn nilL okRes clean cleanL resV resVs tupOf mkEnv partsBor doCallB inpB getArgs doCallO frzA frzV frzL minA minF cont ownAt at_ setAt rel dropS relC dropAll frzP frzAll firstBor borIn borC borS borE borH handTo mapSt mapE mapH mapB mapBL sw rt fb mvB mvRt seesP inRt isRoot rootOf boxOf seesB rootsL Am.rep ovw flatCells_ints allLeaf_ints flatCells el grp updE isNilB inpV inpL stB okL unA orcA bndB plL_ints fzL stBox inCells wrap0 wrap1 wrapm1 take_snoc BIGB marks boxZ ldLab cellOf cellN CELLM boxIn isCell apartC frzR frzRL frzS frzC frzCL
theorem rn_round (N : Nat) (hN : N ≤ 64) (Es : List Ed) (hE : Es.length < 4294967295) (nm : List Int) (hn : nm.length = N) (o : List Ed) (ho : o.length < 4294967295) (i : Nat) (hlt : i < Es.length) (he : 0 ≤ Es[i].1 ∧ Es[i].1 < Es[i].2 ∧ Es[i].2 < (N : Int)) : codeL cfgS 0 lFieldRenamedX0 (rnSt N Es nm o i []) = some (.normal, rnSt N Es nm (o ++ [rnE nm Es[i]]) (i + 1) []) := by
  have h1 : (i : Int) < Es.length := by omega
  have hw := wrapS (i := i) (by omega)
  have hL : o.length + 1 ≤ 4294967296 := by omega
  obtain ⟨u0, uv, vn⟩ := he
  have un : Es[i].1 < (N : Int) := by omega
  have v0 : 0 ≤ Es[i].2 := by omega
  have u0' : ¬ Es[i].1 < 0 := by omega
  have v0' : ¬ Es[i].2 < 0 := by omega
  have uN : Es[i].1.toNat < N := by omega
  have vN : Es[i].2.toNat < N := by omega
  have g : ∀ j : Nat, j < N → (ints nm)[j]? = some (.int .i64 (nm.getD j 0)) := fun j hj => by
    rw [ints_get, List.getD_eq_getElem?_getD, List.getElem?_eq_getElem (by omega)]; rfl
  have gu := g _ uN
  have gv := g _ vN
  have er : rnE nm Es[i] = (nm.getD Es[i].1.toNat 0, nm.getD Es[i].2.toNat 0) := rfl
  have sn := eds_snocM o (nm.getD Es[i].1.toNat 0) (nm.getD Es[i].2.toNat 0)
  have tk : (eds (o ++ [rnE nm Es[i]])).take (o.length + 1) = eds (o ++ [rnE nm Es[i]]) := by
    rw [eds_take, List.take_of_length_le (by simp)]
  have tko : (eds o).take o.length = eds o := by rw [eds_take, List.take_length]
  rw [er] at tk ⊢
  clear g er
  generalize nm.getD Es[i].1.toNat 0 = x at *
  generalize nm.getD Es[i].2.toNat 0 = y at *
  have gu' : ∀ h : Es[i].1.toNat < (ints nm).length, (ints nm)[Es[i].1.toNat] = .int .i64 x := fun h => by rw [List.getElem?_eq_getElem h] at gu; exact Option.some.inj gu
  have gv' : ∀ h : Es[i].2.toNat < (ints nm).length, (ints nm)[Es[i].2.toNat] = .int .i64 y := fun h => by rw [List.getElem?_eq_getElem h] at gv; exact Option.some.inj gv
  have nl : (ints nm).length = N := by rw [ints_length, hn]
  unfold rnSt lFieldRenamedX0
  generalize eds (o ++ [(x, y)]) = Z at *
  generalize ints nm = W at *
  simp [rFieldRenamedX0, rFieldRenamedX1, rFieldRenamedX2, rFieldRenamedX3, rFieldRenamedX4, rFieldRenamedX5, rFieldRenamedX6, rFieldRenamedX7, h1, hlt, hw, hL, u0, v0, u0', v0', un, vn, uN, vN, gu, gv, gu', gv', nl, sn, tk, tko, hn, LIM, idx, blk, eds_length, eds_get, edsAt, edAV, allLeaf_eds, cleanL_eds, cleanL_ints, ints_length, ints_get, intsAt, endL, finB]
theorem rn_loop (N : Nat) (hN : N ≤ 64) (Es : List Ed) (hE : Es.length < 4294967295) (nm : List Int) (hn : nm.length = N) (he : ∀ e ∈ Es, 0 ≤ e.1 ∧ e.1 < e.2 ∧ e.2 < (N : Int)) : ∀ (k i : Nat) (o : List Ed), i + k = Es.length → o.length ≤ i → codeL cfgS 0 (.loop lFieldRenamedX0) (rnSt N Es nm o i []) = some (.exit 0, rnSt N Es nm (o ++ (Es.drop i).map (rnE nm)) Es.length [(13, .bool false)])
  | 0, i, o, hi, ho => by
    obtain rfl : i = Es.length := by omega
    rw [List.drop_length, List.map_nil, List.append_nil]
    exact loop_exit (by unfold lFieldRenamedX0 rnSt; simp [rFieldRenamedX0, rFieldRenamedX1, rFieldRenamedX2, rFieldRenamedX3, rFieldRenamedX4, rFieldRenamedX5, rFieldRenamedX6, rFieldRenamedX7, blk, eds_length, eds_get, edsAt, edAV, allLeaf_eds, cleanL_eds, cleanL_ints, ints_length, ints_get, intsAt, endL, finB])
  | k + 1, i, o, hi, ho => by
    have hlt : i < Es.length := by omega
    have ih := rn_loop N hN Es hE nm hn he k (i + 1) (o ++ [rnE nm Es[i]]) (by omega) (by simp; omega)
    rw [List.append_assoc] at ih
    rw [List.drop_eq_getElem_cons hlt, List.map_cons]
    exact (loop_next (rn_round N hN Es hE nm hn o (by omega) i hlt (he _ (List.getElem_mem hlt)))).trans ih
theorem renamed_run {N : Nat} {Es : List Ed} (h : GOK (N : Int) Es) (hE : Es.length < 4294967295) (nm : List Int) (hp : nm.Perm (allN N)) : callL cfgS nFieldRenamed [.agg [.int .i64 N, .list 2 (eds Es)], .list 1 (ints nm)] [] = some (.agg [.int .i64 N, .list 2 (eds (ofE (Es.map (rnE nm)) []))], []) := by
  have hn : nm.length = N := by rw [hp.length_eq]; simp [allN]
  have hN : N ≤ 64 := by have := h.1; omega
  have bd : ∀ x : Int, 0 ≤ x → x < N → 0 ≤ nm.getD x.toNat 0 ∧ nm.getD x.toNat 0 < N := fun x h0 h1 => by
    rw [List.getD_eq_getElem?_getD, List.getElem?_eq_getElem (by omega)]
    exact allN_mem.1 (hp.mem_iff.1 (List.getElem_mem _))
  have inj : ∀ x y : Int, 0 ≤ x → x < y → y < N → nm.getD x.toNat 0 ≠ nm.getD y.toNat 0 := fun x y h0 h1 h2 e => by
    have nd : nm.Nodup := hp.nodup_iff.2 (allN_nodup N)
    rw [List.getD_eq_getElem?_getD, List.getD_eq_getElem?_getD, List.getElem?_eq_getElem (by omega), List.getElem?_eq_getElem (by omega)] at e
    exact List.pairwise_iff_getElem.1 nd x.toNat y.toNat (by omega) (by omega) (by omega) e
  have o3 := of3_run (N : Int) (Es.map (rnE nm)) (by rw [List.length_map]; exact hE) (by omega) (fun e he => by
    obtain ⟨d, hd, rfl⟩ := List.mem_map.1 he
    obtain ⟨d1, d2, d3⟩ := h.2.2 d hd
    have b1 := bd d.1 (by omega) (by omega)
    have b2 := bd d.2 (by omega) (by omega)
    exact ⟨b1.1, b2.1, b1.2, b2.2, inj d.1 d.2 (by omega) d2 d3⟩)
  have lp := rn_loop N hN Es hE nm hn h.2.2 Es.length 0 [] (by omega) (by simp)
  rw [List.drop_zero, List.nil_append] at lp
  have ll : (eds (Es.map (rnE nm))).length = Es.length := by rw [eds_length, List.length_map]
  have tk : (eds (Es.map (rnE nm))).take Es.length = eds (Es.map (rnE nm)) := by rw [← ll, List.take_length]
  rw [callL_end oFieldRenamed sFieldRenamed (Nat.le_of_ble_eq_true rfl)]
  unfold rnSt at lp
  rw [nat0, show eds [] = [] from rfl] at lp
  have lm : (Es.map (rnE nm)).length = Es.length := List.length_map _
  generalize Es.map (rnE nm) = F at *
  unfold qFieldRenamed cFieldRenamed
  simp [rFieldRenamedX0, rFieldRenamedX1, rFieldRenamedX2, rFieldRenamedX3, rFieldRenamedX4, rFieldRenamedX5, rFieldRenamedX6, rFieldRenamedX7, lp, o3, tk, lm, ll, sRef03Of, iRef03Of, blk, eds_length, eds_get, edsAt, edAV, allLeaf_eds, cleanL_eds, cleanL_ints, ints_length, ints_get, intsAt, endL, finB]
end
end Go.BmP
