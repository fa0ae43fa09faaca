/- What cohesionref09.Degrees, degree.Realise and cohesionlaw09.DegreeBack return. -/
import Derived.Test.YtjfdniggjdnkiaaUseM
import Derived.Test.YtjfdniggjdnkiaaBkQ
import Derived.Test.YtjfdniggjdnkiaaQ11
import Derived.Test.YtjfdniggjdnkiaaDgP
import Derived.Test.YtjfdniggjdnkiaaT06
import Derived.Test.YtjfdniggjdnkiaaL21
import Derived.Test.YtjfdniggjdnkiaaN21
import Derived.Test.YtjfdniggjdnkiaaR02d
import Derived.KernelRfl
set_option linter.unusedSimpArgs false
set_option linter.unusedVariables false
set_option maxRecDepth 100000
set_option maxHeartbeats 4000000
namespace Go.BmP
open Go.Am Go.Bm
theorem awake09 : callL cfgS nQe [] [] = some (.bool true, []) := callL_iff.2 ⟨3000, by kernel_rfl⟩
theorem pc9_nbr {N : Nat} (hN : N <= 9) {Es : List Ed} (h : GOK (N : Int) Es) {u : Nat} (hu : u < N) : pc9 ((adjE N Es).getD u 0) = (nbr N Es u).length := by
 rw [nbr_count h hu]
 unfold pc9
 rw [filter_sm]
 have e : ∀ j, (if ((adjE N Es).getD u 0).testBit j = true then 1 else 0) = ad Es u j := fun j => by
  rw [(adj_spec h).2.2]
  have q : (decide (((u : Int), (j : Int)) ∈ Es) || decide (((j : Int), (u : Int)) ∈ Es)) = true ↔ jn Es u j := by
   unfold jn; rw [Bool.or_eq_true, decide_eq_true_eq, decide_eq_true_eq]
  unfold ad
  by_cases k : jn Es u j
  ·rw [if_pos k, if_pos (q.2 k)]
  ·rw [if_neg k, if_neg fun z => k (q.1 z)]
 rw [sm_congr fun j _ => e j]
 have key : ∀ k, N + k <= 9 -> sm (N + k) (fun w => ad Es u w) = sm N fun w => ad Es u w := by
  intro k
  induction k with
  | zero => intro _; rfl
  | succ m ih =>
    intro hk
    show sm (N + m) _ + ad Es u (N + m) = _
    rw [ih (by omega)]
    have : ad Es u (N + m) = 0 := by
     unfold ad
     rw [if_neg fun q => by have := jn_bd h q; omega]
    omega
 have := key (9 - N) (by omega)
 rwa [show N + (9 - N) = 9 by omega] at this
theorem dgL_dgs {N : Nat} (hN : N <= 9) {Es : List Ed} (h : GOK (N : Int) Es) : dgL (adjE N Es) = dgs N Es := by
 have ln := (adj_spec h).1
 unfold dgL dgs
 apply List.ext_getElem
 ·simp [ln]
 ·intro i h1 h2
  have hi : i < N := by simpa using h2
  have := pc9_nbr hN h hi
  rw [nbr_count h hi, List.getD_eq_getElem?_getD, List.getElem?_eq_getElem (by omega)] at this
  simp only [List.getElem_map, List.getElem_range]
  simp only [Option.getD_some] at this
  rw [this]; rfl
theorem dgs_len (N : Nat) (Es : List Ed) : (dgs N Es).length = N := by simp [dgs]
def rdSt (N : Nat) (Es : List Ed) (i : Nat) (J : Env) : St := ⟨(1, .ptr 0 0) :: (5, .own 1 (ints ((dgs N Es).take i))) :: (13, .int .i64 N) :: (14, .int .i64 i) :: J, [some [.int .i64 N, .list 2 (eds Es)]]⟩
theorem rd_loop {N : Nat} {Es : List Ed} (hG : GOK (N : Int) Es) (hE : Es.length < 1000000) : ∀ n i : Nat, i + n = N -> codeL cfgS 0 (.loop lQjX0) (rdSt N Es i []) = some (.exit 0, rdSt N Es N [(15, .bool false)])
 | 0, i, e => by
   obtain rfl : i = N := by omega
   refine loop_exit ?_
   unfold rdSt lQjX0
   simp [rQjX0, rQjX1, rQjX2, rQjX3, rQjX4, rQjX5, rQjX6, rQjX7, rQjX8, rQjX9, rQjX10, blk, eds_length, eds_get, edsAt, edAV, allLeaf_eds, cleanL_eds, cleanL_ints, ints_length, ints_get, intsAt, endL, finB]
 | n + 1, i, e => by
   have hN := hG.1.2
   have h1 : (i : Int) < N := by omega
   have hi : i < N := by omega
   have hw := wrapS (i := i) (by omega)
   have dr := degree_run hG hE (v := (i : Int)) (by omega) (by omega)
   rw [nbr_count hG hi] at dr
   have hlt : i < (dgs N Es).length := by rw [dgs_len]; omega
   have et : (dgs N Es).take (i + 1) = (dgs N Es).take i ++ [((sm N fun w => ad Es i w : Nat) : Int)] := by
    rw [List.take_succ_eq_append_getElem hlt]
    simp [dgs, dgr]
   have ih := rd_loop hG hE n (i + 1) (by omega)
   refine (loop_next ?_).trans ih
   unfold rdSt lQjX0
   rw [et]
   have lx : ((dgs N Es).take i).length + 1 <= 4294967296 := by rw [List.length_take]; omega
   generalize (dgs N Es).take i = X at *
   generalize (sm N fun w => ad Es i w) = z at *
   simp [rQjX0, rQjX1, rQjX2, rQjX3, rQjX4, rQjX5, rQjX6, rQjX7, rQjX8, rQjX9, rQjX10, h1, hw, dr, lx, LIM, ints_snoc, ints_take, List.take_length, ints_length, blk, sQy, iQy, blk, eds_length, eds_get, edsAt, edAV, allLeaf_eds, cleanL_eds, cleanL_ints, ints_length, ints_get, intsAt, endL, finB]
theorem refdeg_run {N : Nat} {Es : List Ed} (hG : GOK (N : Int) Es) (hE : Es.length < 1000000) : callL cfgS nQj [.agg [.int .i64 N, .list 2 (eds Es)]] [] = some (.tup [.list 1 (ints (dgs N Es)), .int .i64 0], []) := by
 rw [callL_end oQj sQj (Nat.le_of_ble_eq_true rfl)]
 have ck := rchk_run (N : Int) Es (by omega)
 rw [chkG_zero.2 hG] at ck
 have lp := rd_loop hG hE N 0 (by omega)
 unfold rdSt at lp
 rw [List.take_zero, nat0, ints_nil, List.take_of_length_le (by rw [dgs_len]; omega)] at lp
 have ld := dgs_len N Es
 generalize dgs N Es = X at *
 unfold qQj cQj
 simp [rQjX0, rQjX1, rQjX2, rQjX3, rQjX4, rQjX5, rQjX6, rQjX7, rQjX8, rQjX9, rQjX10, ck, lp, ld, blk, ints_nil, ints_take, ints_length, List.take_length, sQr, iQr, endL, finB, plL, pl]
 rw [List.take_take, Nat.min_self, List.take_of_length_le (by omega)]
theorem realise_run (l : List Int) (hl : l.length <= 64) : callL cfgS nQs [.list 1 (ints l)] [] = some (.tup [.list 2 (((rz l).getD []).map pr2), .bool (rz l).isSome], []) :=
 callL_orc (by unfold orcA; rw [oQs]; simp only [gRz]; rw [show intsOf (ints l) = some l from intsOf_ints l]; simp only; rw [if_pos hl])
theorem ends_gof {N : Nat} {out : List Ed} (h : ∀ e ∈ out, e.1 ≠ e.2 /\ (0 <= e.1 /\ e.1 < (N : Int)) /\ 0 <= e.2 /\ e.2 < (N : Int)) : ∀ e ∈ out, EndsOK N e.1 e.2 := fun e he => h e he
theorem real_some (y : List Int) (hy : y.length <= 64) {out : List Ed} (h : rz y = some out) (hl : out.length < 1000000) : callL cfgS nQm [.list 1 (ints y)] [] = some (.tup [.agg [.int .i64 y.length, .list 2 (eds (gofL out))], .int .i64 0], []) := by
 rw [callL_end oQm sQm (Nat.le_of_ble_eq_true rfl)]
 have hr := realise_run y hy
 rw [h] at hr
 simp only [Option.getD_some, Option.isSome_some] at hr
 have hg := gof_run y.length hy out hl (ends_gof (rz_spec h).1)
 have c1 : ¬ 64 < (y.length : Int) := by omega
 have e : out.map pr2 = eds out := rfl
 rw [e] at hr
 generalize eds (gofL out) = G at *
 generalize eds out = E at *
 unfold qQm cQm
 simp [rQmX0, rQmX1, rQmX2, rQmX3, rQmX4, rQmX5, rQmX6, hr, hg, c1, blk, ints_length, sQs, iQs, sQA, iQA, endL, finB]
end Go.BmP
/- What cohesionlaw09.DegreeBack returns. -/
set_option linter.unusedSimpArgs false
set_option linter.unusedVariables false
set_option maxRecDepth 100000
set_option maxHeartbeats 4000000
namespace Go.BmP
open Go.Am Go.Bm
def pck (X O : List Int) : List Int := O.map fun j => X.getD j.toNat 0
theorem pck_perm {X O : List Int} (h : O.Perm (allN X.length)) : (pck X O).Perm X := by
 refine (h.map _).trans ?_
 unfold allN
 rw [List.map_map]
 have : (List.range X.length).map ((fun j : Int => X.getD j.toNat 0) ∘ fun i : Nat => (i : Int)) = X := by
  apply List.ext_getElem
  ·simp
  ·intro i h1 h2
   simp [h2]
 rw [this]
theorem bk_loop (X O : List Int) (hO : O.length <= 64) (hX : ∀ j ∈ O, 0 <= j /\ j < (X.length : Int)) : ∀ n i : Nat, i + n = O.length -> codeL cfgS 0 (.loop lQbX0) ⟨[(4, .list 1 (ints X)), (6, .own 1 (ints (pck X (O.take i)))), (24, .list 1 (ints O)), (25, .int .i64 O.length), (26, .int .i64 i)], []⟩ = some (.exit 0, ⟨[(4, .list 1 (ints X)), (6, .own 1 (ints (pck X O))), (24, .list 1 (ints O)), (25, .int .i64 O.length), (26, .int .i64 O.length), (27, .bool false)], []⟩)
 | 0, i, e => by
   obtain rfl : i = O.length := by omega
   rw [List.take_length]
   exact loop_exit (by unfold lQbX0; simp [rQbX0, rQbX1, rQbX2, rQbX3, rQbX4, rQbX5, rQbX6, rQbX7, rQbX8, rQbX9, rQbX10, rQbX11, blk, eds_length, eds_get, edsAt, edAV, allLeaf_eds, cleanL_eds, cleanL_ints, ints_length, ints_get, intsAt, endL, finB])
 | n + 1, i, e => by
   have h1 : i < O.length := by omega
   have h2 : (i : Int) < O.length := by omega
   have hw := wrapS (i := i) (by omega)
   have ih := bk_loop X O hO hX n (i + 1) (by omega)
   have hj := hX O[i] (List.getElem_mem h1)
   obtain ⟨j, ej⟩ : ∃ j : Nat, O[i] = (j : Int) := ⟨O[i].toNat, by omega⟩
   have j1 : (j : Int) < X.length := by omega
   have j2 : j < X.length := by omega
   have et : pck X (O.take (i + 1)) = pck X (O.take i) ++ [X[j]] := by
    unfold pck
    rw [List.take_succ_eq_append_getElem h1, List.map_append, List.map_singleton, ej]
    simp [j2]
   rw [et] at ih
   have lx : (pck X (O.take i)).length + 1 <= 4294967296 := by unfold pck; rw [List.length_map, List.length_take]; omega
   generalize pck X (O.take i) = Y at *
   exact (loop_next (by unfold lQbX0; simp [rQbX0, rQbX1, rQbX2, rQbX3, rQbX4, rQbX5, rQbX6, rQbX7, rQbX8, rQbX9, rQbX10, rQbX11, h1, h2, hw, ej, j1, j2, lx, LIM, ints_snoc, ints_take, List.take_length, ints_length, idx, blk, eds_length, eds_get, edsAt, edAV, allLeaf_eds, cleanL_eds, cleanL_ints, ints_length, ints_get, intsAt, endL, finB])).trans ih
theorem back_run (l : List Int) (hl : l.length <= 9223372036854775807) : callL cfgS nQb [.list 1 (ints l)] [] = some (.bool true, []) := by
 rw [callL_end oQb sQb (Nat.le_of_ble_eq_true rfl)]
 have aw := awake09
 have nw := new_run l
 obtain ⟨N, Es, a, gr, hG, hN, hE⟩ := graph_run l hl 9 (by omega) 0
 have rd := refdeg_run hG (by omega)
 have hN64 := hG.1.2
 obtain ⟨O, a', mo, hO⟩ := mkord_run l hl N (by omega) [] ⟨fun _ => rfl, rfl, fun _ _ => rfl, fun _ => rfl, fun _ _ => rfl⟩ a
 have hXl := dgs_len N Es
 have hOl : O.length = N := by rw [hO.length_eq]; simp [allN]
 have hOm : ∀ j ∈ O, 0 <= j /\ j < ((dgs N Es).length : Int) := fun j hj => by rw [hXl]; exact allN_mem.1 (hO.mem_iff.1 hj)
 have lp := bk_loop (dgs N Es) O (by omega) hOm O.length 0 (by omega)
 rw [List.take_zero, nat0, show pck (dgs N Es) [] = [] from rfl, ints_nil] at lp
 have hp : (pck (dgs N Es) O).Perm (dgs N Es) := pck_perm (by rw [hXl]; exact hO)
 obtain ⟨out, ho⟩ := rz_graph hG hp
 have hyl : (pck (dgs N Es) O).length = N := by rw [hp.length_eq, hXl]
 have hol := rz_len (by omega) ho
 have re := real_some _ (by omega) ho hol
 have gk : GOK (N : Int) (gofL out) := gof_ok (by omega) (by have := (rz_spec ho).1; rwa [hyl] at this)
 have hgl : (gofL out).length < 1000000 := by
  have h1 := ddp_le (isortC cfO (out.map fun e => nrmE e.1 e.2))
  rw [isortC_length, List.length_map] at h1
  exact Nat.lt_of_le_of_lt h1 hol
 have dr := degrees_run hN gk hgl
 have dg : dgL (adjE N (gofL out)) = pck (dgs N Es) O := by
  have := dgs_gof ho
  rw [hyl] at this
  rw [dgL_dgs hN gk, this]
 rw [dg] at dr
 rw [hyl] at re
 have ck := rchk_run (N : Int) (gofL out) (by omega)
 rw [chkG_zero.2 gk] at ck
 have sm1 := same_run (pck (dgs N Es) O) (pck (dgs N Es) O) (by omega) (by omega)
 rw [decide_eq_true rfl] at sm1
 generalize pck (dgs N Es) O = Y at *
 generalize dgs N Es = X at *
 generalize eds (gofL out) = G at *
 generalize eds Es = E at *
 unfold dk at *
 rw [nat0] at nw gr
 rw [hOl] at lp
 rw [show ((9 : Nat) : Int) = 9 from rfl] at gr
 have tk : (ints Y).take N = ints Y := by rw [ints_take, List.take_of_length_le (by omega)]
 have L1 : N <= 4294967296 := by omega
 unfold qQb cQb
 simp [rQbX0, rQbX1, rQbX2, rQbX3, rQbX4, rQbX5, rQbX6, rQbX7, rQbX8, rQbX9, rQbX10, rQbX11, nw, gr, rd, mo, lp, re, dr, ck, sm1, aw, hXl, hOl, hyl, tk, L1, LIM, blk, ints_nil, ints_length, ints_take, endL, finB, plL, pl, plp, plpL, allB, notBox, swC, swS, seesC, inBox, nle1, sQh, iQh, sQg, iQg, sQj, iQj, sQq, iQq, sQm, iQm, sQi, iQi, sQk, iQk, sQr, iQr, sQe, iQe]
theorem row_len {k : IntKind} {w : World} {a : Option Addr} {len cap : Nat} {zs : List Int} (h : IsRow k w a len cap zs) : (zs.take len).length <= 9223372036854775807 := by
 rcases h with ⟨_, rfl, _, rfl⟩ | ⟨_, _, h1, h2, _⟩
 ·simp
 ·rw [List.length_take]
  have : cap <= 9223372036854775807 := h2
  omega
end Go.BmP
