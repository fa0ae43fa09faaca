/- What graph.Neighbours and graph.Find return. -/
import Derived.Test.YtmjjimilhllnoaaGreatDoorUseM
import Derived.Test.YtmjjimilhllnoaaGreatDoorU14
import Derived.Test.YtmjjimilhllnoaaGreatDoorK17
import Derived.Test.YtmjjimilhllnoaaGreatDoorA12
set_option linter.unusedSimpArgs false
set_option linter.unusedVariables false
set_option maxRecDepth 100000
set_option maxHeartbeats 4000000
namespace Go.BmP
open Go.Am Go.Bm
theorem bit_nbr {N : Nat} {Es : List Ed} (hG : GOK (N : Int) Es) {v : Nat} (hv : v < N) : bitL ((adjE N Es).getD v 0) = nbr N Es v := by
 have hN := hG.1
 obtain ⟨_, _, h3⟩ := adj_spec hG
 refine up_ext (bitL_up _) (nbr_up hG (by omega) (by omega)) fun x => ?_
 rw [bitL_mem, nbr_mem hG (by omega) (by omega)]
 constructor
 ·rintro ⟨j, rfl, _, hj⟩
  rw [h3] at hj
  unfold jn
  simpa using hj
 ·intro hj
  have hb := jn_bd hG hj
  obtain ⟨j, rfl⟩ : ∃ j : Nat, x = j := ⟨x.toNat, by omega⟩
  refine ⟨j, rfl, by omega, ?_⟩
  rw [h3]
  unfold jn at hj
  simpa using hj
theorem row_run {N : Nat} {Es : List Ed} (hG : GOK (N : Int) Es) (hE : Es.length < 1000000) {v : Nat} (hv : v < N) : callL cfgS nQX [.agg [.int .i64 N, .list 2 (eds Es)], .int .i64 v] [] = some (.int .u64 ((adjE N Es).getD v 0 : Nat), []) := by
 have hN := hG.1
 have rr := rows_run hG (by omega)
 have cc := gchk_run (N : Int) Es (by omega)
 rw [chkG_zero.2 hG] at cc
 obtain ⟨a1, a2, _⟩ := adj_spec hG
 have v0 : ¬ (v : Int) < 0 := by omega
 have v1 : ¬ ((adjE N Es).length : Int) <= (v : Int) := by omega
 have v2 : (v : Int) < (adjE N Es).length := by omega
 have v3 : v < (adjE N Es).length := by omega
 have gv : (us (adjE N Es))[v]? = some (.int .u64 ((adjE N Es).getD v 0 : Nat)) := by
  rw [us_get, List.getElem?_eq_getElem v3, List.getD_eq_getElem?_getD, List.getElem?_eq_getElem v3]; rfl
 have gv' : ∀ h : v < (us (adjE N Es)).length, (us (adjE N Es))[v] = .int .u64 ((adjE N Es).getD v 0 : Nat) := fun h => by rw [List.getElem?_eq_getElem h] at gv; exact Option.some.inj gv
 rw [callL_end oQX sQX (Nat.le_of_ble_eq_true rfl)]
 unfold qQX cQX
 generalize eds Es = Y at *
 have gl := us_length (adjE N Es)
 generalize us (adjE N Es) = Z at *
 generalize (adjE N Es).getD v 0 = q at *
 rw [a1] at *
 simp [rQXX0, rQXX1, rQXX2, rQXX3, rQXX4, rr, cc, v0, v1, v2, v3, gv, gv', gl, a1, idx, sQa3, iQa3, sQq, iQq, blk, eds_length, eds_get, edsAt, edAV, allLeaf_eds, cleanL_eds, cleanL_ints, ints_length, ints_get, intsAt, endL, finB]
theorem gnb_run {N : Nat} {Es : List Ed} (hG : GOK (N : Int) Es) (hE : Es.length < 1000000) {v : Nat} (hv : v < N) : callL cfgS nQG [.agg [.int .i64 N, .list 2 (eds Es)], .int .i64 v] [] = some (.list 1 (ints (nbr N Es v)), []) := by
 have rr := row_run hG hE hv
 obtain ⟨a1, a2, _⟩ := adj_spec hG
 have sm : (adjE N Es).getD v 0 < 18446744073709551616 := by
  rw [List.getD_eq_getElem?_getD, List.getElem?_eq_getElem (by omega)]
  exact a2 _ (List.getElem_mem _)
 have ll := list_run _ sm
 rw [bit_nbr hG hv] at ll
 generalize (adjE N Es).getD v 0 = q at rr ll
 rw [callL_end oQG sQG (Nat.le_of_ble_eq_true rfl)]
 unfold qQG cQG
 generalize eds Es = Y at *
 generalize ints (nbr N Es v) = Z at *
 simp [rQGX0, rQGX1, rr, ll, sQX, iQX, sQW, iQW, blk, eds_length, eds_get, edsAt, edAV, allLeaf_eds, cleanL_eds, cleanL_ints, ints_length, ints_get, intsAt, endL, finB]
theorem gfind_run {N : Nat} {Es : List Ed} (hG : GOK (N : Int) Es) (hE : Es.length < 1000000) (u v : Int) : callL cfgS nQH [.agg [.int .i64 N, .list 2 (eds Es)], .int .i64 u, .int .i64 v] [] = some (.int .i64 (if nrmE u v ∈ Es then (posE (nrmE u v) Es : Int) else -1), []) := by
 have cc := gchk_run (N : Int) Es (by omega)
 rw [chkG_zero.2 hG] at cc
 have pp := place_run (N : Int) Es hE hG.2.1 u v
 rw [callL_end oQH sQH (Nat.le_of_ble_eq_true rfl)]
 unfold qQH cQH
 generalize posE (nrmE u v) Es = p at *
 by_cases h : nrmE u v ∈ Es
 ·rw [decide_eq_true h] at pp
  rw [if_pos h]
  generalize eds Es = Y at *
  simp [rQHX0, rQHX1, rQHX2, rQHX3, rQHX4, cc, pp, sQY, iQY, sQq, iQq, blk, eds_length, eds_get, edsAt, edAV, allLeaf_eds, cleanL_eds, cleanL_ints, ints_length, ints_get, intsAt, endL, finB]
 ·rw [decide_eq_false h] at pp
  rw [if_neg h]
  generalize eds Es = Y at *
  simp [rQHX0, rQHX1, rQHX2, rQHX3, rQHX4, cc, pp, sQY, iQY, sQq, iQq, blk, eds_length, eds_get, edsAt, edAV, allLeaf_eds, cleanL_eds, cleanL_ints, ints_length, ints_get, intsAt, endL, finB]
end Go.BmP
