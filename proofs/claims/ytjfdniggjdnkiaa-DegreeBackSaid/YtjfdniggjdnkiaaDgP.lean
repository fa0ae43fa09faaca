/- What degree.Degrees returns for a graph of at most nine nodes. -/
import Derived.Test.YtjfdniggjdnkiaaUseM
import Derived.Test.YtjfdniggjdnkiaaRwP
set_option linter.unusedSimpArgs false
set_option linter.unusedVariables false
set_option maxRecDepth 100000
set_option maxHeartbeats 4000000
namespace Go.BmP
open Go.Am Go.Bm
def dgL (A : List Nat) : List Int := A.map fun m => ((pc9 m : Nat) : Int)
def dgSt (A : List Nat) (i : Nat) (J : Env) : St := ⟨(5, .own 1 (ints (dgL (A.take i)))) :: (14, .list 1 (us A)) :: (15, .int .i64 A.length) :: (16, .int .i64 i) :: J, []⟩
theorem dg_loop (A : List Nat) (hA : A.length < 1000000) (h : ∀ m ∈ A, m < 512) : ∀ (k i : Nat), i + k = A.length -> codeL cfgS 0 (.loop lQiX0) (dgSt A i []) = some (.exit 0, dgSt A A.length [(17, .bool false)])
 | 0, i, hi => by
   obtain rfl : i = A.length := by omega
   refine loop_exit ?_
   unfold dgSt lQiX0
   generalize ints (dgL (A.take A.length)) = D at *
   generalize us A = U at *
   simp [rQiX0, rQiX1, rQiX2, rQiX3, rQiX4, rQiX5, rQiX6, rQiX7, rQiX8, rQiX9, rQiX10]
 | k + 1, i, hi => by
   have hlt : i < A.length := by omega
   refine (loop_next ?_).trans (dg_loop A hA h k (i + 1) (by omega))
   have k1 : (i : Int) < A.length := by omega
   have hw := wrapS (i := i) (by omega)
   have c := mcount_run (h A[i] (List.getElem_mem hlt))
   have g3 : (us A)[i]? = some (.int .u64 (A[i] : Nat)) := by rw [us_get, List.getElem?_eq_getElem hlt]; rfl
   have g4 : ∀ h, (us A)[i]'h = .int .u64 (A[i] : Nat) := fun h => by
    have := List.getElem?_eq_getElem (l := us A) h
    rw [g3] at this
    exact (Option.some.inj this).symm
   have g5 := us_length A
   have ld : (dgL (A.take i)).length = i := by rw [dgL, List.length_map, List.length_take]; omega
   have l5 : (ints (dgL (A.take i))).length = i := by rw [ints_length, ld]
   have hL : i + 1 <= 4294967296 := by omega
   have sn : ints (dgL (A.take i)) ++ [.int .i64 (pc9 A[i])] = ints (dgL (A.take (i + 1))) := by
    rw [List.take_succ_eq_append_getElem hlt]; unfold dgL ints; rw [List.map_append, List.map_append]; rfl
   have tk : (ints (dgL (A.take (i + 1)))).take (i + 1) = ints (dgL (A.take (i + 1))) := List.take_of_length_le (by rw [ints_length, dgL, List.length_map, List.length_take]; omega)
   have tko : (ints (dgL (A.take i))).take i = ints (dgL (A.take i)) := List.take_of_length_le (by omega)
   generalize A[i] = m at *
   unfold dgSt lQiX0
   generalize ints (dgL (A.take (i + 1))) = D2 at *
   generalize ints (dgL (A.take i)) = D at *
   generalize us A = U at *
   generalize ((pc9 m : Nat) : Int) = p at *
   simp [rQiX0, rQiX1, rQiX2, rQiX3, rQiX4, rQiX5, rQiX6, rQiX7, rQiX8, rQiX9, rQiX10, k1, hlt, hw, c, g3, g4, g5, l5, hL, sn, tk, tko, LIM, idx, blk, sQx, iQx]
theorem degrees_run {N : Nat} (hN : N <= 9) {Es : List Ed} (hG : GOK (N : Int) Es) (hE : Es.length < 1000000) : callL cfgS nQi [.agg [.int .i64 N, .list 2 (eds Es)]] [] = some (.tup [.list 1 (ints (dgL (adjE N Es))), .int .i64 0], []) := by
 have g := gchk_run N Es (by omega)
 rw [chkG_zero.2 hG] at g
 have rr := rows_run hG (by omega)
 have ln := (adj_spec hG).1
 have lp := dg_loop (adjE N Es) (by omega) (fun m hm => by
  obtain ⟨i, hi, rfl⟩ := List.getElem_of_mem hm
  have := row_lt hN hG i
  rw [List.getD_eq_getElem?_getD, List.getElem?_eq_getElem hi] at this
  exact this) (adjE N Es).length 0 (by omega)
 have g5 := us_length (adjE N Es)
 have ld : (dgL (adjE N Es)).length = (adjE N Es).length := by rw [dgL, List.length_map]
 have tk : (ints (dgL (adjE N Es))).take (adjE N Es).length = ints (dgL (adjE N Es)) := List.take_of_length_le (by rw [ints_length, ld]; omega)
 have tk9 : (adjE N Es).take (adjE N Es).length = adjE N Es := List.take_length
 have l5 : (ints (dgL (adjE N Es))).length = (adjE N Es).length := by rw [ints_length, ld]
 unfold dgSt at lp
 rw [tk9, List.take_zero, show ints (dgL []) = [] from rfl, nat0] at lp
 rw [callL_end oQi sQi (Nat.le_of_ble_eq_true rfl)]
 unfold qQi cQi
 generalize ints (dgL (adjE N Es)) = D at *
 generalize us (adjE N Es) = U at *
 generalize (adjE N Es).length = M at *
 generalize eds Es = Y at *
 simp [rQiX0, rQiX1, rQiX2, rQiX3, rQiX4, rQiX5, rQiX6, rQiX7, rQiX8, rQiX9, rQiX10, g, rr, lp, g5, tk, l5, blk, sQv, iQv, sQw, iQw, plL, pl, endL, finB]
end Go.BmP
