/- What ref03.Add returns. -/
import Derived.Test.YtldlafnfkiiflaaDoorUseM
import Derived.Test.YtldlafnfkiiflaaDoorK05
set_option linter.unusedSimpArgs false
set_option linter.unusedVariables false
set_option maxRecDepth 100000
set_option maxHeartbeats 4000000
namespace Go.BmP
open Go.Am Go.Bm
theorem add3_run (N : Nat) (Es : List Ed) (hG : GOK (N : Int) Es) (hE : Es.length < 1000000) (u v : Int) (hv : 0 <= u /\ 0 <= v /\ u < (N : Int) /\ v < (N : Int) /\ u ≠ v) (hn : nrmE u v ∉ Es) : callL cfgS nQl [.agg [.int .i64 N, .list 2 (eds Es)], .int .i64 u, .int .i64 v] [] = some (.tup [.agg [.int .i64 N, .list 2 (eds (putE (nrmE u v) Es))], .int .i64 0], []) := by
 rw [callL_end oQl sQl (Nat.le_of_ble_eq_true rfl)]
 have ck := rchk_run (N : Int) Es (by omega)
 rw [chkG_zero.2 hG] at ck
 have en := ends_run (N : Int) u v
 rw [decide_eq_true hv] at en
 have fd := find_run (N : Int) Es (by omega) hG u v
 rw [if_neg hn] at fd
 have ge := edge_run u v
 have wr := with_run (nrmE u v) Es (by omega)
 have lE := eds_length (putE (nrmE u v) Es)
 have ll : (putE (nrmE u v) Es).length <= 4294967296 := by
  have := putE_len (nrmE u v) Es
  omega
 have tk : (eds (putE (nrmE u v) Es)).take (putE (nrmE u v) Es).length = eds (putE (nrmE u v) Es) := List.take_of_length_le (by omega)
 have lf := allLeaf_eds (putE (nrmE u v) Es)
 have cE := cleanL_eds (putE (nrmE u v) Es)
 generalize putE (nrmE u v) Es = G at *
 generalize eds G = GG at *
 generalize eds Es = E at *
 generalize nrmE u v = z at *
 unfold qQl cQl
 simp [rQlX0, rQlX1, rQlX2, rQlX3, rQlX4, rQlX5, rQlX6, rQlX7, rQlX8, ck, en, fd, ge, wr, lE, ll, tk, lf, cE, LIM, blk, sQr, iQr, sQs, iQs, sQt, iQt, sQu, iQu, sQy, iQy, endL, finB]
theorem add3_node (N : Nat) (Es : List Ed) (hG : GOK (N : Int) Es) (hE : Es.length < 1000000) (u v : Int) (hv : ¬ (0 <= u /\ 0 <= v /\ u < (N : Int) /\ v < (N : Int) /\ u ≠ v)) : callL cfgS nQl [.agg [.int .i64 N, .list 2 (eds Es)], .int .i64 u, .int .i64 v] [] = some (.tup [.agg [.int .i64 0, .list 2 []], .int .i64 6], []) := by
 rw [callL_end oQl sQl (Nat.le_of_ble_eq_true rfl)]
 have ck := rchk_run (N : Int) Es (by omega)
 rw [chkG_zero.2 hG] at ck
 have en := ends_run (N : Int) u v
 rw [decide_eq_false hv] at en
 generalize eds Es = E at *
 unfold qQl cQl
 simp [rQlX0, rQlX1, rQlX2, rQlX3, rQlX4, rQlX5, rQlX6, rQlX7, rQlX8, ck, en, LIM, blk, sQr, iQr, sQs, iQs, sQt, iQt, sQu, iQu, sQy, iQy, endL, finB]
theorem add3_there (N : Nat) (Es : List Ed) (hG : GOK (N : Int) Es) (hE : Es.length < 1000000) (u v : Int) (hv : 0 <= u /\ 0 <= v /\ u < (N : Int) /\ v < (N : Int) /\ u ≠ v) (hn : nrmE u v ∈ Es) : callL cfgS nQl [.agg [.int .i64 N, .list 2 (eds Es)], .int .i64 u, .int .i64 v] [] = some (.tup [.agg [.int .i64 0, .list 2 []], .int .i64 15], []) := by
 rw [callL_end oQl sQl (Nat.le_of_ble_eq_true rfl)]
 have ck := rchk_run (N : Int) Es (by omega)
 rw [chkG_zero.2 hG] at ck
 have en := ends_run (N : Int) u v
 rw [decide_eq_true hv] at en
 have fd := find_run (N : Int) Es (by omega) hG u v
 rw [if_pos hn] at fd
 have k0 : (0 : Int) <= (Es.idxOf (nrmE u v) : Int) := by omega
 generalize (Es.idxOf (nrmE u v) : Int) = i at *
 generalize eds Es = E at *
 unfold qQl cQl
 simp [rQlX0, rQlX1, rQlX2, rQlX3, rQlX4, rQlX5, rQlX6, rQlX7, rQlX8, ck, en, fd, k0, LIM, blk, sQr, iQr, sQs, iQs, sQt, iQt, sQu, iQu, sQy, iQy, endL, finB]
end Go.BmP
