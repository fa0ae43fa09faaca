/- ref03.Same at two equal graphs. -/
import Derived.Test.YtkhnplbbngkjkaaUseM
import Derived.Test.YtkhnplbbngkjkaaK04
set_option linter.unusedSimpArgs false
set_option linter.unusedVariables false
set_option maxRecDepth 100000
set_option maxHeartbeats 4000000
namespace Go.BmP
open Go.Am Go.Bm
def seSt (l : List Ed) (i : Int) (J : Env) : St := ⟨(0, .list 2 (eds l)) :: (1, .list 2 (eds l)) :: (12, .int .i64 l.length) :: (13, .int .i64 i) :: J, []⟩
theorem se_loop (l : List Ed) (hl : l.length < 1000000) : ∀ (k i : Nat), i + k = l.length -> codeL cfgS 0 (.loop lQHX0) (seSt l i []) = some (.exit 0, seSt l l.length [(14, .bool false)])
 | 0, i, hi => by
   obtain rfl : i = l.length := by omega
   refine loop_exit ?_
   unfold seSt lQHX0
   have g5 := eds_length l
   generalize eds l = Y at *
   simp [rQHX0, rQHX1, rQHX2, rQHX3, rQHX4, rQHX5, rQHX6, rQHX7, rQHX8, rQHX9, g5, blk, eds_length, eds_get, edsAt, edAV, allLeaf_eds, cleanL_eds, cleanL_ints, ints_length, ints_get, intsAt, endL, finB]
 | k + 1, i, hi => by
   have hlt : i < l.length := by omega
   have h1 : (i : Int) < l.length := by omega
   have hw := wrapS (i := i) (by omega)
   refine (loop_next ?_).trans (se_loop l hl k (i + 1) (by omega))
   have g3 : (eds l)[i]? = some (.agg [.int .i64 l[i].1, .int .i64 l[i].2]) := by rw [eds_get, List.getElem?_eq_getElem hlt]; rfl
   have g4 : ∀ h, (eds l)[i]'h = .agg [.int .i64 l[i].1, .int .i64 l[i].2] := fun h => edsAt ..
   have g5 := eds_length l
   unfold seSt lQHX0
   generalize l[i].1 = x at *
   generalize l[i].2 = y at *
   generalize eds l = Y at *
   simp [rQHX0, rQHX1, rQHX2, rQHX3, rQHX4, rQHX5, rQHX6, rQHX7, rQHX8, rQHX9, h1, hlt, hw, g3, g4, g5, eqA, eqc, idx, blk, eds_length, eds_get, edsAt, edAV, allLeaf_eds, cleanL_eds, cleanL_ints, ints_length, ints_get, intsAt, endL, finB]
theorem sameE_run (l : List Ed) (hl : l.length < 1000000) : callL cfgS nQH [.list 2 (eds l), .list 2 (eds l)] [] = some (.bool true, []) := by
 rw [callL_end oQH sQH (Nat.le_of_ble_eq_true rfl)]
 have lp := se_loop l hl l.length 0 (by omega)
 unfold seSt at lp
 rw [nat0] at lp
 have g5 := eds_length l
 unfold qQH cQH
 generalize eds l = Y at *
 simp [rQHX0, rQHX1, rQHX2, rQHX3, rQHX4, rQHX5, rQHX6, rQHX7, rQHX8, rQHX9, lp, g5, blk, eds_length, eds_get, edsAt, edAV, allLeaf_eds, cleanL_eds, cleanL_ints, ints_length, ints_get, intsAt, endL, finB]
theorem same3_run (n : Int) (l : List Ed) (hl : l.length < 1000000) : callL cfgS nQo [.agg [.int .i64 n, .list 2 (eds l)], .agg [.int .i64 n, .list 2 (eds l)]] [] = some (.bool true, []) := by
 rw [callL_end oQo sQo (Nat.le_of_ble_eq_true rfl)]
 have lp := sameE_run l hl
 unfold qQo cQo
 generalize eds l = Y at *
 simp [rQoX0, rQoX1, lp, sQH, iQH, yQH, lQH, eQH, plp, plpL, allB, notBox, swC, swS, seesC, inBox, blk, eds_length, eds_get, edsAt, edAV, allLeaf_eds, cleanL_eds, cleanL_ints, ints_length, ints_get, intsAt, endL, finB]
end Go.BmP
