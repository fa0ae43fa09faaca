/- What field.Beside returns. -/
import Derived.Test.YtldlafnfkiiflaaDoorUseM
import Derived.Test.YtldlafnfkiiflaaDoorMxN
import Derived.Test.YtldlafnfkiiflaaDoorK05
set_option linter.unusedSimpArgs false
set_option linter.unusedVariables false
set_option maxRecDepth 100000
set_option maxHeartbeats 4000000
namespace Go.BmP
open Go.Am Go.Bm
def bsSt (a b : Nat) (E F o : List Ed) (i : Nat) (J : Env) : St := ⟨(2, .ptr 0 0) :: (3, .ptr 1 0) :: (4, .ptr 2 0) :: (5, .own 2 (eds o)) :: (6, .int .i64 i) :: J, [some [.int .i64 a, .list 2 (eds E)], some [.int .i64 b, .list 2 (eds F)], some [.int .i64 0, .own 2 []]]⟩
theorem bs_round (a b : Nat) (ha : a <= 64) (E F : List Ed) (hF : F.length < 1000000) (o : List Ed) (ho : o.length < 4294967295) (i : Nat) (hlt : i < F.length) (he : 0 <= F[i].1 /\ F[i].1 < F[i].2 /\ F[i].2 <= 64) : codeL cfgS 0 lQkX0 (bsSt a b E F o i []) = some (.normal, bsSt a b E F (o ++ [shE a F[i]]) (i + 1) []) := by
 have h1 : (i : Int) < F.length := by omega
 have hw := wrapS (i := i) (by omega)
 have hL : o.length + 1 <= 4294967296 := by omega
 have g3 : (eds F)[i]? = some (.agg [.int .i64 F[i].1, .int .i64 F[i].2]) := by rw [eds_get, List.getElem?_eq_getElem hlt]; simp [edAV]
 have g4 : ∀ h, (eds F)[i]'h = .agg [.int .i64 F[i].1, .int .i64 F[i].2] := fun h => by
  have := List.getElem?_eq_getElem (l := eds F) h
  rw [g3] at this
  exact (Option.some.inj this).symm
 have g5 := eds_length F
 have w1 : IntKind.i64.wrap (F[i].1 + (a : Int)) = F[i].1 + a := wrap_id (by omega) (by omega)
 have w2 : IntKind.i64.wrap (F[i].2 + (a : Int)) = F[i].2 + a := wrap_id (by omega) (by omega)
 have sn := eds_snocM o (F[i].1 + (a : Int)) (F[i].2 + (a : Int))
 have tk : (eds (o ++ [(F[i].1 + (a : Int), F[i].2 + (a : Int))])).take (o.length + 1) = eds (o ++ [(F[i].1 + (a : Int), F[i].2 + (a : Int))]) := by
  rw [eds_take, List.take_of_length_le (by simp)]
 have tko : (eds o).take o.length = eds o := by rw [eds_take, List.take_length]
 unfold shE
 generalize hx : F[i].1 + (a : Int) = x at *
 generalize hy : F[i].2 + (a : Int) = y at *
 generalize F[i].1 = p at *
 generalize F[i].2 = q at *
 unfold bsSt lQkX0
 generalize eds (o ++ [(x, y)]) = Z at *
 generalize eds E = YE at *
 generalize eds F = YF at *
 simp [rQkX0, rQkX1, rQkX2, rQkX3, rQkX4, rQkX5, rQkX6, rQkX7, h1, hlt, hw, hL, g3, g4, g5, hx, hy, w1, w2, sn, tk, tko, LIM, idx, blk, eds_length, eds_get, edsAt, edAV, allLeaf_eds, cleanL_eds, cleanL_ints, ints_length, ints_get, intsAt, endL, finB]
theorem bs_loop (a b : Nat) (ha : a <= 64) (E F : List Ed) (hF : F.length < 1000000) (he : ∀ e ∈ F, 0 <= e.1 /\ e.1 < e.2 /\ e.2 <= 64) : ∀ (k i : Nat) (o : List Ed), i + k = F.length -> o.length <= 1000000 + i -> codeL cfgS 0 (.loop lQkX0) (bsSt a b E F o i []) = some (.exit 0, bsSt a b E F (o ++ (F.drop i).map (shE a)) F.length [(16, .bool false)])
 | 0, i, o, hi, ho => by
   obtain rfl : i = F.length := by omega
   rw [List.drop_length, List.map_nil, List.append_nil]
   refine loop_exit ?_
   unfold lQkX0 bsSt
   have g5 := eds_length F
   generalize eds E = YE at *
   generalize eds F = YF at *
   simp [rQkX0, rQkX1, rQkX2, rQkX3, rQkX4, rQkX5, rQkX6, rQkX7, g5, blk, eds_length, eds_get, edsAt, edAV, allLeaf_eds, cleanL_eds, cleanL_ints, ints_length, ints_get, intsAt, endL, finB]
 | k + 1, i, o, hi, ho => by
   have hlt : i < F.length := by omega
   have ih := bs_loop a b ha E F hF he k (i + 1) (o ++ [shE a F[i]]) (by omega) (by simp; omega)
   rw [List.append_assoc] at ih
   rw [List.drop_eq_getElem_cons hlt, List.map_cons]
   exact (loop_next (bs_round a b ha E F hF o (by omega) i hlt (he _ (List.getElem_mem hlt)))).trans ih
theorem beside_run {a b : Nat} {E F : List Ed} (hE : GOK (a : Int) E) (hF : GOK (b : Int) F) (h : a + b <= 64) (lE : E.length < 1000000) (lF : F.length < 1000000) : callL cfgS nQk [.agg [.int .i64 a, .list 2 (eds E)], .agg [.int .i64 b, .list 2 (eds F)]] [] = some (.agg [.int .i64 ((a + b : Nat) : Int), .list 2 (eds (bsE a E F))], []) := by
 have o3 := of3_run ((a + b : Nat) : Int) (E ++ F.map (shE a)) (by rw [List.length_append, List.length_map]; omega) (by omega) (fun e he => by
  rcases List.mem_append.1 he with q | q
  ·have := hE.2.2 e q; omega
  ·obtain ⟨d, hd, rfl⟩ := List.mem_map.1 q
   have := hF.2.2 d hd
   simp only [shE]; omega)
 have lp := bs_loop a b (by omega) E F lF (fun e he => by have := hF.2.2 e he; omega) F.length 0 E (by omega) (by omega)
 rw [List.drop_zero] at lp
 have ll : (eds (E ++ F.map (shE a))).length = E.length + F.length := by rw [eds_length, List.length_append, List.length_map]
 have tk : (eds (E ++ F.map (shE a))).take (E.length + F.length) = eds (E ++ F.map (shE a)) := by rw [<- ll, List.take_length]
 have tkE : (eds E).take E.length = eds E := by rw [eds_take, List.take_length]
 have lE2 : E.length <= 4294967296 := by omega
 have wab : IntKind.i64.wrap ((a : Int) + (b : Int)) = ((a + b : Nat) : Int) := by rw [wrap_id (by omega) (by omega)]; omega
 have aE := allLeaf_eds E
 have gE := eds_length E
 rw [callL_end oQk sQk (Nat.le_of_ble_eq_true rfl)]
 unfold bsSt at lp
 rw [nat0] at lp
 have lm : (E ++ F.map (shE a)).length = E.length + F.length := by rw [List.length_append, List.length_map]
 unfold bsE
 generalize ((a + b : Nat) : Int) = n at *
 generalize E ++ F.map (shE a) = G at *
 unfold qQk cQk
 cases E with
 | nil =>
   rw [show eds [] = [] from rfl] at *
   simp only [List.length_nil, Nat.zero_add] at tk ll lm
   generalize eds F = YF at *
   simp [rQkX0, rQkX1, rQkX2, rQkX3, rQkX4, rQkX5, rQkX6, rQkX7, lp, o3, tk, lm, ll, tkE, lE2, wab, LIM, sQn, iQn, blk, eds_length, eds_get, edsAt, edAV, allLeaf_eds, cleanL_eds, cleanL_ints, ints_length, ints_get, intsAt, endL, finB]
 | cons e r =>
   rw [eds_cons] at *
   rw [List.length_cons] at *
   generalize eds F = YF at *
   simp [rQkX0, rQkX1, rQkX2, rQkX3, rQkX4, rQkX5, rQkX6, rQkX7, lp, o3, tk, lm, ll, tkE, lE2, wab, aE, gE, LIM, sQn, iQn, blk, eds_length, eds_get, edsAt, edAV, allLeaf_eds, cleanL_eds, cleanL_ints, ints_length, ints_get, intsAt, endL, finB]
end Go.BmP
