/- What field.Plan and partition.Local return. -/
import Derived.Test.YtkhnplbbngkjkaaUseM
import Derived.Test.YtkhnplbbngkjkaaP03
import Derived.Test.YtkhnplbbngkjkaaR02k
set_option linter.unusedSimpArgs false
set_option linter.unusedVariables false
set_option maxRecDepth 100000
set_option maxHeartbeats 4000000
namespace Go.BmP
open Go.Am Go.Bm
def gb (N : Nat) (Es : List Ed) : Blk := some [.int .i64 N, .list 2 (eds Es)]
def pz : Blk := some [.int .i64 0, .own 1 [], .own 1 []]
def pb1 (w : Int) : Blk := some [.int .i64 w, .own 1 [], .own 1 []]
def pb2 (w : Int) (o : List Int) : Blk := some [.int .i64 w, .list 1 (ints o), .own 1 []]
theorem rest_1 (N : Nat) (Es : List Ed) : Rest [gb N Es, pz] := ⟨fun _ => rfl, rfl, fun _ _ => rfl, fun _ => rfl, fun _ _ => rfl⟩
theorem rest_2 (N : Nat) (Es : List Ed) (w : Int) : Rest [gb N Es, pz, pb1 w] := ⟨fun _ => rfl, rfl, fun _ _ => rfl, fun _ => rfl, fun _ _ => rfl⟩
theorem rest_3 (N : Nat) (Es : List Ed) (w : Int) (o : List Int) : Rest [gb N Es, pz, pb2 w o] := ⟨fun _ => rfl, rfl, fun _ _ => rfl, fun _ => rfl, fun _ _ => rfl⟩
theorem plan_run (l : List Int) (hl : l.length <= 500) (N : Nat) (hN : N <= 64) (Es : List Ed) (a : Nat) : ∃ (w : Nat) (o hv : List Int) (a' : Nat), callL cfgS nQg [.ptr 0 0, .int .i64 N] [dk l a, gb N Es] = some (.agg [.int .i64 w, .list 1 (ints o), .list 1 (ints hv)], [dk l a', gb N Es]) /\ (1 <= w /\ w <= 4) /\ (o.length = N /\ ∀ x ∈ o, 0 <= x /\ x < (w : Int)) /\ (hv.length <= 64 /\ valGo (N : Int) (-1) hv = true) := by
 have d1 := next_run l hl a 4 (by omega) [gb N Es, pz] (rest_1 N Es)
 have bd := nxV_bd l a (n := 4) (by omega)
 obtain ⟨w, hw⟩ : ∃ w : Nat, 1 + nxV l a 4 = w := ⟨(1 + nxV l a 4).toNat, by omega⟩
 have ww : IntKind.i64.wrap (1 + nxV l a 4) = (w : Int) := by rw [<- hw]; exact wrap_id (by omega) (by omega)
 generalize nxV l a 4 = v at *
 generalize nxA l a 4 = a1 at *
 obtain ⟨o, a2, d2, o1, o2⟩ := numbers_run l hl N hN (w : Int) (by omega) [gb N Es, pz, pb1 w] (rest_2 N Es w) a1
 have d3 := next_run l hl a2 2 (by omega) [gb N Es, pz, pb2 w o] (rest_3 N Es w o)
 generalize hv2 : nxV l a2 2 = v2 at *
 generalize nxA l a2 2 = a3 at *
 have cO := cleanL_ints o
 simp only [dk, gb, pz] at d1
 unfold dk gb pz pb1 at d2
 simp only [dk, gb, pz, pb2] at d3
 by_cases q : v2 = 1
 ·obtain ⟨hv, a4, d4, s1, s2, s3⟩ := set_run l hl N hN [gb N Es, pz, pb2 w o] (rest_3 N Es w o) a3
  refine ⟨w, o, hv, a4, ?_, by omega, ⟨o1, o2⟩, by omega, (valGo_iff (N : Int)).2 ⟨s2, fun x hx => by have := s3 x hx; omega⟩⟩
  unfold dk gb pz pb2 at d4
  have cH := cleanL_ints hv
  unfold dk gb
  generalize ints o = O at *
  generalize ints hv = Hv at *
  generalize eds Es = Y at *
  rw [callL_end oQg sQg (Nat.le_of_ble_eq_true rfl)]
  unfold qQg cQg
  simp [rQgX0, rQgX1, rQgX2, rQgX3, rQgX4, rQgX5, d1, d2, d3, d4, q, ww, cO, cH, sQn, iQn, yQn, lQn, eQn, sQq, iQq, yQq, lQq, eQq, sQr, iQr, yQr, lQr, eQr, plp, plpL, allB, notBox, swC, swS, seesC, inBox, relB, handBox, mvBB, mvRtB, offBoxes, offLab, calmB, ptrs, ptrsL, blkE, avE, avLE, finS, blk, eds_length, eds_get, edsAt, edAV, allLeaf_eds, cleanL_eds, cleanL_ints, ints_length, ints_get, intsAt, endL, finB]
 ·refine ⟨w, o, [], a3, ?_, by omega, ⟨o1, o2⟩, by simp, rfl⟩
  unfold dk gb
  rw [ints_nil]
  generalize ints o = O at *
  generalize eds Es = Y at *
  rw [callL_end oQg sQg (Nat.le_of_ble_eq_true rfl)]
  unfold qQg cQg
  simp [rQgX0, rQgX1, rQgX2, rQgX3, rQgX4, rQgX5, d1, d2, d3, q, ww, cO, sQn, iQn, yQn, lQn, eQn, sQq, iQq, yQq, lQq, eQq, plp, plpL, allB, notBox, swC, swS, seesC, inBox, relB, handBox, mvBB, mvRtB, offBoxes, offLab, calmB, ptrs, ptrsL, blkE, avE, avLE, finS, blk, eds_length, eds_get, edsAt, edAV, allLeaf_eds, cleanL_eds, cleanL_ints, ints_length, ints_get, intsAt, endL, finB]
def lcSt (N w : Nat) (Es : List Ed) (o hv : List Int) (x : Int) (F : List Ed) (i : Nat) (J : Env) : St := ⟨(2, .int .i64 x) :: (4, .ptr 1 0) :: (6, .ptr 2 0) :: (9, .ptr 3 0) :: (32, .list 2 (eds Es)) :: (33, .int .i64 Es.length) :: (34, .int .i64 i) :: J, [some [.int .i64 N, .list 2 (eds Es)], some [.int .i64 w, .list 1 (ints o), .list 1 (ints hv)], some [.int .i64 0, .own 2 []], some [.int .i64 N, .own 2 (eds F)]]⟩
theorem lc_round {N w : Nat} (h0 : 1 <= w) (Es : List Ed) (hE : Es.length < 1000000) (o hv : List Int) (ho : o.length = N) (hN : N <= 64) (hh : hv.length < 1000000) (x : Int) (F : List Ed) (hF : F.length < 1000000) (i : Nat) (hi : i < Es.length) (he : 0 <= Es[i].1 /\ Es[i].1 < Es[i].2 /\ Es[i].2 < (N : Int)) :
  codeL cfgS 0 lQhX0 (lcSt N w Es o hv x F i []) = some (.normal, lcSt N w Es o hv x (if hmE w o hv Es[i] = x then F ++ [Es[i]] else F) (i + 1) []) := by
 obtain ⟨u, hu⟩ : ∃ u : Nat, Es[i].1 = u := ⟨Es[i].1.toNat, by omega⟩
 obtain ⟨v, hv2⟩ : ∃ v : Nat, Es[i].2 = v := ⟨Es[i].2.toNat, by omega⟩
 have hm := home_run h0 o hv hh (u := u) (v := v) (by omega) (by omega) (by omega)
 have eh : hmE w o hv Es[i] = hmV w o hv u v := by unfold hmE; rw [hu, hv2]; rfl
 have ex : Es[i] = ((u : Int), (v : Int)) := Prod.ext hu hv2
 have k1 : (i : Int) < Es.length := by omega
 have hw := wrapS (i := i) (by omega)
 have g3 : (eds Es)[i]? = some (.agg [.int .i64 u, .int .i64 v]) := by rw [eds_get, List.getElem?_eq_getElem hi]; simp [edAV, hu, hv2]
 have g4 : ∀ h, (eds Es)[i]'h = .agg [.int .i64 u, .int .i64 v] := fun h => by
  have := List.getElem?_eq_getElem (l := eds Es) h
  rw [g3] at this
  exact (Option.some.inj this).symm
 have g5 := eds_length Es
 have g6 := eds_length F
 have hL : F.length + 1 <= 4294967296 := by omega
 have sn : eds F ++ [.agg [.int .i64 u, .int .i64 v]] = eds (F ++ [((u : Int), (v : Int))]) := eds_snocM F u v
 have tk : (eds (F ++ [((u : Int), (v : Int))])).take (F.length + 1) = eds (F ++ [((u : Int), (v : Int))]) := List.take_of_length_le (by rw [eds_length]; simp)
 have tko : (eds F).take F.length = eds F := List.take_of_length_le (by omega)
 have cF := cleanL_eds F
 have aF := allLeaf_eds F
 have cE := cleanL_eds Es
 have hj1 : ((i + 1 : Nat) : Int) = (i : Int) + 1 := rfl
 rw [eh, ex]
 unfold lcSt lQhX0
 rw [hj1] at hw ⊢
 generalize hmV w o hv u v = z at *
 generalize ints o = O at *
 generalize ints hv = Hv at *
 by_cases q : z = x
 ·rw [if_pos q]
  generalize eds (F ++ [((u : Int), (v : Int))]) = Z at *
  generalize eds F = V at *
  generalize eds Es = Y at *
  simp [rQhX0, rQhX1, rQhX2, rQhX3, rQhX4, rQhX5, rQhX6, rQhX7, rQhX8, rQhX9, rQhX10, rQhX11, rQhX12, rQhX13, hm, q, k1, hi, hw, g3, g4, g5, g6, hL, sn, tk, tko, cF, aF, cE, LIM, idx, sQt, iQt, yQt, lQt, eQt, plp, plpL, allB, notBox, swC, swS, seesC, inBox, relB, handBox, mvBB, mvRtB, offBoxes, offLab, calmB, ptrs, ptrsL, blkE, avE, avLE, blk, eds_length, eds_get, edsAt, edAV, allLeaf_eds, cleanL_eds, cleanL_ints, ints_length, ints_get, intsAt, endL, finB]
 ·rw [if_neg q]
  generalize eds F = V at *
  generalize eds Es = Y at *
  simp [rQhX0, rQhX1, rQhX2, rQhX3, rQhX4, rQhX5, rQhX6, rQhX7, rQhX8, rQhX9, rQhX10, rQhX11, rQhX12, rQhX13, hm, q, k1, hi, hw, g3, g4, g5, g6, tko, cF, aF, cE, LIM, idx, sQt, iQt, yQt, lQt, eQt, plp, plpL, allB, notBox, swC, swS, seesC, inBox, relB, handBox, mvBB, mvRtB, offBoxes, offLab, calmB, ptrs, ptrsL, blkE, avE, avLE, blk, eds_length, eds_get, edsAt, edAV, allLeaf_eds, cleanL_eds, cleanL_ints, ints_length, ints_get, intsAt, endL, finB]
def lcE (w : Nat) (o hv : List Int) (x : Int) (Es : List Ed) : List Ed := Es.filter fun e => decide (hmE w o hv e = x)
theorem lc_loop {N w : Nat} (h0 : 1 <= w) (Es : List Ed) (hE : Es.length < 1000000) (o hv : List Int) (ho : o.length = N) (hN : N <= 64) (hh : hv.length < 1000000) (x : Int) (he : ∀ e ∈ Es, 0 <= e.1 /\ e.1 < e.2 /\ e.2 < (N : Int)) : ∀ (k i : Nat) (F : List Ed), i + k = Es.length -> F.length <= i ->
  codeL cfgS 0 (.loop lQhX0) (lcSt N w Es o hv x F i []) = some (.exit 0, lcSt N w Es o hv x (F ++ lcE w o hv x (Es.drop i)) Es.length [(35, .bool false)])
 | 0, i, F, hi, hF => by
   obtain rfl : i = Es.length := by omega
   rw [List.drop_length]
   have e0 : lcE w o hv x [] = [] := rfl
   rw [e0, List.append_nil]
   refine loop_exit ?_
   unfold lcSt lQhX0
   have g5 := eds_length Es
   generalize eds Es = Y at *
   generalize ints o = O at *
   generalize ints hv = Hv at *
   simp [rQhX0, rQhX1, rQhX2, rQhX3, rQhX4, rQhX5, rQhX6, rQhX7, rQhX8, rQhX9, rQhX10, rQhX11, rQhX12, rQhX13, g5, blk, eds_length, eds_get, edsAt, edAV, allLeaf_eds, cleanL_eds, cleanL_ints, ints_length, ints_get, intsAt, endL, finB]
 | k + 1, i, F, hi, hF => by
   have hlt : i < Es.length := by omega
   have ll : (if hmE w o hv Es[i] = x then F ++ [Es[i]] else F).length <= i + 1 := by
    split
    ·rw [List.length_append]; exact Nat.succ_le_succ hF
    ·omega
   refine (loop_next (lc_round h0 Es hE o hv ho hN hh x F (by omega) i hlt (he _ (List.getElem_mem hlt)))).trans ((lc_loop h0 Es hE o hv ho hN hh x he k (i + 1) _ (by omega) ll).trans ?_)
   have e : (if hmE w o hv Es[i] = x then F ++ [Es[i]] else F) ++ lcE w o hv x (Es.drop (i + 1)) = F ++ lcE w o hv x (Es.drop i) := by
    rw [List.drop_eq_getElem_cons hlt]
    unfold lcE
    rw [List.filter_cons]
    by_cases q : hmE w o hv Es[i] = x
    ·simp [q]
    ·simp [q]
   rw [e]
theorem local_run {N w : Nat} (h0 : 1 <= w) (h1 : w <= 8) {Es : List Ed} (hG : GOK (N : Int) Es) (hE : Es.length < 1000000) (o hv : List Int) (ho : o.length = N) (hh : hv.length < 1000000) (hV : valGo N (-1) hv = true) (hb : ∀ x ∈ o, 0 <= x /\ x < (w : Int)) (x : Nat) (hx : x < w) : callL cfgS nQh [.agg [.int .i64 N, .list 2 (eds Es)], .agg [.int .i64 w, .list 1 (ints o), .list 1 (ints hv)], .int .i64 x] [] = some (.tup [.agg [.int .i64 N, .list 2 (eds (lcE w o hv x Es))], .int .i64 0], []) := by
 have hN := hG.1
 have ck := pcheck_run N Es hG hE w h0 h1 o hv ho hb hh hV
 have lp := lc_loop h0 Es hE o hv ho (by omega) hh (x : Int) hG.2.2 Es.length 0 [] (by omega) (by simp)
 rw [List.drop_zero, List.nil_append] at lp
 have g5 := eds_length Es
 have k1 : ¬ (w : Int) <= x := by omega
 have k2 : ¬ w <= x := by omega
 have k3 : ¬ (x : Int) < 0 := by omega
 unfold lcSt at lp
 rw [nat0, eds_nil] at lp
 rw [callL_end oQh sQh (Nat.le_of_ble_eq_true rfl)]
 have tk : (eds (lcE w o hv x Es)).take (lcE w o hv x Es).length = eds (lcE w o hv x Es) := List.take_of_length_le (by rw [eds_length]; exact Nat.le_refl _)
 have cF := cleanL_eds (lcE w o hv x Es)
 have gF := eds_length (lcE w o hv x Es)
 unfold qQh cQh
 generalize eds (lcE w o hv x Es) = Z at *
 generalize ints o = O at *
 generalize ints hv = Hv at *
 generalize eds Es = Y at *
 simp [rQhX0, rQhX1, rQhX2, rQhX3, rQhX4, rQhX5, rQhX6, rQhX7, rQhX8, rQhX9, rQhX10, rQhX11, rQhX12, rQhX13, ck, lp, k1, k2, k3, g5, tk, cF, gF, LIM, sQs, iQs, yQs, lQs, eQs, plp, plpL, allB, notBox, swC, swS, seesC, inBox, relB, handBox, mvBB, mvRtB, offBoxes, offLab, calmB, ptrs, ptrsL, blkE, avE, avLE, blk, eds_length, eds_get, edsAt, edAV, allLeaf_eds, cleanL_eds, cleanL_ints, ints_length, ints_get, intsAt, endL, finB]
end Go.BmP
/- What partition.Ghosts returns. -/
set_option linter.unusedSimpArgs false
set_option linter.unusedVariables false
set_option maxRecDepth 100000
set_option maxHeartbeats 4000000
namespace Go.BmP
open Go.Am Go.Bm
def endsL (F : List Ed) : List Int := F.flatMap fun e => [e.1, e.2]
theorem endsL_length : ∀ F : List Ed, (endsL F).length = 2 * F.length
 | [] => rfl
 | e :: r => by
   have := endsL_length r
   unfold endsL at this ⊢
   simp only [List.flatMap_cons, List.length_append, this, List.length_cons, List.length_nil]
   omega
theorem endsL_mem {F : List Ed} {v : Int} : v ∈ endsL F ↔ ∃ e ∈ F, v = e.1 \/ v = e.2 := by
 unfold endsL
 simp [List.mem_flatMap]
def goSt (N w : Nat) (Es : List Ed) (o hv : List Int) (x : Nat) (F : List Ed) (q : List Int) (i : Nat) (J : Env) : St := ⟨(4, .ptr 1 0) :: (5, .ptr 2 0) :: (10, .own 1 (ints q)) :: (24, .list 2 (eds F)) :: (25, .int .i64 F.length) :: (26, .int .i64 i) :: J, [some [.int .i64 N, .list 2 (eds Es)], some [.int .i64 w, .list 1 (ints o), .list 1 (ints hv)], some [.int .i64 x]]⟩
theorem go_round (N w : Nat) (Es : List Ed) (o hv : List Int) (x : Nat) (F : List Ed) (hF : F.length < 1000000) (q : List Int) (hq : q.length < 4000000) (i : Nat) (hi : i < F.length) :
  codeL cfgS 0 lQiX0 (goSt N w Es o hv x F q i []) = some (.normal, goSt N w Es o hv x F (q ++ [F[i].1, F[i].2]) (i + 1) []) := by
 have k1 : (i : Int) < F.length := by omega
 have hw := wrapS (i := i) (by omega)
 have g3 : (eds F)[i]? = some (.agg [.int .i64 F[i].1, .int .i64 F[i].2]) := by rw [eds_get, List.getElem?_eq_getElem hi]; rfl
 have g4 : ∀ h, (eds F)[i]'h = .agg [.int .i64 F[i].1, .int .i64 F[i].2] := fun h => edsAt ..
 have g5 := eds_length F
 have g6 := ints_length q
 have hL : q.length + 2 <= 4294967296 := by omega
 unfold goSt lQiX0
 have sn : ints q ++ [.int .i64 F[i].1, .int .i64 F[i].2] = ints (q ++ [F[i].1, F[i].2]) := by simp [ints]
 have tk : (ints (q ++ [F[i].1, F[i].2])).take (q.length + 2) = ints (q ++ [F[i].1, F[i].2]) := List.take_of_length_le (by rw [ints_length]; simp)
 have tko : (ints q).take q.length = ints q := List.take_of_length_le (by omega)
 have cq := cleanL_ints q
 have aq := allLeaf_ints q
 have cF := cleanL_eds F
 have hj1 : ((i + 1 : Nat) : Int) = (i : Int) + 1 := rfl
 rw [hj1] at hw ⊢
 generalize ints (q ++ [F[i].1, F[i].2]) = Z at *
 generalize F[i].1 = u at *
 generalize F[i].2 = v at *
 generalize ints q = Q at *
 generalize ints o = O at *
 generalize ints hv = Hv at *
 generalize eds F = V at *
 generalize eds Es = Y at *
 simp [rQiX0, rQiX1, rQiX2, rQiX3, rQiX4, rQiX5, rQiX6, rQiX7, rQiX8, rQiX9, rQiX10, k1, hi, hw, g3, g4, g5, g6, hL, sn, tk, tko, cq, aq, cF, LIM, idx, blk, eds_length, eds_get, edsAt, edAV, allLeaf_eds, cleanL_eds, cleanL_ints, ints_length, ints_get, intsAt, endL, finB]
theorem go_loop (N w : Nat) (Es : List Ed) (o hv : List Int) (x : Nat) (F : List Ed) (hF : F.length < 1000000) : ∀ (k i : Nat) (q : List Int), i + k = F.length -> q.length <= 2 * i ->
  codeL cfgS 0 (.loop lQiX0) (goSt N w Es o hv x F q i []) = some (.exit 0, goSt N w Es o hv x F (q ++ endsL (F.drop i)) F.length [(27, .bool false)])
 | 0, i, q, hi, hq => by
   obtain rfl : i = F.length := by omega
   rw [List.drop_length]
   have e0 : endsL [] = [] := rfl
   rw [e0, List.append_nil]
   refine loop_exit ?_
   unfold goSt lQiX0
   have g5 := eds_length F
   generalize eds F = V at *
   generalize eds Es = Y at *
   generalize ints o = O at *
   generalize ints hv = Hv at *
   simp [rQiX0, rQiX1, rQiX2, rQiX3, rQiX4, rQiX5, rQiX6, rQiX7, rQiX8, rQiX9, rQiX10, g5, blk, eds_length, eds_get, edsAt, edAV, allLeaf_eds, cleanL_eds, cleanL_ints, ints_length, ints_get, intsAt, endL, finB]
 | k + 1, i, q, hi, hq => by
   have hlt : i < F.length := by omega
   refine (loop_next (go_round N w Es o hv x F hF q (by omega) i hlt)).trans ((go_loop N w Es o hv x F hF k (i + 1) _ (by omega) (by rw [List.length_append]; simp only [List.length_cons, List.length_nil]; omega)).trans ?_)
   rw [List.drop_eq_getElem_cons hlt, List.append_assoc]
   rfl
theorem intsOf_map (zs : List Int) : intsOf (ints zs) = some zs := intsOf_ints zs
theorem delf_eq (k : Int) (o hv q : List Int) (x : Nat) (hq : q.length <= 4294967296) (hb : ∀ z ∈ q, 0 <= z /\ z < (o.length : Int)) : delfG nQw 1 (ints q) [.func (.func nQw) [] [.fptr [.int .i64 k, .list 1 (ints o), .list 1 (ints hv)], .fptr [.int .i64 x]]] = some (ints (q.filter fun z => !ownsB o x z)) := by
 unfold delfG
 simp only
 rw [if_pos ⟨trivial, trivial, by rw [ints_length]; unfold LIM; exact hq⟩, intsOf_map, intsOf_map]
 simp only
 rw [if_pos hb]
 rfl
def ghL (w : Nat) (o hv : List Int) (x : Nat) (Es : List Ed) : List Int := setOf ((endsL (lcE w o hv x Es)).filter fun z => !ownsB o x z)
theorem lcE_sub {w : Nat} {o hv : List Int} {x : Int} {Es : List Ed} {e : Ed} (h : e ∈ lcE w o hv x Es) : e ∈ Es := (List.mem_filter.1 h).1
theorem lcE_len (w : Nat) (o hv : List Int) (x : Int) (Es : List Ed) : (lcE w o hv x Es).length <= Es.length := List.length_filter_le _ _
theorem ghosts_run {N w : Nat} (h0 : 1 <= w) (h1 : w <= 8) {Es : List Ed} (hG : GOK (N : Int) Es) (hE : Es.length < 100000) (o hv : List Int) (ho : o.length = N) (hh : hv.length < 1000000) (hV : valGo N (-1) hv = true) (hb : ∀ x ∈ o, 0 <= x /\ x < (w : Int)) (x : Nat) (hx : x < w) : callL cfgS nQi [.agg [.int .i64 N, .list 2 (eds Es)], .agg [.int .i64 w, .list 1 (ints o), .list 1 (ints hv)], .int .i64 x] [] = some (.tup [.list 1 (ints (ghL w o hv x Es)), .int .i64 0], []) := by
 have hN := hG.1
 have lc := local_run h0 h1 hG (by omega) o hv ho hh hV hb x hx
 have fl := lcE_len w o hv x Es
 have hz : ∀ z ∈ endsL (lcE w o hv x Es), 0 <= z /\ z < (o.length : Int) := fun z hz => by
  obtain ⟨e, he, q⟩ := endsL_mem.1 hz
  have := hG.2.2 e (lcE_sub he)
  rcases q with rfl | rfl <;> omega
 unfold ghL
 generalize lcE w o hv x Es = F at *
 have lp := go_loop N w Es o hv x F (by omega) F.length 0 [] (by omega) (by simp)
 rw [List.drop_zero, List.nil_append] at lp
 have le := endsL_length F
 have df := delf_eq (w : Int) o hv (endsL F) x (by omega) hz
 have lf := List.length_filter_le (fun z => !ownsB o x z) (endsL F)
 have nf := nof_run ((endsL F).filter fun z => !ownsB o x z) (by omega)
 clear hz
 generalize (endsL F).filter (fun z => !ownsB o x z) = G at *
 have g1 := ints_length (endsL F)
 have g2 := ints_length G
 have g3 := eds_length F
 have tk1 : (ints (endsL F)).take (endsL F).length = ints (endsL F) := List.take_of_length_le (by omega)
 have tk2 : (ints G).take G.length = ints G := List.take_of_length_le (by omega)
 have c1 := cleanL_ints (endsL F)
 have c2 := cleanL_ints G
 have c3 := cleanL_eds F
 have c4 := cleanL_ints o
 have c5 := cleanL_ints hv
 unfold goSt at lp
 rw [nat0, ints_nil] at lp
 rw [callL_end oQi sQi (Nat.le_of_ble_eq_true rfl)]
 unfold qQi cQi
 generalize endsL F = q at *
 generalize ints (setOf G) = Z at *
 generalize ints q = Q at *
 generalize ints G = GG at *
 generalize ints o = O at *
 generalize ints hv = Hv at *
 generalize eds F = V at *
 generalize eds Es = Y at *
 simp [rQiX0, rQiX1, rQiX2, rQiX3, rQiX4, rQiX5, rQiX6, rQiX7, rQiX8, rQiX9, rQiX10, lc, lp, df, nf, g1, g2, g3, tk1, tk2, c1, c2, c3, c4, c5, eatV, eatL, eatE, capL, capC, capV, LIM, sQh, iQh, yQh, lQh, eQh, sQv, iQv, yQv, lQv, eQv, sQu, iQu, yQu, lQu, eQu, plp, plpL, allB, notBox, swC, swS, seesC, inBox, relB, handBox, mvBB, mvRtB, offBoxes, offLab, calmB, ptrs, ptrsL, blkE, avE, avLE, blk, eds_length, eds_get, edsAt, edAV, allLeaf_eds, cleanL_eds, cleanL_ints, ints_length, ints_get, intsAt, endL, finB]
end Go.BmP
