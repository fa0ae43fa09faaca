/- What graph.Of and ref03.Same return. -/
import Derived.Test.YtjfdniggjdnkiaaUseM
import Derived.Test.YtjfdniggjdnkiaaK04
import Derived.Test.YtjfdniggjdnkiaaGofP
set_option linter.unusedSimpArgs false
set_option linter.unusedVariables false
set_option maxRecDepth 100000
set_option maxHeartbeats 4000000
namespace Go.BmP
open Go.Am Go.Bm
theorem gedge_run (u v : Int) : callL cfgS nQJ [.int .i64 u, .int .i64 v] [] = some (.agg [.int .i64 (nrmE u v).1, .int .i64 (nrmE u v).2], []) := by
 rw [callL_end oQJ sQJ (Nat.le_of_ble_eq_true rfl)]
 unfold nrmE
 simp only
 obtain ⟨a, ha⟩ : ∃ a, (if v < u then v else u) = a := ⟨_, rfl⟩
 obtain ⟨b, hb⟩ : ∃ b, (if u < v then v else u) = b := ⟨_, rfl⟩
 rw [ha, hb]
 unfold qQJ cQJ
 simp [rQJX0, rQJX1, ha, hb, blk, plp, plpL, allB, notBox, swC, swS, seesC, inBox, plL, pl, endL, finB, finS]
def EndsOK (N u v : Int) : Prop := u ≠ v /\ (0 <= u /\ u < N) /\ 0 <= v /\ v < N
instance (N u v : Int) : Decidable (EndsOK N u v) := by unfold EndsOK; infer_instance
theorem gends_run (N u v : Int) : callL cfgS nQI [.int .i64 N, .int .i64 u, .int .i64 v] [] = some (.bool (decide (EndsOK N u v)), []) := by
 rw [callL_end oQI sQI (Nat.le_of_ble_eq_true rfl)]
 unfold qQI cQI
 have e : EndsOK N u v ↔ (¬ u = v /\ 0 <= (if v < u then v else u)) /\ (if u < v then v else u) < N := by
  unfold EndsOK
  constructor
  ·intro h; refine ⟨⟨h.1, ?_⟩, ?_⟩ <;> split <;> omega
  ·rintro ⟨⟨h1, h2⟩, h3⟩
   split at h2 <;> split at h3 <;> refine ⟨h1, ?_⟩ <;> omega
 have e3 : decide (EndsOK N u v) = decide ((¬ u = v /\ 0 <= (if v < u then v else u)) /\ (if u < v then v else u) < N) := decide_eq_decide.2 e
 rw [e3]
 clear e e3
 obtain ⟨a, ha⟩ : ∃ a, (if v < u then v else u) = a := ⟨_, rfl⟩
 obtain ⟨b, hb⟩ : ∃ b, (if u < v then v else u) = b := ⟨_, rfl⟩
 rw [ha, hb]
 by_cases k1 : u = v
 ·simp [rQIX0, rQIX1, ha, hb, k1, blk, endL, finB]
 ·by_cases k2 : 0 <= a
  ·simp [rQIX0, rQIX1, ha, hb, k1, k2, blk, endL, finB]
  ·simp [rQIX0, rQIX1, ha, hb, k1, k2, blk, endL, finB]
def gofSt (n : Int) (l o : List Ed) (i : Int) (J : Env) : St := ⟨(0, .int .i64 n) :: (4, .ptr 0 0) :: (6, .ptr 1 0) :: (18, .list 2 (eds l)) :: (19, .int .i64 l.length) :: (20, .int .i64 i) :: J, [some [.int .i64 0, .own 2 []], some [.int .i64 n, .own 2 (eds o)]]⟩
theorem gof_round (n : Int) (l : List Ed) (hl : l.length < 1000000) (o : List Ed) (ho : o.length < 4294967295) (i : Nat) (hlt : i < l.length) (he : EndsOK n l[i].1 l[i].2) : codeL cfgS 0 lQAX0 (gofSt n l o i []) = some (.normal, gofSt n l (o ++ [nrmE l[i].1 l[i].2]) ((i + 1 : Nat) : Int) []) := by
 have h1 : (i : Int) < l.length := by omega
 have hw := wrapS (i := i) (by omega)
 have hL : o.length + 1 <= 4294967296 := by omega
 have en := gends_run n l[i].1 l[i].2
 rw [decide_eq_true he] at en
 have ge := gedge_run l[i].1 l[i].2
 have g3 : (eds l)[i]? = some (.agg [.int .i64 l[i].1, .int .i64 l[i].2]) := by rw [eds_get, List.getElem?_eq_getElem hlt]; rfl
 have g4 : ∀ h, (eds l)[i]'h = .agg [.int .i64 l[i].1, .int .i64 l[i].2] := fun h => edsAt ..
 have g5 := eds_length l
 have g6 := eds_length o
 unfold gofSt lQAX0
 have sn : eds o ++ [.agg [.int .i64 (nrmE l[i].1 l[i].2).1, .int .i64 (nrmE l[i].1 l[i].2).2]] = eds (o ++ [nrmE l[i].1 l[i].2]) := eds_snoc o _
 have tk : (eds (o ++ [nrmE l[i].1 l[i].2])).take (o.length + 1) = eds (o ++ [nrmE l[i].1 l[i].2]) := List.take_of_length_le (by rw [eds_length]; simp)
 have tko : (eds o).take o.length = eds o := List.take_of_length_le (by omega)
 generalize eds (o ++ [nrmE l[i].1 l[i].2]) = Z at *
 have cl := cleanL_eds o
 have al := allLeaf_eds o
 generalize nrmE l[i].1 l[i].2 = z at *
 generalize l[i].1 = x at *
 generalize l[i].2 = y at *
 generalize eds o = W at *
 generalize eds l = Y at *
 simp [rQAX0, rQAX1, rQAX2, rQAX3, rQAX4, rQAX5, rQAX6, rQAX7, rQAX8, rQAX9, rQAX10, rQAX11, rQAX12, rQAX13, h1, hlt, hw, hL, g3, g4, g5, g6, sn, tk, tko, en, ge, cl, al, LIM, idx, sQI, iQI, sQJ, iQJ, plp, plpL, allB, notBox, swC, swS, seesC, inBox, relB, handBox, mvBB, mvRtB, offBoxes, offLab, calmB, ptrs, ptrsL, blkE, avE, avLE, blk, eds_length, eds_get, edsAt, edAV, allLeaf_eds, cleanL_eds, cleanL_ints, ints_length, ints_get, intsAt, endL, finB]
theorem gof_loop (n : Int) (l : List Ed) (hl : l.length < 1000000) (he : ∀ e ∈ l, EndsOK n e.1 e.2) : ∀ (k i : Nat) (o : List Ed), i + k = l.length -> o.length <= i -> codeL cfgS 0 (.loop lQAX0) (gofSt n l o i []) = some (.exit 0, gofSt n l (o ++ (l.drop i).map fun e => nrmE e.1 e.2) l.length [(21, .bool false)])
 | 0, i, o, hi, ho => by
   obtain rfl : i = l.length := by omega
   rw [List.drop_length, List.map_nil, List.append_nil]
   refine loop_exit ?_
   unfold gofSt lQAX0
   have g5 := eds_length l
   generalize eds l = Y at *
   simp [rQAX0, rQAX1, rQAX2, rQAX3, rQAX4, rQAX5, rQAX6, rQAX7, rQAX8, rQAX9, rQAX10, rQAX11, rQAX12, rQAX13, g5, blk, eds_length, eds_get, edsAt, edAV, allLeaf_eds, cleanL_eds, cleanL_ints, ints_length, ints_get, intsAt, endL, finB]
 | k + 1, i, o, hi, ho => by
   have hlt : i < l.length := by omega
   refine (loop_next (gof_round n l hl o (by omega) i hlt (he _ (List.getElem_mem hlt)))).trans ((gof_loop n l hl he k (i + 1) _ (by omega) (by simp; omega)).trans ?_)
   rw [List.drop_eq_getElem_cons hlt, List.map_cons, List.append_assoc]
   rfl
theorem pr2_eds (l : List Ed) : l.map pr2 = eds l := rfl
theorem srfO_eq (zs : List Ed) (h : zs.length <= 4294967296) : srfG cfO nQF 2 (eds zs) [.func (.func nQF) [] []] = some (eds (isortC cfO zs), none) := by
 unfold srfG
 simp only
 rw [if_pos ⟨trivial, trivial, by rw [eds_length]; unfold LIM; exact h⟩, <- pr2_eds zs, prsOf_map]
 rfl
theorem cpe_eq (zs : List Ed) (h : zs.length <= 4294967296) : cpeG 2 (eds zs) [] = some (eds (ddp zs ++ List.replicate (zs.length - (ddp zs).length) (0, 0)), some (ddp zs).length) := by
 unfold cpeG
 simp only
 rw [if_pos ⟨trivial, by rw [eds_length]; unfold LIM; exact h⟩, <- pr2_eds zs, prsOf_map]
 rfl
theorem ddp_le : ∀ l : List Ed, (ddp l).length <= l.length
 | [] => Nat.le_refl _
 | [x] => Nat.le_refl _
 | x :: y :: r => by
   have ih := ddp_le (y :: r)
   unfold ddp
   split
   ·simp only [List.length_cons] at ih ⊢; omega
   ·simp only [List.length_cons] at ih ⊢; omega
theorem gof_run (N : Nat) (hN : N <= 64) (l : List Ed) (hl : l.length < 1000000) (he : ∀ e ∈ l, EndsOK N e.1 e.2) : callL cfgS nQA [.int .i64 N, .list 2 (eds l)] [] = some (.tup [.agg [.int .i64 N, .list 2 (eds (gofL l))], .int .i64 0], []) := by
 rw [callL_end oQA sQA (Nat.le_of_ble_eq_true rfl)]
 have lp := gof_loop (N : Int) l hl he l.length 0 [] (by omega) (by simp)
 rw [List.drop_zero, List.nil_append, nat0] at lp
 obtain ⟨m, hm⟩ : ∃ m, m = l.map fun e => nrmE e.1 e.2 := ⟨_, rfl⟩
 have lm : m.length = l.length := by rw [hm, List.length_map]
 rw [<- hm] at lp
 have sr := srfO_eq m (by omega)
 have li : (isortC cfO m).length = l.length := by rw [isortC_length, lm]
 have cp := cpe_eq (isortC cfO m) (by omega)
 have dl := ddp_le (isortC cfO m)
 have eg : gofL l = ddp (isortC cfO m) := by unfold gofL; rw [hm]
 rw [eg]
 obtain ⟨I, hI⟩ : ∃ I, I = isortC cfO m := ⟨_, rfl⟩
 rw [<- hI] at sr cp dl li ⊢
 have tk1 : (eds (ddp I ++ List.replicate (I.length - (ddp I).length) (0, 0))).take (ddp I).length = eds (ddp I) := by rw [eds_take, List.take_left']; rfl
 have l1 : (eds (ddp I ++ List.replicate (I.length - (ddp I).length) (0, 0))).length = I.length := by rw [eds_length, List.length_append, List.length_replicate]; omega
 have g1 := eds_length m
 have g2 := eds_length I
 have g3 := eds_length l
 have tkm : (eds m).take l.length = eds m := List.take_of_length_le (by omega)
 have tkI : (eds I).take l.length = eds I := List.take_of_length_le (by omega)
 have tkI2 : (eds I).drop l.length = [] := List.drop_eq_nil_of_le (by omega)
 have tkm2 : (eds m).drop l.length = [] := List.drop_eq_nil_of_le (by omega)
 have tkd : (eds (ddp I)).take (ddp I).length = eds (ddp I) := List.take_of_length_le (by rw [eds_length]; exact Nat.le_refl _)
 have g4 := eds_length (ddp I)
 have dl2 : (ddp I).length <= l.length := by omega
 have cm := cleanL_eds m
 have cI := cleanL_eds I
 have cD := cleanL_eds (ddp I)
 have h6 : ¬ (64 : Int) < N := by omega
 have h0 : ¬ (N : Int) < 0 := by omega
 clear hI hm
 unfold gofSt at lp
 rw [eds_nil] at lp
 unfold qQA cQA
 generalize eds (ddp I ++ List.replicate (I.length - (ddp I).length) (0, 0)) = Z at *
 generalize eds (ddp I) = D at *
 generalize eds I = V at *
 generalize eds m = U at *
 generalize eds l = Y at *
 by_cases q : l.length <= (ddp I).length
 ·simp [rQAX0, rQAX1, rQAX2, rQAX3, rQAX4, rQAX5, rQAX6, rQAX7, rQAX8, rQAX9, rQAX10, rQAX11, rQAX12, rQAX13, q, lp, sr, cp, tk1, l1, g1, g2, g3, g4, tkm, tkI, tkI2, tkm2, tkd, dl2, li, lm, cm, cI, cD, h6, h0, LIM, sQK, iQK, sQL, iQL, plp, plpL, allB, notBox, swC, swS, seesC, inBox, relB, handBox, mvBB, mvRtB, offBoxes, offLab, calmB, ptrs, ptrsL, blkE, avE, avLE, blk, eds_length, eds_get, edsAt, edAV, allLeaf_eds, cleanL_eds, cleanL_ints, ints_length, ints_get, intsAt, endL, finB]
 ·simp [rQAX0, rQAX1, rQAX2, rQAX3, rQAX4, rQAX5, rQAX6, rQAX7, rQAX8, rQAX9, rQAX10, rQAX11, rQAX12, rQAX13, q, lp, sr, cp, tk1, l1, g1, g2, g3, g4, tkm, tkI, tkI2, tkm2, tkd, dl2, li, lm, cm, cI, cD, h6, h0, LIM, sQK, iQK, sQL, iQL, plp, plpL, allB, notBox, swC, swS, seesC, inBox, relB, handBox, mvBB, mvRtB, offBoxes, offLab, calmB, ptrs, ptrsL, blkE, avE, avLE, blk, eds_length, eds_get, edsAt, edAV, allLeaf_eds, cleanL_eds, cleanL_ints, ints_length, ints_get, intsAt, endL, finB]
def seSt (l : List Ed) (i : Int) (J : Env) : St := ⟨(0, .list 2 (eds l)) :: (1, .list 2 (eds l)) :: (12, .int .i64 l.length) :: (13, .int .i64 i) :: J, []⟩
end Go.BmP
