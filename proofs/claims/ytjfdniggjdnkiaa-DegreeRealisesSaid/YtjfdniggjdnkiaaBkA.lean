/- What graph.Of and ref03.Same return. -/
import Derived.Test.YtjfdniggjdnkiaaUseM
import Derived.Test.YtjfdniggjdnkiaaK05
import Derived.Test.YtjfdniggjdnkiaaGofP
import Derived.Test.YtjfdniggjdnkiaaHhQ
import Derived.Test.YtjfdniggjdnkiaaTriQ
import Derived.Test.YtjfdniggjdnkiaaDgP
import Derived.Test.YtjfdniggjdnkiaaN21
import Derived.KernelRfl
set_option linter.unusedSimpArgs false
set_option linter.unusedVariables false
set_option maxRecDepth 100000
set_option maxHeartbeats 4000000
namespace Go.BmP
open Go.Am Go.Bm
theorem gedge_run (u v : Int) : callL cfgS nQH [.int .i64 u, .int .i64 v] [] = some (.agg [.int .i64 (nrmE u v).1, .int .i64 (nrmE u v).2], []) := by
 rw [callL_end oQH sQH (Nat.le_of_ble_eq_true rfl)]
 unfold nrmE
 simp only
 obtain ⟨a, ha⟩ : ∃ a, (if v < u then v else u) = a := ⟨_, rfl⟩
 obtain ⟨b, hb⟩ : ∃ b, (if u < v then v else u) = b := ⟨_, rfl⟩
 rw [ha, hb]
 unfold qQH cQH
 simp [rQHX0, rQHX1, ha, hb, blk, plp, plpL, allB, notBox, swC, swS, seesC, inBox, plL, pl, endL, finB, finS]
def EndsOK (N u v : Int) : Prop := u ≠ v /\ (0 <= u /\ u < N) /\ 0 <= v /\ v < N
instance (N u v : Int) : Decidable (EndsOK N u v) := by unfold EndsOK; infer_instance
theorem gends_run (N u v : Int) : callL cfgS nQG [.int .i64 N, .int .i64 u, .int .i64 v] [] = some (.bool (decide (EndsOK N u v)), []) := by
 rw [callL_end oQG sQG (Nat.le_of_ble_eq_true rfl)]
 unfold qQG cQG
 have e : EndsOK N u v ↔ (¬ u = v /\ 0 <= (if v < u then v else u)) /\ (if u < v then v else u) < N := by
  unfold EndsOK
  constructor
  ·intro h; refine ⟨⟨h.1, ?_⟩, ?_⟩ <;> split <;> omega
  ·rintro ⟨⟨h1, h2⟩, h3⟩
   split at h2 <;> split at h3 <;> refine ⟨h1, ?_⟩ <;> omega
 have e3 : decide (EndsOK N u v) = decide ((¬ u = v /\ 0 <= (if v < u then v else u)) /\ (if u < v then v else u) < N) := decide_eq_decide.2 e
 rw [e3]
 clear e e3
 obtain ⟨a, ha⟩ : ∃ a, (if v < u then v else u) = a := ⟨_, rfl⟩
 obtain ⟨b, hb⟩ : ∃ b, (if u < v then v else u) = b := ⟨_, rfl⟩
 rw [ha, hb]
 by_cases k1 : u = v
 ·simp [rQGX0, rQGX1, ha, hb, k1, blk, endL, finB]
 ·by_cases k2 : 0 <= a
  ·simp [rQGX0, rQGX1, ha, hb, k1, k2, blk, endL, finB]
  ·simp [rQGX0, rQGX1, ha, hb, k1, k2, blk, endL, finB]
def gofSt (n : Int) (l o : List Ed) (i : Int) (J : Env) : St := ⟨(0, .int .i64 n) :: (4, .ptr 0 0) :: (6, .ptr 1 0) :: (18, .list 2 (eds l)) :: (19, .int .i64 l.length) :: (20, .int .i64 i) :: J, [some [.int .i64 0, .own 2 []], some [.int .i64 n, .own 2 (eds o)]]⟩
theorem gof_round (n : Int) (l : List Ed) (hl : l.length < 1000000) (o : List Ed) (ho : o.length < 4294967295) (i : Nat) (hlt : i < l.length) (he : EndsOK n l[i].1 l[i].2) : codeL cfgS 0 lQyX0 (gofSt n l o i []) = some (.normal, gofSt n l (o ++ [nrmE l[i].1 l[i].2]) ((i + 1 : Nat) : Int) []) := by
 have h1 : (i : Int) < l.length := by omega
 have hw := wrapS (i := i) (by omega)
 have hL : o.length + 1 <= 4294967296 := by omega
 have en := gends_run n l[i].1 l[i].2
 rw [decide_eq_true he] at en
 have ge := gedge_run l[i].1 l[i].2
 have g3 : (eds l)[i]? = some (.agg [.int .i64 l[i].1, .int .i64 l[i].2]) := by rw [eds_get, List.getElem?_eq_getElem hlt]; rfl
 have g4 : ∀ h, (eds l)[i]'h = .agg [.int .i64 l[i].1, .int .i64 l[i].2] := fun h => edsAt ..
 have g5 := eds_length l
 have g6 := eds_length o
 unfold gofSt lQyX0
 have sn : eds o ++ [.agg [.int .i64 (nrmE l[i].1 l[i].2).1, .int .i64 (nrmE l[i].1 l[i].2).2]] = eds (o ++ [nrmE l[i].1 l[i].2]) := eds_snoc o _
 have tk : (eds (o ++ [nrmE l[i].1 l[i].2])).take (o.length + 1) = eds (o ++ [nrmE l[i].1 l[i].2]) := List.take_of_length_le (by rw [eds_length]; simp)
 have tko : (eds o).take o.length = eds o := List.take_of_length_le (by omega)
 generalize eds (o ++ [nrmE l[i].1 l[i].2]) = Z at *
 have cl := cleanL_eds o
 have al := allLeaf_eds o
 generalize nrmE l[i].1 l[i].2 = z at *
 generalize l[i].1 = x at *
 generalize l[i].2 = y at *
 generalize eds o = W at *
 generalize eds l = Y at *
 simp [rQyX0, rQyX1, rQyX2, rQyX3, rQyX4, rQyX5, rQyX6, rQyX7, rQyX8, rQyX9, rQyX10, rQyX11, rQyX12, rQyX13, h1, hlt, hw, hL, g3, g4, g5, g6, sn, tk, tko, en, ge, cl, al, LIM, idx, sQG, iQG, sQH, iQH, plp, plpL, allB, notBox, swC, swS, seesC, inBox, relB, handBox, mvBB, mvRtB, offBoxes, offLab, calmB, ptrs, ptrsL, blkE, avE, avLE, blk, eds_length, eds_get, edsAt, edAV, allLeaf_eds, cleanL_eds, cleanL_ints, ints_length, ints_get, intsAt, endL, finB]
theorem gof_loop (n : Int) (l : List Ed) (hl : l.length < 1000000) (he : ∀ e ∈ l, EndsOK n e.1 e.2) : ∀ (k i : Nat) (o : List Ed), i + k = l.length -> o.length <= i -> codeL cfgS 0 (.loop lQyX0) (gofSt n l o i []) = some (.exit 0, gofSt n l (o ++ (l.drop i).map fun e => nrmE e.1 e.2) l.length [(21, .bool false)])
 | 0, i, o, hi, ho => by
   obtain rfl : i = l.length := by omega
   rw [List.drop_length, List.map_nil, List.append_nil]
   refine loop_exit ?_
   unfold gofSt lQyX0
   have g5 := eds_length l
   generalize eds l = Y at *
   simp [rQyX0, rQyX1, rQyX2, rQyX3, rQyX4, rQyX5, rQyX6, rQyX7, rQyX8, rQyX9, rQyX10, rQyX11, rQyX12, rQyX13, g5, blk, eds_length, eds_get, edsAt, edAV, allLeaf_eds, cleanL_eds, cleanL_ints, ints_length, ints_get, intsAt, endL, finB]
 | k + 1, i, o, hi, ho => by
   have hlt : i < l.length := by omega
   refine (loop_next (gof_round n l hl o (by omega) i hlt (he _ (List.getElem_mem hlt)))).trans ((gof_loop n l hl he k (i + 1) _ (by omega) (by simp; omega)).trans ?_)
   rw [List.drop_eq_getElem_cons hlt, List.map_cons, List.append_assoc]
   rfl
theorem pr2_eds (l : List Ed) : l.map pr2 = eds l := rfl
theorem srfO_eq (zs : List Ed) (h : zs.length <= 4294967296) : srfG cfO nQD 2 (eds zs) [.func (.func nQD) [] []] = some (eds (isortC cfO zs), none) := by
 unfold srfG
 simp only
 rw [if_pos ⟨trivial, trivial, by rw [eds_length]; unfold LIM; exact h⟩, <- pr2_eds zs, prsOf_map]
 rfl
theorem cpe_eq (zs : List Ed) (h : zs.length <= 4294967296) : cpeG 2 (eds zs) [] = some (eds (ddp zs ++ List.replicate (zs.length - (ddp zs).length) (0, 0)), some (ddp zs).length) := by
 unfold cpeG
 simp only
 rw [if_pos ⟨trivial, by rw [eds_length]; unfold LIM; exact h⟩, <- pr2_eds zs, prsOf_map]
 rfl
theorem ddp_le : ∀ l : List Ed, (ddp l).length <= l.length
 | [] => Nat.le_refl _
 | [x] => Nat.le_refl _
 | x :: y :: r => by
   have ih := ddp_le (y :: r)
   unfold ddp
   split
   ·simp only [List.length_cons] at ih ⊢; omega
   ·simp only [List.length_cons] at ih ⊢; omega
theorem gof_run (N : Nat) (hN : N <= 64) (l : List Ed) (hl : l.length < 1000000) (he : ∀ e ∈ l, EndsOK N e.1 e.2) : callL cfgS nQy [.int .i64 N, .list 2 (eds l)] [] = some (.tup [.agg [.int .i64 N, .list 2 (eds (gofL l))], .int .i64 0], []) := by
 rw [callL_end oQy sQy (Nat.le_of_ble_eq_true rfl)]
 have lp := gof_loop (N : Int) l hl he l.length 0 [] (by omega) (by simp)
 rw [List.drop_zero, List.nil_append, nat0] at lp
 obtain ⟨m, hm⟩ : ∃ m, m = l.map fun e => nrmE e.1 e.2 := ⟨_, rfl⟩
 have lm : m.length = l.length := by rw [hm, List.length_map]
 rw [<- hm] at lp
 have sr := srfO_eq m (by omega)
 have li : (isortC cfO m).length = l.length := by rw [isortC_length, lm]
 have cp := cpe_eq (isortC cfO m) (by omega)
 have dl := ddp_le (isortC cfO m)
 have eg : gofL l = ddp (isortC cfO m) := by unfold gofL; rw [hm]
 rw [eg]
 obtain ⟨I, hI⟩ : ∃ I, I = isortC cfO m := ⟨_, rfl⟩
 rw [<- hI] at sr cp dl li ⊢
 have tk1 : (eds (ddp I ++ List.replicate (I.length - (ddp I).length) (0, 0))).take (ddp I).length = eds (ddp I) := by rw [eds_take, List.take_left']; rfl
 have l1 : (eds (ddp I ++ List.replicate (I.length - (ddp I).length) (0, 0))).length = I.length := by rw [eds_length, List.length_append, List.length_replicate]; omega
 have g1 := eds_length m
 have g2 := eds_length I
 have g3 := eds_length l
 have tkm : (eds m).take l.length = eds m := List.take_of_length_le (by omega)
 have tkI : (eds I).take l.length = eds I := List.take_of_length_le (by omega)
 have tkI2 : (eds I).drop l.length = [] := List.drop_eq_nil_of_le (by omega)
 have tkm2 : (eds m).drop l.length = [] := List.drop_eq_nil_of_le (by omega)
 have tkd : (eds (ddp I)).take (ddp I).length = eds (ddp I) := List.take_of_length_le (by rw [eds_length]; exact Nat.le_refl _)
 have g4 := eds_length (ddp I)
 have dl2 : (ddp I).length <= l.length := by omega
 have cm := cleanL_eds m
 have cI := cleanL_eds I
 have cD := cleanL_eds (ddp I)
 have h6 : ¬ (64 : Int) < N := by omega
 have h0 : ¬ (N : Int) < 0 := by omega
 clear hI hm
 unfold gofSt at lp
 rw [eds_nil] at lp
 unfold qQy cQy
 generalize eds (ddp I ++ List.replicate (I.length - (ddp I).length) (0, 0)) = Z at *
 generalize eds (ddp I) = D at *
 generalize eds I = V at *
 generalize eds m = U at *
 generalize eds l = Y at *
 by_cases q : l.length <= (ddp I).length
 ·simp [rQyX0, rQyX1, rQyX2, rQyX3, rQyX4, rQyX5, rQyX6, rQyX7, rQyX8, rQyX9, rQyX10, rQyX11, rQyX12, rQyX13, q, lp, sr, cp, tk1, l1, g1, g2, g3, g4, tkm, tkI, tkI2, tkm2, tkd, dl2, li, lm, cm, cI, cD, h6, h0, LIM, sQI, iQI, sQJ, iQJ, plp, plpL, allB, notBox, swC, swS, seesC, inBox, relB, handBox, mvBB, mvRtB, offBoxes, offLab, calmB, ptrs, ptrsL, blkE, avE, avLE, blk, eds_length, eds_get, edsAt, edAV, allLeaf_eds, cleanL_eds, cleanL_ints, ints_length, ints_get, intsAt, endL, finB]
 ·simp [rQyX0, rQyX1, rQyX2, rQyX3, rQyX4, rQyX5, rQyX6, rQyX7, rQyX8, rQyX9, rQyX10, rQyX11, rQyX12, rQyX13, q, lp, sr, cp, tk1, l1, g1, g2, g3, g4, tkm, tkI, tkI2, tkm2, tkd, dl2, li, lm, cm, cI, cD, h6, h0, LIM, sQI, iQI, sQJ, iQJ, plp, plpL, allB, notBox, swC, swS, seesC, inBox, relB, handBox, mvBB, mvRtB, offBoxes, offLab, calmB, ptrs, ptrsL, blkE, avE, avLE, blk, eds_length, eds_get, edsAt, edAV, allLeaf_eds, cleanL_eds, cleanL_ints, ints_length, ints_get, intsAt, endL, finB]
def seSt (l : List Ed) (i : Int) (J : Env) : St := ⟨(0, .list 2 (eds l)) :: (1, .list 2 (eds l)) :: (12, .int .i64 l.length) :: (13, .int .i64 i) :: J, []⟩
theorem se_loop (l : List Ed) (hl : l.length < 1000000) : ∀ (k i : Nat), i + k = l.length -> codeL cfgS 0 (.loop lQBX0) (seSt l i []) = some (.exit 0, seSt l l.length [(14, .bool false)])
 | 0, i, hi => by
   obtain rfl : i = l.length := by omega
   refine loop_exit ?_
   unfold seSt lQBX0
   have g5 := eds_length l
   generalize eds l = Y at *
   simp [rQBX0, rQBX1, rQBX2, rQBX3, rQBX4, rQBX5, rQBX6, rQBX7, rQBX8, rQBX9, g5, blk, eds_length, eds_get, edsAt, edAV, allLeaf_eds, cleanL_eds, cleanL_ints, ints_length, ints_get, intsAt, endL, finB]
 | k + 1, i, hi => by
   have hlt : i < l.length := by omega
   have h1 : (i : Int) < l.length := by omega
   have hw := wrapS (i := i) (by omega)
   refine (loop_next ?_).trans (se_loop l hl k (i + 1) (by omega))
   have g3 : (eds l)[i]? = some (.agg [.int .i64 l[i].1, .int .i64 l[i].2]) := by rw [eds_get, List.getElem?_eq_getElem hlt]; rfl
   have g4 : ∀ h, (eds l)[i]'h = .agg [.int .i64 l[i].1, .int .i64 l[i].2] := fun h => edsAt ..
   have g5 := eds_length l
   unfold seSt lQBX0
   generalize l[i].1 = x at *
   generalize l[i].2 = y at *
   generalize eds l = Y at *
   simp [rQBX0, rQBX1, rQBX2, rQBX3, rQBX4, rQBX5, rQBX6, rQBX7, rQBX8, rQBX9, h1, hlt, hw, g3, g4, g5, eqA, eqc, idx, blk, eds_length, eds_get, edsAt, edAV, allLeaf_eds, cleanL_eds, cleanL_ints, ints_length, ints_get, intsAt, endL, finB]
theorem sameE_run (l : List Ed) (hl : l.length < 1000000) : callL cfgS nQB [.list 2 (eds l), .list 2 (eds l)] [] = some (.bool true, []) := by
 rw [callL_end oQB sQB (Nat.le_of_ble_eq_true rfl)]
 have lp := se_loop l hl l.length 0 (by omega)
 unfold seSt at lp
 rw [nat0] at lp
 have g5 := eds_length l
 unfold qQB cQB
 generalize eds l = Y at *
 simp [rQBX0, rQBX1, rQBX2, rQBX3, rQBX4, rQBX5, rQBX6, rQBX7, rQBX8, rQBX9, lp, g5, blk, eds_length, eds_get, edsAt, edAV, allLeaf_eds, cleanL_eds, cleanL_ints, ints_length, ints_get, intsAt, endL, finB]
theorem same3_run (n : Int) (l : List Ed) (hl : l.length < 1000000) : callL cfgS nQn [.agg [.int .i64 n, .list 2 (eds l)], .agg [.int .i64 n, .list 2 (eds l)]] [] = some (.bool true, []) := by
 rw [callL_end oQn sQn (Nat.le_of_ble_eq_true rfl)]
 have lp := sameE_run l hl
 unfold qQn cQn
 generalize eds l = Y at *
 simp [rQnX0, rQnX1, lp, sQB, iQB, plp, plpL, allB, notBox, swC, swS, seesC, inBox, blk, eds_length, eds_get, edsAt, edAV, allLeaf_eds, cleanL_eds, cleanL_ints, ints_length, ints_get, intsAt, endL, finB]
/- The degrees of a graph can be had; the edges that are made of numbers have them as degrees. -/
theorem sm_swap (f : Nat -> Nat -> Nat) (m : Nat) : ∀ n, sm n (fun u => sm m fun v => f u v) = sm m fun v => sm n fun u => f u v
 | 0 => by
   have := sm_zero m
   show 0 = _
   simp only [sm]
   exact this.symm
 | n + 1 => by
   show sm n (fun u => sm m fun v => f u v) + sm m (fun v => f n v) = sm m fun v => sm n (fun u => f u v) + f n v
   rw [sm_swap f m n, <- sm_add]
theorem sm_le {f g : Nat -> Nat} : ∀ {n : Nat}, (∀ i, i < n -> f i <= g i) -> sm n f <= sm n g
 | 0, _ => Nat.le_refl _
 | n + 1, h => Nat.add_le_add (sm_le fun i hi => h i (by omega)) (h n (by omega))
theorem lab_sm (d lab : Nat -> Nat) (b : Nat) : ∀ N, sL b ((List.range N).map fun i => ((d i : Int), lab i)) = (sm N (fun i => if lab i = b then d i else 0) : Nat) /\ cL' b ((List.range N).map fun i => ((d i : Int), lab i)) = (sm N (fun i => if lab i = b then 1 else 0) : Nat)
 | 0 => ⟨rfl, rfl⟩
 | n + 1 => by
   obtain ⟨h1, h2⟩ := lab_sm d lab b n
   rw [List.range_succ, List.map_append, sL_app, cL_app, h1, h2]
   simp only [List.map_cons, List.map_nil, sL, cL', sm]
   constructor <;> split <;> omega
def dgr (N : Nat) (Es : List Ed) (u : Nat) : Nat := sm N fun w => ad Es u w
def dgs (N : Nat) (Es : List Ed) : List Int := (List.range N).map fun u => ((dgr N Es u : Nat) : Int)
theorem sm_pos3 (N : Nat) (lab : Nat -> Nat) (i : Nat) (hi : i < N) (h2 : lab i ≠ 2) : sm N (fun w => if lab w ≠ 2 /\ w ≠ i then 1 else 0) + 1 + sm N (fun w => if lab w = 2 then 1 else 0) = N := by
 have h1 : sm N (fun w => if w = i then 1 else 0) = 1 := by rw [sm_ind (fun _ => 1) i N, if_pos hi]
 have h3 : sm N (fun w => ((if lab w ≠ 2 /\ w ≠ i then 1 else 0) + (if w = i then 1 else 0)) + (if lab w = 2 then 1 else 0)) = N := by
  refine (sm_congr fun w _ => ?_).trans (sm_one N)
  by_cases e : w = i
  ·subst e; simp [h2]
  ·by_cases f : lab w = 2 <;> simp [e, f]
 rw [sm_add, sm_add, h1] at h3
 exact h3
theorem ff_graph {N : Nat} {Es : List Ed} (hG : GOK (N : Int) Es) : FF (dgs N Es) := by
 refine .of fun L hl hm => ?_
 have hlen : L.length = N := by
  have := congrArg List.length hm
  simpa [dgs] using this
 let lab : Nat -> Nat := fun i => (L.map Prod.snd).getD i 0
 have hL : L = (List.range N).map fun i => ((dgr N Es i : Int), lab i) := by
  apply List.ext_getElem
  ·simp [hlen]
  ·intro i h1 h2
   have e1 : (L.map Prod.fst)[i]? = (dgs N Es)[i]? := by rw [hm]
   have hi : i < N := by omega
   simp [dgs, h1, hi] at e1
   simp only [List.getElem_map, List.getElem_range]
   refine Prod.ext e1 ?_
   show _ = (L.map Prod.snd).getD i 0
   simp [List.getD, h1]
 rw [hL]
 obtain ⟨s1, c1⟩ := lab_sm (dgr N Es) lab 1 N
 obtain ⟨s2, c2⟩ := lab_sm (dgr N Es) lab 2 N
 unfold fv
 rw [s1, c1, s2, c2, List.length_map, List.length_range]
 -- what S can have
 have key : ∀ i, i < N -> (if lab i = 1 then dgr N Es i else 0) <= (if lab i = 1 then N - 1 - sm N (fun w => if lab w = 2 then 1 else 0) else 0) + sm N (fun w => if lab i = 1 /\ lab w = 2 then ad Es i w else 0) := by
  intro i hi
  by_cases h : lab i = 1
  ·have h3 := sm_pos3 N lab i hi (by omega)
   have h4 : dgr N Es i <= sm N (fun w => (if lab w ≠ 2 /\ w ≠ i then 1 else 0) + (if lab i = 1 /\ lab w = 2 then ad Es i w else 0)) := by
    refine sm_le fun w _ => ?_
    by_cases e : w = i
    ·subst e; rw [ad_irr hG]; omega
    ·by_cases f : lab w = 2
     ·simp [e, f, h]
     ·have : ad Es i w <= 1 := by unfold ad; split <;> omega
      simp [e, f, h]; exact this
   rw [sm_add] at h4
   rw [if_pos h, if_pos h]
   omega
  ·rw [if_neg h]; exact Nat.zero_le _
 have h5 := sm_le key
 rw [sm_add, sm_swap] at h5
 have h6 : sm N (fun w => sm N fun i => if lab i = 1 /\ lab w = 2 then ad Es i w else 0) <= sm N (fun w => if lab w = 2 then dgr N Es w else 0) := by
  refine sm_le fun w _ => ?_
  by_cases f : lab w = 2
  ·rw [if_pos f]
   refine sm_le fun i _ => ?_
   split
   ·rw [ad_symm]; exact Nat.le_refl _
   ·exact Nat.zero_le _
  ·have : sm N (fun i => if lab i = 1 /\ lab w = 2 then ad Es i w else 0) = sm N fun _ => 0 := sm_congr fun i _ => by simp [f]
   rw [this, sm_zero]; exact Nat.zero_le _
 have h7 : sm N (fun i => if lab i = 1 then N - 1 - sm N (fun w => if lab w = 2 then 1 else 0) else 0) = (N - 1 - sm N (fun w => if lab w = 2 then 1 else 0)) * sm N (fun i => if lab i = 1 then 1 else 0) := by
  rw [<- sm_mul]
  refine sm_congr fun i _ => ?_
  split <;> simp
 rw [h7] at h5
 generalize hS : sm N (fun i => if lab i = 1 then 1 else 0) = S at *
 generalize hT : sm N (fun w => if lab w = 2 then 1 else 0) = T at *
 by_cases h0 : S = 0
 ·subst h0
  rw [Nat.mul_zero] at h5
  have : ((0 : Nat) : Int) * ((N : Int) - 1 - (T : Int)) = 0 := by simp
  rw [this]
  omega
 ·-- some node is in S, so that T is not all but one
  have hT1 : T + 1 <= N := by
   have : ∃ i, i < N /\ lab i = 1 := by
    apply Classical.byContradiction
    intro h
    apply h0
    rw [<- hS]
    have : sm N (fun i => if lab i = 1 then 1 else 0) = sm N fun _ => 0 := sm_congr fun i hi => if_neg fun e => h ⟨i, hi, e⟩
    rw [this, sm_zero]
   obtain ⟨i, hi, e⟩ := this
   have := sm_pos3 N lab i hi (by omega)
   omega
  have e : ((N - 1 - T : Nat) : Int) = (N : Int) - 1 - T := by omega
  have e2 : (S : Int) * ((N : Int) - 1 - T) = (((N - 1 - T) * S : Nat) : Int) := by rw [Int.natCast_mul, e, Int.mul_comm]
  rw [e2]
  omega
theorem sumI_sm (f : Nat -> Nat) : ∀ N, sumI ((List.range N).map fun u => ((f u : Nat) : Int)) = (sm N f : Nat)
 | 0 => rfl
 | n + 1 => by
   rw [List.range_succ, List.map_append, sumI_app, sumI_sm f n]
   simp [sumI, sm]
theorem even_graph {N : Nat} {Es : List Ed} (hG : GOK (N : Int) Es) : EvenS (dgs N Es) := by
 unfold EvenS dgs
 rw [sumI_sm]
 have h : sm N (fun u => dgr N Es u) = 2 * sm N (fun v => sm v fun u => ad Es u v) := by
  unfold dgr
  rw [sm_sq (fun u v => ad Es u v) (fun u => ad_irr hG u), <- sm_mul]
  refine sm_congr fun v _ => ?_
  rw [<- sm_mul]
  refine sm_congr fun u _ => ?_
  show ad Es u v + ad Es v u = _
  rw [ad_symm Es v u]; omega
 exact ⟨((sm N fun v => sm v fun u => ad Es u v : Nat) : Int), by show ((sm N fun u => dgr N Es u : Nat) : Int) = _; rw [h]; omega⟩
theorem rz_graph {N : Nat} {Es : List Ed} (hG : GOK (N : Int) Es) {y : List Int} (hp : y.Perm (dgs N Es)) : ∃ out, rz y = some out := by
 have h0 : ∀ d ∈ y, 0 <= d := fun d hd => by
  have := hp.mem_iff.1 hd
  unfold dgs at this
  obtain ⟨u, _, rfl⟩ := List.mem_map.1 this
  omega
 have := (rz_some h0).2 ⟨(ff_graph hG).perm hp.symm, by unfold EvenS; rw [sumI_perm hp]; exact even_graph hG⟩
 exact Option.isSome_iff_exists.1 this
def cnj (N : Nat) (E : List Ed) (u : Int) : Nat := sm N fun w => if jn E u w then 1 else 0
theorem sm_mem {N : Nat} : ∀ {W : List Int}, W.Nodup -> (∀ x ∈ W, 0 <= x /\ x < (N : Int)) -> sm N (fun w => if ((w : Nat) : Int) ∈ W then 1 else 0) = W.length
 | [], _, _ => by simp [sm_zero]
 | a :: W, hn, hb => by
   obtain ⟨h1, h2⟩ := List.nodup_cons.1 hn
   have ih := sm_mem h2 fun x hx => hb x (List.mem_cons_of_mem _ hx)
   have ha := hb a List.mem_cons_self
   have h3 : sm N (fun w => if w = a.toNat then 1 else 0) = 1 := by rw [sm_ind (fun _ => 1) a.toNat N, if_pos (by omega)]
   have h4 : sm N (fun w => if ((w : Nat) : Int) ∈ a :: W then 1 else 0) = sm N fun w => (if ((w : Nat) : Int) ∈ W then 1 else 0) + if w = a.toNat then 1 else 0 := ?_
   ·rw [h4, sm_add, h3, ih, List.length_cons]
   refine sm_congr fun w _ => ?_
   by_cases e : w = a.toNat
   ·have ea : ((w : Nat) : Int) = a := by omega
    rw [ea]; simp [e, h1]
   ·have ea : ¬ ((w : Nat) : Int) = a := by omega
    simp [e, ea]
theorem jn_star {v x w : Int} {W : List Int} : jn (W.map fun z => (v, z)) x w ↔ (x = v /\ w ∈ W) \/ (w = v /\ x ∈ W) := by
 unfold jn
 simp only [List.mem_map, Prod.mk.injEq]
 constructor
 ·rintro (⟨z, hz, rfl, rfl⟩ | ⟨z, hz, rfl, rfl⟩)
  ·exact .inl ⟨rfl, hz⟩
  ·exact .inr ⟨rfl, hz⟩
 ·rintro (⟨rfl, h⟩ | ⟨rfl, h⟩)
  ·exact .inl ⟨w, h, rfl, rfl⟩
  ·exact .inr ⟨x, h, rfl, rfl⟩
theorem jn_append {A B : List Ed} {x w : Int} : jn (A ++ B) x w ↔ jn A x w \/ jn B x w := by
 unfold jn
 simp only [List.mem_append]
 constructor
 ·rintro ((h | h) | (h | h)) <;> simp [h]
 ·rintro ((h | h) | (h | h)) <;> simp [h]
theorem otr_spec {N : Nat} : ∀ (n : Nat) (L out out' : List (Int × Int)), L.length = n -> (L.map Prod.fst).Nodup -> (∀ x ∈ L, (0 <= x.1 /\ x.1 < (N : Int)) /\ 0 <= x.2) -> otr n L out = some out' ->
  ∃ new : List Ed, out' = out ++ new /\ (∀ e ∈ new, e.1 ≠ e.2 /\ e.1 ∈ L.map Prod.fst /\ e.2 ∈ L.map Prod.fst) /\ (∀ x ∈ L, (cnj N new x.1 : Int) = x.2)
 | 0, L, out, out', hL, _, _, h => by
   obtain rfl := List.eq_nil_of_length_eq_zero hL
   simp only [otr, Option.some.injEq] at h
   subst h
   exact ⟨[], by simp, by simp, by simp⟩
 | n + 1, L, out, out', hL, hnd, hb, h => by
   have sp := isortC_perm cfM L
   have sl := isortC_length cfM L
   obtain ⟨⟨v, d⟩, r, hs⟩ : ∃ y r, isortC cfM L = y :: r := by
    cases h : isortC cfM L with
    | nil => rw [h] at sl; simp at sl; omega
    | cons y r => exact ⟨y, r, rfl⟩
   have hotr : otr (n + 1) L out = if (r.length : Int) < d then none else match inn v d.toNat 0 r out with
    | none => none
    | some (r', out') => otr n r' out' := by rw [otr, hs]; rfl
   rw [hotr] at h
   rw [hs] at sp sl
   have hrl : r.length = n := by simp at sl; omega
   have isp := inn_spec v d.toNat [] r out
   simp only [List.length_nil, List.nil_append] at isp
   rw [isp] at h
   split at h
   ·cases h
   ·rename_i hdr
    split at h
    ·cases h
    ·rename_i r' out1 hi
     split at hi
     ·rename_i hc
      simp only [Option.some.injEq, Prod.mk.injEq] at hi
      obtain ⟨rfl, rfl⟩ := hi
      have pf : ((v, d) :: r).map Prod.fst |>.Perm (L.map Prod.fst) := sp.map Prod.fst
      have hnd2 : (v :: r.map Prod.fst).Nodup := (pf.nodup_iff).2 hnd
      obtain ⟨hv, hr⟩ := List.nodup_cons.1 hnd2
      have hb2 : ∀ x ∈ (v, d) :: r, (0 <= x.1 /\ x.1 < (N : Int)) /\ 0 <= x.2 := fun x hx => hb x (sp.mem_iff.1 hx)
      have hvb := hb2 (v, d) List.mem_cons_self
      simp only at hvb
      have hfst : ((r.take d.toNat).map dec1 ++ r.drop d.toNat).map Prod.fst = r.map Prod.fst := by
       rw [List.map_append, List.map_map]
       have : (Prod.fst ∘ dec1) = Prod.fst := rfl
       rw [this, <- List.map_append, List.take_append_drop]
      obtain ⟨new, e1, e2, e3⟩ := otr_spec (N := N) n _ _ _ (by simp; omega) (by rw [hfst]; exact hr) (fun x hx => by
       rcases List.mem_append.1 hx with hx | hx
       ·obtain ⟨y, hy, rfl⟩ := List.mem_map.1 hx
        have h1 := hb2 y (List.mem_cons_of_mem _ (List.mem_of_mem_take hy))
        have h2 := hc.2 y hy
        simp only [dec1]; omega
       ·exact hb2 x (List.mem_cons_of_mem _ (List.mem_of_mem_drop hx))) h
      rw [hfst] at e2
      have hW : ((r.take d.toNat).map fun x : Int × Int => ((v, x.1) : Ed)) = ((r.take d.toNat).map Prod.fst).map fun z => (v, z) := by rw [List.map_map]; rfl
      have hWn : ((r.take d.toNat).map Prod.fst).Nodup := hr.sublist ((List.take_sublist _ _).map _)
      have hWm : ∀ x, x ∈ (r.take d.toNat).map Prod.fst -> x ∈ r.map Prod.fst := fun x hx => ((List.take_sublist _ _).map _).subset hx
      generalize hWd : (r.take d.toNat).map Prod.fst = W at *
      have hWl : W.length = d.toNat := by rw [<- hWd, List.length_map, List.length_take]; omega
      have nov : ∀ x, jn new v x -> False := by
       intro x hx
       unfold jn at hx
       rcases hx with hx | hx
       ·exact hv (e2 _ hx).2.1
       ·exact hv (e2 _ hx).2.2
      refine ⟨(W.map fun z => (v, z)) ++ new, by rw [e1, hW]; simp, ?_, ?_⟩
      ·intro e he
       rcases List.mem_append.1 he with he | he
       ·obtain ⟨z, hz, rfl⟩ := List.mem_map.1 he
        have hzr := hWm z hz
        exact ⟨fun e => hv (by simp only at e; rw [e]; exact hzr), pf.mem_iff.1 List.mem_cons_self, pf.mem_iff.1 (List.mem_cons_of_mem _ hzr)⟩
       ·obtain ⟨a, b, c⟩ := e2 e he
        exact ⟨a, pf.mem_iff.1 (List.mem_cons_of_mem _ b), pf.mem_iff.1 (List.mem_cons_of_mem _ c)⟩
      ·intro x hx
       have hx' := sp.mem_iff.2 hx
       rcases List.mem_cons.1 hx' with rfl | hxr
       ·simp only
        have : cnj N ((W.map fun z => (v, z)) ++ new) v = sm N fun w => if ((w : Nat) : Int) ∈ W then 1 else 0 := by
         refine sm_congr fun w _ => ?_
         have : jn ((W.map fun z => (v, z)) ++ new) v w ↔ ((w : Nat) : Int) ∈ W := by
          rw [jn_append, jn_star]
          constructor
          ·rintro ((⟨_, h⟩ | ⟨_, h⟩) | h)
           ·exact h
           ·exact absurd (hWm _ h) hv
           ·exact absurd h (nov _)
          ·intro h; exact .inl (.inl ⟨rfl, h⟩)
         simp only [this]
        rw [this, sm_mem hWn (fun z hz => by
         obtain ⟨y, hy, rfl⟩ := List.mem_map.1 (hWm z hz)
         exact (hb2 y (List.mem_cons_of_mem _ hy)).1), hWl]
        omega
       ·have hxv : x.1 ≠ v := fun e => hv (by rw [<- e]; exact List.mem_map_of_mem hxr)
        have hcn : cnj N ((W.map fun z => (v, z)) ++ new) x.1 = (if x.1 ∈ W then 1 else 0) + cnj N new x.1 := by
         have h3 : sm N (fun w => if w = v.toNat then (if x.1 ∈ W then 1 else 0) else 0) = if x.1 ∈ W then 1 else 0 := by rw [sm_ind (fun _ => if x.1 ∈ W then 1 else 0) v.toNat N, if_pos (by omega)]
         rw [<- h3]
         unfold cnj
         rw [<- sm_add]
         refine sm_congr fun w _ => ?_
         by_cases ew : w = v.toNat
         ·have ev : ((w : Nat) : Int) = v := by omega
          rw [ev]
          have n1 : ¬ jn new x.1 v := fun h => nov x.1 (by unfold jn at *; exact h.symm)
          have : jn ((W.map fun z => (v, z)) ++ new) x.1 v ↔ x.1 ∈ W := by
           rw [jn_append, jn_star]
           constructor
           ·rintro ((⟨h, _⟩ | ⟨_, h⟩) | h)
            ·exact absurd h hxv
            ·exact h
            ·exact absurd h n1
           ·intro h; exact .inl (.inr ⟨rfl, h⟩)
          simp only [this, ew, if_true, n1, if_false, Nat.add_zero]
         ·have ev : ¬ ((w : Nat) : Int) = v := by omega
          have : jn ((W.map fun z => (v, z)) ++ new) x.1 w ↔ jn new x.1 w := by
           rw [jn_append, jn_star]
           constructor
           ·rintro ((⟨h, _⟩ | ⟨h, _⟩) | h)
            ·exact absurd h hxv
            ·exact absurd h ev
            ·exact h
           ·intro h; exact .inr h
          simp only [this, ew, if_false, Nat.zero_add]
        rw [hcn]
        rw [<- List.take_append_drop d.toNat r] at hxr
        rcases List.mem_append.1 hxr with hxt | hxd
        ·have hin : x.1 ∈ W := by rw [<- hWd]; exact List.mem_map_of_mem hxt
         have := e3 (dec1 x) (List.mem_append_left _ (List.mem_map_of_mem hxt))
         rw [if_pos hin]
         simp only [dec1] at this
         omega
        ·have hni : x.1 ∉ W := by
          intro hin
          rw [<- List.take_append_drop d.toNat r, List.map_append, hWd] at hr
          exact (List.nodup_append.1 hr).2.2 _ hin _ (List.mem_map_of_mem hxd) rfl
         have := e3 x (List.mem_append_right _ hxd)
         rw [if_neg hni]
         omega
     ·cases hi
/- The graph that is made of numbers. -/
theorem needs_fst (l : List Int) : (needs l).map Prod.fst = (List.range l.length).map fun i => ((i : Nat) : Int) := by
 unfold needs
 rw [List.map_map]
 apply List.ext_getElem?
 intro i
 simp only [List.getElem?_map, List.getElem?_zipIdx, List.getElem?_range]
 by_cases h : i < l.length
 ·simp [h]
 ·simp [h, List.getElem?_eq_none (by omega : l.length <= i)]
theorem rz_spec {y : List Int} {out : List Ed} (h : rz y = some out) : (∀ e ∈ out, e.1 ≠ e.2 /\ (0 <= e.1 /\ e.1 < (y.length : Int)) /\ 0 <= e.2 /\ e.2 < (y.length : Int)) /\ ∀ i (hi : i < y.length), (cnj y.length out i : Int) = y[i] := by
 unfold rz at h
 split at h
 case isFalse => cases h
 rename_i ha
 have hl : (needs y).length = y.length := by simp [needs]
 have hn : ((needs y).map Prod.fst).Nodup := by
  rw [needs_fst]
  exact List.Pairwise.map _ (fun a b h e => h (by omega)) (List.nodup_range (n := y.length))
 have hm : ∀ z, z ∈ (needs y).map Prod.fst -> 0 <= z /\ z < (y.length : Int) := by
  intro z hz
  rw [needs_fst] at hz
  obtain ⟨i, hi, rfl⟩ := List.mem_map.1 hz
  have := List.mem_range.1 hi
  omega
 obtain ⟨new, e1, e2, e3⟩ := otr_spec (N := y.length) y.length (needs y) [] out hl hn (fun x hx => ⟨hm _ (List.mem_map_of_mem hx), by
  have h1 : x.2 ∈ y := by rw [<- needs_snd y]; exact List.mem_map_of_mem hx
  exact (of_decide_eq_true (List.all_eq_true.1 ha _ h1)).1⟩) h
 rw [List.nil_append] at e1
 subst e1
 refine ⟨fun e he => ⟨(e2 e he).1, hm _ (e2 e he).2.1, hm _ (e2 e he).2.2⟩, fun i hi => ?_⟩
 have hx : (((i : Nat) : Int), y[i]) ∈ needs y := by
  unfold needs
  exact List.mem_map.2 ⟨(y[i], i), List.mem_zipIdx_iff_getElem?.2 (by simp), rfl⟩
 exact e3 _ hx
theorem otr_len : ∀ (n : Nat) (L out out' : List (Int × Int)), L.length = n -> otr n L out = some out' -> out'.length <= out.length + n * n
 | 0, L, out, out', _, h => by
   simp only [otr, Option.some.injEq] at h
   subst h; omega
 | n + 1, L, out, out', hL, h => by
   have sl := isortC_length cfM L
   obtain ⟨⟨v, d⟩, r, hs⟩ : ∃ y r, isortC cfM L = y :: r := by
    cases h : isortC cfM L with
    | nil => rw [h] at sl; simp at sl; omega
    | cons y r => exact ⟨y, r, rfl⟩
   have hotr : otr (n + 1) L out = if (r.length : Int) < d then none else match inn v d.toNat 0 r out with
    | none => none
    | some (r', out') => otr n r' out' := by rw [otr, hs]; rfl
   rw [hotr] at h
   rw [hs] at sl
   have hrl : r.length = n := by simp at sl; omega
   have isp := inn_spec v d.toNat [] r out
   simp only [List.length_nil, List.nil_append] at isp
   rw [isp] at h
   split at h
   ·cases h
   ·split at h
    ·cases h
    ·rename_i r' out1 hi
     split at hi
     ·rename_i hc
      simp only [Option.some.injEq, Prod.mk.injEq] at hi
      obtain ⟨rfl, rfl⟩ := hi
      have := otr_len n _ _ _ (by simp; omega) h
      simp only [List.length_append, List.length_map, List.length_take] at this
      have e : (n + 1) * (n + 1) = n * n + n + n + 1 := by rw [Nat.add_mul, Nat.mul_add]; omega
      omega
     ·cases hi
theorem rz_len {y : List Int} {out : List Ed} (hy : y.length <= 64) (h : rz y = some out) : out.length < 1000000 := by
 unfold rz at h
 split at h
 case isFalse => cases h
 have := otr_len y.length (needs y) [] out (by simp [needs]) h
 have : y.length * y.length <= 64 * 64 := Nat.mul_le_mul hy hy
 simp at *
 omega
/- What cohesionref09.Degrees, degree.Realise and cohesionlaw09.DegreeBack return. -/
theorem awake09 : callL cfgS nQd [] [] = some (.bool true, []) := callL_iff.2 ⟨3000, by kernel_rfl⟩
theorem dgs_len (N : Nat) (Es : List Ed) : (dgs N Es).length = N := by simp [dgs]
def rdSt (N : Nat) (Es : List Ed) (i : Nat) (J : Env) : St := ⟨(1, .ptr 0 0) :: (5, .own 1 (ints ((dgs N Es).take i))) :: (13, .int .i64 N) :: (14, .int .i64 i) :: J, [some [.int .i64 N, .list 2 (eds Es)]]⟩
theorem rd_loop {N : Nat} {Es : List Ed} (hG : GOK (N : Int) Es) (hE : Es.length < 1000000) : ∀ n i : Nat, i + n = N -> codeL cfgS 0 (.loop lQiX0) (rdSt N Es i []) = some (.exit 0, rdSt N Es N [(15, .bool false)])
 | 0, i, e => by
   obtain rfl : i = N := by omega
   refine loop_exit ?_
   unfold rdSt lQiX0
   simp [rQiX0, rQiX1, rQiX2, rQiX3, rQiX4, rQiX5, rQiX6, rQiX7, rQiX8, rQiX9, rQiX10, blk, eds_length, eds_get, edsAt, edAV, allLeaf_eds, cleanL_eds, cleanL_ints, ints_length, ints_get, intsAt, endL, finB]
 | n + 1, i, e => by
   have hN := hG.1.2
   have h1 : (i : Int) < N := by omega
   have hi : i < N := by omega
   have hw := wrapS (i := i) (by omega)
   have dr := degree_run hG hE (v := (i : Int)) (by omega) (by omega)
   rw [nbr_count hG hi] at dr
   have hlt : i < (dgs N Es).length := by rw [dgs_len]; omega
   have et : (dgs N Es).take (i + 1) = (dgs N Es).take i ++ [((sm N fun w => ad Es i w : Nat) : Int)] := by
    rw [List.take_succ_eq_append_getElem hlt]
    simp [dgs, dgr]
   have ih := rd_loop hG hE n (i + 1) (by omega)
   refine (loop_next ?_).trans ih
   unfold rdSt lQiX0
   rw [et]
   have lx : ((dgs N Es).take i).length + 1 <= 4294967296 := by rw [List.length_take]; omega
   generalize (dgs N Es).take i = X at *
   generalize (sm N fun w => ad Es i w) = z at *
   simp [rQiX0, rQiX1, rQiX2, rQiX3, rQiX4, rQiX5, rQiX6, rQiX7, rQiX8, rQiX9, rQiX10, h1, hw, dr, lx, LIM, ints_snoc, ints_take, List.take_length, ints_length, blk, sQw, iQw, blk, eds_length, eds_get, edsAt, edAV, allLeaf_eds, cleanL_eds, cleanL_ints, ints_length, ints_get, intsAt, endL, finB]
theorem refdeg_run {N : Nat} {Es : List Ed} (hG : GOK (N : Int) Es) (hE : Es.length < 1000000) : callL cfgS nQi [.agg [.int .i64 N, .list 2 (eds Es)]] [] = some (.tup [.list 1 (ints (dgs N Es)), .int .i64 0], []) := by
 rw [callL_end oQi sQi (Nat.le_of_ble_eq_true rfl)]
 have ck := rchk_run (N : Int) Es (by omega)
 rw [chkG_zero.2 hG] at ck
 have lp := rd_loop hG hE N 0 (by omega)
 unfold rdSt at lp
 rw [List.take_zero, nat0, ints_nil, List.take_of_length_le (by rw [dgs_len]; omega)] at lp
 have ld := dgs_len N Es
 generalize dgs N Es = X at *
 unfold qQi cQi
 simp [rQiX0, rQiX1, rQiX2, rQiX3, rQiX4, rQiX5, rQiX6, rQiX7, rQiX8, rQiX9, rQiX10, ck, lp, ld, blk, ints_nil, ints_take, ints_length, List.take_length, sQp, iQp, endL, finB, plL, pl]
 rw [List.take_take, Nat.min_self, List.take_of_length_le (by omega)]
theorem realise_run (l : List Int) (hl : l.length <= 64) : callL cfgS nQq [.list 1 (ints l)] [] = some (.tup [.list 2 (((rz l).getD []).map pr2), .bool (rz l).isSome], []) :=
 callL_orc (by unfold orcA; rw [oQq]; simp only [gRz]; rw [show intsOf (ints l) = some l from intsOf_ints l]; simp only; rw [if_pos hl])
theorem ends_gof {N : Nat} {out : List Ed} (h : ∀ e ∈ out, e.1 ≠ e.2 /\ (0 <= e.1 /\ e.1 < (N : Int)) /\ 0 <= e.2 /\ e.2 < (N : Int)) : ∀ e ∈ out, EndsOK N e.1 e.2 := fun e he => h e he
theorem real_some (y : List Int) (hy : y.length <= 64) {out : List Ed} (h : rz y = some out) (hl : out.length < 1000000) : callL cfgS nQl [.list 1 (ints y)] [] = some (.tup [.agg [.int .i64 y.length, .list 2 (eds (gofL out))], .int .i64 0], []) := by
 rw [callL_end oQl sQl (Nat.le_of_ble_eq_true rfl)]
 have hr := realise_run y hy
 rw [h] at hr
 simp only [Option.getD_some, Option.isSome_some] at hr
 have hg := gof_run y.length hy out hl (ends_gof (rz_spec h).1)
 have c1 : ¬ 64 < (y.length : Int) := by omega
 have e : out.map pr2 = eds out := rfl
 rw [e] at hr
 generalize eds (gofL out) = G at *
 generalize eds out = E at *
 unfold qQl cQl
 simp [rQlX0, rQlX1, rQlX2, rQlX3, rQlX4, rQlX5, rQlX6, hr, hg, c1, blk, ints_length, sQq, iQq, sQy, iQy, endL, finB]
end Go.BmP
