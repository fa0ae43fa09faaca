/- Plain law: the edges of all workers are the graph's; ghosts are ends of edges. -/
import Derived.Test.YtkhnplbbngkjkaaGreatB02
import Derived.Test.YtkhnplbbngkjkaaGreatCpcG
import Derived.Test.YtkhnplbbngkjkaaGreatT14
import Derived.Test.YtkhnplbbngkjkaaGreatUseM
import Derived.Test.YtkhnplbbngkjkaaGreatP13
import Derived.Test.YtkhnplbbngkjkaaGreatQ05
import Derived.Test.YtkhnplbbngkjkaaGreatL01
import Derived.Test.YtkhnplbbngkjkaaGreatT16
set_option linter.unusedSimpArgs false
set_option linter.unusedVariables false
namespace Go.BmP
open Go.Am Go.Bm
theorem ddp_id : ∀ {l : List Ed}, UpE l -> ddp l = l
 | [], _ => rfl
 | [x], _ => rfl
 | x :: y :: r, h => by
   obtain ⟨h1, h2⟩ := List.pairwise_cons.1 h
   have ne : x ≠ y := fun e => by
    have := h1 y (by simp)
    rw [e] at this
    exact ltE_irr this
   unfold ddp
   rw [if_neg ne, ddp_id h2]
theorem up_leC {l : List Ed} (h : UpE l) : l.Pairwise fun a b => leC cfO a b = true := h.imp fun {a b} k => by
 rw [leO]
 unfold ltE at k
 omega
theorem sort_perm {J Es : List Ed} (h : J.Perm Es) (hU : UpE Es) : isortC cfO J = Es :=
 List.Perm.eq_of_pairwise (le := fun a b => leC cfO a b = true) (fun a b _ _ h1 h2 => totO.anti a b h1 h2) (isortC_asc totO J) (up_leC hU) ((isortC_perm cfO J).trans h)
def jnL (w : Nat) (o hv : List Int) (Es : List Ed) (k : Nat) : List Ed := (List.range k).flatMap fun x => lcE w o hv ((x : Nat) : Int) Es
theorem jnL_succ (w : Nat) (o hv : List Int) (Es : List Ed) (k : Nat) : jnL w o hv Es (k + 1) = jnL w o hv Es k ++ lcE w o hv ((k : Nat) : Int) Es := by
 unfold jnL
 rw [List.range_succ, List.flatMap_append]
 simp
theorem jnL_mem {w : Nat} {o hv : List Int} {Es : List Ed} {k : Nat} {e : Ed} : e ∈ jnL w o hv Es k ↔ e ∈ Es /\ ∃ x : Nat, x < k /\ hmE w o hv e = x := by
 unfold jnL lcE
 simp only [List.mem_flatMap, List.mem_range, List.mem_filter, decide_eq_true_eq]
 constructor
 ·rintro ⟨x, hx, he, hm⟩; exact ⟨he, x, hx, hm⟩
 ·rintro ⟨he, x, hx, hm⟩; exact ⟨x, hx, he, hm⟩
theorem upE_nodup {l : List Ed} (h : UpE l) : l.Nodup := h.imp fun {a b} k e => by subst e; exact ltE_irr k
theorem jnL_nodup {w : Nat} {o hv : List Int} {Es : List Ed} (hU : UpE Es) : ∀ k, (jnL w o hv Es k).Nodup
 | 0 => by simp [jnL]
 | k + 1 => by
   rw [jnL_succ, List.nodup_append]
   refine ⟨jnL_nodup hU k, (upE_nodup hU).filter _, fun a ha b hb e => ?_⟩
   subst e
   obtain ⟨_, x, hx, h1⟩ := jnL_mem.1 ha
   have h2 := (List.mem_filter.1 hb).2
   rw [decide_eq_true_eq] at h2
   omega
theorem jnL_perm {N w : Nat} (h0 : 1 <= w) {Es : List Ed} (hG : GOK (N : Int) Es) {o hv : List Int} (ho : o.length = N) (hb : ∀ x ∈ o, 0 <= x /\ x < (w : Int)) : (jnL w o hv Es w).Perm Es := by
 refine (List.perm_ext_iff_of_nodup (jnL_nodup hG.2.1 w) (upE_nodup hG.2.1)).2 fun e => ?_
 rw [jnL_mem]
 constructor
 ·exact fun h => h.1
 ·intro he
  have hd := hG.2.2 e he
  have hm := hmV_bd h0 (o := o) (hv := hv) hb (u := e.1.toNat) (v := e.2.toNat) (by omega) (by omega)
  have em : hmE w o hv e = hmV w o hv e.1.toNat e.2.toNat := rfl
  exact ⟨he, (hmE w o hv e).toNat, by omega, by omega⟩
theorem gok_flt {N : Nat} {Es : List Ed} (hG : GOK (N : Int) Es) (w : Nat) (o hv : List Int) (x : Int) : GOK (N : Int) (lcE w o hv x Es) := ⟨hG.1, hG.2.1.filter _, fun e he => hG.2.2 e (lcE_sub he)⟩
theorem gh_facts {N w : Nat} {Es : List Ed} (hG : GOK (N : Int) Es) {o hv : List Int} (ho : o.length = N) {x : Nat} {v : Int} (h : v ∈ ghL w o hv x Es) : (0 <= v /\ v < (N : Int)) /\ o.getD v.toNat 0 ≠ (x : Int) /\ (nbr N (lcE w o hv (x : Int) Es) v).length ≠ 0 := by
 have m := ((setOf_spec _).2 v).1 h
 obtain ⟨m1, m2⟩ := List.mem_filter.1 m
 obtain ⟨e, he, q⟩ := endsL_mem.1 m1
 have bd := hG.2.2 e (lcE_sub he)
 have b1 : 0 <= v /\ v < (N : Int) := by rcases q with rfl | rfl <;> omega
 refine ⟨b1, fun k => ?_, fun k => ?_⟩
 ·have : ownsB o x v = true := decide_eq_true k
  rw [this] at m2; simp at m2
 ·have k0 := List.eq_nil_of_length_eq_zero k
  have key : ∀ z, ¬ jn (lcE w o hv (x : Int) Es) v z := fun z hz => by
   have := (nbr_mem (gok_flt hG w o hv x) b1.1 b1.2 z).2 hz
   rw [k0] at this; simp at this
  rcases q with rfl | rfl
  ·exact key e.2 (.inl he)
  ·exact key e.1 (.inr he)
theorem bump_get (n : List Int) (x : Int) (j : Nat) (hx : 0 <= x /\ x < (n.length : Int)) : (bump n x).getD j 0 = n.getD j 0 + (if x = (j : Int) then 1 else 0) := by
 unfold bump
 rw [List.getD_eq_getElem?_getD, List.getD_eq_getElem?_getD, List.getElem?_set]
 by_cases e : x.toNat = j
 ·have e2 : x = (j : Int) := by omega
  subst e2
  have hj : j < n.length := by omega
  simp [hj]
 ·have e2 : ¬ x = (j : Int) := by omega
  rw [if_neg e, if_neg e2, Int.add_zero, List.getD_eq_getElem?_getD]
theorem bumps_get (j : Nat) : ∀ (S n : List Int), (∀ x ∈ S, 0 <= x /\ x < (n.length : Int)) -> (S.foldl bump n).getD j 0 = n.getD j 0 + ((S.filter fun x => decide (x = (j : Int))).length : Int)
 | [], n, _ => by simp
 | x :: r, n, h => by
   rw [List.foldl_cons, bumps_get j r (bump n x) (fun y hy => by rw [bump_length]; exact h y (by simp [hy])), bump_get n x j (h x (by simp)), List.filter_cons]
   by_cases q : x = (j : Int)
   ·rw [if_pos q, if_pos (by simpa using q), List.length_cons]; omega
   ·rw [if_neg q, if_neg (by simpa using q)]; omega
theorem ldV_get {N w : Nat} (h0 : 1 <= w) {Es : List Ed} (hG : GOK (N : Int) Es) {o hv : List Int} (ho : o.length = N) (hb : ∀ x ∈ o, 0 <= x /\ x < (w : Int)) (j : Nat) : (ldV w o hv Es).getD j 0 = ((lcE w o hv (j : Int) Es).length : Int) := by
 unfold ldV lcE
 rw [bumps_get]
 ·rw [List.filter_map, List.length_map]
  have e0 : (List.replicate w (0 : Int)).getD j 0 = 0 := by rw [List.getD_eq_getElem?_getD, List.getElem?_replicate]; split <;> rfl
  rw [e0, Int.zero_add]
  rfl
 ·intro x hx
  obtain ⟨e, he, rfl⟩ := List.mem_map.1 hx
  have hd := hG.2.2 e he
  rw [List.length_replicate]
  exact hmV_bd h0 hb (by omega) (by omega)
end Go.BmP
/- What partition.Join returns for the parts of a graph. -/
set_option linter.unusedSimpArgs false
set_option linter.unusedVariables false
set_option maxRecDepth 100000
set_option maxHeartbeats 4000000
namespace Go.BmP
open Go.Am Go.Bm
theorem cloneE_run (Es : List Ed) (hl : Es.length < 1000000) : callL cfgS nQF [.list 2 (eds Es)] [] = some (.own 2 (eds Es), []) := by
 cases Es with
 | nil => exact callL_orc (by unfold orcA; rw [oQF]; rfl)
 | cons x r =>
   rw [callL_ofA (by unfold orcA; rw [oQF]; rfl) sQF (Nat.le_of_ble_eq_true rfl)]
   unfold qQF cQF
   have hl' : r.length + 1 <= 4294967296 := by simp at hl; omega
   have tk : (eds r).take r.length = eds r := List.take_of_length_le (by rw [eds_length]; omega)
   simp [rQFX0, rQFX1, rQFX2, rQFX3, eds_cons, eds_length, hl', tk, allLeaf_eds, LIM, blk, endL, finB, allLocal, local_, takeR, takeV, eds_take, List.take_take, Nat.min_self, List.take_length, AV.cells, AV.leaf]
def grs (N : Nat) (L : List (List Ed)) : List AV := L.map fun F => .agg [.int .i64 N, .list 2 (eds F)]
theorem grs_length (N : Nat) (L : List (List Ed)) : (grs N L).length = L.length := List.length_map _
theorem grs_get (N : Nat) (L : List (List Ed)) (i : Nat) : (grs N L)[i]? = (L[i]?).map fun F => .agg [.int .i64 N, .list 2 (eds F)] := List.getElem?_map
def jqSt (N : Nat) (L : List (List Ed)) (A : List Ed) (i : Nat) (J : Env) : St := ⟨(0, .int .i64 N) :: (4, .ptr 0 0) :: (6, .ptr 1 0) :: (19, .list 2 (grs N L)) :: (20, .int .i64 L.length) :: (21, .int .i64 i) :: J, [some [.int .i64 0, .own 2 []], some [.int .i64 N, .own 2 (eds A)]]⟩
theorem jq_round (N : Nat) (L : List (List Ed)) (hL : L.length <= 100) (A : List Ed) (i : Nat) (hi : i < L.length) (hg : GOK (N : Int) L[i]) (hl : L[i].length < 100000) (hA : A.length < 10000000) : codeL cfgS 0 lQlX0 (jqSt N L A i []) = some (.normal, jqSt N L (A ++ L[i]) (i + 1) []) := by
 have h1 : (i : Int) < L.length := by omega
 have hw := wrapS (i := i) (by omega)
 have gk := gchk_run (N : Int) L[i] (by omega)
 rw [chkG_zero.2 hg] at gk
 have g3 : (grs N L)[i]? = some (.agg [.int .i64 N, .list 2 (eds L[i])]) := by rw [grs_get, List.getElem?_eq_getElem hi]; rfl
 have g4 : ∀ h, (grs N L)[i]'h = .agg [.int .i64 N, .list 2 (eds L[i])] := fun h => by
  have := List.getElem?_eq_getElem (l := grs N L) h
  rw [g3] at this
  exact (Option.some.inj this).symm
 have g5 := grs_length N L
 have hj1 : ((i + 1 : Nat) : Int) = (i : Int) + 1 := rfl
 unfold jqSt lQlX0
 rw [hj1] at hw ⊢
 generalize L[i] = F at *
 have sn : eds A ++ eds F = eds (A ++ F) := eds_app A F
 have g6 := eds_length A
 have g7 := eds_length F
 have g8 : (eds (A ++ F)).length = A.length + F.length := by rw [eds_length, List.length_append]
 have tk : (eds (A ++ F)).take (A.length + F.length) = eds (A ++ F) := List.take_of_length_le (by omega)
 have tkA : (eds A).take A.length = eds A := List.take_of_length_le (by omega)
 have tkF : (eds F).take F.length = eds F := List.take_of_length_le (by omega)
 have hLL : A.length + F.length <= 4294967296 := by omega
 have cA := cleanL_eds A
 have cF := cleanL_eds F
 have aA := allLeaf_eds A
 have aF := allLeaf_eds F
 generalize eds (A ++ F) = Z at *
 generalize eds A = V at *
 generalize eds F = Y at *
 generalize grs N L = G at *
 simp [rQlX0, rQlX1, rQlX2, rQlX3, rQlX4, rQlX5, rQlX6, rQlX7, rQlX8, rQlX9, rQlX10, rQlX11, rQlX12, rQlX13, rQlX14, rQlX15, rQlX16, rQlX17, h1, hi, hw, gk, g3, g4, g5, g6, g7, g8, sn, tk, tkA, tkF, hLL, cA, cF, aA, aF, LIM, idx, sQz, iQz, eQz, plp, plpL, allB, notBox, swC, swS, seesC, inBox, relB, handBox, mvBB, mvRtB, offBoxes, offLab, calmB, ptrs, ptrsL, blkE, avE, avLE, blk, eds_length, eds_get, edsAt, edAV, allLeaf_eds, cleanL_eds, cleanL_ints, ints_length, ints_get, intsAt, endL, finB]
theorem jq_loop (N : Nat) (L : List (List Ed)) (hL : L.length <= 100) (hg : ∀ F ∈ L, GOK (N : Int) F /\ F.length < 10001) : ∀ (k i : Nat) (A : List Ed), i + k = L.length -> A.length <= 10001 * i -> codeL cfgS 0 (.loop lQlX0) (jqSt N L A i []) = some (.exit 0, jqSt N L (A ++ (L.drop i).flatten) L.length [(22, .bool false)])
 | 0, i, A, hi, hA => by
   obtain rfl : i = L.length := by omega
   rw [List.drop_length, List.flatten_nil, List.append_nil]
   refine loop_exit ?_
   unfold jqSt lQlX0
   have g5 := grs_length N L
   generalize grs N L = G at *
   generalize eds A = V at *
   simp [rQlX0, rQlX1, rQlX2, rQlX3, rQlX4, rQlX5, rQlX6, rQlX7, rQlX8, rQlX9, rQlX10, rQlX11, rQlX12, rQlX13, rQlX14, rQlX15, rQlX16, rQlX17, g5, blk, eds_length, eds_get, edsAt, edAV, allLeaf_eds, cleanL_eds, cleanL_ints, ints_length, ints_get, intsAt, endL, finB]
 | k + 1, i, A, hi, hA => by
   have hlt : i < L.length := by omega
   obtain ⟨q1, q2⟩ := hg _ (List.getElem_mem hlt)
   refine (loop_next (jq_round N L hL A i hlt q1 (by omega) (by omega))).trans ((jq_loop N L hL hg k (i + 1) _ (by omega) (by rw [List.length_append]; omega)).trans ?_)
   rw [List.drop_eq_getElem_cons hlt, List.flatten_cons, List.append_assoc]
theorem srfJ_eq (zs : List Ed) (h : zs.length <= 4294967296) : srfG cfO nQB 2 (eds zs) [.func (.func nQB) [] []] = some (eds (isortC cfO zs), none) := by
 have e : ∀ l : List Ed, l.map pr2 = eds l := fun _ => rfl
 unfold srfG
 simp only
 rw [if_pos ⟨trivial, trivial, by rw [eds_length]; unfold LIM; exact h⟩, <- e zs, prsOf_map]
 rfl
theorem cpeJ_eq (zs : List Ed) (h : zs.length <= 4294967296) : cpeG 2 (eds zs) [] = some (eds (ddp zs ++ List.replicate (zs.length - (ddp zs).length) (0, 0)), some (ddp zs).length) := by
 have e : ∀ l : List Ed, l.map pr2 = eds l := fun _ => rfl
 unfold cpeG
 simp only
 rw [if_pos ⟨trivial, by rw [eds_length]; unfold LIM; exact h⟩, <- e zs, prsOf_map]
 rfl
theorem join_run {N : Nat} (hN : N <= 64) {Es : List Ed} (hU : UpE Es) (hE : Es.length < 1000000) (L : List (List Ed)) (hL : L.length <= 100) (hg : ∀ F ∈ L, GOK (N : Int) F /\ F.length < 10001) (hp : L.flatten.Perm Es) : callL cfgS nQl [.int .i64 N, .list 2 (grs N L)] [] = some (.tup [.agg [.int .i64 N, .list 2 (eds Es)], .int .i64 0], []) := by
 have lp := jq_loop N L hL hg L.length 0 [] (by omega) (by simp)
 rw [List.drop_zero, List.nil_append] at lp
 have lf : L.flatten.length = Es.length := hp.length_eq
 generalize hF : L.flatten = F at *
 have sr := srfJ_eq F (by omega)
 rw [sort_perm hp hU] at sr
 have cl := cloneE_run Es hE
 have cp := cpeJ_eq Es (by omega)
 rw [ddp_id hU, Nat.sub_self, List.replicate_zero, List.append_nil] at cp
 have g1 := eds_length F
 have g2 := eds_length Es
 have g3 := grs_length N L
 have tkF : (eds F).take Es.length = eds F := List.take_of_length_le (by omega)
 have tkF2 : (eds F).drop Es.length = [] := List.drop_eq_nil_of_le (by omega)
 have tkE : (eds Es).take Es.length = eds Es := List.take_of_length_le (by omega)
 have tkE2 : (eds Es).drop Es.length = [] := List.drop_eq_nil_of_le (by omega)
 have cF := cleanL_eds F
 have cE := cleanL_eds Es
 have h6 : ¬ (64 : Int) < N := by omega
 have h0 : ¬ (N : Int) < 0 := by omega
 unfold jqSt at lp
 rw [nat0, eds_nil] at lp
 rw [callL_end oQl sQl (Nat.le_of_ble_eq_true rfl)]
 unfold qQl cQl
 generalize eds F = V at *
 generalize eds Es = Y at *
 generalize grs N L = G at *
 simp [rQlX0, rQlX1, rQlX2, rQlX3, rQlX4, rQlX5, rQlX6, rQlX7, rQlX8, rQlX9, rQlX10, rQlX11, rQlX12, rQlX13, rQlX14, rQlX15, rQlX16, rQlX17, lp, sr, cl, cp, g1, g2, g3, lf, tkF, tkF2, tkE, tkE2, cF, cE, h6, h0, LIM, sQA, iQA, eQA, sQE, iQE, eQE, sQF, iQF, eQF, plp, plpL, allB, notBox, swC, swS, seesC, inBox, relB, handBox, mvBB, mvRtB, offBoxes, offLab, calmB, ptrs, ptrsL, blkE, avE, avLE, blk, eds_length, eds_get, edsAt, edAV, allLeaf_eds, cleanL_eds, cleanL_ints, ints_length, ints_get, intsAt, endL, finB]
end Go.BmP
/- The law of joins returns true. -/
set_option linter.unusedSimpArgs false
set_option linter.unusedVariables false
set_option maxRecDepth 100000
set_option maxHeartbeats 4000000
namespace Go.BmP
open Go.Am Go.Bm
theorem awake37 : callL cfgS nQc [] [] = some (.bool true, []) := callL_iff.2 ⟨3000, by kernel_rfl⟩
def pbb (w : Nat) (o hv : List Int) : Blk := some [.int .i64 w, .list 1 (ints o), .list 1 (ints hv)]
def jz0 (l : List Int) (a N w : Nat) (Es : List Ed) (o hv LD : List Int) (L : List (List Ed)) (x : Nat) (F : List Ed) (gh : List Int) (i : Nat) (J : Env) : St := ⟨(4, .ptr 1 0) :: (5, .ptr 2 0) :: (6, .list 1 (ints LD)) :: (7, .int .i64 0) :: (8, .own 2 (grs N L)) :: (9, .int .i64 x) :: (10, .ptr 3 0) :: (80, .list 1 (ints gh)) :: (81, .int .i64 gh.length) :: (82, .int .i64 i) :: J, [dk l a, gb N Es, pbb w o hv, gb N F]⟩
theorem jz0_loop (l : List Int) (a : Nat) {N w : Nat} (Es : List Ed) (o hv LD : List Int) (ho : o.length = N) (hN : N <= 64) (L : List (List Ed)) (x : Nat) (F : List Ed) (hF : GOK (N : Int) F) (lF : F.length < 1000000) (gh : List Int) (lg : gh.length < 1000000) (h : ∀ v ∈ gh, (0 <= v /\ v < (N : Int)) /\ o.getD v.toNat 0 ≠ (x : Int) /\ (nbr N F v).length ≠ 0) : ∀ (k i : Nat), i + k = gh.length ->
  codeL cfgS 0 (.loop lQaX0) (jz0 l a N w Es o hv LD L x F gh i []) = some (.exit 2, jz0 l a N w Es o hv LD L x F gh gh.length [(83, .bool false)])
 | 0, i, hi => by
   obtain rfl : i = gh.length := by omega
   refine loop_exit ?_
   unfold jz0 lQaX0 dk gb pbb
   generalize ints gh = Q at *
   generalize ints o = O at *
   generalize ints hv = Hv at *
   generalize ints LD = LL at *
   generalize eds Es = Y at *
   generalize eds F = V at *
   generalize grs N L = G at *
   simp [rQaX0, rQaX1, rQaX2, rQaX3, rQaX4, rQaX5, rQaX6, rQaX7, rQaX8, rQaX9, rQaX10, rQaX11, rQaX12, rQaX13, rQaX14, rQaX15, rQaX16, rQaX17, rQaX18, rQaX19, rQaX20, rQaX21, rQaX22, rQaX23, rQaX24, rQaX25, rQaX26, rQaX27, rQaX28, rQaX29, blk, eds_length, eds_get, edsAt, edAV, allLeaf_eds, cleanL_eds, cleanL_ints, ints_length, ints_get, intsAt, endL, finB]
 | k + 1, i, hi => by
   have hlt : i < gh.length := by omega
   have h1 : (i : Int) < gh.length := by omega
   have hw := wrapS (i := i) (by omega)
   refine (loop_next ?_).trans (jz0_loop l a Es o hv LD ho hN L x F hF lF gh lg h k (i + 1) (by omega))
   obtain ⟨⟨b0, b1⟩, c1, c2⟩ := h _ (List.getElem_mem hlt)
   have dg := degree_run hF lF b0 b1
   have g3 : (ints gh)[i]? = some (.int .i64 gh[i]) := by rw [ints_get, List.getElem?_eq_getElem hlt]; rfl
   have g4 : ∀ h, (ints gh)[i]'h = .int .i64 gh[i] := fun h => intsAt ..
   have g5 := ints_length gh
   have hj1 : ((i + 1 : Nat) : Int) = (i : Int) + 1 := rfl
   unfold jz0 lQaX0 dk gb pbb
   rw [hj1] at hw ⊢
   obtain ⟨v, hv'⟩ : ∃ v : Nat, gh[i] = v := ⟨gh[i].toNat, by omega⟩
   rw [hv'] at b0 b1 c1 c2 dg g3 g4
   rw [show ((v : Nat) : Int).toNat = v by omega] at c1
   clear hv'
   have lv : v < o.length := by omega
   have kv : (v : Int) < o.length := by omega
   have kv2 : ¬ (o.length : Int) <= v := by omega
   have kv3 : ¬ o.length <= v := by omega
   have k0 : ¬ (v : Int) < 0 := by omega
   have g6 : (ints o)[v]? = some (.int .i64 (o.getD v 0)) := by rw [ints_get, List.getElem?_eq_getElem lv]; simp [List.getD_eq_getElem?_getD, List.getElem?_eq_getElem lv]
   have g7 : ∀ h, (ints o)[v]'h = .int .i64 (o.getD v 0) := fun h => by
    have := List.getElem?_eq_getElem (l := ints o) h
    rw [g6] at this
    exact (Option.some.inj this).symm
   have g8 := ints_length o
   have c3 : ¬ ((nbr N F (v : Int)).length : Int) = 0 := by omega
   generalize (nbr N F (v : Int)).length = m at *
   generalize o.getD v 0 = ov at *
   generalize ints gh = Q at *
   generalize ints o = O at *
   generalize ints hv = Hv at *
   generalize ints LD = LL at *
   generalize eds Es = Y at *
   generalize eds F = V at *
   generalize grs N L = G at *
   simp [rQaX0, rQaX1, rQaX2, rQaX3, rQaX4, rQaX5, rQaX6, rQaX7, rQaX8, rQaX9, rQaX10, rQaX11, rQaX12, rQaX13, rQaX14, rQaX15, rQaX16, rQaX17, rQaX18, rQaX19, rQaX20, rQaX21, rQaX22, rQaX23, rQaX24, rQaX25, rQaX26, rQaX27, rQaX28, rQaX29, h1, hlt, hw, g3, g4, g5, lv, kv, kv2, kv3, k0, g6, g7, g8, c1, c2, c3, dg, idx, sQj, iQj, eQj, blk, eds_length, eds_get, edsAt, edAV, allLeaf_eds, cleanL_eds, cleanL_ints, ints_length, ints_get, intsAt, endL, finB]
def jz1 (l : List Int) (a N w : Nat) (Es : List Ed) (o hv LD : List Int) (L : List (List Ed)) (x : Nat) (F : List Ed) (i : Nat) (J : Env) : St := ⟨(4, .ptr 1 0) :: (5, .ptr 2 0) :: (6, .list 1 (ints LD)) :: (7, .int .i64 0) :: (8, .own 2 (grs N L)) :: (9, .int .i64 x) :: (10, .ptr 3 0) :: (112, .list 2 (eds F)) :: (113, .int .i64 F.length) :: (114, .int .i64 i) :: J, [dk l a, gb N Es, pbb w o hv, gb N F]⟩
theorem jz1_loop (l : List Int) (a : Nat) {N w : Nat} (w1 : 1 <= w) (w8 : w <= 8) (Es : List Ed) (o hv LD : List Int) (ho : o.length = N) (hN : N <= 64) (hb : ∀ x ∈ o, 0 <= x /\ x < (w : Int)) (hh : hv.length < 1000000) (hV : valGo N (-1) hv = true) (L : List (List Ed)) (x : Nat) (F : List Ed) (lF : F.length < 1000000) (h : ∀ e ∈ F, (0 <= e.1 /\ e.1 < e.2 /\ e.2 < (N : Int)) /\ hmE w o hv e = (x : Int)) : ∀ (k i : Nat), i + k = F.length ->
  codeL cfgS 0 (.loop lQaX1) (jz1 l a N w Es o hv LD L x F i []) = some (.exit 4, jz1 l a N w Es o hv LD L x F F.length [(115, .bool false)])
 | 0, i, hi => by
   obtain rfl : i = F.length := by omega
   refine loop_exit ?_
   unfold jz1 lQaX1 dk gb pbb
   generalize ints o = O at *
   generalize ints hv = Hv at *
   generalize ints LD = LL at *
   generalize eds Es = Y at *
   generalize eds F = V at *
   generalize grs N L = G at *
   simp [rQaX0, rQaX1, rQaX2, rQaX3, rQaX4, rQaX5, rQaX6, rQaX7, rQaX8, rQaX9, rQaX10, rQaX11, rQaX12, rQaX13, rQaX14, rQaX15, rQaX16, rQaX17, rQaX18, rQaX19, rQaX20, rQaX21, rQaX22, rQaX23, rQaX24, rQaX25, rQaX26, rQaX27, rQaX28, rQaX29, blk, eds_length, eds_get, edsAt, edAV, allLeaf_eds, cleanL_eds, cleanL_ints, ints_length, ints_get, intsAt, endL, finB]
 | k + 1, i, hi => by
   have hlt : i < F.length := by omega
   have h1 : (i : Int) < F.length := by omega
   have hw := wrapS (i := i) (by omega)
   refine (loop_next ?_).trans (jz1_loop l a w1 w8 Es o hv LD ho hN hb hh hV L x F lF h k (i + 1) (by omega))
   obtain ⟨b, c⟩ := h _ (List.getElem_mem hlt)
   obtain ⟨u, hu⟩ : ∃ u : Nat, F[i].1 = u := ⟨F[i].1.toNat, by omega⟩
   obtain ⟨v, hv2⟩ : ∃ v : Nat, F[i].2 = v := ⟨F[i].2.toNat, by omega⟩
   have hm := phome_run w1 w8 o hv ho hN hb hh hV (u := u) (v := v) (by omega) (by omega)
   have eh : hmV w o hv u v = (x : Int) := by rw [<- c]; unfold hmE; rw [hu, hv2]; rfl
   rw [eh] at hm
   have g3 : (eds F)[i]? = some (.agg [.int .i64 u, .int .i64 v]) := by rw [eds_get, List.getElem?_eq_getElem hlt]; simp [edAV, hu, hv2]
   have g4 : ∀ h, (eds F)[i]'h = .agg [.int .i64 u, .int .i64 v] := fun h => by
    have := List.getElem?_eq_getElem (l := eds F) h
    rw [g3] at this
    exact (Option.some.inj this).symm
   have g5 := eds_length F
   have hj1 : ((i + 1 : Nat) : Int) = (i : Int) + 1 := rfl
   unfold jz1 lQaX1 dk gb pbb
   rw [hj1] at hw ⊢
   generalize ints o = O at *
   generalize ints hv = Hv at *
   generalize ints LD = LL at *
   generalize eds Es = Y at *
   generalize eds F = V at *
   generalize grs N L = G at *
   simp [rQaX0, rQaX1, rQaX2, rQaX3, rQaX4, rQaX5, rQaX6, rQaX7, rQaX8, rQaX9, rQaX10, rQaX11, rQaX12, rQaX13, rQaX14, rQaX15, rQaX16, rQaX17, rQaX18, rQaX19, rQaX20, rQaX21, rQaX22, rQaX23, rQaX24, rQaX25, rQaX26, rQaX27, rQaX28, rQaX29, h1, hlt, hw, g3, g4, g5, hm, idx, sQk, iQk, eQk, blk, eds_length, eds_get, edsAt, edAV, allLeaf_eds, cleanL_eds, cleanL_ints, ints_length, ints_get, intsAt, endL, finB]
def jz2 (l : List Int) (a N w : Nat) (Es : List Ed) (o hv LD : List Int) (L : List (List Ed)) (x : Nat) (J : Env) : St := ⟨(4, .ptr 1 0) :: (5, .ptr 2 0) :: (6, .list 1 (ints LD)) :: (7, .int .i64 0) :: (8, .own 2 (grs N L)) :: (9, .int .i64 x) :: J, [dk l a, gb N Es, pbb w o hv]⟩
theorem leaf_grs (N : Nat) (L : List (List Ed)) : allLeaf (flatCells (grs N L)) = true := by
 induction L with
 | nil => rfl
 | cons F r ih => simp only [grs, List.map_cons, flatCells, AV.cells, List.cons_append, List.nil_append, allLeaf, AV.leaf, Bool.true_and] at ih ⊢; exact ih
theorem jz2_round (l : List Int) (a : Nat) {N w : Nat} (w1 : 1 <= w) (w8 : w <= 8) {Es : List Ed} (hG : GOK (N : Int) Es) (hE : Es.length <= 10000) (o hv LD : List Int) (eL : LD = ldV w o hv Es) (ho : o.length = N) (hN : N <= 64) (hb : ∀ x ∈ o, 0 <= x /\ x < (w : Int)) (hh : hv.length < 1000000) (hV : valGo N (-1) hv = true) (L : List (List Ed)) (hL : L.length <= 100) (x : Nat) (hx : x < w) :
  codeL cfgS 0 lQaX2 (jz2 l a N w Es o hv LD L x []) = some (.normal, jz2 l a N w Es o hv LD (L ++ [lcE w o hv (x : Int) Es]) (x + 1) []) := by
 have k1 : (x : Int) < w := by omega
 have hw := wrapS (i := x) (by omega)
 have lc := local_run w1 w8 hG (by omega) o hv ho hh hV hb x hx
 have gh := ghosts_run w1 w8 hG (by omega) o hv ho hh hV hb x hx
 have fl := lcE_len w o hv (x : Int) Es
 have le := endsL_length (lcE w o hv (x : Int) Es)
 have lg : (ghL w o hv x Es).length < 1000000 := by
  have h1 := setOf_len ((endsL (lcE w o hv (x : Int) Es)).filter fun z => !ownsB o x z)
  have h2 := List.length_filter_le (fun z => !ownsB o x z) (endsL (lcE w o hv (x : Int) Es))
  unfold ghL
  omega
 have l0 := jz0_loop (w := w) l a Es o hv LD ho hN L x (lcE w o hv (x : Int) Es) (gok_flt hG w o hv x) (by omega) (ghL w o hv x Es) lg (fun v hv' => gh_facts hG ho hv') (ghL w o hv x Es).length 0 (by omega)
 have l1 := jz1_loop l a w1 w8 Es o hv LD ho hN hb hh hV L x (lcE w o hv (x : Int) Es) (by omega) (fun e he => ⟨hG.2.2 e (lcE_sub he), by have := (List.mem_filter.1 he).2; rwa [decide_eq_true_eq] at this⟩) (lcE w o hv (x : Int) Es).length 0 (by omega)
 have lx : x < LD.length := by rw [eL, ldV, bumps_length, List.length_replicate]; exact hx
 have kx : (x : Int) < LD.length := by omega
 have kx2 : ¬ (LD.length : Int) <= x := by omega
 have kx3 : ¬ LD.length <= x := by omega
 have g6 : (ints LD)[x]? = some (.int .i64 (LD.getD x 0)) := by rw [ints_get, List.getElem?_eq_getElem lx]; simp [List.getD_eq_getElem?_getD, List.getElem?_eq_getElem lx]
 have eg : LD.getD x 0 = ((lcE w o hv (x : Int) Es).length : Int) := by rw [eL]; exact ldV_get w1 hG ho hb x
 rw [eg] at g6
 have g7 : ∀ h, (ints LD)[x]'h = .int .i64 ((lcE w o hv (x : Int) Es).length : Int) := fun h => by
  have := List.getElem?_eq_getElem (l := ints LD) h
  rw [g6] at this
  exact (Option.some.inj this).symm
 have g8 := ints_length LD
 have g9 := ints_length (ghL w o hv x Es)
 have hj1 : ((x + 1 : Nat) : Int) = (x : Int) + 1 := rfl
 clear eL eg le lg
 generalize lcE w o hv (x : Int) Es = F at *
 generalize ghL w o hv x Es = T at *
 have g10 := eds_length F
 have g11 := grs_length N L
 have sn : grs N L ++ [.agg [.int .i64 N, .list 2 (eds F)]] = grs N (L ++ [F]) := by simp [grs]
 have tk : (grs N (L ++ [F])).take (L.length + 1) = grs N (L ++ [F]) := List.take_of_length_le (by rw [grs_length]; simp)
 have tko : (grs N L).take L.length = grs N L := List.take_of_length_le (by omega)
 have hLL : L.length + 1 <= 4294967296 := by omega
 have aG := leaf_grs N L
 have cF := cleanL_eds F
 have aF := allLeaf_eds F
 unfold jz0 dk gb pbb at l0
 unfold jz1 dk gb pbb at l1
 rw [nat0] at l0 l1
 unfold jz2 lQaX2 dk gb pbb
 rw [hj1] at hw ⊢
 generalize grs N (L ++ [F]) = Z at *
 generalize grs N L = G at *
 generalize ints T = TT at *
 generalize ints o = O at *
 generalize ints hv = Hv at *
 generalize ints LD = LL at *
 generalize eds Es = Y at *
 generalize eds F = V at *
 simp [rQaX0, rQaX1, rQaX2, rQaX3, rQaX4, rQaX5, rQaX6, rQaX7, rQaX8, rQaX9, rQaX10, rQaX11, rQaX12, rQaX13, rQaX14, rQaX15, rQaX16, rQaX17, rQaX18, rQaX19, rQaX20, rQaX21, rQaX22, rQaX23, rQaX24, rQaX25, rQaX26, rQaX27, rQaX28, rQaX29, k1, hx, hw, lc, gh, l0, l1, lx, kx, kx2, kx3, g6, g7, g8, g9, g10, g11, sn, tk, tko, hLL, aG, cF, aF, LIM, idx, sQh, iQh, eQh, sQi, iQi, eQi, plp, plpL, allB, notBox, swC, swS, seesC, inBox, relB, handBox, mvBB, mvRtB, offBoxes, offLab, calmB, ptrs, ptrsL, blkE, avE, avLE, blk, eds_length, eds_get, edsAt, edAV, allLeaf_eds, cleanL_eds, cleanL_ints, ints_length, ints_get, intsAt, endL, finB]
theorem jz2_loop (l : List Int) (a : Nat) {N w : Nat} (w1 : 1 <= w) (w8 : w <= 8) {Es : List Ed} (hG : GOK (N : Int) Es) (hE : Es.length <= 10000) (o hv LD : List Int) (eL : LD = ldV w o hv Es) (ho : o.length = N) (hN : N <= 64) (hb : ∀ x ∈ o, 0 <= x /\ x < (w : Int)) (hh : hv.length < 1000000) (hV : valGo N (-1) hv = true) : ∀ (k x : Nat), x + k = w ->
  codeL cfgS 0 (.loop lQaX2) (jz2 l a N w Es o hv LD ((List.range x).map fun x => lcE w o hv ((x : Nat) : Int) Es) x []) = some (.exit 0, jz2 l a N w Es o hv LD ((List.range w).map fun x => lcE w o hv ((x : Nat) : Int) Es) w [(41, .bool false)])
 | 0, x, hi => by
   obtain rfl : x = w := by omega
   refine loop_exit ?_
   unfold jz2 lQaX2 dk gb pbb
   generalize grs N ((List.range x).map fun x_1 => lcE x o hv ((x_1 : Nat) : Int) Es) = G at *
   generalize ints o = O at *
   generalize ints hv = Hv at *
   generalize ints LD = LL at *
   generalize eds Es = Y at *
   simp [rQaX0, rQaX1, rQaX2, rQaX3, rQaX4, rQaX5, rQaX6, rQaX7, rQaX8, rQaX9, rQaX10, rQaX11, rQaX12, rQaX13, rQaX14, rQaX15, rQaX16, rQaX17, rQaX18, rQaX19, rQaX20, rQaX21, rQaX22, rQaX23, rQaX24, rQaX25, rQaX26, rQaX27, rQaX28, rQaX29, blk, eds_length, eds_get, edsAt, edAV, allLeaf_eds, cleanL_eds, cleanL_ints, ints_length, ints_get, intsAt, endL, finB]
 | k + 1, x, hi => by
   refine (loop_next (jz2_round l a w1 w8 hG hE o hv LD eL ho hN hb hh hV _ (by simp; omega) x (by omega))).trans (Eq.trans ?_ (jz2_loop l a w1 w8 hG hE o hv LD eL ho hN hb hh hV k (x + 1) (by omega)))
   rw [List.range_succ, List.map_append]
   rfl
theorem joins_run (l : List Int) : callL cfgS nQa [.list 1 (ints l)] [] = some (.bool true, []) := by
 rw [callL_end oQa sQa (Nat.le_of_ble_eq_true rfl)]
 have aw := awake37
 have few := few_run l
 by_cases hl : (l.length : Int) <= 500
 case neg =>
  unfold qQa cQa
  simp [rQaX0, rQaX1, rQaX2, rQaX3, rQaX4, rQaX5, rQaX6, rQaX7, rQaX8, rQaX9, rQaX10, rQaX11, rQaX12, rQaX13, rQaX14, rQaX15, rQaX16, rQaX17, rQaX18, rQaX19, rQaX20, rQaX21, rQaX22, rQaX23, rQaX24, rQaX25, rQaX26, rQaX27, rQaX28, rQaX29, few, hl, aw, sQb, iQb, eQb, sQc, iQc, eQc, blk, eds_length, eds_get, edsAt, edAV, allLeaf_eds, cleanL_eds, cleanL_ints, ints_length, ints_get, intsAt, endL, finB]
 have hl5 : l.length <= 500 := by omega
 have n1 := new_run l
 obtain ⟨N, Es, a1, n2, hG, hN, hEl⟩ := graph_run l hl5 9 (by omega) 0
 rw [show ((9 : Nat) : Int) = 9 from rfl] at n2
 obtain ⟨w, o, hv, a2, n3, ⟨w1, w4⟩, ⟨o1, o2⟩, v1, v2⟩ := plan_run l hl5 N (by omega) Es a1
 have ld := loads_run w1 (by omega) hG (by omega) o hv o1 (by omega) v2 o2
 have lp := jz2_loop l a2 w1 (by omega) hG hEl o hv (ldV w o hv Es) rfl o1 (by omega) o2 (by omega) v2 w 0 (by omega)
 have eF : ((List.range w).map fun x => lcE w o hv ((x : Nat) : Int) Es).flatten = jnL w o hv Es w := by unfold jnL; rw [List.flatMap_def]
 have jn := join_run (N := N) (by omega) hG.2.1 (by omega) ((List.range w).map fun x => lcE w o hv ((x : Nat) : Int) Es) (by simp; omega) (fun F hF => by
  obtain ⟨x, _, rfl⟩ := List.mem_map.1 hF
  have := lcE_len w o hv ((x : Nat) : Int) Es
  exact ⟨gok_flt hG w o hv x, by omega⟩) (by rw [eF]; exact jnL_perm w1 hG o1 o2)
 have sm := same3_run N Es (by omega)
 rw [List.range_zero, List.map_nil] at lp
 have e0 : grs N [] = [] := rfl
 have cO := cleanL_ints o
 have cH := cleanL_ints hv
 have cL := cleanL_ints (ldV w o hv Es)
 have gG := grs_length N ((List.range w).map fun x => lcE w o hv ((x : Nat) : Int) Es)
 rw [List.length_map, List.length_range] at gG
 have tG : (grs N ((List.range w).map fun x => lcE w o hv ((x : Nat) : Int) Es)).take w = grs N ((List.range w).map fun x => lcE w o hv ((x : Nat) : Int) Es) := List.take_of_length_le (by omega)
 unfold jz2 pbb at lp
 unfold dk gb at *
 rw [nat0] at n1 n2 lp
 rw [e0] at lp
 clear hG o2 v2 eF e0
 unfold qQa cQa
 generalize grs N ((List.range w).map fun x => lcE w o hv ((x : Nat) : Int) Es) = G at *
 generalize ldV w o hv Es = LD at *
 generalize ints LD = LL at *
 generalize eds Es = Y at *
 generalize ints o = O at *
 generalize ints hv = Hv at *
 simp [rQaX0, rQaX1, rQaX2, rQaX3, rQaX4, rQaX5, rQaX6, rQaX7, rQaX8, rQaX9, rQaX10, rQaX11, rQaX12, rQaX13, rQaX14, rQaX15, rQaX16, rQaX17, rQaX18, rQaX19, rQaX20, rQaX21, rQaX22, rQaX23, rQaX24, rQaX25, rQaX26, rQaX27, rQaX28, rQaX29, few, hl, n1, n2, n3, ld, lp, jn, sm, cO, cH, cL, gG, tG, aw, sQb, iQb, eQb, sQd, iQd, eQd, sQe, iQe, eQe, sQf, iQf, eQf, sQg, iQg, eQg, sQl, iQl, eQl, sQm, iQm, eQm, sQc, iQc, eQc, plp, plpL, allB, notBox, swC, swS, seesC, inBox, relB, handBox, mvBB, mvRtB, offBoxes, offLab, calmB, ptrs, ptrsL, blkE, avE, avLE, blk, eds_length, eds_get, edsAt, edAV, allLeaf_eds, cleanL_eds, cleanL_ints, ints_length, ints_get, intsAt, endL, finB]
end Go.BmP
