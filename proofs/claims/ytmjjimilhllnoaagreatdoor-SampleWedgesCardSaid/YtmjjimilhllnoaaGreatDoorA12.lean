/- What graph.Add returns for a graph that is in order: the search for the place. -/
import Derived.Test.YtmjjimilhllnoaaGreatDoorUseM
import Derived.Test.YtmjjimilhllnoaaGreatDoorK04
set_option linter.unusedSimpArgs false
set_option linter.unusedVariables false
set_option maxRecDepth 100000
set_option maxHeartbeats 4000000
namespace Go.BmP
open Go.Am Go.Bm
theorem gedge_run (u v : Int) : callL cfgS nQa4 [.int .i64 u, .int .i64 v] [] = some (.agg [.int .i64 (nrmE u v).1, .int .i64 (nrmE u v).2], []) := by
 rw [callL_end oQa4 sQa4 (Nat.le_of_ble_eq_true rfl)]
 unfold nrmE
 simp only
 obtain ⟨a, ha⟩ : ∃ a, (if v < u then v else u) = a := ⟨_, rfl⟩
 obtain ⟨b, hb⟩ : ∃ b, (if u < v then v else u) = b := ⟨_, rfl⟩
 rw [ha, hb]
 unfold qQa4 cQa4
 simp [rQa4X0, rQa4X1, ha, hb, blk, plp, plpL, allB, notBox, swC, swS, seesC, inBox, plL, pl, endL, finB, finS]
theorem posE_of (x : Ed) : ∀ (l : List Ed) (k : Nat), k <= l.length -> (∀ (t : Nat) (h : t < l.length), t < k -> ltE l[t] x) -> (∀ (h : k < l.length), ¬ ltE l[k] x) -> posE x l = k
 | [], k, hk, _, _ => by simp at hk; subst hk; rfl
 | y :: r, 0, hk, h1, h2 => by
   unfold posE
   have k0 : ¬ ltE y x := h2 (by simp)
   rw [if_neg k0]
 | y :: r, k + 1, hk, h1, h2 => by
   unfold posE
   have k0 : ltE y x := h1 0 (by simp) (by omega)
   rw [if_pos k0, posE_of x r k (by simpa using hk) (fun t h ht => h1 (t + 1) (by simpa using h) (by omega)) (fun h => h2 (by simpa using h))]
def bsSt (x : Ed) (Es : List Ed) (i j : Nat) (J : Env) : St := ⟨(0, .list 2 (eds Es)) :: (2, .func (.func nQF) [] []) :: (4, .ptr 0 0) :: (8, .int .i64 Es.length) :: (9, .int .i64 i) :: (10, .int .i64 j) :: J, [some [.int .i64 x.1, .int .i64 x.2]]⟩
theorem bs_loop (x : Ed) (Es : List Ed) (hE : Es.length < 1000000) (hU : UpE Es) : ∀ (m i j : Nat), j - i <= m -> i <= j -> j <= Es.length -> (∀ (t : Nat) (h : t < Es.length), t < i -> ltE Es[t] x) -> (∀ (t : Nat) (h : t < Es.length), j <= t -> ¬ ltE Es[t] x) ->
  codeL cfgS 0 (.loop lQa5X0) (bsSt x Es i j []) = some (.exit 0, bsSt x Es (posE x Es) (posE x Es) [(17, .bool false)]) := by
 intro m
 induction m with
 | zero =>
   intro i j hm hij hj h1 h2
   obtain rfl : i = j := by omega
   rw [posE_of x Es i hj h1 (fun h => h2 i h (Nat.le_refl _))]
   refine loop_exit ?_
   unfold bsSt lQa5X0
   generalize eds Es = Y at *
   simp [rQa5X0, rQa5X1, rQa5X2, rQa5X3, rQa5X4, rQa5X5, rQa5X6, rQa5X7, rQa5X8, blk, plp, plpL, allB, notBox, swC, swS, seesC, inBox]
 | succ m ih =>
   intro i j hm hij hj h1 h2
   by_cases hlt : i < j
   case neg =>
    obtain rfl : i = j := by omega
    exact ih i i (by omega) (Nat.le_refl _) hj h1 h2
   have k1 : (i : Int) < j := by omega
   obtain ⟨h, hh⟩ : ∃ h, (i + j) / 2 = h := ⟨_, rfl⟩
   have hl : h < Es.length := by omega
   have hln : (h : Int) < Es.length := by omega
   have w1 : IntKind.i64.wrap ((i : Int) + j) = (i : Int) + j := wrap_id (by omega) (by omega)
   have w2 : IntKind.u64.wrap ((i : Int) + j) = (i : Int) + j := by
    have : IntKind.u64.wrap ((i + j : Nat) : Int) = ((i + j : Nat) : Int) := by
     rw [IntKind.wrap_u64]; omega
    rwa [Int.natCast_add] at this
   have w3 : ((i : Int) + j).fdiv 2 = (h : Int) := by
    rw [<- Int.natCast_add, Int.fdiv_eq_ediv_of_nonneg _ (by omega)]; omega
   have w4 : IntKind.i64.wrap (h : Int) = h := wrapN (by omega)
   have w5 : IntKind.i64.wrap ((h : Int) + 1) = ((h + 1 : Nat) : Int) := wrapS (by omega)
   have w6 : IntKind.u64.wrap (h : Int) = h := by rw [IntKind.wrap_u64]; omega
   have w7 : ((i : Int) + j) / 2 = (h : Int) := by omega
   have g1 : (eds Es)[h]? = some (.agg [.int .i64 Es[h].1, .int .i64 Es[h].2]) := by rw [eds_get, List.getElem?_eq_getElem hl]; rfl
   have g2 : ∀ p, (eds Es)[h]'p = .agg [.int .i64 Es[h].1, .int .i64 Es[h].2] := fun p => edsAt ..
   have g5 := eds_length Es
   have o := order_run Es[h] x
   have og := ordI_ge Es[h] x
   obtain ⟨xa, xb⟩ := x
   by_cases q : ltE Es[h] (xa, xb)
   ·have on : ordI Es[h] (xa, xb) < 0 := by
     have : ¬ 0 <= ordI Es[h] (xa, xb) := fun z => og.1 z q
     omega
    refine (loop_next (s' := bsSt (xa, xb) Es (h + 1) j []) ?_).trans (ih (h + 1) j (by omega) (by omega) hj (fun t ht htt => ?_) h2)
    ·clear ih h1 h2 og hU q
     generalize ordI Es[h] (xa, xb) = z at *
     generalize Es[h] = e at *
     unfold bsSt lQa5X0
     simp only at o
     generalize eds Es = Y at *
     simp [rQa5X0, rQa5X1, rQa5X2, rQa5X3, rQa5X4, rQa5X5, rQa5X6, rQa5X7, rQa5X8, k1, hlt, hl, hln, w1, w2, w3, w4, w5, w6, w7, g1, g2, g5, o, on, idx, IntKind.bits, sQF, iQF, blk, plp, plpL, allB, notBox, swC, swS, seesC, inBox]
    ·by_cases e : t = h
     ·subst e; exact q
     ·exact ltE_trans (List.pairwise_iff_getElem.1 hU t h ht hl (by omega)) q
   ·have on : ¬ ordI Es[h] (xa, xb) < 0 := by
     have := og.2 q
     omega
    refine (loop_next (s' := bsSt (xa, xb) Es i h []) ?_).trans (ih i h (by omega) (by omega) (by omega) h1 (fun t ht htt => ?_))
    ·clear ih h1 h2 og hU q
     generalize ordI Es[h] (xa, xb) = z at *
     generalize Es[h] = e at *
     unfold bsSt lQa5X0
     simp only at o
     generalize eds Es = Y at *
     simp [rQa5X0, rQa5X1, rQa5X2, rQa5X3, rQa5X4, rQa5X5, rQa5X6, rQa5X7, rQa5X8, k1, hlt, hl, hln, w1, w2, w3, w4, w5, w6, w7, g1, g2, g5, o, on, idx, IntKind.bits, sQF, iQF, blk, plp, plpL, allB, notBox, swC, swS, seesC, inBox]
    ·intro z
     by_cases e : t = h
     ·subst e; exact q z
     ·exact q (ltE_trans (List.pairwise_iff_getElem.1 hU h t hl ht (by omega)) z)
end Go.BmP
/- Where an edge stands in a graph that is in order. -/
set_option linter.unusedSimpArgs false
set_option linter.unusedVariables false
set_option maxRecDepth 100000
set_option maxHeartbeats 4000000
namespace Go.BmP
open Go.Am Go.Bm
theorem pos_mem {x : Ed} {Es : List Ed} (hU : UpE Es) : x ∈ Es ↔ Es[posE x Es]? = some x := by
 constructor
 ·intro hx
  obtain ⟨t, ht, e⟩ := List.getElem_of_mem hx
  have h1 : posE x Es = t := posE_of x Es t (by omega) (fun s hs hst => by rw [<- e]; exact List.pairwise_iff_getElem.1 hU s t hs ht hst) (fun _ => by rw [e]; exact ltE_irr)
  rw [h1, List.getElem?_eq_getElem ht, e]
 ·exact fun h => List.mem_of_getElem? h
theorem bs_run (x : Ed) (Es : List Ed) (hE : Es.length < 1000000) (hU : UpE Es) : ∃ b, callL cfgS nQa5 [.list 2 (eds Es), .agg [.int .i64 x.1, .int .i64 x.2], .func (.func nQF) [] []] [] = some (.tup [.int .i64 (posE x Es), .bool b], []) := by
 have lp := bs_loop x Es hE hU Es.length 0 Es.length (by omega) (by omega) (Nat.le_refl _) (fun t h ht => by omega) (fun t h ht => by omega)
 unfold bsSt at lp
 rw [nat0] at lp
 have g5 := eds_length Es
 have pl := posE_le x Es
 rw [callL_end oQa5 sQa5 (Nat.le_of_ble_eq_true rfl)]
 unfold qQa5 cQa5
 by_cases q : posE x Es < Es.length
 ·have qn : (posE x Es : Int) < Es.length := by omega
  have g1 : (eds Es)[posE x Es]? = some (.agg [.int .i64 Es[posE x Es].1, .int .i64 Es[posE x Es].2]) := by rw [eds_get, List.getElem?_eq_getElem q]; rfl
  have g2 : ∀ p, (eds Es)[posE x Es]'p = .agg [.int .i64 Es[posE x Es].1, .int .i64 Es[posE x Es].2] := fun p => edsAt ..
  have o := order_run Es[posE x Es] x
  refine ⟨decide (ordI Es[posE x Es] x = 0), ?_⟩
  generalize ordI Es[posE x Es] x = z at *
  generalize Es[posE x Es] = e at *
  obtain ⟨xa, xb⟩ := x
  simp only at o lp
  generalize posE (xa, xb) Es = k at *
  generalize eds Es = Y at *
  by_cases z0 : z = 0
  ·simp [rQa5X0, rQa5X1, rQa5X2, rQa5X3, rQa5X4, rQa5X5, rQa5X6, rQa5X7, rQa5X8, lp, q, qn, g1, g2, g5, o, z0, idx, sQF, iQF, blk, plp, plpL, allB, notBox, swC, swS, seesC, inBox, plL, pl, endL, finB, finS]
  ·simp [rQa5X0, rQa5X1, rQa5X2, rQa5X3, rQa5X4, rQa5X5, rQa5X6, rQa5X7, rQa5X8, lp, q, qn, g1, g2, g5, o, z0, idx, sQF, iQF, blk, plp, plpL, allB, notBox, swC, swS, seesC, inBox, plL, pl, endL, finB, finS]
 ·have qn : ¬ (posE x Es : Int) < Es.length := by omega
  refine ⟨false, ?_⟩
  obtain ⟨xa, xb⟩ := x
  simp only at lp
  generalize posE (xa, xb) Es = k at *
  generalize eds Es = Y at *
  simp [rQa5X0, rQa5X1, rQa5X2, rQa5X3, rQa5X4, rQa5X5, rQa5X6, rQa5X7, rQa5X8, lp, q, qn, g5, idx, sQF, iQF, blk, plp, plpL, allB, notBox, swC, swS, seesC, inBox, plL, pl, endL, finB, finS]
theorem place_run (N : Int) (Es : List Ed) (hE : Es.length < 1000000) (hU : UpE Es) (u v : Int) : callL cfgS nQY [.agg [.int .i64 N, .list 2 (eds Es)], .int .i64 u, .int .i64 v] [] = some (.tup [.int .i64 (posE (nrmE u v) Es), .bool (decide (nrmE u v ∈ Es))], []) := by
 have ge := gedge_run u v
 have pm := pos_mem (x := nrmE u v) hU
 generalize nrmE u v = x at *
 obtain ⟨b, bs⟩ := bs_run x Es hE hU
 have g5 := eds_length Es
 rw [callL_end oQY sQY (Nat.le_of_ble_eq_true rfl)]
 unfold qQY cQY
 by_cases q : posE x Es < Es.length
 ·have qn : (posE x Es : Int) < Es.length := by omega
  have g1 : (eds Es)[posE x Es]? = some (.agg [.int .i64 Es[posE x Es].1, .int .i64 Es[posE x Es].2]) := by rw [eds_get, List.getElem?_eq_getElem q]; rfl
  have g2 : ∀ p, (eds Es)[posE x Es]'p = .agg [.int .i64 Es[posE x Es].1, .int .i64 Es[posE x Es].2] := fun p => edsAt ..
  rw [List.getElem?_eq_getElem q] at pm
  have pm2 : (x ∈ Es) ↔ Es[posE x Es].1 = x.1 /\ Es[posE x Es].2 = x.2 := by rw [pm, Option.some.injEq, Prod.ext_iff]
  clear pm
  have pm3 : decide (x ∈ Es) = decide (Es[posE x Es].1 = x.1 /\ Es[posE x Es].2 = x.2) := decide_eq_decide.2 pm2
  rw [pm3]
  clear pm2 pm3
  generalize Es[posE x Es] = e at *
  obtain ⟨xa, xb⟩ := x
  simp only at bs ge ⊢
  generalize posE (xa, xb) Es = k at *
  generalize eds Es = Y at *
  obtain ⟨ea, eb⟩ := e
  simp only at g1 g2 ⊢
  by_cases z0 : ea = xa
  ·by_cases z1 : eb = xb
   ·simp [rQYX0, rQYX1, rQYX2, rQYX3, bs, ge, q, qn, g1, g2, g5, z0, z1, eqA, eqc, idx, sQa4, iQa4, sQa5, iQa5, blk, plp, plpL, allB, notBox, swC, swS, seesC, inBox, plL, pl, endL, finB, finS]
   ·simp [rQYX0, rQYX1, rQYX2, rQYX3, bs, ge, q, qn, g1, g2, g5, z0, z1, eqA, eqc, idx, sQa4, iQa4, sQa5, iQa5, blk, plp, plpL, allB, notBox, swC, swS, seesC, inBox, plL, pl, endL, finB, finS]
  ·simp [rQYX0, rQYX1, rQYX2, rQYX3, bs, ge, q, qn, g1, g2, g5, z0, eqA, eqc, idx, sQa4, iQa4, sQa5, iQa5, blk, plp, plpL, allB, notBox, swC, swS, seesC, inBox, plL, pl, endL, finB, finS]
 ·have qn : ¬ (posE x Es : Int) < Es.length := by omega
  rw [List.getElem?_eq_none (by omega)] at pm
  have pm2 : ¬ x ∈ Es := fun h => by have := pm.1 h; cases this
  rw [decide_eq_false pm2]
  clear pm pm2
  obtain ⟨xa, xb⟩ := x
  simp only at bs ge ⊢
  generalize posE (xa, xb) Es = k at *
  generalize eds Es = Y at *
  simp [rQYX0, rQYX1, rQYX2, rQYX3, bs, ge, q, qn, g5, eqA, eqc, idx, sQa4, iQa4, sQa5, iQa5, blk, plp, plpL, allB, notBox, swC, swS, seesC, inBox, plL, pl, endL, finB, finS]
def EndsOK (N u v : Int) : Prop := u ≠ v /\ (0 <= u /\ u < N) /\ 0 <= v /\ v < N
instance (N u v : Int) : Decidable (EndsOK N u v) := by unfold EndsOK; infer_instance
end Go.BmP
