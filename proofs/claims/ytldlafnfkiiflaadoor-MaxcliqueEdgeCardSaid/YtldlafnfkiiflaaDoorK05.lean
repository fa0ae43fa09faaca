/- What functions of cohesionref03 return: Of, Check, Find. -/
import Derived.Test.YtldlafnfkiiflaaDoorUseM
import Derived.Test.YtldlafnfkiiflaaDoorK03
import Derived.Test.YtldlafnfkiiflaaDoorK04
set_option linter.unusedSimpArgs false
set_option linter.unusedVariables false
set_option maxRecDepth 100000
set_option maxHeartbeats 4000000
namespace Go.BmP
open Go.Am Go.Bm
def ofSt (n : Int) (l : List Ed) (E : AV) (i : Int) : St := ⟨[(0, .int .i64 n), (4, .ptr 0 0), (6, .ptr 1 0), (18, .list 2 (eds l)), (19, .int .i64 l.length), (20, .int .i64 i)], [some [.int .i64 0, .own 2 []], some [.int .i64 n, E]]⟩
def ofEnd (n : Int) (l : List Ed) (E : AV) : St := ⟨[(0, .int .i64 n), (4, .ptr 0 0), (6, .ptr 1 0), (18, .list 2 (eds l)), (19, .int .i64 l.length), (20, .int .i64 l.length), (21, .bool false)], [some [.int .i64 0, .own 2 []], some [.int .i64 n, E]]⟩
theorem of3_round (n : Int) (l : List Ed) (hl : l.length < 4294967295) (i : Nat) (hlt : i < l.length) (o : List Ed) (ho : o.length < 4294967295) (he : 0 <= l[i].1 /\ 0 <= l[i].2 /\ l[i].1 < n /\ l[i].2 < n /\ l[i].1 ≠ l[i].2) :
  codeL cfgS 0 lQnX0 (ofSt n l (.list 2 (eds o)) i) = some (.normal, ofSt n l (.list 2 (eds (putE (nrmE l[i].1 l[i].2) o))) ((i + 1 : Nat) : Int)) /\
  (o = [] -> codeL cfgS 0 lQnX0 (ofSt n l (.own 2 []) i) = some (.normal, ofSt n l (.list 2 (eds (putE (nrmE l[i].1 l[i].2) o))) ((i + 1 : Nat) : Int))) := by
 have h1 : (i : Int) < l.length := by omega
 have hw := wrapS (i := i) (by omega)
 have hn := ends_run n l[i].1 l[i].2
 have hg := edge_run l[i].1 l[i].2
 have hp := with_run (nrmE l[i].1 l[i].2) o ho
 rw [decide_eq_true he] at hn
 refine ⟨?_, fun e => ?_⟩
 ·unfold lQnX0
  simp only [ofSt]
  simp [rQnX0, rQnX1, rQnX2, rQnX3, rQnX4, rQnX5, rQnX6, rQnX7, rQnX8, rQnX9, rQnX10, rQnX11, h1, hlt, hw, hn, hg, hp, idx, sQs, iQs, sQu, iQu, sQy, iQy, blk, eds_length, eds_get, edsAt, edAV, allLeaf_eds, cleanL_eds, cleanL_ints, ints_length, ints_get, intsAt, endL, finB]
 ·subst e
  rw [eds_nil] at hp
  unfold lQnX0
  simp only [ofSt]
  simp [rQnX0, rQnX1, rQnX2, rQnX3, rQnX4, rQnX5, rQnX6, rQnX7, rQnX8, rQnX9, rQnX10, rQnX11, h1, hlt, hw, hn, hg, hp, idx, sQs, iQs, sQu, iQu, sQy, iQy, blk, eds_length, eds_get, edsAt, edAV, allLeaf_eds, cleanL_eds, cleanL_ints, ints_length, ints_get, intsAt, endL, finB]
theorem of3_end (n : Int) (l : List Ed) (E : AV) (hE : E = .own 2 [] \/ ∃ o, E = .list 2 (eds o)) : codeL cfgS 0 (.loop lQnX0) (ofSt n l E l.length) = some (.exit 0, ofEnd n l E) := by
 rcases hE with rfl | ⟨o, rfl⟩
 ·exact loop_exit (by unfold lQnX0; simp only [ofSt, ofEnd]; simp [rQnX0, rQnX1, rQnX2, rQnX3, rQnX4, rQnX5, rQnX6, rQnX7, rQnX8, rQnX9, rQnX10, rQnX11, blk, eds_length, eds_get, edsAt, edAV, allLeaf_eds, cleanL_eds, cleanL_ints, ints_length, ints_get, intsAt, endL, finB])
 ·exact loop_exit (by unfold lQnX0; simp only [ofSt, ofEnd]; simp [rQnX0, rQnX1, rQnX2, rQnX3, rQnX4, rQnX5, rQnX6, rQnX7, rQnX8, rQnX9, rQnX10, rQnX11, blk, eds_length, eds_get, edsAt, edAV, allLeaf_eds, cleanL_eds, cleanL_ints, ints_length, ints_get, intsAt, endL, finB])
theorem of3_loop (n : Int) (l : List Ed) (hl : l.length < 4294967295) (he : ∀ e ∈ l, 0 <= e.1 /\ 0 <= e.2 /\ e.1 < n /\ e.2 < n /\ e.1 ≠ e.2) : ∀ (k i : Nat) (o : List Ed), i + k = l.length -> o.length <= i -> codeL cfgS 0 (.loop lQnX0) (ofSt n l (.list 2 (eds o)) i) = some (.exit 0, ofEnd n l (.list 2 (eds (ofE (l.drop i) o))))
 | 0, i, o, hi, ho => by
   obtain rfl : i = l.length := by omega
   rw [List.drop_length]
   exact of3_end n l _ (.inr ⟨o, rfl⟩)
 | k + 1, i, o, hi, ho => by
   have hlt : i < l.length := by omega
   have hp := putE_len (nrmE l[i].1 l[i].2) o
   have ih := of3_loop n l hl he k (i + 1) (putE (nrmE l[i].1 l[i].2) o) (by omega) (by omega)
   rw [List.drop_eq_getElem_cons hlt]
   exact (loop_next (of3_round n l hl i hlt o (by omega) (he _ (List.getElem_mem hlt))).1).trans ih
theorem of3_loop0 (n : Int) (l : List Ed) (hl : l.length < 4294967295) (he : ∀ e ∈ l, 0 <= e.1 /\ 0 <= e.2 /\ e.1 < n /\ e.2 < n /\ e.1 ≠ e.2) : codeL cfgS 0 (.loop lQnX0) (ofSt n l (.own 2 []) 0) = some (.exit 0, ofEnd n l (if l = [] then .own 2 [] else .list 2 (eds (ofE l [])))) := by
 cases l with
 | nil => rw [if_pos rfl]; exact of3_end n [] _ (.inl rfl)
 | cons a r =>
   rw [if_neg (by simp)]
   have h0 : 0 < (a :: r).length := by simp
   have hp := putE_len (nrmE a.1 a.2) []
   have ih := of3_loop n (a :: r) hl he r.length 1 (putE (nrmE a.1 a.2) []) (by simp; omega) (by simpa using hp)
   exact (loop_next ((of3_round n (a :: r) hl 0 h0 [] (by simp) (he _ (List.getElem_mem h0))).2 rfl)).trans ih
theorem of3_run (n : Int) (l : List Ed) (hl : l.length < 4294967295) (hn : 0 <= n /\ n <= 64) (he : ∀ e ∈ l, 0 <= e.1 /\ 0 <= e.2 /\ e.1 < n /\ e.2 < n /\ e.1 ≠ e.2) : callL cfgS nQn [.int .i64 n, .list 2 (eds l)] [] = some (.tup [.agg [.int .i64 n, .list 2 (eds (ofE l []))], .int .i64 0], []) := by
 rw [callL_end oQn sQn (Nat.le_of_ble_eq_true rfl)]
 have h := of3_loop0 n l hl he
 have a1 : ¬ n < 0 := by omega
 have a2 : ¬ 64 < n := by omega
 unfold qQn cQn
 by_cases hx : l = []
 ·subst hx
  rw [if_pos rfl] at h
  simp only [ofSt, ofEnd, eds_nil, List.length_nil, nat0] at h
  simp [rQnX0, rQnX1, rQnX2, rQnX3, rQnX4, rQnX5, rQnX6, rQnX7, rQnX8, rQnX9, rQnX10, rQnX11, h, a1, a2, eds_nil, blk, eds_length, eds_get, edsAt, edAV, allLeaf_eds, cleanL_eds, cleanL_ints, ints_length, ints_get, intsAt, endL, finB]
  rfl
 ·rw [if_neg hx] at h
  simp only [ofSt, ofEnd] at h
  simp [rQnX0, rQnX1, rQnX2, rQnX3, rQnX4, rQnX5, rQnX6, rQnX7, rQnX8, rQnX9, rQnX10, rQnX11, h, a1, a2, blk, eds_length, eds_get, edsAt, edAV, allLeaf_eds, cleanL_eds, cleanL_ints, ints_length, ints_get, intsAt, endL, finB]
theorem rchk_loop (m : Int) (l : List Ed) (hl : l.length < 4294967297) : ∀ n i : Nat, i + n = l.length -> codeL cfgS 0 (.loop lQrX0) ⟨[(1, .ptr 0 0), (14, .list 2 (eds l)), (15, .int .i64 l.length), (16, .int .i64 i)], [some [.int .i64 m, .list 2 (eds l)]]⟩ =
  if chkGo m (prevE l i) (l.drop i) = 0 then some (.exit 0, ⟨[(1, .ptr 0 0), (14, .list 2 (eds l)), (15, .int .i64 l.length), (16, .int .i64 l.length), (17, .bool false)], [some [.int .i64 m, .list 2 (eds l)]]⟩) else some (.ret, ⟨[(2, .int .i64 (chkGo m (prevE l i) (l.drop i)))], []⟩)
 | 0, i, hi => by
   have e : i = l.length := by omega
   subst e
   rw [List.drop_length]
   exact loop_exit (by unfold lQrX0; simp [rQrX0, rQrX1, rQrX2, rQrX3, rQrX4, rQrX5, rQrX6, rQrX7, rQrX8, rQrX9, rQrX10, rQrX11, blk, eds_length, eds_get, edsAt, edAV, allLeaf_eds, cleanL_eds, cleanL_ints, ints_length, ints_get, intsAt, endL, finB])
 | n + 1, i, hi => by
   have hlt : i < l.length := by omega
   have h1 : (i : Int) < l.length := by omega
   have ih := rchk_loop m l hl n (i + 1) (by omega)
   have hw := wrapS (i := i) (by omega)
   rw [prevE_succ l i hlt] at ih
   rw [List.drop_eq_getElem_cons hlt]
   by_cases ha : l[i].1 < 0
   ·have e : chkGo m (prevE l i) (l[i] :: l.drop (i + 1)) = 6 := by unfold chkGo; rw [if_pos (.inl ha)]
    rw [e]
    exact loop_ret (by unfold lQrX0; simp [rQrX0, rQrX1, rQrX2, rQrX3, rQrX4, rQrX5, rQrX6, rQrX7, rQrX8, rQrX9, rQrX10, rQrX11, h1, hlt, ha, idx, blk, eds_length, eds_get, edsAt, edAV, allLeaf_eds, cleanL_eds, cleanL_ints, ints_length, ints_get, intsAt, endL, finB])
   by_cases hb : l[i].2 <= l[i].1
   ·have e : chkGo m (prevE l i) (l[i] :: l.drop (i + 1)) = 6 := by unfold chkGo; rw [if_pos (.inr (.inl hb))]
    rw [e]
    exact loop_ret (by unfold lQrX0; simp [rQrX0, rQrX1, rQrX2, rQrX3, rQrX4, rQrX5, rQrX6, rQrX7, rQrX8, rQrX9, rQrX10, rQrX11, h1, hlt, ha, hb, idx, blk, eds_length, eds_get, edsAt, edAV, allLeaf_eds, cleanL_eds, cleanL_ints, ints_length, ints_get, intsAt, endL, finB])
   by_cases hc : m <= l[i].2
   ·have e : chkGo m (prevE l i) (l[i] :: l.drop (i + 1)) = 6 := by unfold chkGo; rw [if_pos (.inr (.inr hc))]
    rw [e]
    exact loop_ret (by unfold lQrX0; simp [rQrX0, rQrX1, rQrX2, rQrX3, rQrX4, rQrX5, rQrX6, rQrX7, rQrX8, rQrX9, rQrX10, rQrX11, h1, hlt, ha, hb, hc, idx, blk, eds_length, eds_get, edsAt, edAV, allLeaf_eds, cleanL_eds, cleanL_ints, ints_length, ints_get, intsAt, endL, finB])
   have hn : ¬ (l[i].1 < 0 \/ l[i].2 <= l[i].1 \/ m <= l[i].2) := by omega
   cases i with
   | zero =>
     have e : chkGo m (prevE l 0) (l[0] :: l.drop (0 + 1)) = chkGo m (some l[0]) (l.drop (0 + 1)) := by
      conv => lhs; unfold chkGo
      rw [if_neg hn, prevE_zero, if_neg (show ¬ badP none l[0] from fun h => h)]
     rw [e]
     exact (loop_next (by unfold lQrX0; simp [rQrX0, rQrX1, rQrX2, rQrX3, rQrX4, rQrX5, rQrX6, rQrX7, rQrX8, rQrX9, rQrX10, rQrX11, h1, hlt, ha, hb, hc, hw, idx, blk, eds_length, eds_get, edsAt, edAV, allLeaf_eds, cleanL_eds, cleanL_ints, ints_length, ints_get, intsAt, endL, finB])).trans ih
   | succ j =>
     have hj : j < l.length := by omega
     have hj1 : (j : Int) < l.length := by omega
     have hp : (0 : Int) < (j : Int) + 1 := by omega
     have hp0 : (0 : Int) <= (j : Int) + 1 := by omega
     have hw2 := wrapN (i := j) (by omega)
     have h1 : (j : Int) + 1 < l.length := by omega
     have hw : IntKind.i64.wrap ((j : Int) + 1 + 1) = (j : Int) + 1 + 1 := wrapZ (j := j + 1 + 1) rfl (by omega)
     have ho := before_run l[j] l[j + 1]
     by_cases hd : ltE l[j] l[j + 1]
     ·have e : chkGo m (prevE l (j + 1)) (l[j + 1] :: l.drop (j + 1 + 1)) = chkGo m (some l[j + 1]) (l.drop (j + 1 + 1)) := by
       conv => lhs; unfold chkGo
       rw [if_neg hn, prevE_succ l j hj, if_neg (show ¬ badP (some l[j]) l[j + 1] from fun k => k hd)]
      rw [e]
      exact (loop_next (by unfold lQrX0; simp [rQrX0, rQrX1, rQrX2, rQrX3, rQrX4, rQrX5, rQrX6, rQrX7, rQrX8, rQrX9, rQrX10, rQrX11, h1, hlt, ha, hb, hc, hj, hj1, hp, hp0, hw, hw2, ho, hd, idx, sQA, iQA, blk, eds_length, eds_get, edsAt, edAV, allLeaf_eds, cleanL_eds, cleanL_ints, ints_length, ints_get, intsAt, endL, finB])).trans ih
     ·have e : chkGo m (prevE l (j + 1)) (l[j + 1] :: l.drop (j + 1 + 1)) = 5 := by
       unfold chkGo
       rw [if_neg hn, prevE_succ l j hj, if_pos (show badP (some l[j]) l[j + 1] from hd)]
      rw [e]
      exact loop_ret (by unfold lQrX0; simp [rQrX0, rQrX1, rQrX2, rQrX3, rQrX4, rQrX5, rQrX6, rQrX7, rQrX8, rQrX9, rQrX10, rQrX11, h1, hlt, ha, hb, hc, hj, hj1, hp, hp0, hw2, ho, hd, idx, sQA, iQA, blk, eds_length, eds_get, edsAt, edAV, allLeaf_eds, cleanL_eds, cleanL_ints, ints_length, ints_get, intsAt, endL, finB])
theorem rchk_run (m : Int) (l : List Ed) (hl : l.length < 4294967297) : callL cfgS nQr [.agg [.int .i64 m, .list 2 (eds l)]] [] = some (.int .i64 (chkG m l), []) := by
 rw [callL_end oQr sQr (Nat.le_of_ble_eq_true rfl)]
 have h := rchk_loop m l hl l.length 0 (by omega)
 rw [nat0, List.drop_zero, prevE_zero] at h
 unfold qQr cQr chkG
 by_cases ha : m < 0
 ·simp [rQrX0, rQrX1, rQrX2, rQrX3, rQrX4, rQrX5, rQrX6, rQrX7, rQrX8, rQrX9, rQrX10, rQrX11, ha, blk, eds_length, eds_get, edsAt, edAV, allLeaf_eds, cleanL_eds, cleanL_ints, ints_length, ints_get, intsAt, endL, finB]
 by_cases hb : 64 < m
 ·simp [rQrX0, rQrX1, rQrX2, rQrX3, rQrX4, rQrX5, rQrX6, rQrX7, rQrX8, rQrX9, rQrX10, rQrX11, ha, hb, blk, eds_length, eds_get, edsAt, edAV, allLeaf_eds, cleanL_eds, cleanL_ints, ints_length, ints_get, intsAt, endL, finB]
 rw [if_neg (by omega)]
 by_cases hc : chkGo m none l = 0
 ·rw [if_pos hc] at h
  rw [hc]
  simp [rQrX0, rQrX1, rQrX2, rQrX3, rQrX4, rQrX5, rQrX6, rQrX7, rQrX8, rQrX9, rQrX10, rQrX11, ha, hb, h, blk, eds_length, eds_get, edsAt, edAV, allLeaf_eds, cleanL_eds, cleanL_ints, ints_length, ints_get, intsAt, endL, finB]
 ·rw [if_neg hc] at h
  simp [rQrX0, rQrX1, rQrX2, rQrX3, rQrX4, rQrX5, rQrX6, rQrX7, rQrX8, rQrX9, rQrX10, rQrX11, ha, hb, h, blk, eds_length, eds_get, edsAt, edAV, allLeaf_eds, cleanL_eds, cleanL_ints, ints_length, ints_get, intsAt, endL, finB]
theorem find_loop (x : Ed) (u v : Int) (hx : nrmE u v = x) (l : List Ed) (hl : l.length < 4294967297) : ∀ n i : Nat, i + n = l.length -> codeL cfgS 0 (.loop lQtX0) ⟨[(1, .int .i64 u), (2, .int .i64 v), (13, .list 2 (eds l)), (14, .int .i64 l.length), (15, .int .i64 i)], []⟩ =
  if x ∈ l.drop i then some (.ret, ⟨[(6, .int .i64 (i + (l.drop i).idxOf x : Nat))], []⟩) else some (.exit 0, ⟨[(1, .int .i64 u), (2, .int .i64 v), (13, .list 2 (eds l)), (14, .int .i64 l.length), (15, .int .i64 l.length), (16, .bool false)], []⟩)
 | 0, i, hi => by
   have e : i = l.length := by omega
   subst e
   rw [List.drop_length, if_neg (by simp)]
   exact loop_exit (by unfold lQtX0; simp [rQtX0, rQtX1, rQtX2, rQtX3, rQtX4, rQtX5, rQtX6, rQtX7, rQtX8, rQtX9, blk, eds_length, eds_get, edsAt, edAV, allLeaf_eds, cleanL_eds, cleanL_ints, ints_length, ints_get, intsAt, endL, finB])
 | n + 1, i, hi => by
   have hlt : i < l.length := by omega
   have h1 : (i : Int) < l.length := by omega
   have ih := find_loop x u v hx l hl n (i + 1) (by omega)
   have hw := wrapS (i := i) (by omega)
   have hg := edge_run u v
   rw [hx] at hg
   rw [List.drop_eq_getElem_cons hlt]
   by_cases he : l[i] = x
   ·have hx1 : l[i].1 = x.1 := by rw [he]
    have hx2 : l[i].2 = x.2 := by rw [he]
    rw [if_pos (by rw [he]; exact List.mem_cons_self), show (l[i] :: l.drop (i + 1)).idxOf x = 0 by rw [he]; exact List.idxOf_cons_self]
    exact loop_ret (by unfold lQtX0; simp [rQtX0, rQtX1, rQtX2, rQtX3, rQtX4, rQtX5, rQtX6, rQtX7, rQtX8, rQtX9, h1, hlt, hg, hx1, hx2, idx, sQu, iQu, blk, eds_length, eds_get, edsAt, edAV, allLeaf_eds, cleanL_eds, cleanL_ints, ints_length, ints_get, intsAt, endL, finB])
   ·have he2 : ¬ x = l[i] := fun e => he e.symm
    rw [show (l[i] :: l.drop (i + 1)).idxOf x = (l.drop (i + 1)).idxOf x + 1 by simp only [List.idxOf_cons]; rw [show (l[i] == x) = false by simpa using he]; rfl, show i + ((l.drop (i + 1)).idxOf x + 1) = i + 1 + (l.drop (i + 1)).idxOf x by omega]
    simp only [List.mem_cons, he2, false_or]
    by_cases hx1 : l[i].1 = x.1
    ·have hx2 : ¬ l[i].2 = x.2 := fun e => he (Prod.ext hx1 e)
     exact (loop_next (by unfold lQtX0; simp [rQtX0, rQtX1, rQtX2, rQtX3, rQtX4, rQtX5, rQtX6, rQtX7, rQtX8, rQtX9, h1, hlt, hg, hx1, hx2, hw, idx, sQu, iQu, blk, eds_length, eds_get, edsAt, edAV, allLeaf_eds, cleanL_eds, cleanL_ints, ints_length, ints_get, intsAt, endL, finB])).trans ih
    ·exact (loop_next (by unfold lQtX0; simp [rQtX0, rQtX1, rQtX2, rQtX3, rQtX4, rQtX5, rQtX6, rQtX7, rQtX8, rQtX9, h1, hlt, hg, hx1, hw, idx, sQu, iQu, blk, eds_length, eds_get, edsAt, edAV, allLeaf_eds, cleanL_eds, cleanL_ints, ints_length, ints_get, intsAt, endL, finB])).trans ih
theorem find_run (m : Int) (l : List Ed) (hl : l.length < 4294967297) (hG : GOK m l) (u v : Int) : callL cfgS nQt [.agg [.int .i64 m, .list 2 (eds l)], .int .i64 u, .int .i64 v] [] = some (.int .i64 (if nrmE u v ∈ l then (l.idxOf (nrmE u v) : Int) else -1), []) := by
 rw [callL_end oQt sQt (Nat.le_of_ble_eq_true rfl)]
 have hc := rchk_run m l hl
 rw [chkG_zero.2 hG] at hc
 have h := find_loop (nrmE u v) u v rfl l hl l.length 0 (by omega)
 rw [nat0, List.drop_zero, Nat.zero_add] at h
 unfold qQt cQt
 by_cases hx : nrmE u v ∈ l
 ·rw [if_pos hx] at h
  simp [rQtX0, rQtX1, rQtX2, rQtX3, rQtX4, rQtX5, rQtX6, rQtX7, rQtX8, rQtX9, h, hc, hx, sQr, iQr, blk, eds_length, eds_get, edsAt, edAV, allLeaf_eds, cleanL_eds, cleanL_ints, ints_length, ints_get, intsAt, endL, finB]
 ·rw [if_neg hx] at h
  simp [rQtX0, rQtX1, rQtX2, rQtX3, rQtX4, rQtX5, rQtX6, rQtX7, rQtX8, rQtX9, h, hc, hx, sQr, iQr, blk, eds_length, eds_get, edsAt, edAV, allLeaf_eds, cleanL_eds, cleanL_ints, ints_length, ints_get, intsAt, endL, finB]
end Go.BmP
