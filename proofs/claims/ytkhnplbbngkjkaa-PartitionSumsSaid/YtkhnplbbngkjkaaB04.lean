/- Plain law: loads add up; with one worker, or with no edges, all nodes are worker 0's. -/
import Derived.Test.YtkhnplbbngkjkaaMkV
import Derived.Test.YtkhnplbbngkjkaaB02
set_option linter.unusedSimpArgs false
set_option linter.unusedVariables false
namespace Go.BmP
open Go.Am Go.Bm
theorem set_sum : ∀ (l : List Int) (i : Nat) (h : i < l.length), (l.set i (l.getD i 0 + 1)).sum = l.sum + 1
 | [], i, h => by simp at h
 | x :: r, 0, h => by simp; omega
 | x :: r, i + 1, h => by
   have ih := set_sum r i (by simpa using h)
   simp only [List.set_cons_succ, List.sum_cons, List.getD_cons_succ] at ih ⊢
   omega
theorem bump_sum (n : List Int) (x : Int) (h : 0 <= x /\ x < (n.length : Int)) : (bump n x).sum = n.sum + 1 := set_sum n x.toNat (by omega)
theorem bumps_sum : ∀ (S n : List Int), (∀ x ∈ S, 0 <= x /\ x < (n.length : Int)) -> (S.foldl bump n).sum = n.sum + S.length
 | [], n, _ => by simp
 | x :: r, n, h => by
   rw [List.foldl_cons, bumps_sum r (bump n x) (fun y hy => by rw [bump_length]; exact h y (by simp [hy])), bump_sum n x (h x (by simp))]
   simp only [List.length_cons]; omega
theorem rep_sum (w : Nat) : (List.replicate w (0 : Int)).sum = 0 := by
 induction w with
 | zero => rfl
 | succ n ih => rw [List.replicate_succ, List.sum_cons, ih]; rfl
theorem hmE_bd {N w : Nat} (h0 : 1 <= w) {Es : List Ed} (hG : GOK (N : Int) Es) {o hv : List Int} (ho : o.length = N) (hb : ∀ x ∈ o, 0 <= x /\ x < (w : Int)) {e : Ed} (he : e ∈ Es) : 0 <= hmE w o hv e /\ hmE w o hv e < (w : Int) := by
 have := hG.2.2 e he
 exact hmV_bd h0 hb (by omega) (by omega)
theorem ldV_sum {N w : Nat} (h0 : 1 <= w) {Es : List Ed} (hG : GOK (N : Int) Es) {o hv : List Int} (ho : o.length = N) (hb : ∀ x ∈ o, 0 <= x /\ x < (w : Int)) : (ldV w o hv Es).sum = Es.length := by
 unfold ldV
 rw [bumps_sum, rep_sum, List.length_map, Int.zero_add]
 intro x hx
 obtain ⟨e, he, rfl⟩ := List.mem_map.1 hx
 rw [List.length_replicate]
 exact hmE_bd h0 hG ho hb he
theorem ldV_len (w : Nat) (o hv : List Int) (Es : List Ed) : (ldV w o hv Es).length = w := by rw [ldV, bumps_length, List.length_replicate]
theorem ldV_bd {w : Nat} (o hv : List Int) (Es : List Ed) : ∀ x ∈ ldV w o hv Es, 0 <= x /\ x <= (Es.length : Int) := by
 intro x hx
 have := bumps_bd (Es.map (hmE w o hv)) (List.replicate w 0) 0 (by omega) (fun y hy => by have := List.eq_of_mem_replicate hy; omega) x hx
 rw [List.length_map] at this
 omega
theorem lcE_one {N : Nat} {Es : List Ed} (hG : GOK (N : Int) Es) {o hv : List Int} (ho : o.length = N) (hb : ∀ x ∈ o, 0 <= x /\ x < 1) : lcE 1 o hv 0 Es = Es := by
 unfold lcE
 rw [List.filter_eq_self]
 intro e he
 have := hmE_bd (w := 1) (hv := hv) (Nat.le_refl _) hG ho (by simpa using hb) he
 rw [decide_eq_true_eq]; omega
theorem ghL_one {N : Nat} {Es : List Ed} (hG : GOK (N : Int) Es) {o hv : List Int} (ho : o.length = N) (hb : ∀ x ∈ o, 0 <= x /\ x < 1) : ghL 1 o hv 0 Es = [] := by
 unfold ghL
 have e : ((endsL (lcE 1 o hv ((0 : Nat) : Int) Es)).filter fun z => !ownsB o ((0 : Nat) : Int) z) = [] := by
  rw [List.filter_eq_nil_iff]
  intro z hz
  obtain ⟨e, he, q⟩ := endsL_mem.1 hz
  have := hG.2.2 e (lcE_sub he)
  have hz2 : z.toNat < o.length := by rcases q with rfl | rfl <;> omega
  have : o.getD z.toNat 0 ∈ o := by rw [List.getD_eq_getElem?_getD, List.getElem?_eq_getElem hz2]; exact List.getElem_mem hz2
  have := hb _ this
  have e0 : o.getD z.toNat 0 = ((0 : Nat) : Int) := by omega
  have ow : ownsB o ((0 : Nat) : Int) z = true := decide_eq_true e0
  rw [ow]; simp
 rw [e]; rfl
theorem upS_snd (x m : Int × Int) (s : List (Int × Int)) : (upS x m s).map Prod.snd = s.map Prod.snd := by
 unfold upS
 rw [List.map_map]
 apply List.map_congr_left
 intro y _
 simp only [Function.comp]
 split <;> rfl
theorem fold_bd {N w : Nat} (hw : 1 <= w) : ∀ (l : List (Int × Int)) (p : List Int × List (Int × Int)), p.1.length = N -> (∀ x ∈ p.1, 0 <= x /\ x < (w : Int)) -> p.2.map Prod.snd = (List.range w).map (fun k => ((k : Nat) : Int)) -> (l.foldl mkS p).1.length = N /\ ∀ x ∈ (l.foldl mkS p).1, 0 <= x /\ x < (w : Int)
 | [], p, h1, h2, _ => ⟨h1, h2⟩
 | x :: r, p, h1, h2, h3 => by
   rw [List.foldl_cons]
   have ne : p.2 ≠ [] := fun e => by
    rw [e] at h3
    have := congrArg List.length h3
    simp at this; omega
   refine fold_bd hw r (mkS p x) (by rw [mkS, List.length_set]; exact h1) (fun y hy => ?_) (by rw [mkS]; simp only; rw [upS_snd]; exact h3)
   rcases List.mem_or_eq_of_mem_set hy with q | q
   ·exact h2 y q
   ·subst q
    have m : (lst p.2).2 ∈ p.2.map Prod.snd := List.mem_map.2 ⟨_, (lst_spec ne).1, rfl⟩
    rw [h3] at m
    obtain ⟨k, hk, e⟩ := List.mem_map.1 m
    have := List.mem_range.1 hk
    omega
theorem mkR_bd {D : List Int} {N w : Nat} (hw : 1 <= w) : (mkR D N w).1.length = N /\ ∀ x ∈ (mkR D N w).1, 0 <= x /\ x < (w : Int) :=
 fold_bd hw _ _ (by simp) (fun x hx => by have := List.eq_of_mem_replicate hx; omega) (by simp [sum0])
theorem min_zero : ∀ (l : List Nat), (l.map fun j => ((0 : Int), ((j : Nat) : Int))).foldl minStep (0, 0) = (0, 0)
 | [] => rfl
 | j :: r => by
   rw [List.map_cons, List.foldl_cons]
   have h1 := cmpI_lt 0 0
   have h2 := cmpI_lt ((j : Nat) : Int) 0
   have e : minStep (0, 0) (0, ((j : Nat) : Int)) = (0, 0) := by
    unfold minStep cfM
    simp only
    rw [if_pos (h1.2.2 rfl), if_neg]
    intro k
    have := h2.1.1 k
    omega
   rw [e]; exact min_zero r
theorem lst_sum0 {w : Nat} (hw : 1 <= w) : lst (sum0 w) = (0, 0) := by
 obtain ⟨n, rfl⟩ : ∃ n, w = n + 1 := ⟨w - 1, by omega⟩
 unfold sum0
 rw [List.range_succ_eq_map, List.map_cons, List.map_map]
 have e : (fun j => ((0 : Int), ((j : Nat) : Int))) ∘ Nat.succ = fun j => ((0 : Int), ((j + 1 : Nat) : Int)) := rfl
 rw [e]
 have := min_zero ((List.range n).map (· + 1))
 rw [List.map_map] at this
 exact this
theorem upS_zero (m : Int × Int) (v : Int) (s : List (Int × Int)) : upS (0, v) m s = s := by
 unfold upS
 conv => rhs; rw [<- List.map_id s]
 apply List.map_congr_left
 intro y _
 simp only [Int.add_zero, id]
 split <;> rfl
theorem set_rep (N : Nat) (i : Nat) : (List.replicate N (0 : Int)).set i 0 = List.replicate N 0 := by
 apply List.ext_getElem?
 intro j
 rw [List.getElem?_set]
 split
 ·rename_i e; subst e
  by_cases h : i < N
  ·simp [h]
  ·simp [h]
 ·rfl
theorem fold_zero {N w : Nat} (hw : 1 <= w) : ∀ (l : List (Int × Int)), (∀ x ∈ l, x.1 = 0) -> l.foldl mkS (List.replicate N 0, sum0 w) = (List.replicate N 0, sum0 w)
 | [], _ => rfl
 | x :: r, h => by
   obtain ⟨a, b⟩ := x
   have ha : a = 0 := h (a, b) (by simp)
   subst ha
   have e : mkS (List.replicate N 0, sum0 w) (0, b) = (List.replicate N 0, sum0 w) := by
    unfold mkS
    simp only
    rw [lst_sum0 hw, upS_zero, set_rep]
   rw [List.foldl_cons, e]
   exact fold_zero hw r fun y hy => h y (by simp [hy])
theorem mkR_zero {D : List Int} {N w : Nat} (hw : 1 <= w) (hD : ∀ v, D.getD v 0 = 0) : (mkR D N w).1 = List.replicate N 0 := by
 unfold mkR
 rw [fold_zero hw]
 intro x hx
 have := (isortC_perm cfP (nd D N)).mem_iff.1 hx
 unfold nd at this
 obtain ⟨i, _, rfl⟩ := List.mem_map.1 this
 exact hD i
theorem hvL_zero {D : List Int} {N : Nat} (hD : ∀ v, D.getD v 0 = 0) : hvL D 1 N = [] := by
 unfold hvL
 have : ((List.range N).filter fun v => decide (1 <= D.getD v 0)) = [] := by
  rw [List.filter_eq_nil_iff]
  intro v _
  rw [hD v]
  decide
 rw [this]; rfl
theorem pc9_zero : pc9 0 = 0 := by decide
theorem dg_zero (N : Nat) : ∀ v, (dgL (adjE N [])).getD v 0 = 0 := by
 intro v
 have e : adjE N [] = List.replicate N 0 := rfl
 rw [e]
 unfold dgL
 rw [List.map_replicate, pc9_zero, List.getD_eq_getElem?_getD, List.getElem?_replicate]
 split <;> rfl
theorem hvL_val (D : List Int) (h : Int) (N : Nat) : valGo (N : Int) (-1) (hvL D h N) = true := by
 rw [valGo_iff]
 constructor
 ·unfold hvL
  refine List.Pairwise.map _ (fun a b h => ?_) ((List.pairwise_lt_range (n := N)).filter _)
  show (a : Int) < b
  omega
 ·intro x hx
  unfold hvL at hx
  obtain ⟨v, hv, rfl⟩ := List.mem_map.1 hx
  have := List.mem_range.1 (List.mem_filter.1 hv).1
  omega
end Go.BmP
