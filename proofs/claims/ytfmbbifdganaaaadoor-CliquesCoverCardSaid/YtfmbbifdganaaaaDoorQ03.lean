/- The law of covers returns true. -/
import Derived.Test.YtfmbbifdganaaaaDoorUseM
import Derived.Test.YtfmbbifdganaaaaDoorQ02
set_option linter.unusedSimpArgs false
set_option linter.unusedVariables false
set_option maxRecDepth 100000
set_option maxHeartbeats 4000000
namespace Go.BmP
open Go.Am Go.Bm
def cov3 (a : Heap) (A D : List (List Int)) (s x : List Int) (f : Bool) (j q : Nat) (J : Env) : St := ⟨(6, .ptr 1 0) :: (7, .list 1 (lls A)) :: (18, .list 1 (ints s)) :: (19, .list 1 (ints x)) :: (20, .int .i64 0) :: (21, .bool f) :: (115, .own 1 (lls D)) :: (116, .int .i64 D.length) :: (117, .int .i64 q) :: (136, .list 1 (lls A)) :: (137, .int .i64 A.length) :: (138, .int .i64 j) :: J, a⟩
section
attribute [local simp] frzLab
theorem cov3_round (l : List Int) (a N : Nat) (Es : List Ed) (A D : List (List Int)) (s x : List Int) (f : Bool) (j q : Nat) (hA : A.length <= 4096) (hx : x.length <= 64) (hj : j < A.length) (hb : A[j].length <= 64) : codeL cfgS 0 lQaX3 (cov3 [dk l a, gb N Es] A D s x f j q []) = some (.normal, cov3 [dk l a, gb N Es] A D s x (f || decide (x = A[j])) (j + 1) q []) := by
 have h1 : (j : Int) < A.length := by omega
 have hw := wrapS (i := j) (by omega)
 have i1 := idx_lt (k := .i64) (i := (j : Int)) (n := A.length) (by omega) h1
 have g1 : ∀ h, (lls A)[j]'h = AV.list 1 (ints A[j]) := fun h => llsAt ..
 have g2 := lls_length A
 have g3 : (lls A)[j]? = some (.list 1 (ints A[j])) := by rw [lls_get, List.getElem?_eq_getElem hj]; rfl
 have cm := cmp_run x A[j] (by omega) (by omega)
 have cz : (cmpL x A[j] = 0) = (x = A[j]) := propext cmpL_zero
 have hj1 : ((j + 1 : Nat) : Int) = (j : Int) + 1 := rfl
 unfold cov3 lQaX3 dk gb
 rw [hj1] at hw ⊢
 generalize eds Es = YE at *
 generalize lls D = XD at *
 cases f with
 | true =>
   generalize lls A = XA at *
   simp [rQaX0, rQaX1, rQaX2, rQaX3, rQaX4, rQaX5, rQaX6, rQaX7, rQaX8, rQaX9, rQaX10, rQaX11, rQaX12, rQaX13, rQaX14, rQaX15, rQaX16, rQaX17, rQaX18, rQaX19, rQaX20, rQaX21, rQaX22, rQaX23, rQaX24, rQaX25, rQaX26, rQaX27, rQaX28, rQaX29, rQaX30, rQaX31, rQaX32, rQaX33, rQaX34, rQaX35, rQaX36, rQaX37, rQaX38, rQaX39, rQaX40, h1, hj, hw, i1, g1, g2, g3, blk, eds_length, eds_get, edsAt, edAV, allLeaf_eds, cleanL_eds, cleanL_ints, ints_length, ints_get, intsAt, endL, finB]
 | false =>
   generalize lls A = XA at *
   generalize A[j] = U at *
   simp [rQaX0, rQaX1, rQaX2, rQaX3, rQaX4, rQaX5, rQaX6, rQaX7, rQaX8, rQaX9, rQaX10, rQaX11, rQaX12, rQaX13, rQaX14, rQaX15, rQaX16, rQaX17, rQaX18, rQaX19, rQaX20, rQaX21, rQaX22, rQaX23, rQaX24, rQaX25, rQaX26, rQaX27, rQaX28, rQaX29, rQaX30, rQaX31, rQaX32, rQaX33, rQaX34, rQaX35, rQaX36, rQaX37, rQaX38, rQaX39, rQaX40, h1, hj, hw, i1, g1, g2, g3, cm, cz, beqI, sQj, iQj, blk, eds_length, eds_get, edsAt, edAV, allLeaf_eds, cleanL_eds, cleanL_ints, ints_length, ints_get, intsAt, endL, finB]
theorem cov3_loop (l : List Int) (a N : Nat) (Es : List Ed) (A D : List (List Int)) (s x : List Int) (q : Nat) (hA : A.length <= 4096) (hx : x.length <= 64) (hb : ∀ S ∈ A, S.length <= 64) : ∀ (n j : Nat) (f : Bool), j + n = A.length -> codeL cfgS 0 (.loop lQaX3) (cov3 [dk l a, gb N Es] A D s x f j q []) = some (.exit 8, cov3 [dk l a, gb N Es] A D s x (f || decide (x ∈ A.drop j)) A.length q [(139, .bool false)])
 | 0, j, f, hi => by
   obtain rfl : j = A.length := by omega
   have e : (f || decide (x ∈ A.drop A.length)) = f := by simp
   rw [e]
   refine loop_exit ?_
   unfold cov3 lQaX3 dk gb
   have g2 := lls_length A
   generalize lls D = XD at *
   generalize lls A = XA at *
   simp [rQaX0, rQaX1, rQaX2, rQaX3, rQaX4, rQaX5, rQaX6, rQaX7, rQaX8, rQaX9, rQaX10, rQaX11, rQaX12, rQaX13, rQaX14, rQaX15, rQaX16, rQaX17, rQaX18, rQaX19, rQaX20, rQaX21, rQaX22, rQaX23, rQaX24, rQaX25, rQaX26, rQaX27, rQaX28, rQaX29, rQaX30, rQaX31, rQaX32, rQaX33, rQaX34, rQaX35, rQaX36, rQaX37, rQaX38, rQaX39, rQaX40, g2, blk, eds_length, eds_get, edsAt, edAV, allLeaf_eds, cleanL_eds, cleanL_ints, ints_length, ints_get, intsAt, endL, finB]
 | n + 1, j, f, hi => by
   have hlt : j < A.length := by omega
   refine (loop_next (cov3_round l a N Es A D s x f j q hA hx hlt (hb _ (List.getElem_mem hlt)))).trans ((cov3_loop l a N Es A D s x q hA hx hb n (j + 1) _ (by omega)).trans ?_)
   have e : (f || decide (x = A[j]) || decide (x ∈ A.drop (j + 1))) = (f || decide (x ∈ A.drop j)) := by
    rw [List.drop_eq_getElem_cons hlt, Bool.or_assoc, <- Bool.decide_or]
    congr 1
    rw [decide_eq_decide, List.mem_cons]
   rw [e]
end
def cov4 (l : List Int) (a N : Nat) (Es : List Ed) (A D : List (List Int)) (q : Nat) (J : Env) : St := ⟨(6, .ptr 1 0) :: (7, .list 1 (lls A)) :: (115, .own 1 (lls D)) :: (116, .int .i64 D.length) :: (117, .int .i64 q) :: J, [dk l a, gb N Es]⟩
section
attribute [local simp] frzLab
theorem cov4_round (l : List Int) (a : Nat) {N : Nat} {Es : List Ed} (hG : GOK (N : Int) Es) (hE : Es.length <= 10000) (A D : List (List Int)) (eA : A = mcl N Es) (hA : A.length <= 4096) (hb : ∀ S ∈ A, S.length <= 64) (q : Nat) (hq : q < D.length) (hD : D.length <= 100) (hs : D[q].length <= 64) : codeL cfgS 0 lQaX4 (cov4 l a N Es A D q []) = some (.normal, cov4 l a N Es A D (q + 1) []) := by
 have h1 : (q : Int) < D.length := by omega
 have hw := wrapS (i := q) (by omega)
 have i1 := idx_lt (k := .i64) (i := (q : Int)) (n := D.length) (by omega) h1
 have g1 : ∀ h, (lls D)[q]'h = AV.list 1 (ints D[q]) := fun h => llsAt ..
 have g2 := lls_length D
 have g3 : (lls D)[q]? = some (.list 1 (ints D[q])) := by rw [lls_get, List.getElem?_eq_getElem hq]; rfl
 have g4 := lls_length A
 have is := is_run hG (by omega) D[q] (by omega)
 have hj1 : ((q + 1 : Nat) : Int) = (q : Int) + 1 := rfl
 unfold cov4 lQaX4
 rw [hj1] at hw ⊢
 by_cases hN : N = 0
 ·have hN0 : (N : Int) = 0 := by omega
  unfold dk gb
  clear is
  generalize D[q] = s at *
  generalize eds Es = YE at *
  generalize lls D = XD at *
  generalize lls A = XA at *
  simp [rQaX0, rQaX1, rQaX2, rQaX3, rQaX4, rQaX5, rQaX6, rQaX7, rQaX8, rQaX9, rQaX10, rQaX11, rQaX12, rQaX13, rQaX14, rQaX15, rQaX16, rQaX17, rQaX18, rQaX19, rQaX20, rQaX21, rQaX22, rQaX23, rQaX24, rQaX25, rQaX26, rQaX27, rQaX28, rQaX29, rQaX30, rQaX31, rQaX32, rQaX33, rQaX34, rQaX35, rQaX36, rQaX37, rQaX38, rQaX39, rQaX40, hN, hN0, h1, hq, hw, i1, g1, g2, g3, g4, blk, eds_length, eds_get, edsAt, edAV, allLeaf_eds, cleanL_eds, cleanL_ints, ints_length, ints_get, intsAt, endL, finB]
 ·have hN0 : ¬ (N : Int) = 0 := by omega
  by_cases hc : isB N Es D[q] = true
  ·have cq := isB_iff.1 hc
   rw [hc] at is
   have ex := ext_run hG (by omega) (by omega) D[q] cq
   obtain ⟨m1, m2⟩ := ext_mcl hG (by omega) cq
   rw [<- eA] at m1
   have lx := hb _ m1
   have lp := cov3_loop l a N Es A D D[q] (extK N Es D[q]) q hA lx hb A.length 0 false (by omega)
   have wi := within_run D[q] (extK N Es D[q]) (by omega) (by omega)
   have wt : (D[q].all fun x => decide (x ∈ extK N Es D[q])) = true := List.all_eq_true.2 fun x hx => decide_eq_true (m2 x hx)
   rw [wt] at wi
   rw [List.drop_zero, decide_eq_true m1, Bool.false_or] at lp
   unfold cov3 dk gb at lp
   rw [nat0] at lp
   unfold dk gb
   clear wt m1 m2 hc cq
   generalize extK N Es D[q] = x at *
   generalize D[q] = s at *
   generalize eds Es = YE at *
   generalize lls D = XD at *
   generalize lls A = XA at *
   simp [rQaX0, rQaX1, rQaX2, rQaX3, rQaX4, rQaX5, rQaX6, rQaX7, rQaX8, rQaX9, rQaX10, rQaX11, rQaX12, rQaX13, rQaX14, rQaX15, rQaX16, rQaX17, rQaX18, rQaX19, rQaX20, rQaX21, rQaX22, rQaX23, rQaX24, rQaX25, rQaX26, rQaX27, rQaX28, rQaX29, rQaX30, rQaX31, rQaX32, rQaX33, rQaX34, rQaX35, rQaX36, rQaX37, rQaX38, rQaX39, rQaX40, hN, hN0, h1, hq, hw, i1, g1, g2, g3, g4, is, ex, wi, lp, sQn, iQn, sQo, iQo, sQp, iQp, blk, eds_length, eds_get, edsAt, edAV, allLeaf_eds, cleanL_eds, cleanL_ints, ints_length, ints_get, intsAt, endL, finB]
  ·rw [Bool.not_eq_true] at hc
   rw [hc] at is
   unfold dk gb
   generalize D[q] = s at *
   generalize eds Es = YE at *
   generalize lls D = XD at *
   generalize lls A = XA at *
   simp [rQaX0, rQaX1, rQaX2, rQaX3, rQaX4, rQaX5, rQaX6, rQaX7, rQaX8, rQaX9, rQaX10, rQaX11, rQaX12, rQaX13, rQaX14, rQaX15, rQaX16, rQaX17, rQaX18, rQaX19, rQaX20, rQaX21, rQaX22, rQaX23, rQaX24, rQaX25, rQaX26, rQaX27, rQaX28, rQaX29, rQaX30, rQaX31, rQaX32, rQaX33, rQaX34, rQaX35, rQaX36, rQaX37, rQaX38, rQaX39, rQaX40, hN, hN0, h1, hq, hw, i1, g1, g2, g3, g4, is, sQn, iQn, blk, eds_length, eds_get, edsAt, edAV, allLeaf_eds, cleanL_eds, cleanL_ints, ints_length, ints_get, intsAt, endL, finB]
theorem cov4_loop (l : List Int) (a : Nat) {N : Nat} {Es : List Ed} (hG : GOK (N : Int) Es) (hE : Es.length <= 10000) (A D : List (List Int)) (eA : A = mcl N Es) (hA : A.length <= 4096) (hb : ∀ S ∈ A, S.length <= 64) (hD : D.length <= 100) (hs : ∀ s ∈ D, s.length <= 64) : ∀ (n q : Nat), q + n = D.length -> codeL cfgS 0 (.loop lQaX4) (cov4 l a N Es A D q []) = some (.exit 6, cov4 l a N Es A D D.length [(118, .bool false)])
 | 0, q, hi => by
   obtain rfl : q = D.length := by omega
   refine loop_exit ?_
   unfold cov4 lQaX4 dk gb
   have g2 := lls_length D
   generalize lls D = XD at *
   generalize lls A = XA at *
   simp [rQaX0, rQaX1, rQaX2, rQaX3, rQaX4, rQaX5, rQaX6, rQaX7, rQaX8, rQaX9, rQaX10, rQaX11, rQaX12, rQaX13, rQaX14, rQaX15, rQaX16, rQaX17, rQaX18, rQaX19, rQaX20, rQaX21, rQaX22, rQaX23, rQaX24, rQaX25, rQaX26, rQaX27, rQaX28, rQaX29, rQaX30, rQaX31, rQaX32, rQaX33, rQaX34, rQaX35, rQaX36, rQaX37, rQaX38, rQaX39, rQaX40, g2, blk, eds_length, eds_get, edsAt, edAV, allLeaf_eds, cleanL_eds, cleanL_ints, ints_length, ints_get, intsAt, endL, finB]
 | n + 1, q, hi => by
   have hlt : q < D.length := by omega
   exact (loop_next (cov4_round l a hG hE A D eA hA hb q hlt hD (hs _ (List.getElem_mem hlt)))).trans (cov4_loop l a hG hE A D eA hA hb hD hs n (q + 1) (by omega))
end
theorem mcl_bd {N : Nat} {Es : List Ed} (hG : GOK (N : Int) Es) (hN : N <= 8) : (mcl N Es).length <= 256 /\ ∀ S ∈ mcl N Es, S.length <= 16 := by
 have h1 := mcl_few hG
 have h2 : 2 ^ N <= 2 ^ 8 := Nat.pow_le_pow_right (by omega) hN
 refine ⟨by omega, fun S hS => ?_⟩
 have m := (mcl_mem hG).1 hS
 have key : ∀ {l : List Int} {a : Nat}, Up l -> (∀ x ∈ l, (a : Int) <= x /\ x < N) -> l.length <= N - a := by
  intro l
  induction l with
  | nil => intro a _ _; simp
  | cons x r ih =>
    intro a hu hb
    obtain ⟨p1, p2⟩ := List.pairwise_cons.1 hu
    obtain ⟨b1, b2⟩ := hb x (by simp)
    have := ih (a := x.toNat + 1) p2 fun y hy => by
     have := p1 y hy
     have := hb y (by simp [hy])
     omega
    simp only [List.length_cons]
    omega
 have := key (a := 0) m.1.up fun x hx => by have := m.1.bd x hx; omega
 omega
theorem mcl_maxB {N : Nat} {Es : List Ed} (hG : GOK (N : Int) Es) {S : List Int} (hS : S ∈ mcl N Es) : maxB N Es S = true := by
 obtain ⟨c, ne, mx⟩ := (mcl_mem hG).1 hS
 have h0 : cn N Es S = 0 := by
  apply Nat.eq_of_testBit_eq
  intro j
  rw [Nat.zero_testBit]
  cases hb : (cn N Es S).testBit j with
  | false => rfl
  | true =>
    obtain ⟨k1, k2⟩ := (cn_bit hG (fun x hx => (c.bd x hx).1) j).1 hb
    exact absurd k2 (mx j ⟨by omega, by omega⟩)
 unfold maxB
 rw [isB_iff.2 c, h0]
 simp [ne]
theorem cov_range {N : Nat} {Es : List Ed} (hG : GOK (N : Int) Es) (hN : N <= 64) : setOf (mcl N Es).flatten = rangeI N := by
 refine up_ext (setOf_spec _).1 ?_ fun x => ?_
 ·unfold rangeI Up
  rw [List.pairwise_map]
  exact List.pairwise_lt_range.imp fun {a b} h => by omega
 ·rw [(setOf_spec _).2, cov_nodes hG]
  unfold rangeI
  simp only [List.mem_map, List.mem_range]
  constructor
  ·intro h; exact ⟨x.toNat, by omega, by omega⟩
  ·rintro ⟨i, hi, rfl⟩; omega
theorem flat_len : ∀ {A : List (List Int)}, (∀ S ∈ A, S.length <= 16) -> A.flatten.length <= 16 * A.length
 | [], _ => by simp
 | S :: r, h => by
   have := flat_len (A := r) fun T hT => h T (by simp [hT])
   have := h S (by simp)
   simp only [List.flatten_cons, List.length_append, List.length_cons]
   omega
theorem prs_len : ∀ {A : List (List Int)}, (∀ S ∈ A, S.length <= 16) -> (A.flatMap prsL).length <= 256 * A.length
 | [], _ => by simp
 | S :: r, h => by
   have := prs_len (A := r) fun T hT => h T (by simp [hT])
   have l1 := h S (by simp)
   have l2 := prsL_len S
   have l3 : S.length * S.length <= 16 * 16 := Nat.mul_le_mul l1 l1
   simp only [List.flatMap_cons, List.length_append, List.length_cons]
   omega
section
attribute [local simp] frzLab
theorem cover_run (l T : List Int) : callL cfgS nQa [.list 1 (ints l), .list 1 (ints T)] [] = some (.bool true, []) := by
 rw [callL_end oQa sQa (Nat.le_of_ble_eq_true rfl)]
 have aw := awake24
 have few := few_run l
 have gT := ints_length T
 by_cases hl : (l.length : Int) <= 500
 case neg =>
  unfold qQa cQa
  simp [rQaX0, rQaX1, rQaX2, rQaX3, rQaX4, rQaX5, rQaX6, rQaX7, rQaX8, rQaX9, rQaX10, rQaX11, rQaX12, rQaX13, rQaX14, rQaX15, rQaX16, rQaX17, rQaX18, rQaX19, rQaX20, rQaX21, rQaX22, rQaX23, rQaX24, rQaX25, rQaX26, rQaX27, rQaX28, rQaX29, rQaX30, rQaX31, rQaX32, rQaX33, rQaX34, rQaX35, rQaX36, rQaX37, rQaX38, rQaX39, rQaX40, few, hl, aw, sQb, iQb, sQc, iQc, blk, eds_length, eds_get, edsAt, edAV, allLeaf_eds, cleanL_eds, cleanL_ints, ints_length, ints_get, intsAt, endL, finB]
 by_cases hT : 20 < T.length
 case pos =>
  have hT' : (20 : Int) < T.length := by omega
  unfold qQa cQa
  generalize ints T = YT at *
  simp [rQaX0, rQaX1, rQaX2, rQaX3, rQaX4, rQaX5, rQaX6, rQaX7, rQaX8, rQaX9, rQaX10, rQaX11, rQaX12, rQaX13, rQaX14, rQaX15, rQaX16, rQaX17, rQaX18, rQaX19, rQaX20, rQaX21, rQaX22, rQaX23, rQaX24, rQaX25, rQaX26, rQaX27, rQaX28, rQaX29, rQaX30, rQaX31, rQaX32, rQaX33, rQaX34, rQaX35, rQaX36, rQaX37, rQaX38, rQaX39, rQaX40, few, hl, gT, hT, hT', aw, sQb, iQb, sQc, iQc, blk, eds_length, eds_get, edsAt, edAV, allLeaf_eds, cleanL_eds, cleanL_ints, ints_length, ints_get, intsAt, endL, finB]
 have hT' : ¬ (20 : Int) < T.length := by omega
 have hl5 : l.length <= 500 := by omega
 have n1 := new_run l
 obtain ⟨N, Es, a1, n2, hG, hN, hEl⟩ := graph_run l hl5 8 (by omega) 0
 rw [show ((8 : Nat) : Int) = 8 from rfl] at n2
 have al := allK_run hG (by omega) 4096
 obtain ⟨bA, cA⟩ := mcl_bd hG hN
 unfold allK at al
 rw [if_neg (by omega), if_pos (by omega)] at al
 have lp := cov2_loop l a1 hG hEl T (mcl N Es) (by omega) cA (fun S hS => mcl_maxB hG hS) (mcl N Es).length 0 [] [] (by omega) (by simp) (by simp)
 rw [List.drop_zero, List.nil_append, List.nil_append] at lp
 have pl := prs_len cA
 have fl := flat_len cA
 have go := gof_run N (by omega) ((mcl N Es).flatMap prsL) (by omega) fun e he => by
  have := hG.2.2 e ((cov_pairs hG e).1 he)
  exact ⟨by omega, by omega, by omega⟩
 rw [cov_graph hG] at go
 have sm := same3_run N Es (by omega)
 have o2 := of_run (mcl N Es).flatten (by omega)
 rw [cov_range hG (by omega)] at o2
 have r2 := range_run N
 have lr : (rangeI (N : Int)).length <= 64 := by unfold rangeI; simp; omega
 have c2 := cmp_run (rangeI N) (rangeI N) (by omega) (by omega)
 rw [cmpL_zero.2 rfl] at c2
 obtain ⟨s, a2, n3, sl, su, sb⟩ := set_run l hl5 N (by omega) [gb N Es] (rest_gb N Es) a1
 have lq := cov4_loop l a2 hG hEl (mcl N Es) [T, s, []] rfl (by omega) (fun S hS => by have := cA S hS; omega) (by simp) (fun x hx => by
  simp at hx
  rcases hx with rfl | rfl | rfl
  ·omega
  ·omega
  ·simp) 3 0 rfl
 have eD : lls [T, s, []] = [.list 1 (ints T), .list 1 (ints s), .list 1 []] := rfl
 unfold cov4 at lq
 rw [eD, nat0, show (([T, s, []] : List (List Int)).length : Int) = 3 from rfl] at lq
 unfold cov2 at lp
 rw [nat0, ints_nil, eds_nil] at lp
 have gA := lls_length (mcl N Es)
 have gF := ints_length (mcl N Es).flatten
 have cF := cleanL_ints (mcl N Es).flatten
 have cT := cleanL_ints T
 have cs := cleanL_ints s
 have gP := eds_length ((mcl N Es).flatMap prsL)
 have tkF : (ints (mcl N Es).flatten).take (mcl N Es).flatten.length = ints (mcl N Es).flatten := List.take_of_length_le (by omega)
 have tkP : (eds ((mcl N Es).flatMap prsL)).take ((mcl N Es).flatMap prsL).length = eds ((mcl N Es).flatMap prsL) := List.take_of_length_le (by omega)
 have cP := cleanL_eds ((mcl N Es).flatMap prsL)
 unfold dk gb at *
 rw [nat0] at n1 n2
 clear cA su sb hG
 unfold qQa cQa
 generalize (mcl N Es).flatMap prsL = p at *
 generalize (mcl N Es).flatten = nd at *
 generalize mcl N Es = A at *
 generalize lls A = XA at *
 generalize ints nd = YN at *
 generalize ints (rangeI N) = YR at *
 generalize ints T = YT at *
 generalize ints s = Ys at *
 generalize eds p = V at *
 generalize eds Es = YE at *
 simp [rQaX0, rQaX1, rQaX2, rQaX3, rQaX4, rQaX5, rQaX6, rQaX7, rQaX8, rQaX9, rQaX10, rQaX11, rQaX12, rQaX13, rQaX14, rQaX15, rQaX16, rQaX17, rQaX18, rQaX19, rQaX20, rQaX21, rQaX22, rQaX23, rQaX24, rQaX25, rQaX26, rQaX27, rQaX28, rQaX29, rQaX30, rQaX31, rQaX32, rQaX33, rQaX34, rQaX35, rQaX36, rQaX37, rQaX38, rQaX39, rQaX40, few, hl, gT, hT, hT', n1, n2, n3, al, lp, lq, go, sm, o2, r2, c2, gA, gF, cF, cT, cs, gP, tkF, tkP, cP, aw, sQb, iQb, sQd, iQd, sQe, iQe, sQm, iQm, sQf, iQf, sQh, iQh, sQi, iQi, sQk, iQk, sQl, iQl, sQj, iQj, sQc, iQc, plp, plpL, allB, notBox, swC, swS, seesC, inBox, relB, handBox, mvBB, mvRtB, offBoxes, offLab, calmB, ptrs, ptrsL, blkE, avE, avLE, blk, eds_length, eds_get, edsAt, edAV, allLeaf_eds, cleanL_eds, cleanL_ints, ints_length, ints_get, intsAt, endL, finB]
end
end Go.BmP
