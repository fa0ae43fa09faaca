/- Slices that own each other's cells: the rows of triangles.lists, one step of it. -/
import Derived.Test.YtcjfhegnnjnmgaaUseM
import Derived.Test.YtcjfhegnnjnmgaaR02d
import Derived.Test.YtcjfhegnnjnmgaaBicP
set_option linter.unusedSimpArgs false
set_option linter.unusedVariables false
set_option maxRecDepth 100000
set_option maxHeartbeats 4000000
namespace Go.BmP
open Go.Am Go.Bm
theorem cellN_ne {b j k : Nat} (h : k < 1000000) : (cellN b j = k) = False := by
 unfold cellN CELLM; exact eq_false (by omega)
theorem cellN_ne' {b j k : Nat} (h : k < 1000000) : (k = cellN b j) = False := by
 unfold cellN CELLM; exact eq_false (by omega)
theorem cellN_inj {b j i : Nat} : (cellN b j = cellN b i) = (j = i) := by
 unfold cellN CELLM; exact propext ⟨fun h => by omega, fun h => by omega⟩
theorem isCell_cellN {b d j : Nat} (h : b < 1000000) (k : d < 1000000) : isCell b (cellN d j) = decide (b = d) := by
 unfold isCell cellN CELLM
 by_cases e : b = d
 ·subst e
  have h1 : 1000000 <= b + (j + 1) * 1000000 := by omega
  have h2 : b <= b + (j + 1) * 1000000 := by omega
  simp only [h1, h2, decide_true, Bool.true_and, Nat.add_sub_cancel_left, Nat.mul_mod_left]
 ·have : ¬ (d + (j + 1) * 1000000 - b) % 1000000 = 0 := by omega
  simp only [this, e, decide_false, Bool.and_false]
def Cels (C : List AV) : Prop := ∀ c ∈ C, (∃ xs, c = .own 1 xs) \/ c = .any
theorem cels_bor : ∀ {C : List AV}, Cels C -> borL C = []
 | [], _ => rfl
 | c :: r, h => by
   simp only [borL, cels_bor (fun x hx => h x (List.mem_cons_of_mem _ hx)), List.append_nil]
   rcases h c (by simp) with ⟨xs, rfl⟩ | rfl <;> rfl
theorem cels_map {g : AV -> AV} : ∀ {C : List AV}, Cels C -> mapBL g C = C
 | [], _ => rfl
 | c :: r, h => by
   simp only [mapBL, cels_map (fun x hx => h x (List.mem_cons_of_mem _ hx))]
   rcases h c (by simp) with ⟨xs, rfl⟩ | rfl <;> rfl
theorem cels_ptr {b : Nat} : ∀ {C : List AV}, Cels C -> noPtrL b C = true
 | [], _ => rfl
 | c :: r, h => by
   simp only [noPtrL, cels_ptr (fun x hx => h x (List.mem_cons_of_mem _ hx)), Bool.and_true]
   rcases h c (by simp) with ⟨xs, rfl⟩ | rfl <;> rfl
theorem cels_set {C : List AV} (h : Cels C) (u : Nat) {x : AV} (hx : (∃ xs, x = .own 1 xs) \/ x = .any) : Cels (C.set u x) := by
 intro c hc
 rcases List.mem_or_eq_of_mem_set hc with e | e
 ·exact h c e
 ·subst e; exact hx
theorem lend_at {b : Nat} : ∀ {C : List AV} {j u k : Nat} {xs : List AV}, C[u]? = some (.own k xs) -> (lendC (.c b) j C)[u]? = some (.bor k (.c b (j + u)) 0 xs.length)
 | [], j, u, k, xs, h => by simp at h
 | c :: r, j, 0, k, xs, h => by simp at h; subst h; simp [lendC]
 | c :: r, j, u + 1, k, xs, h => by
   have := lend_at (b := b) (C := r) (j := j + 1) (u := u) (by simpa using h)
   rw [show j + 1 + u = j + (u + 1) by omega] at this
   cases c <;> simpa [lendC] using this
theorem ovw_one {C : List AV} {u : Nat} {x : AV} (h : u < C.length) : ovw C u [x] = C.set u x := by
 unfold ovw
 rw [List.set_eq_take_append_cons_drop, if_pos h]
 simp
theorem own_one {C : List AV} {u : Nat} {x : AV} (h : C[u]? = some x) (n : ∀ k xs, x ≠ .own k xs) : hasOwnL ((C.drop u).take 1) = false := by
 have : (C.drop u).take 1 = [x] := by
  have hl : u < C.length := lt_of_getElem? h
  rw [List.drop_eq_getElem_cons hl]
  rw [List.getElem?_eq_getElem hl] at h
  simp at h
  simp [h]
 rw [this]
 cases x <;> first | rfl | exact absurd rfl (n _ _)
theorem borC_at {p : Rt} {b : Nat} : ∀ {C : List AV} {j u k o l : Nat}, C[u]? = some (.bor k p o l) -> (∀ (i : Nat) (c : AV), C[i]? = some c -> i ≠ u -> p ∉ borOf c) -> borC p (.c b) j C = some (.c b (j + u))
 | [], j, u, k, o, l, h, _ => by simp at h
 | c :: r, j, 0, k, o, l, h, _ => by simp at h; subst h; simp [borC, borIn]
 | c :: r, j, u + 1, k, o, l, h, hn => by
   have ih := borC_at (p := p) (b := b) (C := r) (j := j + 1) (u := u) (by simpa using h) fun i c hc hi => hn (i + 1) c (by simpa using hc) (by omega)
   have hb : borIn p (.c b j) c = none := by
    have := hn 0 c rfl (by omega)
    cases c <;> simp only [borIn]
    rename_i k' q o' l'
    simp only [borOf, List.mem_singleton] at this
    rw [if_neg fun e => this e.symm]
   simp only [borC, hb]
   rw [ih, show j + 1 + u = j + (u + 1) by omega]
theorem set_get_ne {C : List AV} {u v : Nat} {x y : AV} (h : C[v]? = some y) (n : u ≠ v) : (C.set u x)[v]? = some y := by
 rw [List.getElem?_set_ne n]; exact h
theorem set_get_eq {C : List AV} {u : Nat} {x y : AV} (h : C[u]? = some y) : (C.set u x)[u]? = some x := by
 rw [List.getElem?_set_self (lt_of_getElem? h)]
theorem borC_no {p : Rt} {f : Nat -> Rt} : ∀ {C : List AV} {j : Nat}, p ∉ borL C -> borC p f j C = none
 | [], _, _ => rfl
 | c :: r, j, h => by
   simp only [borL, List.mem_append, not_or] at h
   have hb : borIn p (f j) c = none := by
    have := h.1
    cases c <;> simp only [borIn]
    rename_i k' q o' l'
    simp only [borOf, List.mem_singleton] at this
    rw [if_neg fun e => this e.symm]
   simp only [borC, hb, borC_no h.2]
theorem li_x5 (C : List AV) (N u v : Nat) (Ru Rv : List Int) (Es : List Ed) (n i : Int) (hu : C[u]? = some (.own 1 (ints Ru))) (hv : C[v]? = some (.own 1 (ints Rv))) (huv : u ≠ v) (hq : Cels C) (hN : C.length = N) (hRu : Ru.length < 4294967295) (hRv : Rv.length < 4294967295) :
  codeL cfgS 0 (.reg rTrianglesListsX5 true [(26, 26), (27, 27), (0, 2), (2, 3), (2, 4), (0, 5), (1, 5), (2, 5), (3, 5), (2, 6), (5, 6), (2, 7), (5, 7), (0, 8), (1, 8), (2, 8), (3, 8), (4, 8), (5, 8), (6, 8), (2, 9), (5, 9), (0, 10), (1, 10), (2, 10), (3, 10), (4, 10), (5, 10), (2, 11), (5, 11), (8, 11), (10, 11), (0, 12), (1, 12), (2, 12), (3, 12), (4, 12), (5, 12), (6, 12), (7, 12), (8, 12), (9, 12), (10, 12), (0, 13), (1, 13), (2, 13), (3, 13), (4, 13), (5, 13), (6, 13), (7, 13), (8, 13), (9, 13), (10, 13), (0, 14), (1, 14), (2, 14), (3, 14), (4, 14), (5, 14), (2, 15), (5, 15), (8, 15), (10, 15), (12, 15), (13, 15), (14, 15), (2, 16), (5, 16), (8, 16), (10, 16), (12, 16), (13, 16), (14, 16), (0, 17), (1, 17), (2, 17), (3, 17), (4, 17), (5, 17), (6, 17), (7, 17), (8, 17), (9, 17), (10, 17), (11, 17), (12, 17), (13, 17), (14, 17), (15, 17), (2, 18), (5, 18), (8, 18), (10, 18), (12, 18), (13, 18), (14, 18), (0, 19), (1, 19), (2, 19), (3, 19), (4, 19), (5, 19), (6, 19), (7, 19), (8, 19), (9, 19), (10, 19), (11, 19), (12, 19), (13, 19), (14, 19), (2, 20), (5, 20), (8, 20), (10, 20), (12, 20), (13, 20), (14, 20), (17, 20), (19, 20), (0, 21), (1, 21), (2, 21), (3, 21), (4, 21), (5, 21), (6, 21), (7, 21), (8, 21), (9, 21), (10, 21), (11, 21), (12, 21), (13, 21), (14, 21), (15, 21), (16, 21), (17, 21), (18, 21), (19, 21), (0, 22), (1, 22), (2, 22), (3, 22), (4, 22), (5, 22), (6, 22), (7, 22), (8, 22), (9, 22), (10, 22), (11, 22), (12, 22), (13, 22), (14, 22), (15, 22), (16, 22), (17, 22), (18, 22), (19, 22), (0, 23), (1, 23), (2, 23), (3, 23), (4, 23), (5, 23), (5, 24), (3, 25), (4, 25), (5, 25)] [3, 12, 13, 14]) ⟨[(3, .sl 1 1 0 N), (5, .ptr 2 0), (12, .list 2 (eds Es)), (13, .int .i64 n), (14, .int .i64 i)], [some [.int .i64 N, .list 2 (eds Es)], some C, some [.int .i64 u, .int .i64 v]]⟩
   = some (.normal, ⟨[(3, .sl 1 1 0 N), (12, .list 2 (eds Es)), (13, .int .i64 n), (14, .int .i64 i)], [some [.int .i64 N, .list 2 (eds Es)], some ((C.set u (.own 1 (ints (Ru ++ [(v : Int)])))).set v (.own 1 (ints (Rv ++ [(u : Int)]))))]⟩) := by
 have lu : u < C.length := lt_of_getElem? hu
 have lv : v < C.length := lt_of_getElem? hv
 have k1 : (u : Int) < N := by omega
 have k2 : (v : Int) < N := by omega
 have hvu : v ≠ u := fun e => huv e.symm
 have r1 : (lendC (.c 1) 0 C)[u]? = some (.bor 1 (.c 1 u) 0 Ru.length) := by have := lend_at (b := 1) (j := 0) hu; rwa [Nat.zero_add, ints_length] at this
 have m1 : mapBL (sw (.c 1 u)) C = C := cels_map hq
 have n1 := cels_bor hq
 have hq1 : Cels (C.set u .any) := cels_set hq u (.inr rfl)
 have hv1 : (C.set u .any)[v]? = some (.own 1 (ints Rv)) := set_get_ne hv huv
 have r2 : (lendC (.c 1) 0 (C.set u .any))[v]? = some (.bor 1 (.c 1 v) 0 Rv.length) := by have := lend_at (b := 1) (j := 0) hv1; rwa [Nat.zero_add, ints_length] at this
 have m2 : mapBL (sw (.c 1 v)) (C.set u .any) = C.set u .any := cels_map hq1
 have n2 := cels_bor hq1
 have l1 : Ru.length + 1 <= 4294967296 := by omega
 have l2 : Rv.length + 1 <= 4294967296 := by omega
 have hu2 : ((C.set u .any).set v .any)[u]? = some .any := set_get_ne (set_get_eq hu) hvu
 have o1 := own_one hu2 (by intro k xs e; cases e)
 have w1 : ∀ x, List.take u ((C.set u .any).set v .any) ++ x :: List.drop (u + 1) ((C.set u .any).set v .any) = ((C.set u x).set v .any) := fun x => by
  have := ovw_one (C := (C.set u .any).set v .any) (u := u) (x := x) (by simpa using lu)
  simp only [ovw, List.length_singleton, List.append_assoc, List.singleton_append] at this
  rw [this, List.set_comm _ _ hvu, List.set_set]
 have hv2 : ∀ x, ((C.set u x).set v .any)[v]? = some .any := fun x => set_get_eq (set_get_ne hv huv)
 have o2 := fun x => own_one (hv2 x) (by intro k xs e; cases e)
 have w2 : ∀ x y, List.take v ((C.set u x).set v .any) ++ y :: List.drop (v + 1) ((C.set u x).set v .any) = ((C.set u x).set v y) := fun x y => by
  have := ovw_one (C := (C.set u x).set v .any) (u := v) (x := y) (by simpa using lv)
  simp only [ovw, List.length_singleton, List.append_assoc, List.singleton_append] at this
  rw [this, List.set_set]
 have q1 : u + 1 <= C.length := lu
 have q2 : v + 1 <= C.length := lv
 have bC : ∀ (p : Rt), borL C = [] -> ∀ (i : Nat) (c : AV), C[i]? = some c -> p ∉ borOf c := fun p hb i c hc hm => by
  have := mem_borL.2 ⟨c, List.mem_of_getElem? hc, hm⟩
  rw [hb] at this; cases this
 have g1 : borC (.s 32) (.c 1) 0 ((C.set u (.bor 1 (.s 32) 0 (Ru.length + 1))).set v (.bor 1 (.s 41) 0 (Rv.length + 1))) = some (.c 1 u) := by
  have := borC_at (p := .s 32) (b := 1) (C := (C.set u (.bor 1 (.s 32) 0 (Ru.length + 1))).set v (.bor 1 (.s 41) 0 (Rv.length + 1))) (j := 0) (u := u) (k := 1) (o := 0) (l := Ru.length + 1) (set_get_ne (set_get_eq hu) hvu) fun i c hc hi => by
   by_cases e : i = v
   ·subst e
    rw [set_get_eq (set_get_ne hv huv)] at hc
    cases hc
    simp [borOf]
   ·rw [List.getElem?_set_ne (Ne.symm e), List.getElem?_set_ne (Ne.symm hi)] at hc
    exact bC _ n1 i c hc
  rw [this, Nat.zero_add]
 have a1 : ((C.set u (.bor 1 (.s 32) 0 (Ru.length + 1))).set v (.bor 1 (.s 41) 0 (Rv.length + 1)))[u]? = some (.bor 1 (.s 32) 0 (Ru.length + 1)) := set_get_ne (set_get_eq hu) hvu
 have mset : ∀ (g : AV -> AV) (D : List AV) (i : Nat) (x : AV), mapBL g (D.set i x) = (mapBL g D).set i (mapB g x) := fun g D => by
  induction D with
  | nil => intro i x; rfl
  | cons d r ih => intro i x; cases i <;> simp [mapBL, ih]
 have p1 : ∀ Y, (mapBL (rt (.s 32) (.c 1 u) (Ru.length + 1)) ((C.set u (.bor 1 (.s 32) 0 (Ru.length + 1))).set v (.bor 1 (.s 41) 0 (Rv.length + 1)))).set u Y = (C.set u Y).set v (.bor 1 (.s 41) 0 (Rv.length + 1)) := fun Y => by
  rw [mset, mset, cels_map hq, List.set_comm _ _ hvu, List.set_set]
  simp [mapB, rt]
 have g2 : borC (.s 41) (.c 1) 0 ((C.set u (.own 1 (ints (Ru ++ [(v : Int)])))).set v (.bor 1 (.s 41) 0 (Rv.length + 1))) = some (.c 1 v) := by
  have := borC_at (p := .s 41) (b := 1) (C := (C.set u (.own 1 (ints (Ru ++ [(v : Int)])))).set v (.bor 1 (.s 41) 0 (Rv.length + 1))) (j := 0) (u := v) (k := 1) (o := 0) (l := Rv.length + 1) (set_get_eq (set_get_ne hv huv)) fun i c hc hi => by
   rw [List.getElem?_set_ne (Ne.symm hi)] at hc
   by_cases e : i = u
   ·subst e
    rw [set_get_eq hu] at hc
    cases hc
    simp [borOf]
   ·rw [List.getElem?_set_ne (Ne.symm e)] at hc
    exact bC _ n1 i c hc
  rw [this, Nat.zero_add]
 have a2 : ((C.set u (.own 1 (ints (Ru ++ [(v : Int)])))).set v (.bor 1 (.s 41) 0 (Rv.length + 1)))[v]? = some (.bor 1 (.s 41) 0 (Rv.length + 1)) := set_get_eq (set_get_ne hv huv)
 have p2 : ∀ Y, (mapBL (rt (.s 41) (.c 1 v) (Rv.length + 1)) ((C.set u (.own 1 (ints (Ru ++ [(v : Int)])))).set v (.bor 1 (.s 41) 0 (Rv.length + 1)))).set v Y = (C.set u (.own 1 (ints (Ru ++ [(v : Int)])))).set v Y := fun Y => by
  rw [mset, mset, cels_map hq, List.set_set]
  simp [mapB]
 have z1 : List.take (Ru.length + 1) (ints (Ru ++ [(v : Int)])) = ints (Ru ++ [(v : Int)]) := List.take_of_length_le (by simp [ints])
 have z2 : List.take (Rv.length + 1) (ints (Rv ++ [(u : Int)])) = ints (Rv ++ [(u : Int)]) := List.take_of_length_le (by simp [ints])
 have y1 : noPtrL 2 ((C.set u (.own 1 (ints (Ru ++ [(v : Int)])))).set v (.own 1 (ints (Rv ++ [(u : Int)])))) = true := cels_ptr (cels_set (cels_set hq u (.inl ⟨_, rfl⟩)) v (.inl ⟨_, rfl⟩))
 have nb4 : ∀ p, p ≠ .s 32 -> p ≠ .s 41 -> p ∉ borL ((C.set u (.bor 1 (.s 32) 0 (Ru.length + 1))).set v (.bor 1 (.s 41) 0 (Rv.length + 1))) := fun p h1 h2 hm => by
  obtain ⟨c, hc, hp⟩ := mem_borL.1 hm
  rcases List.mem_or_eq_of_mem_set hc with e | e
  ·rcases List.mem_or_eq_of_mem_set e with e | e
   ·have := mem_borL.2 ⟨c, e, hp⟩; rw [n1] at this; cases this
   ·subst e; simp [borOf] at hp; exact h1 hp
  ·subst e; simp [borOf] at hp; exact h2 hp
 have nb5 : ∀ p, p ≠ .s 41 -> p ∉ borL ((C.set u (.own 1 (ints (Ru ++ [(v : Int)])))).set v (.bor 1 (.s 41) 0 (Rv.length + 1))) := fun p h2 hm => by
  obtain ⟨c, hc, hp⟩ := mem_borL.1 hm
  rcases List.mem_or_eq_of_mem_set hc with e | e
  ·rcases List.mem_or_eq_of_mem_set e with e | e
   ·have := mem_borL.2 ⟨c, e, hp⟩; rw [n1] at this; cases this
   ·subst e; simp [borOf] at hp
  ·subst e; simp [borOf] at hp; exact h2 hp
 have f31 : borC (.s 31) (.c 1) 0 _ = none := borC_no (nb4 (.s 31) (by decide) (by decide))
 have s31 := sw_fixL (nb4 (.s 31) (by decide) (by decide))
 have f40 : borC (.s 40) (.c 1) 0 _ = none := borC_no (nb5 (.s 40) (by decide))
 have s40 := sw_fixL (nb5 (.s 40) (by decide))
 have c21 : isCell 2 1 = false := by decide
 generalize eds Es = Z at *
 unfold rTrianglesListsX5
 simp [rTrianglesListsX0, rTrianglesListsX1, rTrianglesListsX2, rTrianglesListsX3, rTrianglesListsX4, rTrianglesListsX5, rTrianglesListsX6, rTrianglesListsX7, rTrianglesListsX8, rTrianglesListsX9, rTrianglesListsX10, rTrianglesListsX11, rTrianglesListsX12, cellN_ne, cellN_ne', cellN_inj, isCell_cellN, k1, k2, hu, hv, huv, hvu, r1, m1, n1, hv1, r2, m2, n2, l1, l2, o1, o2, w1, w2, q1, q2, g1, a1, p1, g2, a2, p2, z1, z2, y1, f31, s31, f40, s40, c21, LIM, idx, blk, ints_length, ints_snoc, ints_take, ints_app, -cellN, -CELLM, -isCell]
end Go.BmP
