/- What two ascending lists have in common, as triangles.shared finds it. -/
import Derived.Test.YtcjfhegnnjnmgaaUseM
import Derived.Test.YtcjfhegnnjnmgaaR02d
import Derived.Test.YtcjfhegnnjnmgaaBicP
set_option linter.unusedSimpArgs false
set_option linter.unusedVariables false
set_option maxRecDepth 100000
set_option maxHeartbeats 4000000
namespace Go.BmP
open Go.Am Go.Bm
def shr : List Int -> List Int -> List Int
 | [], _ => []
 | _ :: _, [] => []
 | x :: r, y :: s => if x < y then shr r (y :: s) else if y < x then shr (x :: r) s else x :: shr r s
termination_by a b => a.length + b.length
theorem shr_len : ∀ (n : Nat) (a b : List Int), a.length + b.length = n -> (shr a b).length <= a.length /\ (shr a b).length <= b.length := by
 intro n
 induction n using Nat.strongRecOn with
 | ind n ih =>
   intro a b h
   cases a with
   | nil => simp [shr]
   | cons x r =>
     cases b with
     | nil => simp [shr]
     | cons y s =>
       rw [shr]
       simp only [List.length_cons] at h ⊢
       split
       ·have := ih (r.length + (s.length + 1)) (by omega) r (y :: s) (by simp)
        simp only [List.length_cons] at this
        omega
       ·split
        ·have := ih (r.length + 1 + s.length) (by omega) (x :: r) s (by simp)
         simp only [List.length_cons] at this
         omega
        ·have := ih (r.length + s.length) (by omega) r s rfl
         simp only [List.length_cons]
         omega
theorem shr_mem (z : Int) : ∀ (n : Nat) (a b : List Int), a.length + b.length = n -> Up a -> Up b -> (z ∈ shr a b ↔ z ∈ a /\ z ∈ b) := by
 intro n
 induction n using Nat.strongRecOn with
 | ind n ih =>
   intro a b h ha hb
   cases a with
   | nil => simp [shr]
   | cons x r =>
     cases b with
     | nil => simp [shr]
     | cons y s =>
       obtain ⟨a1, a2⟩ := List.pairwise_cons.1 ha
       obtain ⟨b1, b2⟩ := List.pairwise_cons.1 hb
       rw [shr]
       simp only [List.length_cons] at h
       split
       ·rename_i hlt
        rw [ih (r.length + (s.length + 1)) (by omega) r (y :: s) (by simp) a2 hb]
        constructor
        ·rintro ⟨h1, h2⟩; exact ⟨List.mem_cons_of_mem _ h1, h2⟩
        ·rintro ⟨h1, h2⟩
         rcases List.mem_cons.1 h1 with e | e
         ·subst e
          rcases List.mem_cons.1 h2 with e | e
          ·omega
          ·have := b1 z e; omega
         ·exact ⟨e, h2⟩
       ·split
        ·rename_i h1 hlt
         rw [ih (r.length + 1 + s.length) (by omega) (x :: r) s (by simp) ha b2]
         constructor
         ·rintro ⟨h1, h2⟩; exact ⟨h1, List.mem_cons_of_mem _ h2⟩
         ·rintro ⟨k1, h2⟩
          rcases List.mem_cons.1 h2 with e | e
          ·subst e
           rcases List.mem_cons.1 k1 with e | e
           ·omega
           ·have := a1 z e; omega
          ·exact ⟨k1, e⟩
        ·have e : x = y := by omega
         subst e
         rw [List.mem_cons, ih (r.length + s.length) (by omega) r s rfl a2 b2]
         simp only [List.mem_cons]
         constructor
         ·rintro (h | ⟨h1, h2⟩)
          ·exact ⟨.inl h, .inl h⟩
          ·exact ⟨.inr h1, .inr h2⟩
         ·rintro ⟨h1 | h1, h2 | h2⟩
          ·exact .inl h1
          ·exact .inl h1
          ·exact .inl h2
          ·exact .inr ⟨h1, h2⟩
theorem shr_up : ∀ (n : Nat) (a b : List Int), a.length + b.length = n -> Up a -> Up b -> Up (shr a b) := by
 intro n
 induction n using Nat.strongRecOn with
 | ind n ih =>
   intro a b h ha hb
   cases a with
   | nil => simp [shr, Up]
   | cons x r =>
     cases b with
     | nil => simp [shr, Up]
     | cons y s =>
       obtain ⟨a1, a2⟩ := List.pairwise_cons.1 ha
       obtain ⟨b1, b2⟩ := List.pairwise_cons.1 hb
       rw [shr]
       simp only [List.length_cons] at h
       split
       ·exact ih (r.length + (s.length + 1)) (by omega) r (y :: s) (by simp) a2 hb
       ·split
        ·exact ih (r.length + 1 + s.length) (by omega) (x :: r) s (by simp) ha b2
        ·refine List.pairwise_cons.2 ⟨fun z hz => ?_, ih (r.length + s.length) (by omega) r s rfl a2 b2⟩
         exact a1 z ((shr_mem z _ r s rfl a2 b2).1 hz).1
def sSt (a b o : List Int) (J : Env) : St := ⟨(0, .list 1 (ints a)) :: (1, .list 1 (ints b)) :: (5, .own 1 (ints o)) :: J, []⟩
theorem shr_lt (x y : Int) (r s o : List Int) (hr : r.length < 4294967295) (hs : s.length < 4294967295) (h : x < y) : codeL cfgS 0 lTrianglesSharedIntX0 (sSt (x :: r) (y :: s) o []) = some (.normal, sSt r (y :: s) o []) := by
 have h1 : (0 : Int) < (r.length : Int) + 1 := by omega
 have h2 : (0 : Int) < (s.length : Int) + 1 := by omega
 have h3 : (1 : Int) <= (r.length : Int) + 1 := by omega
 have ht : List.take r.length (ints r) = ints r := List.take_of_length_le (by simp [ints])
 have hc : callL cfgS nCmpCompareInt [.int .i64 x, .int .i64 y] [] = some (.int .i64 (-1), []) := by rw [cmpI_run, cmpI, if_pos h]
 unfold lTrianglesSharedIntX0 sSt
 simp [rTrianglesSharedIntX0, rTrianglesSharedIntX1, rTrianglesSharedIntX2, rTrianglesSharedIntX3, rTrianglesSharedIntX4, rTrianglesSharedIntX5, rTrianglesSharedIntX6, rTrianglesSharedIntX7, rTrianglesSharedIntX8, rTrianglesSharedIntX9, rTrianglesSharedIntX10, h1, h2, h3, ht, hc, idx, ints_cons, ints_length, sCmpCompareInt, iCmpCompareInt, lCmpCompareInt, eCmpCompareInt]
theorem shr_gt (x y : Int) (r s o : List Int) (hr : r.length < 4294967295) (hs : s.length < 4294967295) (h0 : ¬ x < y) (h : y < x) : codeL cfgS 0 lTrianglesSharedIntX0 (sSt (x :: r) (y :: s) o []) = some (.normal, sSt (x :: r) s o []) := by
 have h1 : (0 : Int) < (r.length : Int) + 1 := by omega
 have h2 : (0 : Int) < (s.length : Int) + 1 := by omega
 have h3 : (1 : Int) <= (s.length : Int) + 1 := by omega
 have ht : List.take s.length (ints s) = ints s := List.take_of_length_le (by simp [ints])
 have hc : callL cfgS nCmpCompareInt [.int .i64 x, .int .i64 y] [] = some (.int .i64 1, []) := by rw [cmpI_run, cmpI, if_neg h0, if_pos h]
 unfold lTrianglesSharedIntX0 sSt
 simp [rTrianglesSharedIntX0, rTrianglesSharedIntX1, rTrianglesSharedIntX2, rTrianglesSharedIntX3, rTrianglesSharedIntX4, rTrianglesSharedIntX5, rTrianglesSharedIntX6, rTrianglesSharedIntX7, rTrianglesSharedIntX8, rTrianglesSharedIntX9, rTrianglesSharedIntX10, h1, h2, h3, ht, hc, idx, ints_cons, ints_length, sCmpCompareInt, iCmpCompareInt, lCmpCompareInt, eCmpCompareInt]
theorem shr_eq (x : Int) (r s o : List Int) (hr : r.length < 4294967295) (hs : s.length < 4294967295) (ho : o.length < 4294967295) : codeL cfgS 0 lTrianglesSharedIntX0 (sSt (x :: r) (x :: s) o []) = some (.normal, sSt r s (o ++ [x]) []) := by
 have h1 : (0 : Int) < (r.length : Int) + 1 := by omega
 have h2 : (0 : Int) < (s.length : Int) + 1 := by omega
 have h3 : (1 : Int) <= (s.length : Int) + 1 := by omega
 have h4 : (1 : Int) <= (r.length : Int) + 1 := by omega
 have ht : List.take s.length (ints s) = ints s := List.take_of_length_le (by simp [ints])
 have ht2 : List.take r.length (ints r) = ints r := List.take_of_length_le (by simp [ints])
 have hL : o.length + 1 <= 4294967296 := by omega
 have hc : callL cfgS nCmpCompareInt [.int .i64 x, .int .i64 x] [] = some (.int .i64 0, []) := by rw [cmpI_run, cmpI, if_neg (by omega), if_neg (by omega)]
 unfold lTrianglesSharedIntX0 sSt
 simp [rTrianglesSharedIntX0, rTrianglesSharedIntX1, rTrianglesSharedIntX2, rTrianglesSharedIntX3, rTrianglesSharedIntX4, rTrianglesSharedIntX5, rTrianglesSharedIntX6, rTrianglesSharedIntX7, rTrianglesSharedIntX8, rTrianglesSharedIntX9, rTrianglesSharedIntX10, h1, h2, h3, h4, ht, ht2, hL, hc, LIM, idx, ints_cons, ints_length, ints_snoc, ints_take, sCmpCompareInt, iCmpCompareInt, lCmpCompareInt, eCmpCompareInt]
theorem shr_loop : ∀ (n : Nat) (a b o : List Int), a.length + b.length = n -> a.length + o.length < 4294967295 -> b.length < 4294967295 -> ∃ a' b', codeL cfgS 0 (.loop lTrianglesSharedIntX0) (sSt a b o []) = some (.exit 0, sSt a' b' (o ++ shr a b) [(13, .bool false)]) := by
 intro n
 induction n using Nat.strongRecOn with
 | ind n ih =>
   intro a b o h ha hb
   cases a with
   | nil =>
     refine ⟨[], b, loop_exit ?_⟩
     rw [shr, List.append_nil]
     unfold lTrianglesSharedIntX0 sSt
     simp [rTrianglesSharedIntX0, rTrianglesSharedIntX1, rTrianglesSharedIntX2, rTrianglesSharedIntX3, rTrianglesSharedIntX4, rTrianglesSharedIntX5, rTrianglesSharedIntX6, rTrianglesSharedIntX7, rTrianglesSharedIntX8, rTrianglesSharedIntX9, rTrianglesSharedIntX10, ints_nil]
   | cons x r =>
     simp only [List.length_cons] at h ha
     have h1 : (0 : Int) < (r.length : Int) + 1 := by omega
     cases b with
     | nil =>
       refine ⟨x :: r, [], loop_exit ?_⟩
       rw [shr, List.append_nil]
       unfold lTrianglesSharedIntX0 sSt
       simp [rTrianglesSharedIntX0, rTrianglesSharedIntX1, rTrianglesSharedIntX2, rTrianglesSharedIntX3, rTrianglesSharedIntX4, rTrianglesSharedIntX5, rTrianglesSharedIntX6, rTrianglesSharedIntX7, rTrianglesSharedIntX8, rTrianglesSharedIntX9, rTrianglesSharedIntX10, h1, ints_nil, ints_cons, ints_length]
     | cons y s =>
       simp only [List.length_cons] at h hb
       rw [shr]
       split
       ·rename_i hlt
        obtain ⟨a', b', e⟩ := ih (r.length + (s.length + 1)) (by omega) r (y :: s) o (by simp) (by omega) (by simp; omega)
        exact ⟨a', b', (loop_next (shr_lt x y r s o (by omega) (by omega) hlt)).trans e⟩
       ·split
        ·rename_i h0 hlt
         obtain ⟨a', b', e⟩ := ih (r.length + 1 + s.length) (by omega) (x :: r) s o (by simp) (by simp; omega) (by omega)
         exact ⟨a', b', (loop_next (shr_gt x y r s o (by omega) (by omega) h0 hlt)).trans e⟩
        ·have e0 : y = x := by omega
         subst e0
         obtain ⟨a', b', e⟩ := ih (r.length + s.length) (by omega) r s (o ++ [y]) rfl (by simp; omega) (by omega)
         refine ⟨a', b', (loop_next (shr_eq y r s o (by omega) (by omega) (by omega))).trans ?_⟩
         rw [e, List.append_assoc]
         rfl
theorem shared_run (a b : List Int) (ha : a.length < 4294967295) (hb : b.length < 4294967295) : callL cfgS nTrianglesSharedInt [.list 1 (ints a), .list 1 (ints b)] [] = some (.list 1 (ints (shr a b)), []) := by
 rw [callL_end oTrianglesSharedInt sTrianglesSharedInt (Nat.le_of_ble_eq_true rfl)]
 obtain ⟨a', b', e⟩ := shr_loop _ a b [] rfl (by simpa using ha) hb
 have hl := shr_len _ a b rfl
 unfold qTrianglesSharedInt cTrianglesSharedInt
 unfold sSt at e
 rw [List.nil_append, ints_nil] at e
 have ht : List.take (shr a b).length (ints (shr a b)) = ints (shr a b) := List.take_of_length_le (by simp [ints])
 simp [rTrianglesSharedIntX0, rTrianglesSharedIntX1, rTrianglesSharedIntX2, rTrianglesSharedIntX3, rTrianglesSharedIntX4, rTrianglesSharedIntX5, rTrianglesSharedIntX6, rTrianglesSharedIntX7, rTrianglesSharedIntX8, rTrianglesSharedIntX9, rTrianglesSharedIntX10, e, ht, ints_length, endL, finB]
end Go.BmP
