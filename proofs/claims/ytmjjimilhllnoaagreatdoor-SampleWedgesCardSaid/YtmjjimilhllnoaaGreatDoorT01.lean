/- What two ascending lists have in common, as triangles.shared finds it. -/
import Derived.Test.YtmjjimilhllnoaaGreatDoorUseM
import Derived.Test.YtmjjimilhllnoaaGreatDoorR02d
import Derived.Test.YtmjjimilhllnoaaGreatDoorBicP
set_option linter.unusedSimpArgs false
set_option linter.unusedVariables false
set_option maxRecDepth 100000
set_option maxHeartbeats 4000000
namespace Go.BmP
open Go.Am Go.Bm
def shr : List Int -> List Int -> List Int
 | [], _ => []
 | _ :: _, [] => []
 | x :: r, y :: s => if x < y then shr r (y :: s) else if y < x then shr (x :: r) s else x :: shr r s
termination_by a b => a.length + b.length
theorem shr_len : ∀ (n : Nat) (a b : List Int), a.length + b.length = n -> (shr a b).length <= a.length /\ (shr a b).length <= b.length := by
 intro n
 induction n using Nat.strongRecOn with
 | ind n ih =>
   intro a b h
   cases a with
   | nil => simp [shr]
   | cons x r =>
     cases b with
     | nil => simp [shr]
     | cons y s =>
       rw [shr]
       simp only [List.length_cons] at h ⊢
       split
       ·have := ih (r.length + (s.length + 1)) (by omega) r (y :: s) (by simp)
        simp only [List.length_cons] at this
        omega
       ·split
        ·have := ih (r.length + 1 + s.length) (by omega) (x :: r) s (by simp)
         simp only [List.length_cons] at this
         omega
        ·have := ih (r.length + s.length) (by omega) r s rfl
         simp only [List.length_cons]
         omega
theorem shr_mem (z : Int) : ∀ (n : Nat) (a b : List Int), a.length + b.length = n -> Up a -> Up b -> (z ∈ shr a b ↔ z ∈ a /\ z ∈ b) := by
 intro n
 induction n using Nat.strongRecOn with
 | ind n ih =>
   intro a b h ha hb
   cases a with
   | nil => simp [shr]
   | cons x r =>
     cases b with
     | nil => simp [shr]
     | cons y s =>
       obtain ⟨a1, a2⟩ := List.pairwise_cons.1 ha
       obtain ⟨b1, b2⟩ := List.pairwise_cons.1 hb
       rw [shr]
       simp only [List.length_cons] at h
       split
       ·rename_i hlt
        rw [ih (r.length + (s.length + 1)) (by omega) r (y :: s) (by simp) a2 hb]
        constructor
        ·rintro ⟨h1, h2⟩; exact ⟨List.mem_cons_of_mem _ h1, h2⟩
        ·rintro ⟨h1, h2⟩
         rcases List.mem_cons.1 h1 with e | e
         ·subst e
          rcases List.mem_cons.1 h2 with e | e
          ·omega
          ·have := b1 z e; omega
         ·exact ⟨e, h2⟩
       ·split
        ·rename_i h1 hlt
         rw [ih (r.length + 1 + s.length) (by omega) (x :: r) s (by simp) ha b2]
         constructor
         ·rintro ⟨h1, h2⟩; exact ⟨h1, List.mem_cons_of_mem _ h2⟩
         ·rintro ⟨k1, h2⟩
          rcases List.mem_cons.1 h2 with e | e
          ·subst e
           rcases List.mem_cons.1 k1 with e | e
           ·omega
           ·have := a1 z e; omega
          ·exact ⟨k1, e⟩
        ·have e : x = y := by omega
         subst e
         rw [List.mem_cons, ih (r.length + s.length) (by omega) r s rfl a2 b2]
         simp only [List.mem_cons]
         constructor
         ·rintro (h | ⟨h1, h2⟩)
          ·exact ⟨.inl h, .inl h⟩
          ·exact ⟨.inr h1, .inr h2⟩
         ·rintro ⟨h1 | h1, h2 | h2⟩
          ·exact .inl h1
          ·exact .inl h1
          ·exact .inl h2
          ·exact .inr ⟨h1, h2⟩
theorem shr_up : ∀ (n : Nat) (a b : List Int), a.length + b.length = n -> Up a -> Up b -> Up (shr a b) := by
 intro n
 induction n using Nat.strongRecOn with
 | ind n ih =>
   intro a b h ha hb
   cases a with
   | nil => simp [shr, Up]
   | cons x r =>
     cases b with
     | nil => simp [shr, Up]
     | cons y s =>
       obtain ⟨a1, a2⟩ := List.pairwise_cons.1 ha
       obtain ⟨b1, b2⟩ := List.pairwise_cons.1 hb
       rw [shr]
       simp only [List.length_cons] at h
       split
       ·exact ih (r.length + (s.length + 1)) (by omega) r (y :: s) (by simp) a2 hb
       ·split
        ·exact ih (r.length + 1 + s.length) (by omega) (x :: r) s (by simp) ha b2
        ·refine List.pairwise_cons.2 ⟨fun z hz => ?_, ih (r.length + s.length) (by omega) r s rfl a2 b2⟩
         exact a1 z ((shr_mem z _ r s rfl a2 b2).1 hz).1
def sSt (a b o : List Int) (J : Env) : St := ⟨(0, .list 1 (ints a)) :: (1, .list 1 (ints b)) :: (5, .own 1 (ints o)) :: J, []⟩
end Go.BmP
