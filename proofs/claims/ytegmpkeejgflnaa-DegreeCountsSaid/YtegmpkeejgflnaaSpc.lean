/- What functions on lists of ints answer, in plain terms. -/
import Derived.Test.YtegmpkeejgflnaaSetP
set_option linter.unusedVariables false
set_option linter.unusedSimpArgs false
namespace Go.Bm
open Go.Am
def cmpL : List Int -> List Int -> Int
 | [], [] => 0
 | [], _ :: _ => -1
 | _ :: _, [] => 1
 | x :: r, y :: s => if y < x then 1 else if x < y then -1 else cmpL r s
theorem cmpL_zero : ∀ {a b : List Int}, cmpL a b = 0 ↔ a = b
 | [], [] => by simp [cmpL]
 | [], _ :: _ => by simp [cmpL]
 | _ :: _, [] => by simp [cmpL]
 | x :: r, y :: s => by
   have ih := cmpL_zero (a := r) (b := s)
   unfold cmpL
   split
   ·rename_i h; simp; intro e; omega
   ·split
    ·rename_i h; simp; intro e; omega
    ·rw [ih]; simp; intro _; omega
def valGo (n : Int) : Int -> List Int -> Bool
 | _, [] => true
 | p, x :: r => decide (0 <= x) && (decide (x < n) && (decide (p < x) && valGo n x r))
def prev (l : List Int) (i : Nat) : Int := if i = 0 then -1 else l.getD (i - 1) 0
def putI (x : Int) : List Int -> List Int
 | [] => [x]
 | y :: r => if y < x then y :: putI x r else if y = x then y :: r else x :: y :: r
theorem putI_len (x : Int) : ∀ l, (putI x l).length <= l.length + 1
 | [] => by simp [putI]
 | y :: r => by
   have := putI_len x r
   unfold putI
   split
   ·simp; omega
   ·split <;> simp
theorem putI_mem (x z : Int) : ∀ l, z ∈ putI x l ↔ z = x \/ z ∈ l
 | [] => by simp [putI]
 | y :: r => by
   have ih := putI_mem x z r
   unfold putI
   split
   ·simp only [List.mem_cons, ih]; constructor <;> (intro h; rcases h with h | h | h <;> simp [h])
   ·split
    ·rename_i e; subst e; simp
    ·simp
theorem putI_up (x : Int) : ∀ {l}, Up l -> Up (putI x l)
 | [], _ => by simp [putI, Up]
 | y :: r, h => by
   obtain ⟨h1, h2⟩ := List.pairwise_cons.1 h
   unfold putI
   split
   ·rename_i hlt
    refine List.pairwise_cons.2 ⟨fun z hz => ?_, putI_up x h2⟩
    rcases (putI_mem x z r).1 hz with e | e
    ·omega
    ·exact h1 z e
   ·split
    ·exact h
    ·refine List.pairwise_cons.2 ⟨fun z hz => ?_, h⟩
     rcases List.mem_cons.1 hz with e | e
     ·omega
     ·have := h1 z e; omega
def pos (x : Int) : List Int -> Nat
 | [] => 0
 | y :: r => if y < x then pos x r + 1 else 0
theorem pos_le (x : Int) : ∀ l, pos x l <= l.length
 | [] => by simp [pos]
 | y :: r => by have := pos_le x r; unfold pos; split <;> simp <;> omega
theorem putI_pos (x : Int) : ∀ l, putI x l = if l[pos x l]? = some x then l else l.take (pos x l) ++ x :: l.drop (pos x l)
 | [] => by simp [putI, pos]
 | y :: r => by
   have ih := putI_pos x r
   unfold putI pos
   split
   ·rw [ih]
    simp only [List.getElem?_cons_succ, List.take_succ_cons, List.drop_succ_cons]
    split <;> simp
   ·simp only [List.getElem?_cons_zero, Option.some.injEq, List.take_zero, List.drop_zero, List.nil_append]
def ofL (l : List Int) : List Int := l.foldl (fun o x => putI x o) []
theorem fold_up : ∀ (l o : List Int), Up o -> Up (l.foldl (fun o x => putI x o) o) /\ ∀ z, z ∈ l.foldl (fun o x => putI x o) o ↔ z ∈ o \/ z ∈ l
 | [], o, h => ⟨h, fun z => by simp⟩
 | x :: r, o, h => by
   obtain ⟨h1, h2⟩ := fold_up r (putI x o) (putI_up x h)
   refine ⟨h1, fun z => ?_⟩
   rw [List.foldl_cons, h2, putI_mem]
   simp only [List.mem_cons]
   constructor
   ·rintro ((h | h) | h) <;> simp [h]
   ·rintro (h | h | h) <;> simp [h]
theorem ofL_eq (l : List Int) : ofL l = setOf l := by
 obtain ⟨h1, h2⟩ := fold_up l [] (by simp [Up])
 obtain ⟨h3, h4⟩ := setOf_spec l
 exact up_ext h1 h3 fun x => by rw [h4]; exact (h2 x).trans (by simp)
end Go.Bm
