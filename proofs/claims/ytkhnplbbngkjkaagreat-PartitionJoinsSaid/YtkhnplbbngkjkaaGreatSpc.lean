/- Plain facts for runs by rewriting: rows of ints, appends. -/
import Derived.Test.YtkhnplbbngkjkaaGreatRunL
import Derived.Test.YtkhnplbbngkjkaaGreatSetP
set_option linter.unusedVariables false
namespace Go.Bm
open Go.Am
theorem flatCells_ints (l : List Int) : flatCells (ints l) = ints l := by
 induction l with
 | nil => rfl
 | cons x r ih => simp only [ints, List.map_cons, flatCells, AV.cells] at ih ⊢; rw [ih]; rfl
theorem allLeaf_ints (l : List Int) : allLeaf (ints l) = true := by
 induction l with
 | nil => rfl
 | cons x r ih => simp only [ints, List.map_cons, allLeaf, AV.leaf] at ih ⊢; rw [ih]; rfl
theorem plL_ints (l : List Int) : plL (ints l) = true := by
 induction l with
 | nil => rfl
 | cons x r ih => simp only [ints, List.map_cons, plL, pl] at ih ⊢; rw [ih]; rfl
theorem ints_snoc (l : List Int) (x : Int) : ints l ++ [.int .i64 x] = ints (l ++ [x]) := by simp [ints]
theorem ints_app (l m : List Int) : ints l ++ ints m = ints (l ++ m) := by simp [ints]
theorem ints_take (l : List Int) (n : Nat) : (ints l).take n = ints (l.take n) := by simp [ints]
theorem ints_drop (l : List Int) (n : Nat) : (ints l).drop n = ints (l.drop n) := by simp [ints]
theorem ints_nil : ints [] = [] := rfl
theorem ints_cons (x : Int) (l : List Int) : ints (x :: l) = .int .i64 x :: ints l := rfl
theorem wrapN {i : Nat} (h : i < 9223372036854775808) : IntKind.i64.wrap (i : Int) = (i : Int) := wrap_id (by omega) (by omega)
theorem wrapS {i : Nat} (h : i < 9223372036854775807) : IntKind.i64.wrap ((i : Int) + 1) = ((i + 1 : Nat) : Int) := by rw [wrap_id (by omega) (by omega)]; omega
theorem callL_ofA {c : Cfg} {f : Nat} {md : Md} {q : AFn} {args : List AV} {H : Heap} (ho : orcA c f args H = none) (hf : c.fn f = some (md, q)) (hl : args.length <= q.n) : callL c f args H = endL c md q H.length (codeL c H.length q.body ⟨mkEnv 0 args, H⟩) := by
 unfold callL callW
 simp only [ho, hf, hl, if_true]
 generalize codeL c H.length q.body ⟨mkEnv 0 args, H⟩ = z
 cases z with
 | none => rfl
 | some w =>
   obtain ⟨e, s⟩ := w
   cases e <;> rfl
theorem callL_orc {c : Cfg} {f : Nat} {args : List AV} {H : Heap} {r : AV × Heap} (h : orcA c f args H = some r) : callL c f args H = some r := by
 unfold callL callW
 rw [h]
theorem nat0 : ((0 : Nat) : Int) = 0 := rfl
theorem loop_next {c : Cfg} {b : Nat} {x : C} {s s' : St} (h : codeL c b x s = some (.normal, s')) : codeL c b (.loop x) s = codeL c b (.loop x) s' := by rw [codeL_loop, h]; rfl
theorem loop_exit {c : Cfg} {b : Nat} {x : C} {s s' : St} {i : Nat} (h : codeL c b x s = some (.exit i, s')) : codeL c b (.loop x) s = some (.exit i, s') := by rw [codeL_loop, h]; rfl
theorem loop_ret {c : Cfg} {b : Nat} {x : C} {s s' : St} (h : codeL c b x s = some (.ret, s')) : codeL c b (.loop x) s = some (.ret, s') := by rw [codeL_loop, h]; rfl
theorem thenL_n {c : Cfg} {b : Nat} {y : C} {s : St} : thenL c b y (some (.normal, s)) = codeL c b y s := rfl
theorem thenL_e {c : Cfg} {b : Nat} {y : C} {s : St} {i : Nat} : thenL c b y (some (.exit i, s)) = some (.exit i, s) := rfl
theorem thenL_r {c : Cfg} {b : Nat} {y : C} {s : St} : thenL c b y (some (.ret, s)) = some (.ret, s) := rfl
theorem blkL_n {i : Nat} {s : St} : blkL i (some (.normal, s)) = some (.normal, s) := rfl
theorem blkL_e {i j : Nat} {s : St} : blkL i (some (.exit j, s)) = if j = i then some (.normal, s) else some (.exit j, s) := rfl
theorem blkL_r {i : Nat} {s : St} : blkL i (some (.ret, s)) = some (.ret, s) := rfl
theorem condL_b {c : Cfg} {b : Nat} {x y : C} {s : St} {t : Bool} : condL c b x y s (.bool t) = if t = true then codeL c b x s else codeL c b y s := rfl
theorem regL_s {dr : Bool} {os : List O} {un : List (Nat × Nat)} {b : Nat} {keep : List Nat} {s : St} {fls : List Fq} : regL dr os un b keep (some (s, fls)) = if dr = false \/ drawB os fls un = true then (match endR b keep s with
 | some s2 => some (.normal, s2)
 | none => none) else none := rfl
theorem wrap0 : IntKind.i64.wrap 0 = 0 := by decide
theorem wrap1 : IntKind.i64.wrap 1 = 1 := by decide
theorem wrapm1 : IntKind.i64.wrap (-1) = -1 := by decide
theorem wrapZ {i : Int} {j : Nat} (e : i = (j : Int)) (h : j < 9223372036854775808) : IntKind.i64.wrap i = i := by subst e; exact wrapN h
theorem take_snoc (l : List Int) (x : Int) : (l ++ [x]).take (l.length + 1) = l ++ [x] := List.take_of_length_le (by simp)
end Go.Bm
/- What functions on lists of ints answer, in plain terms. -/
set_option linter.unusedVariables false
set_option linter.unusedSimpArgs false
namespace Go.Bm
open Go.Am
def cmpL : List Int -> List Int -> Int
 | [], [] => 0
 | [], _ :: _ => -1
 | _ :: _, [] => 1
 | x :: r, y :: s => if y < x then 1 else if x < y then -1 else cmpL r s
def valGo (n : Int) : Int -> List Int -> Bool
 | _, [] => true
 | p, x :: r => decide (0 <= x) && (decide (x < n) && (decide (p < x) && valGo n x r))
theorem valGo_iff (n : Int) : ∀ {l : List Int} {p : Int}, valGo n p l = true ↔ Up l /\ ∀ x ∈ l, p < x /\ 0 <= x /\ x < n
 | [], p => by simp [valGo, Up]
 | x :: r, p => by
   have ih := valGo_iff n (l := r) (p := x)
   simp only [valGo, Bool.and_eq_true, decide_eq_true_eq, ih, Up, List.pairwise_cons, List.mem_cons, forall_eq_or_imp]
   constructor
   ·rintro ⟨h1, h2, h3, h4, h5⟩
    exact ⟨⟨fun y hy => (h5 y hy).1, h4⟩, ⟨h3, h1, h2⟩, fun y hy => ⟨by have := (h5 y hy).1; omega, (h5 y hy).2⟩⟩
   ·rintro ⟨⟨h1, h2⟩, ⟨h3, h4, h5⟩, h6⟩
    exact ⟨h4, h5, h3, h2, fun y hy => ⟨h1 y hy, (h6 y hy).2⟩⟩
def prev (l : List Int) (i : Nat) : Int := if i = 0 then -1 else l.getD (i - 1) 0
theorem prev_zero (l : List Int) : prev l 0 = -1 := rfl
theorem prev_succ (l : List Int) (i : Nat) (h : i < l.length) : prev l (i + 1) = l[i] := by simp [prev, h]
def putI (x : Int) : List Int -> List Int
 | [] => [x]
 | y :: r => if y < x then y :: putI x r else if y = x then y :: r else x :: y :: r
theorem putI_len (x : Int) : ∀ l, (putI x l).length <= l.length + 1
 | [] => by simp [putI]
 | y :: r => by
   have := putI_len x r
   unfold putI
   split
   ·simp; omega
   ·split <;> simp
theorem putI_mem (x z : Int) : ∀ l, z ∈ putI x l ↔ z = x \/ z ∈ l
 | [] => by simp [putI]
 | y :: r => by
   have ih := putI_mem x z r
   unfold putI
   split
   ·simp only [List.mem_cons, ih]; constructor <;> (intro h; rcases h with h | h | h <;> simp [h])
   ·split
    ·rename_i e; subst e; simp
    ·simp
theorem putI_up (x : Int) : ∀ {l}, Up l -> Up (putI x l)
 | [], _ => by simp [putI, Up]
 | y :: r, h => by
   obtain ⟨h1, h2⟩ := List.pairwise_cons.1 h
   unfold putI
   split
   ·rename_i hlt
    refine List.pairwise_cons.2 ⟨fun z hz => ?_, putI_up x h2⟩
    rcases (putI_mem x z r).1 hz with e | e
    ·omega
    ·exact h1 z e
   ·split
    ·exact h
    ·refine List.pairwise_cons.2 ⟨fun z hz => ?_, h⟩
     rcases List.mem_cons.1 hz with e | e
     ·omega
     ·have := h1 z e; omega
def pos (x : Int) : List Int -> Nat
 | [] => 0
 | y :: r => if y < x then pos x r + 1 else 0
theorem pos_le (x : Int) : ∀ l, pos x l <= l.length
 | [] => by simp [pos]
 | y :: r => by have := pos_le x r; unfold pos; split <;> simp <;> omega
theorem putI_pos (x : Int) : ∀ l, putI x l = if l[pos x l]? = some x then l else l.take (pos x l) ++ x :: l.drop (pos x l)
 | [] => by simp [putI, pos]
 | y :: r => by
   have ih := putI_pos x r
   unfold putI pos
   split
   ·rw [ih]
    simp only [List.getElem?_cons_succ, List.take_succ_cons, List.drop_succ_cons]
    split <;> simp
   ·simp only [List.getElem?_cons_zero, Option.some.injEq, List.take_zero, List.drop_zero, List.nil_append]
def ofL (l : List Int) : List Int := l.foldl (fun o x => putI x o) []
theorem fold_up : ∀ (l o : List Int), Up o -> Up (l.foldl (fun o x => putI x o) o) /\ ∀ z, z ∈ l.foldl (fun o x => putI x o) o ↔ z ∈ o \/ z ∈ l
 | [], o, h => ⟨h, fun z => by simp⟩
 | x :: r, o, h => by
   obtain ⟨h1, h2⟩ := fold_up r (putI x o) (putI_up x h)
   refine ⟨h1, fun z => ?_⟩
   rw [List.foldl_cons, h2, putI_mem]
   simp only [List.mem_cons]
   constructor
   ·rintro ((h | h) | h) <;> simp [h]
   ·rintro (h | h | h) <;> simp [h]
theorem ofL_eq (l : List Int) : ofL l = setOf l := by
 obtain ⟨h1, h2⟩ := fold_up l [] (by simp [Up])
 obtain ⟨h3, h4⟩ := setOf_spec l
 exact up_ext h1 h3 fun x => by rw [h4]; exact (h2 x).trans (by simp)
end Go.Bm
