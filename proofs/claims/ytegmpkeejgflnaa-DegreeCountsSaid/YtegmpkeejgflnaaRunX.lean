/- Plain facts for runs by rewriting: rows of ints, appends. -/
import Derived.Test.YtegmpkeejgflnaaRunL
set_option linter.unusedVariables false
namespace Go.Bm
open Go.Am
theorem flatCells_ints (l : List Int) : flatCells (ints l) = ints l := by
 induction l with
 | nil => rfl
 | cons x r ih => simp only [ints, List.map_cons, flatCells, AV.cells] at ih ⊢; rw [ih]; rfl
theorem allLeaf_ints (l : List Int) : allLeaf (ints l) = true := by
 induction l with
 | nil => rfl
 | cons x r ih => simp only [ints, List.map_cons, allLeaf, AV.leaf] at ih ⊢; rw [ih]; rfl
theorem plL_ints (l : List Int) : plL (ints l) = true := by
 induction l with
 | nil => rfl
 | cons x r ih => simp only [ints, List.map_cons, plL, pl] at ih ⊢; rw [ih]; rfl
theorem ints_snoc (l : List Int) (x : Int) : ints l ++ [.int .i64 x] = ints (l ++ [x]) := by simp [ints]
theorem ints_app (l m : List Int) : ints l ++ ints m = ints (l ++ m) := by simp [ints]
theorem ints_take (l : List Int) (n : Nat) : (ints l).take n = ints (l.take n) := by simp [ints]
theorem ints_drop (l : List Int) (n : Nat) : (ints l).drop n = ints (l.drop n) := by simp [ints]
theorem ints_nil : ints [] = [] := rfl
theorem ints_cons (x : Int) (l : List Int) : ints (x :: l) = .int .i64 x :: ints l := rfl
theorem wrapN {i : Nat} (h : i < 9223372036854775808) : IntKind.i64.wrap (i : Int) = (i : Int) := wrap_id (by omega) (by omega)
theorem wrapS {i : Nat} (h : i < 9223372036854775807) : IntKind.i64.wrap ((i : Int) + 1) = ((i + 1 : Nat) : Int) := by rw [wrap_id (by omega) (by omega)]; omega
theorem callL_ofA {c : Cfg} {f : Nat} {md : Md} {q : AFn} {args : List AV} {H : Heap} (ho : orcA c f args H = none) (hf : c.fn f = some (md, q)) (hl : args.length <= q.n) : callL c f args H = endL c md q H.length (codeL c H.length q.body ⟨mkEnv 0 args, H⟩) := by
 unfold callL callW
 simp only [ho, hf, hl, if_true]
 generalize codeL c H.length q.body ⟨mkEnv 0 args, H⟩ = z
 cases z with
 | none => rfl
 | some w =>
   obtain ⟨e, s⟩ := w
   cases e <;> rfl
theorem callL_orc {c : Cfg} {f : Nat} {args : List AV} {H : Heap} {r : AV × Heap} (h : orcA c f args H = some r) : callL c f args H = some r := by
 unfold callL callW
 rw [h]
theorem nat0 : ((0 : Nat) : Int) = 0 := rfl
theorem loop_next {c : Cfg} {b : Nat} {x : C} {s s' : St} (h : codeL c b x s = some (.normal, s')) : codeL c b (.loop x) s = codeL c b (.loop x) s' := by rw [codeL_loop, h]; rfl
theorem loop_exit {c : Cfg} {b : Nat} {x : C} {s s' : St} {i : Nat} (h : codeL c b x s = some (.exit i, s')) : codeL c b (.loop x) s = some (.exit i, s') := by rw [codeL_loop, h]; rfl
theorem loop_ret {c : Cfg} {b : Nat} {x : C} {s s' : St} (h : codeL c b x s = some (.ret, s')) : codeL c b (.loop x) s = some (.ret, s') := by rw [codeL_loop, h]; rfl
theorem thenL_n {c : Cfg} {b : Nat} {y : C} {s : St} : thenL c b y (some (.normal, s)) = codeL c b y s := rfl
theorem thenL_e {c : Cfg} {b : Nat} {y : C} {s : St} {i : Nat} : thenL c b y (some (.exit i, s)) = some (.exit i, s) := rfl
theorem thenL_r {c : Cfg} {b : Nat} {y : C} {s : St} : thenL c b y (some (.ret, s)) = some (.ret, s) := rfl
theorem blkL_n {i : Nat} {s : St} : blkL i (some (.normal, s)) = some (.normal, s) := rfl
theorem blkL_e {i j : Nat} {s : St} : blkL i (some (.exit j, s)) = if j = i then some (.normal, s) else some (.exit j, s) := rfl
theorem blkL_r {i : Nat} {s : St} : blkL i (some (.ret, s)) = some (.ret, s) := rfl
theorem condL_b {c : Cfg} {b : Nat} {x y : C} {s : St} {t : Bool} : condL c b x y s (.bool t) = if t = true then codeL c b x s else codeL c b y s := rfl
theorem regL_s {dr : Bool} {os : List O} {un : List (Nat × Nat)} {b : Nat} {keep : List Nat} {s : St} {fls : List Fq} : regL dr os un b keep (some (s, fls)) = if dr = false \/ drawB os fls un = true then (match endR b keep s with
 | some s2 => some (.normal, s2)
 | none => none) else none := rfl
theorem wrap0 : IntKind.i64.wrap 0 = 0 := by decide
theorem wrap1 : IntKind.i64.wrap 1 = 1 := by decide
theorem wrapm1 : IntKind.i64.wrap (-1) = -1 := by decide
theorem wrapZ {i : Int} {j : Nat} (e : i = (j : Int)) (h : j < 9223372036854775808) : IntKind.i64.wrap i = i := by subst e; exact wrapN h
theorem take_snoc (l : List Int) (x : Int) : (l ++ [x]).take (l.length + 1) = l ++ [x] := List.take_of_length_le (by simp)
end Go.Bm
