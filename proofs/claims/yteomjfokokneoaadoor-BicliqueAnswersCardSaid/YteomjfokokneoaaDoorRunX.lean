/- Plain facts for runs by rewriting: rows of ints, appends. -/
import Derived.Test.YteomjfokokneoaaDoorRunL
set_option linter.unusedVariables false
open List renaming map_cons → iY
namespace Go.Bm
open Go.Am
theorem FH (l : List Int) : aE (ints l) = ints l := by
 induction l with
 | nil => rfl
 | cons x r ih => simp only [ints,iY,aE,AV.cells] at ih ⊢; rw [ih]; rfl
theorem Kg (l : List Int) : bm (ints l) = true := by
 induction l with
 | nil => rfl
 | cons x r ih => simp only [ints,iY,bm,AV.leaf] at ih ⊢; rw [ih]; rfl
theorem jV (l : List Int) : j5 (ints l) = true := by
 induction l with
 | nil => rfl
 | cons x r ih => simp only [ints,iY,j5,pl] at ih ⊢; rw [ih]; rfl
theorem ez (l : List Int) (x : Int) : ints l ++ [.int .i64 x] = ints (l ++ [x]) := by simp [ints]
theorem M6 (l m : List Int) : ints l ++ ints m = ints (l ++ m) := by simp [ints]
theorem bR (l : List Int) (n : Nat) : (ints l).take n = ints (l.take n) := by simp [ints]
theorem fy (l : List Int) (n : Nat) : (ints l).drop n = ints (l.drop n) := by simp [ints]
theorem cD : ints [] = [] := rfl
theorem kv (x : Int) (l : List Int) : ints (x :: l) = .int .i64 x :: ints l := rfl
theorem oQ {i : Nat} (h : i < 9223372036854775808) : IntKind.i64.wrap (i : Int) = (i : Int) := yj (by omega) (by omega)
theorem fm {i : Nat} (h : i < 9223372036854775807) : IntKind.i64.wrap ((i : Int) + 1) = ((i + 1 : Nat) : Int) := by rw [yj (by omega) (by omega)]; omega
theorem Vd {c : dN} {f : Nat} {md : Md} {q : fO} {args : List AV} {H : Heap} (ho : JD c f args H = none) (hf : c.fn f = some (md,q)) (hl : args.length <= q.n) : bk c f args H = aP c md q H.length (aU c H.length q.body ⟨dH 0 args,H⟩) := by
 unfold bk kX;simp only [ho,hf,hl,if_true];generalize aU c H.length q.body ⟨dH 0 args,H⟩ = z;cases z with
 | none => rfl
 | some w =>
   obtain ⟨e,s⟩ := w;cases e <;> rfl
theorem Vc {c : dN} {f : Nat} {args : List AV} {H : Heap} {r : AV × Heap} (h : JD c f args H = some r) : bk c f args H = some r := by
 unfold bk kX;rw [h]
theorem jj : ((0 : Nat) : Int) = 0 := rfl
theorem ba {c : dN} {b : Nat} {x : C} {s s' : St} (h : aU c b x s = some (.normal,s')) : aU c b (.loop x) s = aU c b (.loop x) s' := by rw [pz,h]; rfl
theorem bC {c : dN} {b : Nat} {x : C} {s s' : St} {i : Nat} (h : aU c b x s = some (.exit i,s')) : aU c b (.loop x) s = some (.exit i,s') := by rw [pz,h]; rfl
theorem dj {c : dN} {b : Nat} {x : C} {s s' : St} (h : aU c b x s = some (.ret,s')) : aU c b (.loop x) s = some (.ret,s') := by rw [pz,h]; rfl
theorem b9 {c : dN} {b : Nat} {y : C} {s : St} : iP c b y (some (.normal,s)) = aU c b y s := rfl
theorem CM {c : dN} {b : Nat} {y : C} {s : St} {i : Nat} : iP c b y (some (.exit i,s)) = some (.exit i,s) := rfl
theorem CL {c : dN} {b : Nat} {y : C} {s : St} : iP c b y (some (.ret,s)) = some (.ret,s) := rfl
theorem YQ {i : Nat} {s : St} : CH i (some (.normal,s)) = some (.normal,s) := rfl
theorem Gg {i j : Nat} {s : St} : CH i (some (.exit j,s)) = if j = i then some (.normal,s) else some (.exit j,s) := rfl
theorem Qa {i : Nat} {s : St} : CH i (some (.ret,s)) = some (.ret,s) := rfl
theorem aaR {c : dN} {b : Nat} {x y : C} {s : St} {t : Bool} : acu c b x y s (.bool t) = if t = true then aU c b x s else aU c b y s := rfl
theorem Wb {dr : Bool} {os : List O} {un : List (Nat × Nat)} {b : Nat} {keep : List Nat} {s : St} {nU : List Fq} : regL dr os un b keep (some (s,nU)) = if dr = false \/ IV os nU un = true then (match PR b keep s with
 | some s2 => some (.normal,s2)
 | none => none) else none := rfl
theorem aep : IntKind.i64.wrap 0 = 0 := by decide
theorem aeo : IntKind.i64.wrap 1 = 1 := by decide
theorem acE : IntKind.i64.wrap (-1) = -1 := by decide
theorem Dd {i : Int} {j : Nat} (e : i = (j : Int)) (h : j < 9223372036854775808) : IntKind.i64.wrap i = i := by subst e; exact oQ h
theorem Hc (l : List Int) (x : Int) : (l ++ [x]).take (l.length + 1) = l ++ [x] := List.take_of_length_le (by simp)
theorem OG {l : List Int} {i : Nat} (h : l.length = i) (x : Int) : (l.take i ++ [x]).take (i + 1) = l ++ [x] := by subst h; rw [List.take_length,Hc]
end Go.Bm
