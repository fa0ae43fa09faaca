/- Plain facts for runs by rewriting: rows of ints, appends. -/
import Derived.Test.YtppmiehidnpgbaaGreatDoorRunL
set_option linter.unusedVariables false
open List renaming map_cons → jE
namespace Go.Bm
open Go.Am
theorem hB (l : List Int) : aH (ints l) = ints l := by
 induction l with
 | nil => rfl
 | cons x r ih => simp only [ints,jE,aH,AV.cells] at ih ⊢; rw [ih]; rfl
theorem LK (l : List Int) : bz (ints l) = true := by
 induction l with
 | nil => rfl
 | cons x r ih => simp only [ints,jE,bz,AV.leaf] at ih ⊢; rw [ih]; rfl
theorem fG (l : List Int) : gz (ints l) = true := by
 induction l with
 | nil => rfl
 | cons x r ih => simp only [ints,jE,gz,pl] at ih ⊢; rw [ih]; rfl
theorem eB (l : List Int) (x : Int) : ints l ++ [.int .i64 x] = ints (l ++ [x]) := by simp [ints]
theorem F9 (l m : List Int) : ints l ++ ints m = ints (l ++ m) := by simp [ints]
theorem bY (l : List Int) (n : Nat) : (ints l).take n = ints (l.take n) := by simp [ints]
theorem fo (l : List Int) (n : Nat) : (ints l).drop n = ints (l.drop n) := by simp [ints]
theorem cV : ints [] = [] := rfl
theorem jD (x : Int) (l : List Int) : ints (x :: l) = .int .i64 x :: ints l := rfl
theorem ur {i : Nat} (h : i < 9223372036854775808) : IntKind.i64.wrap (i : Int) = (i : Int) := gK (by omega) (by omega)
theorem eT {i : Nat} (h : i < 9223372036854775807) : IntKind.i64.wrap ((i : Int) + 1) = ((i + 1 : Nat) : Int) := by rw [gK (by omega) (by omega)]; omega
theorem WA {c : eE} {f : Nat} {md : Md} {q : fK} {args : List AV} {H : Heap} (ho : KN c f args H = none) (hf : c.fn f = some (md,q)) (hl : args.length <= q.n) : br c f args H = bu c md q H.length (aW c H.length q.body ⟨ep 0 args,H⟩) := by
 unfold br lX;simp only [ho,hf,hl,if_true];generalize aW c H.length q.body ⟨ep 0 args,H⟩ = z;cases z with
 | none => rfl
 | some w =>
   obtain ⟨e,s⟩ := w;cases e <;> rfl
theorem Wz {c : eE} {f : Nat} {args : List AV} {H : Heap} {r : AV × Heap} (h : KN c f args H = some r) : br c f args H = some r := by
 unfold br lX;rw [h]
theorem fY : ((0 : Nat) : Int) = 0 := rfl
theorem aY {c : eE} {b : Nat} {x : C} {s s' : St} (h : aW c b x s = some (.normal,s')) : aW c b (.loop x) s = aW c b (.loop x) s' := by rw [qj,h]; rfl
theorem bw {c : eE} {b : Nat} {x : C} {s s' : St} {i : Nat} (h : aW c b x s = some (.exit i,s')) : aW c b (.loop x) s = some (.exit i,s') := by rw [qj,h]; rfl
theorem dK {c : eE} {b : Nat} {x : C} {s s' : St} (h : aW c b x s = some (.ret,s')) : aW c b (.loop x) s = some (.ret,s') := by rw [qj,h]; rfl
theorem e9 {c : eE} {b : Nat} {y : C} {s : St} : uu c b y (some (.normal,s)) = aW c b y s := rfl
theorem JW {c : eE} {b : Nat} {y : C} {s : St} {i : Nat} : uu c b y (some (.exit i,s)) = some (.exit i,s) := rfl
theorem aaG {c : eE} {b : Nat} {y : C} {s : St} : uu c b y (some (.ret,s)) = some (.ret,s) := rfl
theorem aan {i : Nat} {s : St} : WH i (some (.normal,s)) = some (.normal,s) := rfl
theorem GQ {i j : Nat} {s : St} : WH i (some (.exit j,s)) = if j = i then some (.normal,s) else some (.exit j,s) := rfl
theorem ahb {i : Nat} {s : St} : WH i (some (.ret,s)) = some (.ret,s) := rfl
theorem aca {c : eE} {b : Nat} {x y : C} {s : St} {t : Bool} : aeD c b x y s (.bool t) = if t = true then aW c b x s else aW c b y s := rfl
theorem XG {dr : Bool} {os : List O} {un : List (Nat × Nat)} {b : Nat} {keep : List Nat} {s : St} {oR : List Fq} : regL dr os un b keep (some (s,oR)) = if dr = false \/ Ju os oR un = true then (match QC b keep s with
 | some s2 => some (.normal,s2)
 | none => none) else none := rfl
theorem ahp : IntKind.i64.wrap 0 = 0 := by decide
theorem aho : IntKind.i64.wrap 1 = 1 := by decide
theorem aeQ : IntKind.i64.wrap (-1) = -1 := by decide
theorem HO {i : Int} {j : Nat} (e : i = (j : Int)) (h : j < 9223372036854775808) : IntKind.i64.wrap i = i := by subst e; exact ur h
theorem HV (l : List Int) (x : Int) : (l ++ [x]).take (l.length + 1) = l ++ [x] := List.take_of_length_le (by simp)
theorem Dr {l : List Int} {i : Nat} (h : l.length = i) (x : Int) : (l.take i ++ [x]).take (i + 1) = l ++ [x] := by subst h; rw [List.take_length,HV]
end Go.Bm
