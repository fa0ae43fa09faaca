/- Plain facts for runs by rewriting: rows of ints, appends. -/
import Derived.Test.YtmoginoicilobaaGreatDoorRunL
set_option linter.unusedVariables false
open List renaming map_cons → dN
namespace Go.Bm
open Go.Am
theorem Gc (l : List Int) : aG (ints l) = ints l := by
 induction l with
 | nil => rfl
 | cons x r ih => simp only [ints,dN,aG,AV.cells] at ih ⊢; rw [ih]; rfl
theorem Lg (l : List Int) : bq (ints l) = true := by
 induction l with
 | nil => rfl
 | cons x r ih => simp only [ints,dN,bq,AV.leaf] at ih ⊢; rw [ih]; rfl
theorem u7 (l : List Int) : df (ints l) = true := by
 induction l with
 | nil => rfl
 | cons x r ih => simp only [ints,dN,df,pl] at ih ⊢; rw [ih]; rfl
theorem er (l : List Int) (x : Int) : ints l ++ [.int .i64 x] = ints (l ++ [x]) := by simp [ints]
theorem FU (l m : List Int) : ints l ++ ints m = ints (l ++ m) := by simp [ints]
theorem dE (l : List Int) (n : Nat) : (ints l).take n = ints (l.take n) := by simp [ints]
theorem Bg (l : List Int) (n : Nat) : (ints l).drop n = ints (l.drop n) := by simp [ints]
theorem ec : ints [] = [] := rfl
theorem pj (x : Int) (l : List Int) : ints (x :: l) = .int .i64 x :: ints l := rfl
theorem HB {i : Nat} (h : i < 9223372036854775808) : IntKind.i64.wrap (i : Int) = (i : Int) := cS (by omega) (by omega)
theorem dw {i : Nat} (h : i < 9223372036854775807) : IntKind.i64.wrap ((i : Int) + 1) = ((i + 1 : Nat) : Int) := by rw [cS (by omega) (by omega)]; omega
theorem Vq {c : dR} {f : Nat} {md : Md} {q : eB} {args : List AV} {H : Heap} (ho : O8 c f args H = none) (hf : c.fn f = some (md,q)) (hl : args.length <= q.n) : bf c f args H = aY c md q H.length (bj c H.length q.body ⟨dJ 0 args,H⟩) := by
 unfold bf mQ;simp only [ho,hf,hl,if_true];generalize bj c H.length q.body ⟨dJ 0 args,H⟩ = z;cases z with
 | none => rfl
 | some w =>
   obtain ⟨e,s⟩ := w;cases e <;> rfl
theorem iB : ((0 : Nat) : Int) = 0 := rfl
theorem aR {c : dR} {b : Nat} {x : C} {s s' : St} (h : bj c b x s = some (.normal,s')) : bj c b (.loop x) s = bj c b (.loop x) s' := by rw [yx,h]; rfl
theorem bm {c : dR} {b : Nat} {x : C} {s s' : St} {i : Nat} (h : bj c b x s = some (.exit i,s')) : bj c b (.loop x) s = some (.exit i,s') := by rw [yx,h]; rfl
theorem dj {c : dR} {b : Nat} {x : C} {s s' : St} (h : bj c b x s = some (.ret,s')) : bj c b (.loop x) s = some (.ret,s') := by rw [yx,h]; rfl
theorem oX {c : dR} {b : Nat} {y : C} {s : St} : HH c b y (some (.normal,s)) = bj c b y s := rfl
theorem aao {c : dR} {b : Nat} {y : C} {s : St} {i : Nat} : HH c b y (some (.exit i,s)) = some (.exit i,s) := rfl
theorem aan {c : dR} {b : Nat} {y : C} {s : St} : HH c b y (some (.ret,s)) = some (.ret,s) := rfl
theorem Z2 {i : Nat} {s : St} : blkL i (some (.normal,s)) = some (.normal,s) := rfl
theorem afJ {i j : Nat} {s : St} : blkL i (some (.exit j,s)) = if j = i then some (.normal,s) else some (.exit j,s) := rfl
theorem afI {i : Nat} {s : St} : blkL i (some (.ret,s)) = some (.ret,s) := rfl
theorem abA {c : dR} {b : Nat} {x y : C} {s : St} {t : Bool} : adq c b x y s (.bool t) = if t = true then bj c b x s else bj c b y s := rfl
theorem WK {dr : Bool} {os : List O} {un : List (Nat × Nat)} {b : Nat} {keep : List Nat} {s : St} {oL : List Fq} : regL dr os un b keep (some (s,oL)) = if dr = false \/ Jc os oL un = true then (match PZ b keep s with
 | some s2 => some (.normal,s2)
 | none => none) else none := rfl
theorem afQ : IntKind.i64.wrap 0 = 0 := by decide
theorem afP : IntKind.i64.wrap 1 = 1 := by decide
theorem adC : IntKind.i64.wrap (-1) = -1 := by decide
theorem acj {i : Int} {j : Nat} (e : i = (j : Int)) (h : j < 9223372036854775808) : IntKind.i64.wrap i = i := by subst e; exact HB h
theorem Ua (l : List Int) (x : Int) : (l ++ [x]).take (l.length + 1) = l ++ [x] := List.take_of_length_le (by simp)
end Go.Bm
