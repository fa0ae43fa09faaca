/- Plain facts for runs by rewriting: rows of ints, appends. -/
import Derived.Test.YtmoginoicilobabGreatRunL
set_option linter.unusedVariables false
open List renaming map_cons → dR
namespace Go.Bm
open Go.Am
theorem FB (l : List Int) : aA (ints l) = ints l := by
 induction l with
 | nil => rfl
 | cons x r ih => simp only [ints,dR,aA,AV.cells] at ih ⊢; rw [ih]; rfl
theorem KZ (l : List Int) : bq (ints l) = true := by
 induction l with
 | nil => rfl
 | cons x r ih => simp only [ints,dR,bq,AV.leaf] at ih ⊢; rw [ih]; rfl
theorem yL (l : List Int) : dK (ints l) = true := by
 induction l with
 | nil => rfl
 | cons x r ih => simp only [ints,dR,dK,pl] at ih ⊢; rw [ih]; rfl
theorem jf (l : List Int) (x : Int) : ints l ++ [.int .i64 x] = ints (l ++ [x]) := by simp [ints]
theorem Fk (l m : List Int) : ints l ++ ints m = ints (l ++ m) := by simp [ints]
theorem gQ (l : List Int) (n : Nat) : (ints l).take n = ints (l.take n) := by simp [ints]
theorem H7 (l : List Int) (n : Nat) : (ints l).drop n = ints (l.drop n) := by simp [ints]
theorem gW : ints [] = [] := rfl
theorem lX (x : Int) (l : List Int) : ints (x :: l) = .int .i64 x :: ints l := rfl
theorem RG {i : Nat} (h : i < 9223372036854775808) : IntKind.i64.wrap (i : Int) = (i : Int) := cM (by omega) (by omega)
theorem fT {i : Nat} (h : i < 9223372036854775807) : IntKind.i64.wrap ((i : Int) + 1) = ((i + 1 : Nat) : Int) := by rw [cM (by omega) (by omega)]; omega
theorem IF {c : eG} {f : Nat} {md : Md} {q : eR} {args : List AV} {H : Heap} (ho : EN c f args H = none) (hf : c.fn f = some (md,q)) (hl : args.length <= q.n) : aY c f args H = ba c md q H.length (bL c H.length q.body ⟨ei 0 args,H⟩) := by
 unfold aY k7;simp only [ho,hf,hl,if_true];generalize bL c H.length q.body ⟨ei 0 args,H⟩ = z;cases z with
 | none => rfl
 | some w =>
   obtain ⟨e,s⟩ := w;cases e <;> rfl
theorem IE {c : eG} {f : Nat} {args : List AV} {H : Heap} {r : AV × Heap} (h : EN c f args H = some r) : aY c f args H = some r := by
 unfold aY k7;rw [h]
theorem iR : ((0 : Nat) : Int) = 0 := rfl
theorem bG {c : eG} {b : Nat} {x : C} {s s' : St} (h : bL c b x s = some (.normal,s')) : bL c b (.loop x) s = bL c b (.loop x) s' := by rw [x7,h]; rfl
theorem cj {c : eG} {b : Nat} {x : C} {s s' : St} {i : Nat} (h : bL c b x s = some (.exit i,s')) : bL c b (.loop x) s = some (.exit i,s') := by rw [x7,h]; rfl
theorem gr {c : eG} {b : Nat} {x : C} {s s' : St} (h : bL c b x s = some (.ret,s')) : bL c b (.loop x) s = some (.ret,s') := by rw [x7,h]; rfl
theorem yx {c : eG} {b : Nat} {y : C} {s : St} : LA c b y (some (.normal,s)) = bL c b y s := rfl
theorem abm {c : eG} {b : Nat} {y : C} {s : St} {i : Nat} : LA c b y (some (.exit i,s)) = some (.exit i,s) := rfl
theorem abl {c : eG} {b : Nat} {y : C} {s : St} : LA c b y (some (.ret,s)) = some (.ret,s) := rfl
theorem aa2 {i : Nat} {s : St} : blkL i (some (.normal,s)) = some (.normal,s) := rfl
theorem ahx {i j : Nat} {s : St} : blkL i (some (.exit j,s)) = if j = i then some (.normal,s) else some (.exit j,s) := rfl
theorem ahw {i : Nat} {s : St} : blkL i (some (.ret,s)) = some (.ret,s) := rfl
theorem acR {c : eG} {b : Nat} {x y : C} {s : St} {t : Bool} : aeP c b x y s (.bool t) = if t = true then bL c b x s else bL c b y s := rfl
theorem afd {dr : Bool} {os : List O} {un : List (Nat × Nat)} {b : Nat} {keep : List Nat} {s : St} {m9 : List Fq} : regL dr os un b keep (some (s,m9)) = if dr = false \/ It os m9 un = true then (match Wb b keep s with
 | some s2 => some (.normal,s2)
 | none => none) else none := rfl
theorem ahD : IntKind.i64.wrap 0 = 0 := by decide
theorem ahC : IntKind.i64.wrap 1 = 1 := by decide
theorem aeX : IntKind.i64.wrap (-1) = -1 := by decide
theorem adz {i : Int} {j : Nat} (e : i = (j : Int)) (h : j < 9223372036854775808) : IntKind.i64.wrap i = i := by subst e; exact RG h
theorem UW (l : List Int) (x : Int) : (l ++ [x]).take (l.length + 1) = l ++ [x] := List.take_of_length_le (by simp)
end Go.Bm
