/- Rules for runs by rewriting. -/
import Derived.Test.YtjfdniggjdnkiaaMe
import Derived.Test.YtjfdniggjdnkiaaBitP
set_option linter.unusedVariables false
namespace Go.Bm
open Go.Am
noncomputable def condL (c : Cfg) (b : Nat) (x y : C) (s : St) : AV -> Option (Ex × St)
 | .bool t => if t = true then codeL c b x s else codeL c b y s
 | _ => none
theorem codeL_cnd {c : Cfg} {b : Nat} {v : E} {x y : C} {s : St} : codeL c b (.cond v x y) s = condL c b x y s (opnd c s.env v) := by
 by_cases h : ∃ t, opnd c s.env v = .bool t
 ·obtain ⟨t, h⟩ := h
  rw [codeL_cond h, h]
  rfl
 ·have hn : codeL c b (.cond v x y) s = none := by
   cases e : codeL c b (.cond v x y) s with
   | none => rfl
   | some z =>
     obtain ⟨n, hn⟩ := codeL_iff.1 e
     cases n with
     | zero => simp [codeB] at hn
     | succ n =>
       simp only [codeB] at hn
       split at hn
       ·rename_i t ht; exact absurd ⟨t, ht⟩ h
       ·cases hn
  rw [hn]
  cases e : opnd c s.env v <;> first | rfl | exact absurd ⟨_, e⟩ h
def outOK (c : Cfg) (md : Md) (q : AFn) : Option (Ex × St) -> Bool
 | some (.ret, s) => (match resVs c s q.res with
   | some vs => (match finB md 0 s (tupOf vs) with
     | some (.bool true, []) => true
     | _ => false)
   | none => false)
 | _ => false
def endL (c : Cfg) (md : Md) (q : AFn) (b : Nat) : Option (Ex × St) -> Option (AV × Heap)
 | some (.ret, s) => (match resVs c s q.res with
   | some vs => finB md b s (tupOf vs)
   | none => none)
 | some (.normal, s) => (match resVs c s q.res with
   | some vs => finB md b s (tupOf vs)
   | none => none)
 | _ => none
theorem callL_end {c : Cfg} {f : Nat} {md : Md} {q : AFn} {args : List AV} {H : Heap} (ho : c.orc f = none) (hf : c.fn f = some (md, q)) (hl : args.length <= q.n) : callL c f args H = endL c md q H.length (codeL c H.length q.body ⟨mkEnv 0 args, H⟩) := by
 rw [callL_of ho hf hl]
 generalize codeL c H.length q.body ⟨mkEnv 0 args, H⟩ = z
 cases z with
 | none => rfl
 | some w =>
   obtain ⟨e, s⟩ := w
   cases e <;> rfl
theorem get_nil' (i : Nat) : Am.get [] i = .any := rfl
theorem get_cons' (j : Nat) (u : AV) (r : Env) (i : Nat) : Am.get ((j, u) :: r) i = if i = j then u else Am.get r i := rfl
theorem put_nil' (i : Nat) (v : AV) : Am.put [] i v = [(i, v)] := rfl
theorem put_cons' (j : Nat) (u : AV) (r : Env) (i : Nat) (v : AV) : Am.put ((j, u) :: r) i v = if i < j then (i, v) :: (j, u) :: r else if i = j then (i, v) :: r else (j, u) :: Am.put r i v := rfl
theorem mem_nil' (i : Nat) : mem i [] = false := rfl
theorem mem_cons' (i j : Nat) (r : List Nat) : mem i (j :: r) = if i = j then true else mem i r := rfl
def ints (l : List Int) : List AV := l.map (AV.int .i64)
theorem ints_length (l : List Int) : (ints l).length = l.length := List.length_map _
theorem ints_get (l : List Int) (i : Nat) : (ints l)[i]? = (l[i]?).map (AV.int .i64) := List.getElem?_map
theorem intsAt (l : List Int) (i : Nat) (h : i < (ints l).length) : (ints l)[i] = .int .i64 (l[i]'(by simpa [ints] using h)) := by simp [ints]
theorem wrap_id {i : Int} (h0 : -9223372036854775808 <= i) (h1 : i < 9223372036854775808) : IntKind.i64.wrap i = i := by
 simp [IntKind.wrap, IntKind.bits, IntKind.signed]
 omega
/- Plain facts for runs by rewriting: rows of ints, appends. -/
theorem flatCells_ints (l : List Int) : flatCells (ints l) = ints l := by
 induction l with
 | nil => rfl
 | cons x r ih => simp only [ints, List.map_cons, flatCells, AV.cells] at ih ⊢; rw [ih]; rfl
theorem allLeaf_ints (l : List Int) : allLeaf (ints l) = true := by
 induction l with
 | nil => rfl
 | cons x r ih => simp only [ints, List.map_cons, allLeaf, AV.leaf] at ih ⊢; rw [ih]; rfl
theorem plL_ints (l : List Int) : plL (ints l) = true := by
 induction l with
 | nil => rfl
 | cons x r ih => simp only [ints, List.map_cons, plL, pl] at ih ⊢; rw [ih]; rfl
theorem ints_snoc (l : List Int) (x : Int) : ints l ++ [.int .i64 x] = ints (l ++ [x]) := by simp [ints]
theorem ints_app (l m : List Int) : ints l ++ ints m = ints (l ++ m) := by simp [ints]
theorem ints_take (l : List Int) (n : Nat) : (ints l).take n = ints (l.take n) := by simp [ints]
theorem ints_drop (l : List Int) (n : Nat) : (ints l).drop n = ints (l.drop n) := by simp [ints]
theorem ints_nil : ints [] = [] := rfl
theorem ints_cons (x : Int) (l : List Int) : ints (x :: l) = .int .i64 x :: ints l := rfl
theorem wrapN {i : Nat} (h : i < 9223372036854775808) : IntKind.i64.wrap (i : Int) = (i : Int) := wrap_id (by omega) (by omega)
theorem wrapS {i : Nat} (h : i < 9223372036854775807) : IntKind.i64.wrap ((i : Int) + 1) = ((i + 1 : Nat) : Int) := by rw [wrap_id (by omega) (by omega)]; omega
theorem callL_orc {c : Cfg} {f : Nat} {args : List AV} {H : Heap} {r : AV × Heap} (h : orcA c f args H = some r) : callL c f args H = some r := by
 unfold callL callW
 rw [h]
theorem nat0 : ((0 : Nat) : Int) = 0 := rfl
theorem loop_next {c : Cfg} {b : Nat} {x : C} {s s' : St} (h : codeL c b x s = some (.normal, s')) : codeL c b (.loop x) s = codeL c b (.loop x) s' := by rw [codeL_loop, h]; rfl
theorem loop_exit {c : Cfg} {b : Nat} {x : C} {s s' : St} {i : Nat} (h : codeL c b x s = some (.exit i, s')) : codeL c b (.loop x) s = some (.exit i, s') := by rw [codeL_loop, h]; rfl
theorem loop_ret {c : Cfg} {b : Nat} {x : C} {s s' : St} (h : codeL c b x s = some (.ret, s')) : codeL c b (.loop x) s = some (.ret, s') := by rw [codeL_loop, h]; rfl
theorem thenL_n {c : Cfg} {b : Nat} {y : C} {s : St} : thenL c b y (some (.normal, s)) = codeL c b y s := rfl
theorem thenL_e {c : Cfg} {b : Nat} {y : C} {s : St} {i : Nat} : thenL c b y (some (.exit i, s)) = some (.exit i, s) := rfl
theorem thenL_r {c : Cfg} {b : Nat} {y : C} {s : St} : thenL c b y (some (.ret, s)) = some (.ret, s) := rfl
theorem blkL_n {i : Nat} {s : St} : blkL i (some (.normal, s)) = some (.normal, s) := rfl
theorem blkL_e {i j : Nat} {s : St} : blkL i (some (.exit j, s)) = if j = i then some (.normal, s) else some (.exit j, s) := rfl
theorem blkL_r {i : Nat} {s : St} : blkL i (some (.ret, s)) = some (.ret, s) := rfl
theorem condL_b {c : Cfg} {b : Nat} {x y : C} {s : St} {t : Bool} : condL c b x y s (.bool t) = if t = true then codeL c b x s else codeL c b y s := rfl
theorem regL_s {dr : Bool} {os : List O} {un : List (Nat × Nat)} {b : Nat} {keep : List Nat} {s : St} {fls : List Fq} : regL dr os un b keep (some (s, fls)) = if dr = false \/ drawB os fls un = true then (match endR b keep s with
 | some s2 => some (.normal, s2)
 | none => none) else none := rfl
theorem wrap0 : IntKind.i64.wrap 0 = 0 := by decide
theorem wrap1 : IntKind.i64.wrap 1 = 1 := by decide
theorem wrapm1 : IntKind.i64.wrap (-1) = -1 := by decide
theorem wrapZ {i : Int} {j : Nat} (e : i = (j : Int)) (h : j < 9223372036854775808) : IntKind.i64.wrap i = i := by subst e; exact wrapN h
theorem take_snoc (l : List Int) (x : Int) : (l ++ [x]).take (l.length + 1) = l ++ [x] := List.take_of_length_le (by simp)
/- Edges and graphs: plain facts. -/
set_option linter.unusedSimpArgs false
abbrev Ed := Int × Int
def edAV (e : Ed) : AV := .agg [.int .i64 e.1, .int .i64 e.2]
def eds (l : List Ed) : List AV := l.map edAV
theorem eds_length (l : List Ed) : (eds l).length = l.length := List.length_map _
theorem eds_get (l : List Ed) (i : Nat) : (eds l)[i]? = (l[i]?).map edAV := List.getElem?_map
theorem edsAt (l : List Ed) (i : Nat) (h : i < (eds l).length) : (eds l)[i] = edAV (l[i]'(by simpa [eds] using h)) := by simp [eds]
theorem eds_nil : eds [] = [] := rfl
theorem eds_snoc (l : List Ed) (x : Ed) : eds l ++ [.agg [.int .i64 x.1, .int .i64 x.2]] = eds (l ++ [x]) := by simp [eds, edAV]
theorem eds_snocM (l : List Ed) (u v : Int) : eds l ++ [.agg [.int .i64 u, .int .i64 v]] = eds (l ++ [(u, v)]) := by simp [eds, edAV]
theorem eds_app (l m : List Ed) : eds l ++ eds m = eds (l ++ m) := by simp [eds]
theorem eds_take (l : List Ed) (n : Nat) : (eds l).take n = eds (l.take n) := by simp [eds]
theorem eds_drop (l : List Ed) (n : Nat) : (eds l).drop n = eds (l.drop n) := by simp [eds]
theorem allLeaf_eds (l : List Ed) : allLeaf (flatCells (eds l)) = true := by
 induction l with
 | nil => rfl
 | cons x r ih => simp only [eds, List.map_cons, flatCells, edAV, AV.cells, List.cons_append, List.nil_append, allLeaf, AV.leaf, Bool.true_and] at ih ⊢; exact ih
theorem cleanL_eds (l : List Ed) : cleanL (eds l) = true := by
 induction l with
 | nil => rfl
 | cons x r ih => simp only [eds, List.map_cons, edAV, cleanL, clean, Bool.true_and, Bool.and_true] at ih ⊢; exact ih
theorem cleanL_ints (l : List Int) : cleanL (ints l) = true := by
 induction l with
 | nil => rfl
 | cons x r ih => simp only [ints, List.map_cons, cleanL, clean] at ih ⊢; rw [ih]; rfl
def ltE (a b : Ed) : Prop := a.1 < b.1 \/ a.1 = b.1 /\ a.2 < b.2
instance (a b : Ed) : Decidable (ltE a b) := by unfold ltE; infer_instance
theorem ltE_trans {a b c : Ed} (h : ltE a b) (k : ltE b c) : ltE a c := by unfold ltE at *; omega
theorem ltE_irr {a : Ed} : ¬ ltE a a := by unfold ltE; omega
theorem ltE_tri {a b : Ed} (h : ¬ ltE a b) (k : a ≠ b) : ltE b a := by
 unfold ltE at *
 have : a.1 ≠ b.1 \/ a.2 ≠ b.2 := by
  rcases Decidable.em (a.1 = b.1) with h1 | h1
  ·right; intro h2; exact k (Prod.ext h1 h2)
  ·left; exact h1
 omega
def UpE (l : List Ed) : Prop := l.Pairwise ltE
theorem upE_ext : ∀ {a b : List Ed}, UpE a -> UpE b -> (∀ x, x ∈ a ↔ x ∈ b) -> a = b
 | [], [], _, _, _ => rfl
 | [], y :: s, _, _, h => absurd ((h y).2 (by simp)) (by simp)
 | x :: r, [], _, _, h => absurd ((h x).1 (by simp)) (by simp)
 | x :: r, y :: s, ha, hb, h => by
   obtain ⟨a1, a2⟩ := List.pairwise_cons.1 ha
   obtain ⟨b1, b2⟩ := List.pairwise_cons.1 hb
   have e : x = y := by
    rcases List.mem_cons.1 ((h x).1 (by simp)) with e | e
    ·exact e
    ·rcases List.mem_cons.1 ((h y).2 (by simp)) with e2 | e2
     ·exact e2.symm
     ·exact absurd (ltE_trans (a1 y e2) (b1 x e)) ltE_irr
   subst e
   congr 1
   refine upE_ext a2 b2 fun z => ?_
   have hz := h z
   simp only [List.mem_cons] at hz
   constructor
   ·intro hr
    rcases hz.1 (.inr hr) with e | e
    ·subst e; exact absurd (a1 z hr) ltE_irr
    ·exact e
   ·intro hr
    rcases hz.2 (.inr hr) with e | e
    ·subst e; exact absurd (b1 z hr) ltE_irr
    ·exact e
def putE (x : Ed) : List Ed -> List Ed
 | [] => [x]
 | y :: r => if ltE y x then y :: putE x r else if y = x then y :: r else x :: y :: r
theorem putE_len (x : Ed) : ∀ l, (putE x l).length <= l.length + 1
 | [] => by simp [putE]
 | y :: r => by
   have := putE_len x r
   unfold putE
   split
   ·simp; omega
   ·split <;> simp
theorem putE_mem (x z : Ed) : ∀ l, z ∈ putE x l ↔ z = x \/ z ∈ l
 | [] => by simp [putE]
 | y :: r => by
   have ih := putE_mem x z r
   unfold putE
   split
   ·simp only [List.mem_cons, ih]; constructor <;> (intro h; rcases h with h | h | h <;> simp [h])
   ·split
    ·rename_i e; subst e; simp
    ·simp
theorem putE_up (x : Ed) : ∀ {l}, UpE l -> UpE (putE x l)
 | [], _ => by simp [putE, UpE]
 | y :: r, h => by
   obtain ⟨h1, h2⟩ := List.pairwise_cons.1 h
   unfold putE
   split
   ·rename_i hlt
    refine List.pairwise_cons.2 ⟨fun z hz => ?_, putE_up x h2⟩
    rcases (putE_mem x z r).1 hz with e | e
    ·subst e; exact hlt
    ·exact h1 z e
   ·rename_i hlt
    split
    ·exact h
    ·rename_i hne
     have := ltE_tri hlt hne
     refine List.pairwise_cons.2 ⟨fun z hz => ?_, h⟩
     rcases List.mem_cons.1 hz with e | e
     ·subst e; exact this
     ·exact ltE_trans this (h1 z e)
def posE (x : Ed) : List Ed -> Nat
 | [] => 0
 | y :: r => if ltE y x then posE x r + 1 else 0
theorem posE_le (x : Ed) : ∀ l, posE x l <= l.length
 | [] => by simp [posE]
 | y :: r => by have := posE_le x r; unfold posE; split <;> simp <;> omega
theorem putE_pos (x : Ed) : ∀ l, putE x l = if l[posE x l]? = some x then l else l.take (posE x l) ++ x :: l.drop (posE x l)
 | [] => by simp [putE, posE]
 | y :: r => by
   have ih := putE_pos x r
   unfold putE posE
   split
   ·rw [ih]
    simp only [List.getElem?_cons_succ, List.take_succ_cons, List.drop_succ_cons]
    split <;> simp
   ·simp only [List.getElem?_cons_zero, Option.some.injEq, List.take_zero, List.drop_zero, List.nil_append]
def nrmE (u v : Int) : Ed := (if v < u then v else u, if u < v then v else u)
def ofE (l : List Ed) (o : List Ed) : List Ed := l.foldl (fun o e => putE (nrmE e.1 e.2) o) o
theorem ofE_spec : ∀ (l o : List Ed), UpE o -> UpE (ofE l o) /\ ∀ z, z ∈ ofE l o ↔ z ∈ o \/ ∃ e ∈ l, z = nrmE e.1 e.2
 | [], o, h => ⟨h, fun z => by simp [ofE]⟩
 | x :: r, o, h => by
   obtain ⟨h1, h2⟩ := ofE_spec r (putE (nrmE x.1 x.2) o) (putE_up _ h)
   refine ⟨h1, fun z => ?_⟩
   have e : ofE (x :: r) o = ofE r (putE (nrmE x.1 x.2) o) := rfl
   rw [e, h2, putE_mem]
   simp only [List.mem_cons, exists_eq_or_imp]
   constructor
   ·rintro ((h | h) | h) <;> simp [h]
   ·rintro (h | h | h) <;> simp [h]
theorem ofE_len : ∀ (l o : List Ed), (ofE l o).length <= o.length + l.length
 | [], o => by simp [ofE]
 | x :: r, o => by
   have h1 := ofE_len r (putE (nrmE x.1 x.2) o)
   have h2 := putE_len (nrmE x.1 x.2) o
   have e : ofE (x :: r) o = ofE r (putE (nrmE x.1 x.2) o) := rfl
   rw [e]; simp only [List.length_cons]; omega
def badP : Option Ed -> Ed -> Prop
 | none, _ => False
 | some q, e => ¬ ltE q e
instance : ∀ p e, Decidable (badP p e)
 | none, _ => instDecidableFalse
 | some q, e => inferInstanceAs (Decidable (¬ ltE q e))
def chkGo (n : Int) : Option Ed -> List Ed -> Int
 | _, [] => 0
 | p, e :: r => if e.1 < 0 \/ e.2 <= e.1 \/ n <= e.2 then 6 else if badP p e then 5 else chkGo n (some e) r
def chkG (n : Int) (l : List Ed) : Int := if n < 0 \/ 64 < n then 1 else chkGo n none l
theorem chkGo_zero (n : Int) : ∀ {l : List Ed} {p : Option Ed}, chkGo n p l = 0 ↔ UpE l /\ (∀ e ∈ l, 0 <= e.1 /\ e.1 < e.2 /\ e.2 < n) /\ ∀ q, p = some q -> ∀ e ∈ l, ltE q e
 | [], p => by simp [chkGo, UpE]
 | e :: r, p => by
   have ih := chkGo_zero n (l := r) (p := some e)
   unfold chkGo
   by_cases h1 : e.1 < 0 \/ e.2 <= e.1 \/ n <= e.2
   ·rw [if_pos h1]
    constructor
    ·intro h; cases h
    ·rintro ⟨_, h, _⟩; have := h e (by simp); omega
   ·rw [if_neg h1]
    cases p with
    | none =>
      rw [if_neg (show ¬ badP none e from fun h => h), ih]
      simp only [UpE, List.pairwise_cons, List.mem_cons, forall_eq_or_imp]
      constructor
      ·rintro ⟨a, b, c⟩; exact ⟨⟨fun z hz => c e rfl z hz, a⟩, ⟨by omega, b⟩, fun q hq => by cases hq⟩
      ·rintro ⟨⟨a, b⟩, ⟨c, d⟩, f⟩; exact ⟨b, d, fun q hq => by cases hq; exact a⟩
    | some q =>
      by_cases h2 : ltE q e
      ·rw [if_neg (show ¬ badP (some q) e from fun h => h h2), ih]
       simp only [UpE, List.pairwise_cons, List.mem_cons, forall_eq_or_imp]
       constructor
       ·rintro ⟨a, b, c⟩
        exact ⟨⟨fun z hz => c e rfl z hz, a⟩, ⟨by omega, b⟩, fun q' hq => by cases hq; exact ⟨h2, fun z hz => ltE_trans h2 (c e rfl z hz)⟩⟩
       ·rintro ⟨⟨a, b⟩, ⟨c, d⟩, f⟩; exact ⟨b, d, fun q hq => by cases hq; exact a⟩
      ·rw [if_pos (show badP (some q) e from h2)]
       constructor
       ·intro h; cases h
       ·rintro ⟨_, _, h⟩; exact absurd (h q rfl e (by simp)) h2
def GOK (n : Int) (l : List Ed) : Prop := (0 <= n /\ n <= 64) /\ UpE l /\ ∀ e ∈ l, 0 <= e.1 /\ e.1 < e.2 /\ e.2 < n
theorem chkG_zero {n : Int} {l : List Ed} : chkG n l = 0 ↔ GOK n l := by
 unfold chkG GOK
 by_cases h : n < 0 \/ 64 < n
 ·rw [if_pos h]; constructor
  ·intro h; cases h
  ·rintro ⟨h2, _⟩; omega
 ·rw [if_neg h, chkGo_zero]
  constructor
  ·rintro ⟨a, b, _⟩; exact ⟨by omega, a, b⟩
  ·rintro ⟨_, a, b⟩; exact ⟨a, b, fun q hq => by cases hq⟩
end Go.Bm
