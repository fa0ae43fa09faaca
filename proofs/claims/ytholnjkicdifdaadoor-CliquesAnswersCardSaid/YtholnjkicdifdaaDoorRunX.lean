/- Rules for runs by rewriting. -/
import Derived.Test.YtholnjkicdifdaaDoorMe
set_option linter.unusedVariables false
namespace Go.Bm
open Go.Am
noncomputable def condL (c : Cfg) (b : Nat) (x y : C) (s : St) : AV -> Option (Ex × St)
 | .bool t => if t = true then codeL c b x s else codeL c b y s
 | _ => none
theorem codeL_cnd {c : Cfg} {b : Nat} {v : E} {x y : C} {s : St} : codeL c b (.cond v x y) s = condL c b x y s (opnd c s.env v) := by
 by_cases h : ∃ t,opnd c s.env v = .bool t
 ·obtain ⟨t,h⟩ := h;rw [codeL_cond h,h];rfl
 ·have hn : codeL c b (.cond v x y) s = none := by
   cases e : codeL c b (.cond v x y) s with
   | none => rfl
   | some z =>
     obtain ⟨n,hn⟩ := codeL_iff.1 e;cases n with
     | zero => simp [codeB] at hn
     | succ n =>
       simp only [codeB] at hn;split at hn
       ·rename_i t ht; exact absurd ⟨t,ht⟩ h
       ·cases hn
  rw [hn];cases e : opnd c s.env v <;> first | rfl | exact absurd ⟨_,e⟩ h
def outOK (c : Cfg) (md : Md) (q : AFn) : Option (Ex × St) -> Bool
 | some (.ret,s) => (match resVs c s q.res with
   | some vs => (match finB md 0 s (tupOf vs) with
     | some (.bool true,[]) => true
     | _ => false)
   | none => false)
 | _ => false
def endL (c : Cfg) (md : Md) (q : AFn) (b : Nat) : Option (Ex × St) -> Option (AV × Heap)
 | some (.ret,s) => (match resVs c s q.res with
   | some vs => finB md b s (tupOf vs)
   | none => none)
 | some (.normal,s) => (match resVs c s q.res with
   | some vs => finB md b s (tupOf vs)
   | none => none)
 | _ => none
theorem callL_end {c : Cfg} {f : Nat} {md : Md} {q : AFn} {args : List AV} {H : Heap} (ho : c.orc f = none) (hf : c.fn f = some (md,q)) (hl : args.length <= q.n) : callL c f args H = endL c md q H.length (codeL c H.length q.body ⟨mkEnv 0 args,H⟩) := by
 rw [callL_of ho hf hl];generalize codeL c H.length q.body ⟨mkEnv 0 args,H⟩ = z;cases z with
 | none => rfl
 | some w =>
   obtain ⟨e,s⟩ := w;cases e <;> rfl
theorem get_nil' (i : Nat) : Am.get [] i = .any := rfl
theorem get_cons' (j : Nat) (u : AV) (r : Env) (i : Nat) : Am.get ((j,u) :: r) i = if i = j then u else Am.get r i := rfl
theorem put_nil' (i : Nat) (v : AV) : Am.put [] i v = [(i,v)] := rfl
theorem put_cons' (j : Nat) (u : AV) (r : Env) (i : Nat) (v : AV) : Am.put ((j,u) :: r) i v = if i < j then (i,v) :: (j,u) :: r else if i = j then (i,v) :: r else (j,u) :: Am.put r i v := rfl
theorem mem_nil' (i : Nat) : mem i [] = false := rfl
theorem mem_cons' (i j : Nat) (r : List Nat) : mem i (j :: r) = if i = j then true else mem i r := rfl
def ints (l : List Int) : List AV := l.map (AV.int .i64)
theorem ints_length (l : List Int) : (ints l).length = l.length := List.length_map _
theorem ints_get (l : List Int) (i : Nat) : (ints l)[i]? = (l[i]?).map (AV.int .i64) := List.getElem?_map
theorem intsAt (l : List Int) (i : Nat) (h : i < (ints l).length) : (ints l)[i] = .int .i64 (l[i]'(by simpa [ints] using h)) := by simp [ints]
theorem idx_lt {k : IntKind} {i : Int} {n : Nat} (h0 : 0 <= i) (h1 : i < (n : Int)) : idx (.int k i) n = some i.toNat := by
 simp [idx,h0,h1]
theorem wrap_id {i : Int} (h0 : -9223372036854775808 <= i) (h1 : i < 9223372036854775808) : IntKind.i64.wrap i = i := by
 simp [IntKind.wrap,IntKind.bits,IntKind.signed];omega
/- Plain facts for runs by rewriting: rows of ints, appends. -/
theorem flatCells_ints (l : List Int) : flatCells (ints l) = ints l := by
 induction l with
 | nil => rfl
 | cons x r ih => simp only [ints,List.map_cons,flatCells,AV.cells] at ih ⊢; rw [ih]; rfl
theorem allLeaf_ints (l : List Int) : allLeaf (ints l) = true := by
 induction l with
 | nil => rfl
 | cons x r ih => simp only [ints,List.map_cons,allLeaf,AV.leaf] at ih ⊢; rw [ih]; rfl
theorem plL_ints (l : List Int) : plL (ints l) = true := by
 induction l with
 | nil => rfl
 | cons x r ih => simp only [ints,List.map_cons,plL,pl] at ih ⊢; rw [ih]; rfl
theorem ints_snoc (l : List Int) (x : Int) : ints l ++ [.int .i64 x] = ints (l ++ [x]) := by simp [ints]
theorem ints_app (l m : List Int) : ints l ++ ints m = ints (l ++ m) := by simp [ints]
theorem ints_take (l : List Int) (n : Nat) : (ints l).take n = ints (l.take n) := by simp [ints]
theorem ints_drop (l : List Int) (n : Nat) : (ints l).drop n = ints (l.drop n) := by simp [ints]
theorem ints_nil : ints [] = [] := rfl
theorem ints_cons (x : Int) (l : List Int) : ints (x :: l) = .int .i64 x :: ints l := rfl
theorem wrapN {i : Nat} (h : i < 9223372036854775808) : IntKind.i64.wrap (i : Int) = (i : Int) := wrap_id (by omega) (by omega)
theorem wrapS {i : Nat} (h : i < 9223372036854775807) : IntKind.i64.wrap ((i : Int) + 1) = ((i + 1 : Nat) : Int) := by rw [wrap_id (by omega) (by omega)]; omega
theorem callL_ofA {c : Cfg} {f : Nat} {md : Md} {q : AFn} {args : List AV} {H : Heap} (ho : orcA c f args H = none) (hf : c.fn f = some (md,q)) (hl : args.length <= q.n) : callL c f args H = endL c md q H.length (codeL c H.length q.body ⟨mkEnv 0 args,H⟩) := by
 unfold callL callW;simp only [ho,hf,hl,if_true];generalize codeL c H.length q.body ⟨mkEnv 0 args,H⟩ = z;cases z with
 | none => rfl
 | some w =>
   obtain ⟨e,s⟩ := w;cases e <;> rfl
theorem callL_orc {c : Cfg} {f : Nat} {args : List AV} {H : Heap} {r : AV × Heap} (h : orcA c f args H = some r) : callL c f args H = some r := by
 unfold callL callW;rw [h]
theorem nat0 : ((0 : Nat) : Int) = 0 := rfl
theorem loop_next {c : Cfg} {b : Nat} {x : C} {s s' : St} (h : codeL c b x s = some (.normal,s')) : codeL c b (.loop x) s = codeL c b (.loop x) s' := by rw [codeL_loop,h]; rfl
theorem loop_exit {c : Cfg} {b : Nat} {x : C} {s s' : St} {i : Nat} (h : codeL c b x s = some (.exit i,s')) : codeL c b (.loop x) s = some (.exit i,s') := by rw [codeL_loop,h]; rfl
theorem loop_ret {c : Cfg} {b : Nat} {x : C} {s s' : St} (h : codeL c b x s = some (.ret,s')) : codeL c b (.loop x) s = some (.ret,s') := by rw [codeL_loop,h]; rfl
theorem thenL_n {c : Cfg} {b : Nat} {y : C} {s : St} : thenL c b y (some (.normal,s)) = codeL c b y s := rfl
theorem thenL_e {c : Cfg} {b : Nat} {y : C} {s : St} {i : Nat} : thenL c b y (some (.exit i,s)) = some (.exit i,s) := rfl
theorem thenL_r {c : Cfg} {b : Nat} {y : C} {s : St} : thenL c b y (some (.ret,s)) = some (.ret,s) := rfl
theorem blkL_n {i : Nat} {s : St} : blkL i (some (.normal,s)) = some (.normal,s) := rfl
theorem blkL_e {i j : Nat} {s : St} : blkL i (some (.exit j,s)) = if j = i then some (.normal,s) else some (.exit j,s) := rfl
theorem blkL_r {i : Nat} {s : St} : blkL i (some (.ret,s)) = some (.ret,s) := rfl
theorem condL_b {c : Cfg} {b : Nat} {x y : C} {s : St} {t : Bool} : condL c b x y s (.bool t) = if t = true then codeL c b x s else codeL c b y s := rfl
theorem regL_s {dr : Bool} {os : List O} {un : List (Nat × Nat)} {b : Nat} {keep : List Nat} {s : St} {fls : List Fq} : regL dr os un b keep (some (s,fls)) = if dr = false \/ drawB os fls un = true then (match endR b keep s with
 | some s2 => some (.normal,s2)
 | none => none) else none := rfl
theorem wrap0 : IntKind.i64.wrap 0 = 0 := by decide
theorem wrap1 : IntKind.i64.wrap 1 = 1 := by decide
theorem wrapm1 : IntKind.i64.wrap (-1) = -1 := by decide
theorem wrapZ {i : Int} {j : Nat} (e : i = (j : Int)) (h : j < 9223372036854775808) : IntKind.i64.wrap i = i := by subst e; exact wrapN h
theorem take_snoc (l : List Int) (x : Int) : (l ++ [x]).take (l.length + 1) = l ++ [x] := List.take_of_length_le (by simp)
end Go.Bm
