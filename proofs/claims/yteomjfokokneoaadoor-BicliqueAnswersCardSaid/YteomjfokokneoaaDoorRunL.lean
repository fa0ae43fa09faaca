/- Rules for runs by rewriting. -/
import Derived.Test.YteomjfokokneoaaDoorMe
set_option linter.unusedVariables false
namespace Go.Bm
open Go.Am
noncomputable def acu (c : dN) (b : Nat) (x y : C) (s : St) : AV -> Option (Ex × St)
 | .bool t => if t = true then aU c b x s else aU c b y s
 | _ => none
theorem gC {c : dN} {b : Nat} {v : E} {x y : C} {s : St} : aU c b (.cond v x y) s = acu c b x y s (bn c s.env v) := by
 by_cases h : ∃ t,bn c s.env v = .bool t
 ·obtain ⟨t,h⟩ := h;rw [P3 h,h];rfl
 ·have hn : aU c b (.cond v x y) s = none := by
   cases e : aU c b (.cond v x y) s with
   | none => rfl
   | some z =>
     obtain ⟨n,hn⟩ := cF.1 e;cases n with
     | zero => simp [cq] at hn
     | succ n =>
       simp only [cq] at hn;split at hn
       ·rename_i t ht; exact absurd ⟨t,ht⟩ h
       ·cases hn
  rw [hn];cases e : bn c s.env v <;> first | rfl | exact absurd ⟨_,e⟩ h
def ae8 (c : dN) (md : Md) (q : fO) : Option (Ex × St) -> Bool
 | some (.ret,s) => (match nZ c s q.res with
   | some vs => (match aK md 0 s (m7 vs) with
     | some (.bool true,[]) => true
     | _ => false)
   | none => false)
 | _ => false
def aP (c : dN) (md : Md) (q : fO) (b : Nat) : Option (Ex × St) -> Option (AV × Heap)
 | some (.ret,s) => (match nZ c s q.res with
   | some vs => aK md b s (m7 vs)
   | none => none)
 | some (.normal,s) => (match nZ c s q.res with
   | some vs => aK md b s (m7 vs)
   | none => none)
 | _ => none
theorem aM {c : dN} {f : Nat} {md : Md} {q : fO} {args : List AV} {H : Heap} (ho : c.orc f = none) (hf : c.fn f = some (md,q)) (hl : args.length <= q.n) : bk c f args H = aP c md q H.length (aU c H.length q.body ⟨dH 0 args,H⟩) := by
 rw [YH ho hf hl];generalize aU c H.length q.body ⟨dH 0 args,H⟩ = z;cases z with
 | none => rfl
 | some w =>
   obtain ⟨e,s⟩ := w;cases e <;> rfl
theorem Yc (i : Nat) : Am.get [] i = .any := rfl
theorem Bh (j : Nat) (u : AV) (r : Env) (i : Nat) : Am.get ((j,u) :: r) i = if i = j then u else Am.get r i := rfl
theorem WB (i : Nat) (v : AV) : Am.put [] i v = [(i,v)] := rfl
theorem T4 (j : Nat) (u : AV) (r : Env) (i : Nat) (v : AV) : Am.put ((j,u) :: r) i v = if i < j then (i,v) :: (j,u) :: r else if i = j then (i,v) :: r else (j,u) :: Am.put r i v := rfl
theorem MD (i : Nat) : mem i [] = false := rfl
theorem Io (i j : Nat) (r : List Nat) : mem i (j :: r) = if i = j then true else mem i r := rfl
def ints (l : List Int) : List AV := l.map (AV.int .i64)
theorem aa (l : List Int) : (ints l).length = l.length := List.length_map _
theorem ak (l : List Int) (i : Nat) : (ints l)[i]? = (l[i]?).map (AV.int .i64) := List.getElem?_map
theorem az (l : List Int) (i : Nat) (h : i < (ints l).length) : (ints l)[i] = .int .i64 (l[i]'(by simpa [ints] using h)) := by simp [ints]
theorem PB {k : IntKind} {i : Int} {n : Nat} (h0 : 0 <= i) (h1 : i < (n : Int)) : idx (.int k i) n = some i.toNat := by
 simp [idx,h0,h1]
theorem yj {i : Int} (h0 : -9223372036854775808 <= i) (h1 : i < 9223372036854775808) : IntKind.i64.wrap i = i := by
 simp [IntKind.wrap,IntKind.bits,IntKind.signed];omega
end Go.Bm
