/- Rules for runs by rewriting. -/
import Derived.Test.YtmoginoicilobaaGreatDoorMe
set_option linter.unusedVariables false
namespace Go.Bm
open Go.Am
noncomputable def adq (c : dR) (b : Nat) (x y : C) (s : St) : AV -> Option (Ex × St)
 | .bool t => if t = true then bj c b x s else bj c b y s
 | _ => none
theorem Ji {c : dR} {b : Nat} {v : E} {x y : C} {s : St} : bj c b (.cond v x y) s = adq c b x y s (bp c s.env v) := by
 by_cases h : ∃ t,bp c s.env v = .bool t
 ·obtain ⟨t,h⟩ := h;rw [Qb h,h];rfl
 ·have hn : bj c b (.cond v x y) s = none := by
   cases e : bj c b (.cond v x y) s with
   | none => rfl
   | some z =>
     obtain ⟨n,hn⟩ := cK.1 e;cases n with
     | zero => simp [cC] at hn
     | succ n =>
       simp only [cC] at hn;split at hn
       ·rename_i t ht; exact absurd ⟨t,ht⟩ h
       ·cases hn
  rw [hn];cases e : bp c s.env v <;> first | rfl | exact absurd ⟨_,e⟩ h
def agZ (c : dR) (md : Md) (q : eB) : Option (Ex × St) -> Bool
 | some (.ret,s) => (match oR c s q.res with
   | some vs => (match aV md 0 s (nJ vs) with
     | some (.bool true,[]) => true
     | _ => false)
   | none => false)
 | _ => false
def aY (c : dR) (md : Md) (q : eB) (b : Nat) : Option (Ex × St) -> Option (AV × Heap)
 | some (.ret,s) => (match oR c s q.res with
   | some vs => aV md b s (nJ vs)
   | none => none)
 | some (.normal,s) => (match oR c s q.res with
   | some vs => aV md b s (nJ vs)
   | none => none)
 | _ => none
theorem aB {c : dR} {f : Nat} {md : Md} {q : eB} {args : List AV} {H : Heap} (ho : c.orc f = none) (hf : c.fn f = some (md,q)) (hl : args.length <= q.n) : bf c f args H = aY c md q H.length (bj c H.length q.body ⟨dJ 0 args,H⟩) := by
 rw [ZT ho hf hl];generalize bj c H.length q.body ⟨dJ 0 args,H⟩ = z;cases z with
 | none => rfl
 | some w =>
   obtain ⟨e,s⟩ := w;cases e <;> rfl
theorem Zm (i : Nat) : Am.get [] i = .any := rfl
theorem IY (j : Nat) (u : AV) (r : Env) (i : Nat) : Am.get ((j,u) :: r) i = if i = j then u else Am.get r i := rfl
theorem XN (i : Nat) (v : AV) : Am.put [] i v = [(i,v)] := rfl
theorem Uq (j : Nat) (u : AV) (r : Env) (i : Nat) (v : AV) : Am.put ((j,u) :: r) i v = if i < j then (i,v) :: (j,u) :: r else if i = j then (i,v) :: r else (j,u) :: Am.put r i v := rfl
theorem MN (i : Nat) : mem i [] = false := rfl
theorem Iz (i j : Nat) (r : List Nat) : mem i (j :: r) = if i = j then true else mem i r := rfl
def ints (l : List Int) : List AV := l.map (AV.int .i64)
theorem ae (l : List Int) : (ints l).length = l.length := List.length_map _
theorem aI (l : List Int) (i : Nat) : (ints l)[i]? = (l[i]?).map (AV.int .i64) := List.getElem?_map
theorem aT (l : List Int) (i : Nat) (h : i < (ints l).length) : (ints l)[i] = .int .i64 (l[i]'(by simpa [ints] using h)) := by simp [ints]
theorem cS {i : Int} (h0 : -9223372036854775808 <= i) (h1 : i < 9223372036854775808) : IntKind.i64.wrap i = i := by
 simp [IntKind.wrap,IntKind.bits,IntKind.signed];omega
end Go.Bm
