/- Rules for runs by rewriting. -/
import Derived.Test.YtmoginoicilobabGreatMe
set_option linter.unusedVariables false
namespace Go.Bm
open Go.Am
noncomputable def aeP (c : eG) (b : Nat) (x y : C) (s : St) : AV -> Option (Ex × St)
 | .bool t => if t = true then bL c b x s else bL c b y s
 | _ => none
theorem Wm {c : eG} {b : Nat} {v : E} {x y : C} {s : St} : bL c b (.cond v x y) s = aeP c b x y s (bn c s.env v) := by
 by_cases h : ∃ t,bn c s.env v = .bool t
 ·obtain ⟨t,h⟩ := h;rw [Rg h,h];rfl
 ·have hn : bL c b (.cond v x y) s = none := by
   cases e : bL c b (.cond v x y) s with
   | none => rfl
   | some z =>
     obtain ⟨n,hn⟩ := di.1 e;cases n with
     | zero => simp [c8] at hn
     | succ n =>
       simp only [c8] at hn;split at hn
       ·rename_i t ht; exact absurd ⟨t,ht⟩ h
       ·cases hn
  rw [hn];cases e : bn c s.env v <;> first | rfl | exact absurd ⟨_,e⟩ h
def aiK (c : eG) (md : Md) (q : eR) : Option (Ex × St) -> Bool
 | some (.ret,s) => (match nO c s q.res with
   | some vs => (match aZ md 0 s (m6 vs) with
     | some (.bool true,[]) => true
     | _ => false)
   | none => false)
 | _ => false
def ba (c : eG) (md : Md) (q : eR) (b : Nat) : Option (Ex × St) -> Option (AV × Heap)
 | some (.ret,s) => (match nO c s q.res with
   | some vs => aZ md b s (m6 vs)
   | none => none)
 | some (.normal,s) => (match nO c s q.res with
   | some vs => aZ md b s (m6 vs)
   | none => none)
 | _ => none
theorem aB {c : eG} {f : Nat} {md : Md} {q : eR} {args : List AV} {H : Heap} (ho : c.orc f = none) (hf : c.fn f = some (md,q)) (hl : args.length <= q.n) : aY c f args H = ba c md q H.length (bL c H.length q.body ⟨ei 0 args,H⟩) := by
 rw [aaX ho hf hl];generalize bL c H.length q.body ⟨ei 0 args,H⟩ = z;cases z with
 | none => rfl
 | some w =>
   obtain ⟨e,s⟩ := w;cases e <;> rfl
theorem aas (i : Nat) : Am.get [] i = .any := rfl
theorem V3 (j : Nat) (u : AV) (r : Env) (i : Nat) : Am.get ((j,u) :: r) i = if i = j then u else Am.get r i := rfl
theorem Zk (i : Nat) (v : AV) : Am.put [] i v = [(i,v)] := rfl
theorem Ve (j : Nat) (u : AV) (r : Env) (i : Nat) (v : AV) : Am.put ((j,u) :: r) i v = if i < j then (i,v) :: (j,u) :: r else if i = j then (i,v) :: r else (j,u) :: Am.put r i v := rfl
theorem Z4 (i : Nat) : mem i [] = false := rfl
theorem Vw (i j : Nat) (r : List Nat) : mem i (j :: r) = if i = j then true else mem i r := rfl
def ints (l : List Int) : List AV := l.map (AV.int .i64)
theorem aj (l : List Int) : (ints l).length = l.length := List.length_map _
theorem aM (l : List Int) (i : Nat) : (ints l)[i]? = (l[i]?).map (AV.int .i64) := List.getElem?_map
theorem bk (l : List Int) (i : Nat) (h : i < (ints l).length) : (ints l)[i] = .int .i64 (l[i]'(by simpa [ints] using h)) := by simp [ints]
theorem Kz {k : IntKind} {i : Int} {n : Nat} (h0 : 0 <= i) (h1 : i < (n : Int)) : idx (.int k i) n = some i.toNat := by
 simp [idx,h0,h1]
theorem cM {i : Int} (h0 : -9223372036854775808 <= i) (h1 : i < 9223372036854775808) : IntKind.i64.wrap i = i := by
 simp [IntKind.wrap,IntKind.bits,IntKind.signed];omega
end Go.Bm
