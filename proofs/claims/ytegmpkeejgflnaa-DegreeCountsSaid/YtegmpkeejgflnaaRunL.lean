/- Rules for runs by rewriting. -/
import Derived.Test.YtegmpkeejgflnaaMe
set_option linter.unusedVariables false
namespace Go.Bm
open Go.Am
noncomputable def condL (c : Cfg) (b : Nat) (x y : C) (s : St) : AV -> Option (Ex × St)
 | .bool t => if t = true then codeL c b x s else codeL c b y s
 | _ => none
theorem codeL_cnd {c : Cfg} {b : Nat} {v : E} {x y : C} {s : St} : codeL c b (.cond v x y) s = condL c b x y s (opnd c s.env v) := by
 by_cases h : ∃ t, opnd c s.env v = .bool t
 ·obtain ⟨t, h⟩ := h
  rw [codeL_cond h, h]
  rfl
 ·have hn : codeL c b (.cond v x y) s = none := by
   cases e : codeL c b (.cond v x y) s with
   | none => rfl
   | some z =>
     obtain ⟨n, hn⟩ := codeL_iff.1 e
     cases n with
     | zero => simp [codeB] at hn
     | succ n =>
       simp only [codeB] at hn
       split at hn
       ·rename_i t ht; exact absurd ⟨t, ht⟩ h
       ·cases hn
  rw [hn]
  cases e : opnd c s.env v <;> first | rfl | exact absurd ⟨_, e⟩ h
def outOK (c : Cfg) (md : Md) (q : AFn) : Option (Ex × St) -> Bool
 | some (.ret, s) => (match resVs c s q.res with
   | some vs => (match finB md 0 s (tupOf vs) with
     | some (.bool true, []) => true
     | _ => false)
   | none => false)
 | _ => false
def endL (c : Cfg) (md : Md) (q : AFn) (b : Nat) : Option (Ex × St) -> Option (AV × Heap)
 | some (.ret, s) => (match resVs c s q.res with
   | some vs => finB md b s (tupOf vs)
   | none => none)
 | some (.normal, s) => (match resVs c s q.res with
   | some vs => finB md b s (tupOf vs)
   | none => none)
 | _ => none
theorem callL_end {c : Cfg} {f : Nat} {md : Md} {q : AFn} {args : List AV} {H : Heap} (ho : c.orc f = none) (hf : c.fn f = some (md, q)) (hl : args.length <= q.n) : callL c f args H = endL c md q H.length (codeL c H.length q.body ⟨mkEnv 0 args, H⟩) := by
 rw [callL_of ho hf hl]
 generalize codeL c H.length q.body ⟨mkEnv 0 args, H⟩ = z
 cases z with
 | none => rfl
 | some w =>
   obtain ⟨e, s⟩ := w
   cases e <;> rfl
theorem get_nil' (i : Nat) : Am.get [] i = .any := rfl
theorem get_cons' (j : Nat) (u : AV) (r : Env) (i : Nat) : Am.get ((j, u) :: r) i = if i = j then u else Am.get r i := rfl
theorem put_nil' (i : Nat) (v : AV) : Am.put [] i v = [(i, v)] := rfl
theorem put_cons' (j : Nat) (u : AV) (r : Env) (i : Nat) (v : AV) : Am.put ((j, u) :: r) i v = if i < j then (i, v) :: (j, u) :: r else if i = j then (i, v) :: r else (j, u) :: Am.put r i v := rfl
theorem mem_nil' (i : Nat) : mem i [] = false := rfl
theorem mem_cons' (i j : Nat) (r : List Nat) : mem i (j :: r) = if i = j then true else mem i r := rfl
def ints (l : List Int) : List AV := l.map (AV.int .i64)
theorem ints_length (l : List Int) : (ints l).length = l.length := List.length_map _
theorem ints_get (l : List Int) (i : Nat) : (ints l)[i]? = (l[i]?).map (AV.int .i64) := List.getElem?_map
theorem intsAt (l : List Int) (i : Nat) (h : i < (ints l).length) : (ints l)[i] = .int .i64 (l[i]'(by simpa [ints] using h)) := by simp [ints]
theorem wrap_id {i : Int} (h0 : -9223372036854775808 <= i) (h1 : i < 9223372036854775808) : IntKind.i64.wrap i = i := by
 simp [IntKind.wrap, IntKind.bits, IntKind.signed]
 omega
end Go.Bm
