/- degree.realise, plainly: the node that needs most is served by those that need most behind it. -/
import Derived.Test.YtjfdniggjdnkiaaCpcG
namespace Go.Bm
open Go.Am
def cfM (x y : Int × Int) : Int := if x.2 = y.2 then x.1 - y.1 else y.2 - x.2
theorem leM (x y : Int × Int) : leC cfM x y = true ↔ y.2 < x.2 \/ y.2 = x.2 /\ x.1 <= y.1 := by
 unfold leC cfM
 simp only [Bool.not_eq_true', decide_eq_false_iff_not]
 by_cases k : y.2 = x.2
 ·rw [if_pos k]; omega
 ·rw [if_neg k]; omega
theorem totM : TotC cfM where
 tr x y z h1 h2 := by rw [leM] at *; omega
 tot x y := by rw [leM, leM]; omega
 anti x y h1 h2 := by
  rw [leM] at h1 h2
  exact Prod.ext (by omega) (by omega)
def inn (v : Int) : Nat -> Nat -> List (Int × Int) -> List (Int × Int) -> Option (List (Int × Int) × List (Int × Int))
 | 0, _, L, out => some (L, out)
 | k + 1, i, L, out => match L[i]? with
   | none => none
   | some (w, d) => if d = 0 then none else inn v k (i + 1) (L.set i (w, d - 1)) (out ++ [(v, w)])
def otr : Nat -> List (Int × Int) -> List (Int × Int) -> Option (List (Int × Int))
 | 0, _, out => some out
 | n + 1, L, out => match isortC cfM L with
   | [] => some out
   | (v, d) :: r => if (r.length : Int) < d then none else match inn v d.toNat 0 r out with
     | none => none
     | some (r', out') => otr n r' out'
def needs (l : List Int) : List (Int × Int) := l.zipIdx.map fun x => ((x.2 : Int), x.1)
def rz (l : List Int) : Option (List (Int × Int)) := if l.all (fun d => decide (0 <= d /\ d < (l.length : Int))) = true then otr l.length (needs l) [] else none
def fl : List (Int × Int) -> List AV
 | [] => []
 | x :: r => .int .i64 x.1 :: .int .i64 x.2 :: fl r
theorem fl_len : ∀ L, (fl L).length = L.length * 2
 | [] => rfl
 | x :: r => by simp only [fl, List.length_cons, fl_len r]; omega
theorem fl_app : ∀ L M, fl (L ++ M) = fl L ++ fl M
 | [], M => rfl
 | x :: r, M => by simp only [List.cons_append, fl, fl_app r M]
theorem fl_drop : ∀ (L : List (Int × Int)) (i : Nat), (fl L).drop (i * 2) = fl (L.drop i)
 | L, 0 => by simp
 | [], i + 1 => by simp [fl]
 | x :: r, i + 1 => by
   rw [show (i + 1) * 2 = i * 2 + 2 by omega]
   simp only [fl, List.drop_succ_cons]
   exact fl_drop r i
theorem fl_set : ∀ (L : List (Int × Int)) (i : Nat) (w d e : Int), L[i]? = some (w, d) -> (fl L).take (i * 2 + 1) ++ [AV.int .i64 e] ++ (fl L).drop (i * 2 + 1 + 1) = fl (L.set i (w, e))
 | [], i, w, d, e, h => by simp at h
 | x :: r, 0, w, d, e, h => by
   simp at h; subst h
   simp [fl]
 | x :: r, i + 1, w, d, e, h => by
   have ih := fl_set r i w d e (by simpa using h)
   rw [show (i + 1) * 2 + 1 = (i * 2 + 1) + 1 + 1 by omega]
   simp only [fl, List.set_cons_succ, List.take_succ_cons, List.drop_succ_cons, List.cons_append]
   rw [<- ih]
def Cel (cs : List AV) (off : Nat) (L : List (Int × Int)) : Prop := ∃ pre more, cs = pre ++ fl L ++ more /\ pre.length = off
theorem Cel.len {cs : List AV} {off : Nat} {L : List (Int × Int)} (h : Cel cs off L) : off + L.length * 2 <= cs.length := by
 obtain ⟨pre, more, rfl, rfl⟩ := h
 simp [fl_len]
theorem Cel.take {cs : List AV} {off : Nat} {L : List (Int × Int)} (h : Cel cs off L) : (cs.drop off).take (L.length * 2) = fl L := by
 obtain ⟨pre, more, rfl, rfl⟩ := h
 simp [<- fl_len]
theorem Cel.at {cs : List AV} {off i : Nat} {L : List (Int × Int)} {w d : Int} (h : Cel cs off L) (hi : L[i]? = some (w, d)) : ∃ r, cs.drop (off + i * 2) = .int .i64 w :: .int .i64 d :: r /\ cs.drop (off + i * 2 + 1) = .int .i64 d :: r := by
 obtain ⟨pre, more, rfl, rfl⟩ := h
 have hlt : i < L.length := (List.getElem?_eq_some_iff.1 hi).1
 have e : L.drop i = (w, d) :: L.drop (i + 1) := by
  rw [<- List.getElem_cons_drop hlt]
  rw [List.getElem?_eq_getElem hlt] at hi
  simp at hi; rw [hi]
 have e1 : (pre ++ fl L ++ more).drop (pre.length + i * 2) = .int .i64 w :: .int .i64 d :: (fl (L.drop (i + 1)) ++ more) := by
  rw [List.append_assoc, <- List.drop_drop, List.drop_left, List.drop_append_of_le_length (by rw [fl_len]; omega), fl_drop, e]
  simp [fl]
 refine ⟨_, e1, ?_⟩
 rw [<- List.drop_drop, e1]
 rfl
theorem Cel.set {cs : List AV} {off i : Nat} {L : List (Int × Int)} {w d : Int} (e : Int) (h : Cel cs off L) (hi : L[i]? = some (w, d)) : Cel (ovw cs (off + i * 2 + 1) [.int .i64 e]) off (L.set i (w, e)) := by
 obtain ⟨pre, more, rfl, rfl⟩ := h
 have hlt : i < L.length := (List.getElem?_eq_some_iff.1 hi).1
 refine ⟨pre, more, ?_, rfl⟩
 rw [<- fl_set L i w d e hi]
 unfold ovw
 rw [List.append_assoc pre, show pre.length + i * 2 + 1 = pre.length + (i * 2 + 1) by omega, List.take_length_add_append, List.length_singleton, Nat.add_assoc pre.length, List.drop_length_add_append, List.take_append_of_le_length (by rw [fl_len]; omega), List.drop_append_of_le_length (by rw [fl_len]; omega)]
 simp
theorem Cel.sort {cs : List AV} {off : Nat} {L M : List (Int × Int)} (h : Cel cs off L) (hl : M.length = L.length) : Cel (ovw cs off (fl M)) off M := by
 obtain ⟨pre, more, rfl, rfl⟩ := h
 refine ⟨pre, more, ?_, rfl⟩
 unfold ovw
 have e1 : (pre ++ fl L ++ more).take pre.length = pre := by simp
 have e2 : (pre ++ fl L ++ more).drop (pre.length + (fl M).length) = more := by
  have : pre.length + (fl M).length = (pre ++ fl L).length := by simp [fl_len, hl]
  rw [this, List.drop_left]
 rw [e1, e2]
theorem Cel.tail {cs : List AV} {off : Nat} {x : Int × Int} {L : List (Int × Int)} (h : Cel cs off (x :: L)) : Cel cs (off + 2) L := by
 obtain ⟨pre, more, rfl, rfl⟩ := h
 exact ⟨pre ++ [.int .i64 x.1, .int .i64 x.2], more, by simp [fl], by simp⟩
theorem Cel.whole (L : List (Int × Int)) : Cel (fl L) 0 L := ⟨[], [], by simp, rfl⟩
end Go.Bm
