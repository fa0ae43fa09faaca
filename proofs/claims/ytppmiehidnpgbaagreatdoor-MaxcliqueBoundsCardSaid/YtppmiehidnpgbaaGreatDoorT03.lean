/- What triangles.lists returns: the neighbours of each node, ascending. -/
import Derived.Test.YtppmiehidnpgbaaGreatDoorT02
set_option linter.unusedSimpArgs false
set_option linter.unusedVariables false
set_option maxRecDepth 100000
set_option maxHeartbeats 4000000
namespace Go.BmP
open Go.Am Go.Bm
def llT (o : List (List Int)) : List AV := o.map fun S => .list 1 (ints S)
def rws (R : List (List Int)) : List AV := R.map fun r => .own 1 (ints r)
def lsF (R : List (List Int)) (e : Ed) : List (List Int) := (R.set e.1.toNat (R.getD e.1.toNat [] ++ [e.2])).set e.2.toNat (R.getD e.2.toNat [] ++ [e.1])
theorem FV (R : List (List Int)) (e : Ed) : (lsF R e).length = R.length := by simp [lsF]
def liSt (N : Nat) (Es : List Ed) (R : List (List Int)) (i : Nat) (J : Env) : St := ⟨(3,.sl 1 1 0 N) :: (12,.list 2 (dO Es)) :: (13,.int .i64 Es.length) :: (14,.int .i64 i) :: J,[some [.int .i64 N,.list 2 (dO Es)],some (rws R)]⟩
def lsSt (N : Nat) (Es : List Ed) (R : List (List Int)) (i : Nat) (J : Env) : St := ⟨(3,.sl 1 1 0 N) :: (45,.sl 1 1 0 N) :: (46,.int .i64 N) :: (47,.int .i64 i) :: J,[some [.int .i64 N,.list 2 (dO Es)],some (rws R)]⟩
def lstE (N : Nat) (Es : List Ed) : List (List Int) := (Es.foldl lsF (List.replicate N [])).map gY
theorem Wh (Es : List Ed) : ∀ R : List (List Int),(Es.foldl lsF R).length = R.length := by
 induction Es with
 | nil => intro R; rfl
 | cons e r ih => intro R; rw [List.foldl_cons,ih,FV]
end Go.BmP
