/- What triangles counts: Count and Nodes. -/
import Derived.Test.YtmjjimilhllnoaaGreatDoorUseM
import Derived.Test.YtmjjimilhllnoaaGreatDoorT04
import Derived.Test.YtmjjimilhllnoaaGreatDoorK04
set_option linter.unusedSimpArgs false
set_option linter.unusedVariables false
set_option maxRecDepth 100000
set_option maxHeartbeats 4000000
namespace Go.BmP
open Go.Am Go.Bm
def ciSt (Z Y : List AV) (len i : Int) (S : List Int) (s : Int) (n : List Int) (j : Nat) (J : Env) : St := ⟨(4, .list 1 Z) :: (5, .int .i64 s) :: (6, .own 1 (ints n)) :: (17, .list 2 Y) :: (18, .int .i64 len) :: (19, .int .i64 i) :: (33, .list 1 (ints S)) :: (34, .int .i64 S.length) :: (35, .int .i64 j) :: J, []⟩
def coSt (Z : List AV) (Es : List Ed) (s : Int) (n : List Int) (i : Nat) (J : Env) : St := ⟨(4, .list 1 Z) :: (5, .int .i64 s) :: (6, .own 1 (ints n)) :: (17, .list 2 (eds Es)) :: (18, .int .i64 Es.length) :: (19, .int .i64 i) :: J, []⟩
theorem triN_length (N : Nat) (Es : List Ed) : (triN N Es).length = N := by
 have : ∀ (l : List Ed) (n : List Int), (l.foldl (fun n e => (com N Es e).foldl bump n) n).length = n.length := by
  intro l
  induction l with
  | nil => intro n; rfl
  | cons e r ih => intro n; rw [List.foldl_cons, ih, bumps_length]
 rw [triN, this, List.length_replicate]
end Go.BmP
