/- What two ascending lists have in common, as triangles.shared finds it. -/
import Derived.Test.YtppmiehidnpgbaaGreatDoorR02d
import Derived.Test.YtppmiehidnpgbaaGreatDoorN01
set_option linter.unusedSimpArgs false
set_option linter.unusedVariables false
set_option maxRecDepth 100000
set_option maxHeartbeats 4000000
namespace Go.BmP
open Go.Am Go.Bm
def shr : List Int -> List Int -> List Int
 | [],_ => []
 | _ :: _,[] => []
 | x :: r,y :: s => if x < y then shr r (y :: s) else if y < x then shr (x :: r) s else x :: shr r s
termination_by a b => a.length + b.length
def sSt (a b o : List Int) (J : Env) : St := ⟨(0,.list 1 (ints a)) :: (1,.list 1 (ints b)) :: (5,.own 1 (ints o)) :: J,[]⟩
end Go.BmP
