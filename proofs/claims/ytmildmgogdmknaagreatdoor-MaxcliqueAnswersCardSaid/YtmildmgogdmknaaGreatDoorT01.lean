/- What two ascending lists have in common, as triangles.shared finds it. -/
import Derived.Test.YtmildmgogdmknaaGreatDoorR02d
import Derived.Test.YtmildmgogdmknaaGreatDoorN01
set_option linter.unusedSimpArgs false
set_option linter.unusedVariables false
set_option maxRecDepth 100000
set_option maxHeartbeats 4000000
namespace Go.BmP
open Go.Am Go.Bm
def shr:List Int->List Int->List Int
 |[],_=>[]
 |_::_,[]=>[]
 |x::r,y::s=>if x<y then shr r (y::s) else if y<x then shr (x::r) s else x::shr r s
termination_by a b=>a.length+b.length
end Go.BmP
