/- Slices that own each other's cells: the rows of triangles.lists, one step of it. -/
import Derived.Test.YtmildmgogdmknaaGreatDoorR02d
import Derived.Test.YtmildmgogdmknaaGreatDoorN01
set_option linter.unusedSimpArgs false
set_option linter.unusedVariables false
set_option maxRecDepth 100000
set_option maxHeartbeats 4000000
namespace Go.BmP
open Go.Am Go.Bm
end Go.BmP
