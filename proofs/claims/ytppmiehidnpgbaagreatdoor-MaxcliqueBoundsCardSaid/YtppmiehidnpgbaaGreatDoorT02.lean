/- Slices that own each other's cells: the rows of triangles.lists, one step of it. -/
import Derived.Test.YtppmiehidnpgbaaGreatDoorR02d
import Derived.Test.YtppmiehidnpgbaaGreatDoorN01
set_option linter.unusedSimpArgs false
set_option linter.unusedVariables false
set_option maxRecDepth 100000
set_option maxHeartbeats 4000000
namespace Go.BmP
open Go.Am Go.Bm
def Cels (C : List AV) : Prop := ∀ c ∈ C,(∃ xs,c = .own 1 xs) \/ c = .any
end Go.BmP
