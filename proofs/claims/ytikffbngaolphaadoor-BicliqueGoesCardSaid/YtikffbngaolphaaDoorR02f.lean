/- nodeset.merged: rounds of its loop. -/
import Derived.Test.YtikffbngaolphaaDoorR02e
set_option linter.unusedSimpArgs false
set_option linter.unusedVariables false
set_option maxRecDepth 100000
set_option maxHeartbeats 4000000
namespace Go.BmP
open Go.Am Go.Bm
end Go.BmP
