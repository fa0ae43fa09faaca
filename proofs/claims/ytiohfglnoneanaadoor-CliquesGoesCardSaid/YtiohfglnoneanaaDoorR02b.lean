/- What functions of cohesionref02 return: Has, Valid, put, Of. -/
import Derived.Test.YtiohfglnoneanaaDoorCfS
import Derived.Test.YtiohfglnoneanaaDoorRunX
import Derived.Test.YtiohfglnoneanaaDoorSpc
set_option linter.unusedSimpArgs false
set_option linter.unusedVariables false
set_option maxRecDepth 100000
namespace Go.BmP
open Go.Am Go.Bm
end Go.BmP
