/- What functions of cohesionref02 return: Has, Valid, put, Of. -/
import Derived.Test.YtcjfhegnnjnmgaaCfS
import Derived.Test.YtcjfhegnnjnmgaaRunX
import Derived.Test.YtcjfhegnnjnmgaaSpc
set_option linter.unusedSimpArgs false
set_option linter.unusedVariables false
set_option maxRecDepth 100000
namespace Go.BmP
open Go.Am Go.Bm
end Go.BmP
