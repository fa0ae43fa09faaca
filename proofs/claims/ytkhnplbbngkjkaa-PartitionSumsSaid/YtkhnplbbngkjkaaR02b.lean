/- What functions of cohesionref02 return: Has, Valid, put, Of. -/
import Derived.Test.YtkhnplbbngkjkaaUseM
import Derived.Test.YtkhnplbbngkjkaaCfS
import Derived.Test.YtkhnplbbngkjkaaRunX
import Derived.Test.YtkhnplbbngkjkaaSpc
set_option linter.unusedSimpArgs false
set_option linter.unusedVariables false
set_option maxRecDepth 100000
namespace Go.BmP
open Go.Am Go.Bm
end Go.BmP
