/- A table of calls and their answers. -/
import Derived.Test.YtikffbngaolphaaDoorCrzK0
import Derived.Test.YtikffbngaolphaaDoorCrzK1
import Derived.Test.YtikffbngaolphaaDoorCrzK2
set_option maxRecDepth 100000
namespace Go.BmP
open Go.Am Go.Bm
def tabCrz : List Fact := [crz0, crz1, crz2]
theorem tabCrz_ok : FactsOK cfgU tabCrz := (factsOK_cons (callB_leL 3000 _ _ _ _ crz0_ok) (factsOK_cons (callB_leL 3000 _ _ _ _ crz1_ok) (factsOK_cons (callB_leL 3000 _ _ _ _ crz2_ok) factsOK_nil)))
end Go.BmP
