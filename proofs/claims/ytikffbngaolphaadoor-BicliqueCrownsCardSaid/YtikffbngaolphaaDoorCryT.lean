/- A table of calls and their answers. -/
import Derived.Test.YtikffbngaolphaaDoorCryK0
import Derived.Test.YtikffbngaolphaaDoorCryK1
import Derived.Test.YtikffbngaolphaaDoorCryK2
import Derived.Test.YtikffbngaolphaaDoorCryK3
import Derived.Test.YtikffbngaolphaaDoorCryK4
import Derived.Test.YtikffbngaolphaaDoorCryK5
import Derived.Test.YtikffbngaolphaaDoorCryK6
import Derived.Test.YtikffbngaolphaaDoorCryK7
import Derived.Test.YtikffbngaolphaaDoorCryK8
import Derived.Test.YtikffbngaolphaaDoorCryK9
set_option maxRecDepth 100000
namespace Go.BmP
open Go.Am Go.Bm
def tabCry : List Fact := [cry0, cry1, cry2, cry3, cry4, cry5, cry6, cry7, cry8, cry9]
theorem tabCry_ok : FactsOK cfgT tabCry := (factsOK_cons (callB_leL 3000 _ _ _ _ cry0_ok) (factsOK_cons (callB_leL 3000 _ _ _ _ cry1_ok) (factsOK_cons (callB_leL 3000 _ _ _ _ cry2_ok) (factsOK_cons (callB_leL 3000 _ _ _ _ cry3_ok) (factsOK_cons (callB_leL 3000 _ _ _ _ cry4_ok) (factsOK_cons (callB_leL 3000 _ _ _ _ cry5_ok) (factsOK_cons (callB_leL 3000 _ _ _ _ cry6_ok) (factsOK_cons (callB_leL 3000 _ _ _ _ cry7_ok) (factsOK_cons (callB_leL 3000 _ _ _ _ cry8_ok) (factsOK_cons (callB_leL 3000 _ _ _ _ cry9_ok) factsOK_nil))))))))))
end Go.BmP
