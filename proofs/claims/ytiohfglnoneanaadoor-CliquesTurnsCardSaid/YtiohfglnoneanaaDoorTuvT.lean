/- A table of calls and their answers. -/
import Derived.Test.YtiohfglnoneanaaDoorTuvK0
import Derived.Test.YtiohfglnoneanaaDoorTuvK1
import Derived.Test.YtiohfglnoneanaaDoorTuvK2
import Derived.Test.YtiohfglnoneanaaDoorTuvK3
import Derived.Test.YtiohfglnoneanaaDoorTuvK4
import Derived.Test.YtiohfglnoneanaaDoorTuvK5
import Derived.Test.YtiohfglnoneanaaDoorTuvK6
set_option maxRecDepth 100000
namespace Go.BmP
open Go.Am Go.Bm
def tabTuv : List Fact := [tuv0, tuv1, tuv2, tuv3, tuv4, tuv5, tuv6]
theorem tabTuv_ok : FactsOK cfgT tabTuv := (factsOK_cons (callB_leL 3000 _ _ _ _ tuv0_ok) (factsOK_cons (callB_leL 3000 _ _ _ _ tuv1_ok) (factsOK_cons (callB_leL 3000 _ _ _ _ tuv2_ok) (factsOK_cons (callB_leL 3000 _ _ _ _ tuv3_ok) (factsOK_cons (callB_leL 3000 _ _ _ _ tuv4_ok) (factsOK_cons (callB_leL 3000 _ _ _ _ tuv5_ok) (factsOK_cons (callB_leL 3000 _ _ _ _ tuv6_ok) factsOK_nil)))))))
end Go.BmP
