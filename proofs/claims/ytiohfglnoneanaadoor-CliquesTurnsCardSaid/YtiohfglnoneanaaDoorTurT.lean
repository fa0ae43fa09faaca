/- A table of calls and their answers. -/
import Derived.Test.YtiohfglnoneanaaDoorTurK0
import Derived.Test.YtiohfglnoneanaaDoorTurK1
import Derived.Test.YtiohfglnoneanaaDoorTurK2
import Derived.Test.YtiohfglnoneanaaDoorTurK3
import Derived.Test.YtiohfglnoneanaaDoorTurK4
import Derived.Test.YtiohfglnoneanaaDoorTurK5
import Derived.Test.YtiohfglnoneanaaDoorTurK6
import Derived.Test.YtiohfglnoneanaaDoorTurK7
set_option maxRecDepth 100000
namespace Go.BmP
open Go.Am Go.Bm
def tabTur : List Fact := [tur0, tur1, tur2, tur3, tur4, tur5, tur6, tur7, tur8, tur9, tur10, tur11, tur12, tur13, tur14]
theorem tabTur_ok : FactsOK cfgS tabTur := (factsOK_cons (callB_leL 3000 _ _ _ _ tur0_ok) (factsOK_cons (callB_leL 3000 _ _ _ _ tur1_ok) (factsOK_cons (callB_leL 3000 _ _ _ _ tur2_ok) (factsOK_cons (callB_leL 3000 _ _ _ _ tur3_ok) (factsOK_cons (callB_leL 3000 _ _ _ _ tur4_ok) (factsOK_cons (callB_leL 3000 _ _ _ _ tur5_ok) (factsOK_cons (callB_leL 3000 _ _ _ _ tur6_ok) (factsOK_cons (callB_leL 3000 _ _ _ _ tur7_ok) (factsOK_cons (callB_leL 3000 _ _ _ _ tur8_ok) (factsOK_cons (callB_leL 3000 _ _ _ _ tur9_ok) (factsOK_cons (callB_leL 3000 _ _ _ _ tur10_ok) (factsOK_cons (callB_leL 3000 _ _ _ _ tur11_ok) (factsOK_cons (callB_leL 3000 _ _ _ _ tur12_ok) (factsOK_cons (callB_leL 3000 _ _ _ _ tur13_ok) (factsOK_cons (callB_leL 3000 _ _ _ _ tur14_ok) factsOK_nil)))))))))))))))
end Go.BmP
