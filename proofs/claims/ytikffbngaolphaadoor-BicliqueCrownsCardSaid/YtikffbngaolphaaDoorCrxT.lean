/- A table of calls and their answers. -/
import Derived.Test.YtikffbngaolphaaDoorCrxK0
import Derived.Test.YtikffbngaolphaaDoorCrxK1
import Derived.Test.YtikffbngaolphaaDoorCrxK2
import Derived.Test.YtikffbngaolphaaDoorCrxK3
import Derived.Test.YtikffbngaolphaaDoorCrxK4
import Derived.Test.YtikffbngaolphaaDoorCrxK5
import Derived.Test.YtikffbngaolphaaDoorCrxK6
import Derived.Test.YtikffbngaolphaaDoorCrxK7
import Derived.Test.YtikffbngaolphaaDoorCrxK8
import Derived.Test.YtikffbngaolphaaDoorCrxK9
import Derived.Test.YtikffbngaolphaaDoorCrxK10
import Derived.Test.YtikffbngaolphaaDoorCrxK11
import Derived.Test.YtikffbngaolphaaDoorCrxK12
import Derived.Test.YtikffbngaolphaaDoorCrxK13
set_option maxRecDepth 100000
namespace Go.BmP
open Go.Am Go.Bm
def tabCrx : List Fact := [crx0, crx1, crx2, crx3, crx4, crx5, crx6, crx7, crx8, crx9, crx10, crx11, crx12, crx13, crx14, crx15, crx16, crx17, crx18, crx19, crx20, crx21, crx22, crx23, crx24, crx25, crx26, crx27, crx28, crx29, crx30, crx31, crx32, crx33, crx34, crx35, crx36, crx37, crx38, crx39]
theorem tabCrx_ok : FactsOK cfgS tabCrx := (factsOK_cons (callB_leL 3000 _ _ _ _ crx0_ok) (factsOK_cons (callB_leL 3000 _ _ _ _ crx1_ok) (factsOK_cons (callB_leL 3000 _ _ _ _ crx2_ok) (factsOK_cons (callB_leL 3000 _ _ _ _ crx3_ok) (factsOK_cons (callB_leL 3000 _ _ _ _ crx4_ok) (factsOK_cons (callB_leL 3000 _ _ _ _ crx5_ok) (factsOK_cons (callB_leL 3000 _ _ _ _ crx6_ok) (factsOK_cons (callB_leL 3000 _ _ _ _ crx7_ok) (factsOK_cons (callB_leL 3000 _ _ _ _ crx8_ok) (factsOK_cons (callB_leL 3000 _ _ _ _ crx9_ok) (factsOK_cons (callB_leL 3000 _ _ _ _ crx10_ok) (factsOK_cons (callB_leL 3000 _ _ _ _ crx11_ok) (factsOK_cons (callB_leL 3000 _ _ _ _ crx12_ok) (factsOK_cons (callB_leL 3000 _ _ _ _ crx13_ok) (factsOK_cons (callB_leL 3000 _ _ _ _ crx14_ok) (factsOK_cons (callB_leL 3000 _ _ _ _ crx15_ok) (factsOK_cons (callB_leL 3000 _ _ _ _ crx16_ok) (factsOK_cons (callB_leL 3000 _ _ _ _ crx17_ok) (factsOK_cons (callB_leL 3000 _ _ _ _ crx18_ok) (factsOK_cons (callB_leL 3000 _ _ _ _ crx19_ok) (factsOK_cons (callB_leL 3000 _ _ _ _ crx20_ok) (factsOK_cons (callB_leL 3000 _ _ _ _ crx21_ok) (factsOK_cons (callB_leL 3000 _ _ _ _ crx22_ok) (factsOK_cons (callB_leL 3000 _ _ _ _ crx23_ok) (factsOK_cons (callB_leL 3000 _ _ _ _ crx24_ok) (factsOK_cons (callB_leL 3000 _ _ _ _ crx25_ok) (factsOK_cons (callB_leL 3000 _ _ _ _ crx26_ok) (factsOK_cons (callB_leL 3000 _ _ _ _ crx27_ok) (factsOK_cons (callB_leL 3000 _ _ _ _ crx28_ok) (factsOK_cons (callB_leL 3000 _ _ _ _ crx29_ok) (factsOK_cons (callB_leL 3000 _ _ _ _ crx30_ok) (factsOK_cons (callB_leL 3000 _ _ _ _ crx31_ok) (factsOK_cons (callB_leL 3000 _ _ _ _ crx32_ok) (factsOK_cons (callB_leL 3000 _ _ _ _ crx33_ok) (factsOK_cons (callB_leL 3000 _ _ _ _ crx34_ok) (factsOK_cons (callB_leL 3000 _ _ _ _ crx35_ok) (factsOK_cons (callB_leL 3000 _ _ _ _ crx36_ok) (factsOK_cons (callB_leL 3000 _ _ _ _ crx37_ok) (factsOK_cons (callB_leL 3000 _ _ _ _ crx38_ok) (factsOK_cons (callB_leL 3000 _ _ _ _ crx39_ok) factsOK_nil))))))))))))))))))))))))))))))))))))))))
end Go.BmP
