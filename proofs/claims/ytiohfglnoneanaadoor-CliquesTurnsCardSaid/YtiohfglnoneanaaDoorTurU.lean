/- Two tables of calls. -/
import Derived.Test.YtiohfglnoneanaaDoorTuvT
set_option maxRecDepth 100000
namespace Go.BmP
open Go.Am Go.Bm
def cfgU : Go.Bm.Cfg := withTab cfgT tabTuv
end Go.BmP
