/- The law BicliqueCrowns behind its first numbers; heavy calls are known ahead. -/
import Derived.Test.YtikffbngaolphaaDoorCrxT
import Derived.Test.YtikffbngaolphaaDoorTabM
set_option maxRecDepth 100000
namespace Go.BmP
open Go.Am Go.Bm
def cfgT : Go.Bm.Cfg := withTab2 cfgS tabCrx
def cCrw1 : C := match cLaw27BicliqueCrowns with
  | .seq _ (.seq _ b) => b
  | _ => .skip
def crwS (k : Int) (p : Bool) : St := ⟨[(1, .bool p), (5, .int .i64 k)], []⟩
end Go.BmP
