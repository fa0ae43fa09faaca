/- The law CliquesTurns behind its first number; heavy calls are known ahead. -/
import Derived.Test.YtiohfglnoneanaaDoorTurT
set_option maxRecDepth 100000
namespace Go.BmP
open Go.Am Go.Bm
def cfgT : Go.Bm.Cfg := withTab cfgS tabTur
def cTur1 : C := match cLaw24CliquesTurns with
  | .seq _ (.seq _ b) => b
  | _ => .skip
def turS (k : Int) : St := ⟨[(3, .int .i64 k)], []⟩
end Go.BmP
