/- Three tables of calls. -/
import Derived.Test.YtikffbngaolphaaDoorCrzT
set_option maxRecDepth 100000
namespace Go.BmP
open Go.Am Go.Bm
def cfgV : Go.Bm.Cfg := withTab2 cfgU tabCrz
theorem cfgVOK : CfgOKB Go.Proofs.Tryd.prog cfgV := withTab2_ok cfgUOK
theorem cfgVInp : InpOK Go.Proofs.Tryd.prog cfgV := cfgUInp
theorem cfgVOrc : OrcOKB Go.Proofs.Tryd.prog cfgV := withTab2_orc cfgUOK cfgUInp cfgUOrc tabCrz_ok
end Go.BmP
