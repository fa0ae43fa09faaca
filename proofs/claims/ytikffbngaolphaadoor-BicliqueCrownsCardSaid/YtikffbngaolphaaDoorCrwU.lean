/- Two tables of calls. -/
import Derived.Test.YtikffbngaolphaaDoorCryT
set_option maxRecDepth 100000
namespace Go.BmP
open Go.Am Go.Bm
def cfgU : Go.Bm.Cfg := withTab2 cfgT tabCry
theorem cfgTOK : CfgOKB Go.Proofs.Tryd.prog cfgT := withTab2_ok cfgSOK
theorem cfgTInp : InpOK Go.Proofs.Tryd.prog cfgT := cfgSInp
theorem cfgTOrc : OrcOKB Go.Proofs.Tryd.prog cfgT := withTab2_orc cfgSOK cfgSInp (orcOKB_none orcS) tabCrx_ok
theorem cfgUOK : CfgOKB Go.Proofs.Tryd.prog cfgU := withTab2_ok cfgTOK
theorem cfgUInp : InpOK Go.Proofs.Tryd.prog cfgU := cfgTInp
theorem cfgUOrc : OrcOKB Go.Proofs.Tryd.prog cfgU := withTab2_orc cfgTOK cfgTInp cfgTOrc tabCry_ok
end Go.BmP
