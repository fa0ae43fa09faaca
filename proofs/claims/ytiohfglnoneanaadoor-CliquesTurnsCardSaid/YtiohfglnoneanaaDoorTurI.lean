/- The configuration with the table is sound. -/
import Derived.Test.YtiohfglnoneanaaDoorTurU
import Derived.Test.YtiohfglnoneanaaDoorInpS
namespace Go.BmP
open Go.Am Go.Bm
theorem cfgTOK : CfgOKB Go.Proofs.Tryd.prog cfgT := withTab_ok cfgSOK
theorem cfgTInp : InpOK Go.Proofs.Tryd.prog cfgT := cfgSInp
theorem cfgTOrc : OrcOKB Go.Proofs.Tryd.prog cfgT := withTab_orc cfgSOK cfgSInp (orcOKB_none orcS) tabTur_ok
theorem cfgUOK : CfgOKB Go.Proofs.Tryd.prog cfgU := withTab_ok cfgTOK
theorem cfgUInp : InpOK Go.Proofs.Tryd.prog cfgU := cfgTInp
theorem cfgUOrc : OrcOKB Go.Proofs.Tryd.prog cfgU := withTab_orc cfgTOK cfgTInp cfgTOrc tabTuv_ok
end Go.BmP
