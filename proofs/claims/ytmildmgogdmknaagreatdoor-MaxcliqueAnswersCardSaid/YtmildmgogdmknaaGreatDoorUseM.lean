/- The rules by which a run of the compact code is computed. -/
import Derived.Test.YtmildmgogdmknaaGreatDoorCfS
namespace Go.BmP
open Go.Am Go.Bm
attribute [simp] di Py vW m4 Px DF oY ahA fO PX af4 afG L5 al8 acE nI tQ gH WE bC dX fJ fw ae6 Gy adH abp T2 OR B8 putB SF bX bZ Fh cD Me Mc Iq Aw aU dL bJ fR Xr tZ endK td trim kM iB lM kB kr arith We eqB iZ Fi xb DK bnd P9 FN AV.cells rO Dj ldOK AV.leaf bG fz pl dP Pt Mh pA EL jH Fq.ok DE Nq iR KB rJ iO O.reads Kd.reads E.slot n9 Ny sN List.getD kL eV TM clean gK resV rM pF eC iN dZ rF getArgs eU xh mZ Io uJ zX cont aD at_ setAt rel Fj Mz pz LB eO Ve afE borC borS borE borH RJ cE k8 fI cZ dq sw rt fb mvB kI nf Ae isRoot rootOf lY sO Cj Am.rep kg gT RZ aI el VU Su iZ inpV inpL VO lJ We QP DK cY U7 Bv dw amh amg ajz Nv m7 marks boxZ Aa cellOf yG VL oe Ru RY Xo Pk U9 Vb vT eatN empN p9 ZU EP cC nQ anE isFn ajw Jm ia uc FI D4 aaC uI TY finX vX Mp MW nY locV s9 oo oz ki gf gt cS pT pX FG Gl OY PO PR Rj Rl PQ Al Rm cL sK kR Rk oW yV O6 Hq Sq L4 Pv PJ R5 cU Nr PS
end Go.BmP
