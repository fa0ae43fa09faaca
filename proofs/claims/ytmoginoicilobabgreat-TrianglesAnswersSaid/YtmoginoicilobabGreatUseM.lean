/- The rules by which a run of the compact code is computed. -/
import Derived.Test.YtmoginoicilobabGreatRunX
import Derived.Test.YtmoginoicilobabGreatCfS
namespace Go.BmP
open Go.Am Go.Bm
attribute [simp] qJ Wl Iw Re Wk Rf Wm acR yx abm abl aa2 ahx ahw afd pf po ft Qy bn dq eY eP aas V3 Zk Ve Z4 Vw vU Vg LJ bN bJ zj bR Gl Gk Gi uL aN df bz fg Wb rC endK pR trim qw jh Al tV Gc arith W2 eqB gO sQ QO yd bnd Jk zQ AV.cells nf xE ldOK AV.leaf bq fz pl dK It Gn mg yT iz Fq.ok xX Hd gJ EZ mZ gq O.reads Kd.reads E.slot kP Hi nK List.getD jB hO NB clean fK XI nO m6 ei gj dE mw getArgs eh rF kN Cy xK yX cont az at_ setAt rel zk GN mf Fw dV OT Cj A8 borS borE borH KE bP ji fy cU dp sw rt fb Vv ju jo za isRoot rootOf jF nM pM Am.rep iZ FB KZ aA el PA Lt gO VI inpL Ps jU W2 EN yd yL Q1 vQ dh ahD ahC aeX UW kA marks Wx ug cellOf jV we lC uh KY V7 Ik OP V8 Ce empN movN mA TB yV bp kX FI GU Ph Dt fR pD slAt zM Uc pP NY finX Uy noB Ky lq Vy oJ oo oz ki gf gt
end Go.BmP
