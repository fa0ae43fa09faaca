/- The rules by which a run of the compact code is computed. -/
import Derived.Test.YtppmiehidnpgbaaGreatDoorRunX
import Derived.Test.YtppmiehidnpgbaaGreatDoorCfS
namespace Go.BmP
open Go.Am Go.Bm
attribute [simp] cQ Jz sr kT Jy yd mN aca e9 JW aaG aan GQ ahb XG lI qH fH PE bt dE eW eM ZJ A9 X6 Vx M5 IW xc Vz Mj bJ bK zS bS GZ GY CI vH aP dh bD fe QC qP ZU qf trim mj jq qd mG jz arith Pg eqB iq zT sW yk bnd J3 Al AV.cells oY xM ldOK AV.leaf bz fz pl gz Ju G4 mZ zw iZ Fq.ok yc HR hU FG oS gX O.reads Kd.reads E.slot mh HY pI List.getD jR fi MN clean fU Vt oW nt ep gW dA oP getArgs dU s4 kS CG wO xT cont aC at_ setAt rel zU Ho mY Gr dR Ob aal borC borS borE WE Lr cz j7 ft cN de sw rt fb VS jN kX vl isRoot rootOf kz pJ xw Am.rep jv hB LK aH el OY L8 iq V3 inpL OR kg Pg KN yk fG N3 wR cW ahp aho aeQ HV kV marks WC vk cellOf tZ OO mu Ld LJ Qy Jn N6 N8 si eatN empN movN nI TH zz dQ lR aiT isFn aeL Dv gq qT Cr Ag Us q8 M0 ZP sA Hc Hw l7 VX qc oo oz ki gf gt
end Go.BmP
