/- The rules by which a run of the compact code is computed. -/
import Derived.Test.YtmoginoicilobaaGreatDoorRunX
import Derived.Test.YtmoginoicilobaaGreatDoorCfS
namespace Go.BmP
open Go.Am Go.Bm
attribute [simp] kh Jh Jj Gj Jg Qa Ji abA oX aao aan Z2 afJ afI WK mn p9 eR Pc bp dt ep dZ Zm IY XN Uq MN Iz w9 Us LQ bJ bI z7 bM GL GK GI vO aK cY bt eL PZ qD ZA pI trim rN jO A3 vf oM arith Oq eqB iC tO PJ yC bnd JV Ay AV.cells oT ya ldOK AV.leaf bq fz pl df Jc GO nH zG ja Fq.ok yu HF fJ Fu oO fG O.reads Kd.reads E.slot mM HK py List.getD j7 iP Mx clean fm Uo oR nJ dJ fF dm oJ getArgs dG sT kY Dc yg zK cont av at_ setAt rel z8 Hb nG F7 dC NA CR BC borS borE ZY KY bY kf fL cn cV sw rt fb UF jU k9 zT isRoot rootOf kN qa xx Am.rep jK Gc Lg aG el Oc LD iC US inpL N6 kF Oq O8 yC u7 U9 wX cJ afQ afP adC Ua kZ marks Vs vp cellOf kB xm mR vt Ld PX I2 Nv Va CN eatN empN movN nV SW zI bh mA agT isFn adz DN fj qH slAt As Tu qQ MJ finX TK noB KR mJ UI pF oo oz ki gf gt
end Go.BmP
