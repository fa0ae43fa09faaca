/- The rules by which a run of the compact code is computed. -/
import Derived.Test.YtpimmjklbakckaaDoorCfS
namespace Go.BmP
open Go.Am Go.Bm
attribute [simp] eQ Ho Hr EU Hn Ou Hp aaj lX YA Yz aeb XT aea U0 my rA eO Nt aR dm eP er Xd G8 Vo Tg KN GU xM Ti JN bH bF z8 bM Fj Fi Fg wc aI cU bq eW Oe rL Xs qO trim rF jG AK vC qg arith M1 eqB gG xf tG yZ bnd H7 AA AV.cells qb ym ldOK AV.leaf bm fz pl eC Hj Fm nT zF ij Fq.ok yS Ge gz D0 pY gh O.reads Kd.reads E.slot mS Gl qz List.getD jF gj Kz clean gn Tf p9 nZ dL gg dj pW getArgs dO tP ks Bi xy yz cont aq at_ setAt rel Ac FM nS EI dJ LY Mm Jd borS borE XQ IP bX jQ fH cC cK sw rt fb Tt iZ k7 vM isRoot rootOf kB rB yd Am.rep iX mI Jg az el IU JG gG TB ZD MA jX M1 FP yZ Vy IY xI cM aek aej ab9 Tc kZ marks Uf vK cellOf uI Mx mZ IE Jf Oa Hd LQ Ob xO qf empN movN oU Rc zI dh mH afQ isFn ab8 C4 fL rP qA Au RG rZ KI Xn tg FD Eu mN Tx qK oo oz ki gf gt aH iI kc rm tf re R8 xB yW Ag rl Bq Ue CM vZ CL OD Jx Ud CK ML CJ Uy Uc bzY OC bE qh xS
end Go.BmP
