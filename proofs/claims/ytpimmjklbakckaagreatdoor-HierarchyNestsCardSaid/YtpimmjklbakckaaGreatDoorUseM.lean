/- The rules by which a run of the compact code is computed. -/
import Derived.Test.YtpimmjklbakckaaGreatDoorCfS
namespace Go.BmP
open Go.Am Go.Bm
attribute [simp] eU JH JJ GV JG Q4 JI ab3 lU aaO aaN afV aau afU XJ mz sj eS P5 aY dv eT eF ZT Jr X4 VR M8 Jd yT VT LX bL bJ Bl bP Hk Hj Hh xk aK cW bw eY QU sG Z9 rF trim sy jI BX wL qT arith PE eqB gK yp ud Ag bnd Kg BR AV.cells qN zw ldOK AV.leaf bq fz pl eE JC Ho nW AQ ij Fq.ok Aa Ij gF F6 qJ gk O.reads Kd.reads E.slot mT Is rb List.getD jH gq MQ clean gC VN qM ob dN gj dq qG getArgs dP uj ks Cv yG zH cont au at_ setAt rel Bo HN nV GJ dK Oq OO Ld borS borE borH KU cm jS fJ cD cO sw rt fb V7 jc kY wX isRoot rootOf kA sk zj Am.rep iZ jM Lj aA el KW LO gK Wh inpL O4 jZ PE HP Ag AE K0 yP cP af3 af2 ad0 Ip kW marks WU wV cellOf vB OY nf KH Li QQ Jv Oi QR yV qQ empN movN oX TL AW dD mG ahz isFn adZ EM fP sK zi BJ Ug sT M4 Z4 tH HB Gw mP Wd rC oo oz ki gf gt aG fW hZ nK mZ mR Er sa rV vV qI BG Rf Ao ur Bu DI Ia LG G7 Bt CD Re DH bzY Rc bn ke sd
end Go.BmP
