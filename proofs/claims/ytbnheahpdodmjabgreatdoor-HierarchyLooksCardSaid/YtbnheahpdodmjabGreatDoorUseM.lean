/- The rules by which a run of the compact code is computed. -/
import Derived.Test.YtbnheahpdodmjabGreatDoorCfS
namespace Go.BmP
open Go.Am Go.Bm
attribute [simp] fF Ql Qn ML Qk YA Qm ai9 o7 ahB ahA am6 ahc am5 aec pz u4 fD Xm bq dK fE fj agA P0 ae2 acT Uo PA B5 putB S0 bY bS Fk ct Nh Ng Nd AH aV dz bP fJ Yp vo endK uy trim vf lH F4 Ac tq arith WM eqB iM Bz xq DM bnd QY FO AV.cells tc Da ldOK AV.leaf bF fz pl dc Qg Nj qJ EM jx Fq.ok DF Ol iE LB sQ iz O.reads Kd.reads E.slot qa Oy tQ List.getD lG fa TY clean iB resV sU qQ dP iy dN sO getArgs eT xG nf Gz BO Dk cont aB at_ setAt rel Fo NL qI My eO VI V6 Sc borS borE borH RS cB l8 gK cW dp sw rt fb mvB kz oF Ao isRoot rootOf nn u5 Cm Am.rep kj lT Sh aC el Iw SR iM inpV inpL Wo mw WM NO DM EC FG BZ dq ang anf akO Ou oD marks boxZ Al cellOf yJ Wm qe RE Sg Yl P7 VC Ym Ca tj uU rB lS ER cN pP an5 isFn akN Jm gP vt gn FI abY vE Uk finX wJ Nw Mh p7 locV uu oo oz ki gf gt aD fw fS jO ko jN tG nk nJ mQ oT tl Fw p8 tF uW Cc AD Fv DJ uV zg GH BF bzY SI aY gW mR
end Go.BmP
