/- The rules by which a run of the compact code is computed. -/
import Derived.Test.YtbnheahpdodmjaaGreatDoorCfS
namespace Go.BmP
open Go.Am Go.Bm
attribute [simp] ft OX OZ LP OW W9 OY ahE oC afZ afY aly afA alx acG oQ uh fk VZ bp dC fo fc aeZ OG ado abz SQ Ol BR putB Rm bV bT EK cm Mn Mm Mk Ai aS dn bL fw WW uB endK tC trim uu lk Fu zH sP arith Vr eqB iB Bb wK Da bnd PJ Fj AV.cells sE CC ldOK AV.leaf bC fz pl dq OS Mp qh Ec jq Fq.ok C4 Ni iu KK rY ij O.reads Kd.reads E.slot pw Nt th List.getD lg eK Su clean im resV sd qq dH ig dF rV getArgs eL wY mU FZ Br CM cont az at_ setAt rel EN MM qg LD eE Ug UF QH borS borE borH Qt cB lZ gn cT dc sw rt fb mvB kf nN zS isRoot rootOf mW ui Ca Am.rep j9 lJ QM aA el E7 Re iB inpV inpL UZ mg Vr MP Da D0 E8 BD de alG alF ai8 Np nK marks boxZ zQ cellOf yh UW pD Qf QL WS OK T9 WT BW sO tZ qM nob Eg eJ o7 amO isFn ai7 Ja gG uF Vy Fb aaJ vc SM finX vW Mz Lj po locV tA oo oz ki gf gt aD fI fH jE jY jD rX nX om sF oe uG F8 qT ub ua vm Ae EU F7 xd Bw L6 yI bzY UD aX iD nY
end Go.BmP
