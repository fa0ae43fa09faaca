/- The rules by which a run of the compact code is computed. -/
import Derived.Test.YteomjfokokneoaaDoorRunX
import Derived.Test.YteomjfokokneoaaDoorCfS
namespace Go.BmP
open Go.Am Go.Bm
attribute [simp] bp IY oN iK v8 s8 gC aaR b9 CM CL YQ Gg Qa Wb kL p8 fo Pb bn di eG fh Yc Bh WB T4 MD Io wQ T6 KF bI bw zV bJ Gs Gr Gp vf aL cQ bq ff PR qf Yo pw trim po jL AN uE jq arith OC eqB gB zW PA xU bnd Jp AE AV.cells n8 xy ldOK AV.leaf bm fz pl j5 IV Gv m5 zy im Fq.ok xP G7 gk E1 nV gh O.reads Kd.reads E.slot lk Hf oU List.getD ju gI Mm clean fj TV nZ m7 dH gg c7 nQ getArgs dI s6 kg CF xH zE cont aC at_ setAt rel zZ GM m4 FB dB Nz YK YM borS borE YL J0 bW jC ft b8 cC sw rt fb Un jl jU zM isRoot rootOf nA oV xe Am.rep jf FH Kg aE el Oq Kz gB Uz inpL Og jK OC JD xU jV UU wm cE aep aeo acE Hc km marks Ve uL cellOf tM Oe lv JS Kf PO IH Nv Yg IJ eatN empN movN nu Sj zC cz kh aeZ isFn acC Dt fK qj slAt Au SU qz Mz finX Tl noB JT lj Us pk oo oz ki
end Go.BmP
