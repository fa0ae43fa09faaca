/- The library's sort and clone of ints lie in this program: which function and which type stands for which. -/
import Derived.Test.YtmildmgogdmknaaGreatDoorCloO
import Derived.Test.YtmildmgogdmknaaGreatDoorRvO
import Derived.KernelRfl
set_option maxRecDepth 100000
open Go.Proofs.Tryz renaming isAgg0 → tM, isAgg22 → tH, isAgg3 → tL, isAgg4 → tK, prog → aj, sizeOf0 → tG, sizeOf22 → sd, sizeOf3 → tF, sizeOf4 → tD, underlying0 → pj, underlying22 → n7, underlying3 → ph, underlying4 → pf, zeroValue0 → qi, zeroValue22 → pe, zeroValue3 → qh, zeroValue4 → qg
open Go.Shelf renaming Ren → Bp
namespace Go.BmP
open Go.Shelf Go.Proofs
def Ri:Bp:=⟨fun|189=>98|125=>101|257=>100|128=>111|129=>112|294=>102|295=>103|296=>104|297=>105|298=>106|299=>107|216=>108|300=>109|301=>110|328=>113|329=>114|330=>115|331=>116|332=>117|215=>96|343=>118|n=>n,fun|28=>22|3=>3|46=>83|0=>0|51=>103|53=>57|4=>4|183=>112|182=>111|131=>117|5=>5|9=>9|218=>120|222=>124|228=>126|229=>127|n=>n,fun n=>n⟩
theorem aeJ:Lays.n189 aj Ri where
 mixed:=by kernel_rfl
 f125:=Go.Proofs.Tryz.func101.trans (congrArg some (by kernel_rfl))
 f128:=Go.Proofs.Tryz.func111.trans (congrArg some (by kernel_rfl))
 f129:=Go.Proofs.Tryz.func112.trans (congrArg some (by kernel_rfl))
 f189:=Go.Proofs.Tryz.func98.trans (congrArg some (by kernel_rfl))
 f215:=Go.Proofs.Tryz.func96.trans (congrArg some (by kernel_rfl))
 f216:=Go.Proofs.Tryz.func108.trans (congrArg some (by kernel_rfl))
 f257:=Go.Proofs.Tryz.func100.trans (congrArg some (by kernel_rfl))
 f294:=Go.Proofs.Tryz.func102.trans (congrArg some (by kernel_rfl))
 f295:=Go.Proofs.Tryz.func103.trans (congrArg some (by kernel_rfl))
 f296:=Go.Proofs.Tryz.func104.trans (congrArg some (by kernel_rfl))
 f297:=Go.Proofs.Tryz.func105.trans (congrArg some (by kernel_rfl))
 f298:=Go.Proofs.Tryz.func106.trans (congrArg some (by kernel_rfl))
 f299:=Go.Proofs.Tryz.func107.trans (congrArg some (by kernel_rfl))
 f300:=Go.Proofs.Tryz.func109.trans (congrArg some (by kernel_rfl))
 f301:=Go.Proofs.Tryz.func110.trans (congrArg some (by kernel_rfl))
 f328:=Go.Proofs.Tryz.func113.trans (congrArg some (by kernel_rfl))
 f329:=Go.Proofs.Tryz.func114.trans (congrArg some (by kernel_rfl))
 f330:=Go.Proofs.Tryz.func115.trans (congrArg some (by kernel_rfl))
 f331:=Go.Proofs.Tryz.func116.trans (congrArg some (by kernel_rfl))
 f332:=Go.Proofs.Tryz.func117.trans (congrArg some (by kernel_rfl))
 f343:=Go.Proofs.Tryz.func118.trans (congrArg some (by kernel_rfl))
 t0:=pj
 a0:=tM
 z0:=tG
 v0:=qi
 t3:=ph
 a3:=tL
 z3:=tF
 v3:=qh
 t4:=pf
 a4:=tK
 z4:=tD
 v4:=qg
 t5:=Go.Proofs.Tryz.underlying5
 a5:=Go.Proofs.Tryz.isAgg5
 z5:=Go.Proofs.Tryz.sizeOf5
 v5:=Go.Proofs.Tryz.zeroValue5
 t9:=Go.Proofs.Tryz.underlying9
 a9:=Go.Proofs.Tryz.isAgg9
 z9:=Go.Proofs.Tryz.sizeOf9
 v9:=Go.Proofs.Tryz.zeroValue9
 t28:=n7
 a28:=tH
 z28:=sd
 v28:=pe
 t46:=Go.Proofs.Tryz.underlying83
 a46:=Go.Proofs.Tryz.isAgg83
 z46:=Go.Proofs.Tryz.sizeOf83
 v46:=Go.Proofs.Tryz.zeroValue83
 t51:=Go.Proofs.Tryz.underlying103
 a51:=Go.Proofs.Tryz.isAgg103
 z51:=Go.Proofs.Tryz.sizeOf103
 v51:=Go.Proofs.Tryz.zeroValue103
 t53:=Go.Proofs.Tryz.underlying57
 a53:=Go.Proofs.Tryz.isAgg57
 z53:=Go.Proofs.Tryz.sizeOf57
 v53:=Go.Proofs.Tryz.zeroValue57
 t131:=Go.Proofs.Tryz.underlying117
 a131:=Go.Proofs.Tryz.isAgg117
 z131:=Go.Proofs.Tryz.sizeOf117
 v131:=Go.Proofs.Tryz.zeroValue117
 t182:=Go.Proofs.Tryz.underlying111
 a182:=Go.Proofs.Tryz.isAgg111
 z182:=Go.Proofs.Tryz.sizeOf111
 v182:=Go.Proofs.Tryz.zeroValue111
 t183:=Go.Proofs.Tryz.underlying112
 a183:=Go.Proofs.Tryz.isAgg112
 z183:=Go.Proofs.Tryz.sizeOf112
 v183:=Go.Proofs.Tryz.zeroValue112
 t218:=Go.Proofs.Tryz.underlying120
 a218:=Go.Proofs.Tryz.isAgg120
 z218:=Go.Proofs.Tryz.sizeOf120
 v218:=Go.Proofs.Tryz.zeroValue120
 t222:=Go.Proofs.Tryz.underlying124
 a222:=Go.Proofs.Tryz.isAgg124
 z222:=Go.Proofs.Tryz.sizeOf124
 v222:=Go.Proofs.Tryz.zeroValue124
 t228:=Go.Proofs.Tryz.underlying126
 a228:=Go.Proofs.Tryz.isAgg126
 z228:=Go.Proofs.Tryz.sizeOf126
 v228:=Go.Proofs.Tryz.zeroValue126
 t229:=Go.Proofs.Tryz.underlying127
 a229:=Go.Proofs.Tryz.isAgg127
 z229:=Go.Proofs.Tryz.sizeOf127
 v229:=Go.Proofs.Tryz.zeroValue127
def Ie:Bp:=⟨fun|20=>99|n=>n,fun|22=>22|3=>3|4=>4|0=>0|n=>n,fun n=>n⟩
theorem Ud:Lays2.n20 aj Ie where
 mixed:=by kernel_rfl
 f20:=Go.Proofs.Tryz.func99.trans (congrArg some (by kernel_rfl))
 t0:=pj
 a0:=tM
 z0:=tG
 v0:=qi
 t3:=ph
 a3:=tL
 z3:=tF
 v3:=qh
 t4:=pf
 a4:=tK
 z4:=tD
 v4:=qg
 t22:=n7
 a22:=tH
 z22:=sd
 v22:=pe
 i3:=by kernel_rfl
def Uc:Bp:=⟨fun|112=>38|n=>n,fun|28=>22|3=>3|4=>4|0=>0|n=>n,fun n=>n⟩
theorem ag9:Lays.n112 aj Uc where
 mixed:=by kernel_rfl
 f112:=Go.Proofs.Tryz.func38.trans (congrArg some (by kernel_rfl))
 t0:=pj
 a0:=tM
 z0:=tG
 v0:=qi
 t3:=ph
 a3:=tL
 z3:=tF
 v3:=qh
 t4:=pf
 a4:=tK
 z4:=tD
 v4:=qg
 t28:=n7
 a28:=tH
 z28:=sd
 v28:=pe
end Go.BmP
