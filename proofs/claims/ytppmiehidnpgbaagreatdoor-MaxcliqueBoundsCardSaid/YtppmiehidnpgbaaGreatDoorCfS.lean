/- The configuration with the library's functions that write into the slice they are given, and what it says of each function. -/
import Derived.Test.YtppmiehidnpgbaaGreatDoorBmP
import Derived.Test.YtppmiehidnpgbaaGreatDoorRunL
import Derived.Test.YtppmiehidnpgbaaGreatDoorGrfP
import Derived.Test.YtppmiehidnpgbaaGreatDoorRvG
set_option maxRecDepth 100000
open Go.Proofs.Tryz renaming prog → ai
namespace Go.BmP
open Go.Am Go.Bm
def Hw (f : Nat) : Option (Nat -> List AV -> List AV -> Option (List AV × Option Nat)) := if f = PV then some Pn else if f = PU then some QJ else if f = nQz then some rvG else none
def orcF (f : Nat) : Option (List AV -> Heap -> Option (AV × Heap)) := if f = Hu then some Wg else none
def locS (f : Nat) : Bool := if f = VN then true else false
def au : Go.Bm.eE := { cfg with inp := Hw,orc := orcF,loc := locS }
theorem ag3 : fE ai au := ⟨aeG.mixed,aeG.fn⟩
theorem empN (f : Nat) : au.emp f = false := rfl
theorem movN (f : Nat) : au.mov f = none := rfl
theorem eatN (f : Nat) : au.eat f = none := rfl
theorem sQa : au.fn nQa = some (⟨false,false,true⟩,qQa) := rfl
theorem oQa : au.orc nQa = none := rfl
theorem sQb : au.fn nQb = some (⟨false,false,true⟩,qQb) := rfl
theorem iQb : au.inp nQb = none := rfl
theorem lQb : au.loc nQb = false := rfl
theorem oQb : au.orc nQb = none := rfl
theorem sQc : au.fn nQc = some (⟨false,false,true⟩,qQc) := rfl
theorem iQc : au.inp nQc = none := rfl
theorem lQc : au.loc nQc = false := rfl
theorem oQc : au.orc nQc = none := rfl
theorem sQd : au.fn nQd = some (⟨true,false,false⟩,qQd) := rfl
theorem iQd : au.inp nQd = none := rfl
theorem lQd : au.loc nQd = false := rfl
theorem oQd : au.orc nQd = none := rfl
theorem sQe : au.fn nQe = some (⟨true,false,false⟩,qQe) := rfl
theorem iQe : au.inp nQe = none := rfl
theorem lQe : au.loc nQe = false := rfl
theorem oQe : au.orc nQe = none := rfl
theorem sQf : au.fn VQ = some (⟨false,false,false⟩,qQf) := rfl
theorem iQf : au.inp VQ = none := rfl
theorem lQf : au.loc VQ = false := rfl
theorem oQf : au.orc VQ = none := rfl
theorem sQg : au.fn VP = some (⟨false,false,true⟩,qQg) := rfl
theorem iQg : au.inp VP = none := rfl
theorem lQg : au.loc VP = false := rfl
theorem oQg : au.orc VP = none := rfl
theorem sQh : au.fn MQ = some (⟨false,false,false⟩,qQh) := rfl
theorem iQh : au.inp MQ = none := rfl
theorem lQh : au.loc MQ = false := rfl
theorem oQh : au.orc MQ = none := rfl
theorem sQi : au.fn YI = some (⟨false,false,false⟩,qQi) := rfl
theorem iQi : au.inp YI = none := rfl
theorem lQi : au.loc YI = false := rfl
theorem oQi : au.orc YI = none := rfl
theorem sQj : au.fn nQj = some (⟨true,false,false⟩,qQj) := rfl
theorem iQj : au.inp nQj = none := rfl
theorem lQj : au.loc nQj = false := rfl
theorem oQj : au.orc nQj = none := rfl
theorem sQk : au.fn nQk = some (⟨false,false,true⟩,qQk) := rfl
theorem iQk : au.inp nQk = none := rfl
theorem lQk : au.loc nQk = false := rfl
theorem oQk : au.orc nQk = none := rfl
theorem sQl : au.fn TU = some (⟨false,false,true⟩,qQl) := rfl
theorem iQl : au.inp TU = none := rfl
theorem lQl : au.loc TU = false := rfl
theorem oQl : au.orc TU = none := rfl
theorem sQm : au.fn nQm = some (⟨false,false,true⟩,qQm) := rfl
theorem iQm : au.inp nQm = none := rfl
theorem lQm : au.loc nQm = false := rfl
theorem oQm : au.orc nQm = none := rfl
theorem sQn : au.fn VO = some (⟨false,false,true⟩,qQn) := rfl
theorem iQn : au.inp VO = none := rfl
theorem lQn : au.loc VO = false := rfl
theorem oQn : au.orc VO = none := rfl
theorem sQo : au.fn TR = some (⟨false,false,false⟩,qQo) := rfl
theorem iQo : au.inp TR = none := rfl
theorem lQo : au.loc TR = false := rfl
theorem oQo : au.orc TR = none := rfl
theorem sQp : au.fn nQp = some (⟨false,false,false⟩,qQp) := rfl
theorem iQp : au.inp nQp = none := rfl
theorem lQp : au.loc nQp = false := rfl
theorem sQq : au.fn nQq = some (⟨false,false,true⟩,qQq) := rfl
theorem iQq : au.inp nQq = none := rfl
theorem lQq : au.loc nQq = false := rfl
theorem sQr : au.fn VN = some (⟨true,false,false⟩,qQr) := rfl
theorem iQr : au.inp VN = none := rfl
theorem lQr : au.loc VN = true := rfl
theorem oQr : au.orc VN = none := rfl
theorem sQs : au.fn TQ = some (⟨false,false,true⟩,qQs) := rfl
theorem iQs : au.inp TQ = none := rfl
theorem lQs : au.loc TQ = false := rfl
theorem oQs : au.orc TQ = none := rfl
theorem sQt : au.fn nQt = some (⟨false,false,false⟩,qQt) := rfl
theorem iQt : au.inp nQt = none := rfl
theorem lQt : au.loc nQt = false := rfl
theorem oQt : au.orc nQt = none := rfl
theorem sQu : au.fn nQu = some (⟨false,false,true⟩,qQu) := rfl
theorem iQu : au.inp nQu = none := rfl
theorem lQu : au.loc nQu = false := rfl
theorem oQu : au.orc nQu = none := rfl
theorem sQv : au.fn YH = some (⟨false,false,true⟩,qQv) := rfl
theorem iQv : au.inp YH = none := rfl
theorem lQv : au.loc YH = false := rfl
theorem oQv : au.orc YH = none := rfl
theorem sQw : au.fn nQw = some (⟨false,false,true⟩,qQw) := rfl
theorem iQw : au.inp nQw = none := rfl
theorem lQw : au.loc nQw = false := rfl
theorem oQw : au.orc nQw = none := rfl
theorem sQx : au.fn nQx = some (⟨false,false,false⟩,qQx) := rfl
theorem iQx : au.inp nQx = none := rfl
theorem lQx : au.loc nQx = false := rfl
theorem oQx : au.orc nQx = none := rfl
theorem sQy : au.fn nQy = some (⟨true,true,false⟩,qQy) := rfl
theorem iQy : au.inp nQy = none := rfl
theorem lQy : au.loc nQy = false := rfl
theorem oQy : au.orc nQy = none := rfl
theorem sQz : au.fn nQz = some (⟨false,false,true⟩,qQz) := rfl
theorem iQz : au.inp nQz = some rvG := rfl
theorem lQz : au.loc nQz = false := rfl
theorem sQA : au.fn nQA = some (⟨false,false,true⟩,qQA) := rfl
theorem iQA : au.inp nQA = none := rfl
theorem lQA : au.loc nQA = false := rfl
theorem oQA : au.orc nQA = none := rfl
theorem sQB : au.fn nQB = some (⟨false,false,false⟩,qQB) := rfl
theorem iQB : au.inp nQB = none := rfl
theorem lQB : au.loc nQB = false := rfl
theorem oQB : au.orc nQB = none := rfl
theorem sQC : au.fn nQC = some (⟨false,true,true⟩,qQC) := rfl
theorem iQC : au.inp nQC = none := rfl
theorem lQC : au.loc nQC = false := rfl
theorem sQD : au.fn nQD = some (⟨false,false,false⟩,qQD) := rfl
theorem iQD : au.inp nQD = none := rfl
theorem lQD : au.loc nQD = false := rfl
theorem oQD : au.orc nQD = none := rfl
theorem sQE : au.fn nQE = some (⟨false,false,true⟩,qQE) := rfl
theorem iQE : au.inp nQE = none := rfl
theorem lQE : au.loc nQE = false := rfl
theorem oQE : au.orc nQE = none := rfl
theorem sQF : au.fn nQF = some (⟨false,false,false⟩,qQF) := rfl
theorem iQF : au.inp nQF = none := rfl
theorem lQF : au.loc nQF = false := rfl
theorem oQF : au.orc nQF = none := rfl
theorem sQG : au.fn nQG = some (⟨false,false,true⟩,qQG) := rfl
theorem iQG : au.inp nQG = none := rfl
theorem lQG : au.loc nQG = false := rfl
theorem oQG : au.orc nQG = none := rfl
theorem sQH : au.fn nQH = some (⟨false,false,true⟩,qQH) := rfl
theorem iQH : au.inp nQH = none := rfl
theorem lQH : au.loc nQH = false := rfl
theorem oQH : au.orc nQH = none := rfl
theorem sQI : au.fn nQI = some (⟨false,false,true⟩,qQI) := rfl
theorem iQI : au.inp nQI = none := rfl
theorem lQI : au.loc nQI = false := rfl
theorem oQI : au.orc nQI = none := rfl
theorem sQJ : au.fn nQJ = some (⟨true,false,false⟩,qQJ) := rfl
theorem iQJ : au.inp nQJ = none := rfl
theorem lQJ : au.loc nQJ = false := rfl
theorem oQJ : au.orc nQJ = none := rfl
theorem sQK : au.fn YL = some (⟨true,false,false⟩,qQK) := rfl
theorem iQK : au.inp YL = none := rfl
theorem lQK : au.loc YL = false := rfl
theorem oQK : au.orc YL = none := rfl
theorem sQL : au.fn nQL = some (⟨true,false,false⟩,qQL) := rfl
theorem iQL : au.inp nQL = none := rfl
theorem lQL : au.loc nQL = false := rfl
theorem oQL : au.orc nQL = none := rfl
theorem sQM : au.fn YK = some (⟨true,false,false⟩,qQM) := rfl
theorem iQM : au.inp YK = none := rfl
theorem lQM : au.loc YK = false := rfl
theorem oQM : au.orc YK = none := rfl
theorem sQN : au.fn nQN = some (⟨false,false,false⟩,qQN) := rfl
theorem iQN : au.inp nQN = none := rfl
theorem lQN : au.loc nQN = false := rfl
theorem oQN : au.orc nQN = none := rfl
theorem sQQ : au.fn nQQ = some (⟨false,false,false⟩,qQQ) := rfl
theorem iQQ : au.inp nQQ = none := rfl
theorem lQQ : au.loc nQQ = false := rfl
theorem oQQ : au.orc nQQ = none := rfl
theorem sQR : au.fn nQR = some (⟨false,false,true⟩,qQR) := rfl
theorem iQR : au.inp nQR = none := rfl
theorem lQR : au.loc nQR = false := rfl
theorem oQR : au.orc nQR = none := rfl
theorem sQS : au.fn nQS = some (⟨false,false,true⟩,qQS) := rfl
theorem iQS : au.inp nQS = none := rfl
theorem lQS : au.loc nQS = false := rfl
theorem oQS : au.orc nQS = none := rfl
theorem sQT : au.fn nQT = some (⟨true,false,false⟩,qQT) := rfl
theorem iQT : au.inp nQT = none := rfl
theorem lQT : au.loc nQT = false := rfl
theorem oQT : au.orc nQT = none := rfl
theorem sQU : au.fn nQU = some (⟨false,false,true⟩,qQU) := rfl
theorem iQU : au.inp nQU = none := rfl
theorem lQU : au.loc nQU = false := rfl
theorem oQU : au.orc nQU = none := rfl
theorem sQV : au.fn nQV = some (⟨false,false,true⟩,qQV) := rfl
theorem iQV : au.inp nQV = none := rfl
theorem lQV : au.loc nQV = false := rfl
theorem oQV : au.orc nQV = none := rfl
theorem sQW : au.fn nQW = some (⟨true,true,false⟩,qQW) := rfl
theorem iQW : au.inp nQW = none := rfl
theorem lQW : au.loc nQW = false := rfl
theorem oQW : au.orc nQW = none := rfl
theorem sQX : au.fn nQX = some (⟨false,false,false⟩,qQX) := rfl
theorem iQX : au.inp nQX = none := rfl
theorem lQX : au.loc nQX = false := rfl
theorem oQX : au.orc nQX = none := rfl
theorem sQY : au.fn nQY = some (⟨true,true,false⟩,qQY) := rfl
theorem iQY : au.inp nQY = none := rfl
theorem lQY : au.loc nQY = false := rfl
theorem oQY : au.orc nQY = none := rfl
theorem sQ0 : au.fn nQ0 = some (⟨false,false,false⟩,qQ0) := rfl
theorem iQ0 : au.inp nQ0 = none := rfl
theorem lQ0 : au.loc nQ0 = false := rfl
theorem oQ0 : au.orc nQ0 = none := rfl
theorem sQ1 : au.fn nQ1 = some (⟨false,false,true⟩,qQ1) := rfl
theorem iQ1 : au.inp nQ1 = none := rfl
theorem lQ1 : au.loc nQ1 = false := rfl
theorem oQ1 : au.orc nQ1 = none := rfl
theorem sQ2 : au.fn nQ2 = some (⟨false,false,true⟩,qQ2) := rfl
theorem iQ2 : au.inp nQ2 = none := rfl
theorem lQ2 : au.loc nQ2 = false := rfl
theorem oQ2 : au.orc nQ2 = none := rfl
theorem sQ3 : au.fn nQ3 = some (⟨false,false,false⟩,qQ3) := rfl
theorem iQ3 : au.inp nQ3 = none := rfl
theorem lQ3 : au.loc nQ3 = false := rfl
theorem oQ3 : au.orc nQ3 = none := rfl
theorem sQ4 : au.fn nQ4 = some (⟨false,false,true⟩,qQ4) := rfl
theorem iQ4 : au.inp nQ4 = none := rfl
theorem lQ4 : au.loc nQ4 = false := rfl
theorem oQ4 : au.orc nQ4 = none := rfl
theorem sQ5 : au.fn nQ5 = some (⟨false,false,true⟩,qQ5) := rfl
theorem iQ5 : au.inp nQ5 = none := rfl
theorem lQ5 : au.loc nQ5 = false := rfl
theorem oQ5 : au.orc nQ5 = none := rfl
theorem sQ6 : au.fn nQ6 = some (⟨false,false,false⟩,qQ6) := rfl
theorem iQ6 : au.inp nQ6 = none := rfl
theorem lQ6 : au.loc nQ6 = false := rfl
theorem oQ6 : au.orc nQ6 = none := rfl
theorem sQ7 : au.fn nQ7 = some (⟨false,false,true⟩,qQ7) := rfl
theorem iQ7 : au.inp nQ7 = none := rfl
theorem lQ7 : au.loc nQ7 = false := rfl
theorem oQ7 : au.orc nQ7 = none := rfl
theorem sQ8 : au.fn nQ8 = some (⟨false,false,true⟩,qQ8) := rfl
theorem iQ8 : au.inp nQ8 = none := rfl
theorem lQ8 : au.loc nQ8 = false := rfl
theorem oQ8 : au.orc nQ8 = none := rfl
theorem sQ9 : au.fn nQ9 = some (⟨true,false,false⟩,qQ9) := rfl
theorem iQ9 : au.inp nQ9 = none := rfl
theorem lQ9 : au.loc nQ9 = false := rfl
theorem oQ9 : au.orc nQ9 = none := rfl
theorem sQa0 : au.fn P5 = some (⟨true,false,false⟩,qQa0) := rfl
theorem iQa0 : au.inp P5 = none := rfl
theorem lQa0 : au.loc P5 = false := rfl
theorem oQa0 : au.orc P5 = none := rfl
theorem sQa1 : au.fn MW = some (⟨false,false,true⟩,qQa1) := rfl
theorem iQa1 : au.inp MW = none := rfl
theorem lQa1 : au.loc MW = false := rfl
theorem oQa1 : au.orc MW = none := rfl
theorem sQa2 : au.fn P4 = some (⟨false,false,true⟩,qQa2) := rfl
theorem iQa2 : au.inp P4 = none := rfl
theorem lQa2 : au.loc P4 = false := rfl
theorem oQa2 : au.orc P4 = none := rfl
theorem sQa3 : au.fn MV = some (⟨false,false,true⟩,qQa3) := rfl
theorem iQa3 : au.inp MV = none := rfl
theorem lQa3 : au.loc MV = false := rfl
theorem oQa3 : au.orc MV = none := rfl
theorem sQa4 : au.fn P3 = some (⟨false,false,false⟩,X4) := rfl
theorem iQa4 : au.inp P3 = none := rfl
theorem lQa4 : au.loc P3 = false := rfl
theorem oQa4 : au.orc P3 = none := rfl
theorem sQa5 : au.fn VR = some (⟨false,false,true⟩,qQa5) := rfl
theorem oQa5 : au.orc VR = none := rfl
theorem sQa6 : au.fn MU = some (⟨false,false,false⟩,qQa6) := rfl
theorem iQa6 : au.inp MU = none := rfl
theorem lQa6 : au.loc MU = false := rfl
theorem oQa6 : au.orc MU = none := rfl
theorem sQa7 : au.fn P1 = some (⟨false,false,true⟩,qQa7) := rfl
theorem iQa7 : au.inp P1 = none := rfl
theorem lQa7 : au.loc P1 = false := rfl
theorem oQa7 : au.orc P1 = none := rfl
theorem sQa8 : au.fn FL = some (⟨false,false,true⟩,qQa8) := rfl
theorem iQa8 : au.inp FL = none := rfl
theorem lQa8 : au.loc FL = false := rfl
theorem sQa9 : au.fn P0 = some (⟨false,false,true⟩,qQa9) := rfl
theorem iQa9 : au.inp P0 = none := rfl
theorem lQa9 : au.loc P0 = false := rfl
theorem sQb0 : au.fn PZ = some (⟨false,false,true⟩,qQb0) := rfl
theorem iQb0 : au.inp PZ = none := rfl
theorem lQb0 : au.loc PZ = false := rfl
theorem oQb0 : au.orc PZ = none := rfl
theorem sQb3 : au.fn PY = some (⟨false,false,false⟩,qQb3) := rfl
theorem iQb3 : au.inp PY = none := rfl
theorem lQb3 : au.loc PY = false := rfl
theorem oQb3 : au.orc PY = none := rfl
theorem sQb4 : au.fn PX = some (⟨false,false,false⟩,qQb4) := rfl
theorem iQb4 : au.inp PX = none := rfl
theorem lQb4 : au.loc PX = false := rfl
theorem oQb4 : au.orc PX = none := rfl
theorem sQb5 : au.fn PW = some (⟨false,false,false⟩,qQb5) := rfl
theorem iQb5 : au.inp PW = none := rfl
theorem lQb5 : au.loc PW = false := rfl
theorem oQb5 : au.orc PW = none := rfl
theorem sQb6 : au.fn MT = some (⟨false,false,false⟩,qQb6) := rfl
theorem iQb6 : au.inp MT = none := rfl
theorem lQb6 : au.loc MT = false := rfl
theorem oQb6 : au.orc MT = none := rfl
theorem sQb7 : au.fn MS = some (⟨false,false,true⟩,qQb7) := rfl
theorem iQb7 : au.inp MS = none := rfl
theorem lQb7 : au.loc MS = false := rfl
theorem oQb7 : au.orc MS = none := rfl
theorem Hm : au.fn Hu = some (⟨false,true,true⟩,qQb8) := rfl
theorem Lj : au.inp Hu = none := rfl
theorem K7 : au.loc Hu = false := rfl
theorem oQb8 : au.orc Hu = some Wg := rfl
theorem sQb9 : au.fn PV = some (⟨false,false,true⟩,qQb9) := rfl
theorem Li : au.inp PV = some Pn := rfl
theorem K6 : au.loc PV = false := rfl
theorem sQc0 : au.fn PU = some (⟨false,false,false⟩,qQc0) := rfl
theorem Lh : au.inp PU = some QJ := rfl
theorem K5 : au.loc PU = false := rfl
theorem Xu : au.fn MR = some (⟨false,false,true⟩,qQc1) := rfl
theorem iQc1 : au.inp MR = none := rfl
theorem lQc1 : au.loc MR = false := rfl
theorem oQc1 : au.orc MR = none := rfl
end Go.BmP
