/- The configuration with the library's functions that write into the slice they are given, and what it says of each function. -/
import Derived.Test.YtmoginoicilobaaGreatDoorBmP
import Derived.Test.YtmoginoicilobaaGreatDoorRunL
import Derived.Test.YtmoginoicilobaaGreatDoorGrfP
import Derived.Test.YtmoginoicilobaaGreatDoorCloI
set_option maxRecDepth 100000
open Go.Proofs.Tryz renaming prog → ah
namespace Go.BmP
open Go.Am Go.Bm
def KR (f : Nat) : Option (Nat -> List AV -> List AV -> Option (List AV × Option Nat)) := if f = nQS then some Ud else none
def orcF (f : Nat) : Option (List AV -> Heap -> Option (AV × Heap)) := if f = nQP then some Tz else none
def locS (f : Nat) : Bool := if f = Cw then true else if f = nQf then true else if f = nQg then true else if f = nQi then true else if f = nQj then true else false
def aj : Go.Bm.dR := { cfg with inp := KR,orc := orcF,loc := locS }
theorem afB : eQ ah aj := ⟨ads.mixed,ads.fn⟩
theorem empN (f : Nat) : aj.emp f = false := rfl
theorem movN (f : Nat) : aj.mov f = none := rfl
theorem eatN (f : Nat) : aj.eat f = none := rfl
theorem sQa : aj.fn nQa = some (⟨false,false,true⟩,qQa) := rfl
theorem oQa : aj.orc nQa = none := rfl
theorem sQb : aj.fn nQb = some (⟨false,false,true⟩,qQb) := rfl
theorem iQb : aj.inp nQb = none := rfl
theorem lQb : aj.loc nQb = false := rfl
theorem oQb : aj.orc nQb = none := rfl
theorem sQc : aj.fn nQc = some (⟨false,false,true⟩,qQc) := rfl
theorem iQc : aj.inp nQc = none := rfl
theorem lQc : aj.loc nQc = false := rfl
theorem oQc : aj.orc nQc = none := rfl
theorem sQd : aj.fn nQd = some (⟨false,false,true⟩,qQd) := rfl
theorem iQd : aj.inp nQd = none := rfl
theorem lQd : aj.loc nQd = false := rfl
theorem sQe : aj.fn nQe = some (⟨true,false,false⟩,qQe) := rfl
theorem iQe : aj.inp nQe = none := rfl
theorem lQe : aj.loc nQe = false := rfl
theorem oQe : aj.orc nQe = none := rfl
theorem sQf : aj.fn nQf = some (⟨true,false,false⟩,qQf) := rfl
theorem iQf : aj.inp nQf = none := rfl
theorem lQf : aj.loc nQf = true := rfl
theorem oQf : aj.orc nQf = none := rfl
theorem Ul : aj.fn nQg = some (⟨true,false,false⟩,Sw) := rfl
theorem iQg : aj.inp nQg = none := rfl
theorem lQg : aj.loc nQg = true := rfl
theorem Ya : aj.orc nQg = none := rfl
theorem DS : aj.fn Cw = some (⟨true,false,false⟩,qQh) := rfl
theorem G2 : aj.inp Cw = none := rfl
theorem G1 : aj.loc Cw = true := rfl
theorem oQh : aj.orc Cw = none := rfl
theorem sQi : aj.fn nQi = some (⟨true,false,false⟩,qQi) := rfl
theorem iQi : aj.inp nQi = none := rfl
theorem lQi : aj.loc nQi = true := rfl
theorem oQi : aj.orc nQi = none := rfl
theorem sQj : aj.fn nQj = some (⟨true,false,false⟩,qQj) := rfl
theorem iQj : aj.inp nQj = none := rfl
theorem lQj : aj.loc nQj = true := rfl
theorem oQj : aj.orc nQj = none := rfl
theorem Ws : aj.fn VH = some (⟨false,false,false⟩,qQk) := rfl
theorem iQk : aj.inp VH = none := rfl
theorem lQk : aj.loc VH = false := rfl
theorem oQk : aj.orc VH = none := rfl
theorem sQl : aj.fn Yh = some (⟨false,false,false⟩,qQl) := rfl
theorem iQl : aj.inp Yh = none := rfl
theorem lQl : aj.loc Yh = false := rfl
theorem oQl : aj.orc Yh = none := rfl
theorem sQm : aj.fn VG = some (⟨false,false,true⟩,qQm) := rfl
theorem iQm : aj.inp VG = none := rfl
theorem lQm : aj.loc VG = false := rfl
theorem oQm : aj.orc VG = none := rfl
theorem sQn : aj.fn nQn = some (⟨false,false,true⟩,qQn) := rfl
theorem iQn : aj.inp nQn = none := rfl
theorem lQn : aj.loc nQn = false := rfl
theorem oQn : aj.orc nQn = none := rfl
theorem sQo : aj.fn Yg = some (⟨false,false,false⟩,qQo) := rfl
theorem iQo : aj.inp Yg = none := rfl
theorem lQo : aj.loc Yg = false := rfl
theorem oQo : aj.orc Yg = none := rfl
theorem sQp : aj.fn nQp = some (⟨false,false,false⟩,qQp) := rfl
theorem iQp : aj.inp nQp = none := rfl
theorem lQp : aj.loc nQp = false := rfl
theorem oQp : aj.orc nQp = none := rfl
theorem sQq : aj.fn nQq = some (⟨false,false,true⟩,qQq) := rfl
theorem iQq : aj.inp nQq = none := rfl
theorem lQq : aj.loc nQq = false := rfl
theorem oQq : aj.orc nQq = none := rfl
theorem sQr : aj.fn nQr = some (⟨false,false,true⟩,qQr) := rfl
theorem iQr : aj.inp nQr = none := rfl
theorem lQr : aj.loc nQr = false := rfl
theorem oQr : aj.orc nQr = none := rfl
theorem sQs : aj.fn nQs = some (⟨false,false,true⟩,qQs) := rfl
theorem iQs : aj.inp nQs = none := rfl
theorem lQs : aj.loc nQs = false := rfl
theorem oQs : aj.orc nQs = none := rfl
theorem sQt : aj.fn nQt = some (⟨false,false,false⟩,qQt) := rfl
theorem iQt : aj.inp nQt = none := rfl
theorem lQt : aj.loc nQt = false := rfl
theorem oQt : aj.orc nQt = none := rfl
theorem sQu : aj.fn nQu = some (⟨false,false,false⟩,qQu) := rfl
theorem iQu : aj.inp nQu = none := rfl
theorem lQu : aj.loc nQu = false := rfl
theorem oQu : aj.orc nQu = none := rfl
theorem sQv : aj.fn nQv = some (⟨false,false,false⟩,qQv) := rfl
theorem iQv : aj.inp nQv = none := rfl
theorem lQv : aj.loc nQv = false := rfl
theorem oQv : aj.orc nQv = none := rfl
theorem sQw : aj.fn Yf = some (⟨false,false,false⟩,qQw) := rfl
theorem iQw : aj.inp Yf = none := rfl
theorem lQw : aj.loc Yf = false := rfl
theorem oQw : aj.orc Yf = none := rfl
theorem sQx : aj.fn nQx = some (⟨false,false,true⟩,qQx) := rfl
theorem iQx : aj.inp nQx = none := rfl
theorem lQx : aj.loc nQx = false := rfl
theorem oQx : aj.orc nQx = none := rfl
theorem sQy : aj.fn nQy = some (⟨false,false,false⟩,qQy) := rfl
theorem iQy : aj.inp nQy = none := rfl
theorem lQy : aj.loc nQy = false := rfl
theorem oQy : aj.orc nQy = none := rfl
theorem sQz : aj.fn nQz = some (⟨false,false,false⟩,qQz) := rfl
theorem iQz : aj.inp nQz = none := rfl
theorem lQz : aj.loc nQz = false := rfl
theorem oQz : aj.orc nQz = none := rfl
theorem sQA : aj.fn nQA = some (⟨false,false,true⟩,qQA) := rfl
theorem iQA : aj.inp nQA = none := rfl
theorem lQA : aj.loc nQA = false := rfl
theorem oQA : aj.orc nQA = none := rfl
theorem G9 : aj.fn UE = some (⟨false,false,true⟩,qQB) := rfl
theorem IM : aj.inp UE = none := rfl
theorem IJ : aj.loc UE = false := rfl
theorem oQB : aj.orc UE = none := rfl
theorem sQC : aj.fn nQC = some (⟨true,false,false⟩,qQC) := rfl
theorem iQC : aj.inp nQC = none := rfl
theorem lQC : aj.loc nQC = false := rfl
theorem oQC : aj.orc nQC = none := rfl
theorem sQD : aj.fn UD = some (⟨true,false,false⟩,qQD) := rfl
theorem iQD : aj.inp UD = none := rfl
theorem lQD : aj.loc UD = false := rfl
theorem oQD : aj.orc UD = none := rfl
theorem sQE : aj.fn nQE = some (⟨true,false,false⟩,qQE) := rfl
theorem iQE : aj.inp nQE = none := rfl
theorem lQE : aj.loc nQE = false := rfl
theorem oQE : aj.orc nQE = none := rfl
theorem sQF : aj.fn nQF = some (⟨true,false,false⟩,qQF) := rfl
theorem iQF : aj.inp nQF = none := rfl
theorem lQF : aj.loc nQF = false := rfl
theorem oQF : aj.orc nQF = none := rfl
theorem G8 : aj.fn UC = some (⟨false,false,true⟩,qQG) := rfl
theorem IL : aj.inp UC = none := rfl
theorem II : aj.loc UC = false := rfl
theorem oQG : aj.orc UC = none := rfl
theorem sQH : aj.fn nQH = some (⟨false,false,true⟩,qQH) := rfl
theorem iQH : aj.inp nQH = none := rfl
theorem lQH : aj.loc nQH = false := rfl
theorem oQH : aj.orc nQH = none := rfl
theorem sQI : aj.fn nQI = some (⟨false,false,true⟩,qQI) := rfl
theorem iQI : aj.inp nQI = none := rfl
theorem lQI : aj.loc nQI = false := rfl
theorem oQI : aj.orc nQI = none := rfl
theorem sQJ : aj.fn nQJ = some (⟨true,false,false⟩,qQJ) := rfl
theorem iQJ : aj.inp nQJ = none := rfl
theorem lQJ : aj.loc nQJ = false := rfl
theorem oQJ : aj.orc nQJ = none := rfl
theorem sQK : aj.fn nQK = some (⟨false,false,true⟩,qQK) := rfl
theorem iQK : aj.inp nQK = none := rfl
theorem lQK : aj.loc nQK = false := rfl
theorem oQK : aj.orc nQK = none := rfl
theorem sQL : aj.fn nQL = some (⟨false,false,false⟩,qQL) := rfl
theorem iQL : aj.inp nQL = none := rfl
theorem lQL : aj.loc nQL = false := rfl
theorem oQL : aj.orc nQL = none := rfl
theorem sQM : aj.fn nQM = some (⟨false,false,true⟩,qQM) := rfl
theorem iQM : aj.inp nQM = none := rfl
theorem lQM : aj.loc nQM = false := rfl
theorem oQM : aj.orc nQM = none := rfl
theorem sQN : aj.fn nQN = some (⟨false,false,false⟩,qQN) := rfl
theorem iQN : aj.inp nQN = none := rfl
theorem lQN : aj.loc nQN = false := rfl
theorem oQN : aj.orc nQN = none := rfl
theorem sQO : aj.fn nQO = some (⟨false,false,false⟩,qQO) := rfl
theorem iQO : aj.inp nQO = none := rfl
theorem lQO : aj.loc nQO = false := rfl
theorem oQO : aj.orc nQO = none := rfl
theorem sQP : aj.fn nQP = some (⟨false,true,true⟩,qQP) := rfl
theorem iQP : aj.inp nQP = none := rfl
theorem lQP : aj.loc nQP = false := rfl
theorem oQP : aj.orc nQP = some Tz := rfl
theorem sQQ : aj.fn nQQ = some (⟨false,false,false⟩,qQQ) := rfl
theorem iQQ : aj.inp nQQ = none := rfl
theorem lQQ : aj.loc nQQ = false := rfl
theorem oQQ : aj.orc nQQ = none := rfl
theorem sQR : aj.fn nQR = some (⟨false,false,true⟩,qQR) := rfl
theorem iQR : aj.inp nQR = none := rfl
theorem lQR : aj.loc nQR = false := rfl
theorem oQR : aj.orc nQR = none := rfl
theorem sQS : aj.fn nQS = some (⟨false,false,true⟩,qQS) := rfl
theorem iQS : aj.inp nQS = some Ud := rfl
theorem lQS : aj.loc nQS = false := rfl
theorem sQT : aj.fn nQT = some (⟨false,false,true⟩,qQT) := rfl
theorem iQT : aj.inp nQT = none := rfl
theorem lQT : aj.loc nQT = false := rfl
theorem oQT : aj.orc nQT = none := rfl
theorem sQU : aj.fn nQU = some (⟨true,false,false⟩,qQU) := rfl
theorem iQU : aj.inp nQU = none := rfl
theorem lQU : aj.loc nQU = false := rfl
theorem oQU : aj.orc nQU = none := rfl
theorem sQV : aj.fn nQV = some (⟨false,false,true⟩,qQV) := rfl
theorem iQV : aj.inp nQV = none := rfl
theorem lQV : aj.loc nQV = false := rfl
theorem oQV : aj.orc nQV = none := rfl
theorem sQW : aj.fn nQW = some (⟨false,false,false⟩,qQW) := rfl
theorem iQW : aj.inp nQW = none := rfl
theorem lQW : aj.loc nQW = false := rfl
theorem oQW : aj.orc nQW = none := rfl
theorem sQX : aj.fn nQX = some (⟨false,false,false⟩,qQX) := rfl
theorem iQX : aj.inp nQX = none := rfl
theorem lQX : aj.loc nQX = false := rfl
theorem oQX : aj.orc nQX = none := rfl
theorem sQY : aj.fn nQY = some (⟨false,false,false⟩,qQY) := rfl
theorem iQY : aj.inp nQY = none := rfl
theorem lQY : aj.loc nQY = false := rfl
theorem oQY : aj.orc nQY = none := rfl
theorem sQZ : aj.fn nQZ = some (⟨false,false,true⟩,qQZ) := rfl
theorem iQZ : aj.inp nQZ = none := rfl
theorem lQZ : aj.loc nQZ = false := rfl
theorem oQZ : aj.orc nQZ = none := rfl
theorem sQ0 : aj.fn nQ0 = some (⟨false,false,true⟩,qQ0) := rfl
theorem iQ0 : aj.inp nQ0 = none := rfl
theorem lQ0 : aj.loc nQ0 = false := rfl
theorem oQ0 : aj.orc nQ0 = none := rfl
theorem sQ1 : aj.fn nQ1 = some (⟨false,false,false⟩,qQ1) := rfl
theorem iQ1 : aj.inp nQ1 = none := rfl
theorem lQ1 : aj.loc nQ1 = false := rfl
theorem oQ1 : aj.orc nQ1 = none := rfl
theorem sQ4 : aj.fn nQ4 = some (⟨false,false,false⟩,qQ4) := rfl
theorem iQ4 : aj.inp nQ4 = none := rfl
theorem lQ4 : aj.loc nQ4 = false := rfl
theorem oQ4 : aj.orc nQ4 = none := rfl
theorem sQ5 : aj.fn nQ5 = some (⟨false,false,false⟩,qQ5) := rfl
theorem iQ5 : aj.inp nQ5 = none := rfl
theorem lQ5 : aj.loc nQ5 = false := rfl
theorem oQ5 : aj.orc nQ5 = none := rfl
theorem sQ6 : aj.fn nQ6 = some (⟨false,false,false⟩,qQ6) := rfl
theorem iQ6 : aj.inp nQ6 = none := rfl
theorem lQ6 : aj.loc nQ6 = false := rfl
theorem oQ6 : aj.orc nQ6 = none := rfl
theorem sQ7 : aj.fn nQ7 = some (⟨false,false,true⟩,qQ7) := rfl
theorem iQ7 : aj.inp nQ7 = none := rfl
theorem lQ7 : aj.loc nQ7 = false := rfl
theorem oQ7 : aj.orc nQ7 = none := rfl
theorem sQ8 : aj.fn VI = some (⟨false,false,true⟩,qQ8) := rfl
theorem iQ8 : aj.inp VI = none := rfl
theorem lQ8 : aj.loc VI = false := rfl
theorem oQ8 : aj.orc VI = none := rfl
theorem sQ9 : aj.fn nQ9 = some (⟨false,false,false⟩,qQ9) := rfl
theorem iQ9 : aj.inp nQ9 = none := rfl
theorem lQ9 : aj.loc nQ9 = false := rfl
theorem oQ9 : aj.orc nQ9 = none := rfl
theorem sQa0 : aj.fn PF = some (⟨false,false,false⟩,qQa0) := rfl
theorem iQa0 : aj.inp PF = none := rfl
theorem lQa0 : aj.loc PF = false := rfl
theorem oQa0 : aj.orc PF = none := rfl
theorem sQa1 : aj.fn PE = some (⟨false,false,false⟩,qQa1) := rfl
theorem iQa1 : aj.inp PE = none := rfl
theorem lQa1 : aj.loc PE = false := rfl
theorem oQa1 : aj.orc PE = none := rfl
theorem sQa2 : aj.fn PD = some (⟨false,false,false⟩,qQa2) := rfl
theorem iQa2 : aj.inp PD = none := rfl
theorem lQa2 : aj.loc PD = false := rfl
theorem oQa2 : aj.orc PD = none := rfl
theorem sQa3 : aj.fn PC = some (⟨false,false,true⟩,qQa3) := rfl
theorem iQa3 : aj.inp PC = none := rfl
theorem lQa3 : aj.loc PC = false := rfl
theorem oQa3 : aj.orc PC = none := rfl
theorem sQa4 : aj.fn PB = some (⟨false,false,true⟩,qQa4) := rfl
theorem iQa4 : aj.inp PB = none := rfl
theorem lQa4 : aj.loc PB = false := rfl
theorem oQa4 : aj.orc PB = none := rfl
theorem sQa5 : aj.fn PA = some (⟨false,false,true⟩,qQa5) := rfl
theorem iQa5 : aj.inp PA = none := rfl
theorem lQa5 : aj.loc PA = false := rfl
theorem oQa5 : aj.orc PA = none := rfl
theorem sQa6 : aj.fn MG = some (⟨false,false,false⟩,qQa6) := rfl
theorem iQa6 : aj.inp MG = none := rfl
theorem lQa6 : aj.loc MG = false := rfl
theorem oQa6 : aj.orc MG = none := rfl
theorem sQb1 : aj.fn Pz = some (⟨false,false,false⟩,qQb1) := rfl
theorem iQb1 : aj.inp Pz = none := rfl
theorem lQb1 : aj.loc Pz = false := rfl
theorem oQb1 : aj.orc Pz = none := rfl
theorem sQb2 : aj.fn Py = some (⟨false,false,false⟩,qQb2) := rfl
theorem iQb2 : aj.inp Py = none := rfl
theorem lQb2 : aj.loc Py = false := rfl
theorem oQb2 : aj.orc Py = none := rfl
theorem sQb3 : aj.fn MF = some (⟨false,false,true⟩,qQb3) := rfl
theorem iQb3 : aj.inp MF = none := rfl
theorem lQb3 : aj.loc MF = false := rfl
theorem oQb3 : aj.orc MF = none := rfl
theorem sQb4 : aj.fn Px = some (⟨false,false,false⟩,qQb4) := rfl
theorem iQb4 : aj.inp Px = none := rfl
theorem lQb4 : aj.loc Px = false := rfl
theorem oQb4 : aj.orc Px = none := rfl
theorem sQb5 : aj.fn Pw = some (⟨false,false,true⟩,qQb5) := rfl
theorem iQb5 : aj.inp Pw = none := rfl
theorem lQb5 : aj.loc Pw = false := rfl
theorem oQb5 : aj.orc Pw = none := rfl
theorem sQb6 : aj.fn Pv = some (⟨false,false,false⟩,qQb6) := rfl
theorem iQb6 : aj.inp Pv = none := rfl
theorem lQb6 : aj.loc Pv = false := rfl
theorem oQb6 : aj.orc Pv = none := rfl
theorem Wu : aj.fn Pu = some (⟨false,false,false⟩,qQb7) := rfl
theorem iQb7 : aj.inp Pu = none := rfl
theorem lQb7 : aj.loc Pu = false := rfl
theorem oQb7 : aj.orc Pu = none := rfl
theorem Wt : aj.fn Pt = some (⟨false,false,true⟩,qQb8) := rfl
theorem iQb8 : aj.inp Pt = none := rfl
theorem lQb8 : aj.loc Pt = false := rfl
theorem oQb8 : aj.orc Pt = none := rfl
theorem sQc5 : aj.fn Ps = some (⟨false,false,false⟩,XL) := rfl
theorem iQc5 : aj.inp Ps = none := rfl
theorem lQc5 : aj.loc Ps = false := rfl
theorem oQc5 : aj.orc Ps = none := rfl
theorem sQc6 : aj.fn ME = some (⟨false,false,true⟩,qQc6) := rfl
theorem iQc6 : aj.inp ME = none := rfl
theorem lQc6 : aj.loc ME = false := rfl
theorem oQc6 : aj.orc ME = none := rfl
theorem sQc7 : aj.fn Pr = some (⟨false,false,true⟩,qQc7) := rfl
theorem iQc7 : aj.inp Pr = none := rfl
theorem lQc7 : aj.loc Pr = false := rfl
theorem oQc7 : aj.orc Pr = none := rfl
theorem sQc9 : aj.fn Pq = some (⟨false,false,false⟩,qQc9) := rfl
theorem iQc9 : aj.inp Pq = none := rfl
theorem lQc9 : aj.loc Pq = false := rfl
theorem oQc9 : aj.orc Pq = none := rfl
theorem sQd0 : aj.fn KE = some (⟨false,false,false⟩,qQd0) := rfl
theorem iQd0 : aj.inp KE = none := rfl
theorem lQd0 : aj.loc KE = false := rfl
theorem oQd0 : aj.orc KE = none := rfl
theorem OH : aj.fn MD = some (⟨false,false,false⟩,qQd1) := rfl
theorem UW : aj.inp MD = none := rfl
theorem UN : aj.loc MD = false := rfl
theorem oQd1 : aj.orc MD = none := rfl
theorem OG : aj.fn Po = some (⟨false,false,true⟩,qQd2) := rfl
theorem UU : aj.inp Po = none := rfl
theorem UM : aj.loc Po = false := rfl
theorem oQd2 : aj.orc Po = none := rfl
theorem sQd3 : aj.fn MC = some (⟨false,false,false⟩,qQd3) := rfl
theorem iQd3 : aj.inp MC = none := rfl
theorem lQd3 : aj.loc MC = false := rfl
theorem oQd3 : aj.orc MC = none := rfl
end Go.BmP
