/- The configuration with the library's functions that write into the slice they are given, and what it says of each function. -/
import Derived.Test.YtholnjkicdifdaaDoorBmP
import Derived.Test.YtholnjkicdifdaaDoorRunX
import Derived.Test.YtholnjkicdifdaaDoorGrfP
import Derived.Test.YtholnjkicdifdaaDoorCloI
set_option maxRecDepth 100000
namespace Go.BmP
open Go.Am Go.Bm
def inpS (f : Nat) : Option (Nat -> List AV -> List AV -> Option (List AV × Option Nat)) := if f = nQE then some srtG else none
def orcF (f : Nat) : Option (List AV -> Heap -> Option (AV × Heap)) := if f = nQB then some gCloW else none
def locS (f : Nat) : Bool := if f = nQi then true else if f = nQf then true else if f = nQh then true else if f = nQg then true else false
def movS (f : Nat) : Option Nat := if f = nQ0 then some 3 else none
def cfgS : Go.Bm.Cfg := { cfg with inp := inpS,orc := orcF,loc := locS,mov := movS }
theorem cfgSOK : CfgOKB Go.Proofs.Tryd.prog cfgS := ⟨cfgOK.mixed,cfgOK.fn⟩
theorem empN (f : Nat) : cfgS.emp f = false := rfl
theorem eatN (f : Nat) : cfgS.eat f = none := rfl
theorem sQa : cfgS.fn nQa = some (⟨false,false,true⟩,qQa) := rfl
theorem oQa : cfgS.orc nQa = none := rfl
theorem sQb : cfgS.fn nQb = some (⟨false,false,true⟩,qQb) := rfl
theorem iQb : cfgS.inp nQb = none := rfl
theorem lQb : cfgS.loc nQb = false := rfl
theorem vQb : cfgS.mov nQb = none := show movS nQb = none from by unfold movS; rw [if_neg (show ¬ nQb = nQ0 by decide)]
theorem oQb : cfgS.orc nQb = none := rfl
theorem sQc : cfgS.fn nQc = some (⟨false,false,true⟩,qQc) := rfl
theorem iQc : cfgS.inp nQc = none := rfl
theorem lQc : cfgS.loc nQc = false := rfl
theorem vQc : cfgS.mov nQc = none := show movS nQc = none from by unfold movS; rw [if_neg (show ¬ nQc = nQ0 by decide)]
theorem oQc : cfgS.orc nQc = none := rfl
theorem sQd : cfgS.fn nQd = some (⟨false,false,true⟩,qQd) := rfl
theorem iQd : cfgS.inp nQd = none := rfl
theorem lQd : cfgS.loc nQd = false := rfl
theorem vQd : cfgS.mov nQd = none := show movS nQd = none from by unfold movS; rw [if_neg (show ¬ nQd = nQ0 by decide)]
theorem sQe : cfgS.fn nQe = some (⟨true,false,false⟩,qQe) := rfl
theorem iQe : cfgS.inp nQe = none := rfl
theorem lQe : cfgS.loc nQe = false := rfl
theorem vQe : cfgS.mov nQe = none := show movS nQe = none from by unfold movS; rw [if_neg (show ¬ nQe = nQ0 by decide)]
theorem oQe : cfgS.orc nQe = none := rfl
theorem sQf : cfgS.fn nQf = some (⟨true,false,false⟩,qQf) := rfl
theorem iQf : cfgS.inp nQf = none := rfl
theorem lQf : cfgS.loc nQf = true := rfl
theorem vQf : cfgS.mov nQf = none := show movS nQf = none from by unfold movS; rw [if_neg (show ¬ nQf = nQ0 by decide)]
theorem oQf : cfgS.orc nQf = none := rfl
theorem sQg : cfgS.fn nQg = some (⟨true,false,false⟩,qQg) := rfl
theorem iQg : cfgS.inp nQg = none := rfl
theorem lQg : cfgS.loc nQg = true := rfl
theorem vQg : cfgS.mov nQg = none := show movS nQg = none from by unfold movS; rw [if_neg (show ¬ nQg = nQ0 by decide)]
theorem oQg : cfgS.orc nQg = none := rfl
theorem sQh : cfgS.fn nQh = some (⟨true,false,false⟩,qQh) := rfl
theorem iQh : cfgS.inp nQh = none := rfl
theorem lQh : cfgS.loc nQh = true := rfl
theorem vQh : cfgS.mov nQh = none := show movS nQh = none from by unfold movS; rw [if_neg (show ¬ nQh = nQ0 by decide)]
theorem oQh : cfgS.orc nQh = none := rfl
theorem sQi : cfgS.fn nQi = some (⟨true,false,false⟩,qQi) := rfl
theorem iQi : cfgS.inp nQi = none := rfl
theorem lQi : cfgS.loc nQi = true := rfl
theorem vQi : cfgS.mov nQi = none := show movS nQi = none from by unfold movS; rw [if_neg (show ¬ nQi = nQ0 by decide)]
theorem oQi : cfgS.orc nQi = none := rfl
theorem sQj : cfgS.fn nQj = some (⟨false,false,false⟩,qQj) := rfl
theorem iQj : cfgS.inp nQj = none := rfl
theorem lQj : cfgS.loc nQj = false := rfl
theorem vQj : cfgS.mov nQj = none := show movS nQj = none from by unfold movS; rw [if_neg (show ¬ nQj = nQ0 by decide)]
theorem oQj : cfgS.orc nQj = none := rfl
theorem sQk : cfgS.fn nQk = some (⟨false,false,false⟩,qQk) := rfl
theorem iQk : cfgS.inp nQk = none := rfl
theorem lQk : cfgS.loc nQk = false := rfl
theorem vQk : cfgS.mov nQk = none := show movS nQk = none from by unfold movS; rw [if_neg (show ¬ nQk = nQ0 by decide)]
theorem oQk : cfgS.orc nQk = none := rfl
theorem sQl : cfgS.fn nQl = some (⟨false,false,false⟩,qQl) := rfl
theorem iQl : cfgS.inp nQl = none := rfl
theorem lQl : cfgS.loc nQl = false := rfl
theorem vQl : cfgS.mov nQl = none := show movS nQl = none from by unfold movS; rw [if_neg (show ¬ nQl = nQ0 by decide)]
theorem oQl : cfgS.orc nQl = none := rfl
theorem sQm : cfgS.fn nQm = some (⟨false,false,false⟩,qQm) := rfl
theorem iQm : cfgS.inp nQm = none := rfl
theorem lQm : cfgS.loc nQm = false := rfl
theorem vQm : cfgS.mov nQm = none := show movS nQm = none from by unfold movS; rw [if_neg (show ¬ nQm = nQ0 by decide)]
theorem oQm : cfgS.orc nQm = none := rfl
theorem sQn : cfgS.fn nQn = some (⟨false,false,true⟩,qQn) := rfl
theorem iQn : cfgS.inp nQn = none := rfl
theorem lQn : cfgS.loc nQn = false := rfl
theorem vQn : cfgS.mov nQn = none := show movS nQn = none from by unfold movS; rw [if_neg (show ¬ nQn = nQ0 by decide)]
theorem oQn : cfgS.orc nQn = none := rfl
theorem sQo : cfgS.fn nQo = some (⟨false,false,true⟩,qQo) := rfl
theorem iQo : cfgS.inp nQo = none := rfl
theorem lQo : cfgS.loc nQo = false := rfl
theorem vQo : cfgS.mov nQo = none := show movS nQo = none from by unfold movS; rw [if_neg (show ¬ nQo = nQ0 by decide)]
theorem oQo : cfgS.orc nQo = none := rfl
theorem sQp : cfgS.fn nQp = some (⟨false,false,true⟩,qQp) := rfl
theorem iQp : cfgS.inp nQp = none := rfl
theorem lQp : cfgS.loc nQp = false := rfl
theorem vQp : cfgS.mov nQp = none := show movS nQp = none from by unfold movS; rw [if_neg (show ¬ nQp = nQ0 by decide)]
theorem oQp : cfgS.orc nQp = none := rfl
theorem sQq : cfgS.fn nQq = some (⟨false,false,true⟩,qQq) := rfl
theorem iQq : cfgS.inp nQq = none := rfl
theorem lQq : cfgS.loc nQq = false := rfl
theorem vQq : cfgS.mov nQq = none := show movS nQq = none from by unfold movS; rw [if_neg (show ¬ nQq = nQ0 by decide)]
theorem oQq : cfgS.orc nQq = none := rfl
theorem sQr : cfgS.fn nQr = some (⟨false,false,true⟩,qQr) := rfl
theorem iQr : cfgS.inp nQr = none := rfl
theorem lQr : cfgS.loc nQr = false := rfl
theorem vQr : cfgS.mov nQr = none := show movS nQr = none from by unfold movS; rw [if_neg (show ¬ nQr = nQ0 by decide)]
theorem oQr : cfgS.orc nQr = none := rfl
theorem sQs : cfgS.fn nQs = some (⟨false,false,false⟩,qQs) := rfl
theorem iQs : cfgS.inp nQs = none := rfl
theorem lQs : cfgS.loc nQs = false := rfl
theorem vQs : cfgS.mov nQs = none := show movS nQs = none from by unfold movS; rw [if_neg (show ¬ nQs = nQ0 by decide)]
theorem oQs : cfgS.orc nQs = none := rfl
theorem sQt : cfgS.fn nQt = some (⟨false,false,false⟩,qQt) := rfl
theorem iQt : cfgS.inp nQt = none := rfl
theorem lQt : cfgS.loc nQt = false := rfl
theorem vQt : cfgS.mov nQt = none := show movS nQt = none from by unfold movS; rw [if_neg (show ¬ nQt = nQ0 by decide)]
theorem oQt : cfgS.orc nQt = none := rfl
theorem sQu : cfgS.fn nQu = some (⟨false,false,true⟩,qQu) := rfl
theorem iQu : cfgS.inp nQu = none := rfl
theorem lQu : cfgS.loc nQu = false := rfl
theorem vQu : cfgS.mov nQu = none := show movS nQu = none from by unfold movS; rw [if_neg (show ¬ nQu = nQ0 by decide)]
theorem oQu : cfgS.orc nQu = none := rfl
theorem sQv : cfgS.fn nQv = some (⟨false,false,true⟩,qQv) := rfl
theorem iQv : cfgS.inp nQv = none := rfl
theorem lQv : cfgS.loc nQv = false := rfl
theorem vQv : cfgS.mov nQv = none := show movS nQv = none from by unfold movS; rw [if_neg (show ¬ nQv = nQ0 by decide)]
theorem oQv : cfgS.orc nQv = none := rfl
theorem sQw : cfgS.fn nQw = some (⟨false,false,true⟩,qQw) := rfl
theorem iQw : cfgS.inp nQw = none := rfl
theorem lQw : cfgS.loc nQw = false := rfl
theorem vQw : cfgS.mov nQw = none := show movS nQw = none from by unfold movS; rw [if_neg (show ¬ nQw = nQ0 by decide)]
theorem oQw : cfgS.orc nQw = none := rfl
theorem sQy : cfgS.fn nQy = some (⟨false,false,true⟩,qQy) := rfl
theorem iQy : cfgS.inp nQy = none := rfl
theorem lQy : cfgS.loc nQy = false := rfl
theorem vQy : cfgS.mov nQy = none := show movS nQy = none from by unfold movS; rw [if_neg (show ¬ nQy = nQ0 by decide)]
theorem oQy : cfgS.orc nQy = none := rfl
theorem sQz : cfgS.fn nQz = some (⟨false,false,true⟩,qQz) := rfl
theorem iQz : cfgS.inp nQz = none := rfl
theorem lQz : cfgS.loc nQz = false := rfl
theorem vQz : cfgS.mov nQz = none := show movS nQz = none from by unfold movS; rw [if_neg (show ¬ nQz = nQ0 by decide)]
theorem oQz : cfgS.orc nQz = none := rfl
theorem sQA : cfgS.fn nQA = some (⟨false,false,false⟩,qQA) := rfl
theorem iQA : cfgS.inp nQA = none := rfl
theorem lQA : cfgS.loc nQA = false := rfl
theorem vQA : cfgS.mov nQA = none := show movS nQA = none from by unfold movS; rw [if_neg (show ¬ nQA = nQ0 by decide)]
theorem oQA : cfgS.orc nQA = none := rfl
theorem sQB : cfgS.fn nQB = some (⟨false,true,true⟩,qQB) := rfl
theorem iQB : cfgS.inp nQB = none := rfl
theorem lQB : cfgS.loc nQB = false := rfl
theorem vQB : cfgS.mov nQB = none := show movS nQB = none from by unfold movS; rw [if_neg (show ¬ nQB = nQ0 by decide)]
theorem oQB : cfgS.orc nQB = some gCloW := rfl
theorem sQC : cfgS.fn nQC = some (⟨false,false,true⟩,qQC) := rfl
theorem iQC : cfgS.inp nQC = none := rfl
theorem lQC : cfgS.loc nQC = false := rfl
theorem vQC : cfgS.mov nQC = none := show movS nQC = none from by unfold movS; rw [if_neg (show ¬ nQC = nQ0 by decide)]
theorem oQC : cfgS.orc nQC = none := rfl
theorem sQD : cfgS.fn nQD = some (⟨false,false,true⟩,qQD) := rfl
theorem iQD : cfgS.inp nQD = none := rfl
theorem lQD : cfgS.loc nQD = false := rfl
theorem vQD : cfgS.mov nQD = none := show movS nQD = none from by unfold movS; rw [if_neg (show ¬ nQD = nQ0 by decide)]
theorem oQD : cfgS.orc nQD = none := rfl
theorem sQE : cfgS.fn nQE = some (⟨false,false,true⟩,qQE) := rfl
theorem iQE : cfgS.inp nQE = some srtG := rfl
theorem lQE : cfgS.loc nQE = false := rfl
theorem vQE : cfgS.mov nQE = none := show movS nQE = none from by unfold movS; rw [if_neg (show ¬ nQE = nQ0 by decide)]
theorem sQF : cfgS.fn nQF = some (⟨false,false,true⟩,qQF) := rfl
theorem iQF : cfgS.inp nQF = none := rfl
theorem lQF : cfgS.loc nQF = false := rfl
theorem vQF : cfgS.mov nQF = none := show movS nQF = none from by unfold movS; rw [if_neg (show ¬ nQF = nQ0 by decide)]
theorem oQF : cfgS.orc nQF = none := rfl
theorem sQG : cfgS.fn nQG = some (⟨false,false,true⟩,qQG) := rfl
theorem iQG : cfgS.inp nQG = none := rfl
theorem lQG : cfgS.loc nQG = false := rfl
theorem vQG : cfgS.mov nQG = none := show movS nQG = none from by unfold movS; rw [if_neg (show ¬ nQG = nQ0 by decide)]
theorem oQG : cfgS.orc nQG = none := rfl
theorem sQH : cfgS.fn nQH = some (⟨false,false,false⟩,qQH) := rfl
theorem iQH : cfgS.inp nQH = none := rfl
theorem lQH : cfgS.loc nQH = false := rfl
theorem vQH : cfgS.mov nQH = none := show movS nQH = none from by unfold movS; rw [if_neg (show ¬ nQH = nQ0 by decide)]
theorem oQH : cfgS.orc nQH = none := rfl
theorem sQI : cfgS.fn nQI = some (⟨true,false,false⟩,qQI) := rfl
theorem iQI : cfgS.inp nQI = none := rfl
theorem lQI : cfgS.loc nQI = false := rfl
theorem vQI : cfgS.mov nQI = none := show movS nQI = none from by unfold movS; rw [if_neg (show ¬ nQI = nQ0 by decide)]
theorem oQI : cfgS.orc nQI = none := rfl
theorem sQJ : cfgS.fn nQJ = some (⟨true,false,false⟩,qQJ) := rfl
theorem oQJ : cfgS.orc nQJ = none := rfl
theorem sQK : cfgS.fn nQK = some (⟨false,false,false⟩,qQK) := rfl
theorem iQK : cfgS.inp nQK = none := rfl
theorem lQK : cfgS.loc nQK = false := rfl
theorem vQK : cfgS.mov nQK = none := show movS nQK = none from by unfold movS; rw [if_neg (show ¬ nQK = nQ0 by decide)]
theorem oQK : cfgS.orc nQK = none := rfl
theorem sQL : cfgS.fn nQL = some (⟨false,false,true⟩,qQL) := rfl
theorem iQL : cfgS.inp nQL = none := rfl
theorem lQL : cfgS.loc nQL = false := rfl
theorem vQL : cfgS.mov nQL = none := show movS nQL = none from by unfold movS; rw [if_neg (show ¬ nQL = nQ0 by decide)]
theorem oQL : cfgS.orc nQL = none := rfl
theorem sQM : cfgS.fn nQM = some (⟨false,false,true⟩,qQM) := rfl
theorem iQM : cfgS.inp nQM = none := rfl
theorem lQM : cfgS.loc nQM = false := rfl
theorem vQM : cfgS.mov nQM = none := show movS nQM = none from by unfold movS; rw [if_neg (show ¬ nQM = nQ0 by decide)]
theorem oQM : cfgS.orc nQM = none := rfl
theorem sQN : cfgS.fn nQN = some (⟨false,false,true⟩,qQN) := rfl
theorem iQN : cfgS.inp nQN = none := rfl
theorem lQN : cfgS.loc nQN = false := rfl
theorem vQN : cfgS.mov nQN = none := show movS nQN = none from by unfold movS; rw [if_neg (show ¬ nQN = nQ0 by decide)]
theorem oQN : cfgS.orc nQN = none := rfl
theorem sQO : cfgS.fn nQO = some (⟨false,false,true⟩,qQO) := rfl
theorem iQO : cfgS.inp nQO = none := rfl
theorem lQO : cfgS.loc nQO = false := rfl
theorem vQO : cfgS.mov nQO = none := show movS nQO = none from by unfold movS; rw [if_neg (show ¬ nQO = nQ0 by decide)]
theorem oQO : cfgS.orc nQO = none := rfl
theorem sQP : cfgS.fn nQP = some (⟨true,false,false⟩,qQP) := rfl
theorem oQP : cfgS.orc nQP = none := rfl
theorem sQQ : cfgS.fn nQQ = some (⟨true,false,false⟩,qQQ) := rfl
theorem oQQ : cfgS.orc nQQ = none := rfl
theorem sQR : cfgS.fn nQR = some (⟨false,false,true⟩,qQR) := rfl
theorem iQR : cfgS.inp nQR = none := rfl
theorem lQR : cfgS.loc nQR = false := rfl
theorem vQR : cfgS.mov nQR = none := show movS nQR = none from by unfold movS; rw [if_neg (show ¬ nQR = nQ0 by decide)]
theorem oQR : cfgS.orc nQR = none := rfl
theorem sQU : cfgS.fn nQU = some (⟨false,false,false⟩,qQU) := rfl
theorem iQU : cfgS.inp nQU = none := rfl
theorem lQU : cfgS.loc nQU = false := rfl
theorem vQU : cfgS.mov nQU = none := show movS nQU = none from by unfold movS; rw [if_neg (show ¬ nQU = nQ0 by decide)]
theorem oQU : cfgS.orc nQU = none := rfl
theorem sQV : cfgS.fn nQV = some (⟨false,false,true⟩,qQV) := rfl
theorem iQV : cfgS.inp nQV = none := rfl
theorem lQV : cfgS.loc nQV = false := rfl
theorem vQV : cfgS.mov nQV = none := show movS nQV = none from by unfold movS; rw [if_neg (show ¬ nQV = nQ0 by decide)]
theorem oQV : cfgS.orc nQV = none := rfl
theorem sQW : cfgS.fn nQW = some (⟨false,false,true⟩,qQW) := rfl
theorem iQW : cfgS.inp nQW = none := rfl
theorem lQW : cfgS.loc nQW = false := rfl
theorem vQW : cfgS.mov nQW = none := show movS nQW = none from by unfold movS; rw [if_neg (show ¬ nQW = nQ0 by decide)]
theorem oQW : cfgS.orc nQW = none := rfl
theorem sQX : cfgS.fn nQX = some (⟨false,false,true⟩,qQX) := rfl
theorem iQX : cfgS.inp nQX = none := rfl
theorem lQX : cfgS.loc nQX = false := rfl
theorem vQX : cfgS.mov nQX = none := show movS nQX = none from by unfold movS; rw [if_neg (show ¬ nQX = nQ0 by decide)]
theorem oQX : cfgS.orc nQX = none := rfl
theorem sQY : cfgS.fn nQY = some (⟨false,false,false⟩,qQY) := rfl
theorem iQY : cfgS.inp nQY = none := rfl
theorem lQY : cfgS.loc nQY = false := rfl
theorem vQY : cfgS.mov nQY = none := show movS nQY = none from by unfold movS; rw [if_neg (show ¬ nQY = nQ0 by decide)]
theorem oQY : cfgS.orc nQY = none := rfl
theorem sQZ : cfgS.fn nQZ = some (⟨true,false,false⟩,qQZ) := rfl
theorem iQZ : cfgS.inp nQZ = none := rfl
theorem lQZ : cfgS.loc nQZ = false := rfl
theorem vQZ : cfgS.mov nQZ = none := show movS nQZ = none from by unfold movS; rw [if_neg (show ¬ nQZ = nQ0 by decide)]
theorem oQZ : cfgS.orc nQZ = none := rfl
theorem sQ0 : cfgS.fn nQ0 = some (⟨false,true,true⟩,qQ0) := rfl
theorem iQ0 : cfgS.inp nQ0 = none := rfl
theorem lQ0 : cfgS.loc nQ0 = false := rfl
theorem vQ0 : cfgS.mov nQ0 = some 3 := show movS nQ0 = some 3 from by unfold movS; rw [if_pos rfl]
theorem oQ0 : cfgS.orc nQ0 = none := rfl
theorem sQ1 : cfgS.fn nQ1 = some (⟨false,false,true⟩,qQ1) := rfl
theorem iQ1 : cfgS.inp nQ1 = none := rfl
theorem lQ1 : cfgS.loc nQ1 = false := rfl
theorem vQ1 : cfgS.mov nQ1 = none := show movS nQ1 = none from by unfold movS; rw [if_neg (show ¬ nQ1 = nQ0 by decide)]
theorem oQ1 : cfgS.orc nQ1 = none := rfl
theorem sQ2 : cfgS.fn nQ2 = some (⟨false,false,true⟩,qQ2) := rfl
theorem iQ2 : cfgS.inp nQ2 = none := rfl
theorem lQ2 : cfgS.loc nQ2 = false := rfl
theorem vQ2 : cfgS.mov nQ2 = none := show movS nQ2 = none from by unfold movS; rw [if_neg (show ¬ nQ2 = nQ0 by decide)]
theorem oQ2 : cfgS.orc nQ2 = none := rfl
theorem sQ3 : cfgS.fn nQ3 = some (⟨false,false,true⟩,qQ3) := rfl
theorem iQ3 : cfgS.inp nQ3 = none := rfl
theorem lQ3 : cfgS.loc nQ3 = false := rfl
theorem vQ3 : cfgS.mov nQ3 = none := show movS nQ3 = none from by unfold movS; rw [if_neg (show ¬ nQ3 = nQ0 by decide)]
theorem oQ3 : cfgS.orc nQ3 = none := rfl
end Go.BmP
