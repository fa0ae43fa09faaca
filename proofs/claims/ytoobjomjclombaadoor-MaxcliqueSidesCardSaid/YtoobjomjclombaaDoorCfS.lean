/- The configuration with the library's functions that write into the slice they are given, and what it says of each function. -/
import Derived.Test.YtoobjomjclombaaDoorBmP
import Derived.Test.YtoobjomjclombaaDoorRunX
import Derived.Test.YtoobjomjclombaaDoorRvG
set_option maxRecDepth 100000
namespace Go.BmP
open Go.Am Go.Bm
def inpS (f : Nat) : Option (Nat -> List AV -> List AV -> Option (List AV × Option Nat)) := if f = nQa7 then some srtG else if f = nQa8 then some cptG else if f = nQD then some rvG else none
def orcF (f : Nat) : Option (List AV -> Heap -> Option (AV × Heap)) := if f = nQa6 then some gClo else none
def locS (f : Nat) : Bool := if f = nQe then true else false
def cfgS : Go.Bm.Cfg := { cfg with inp := inpS,orc := orcF,loc := locS }
theorem cfgSOK : CfgOKB Go.Proofs.Tryd.prog cfgS := ⟨cfgOK.mixed,cfgOK.fn⟩
theorem empN (f : Nat) : cfgS.emp f = false := rfl
theorem movN (f : Nat) : cfgS.mov f = none := rfl
theorem eatN (f : Nat) : cfgS.eat f = none := rfl
theorem sQa : cfgS.fn nQa = some (⟨false,false,true⟩,qQa) := rfl
theorem oQa : cfgS.orc nQa = none := rfl
theorem sQb : cfgS.fn nQb = some (⟨false,false,true⟩,qQb) := rfl
theorem iQb : cfgS.inp nQb = none := rfl
theorem lQb : cfgS.loc nQb = false := rfl
theorem oQb : cfgS.orc nQb = none := rfl
theorem sQc : cfgS.fn nQc = some (⟨false,false,true⟩,qQc) := rfl
theorem iQc : cfgS.inp nQc = none := rfl
theorem lQc : cfgS.loc nQc = false := rfl
theorem oQc : cfgS.orc nQc = none := rfl
theorem sQd : cfgS.fn nQd = some (⟨true,false,false⟩,qQd) := rfl
theorem iQd : cfgS.inp nQd = none := rfl
theorem lQd : cfgS.loc nQd = false := rfl
theorem oQd : cfgS.orc nQd = none := rfl
theorem sQe : cfgS.fn nQe = some (⟨true,false,false⟩,qQe) := rfl
theorem iQe : cfgS.inp nQe = none := rfl
theorem lQe : cfgS.loc nQe = true := rfl
theorem oQe : cfgS.orc nQe = none := rfl
theorem sQf : cfgS.fn nQf = some (⟨true,false,false⟩,qQf) := rfl
theorem iQf : cfgS.inp nQf = none := rfl
theorem lQf : cfgS.loc nQf = false := rfl
theorem oQf : cfgS.orc nQf = none := rfl
theorem sQg : cfgS.fn nQg = some (⟨false,false,false⟩,qQg) := rfl
theorem iQg : cfgS.inp nQg = none := rfl
theorem lQg : cfgS.loc nQg = false := rfl
theorem oQg : cfgS.orc nQg = none := rfl
theorem sQh : cfgS.fn nQh = some (⟨false,false,false⟩,qQh) := rfl
theorem iQh : cfgS.inp nQh = none := rfl
theorem lQh : cfgS.loc nQh = false := rfl
theorem oQh : cfgS.orc nQh = none := rfl
theorem sQi : cfgS.fn nQi = some (⟨false,false,true⟩,qQi) := rfl
theorem iQi : cfgS.inp nQi = none := rfl
theorem lQi : cfgS.loc nQi = false := rfl
theorem oQi : cfgS.orc nQi = none := rfl
theorem sQj : cfgS.fn nQj = some (⟨false,false,false⟩,qQj) := rfl
theorem iQj : cfgS.inp nQj = none := rfl
theorem lQj : cfgS.loc nQj = false := rfl
theorem oQj : cfgS.orc nQj = none := rfl
theorem sQk : cfgS.fn nQk = some (⟨false,false,false⟩,qQk) := rfl
theorem iQk : cfgS.inp nQk = none := rfl
theorem lQk : cfgS.loc nQk = false := rfl
theorem oQk : cfgS.orc nQk = none := rfl
theorem sQl : cfgS.fn nQl = some (⟨true,false,false⟩,qQl) := rfl
theorem iQl : cfgS.inp nQl = none := rfl
theorem lQl : cfgS.loc nQl = false := rfl
theorem oQl : cfgS.orc nQl = none := rfl
theorem sQm : cfgS.fn nQm = some (⟨false,false,false⟩,qQm) := rfl
theorem iQm : cfgS.inp nQm = none := rfl
theorem lQm : cfgS.loc nQm = false := rfl
theorem oQm : cfgS.orc nQm = none := rfl
theorem sQn : cfgS.fn nQn = some (⟨false,false,false⟩,qQn) := rfl
theorem iQn : cfgS.inp nQn = none := rfl
theorem lQn : cfgS.loc nQn = false := rfl
theorem oQn : cfgS.orc nQn = none := rfl
theorem sQo : cfgS.fn nQo = some (⟨false,false,true⟩,qQo) := rfl
theorem iQo : cfgS.inp nQo = none := rfl
theorem lQo : cfgS.loc nQo = false := rfl
theorem oQo : cfgS.orc nQo = none := rfl
theorem sQp : cfgS.fn nQp = some (⟨false,false,false⟩,qQp) := rfl
theorem iQp : cfgS.inp nQp = none := rfl
theorem lQp : cfgS.loc nQp = false := rfl
theorem sQq : cfgS.fn nQq = some (⟨false,false,true⟩,qQq) := rfl
theorem iQq : cfgS.inp nQq = none := rfl
theorem lQq : cfgS.loc nQq = false := rfl
theorem sQr : cfgS.fn nQr = some (⟨false,false,false⟩,qQr) := rfl
theorem iQr : cfgS.inp nQr = none := rfl
theorem lQr : cfgS.loc nQr = false := rfl
theorem sQs : cfgS.fn nQs = some (⟨false,false,true⟩,qQs) := rfl
theorem iQs : cfgS.inp nQs = none := rfl
theorem lQs : cfgS.loc nQs = false := rfl
theorem sQt : cfgS.fn nQt = some (⟨false,false,true⟩,qQt) := rfl
theorem iQt : cfgS.inp nQt = none := rfl
theorem lQt : cfgS.loc nQt = false := rfl
theorem oQt : cfgS.orc nQt = none := rfl
theorem sQu : cfgS.fn nQu = some (⟨false,false,true⟩,qQu) := rfl
theorem iQu : cfgS.inp nQu = none := rfl
theorem lQu : cfgS.loc nQu = false := rfl
theorem oQu : cfgS.orc nQu = none := rfl
theorem sQv : cfgS.fn nQv = some (⟨false,false,true⟩,qQv) := rfl
theorem iQv : cfgS.inp nQv = none := rfl
theorem lQv : cfgS.loc nQv = false := rfl
theorem oQv : cfgS.orc nQv = none := rfl
theorem sQw : cfgS.fn nQw = some (⟨false,false,false⟩,qQw) := rfl
theorem iQw : cfgS.inp nQw = none := rfl
theorem lQw : cfgS.loc nQw = false := rfl
theorem oQw : cfgS.orc nQw = none := rfl
theorem sQx : cfgS.fn nQx = some (⟨false,false,false⟩,qQx) := rfl
theorem iQx : cfgS.inp nQx = none := rfl
theorem lQx : cfgS.loc nQx = false := rfl
theorem oQx : cfgS.orc nQx = none := rfl
theorem sQy : cfgS.fn nQy = some (⟨false,true,true⟩,qQy) := rfl
theorem iQy : cfgS.inp nQy = none := rfl
theorem lQy : cfgS.loc nQy = false := rfl
theorem sQz : cfgS.fn nQz = some (⟨false,false,false⟩,qQz) := rfl
theorem iQz : cfgS.inp nQz = none := rfl
theorem lQz : cfgS.loc nQz = false := rfl
theorem oQz : cfgS.orc nQz = none := rfl
theorem sQA : cfgS.fn nQA = some (⟨false,false,true⟩,qQA) := rfl
theorem iQA : cfgS.inp nQA = none := rfl
theorem lQA : cfgS.loc nQA = false := rfl
theorem oQA : cfgS.orc nQA = none := rfl
theorem sQB : cfgS.fn nQB = some (⟨false,false,false⟩,qQB) := rfl
theorem iQB : cfgS.inp nQB = none := rfl
theorem lQB : cfgS.loc nQB = false := rfl
theorem oQB : cfgS.orc nQB = none := rfl
theorem sQC : cfgS.fn nQC = some (⟨true,true,false⟩,qQC) := rfl
theorem iQC : cfgS.inp nQC = none := rfl
theorem lQC : cfgS.loc nQC = false := rfl
theorem oQC : cfgS.orc nQC = none := rfl
theorem sQD : cfgS.fn nQD = some (⟨false,false,true⟩,qQD) := rfl
theorem iQD : cfgS.inp nQD = some rvG := rfl
theorem lQD : cfgS.loc nQD = false := rfl
theorem sQE : cfgS.fn nQE = some (⟨false,false,true⟩,qQE) := rfl
theorem iQE : cfgS.inp nQE = none := rfl
theorem lQE : cfgS.loc nQE = false := rfl
theorem oQE : cfgS.orc nQE = none := rfl
theorem sQF : cfgS.fn nQF = some (⟨false,false,true⟩,qQF) := rfl
theorem iQF : cfgS.inp nQF = none := rfl
theorem lQF : cfgS.loc nQF = false := rfl
theorem oQF : cfgS.orc nQF = none := rfl
theorem sQG : cfgS.fn nQG = some (⟨false,false,true⟩,qQG) := rfl
theorem iQG : cfgS.inp nQG = none := rfl
theorem lQG : cfgS.loc nQG = false := rfl
theorem oQG : cfgS.orc nQG = none := rfl
theorem sQH : cfgS.fn nQH = some (⟨false,false,false⟩,qQH) := rfl
theorem iQH : cfgS.inp nQH = none := rfl
theorem lQH : cfgS.loc nQH = false := rfl
theorem oQH : cfgS.orc nQH = none := rfl
theorem sQI : cfgS.fn nQI = some (⟨true,false,false⟩,qQI) := rfl
theorem iQI : cfgS.inp nQI = none := rfl
theorem lQI : cfgS.loc nQI = false := rfl
theorem oQI : cfgS.orc nQI = none := rfl
theorem sQJ : cfgS.fn nQJ = some (⟨true,false,false⟩,qQJ) := rfl
theorem iQJ : cfgS.inp nQJ = none := rfl
theorem lQJ : cfgS.loc nQJ = false := rfl
theorem oQJ : cfgS.orc nQJ = none := rfl
theorem sQK : cfgS.fn nQK = some (⟨true,false,false⟩,qQK) := rfl
theorem iQK : cfgS.inp nQK = none := rfl
theorem lQK : cfgS.loc nQK = false := rfl
theorem oQK : cfgS.orc nQK = none := rfl
theorem sQL : cfgS.fn nQL = some (⟨true,false,false⟩,qQL) := rfl
theorem iQL : cfgS.inp nQL = none := rfl
theorem lQL : cfgS.loc nQL = false := rfl
theorem oQL : cfgS.orc nQL = none := rfl
theorem sQO : cfgS.fn nQO = some (⟨false,false,true⟩,qQO) := rfl
theorem iQO : cfgS.inp nQO = none := rfl
theorem lQO : cfgS.loc nQO = false := rfl
theorem oQO : cfgS.orc nQO = none := rfl
theorem sQR : cfgS.fn nQR = some (⟨false,false,true⟩,qQR) := rfl
theorem iQR : cfgS.inp nQR = none := rfl
theorem lQR : cfgS.loc nQR = false := rfl
theorem oQR : cfgS.orc nQR = none := rfl
theorem sQS : cfgS.fn nQS = some (⟨false,false,false⟩,qQS) := rfl
theorem iQS : cfgS.inp nQS = none := rfl
theorem lQS : cfgS.loc nQS = false := rfl
theorem oQS : cfgS.orc nQS = none := rfl
theorem sQU : cfgS.fn nQU = some (⟨false,false,false⟩,qQU) := rfl
theorem iQU : cfgS.inp nQU = none := rfl
theorem lQU : cfgS.loc nQU = false := rfl
theorem oQU : cfgS.orc nQU = none := rfl
theorem sQV : cfgS.fn nQV = some (⟨false,false,true⟩,qQV) := rfl
theorem iQV : cfgS.inp nQV = none := rfl
theorem lQV : cfgS.loc nQV = false := rfl
theorem oQV : cfgS.orc nQV = none := rfl
theorem sQW : cfgS.fn nQW = some (⟨true,true,false⟩,qQW) := rfl
theorem iQW : cfgS.inp nQW = none := rfl
theorem lQW : cfgS.loc nQW = false := rfl
theorem oQW : cfgS.orc nQW = none := rfl
theorem sQX : cfgS.fn nQX = some (⟨false,false,true⟩,qQX) := rfl
theorem iQX : cfgS.inp nQX = none := rfl
theorem lQX : cfgS.loc nQX = false := rfl
theorem oQX : cfgS.orc nQX = none := rfl
theorem sQY : cfgS.fn nQY = some (⟨true,false,false⟩,qQY) := rfl
theorem iQY : cfgS.inp nQY = none := rfl
theorem lQY : cfgS.loc nQY = false := rfl
theorem oQY : cfgS.orc nQY = none := rfl
theorem sQZ : cfgS.fn nQZ = some (⟨true,false,false⟩,qQZ) := rfl
theorem iQZ : cfgS.inp nQZ = none := rfl
theorem lQZ : cfgS.loc nQZ = false := rfl
theorem oQZ : cfgS.orc nQZ = none := rfl
theorem sQ1 : cfgS.fn nQ1 = some (⟨false,false,true⟩,qQ1) := rfl
theorem iQ1 : cfgS.inp nQ1 = none := rfl
theorem lQ1 : cfgS.loc nQ1 = false := rfl
theorem oQ1 : cfgS.orc nQ1 = none := rfl
theorem sQ4 : cfgS.fn nQ4 = some (⟨false,false,true⟩,qQ4) := rfl
theorem iQ4 : cfgS.inp nQ4 = none := rfl
theorem lQ4 : cfgS.loc nQ4 = false := rfl
theorem oQ4 : cfgS.orc nQ4 = none := rfl
theorem sQ5 : cfgS.fn nQ5 = some (⟨false,false,true⟩,qQ5) := rfl
theorem iQ5 : cfgS.inp nQ5 = none := rfl
theorem lQ5 : cfgS.loc nQ5 = false := rfl
theorem oQ5 : cfgS.orc nQ5 = none := rfl
theorem sQ6 : cfgS.fn nQ6 = some (⟨false,false,false⟩,qQ6) := rfl
theorem iQ6 : cfgS.inp nQ6 = none := rfl
theorem lQ6 : cfgS.loc nQ6 = false := rfl
theorem oQ6 : cfgS.orc nQ6 = none := rfl
theorem sQ7 : cfgS.fn nQ7 = some (⟨false,false,true⟩,qQ7) := rfl
theorem oQ7 : cfgS.orc nQ7 = none := rfl
theorem sQa0 : cfgS.fn nQa0 = some (⟨false,false,false⟩,qQa0) := rfl
theorem iQa0 : cfgS.inp nQa0 = none := rfl
theorem lQa0 : cfgS.loc nQa0 = false := rfl
theorem oQa0 : cfgS.orc nQa0 = none := rfl
theorem sQa1 : cfgS.fn nQa1 = some (⟨false,false,true⟩,qQa1) := rfl
theorem iQa1 : cfgS.inp nQa1 = none := rfl
theorem lQa1 : cfgS.loc nQa1 = false := rfl
theorem oQa1 : cfgS.orc nQa1 = none := rfl
theorem sQa2 : cfgS.fn nQa2 = some (⟨false,false,true⟩,qQa2) := rfl
theorem iQa2 : cfgS.inp nQa2 = none := rfl
theorem lQa2 : cfgS.loc nQa2 = false := rfl
theorem sQa3 : cfgS.fn nQa3 = some (⟨false,false,true⟩,qQa3) := rfl
theorem iQa3 : cfgS.inp nQa3 = none := rfl
theorem lQa3 : cfgS.loc nQa3 = false := rfl
theorem sQa4 : cfgS.fn nQa4 = some (⟨false,false,true⟩,qQa4) := rfl
theorem iQa4 : cfgS.inp nQa4 = none := rfl
theorem lQa4 : cfgS.loc nQa4 = false := rfl
theorem oQa4 : cfgS.orc nQa4 = none := rfl
theorem sQa5 : cfgS.fn nQa5 = some (⟨false,false,true⟩,qQa5) := rfl
theorem iQa5 : cfgS.inp nQa5 = none := rfl
theorem lQa5 : cfgS.loc nQa5 = false := rfl
theorem oQa5 : cfgS.orc nQa5 = none := rfl
theorem sQa6 : cfgS.fn nQa6 = some (⟨false,true,true⟩,qQa6) := rfl
theorem iQa6 : cfgS.inp nQa6 = none := rfl
theorem lQa6 : cfgS.loc nQa6 = false := rfl
theorem oQa6 : cfgS.orc nQa6 = some gClo := rfl
theorem sQa7 : cfgS.fn nQa7 = some (⟨false,false,true⟩,qQa7) := rfl
theorem iQa7 : cfgS.inp nQa7 = some srtG := rfl
theorem lQa7 : cfgS.loc nQa7 = false := rfl
theorem sQa8 : cfgS.fn nQa8 = some (⟨false,false,false⟩,qQa8) := rfl
theorem iQa8 : cfgS.inp nQa8 = some cptG := rfl
theorem lQa8 : cfgS.loc nQa8 = false := rfl
end Go.BmP
