/- The configuration with the library's functions that write into the slice they are given, and what it says of each function. -/
import Derived.Test.YtfmbbifdganaaaaDoorBmP
import Derived.Test.YtfmbbifdganaaaaDoorRunL
import Derived.Test.YtfmbbifdganaaaaDoorSetP
set_option maxRecDepth 100000
namespace Go.BmZ
open Go.Am Go.Bm Go.BmP
def inpS (_ : Nat) : Option (Nat -> List AV -> List AV -> Option (List AV × Option Nat)) := none
def orcF (_ : Nat) : Option (List AV -> Heap -> Option (AV × Heap)) := none
def cfgS : Go.Bm.Cfg := { cfg with gl := fun _ => [], inp := inpS, orc := orcF }
theorem cfgSOK : CfgOKB Go.Proofs.Tryd.prog cfgS := ⟨cfgOK.mixed, cfgOK.fn⟩
theorem locN (f : Nat) : cfgS.loc f = false := rfl
theorem eatN (f : Nat) : cfgS.eat f = none := rfl
theorem sQa : cfgS.fn nQa = some (⟨false, false, true⟩, qQa) := gQa
theorem oQa : cfgS.orc nQa = none := rfl
theorem sQb : cfgS.fn nQb = some (⟨false, false, true⟩, qQb) := gQb
theorem iQb : cfgS.inp nQb = none := rfl
theorem oQb : cfgS.orc nQb = none := rfl
theorem sQc : cfgS.fn nQc = some (⟨false, false, true⟩, qQc) := gQc
theorem iQc : cfgS.inp nQc = none := rfl
theorem sQd : cfgS.fn nQd = some (⟨true, false, false⟩, qQd) := gQd
theorem iQd : cfgS.inp nQd = none := rfl
theorem oQd : cfgS.orc nQd = none := rfl
theorem sQe : cfgS.fn nQe = some (⟨true, false, false⟩, qQe) := gQe
theorem iQe : cfgS.inp nQe = none := rfl
theorem oQe : cfgS.orc nQe = none := rfl
theorem sQf : cfgS.fn nQf = some (⟨false, false, false⟩, qQf) := gQf
theorem iQf : cfgS.inp nQf = none := rfl
theorem oQf : cfgS.orc nQf = none := rfl
theorem sQg : cfgS.fn nQg = some (⟨false, false, true⟩, qQg) := gQg
theorem iQg : cfgS.inp nQg = none := rfl
theorem oQg : cfgS.orc nQg = none := rfl
theorem sQh : cfgS.fn nQh = some (⟨false, false, false⟩, qQh) := gQh
theorem iQh : cfgS.inp nQh = none := rfl
theorem oQh : cfgS.orc nQh = none := rfl
theorem sQi : cfgS.fn nQi = some (⟨false, false, true⟩, qQi) := gQi
theorem iQi : cfgS.inp nQi = none := rfl
theorem oQi : cfgS.orc nQi = none := rfl
theorem sQj : cfgS.fn nQj = some (⟨false, false, true⟩, qQj) := gQj
theorem iQj : cfgS.inp nQj = none := rfl
theorem oQj : cfgS.orc nQj = none := rfl
theorem sQk : cfgS.fn nQk = some (⟨false, false, false⟩, qQk) := gQk
theorem iQk : cfgS.inp nQk = none := rfl
theorem oQk : cfgS.orc nQk = none := rfl
theorem sQl : cfgS.fn nQl = some (⟨false, false, false⟩, qQl) := gQl
theorem iQl : cfgS.inp nQl = none := rfl
theorem oQl : cfgS.orc nQl = none := rfl
theorem sQm : cfgS.fn nQm = some (⟨true, false, false⟩, qQm) := gQm
theorem iQm : cfgS.inp nQm = none := rfl
theorem oQm : cfgS.orc nQm = none := rfl
theorem sQn : cfgS.fn nQn = some (⟨false, false, true⟩, qQn) := gQn
theorem iQn : cfgS.inp nQn = none := rfl
theorem oQn : cfgS.orc nQn = none := rfl
theorem sQo : cfgS.fn nQo = some (⟨false, false, false⟩, qQo) := gQo
theorem iQo : cfgS.inp nQo = none := rfl
theorem oQo : cfgS.orc nQo = none := rfl
theorem sQp : cfgS.fn nQp = some (⟨false, false, true⟩, qQp) := gQp
theorem iQp : cfgS.inp nQp = none := rfl
theorem oQp : cfgS.orc nQp = none := rfl
theorem sQs : cfgS.fn nQs = some (⟨true, false, false⟩, qQs) := gQs
theorem iQs : cfgS.inp nQs = none := rfl
theorem oQs : cfgS.orc nQs = none := rfl
theorem sQt : cfgS.fn nQt = some (⟨false, false, true⟩, qQt) := gQt
theorem iQt : cfgS.inp nQt = none := rfl
theorem oQt : cfgS.orc nQt = none := rfl
theorem sQu : cfgS.fn nQu = some (⟨true, false, false⟩, qQu) := gQu
theorem iQu : cfgS.inp nQu = none := rfl
theorem oQu : cfgS.orc nQu = none := rfl
theorem sQv : cfgS.fn nQv = some (⟨true, false, false⟩, qQv) := gQv
theorem oQv : cfgS.orc nQv = none := rfl
theorem sQw : cfgS.fn nQw = some (⟨false, false, true⟩, qQw) := gQw
theorem iQw : cfgS.inp nQw = none := rfl
theorem oQw : cfgS.orc nQw = none := rfl
theorem sQx : cfgS.fn nQx = some (⟨false, false, false⟩, qQx) := gQx
theorem iQx : cfgS.inp nQx = none := rfl
theorem oQx : cfgS.orc nQx = none := rfl
theorem sQy : cfgS.fn nQy = some (⟨false, false, true⟩, qQy) := gQy
theorem iQy : cfgS.inp nQy = none := rfl
theorem oQy : cfgS.orc nQy = none := rfl
theorem sQz : cfgS.fn nQz = some (⟨false, false, false⟩, qQz) := gQz
theorem iQz : cfgS.inp nQz = none := rfl
theorem oQz : cfgS.orc nQz = none := rfl
theorem sQA : cfgS.fn nQA = some (⟨false, false, true⟩, qQA) := gQA
theorem iQA : cfgS.inp nQA = none := rfl
theorem sQB : cfgS.fn nQB = some (⟨false, false, true⟩, qQB) := gQB
theorem iQB : cfgS.inp nQB = none := rfl
theorem oQB : cfgS.orc nQB = none := rfl
theorem sQC : cfgS.fn nQC = some (⟨false, false, false⟩, qQC) := gQC
theorem iQC : cfgS.inp nQC = none := rfl
theorem sQD : cfgS.fn nQD = some (⟨false, false, true⟩, qQD) := gQD
theorem iQD : cfgS.inp nQD = none := rfl
theorem oQD : cfgS.orc nQD = none := rfl
theorem sQE : cfgS.fn nQE = some (⟨false, false, false⟩, qQE) := gQE
theorem iQE : cfgS.inp nQE = none := rfl
theorem oQE : cfgS.orc nQE = none := rfl
theorem sQF : cfgS.fn nQF = some (⟨false, false, true⟩, qQF) := gQF
theorem iQF : cfgS.inp nQF = none := rfl
theorem oQF : cfgS.orc nQF = none := rfl
theorem sQG : cfgS.fn nQG = some (⟨false, false, true⟩, qQG) := gQG
theorem iQG : cfgS.inp nQG = none := rfl
theorem oQG : cfgS.orc nQG = none := rfl
theorem sQH : cfgS.fn nQH = some (⟨false, true, true⟩, qQH) := gQH
theorem iQH : cfgS.inp nQH = none := rfl
theorem oQH : cfgS.orc nQH = none := rfl
theorem sQI : cfgS.fn nQI = some (⟨false, false, true⟩, qQI) := gQI
theorem iQI : cfgS.inp nQI = none := rfl
theorem oQI : cfgS.orc nQI = none := rfl
theorem sQJ : cfgS.fn nQJ = some (⟨false, false, true⟩, qQJ) := gQJ
theorem iQJ : cfgS.inp nQJ = none := rfl
theorem sQK : cfgS.fn nQK = some (⟨false, false, true⟩, qQK) := gQK
theorem iQK : cfgS.inp nQK = none := rfl
theorem oQK : cfgS.orc nQK = none := rfl
theorem sQQ : cfgS.fn nQQ = some (⟨false, false, true⟩, qQQ) := gQQ
theorem iQQ : cfgS.inp nQQ = none := rfl
theorem oQQ : cfgS.orc nQQ = none := rfl
theorem sQR : cfgS.fn nQR = some (⟨true, false, false⟩, qQR) := gQR
theorem iQR : cfgS.inp nQR = none := rfl
theorem oQR : cfgS.orc nQR = none := rfl
theorem sQS : cfgS.fn nQS = some (⟨false, false, true⟩, qQS) := gQS
theorem iQS : cfgS.inp nQS = none := rfl
theorem oQS : cfgS.orc nQS = none := rfl
theorem sQT : cfgS.fn nQT = some (⟨false, false, true⟩, qQT) := gQT
theorem iQT : cfgS.inp nQT = none := rfl
theorem oQT : cfgS.orc nQT = none := rfl
theorem sQU : cfgS.fn nQU = some (⟨false, false, true⟩, qQU) := gQU
theorem iQU : cfgS.inp nQU = none := rfl
theorem oQU : cfgS.orc nQU = none := rfl
theorem sQW : cfgS.fn nQW = some (⟨false, false, true⟩, qQW) := gQW
theorem iQW : cfgS.inp nQW = none := rfl
theorem oQW : cfgS.orc nQW = none := rfl
end Go.BmZ
