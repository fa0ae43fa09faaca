/- The configuration with the library's functions that write into the slice they are given, and what it says of each function. -/
import Derived.Test.YtkhnplbbngkjkaaBmP
import Derived.Test.YtkhnplbbngkjkaaRunL
import Derived.Test.YtkhnplbbngkjkaaSetP
set_option maxRecDepth 100000
namespace Go.BmZ
open Go.Am Go.Bm Go.BmP
def inpS (_ : Nat) : Option (Nat -> List AV -> List AV -> Option (List AV × Option Nat)) := none
def orcF (_ : Nat) : Option (List AV -> Heap -> Option (AV × Heap)) := none
def cfgS : Go.Bm.Cfg := { cfg with gl := fun _ => [], inp := inpS, orc := orcF }
theorem cfgSOK : CfgOKB Go.Proofs.Try.prog cfgS := ⟨cfgOK.mixed, cfgOK.fn⟩
theorem locN (f : Nat) : cfgS.loc f = false := rfl
theorem eatN (f : Nat) : cfgS.eat f = none := rfl
theorem sQb : cfgS.fn nQb = some (⟨false, false, true⟩, qQb) := gQb
theorem oQb : cfgS.orc nQb = none := rfl
theorem sQc : cfgS.fn nQc = some (⟨false, false, true⟩, qQc) := gQc
theorem iQc : cfgS.inp nQc = none := rfl
theorem oQc : cfgS.orc nQc = none := rfl
theorem sQd : cfgS.fn nQd = some (⟨false, false, true⟩, qQd) := gQd
theorem iQd : cfgS.inp nQd = none := rfl
theorem sQe : cfgS.fn nQe = some (⟨true, false, false⟩, qQe) := gQe
theorem iQe : cfgS.inp nQe = none := rfl
theorem oQe : cfgS.orc nQe = none := rfl
theorem sQf : cfgS.fn nQf = some (⟨true, false, false⟩, qQf) := gQf
theorem iQf : cfgS.inp nQf = none := rfl
theorem oQf : cfgS.orc nQf = none := rfl
theorem sQg : cfgS.fn nQg = some (⟨true, false, false⟩, qQg) := gQg
theorem iQg : cfgS.inp nQg = none := rfl
theorem oQg : cfgS.orc nQg = none := rfl
theorem sQh : cfgS.fn nQh = some (⟨false, false, false⟩, qQh) := gQh
theorem iQh : cfgS.inp nQh = none := rfl
theorem oQh : cfgS.orc nQh = none := rfl
theorem sQi : cfgS.fn nQi = some (⟨false, false, false⟩, qQi) := gQi
theorem iQi : cfgS.inp nQi = none := rfl
theorem oQi : cfgS.orc nQi = none := rfl
theorem sQj : cfgS.fn nQj = some (⟨false, false, true⟩, qQj) := gQj
theorem iQj : cfgS.inp nQj = none := rfl
theorem oQj : cfgS.orc nQj = none := rfl
theorem sQl : cfgS.fn nQl = some (⟨false, false, false⟩, qQl) := gQl
theorem iQl : cfgS.inp nQl = none := rfl
theorem oQl : cfgS.orc nQl = none := rfl
theorem sQm : cfgS.fn nQm = some (⟨false, false, false⟩, qQm) := gQm
theorem iQm : cfgS.inp nQm = none := rfl
theorem oQm : cfgS.orc nQm = none := rfl
theorem sQn : cfgS.fn nQn = some (⟨true, false, false⟩, qQn) := gQn
theorem iQn : cfgS.inp nQn = none := rfl
theorem oQn : cfgS.orc nQn = none := rfl
theorem sQo : cfgS.fn nQo = some (⟨false, false, true⟩, qQo) := gQo
theorem iQo : cfgS.inp nQo = none := rfl
theorem oQo : cfgS.orc nQo = none := rfl
theorem sQq : cfgS.fn nQq = some (⟨true, false, false⟩, qQq) := gQq
theorem iQq : cfgS.inp nQq = none := rfl
theorem oQq : cfgS.orc nQq = none := rfl
theorem sQr : cfgS.fn nQr = some (⟨true, false, false⟩, qQr) := gQr
theorem iQr : cfgS.inp nQr = none := rfl
theorem oQr : cfgS.orc nQr = none := rfl
theorem sQs : cfgS.fn nQs = some (⟨false, false, true⟩, qQs) := gQs
theorem iQs : cfgS.inp nQs = none := rfl
theorem oQs : cfgS.orc nQs = none := rfl
theorem sQt : cfgS.fn nQt = some (⟨false, false, true⟩, qQt) := gQt
theorem iQt : cfgS.inp nQt = none := rfl
theorem oQt : cfgS.orc nQt = none := rfl
theorem sQu : cfgS.fn nQu = some (⟨false, false, false⟩, qQu) := gQu
theorem iQu : cfgS.inp nQu = none := rfl
theorem oQu : cfgS.orc nQu = none := rfl
theorem sQv : cfgS.fn nQv = some (⟨false, false, false⟩, qQv) := gQv
theorem iQv : cfgS.inp nQv = none := rfl
theorem sQy : cfgS.fn nQy = some (⟨false, false, false⟩, qQy) := gQy
theorem iQy : cfgS.inp nQy = none := rfl
theorem oQy : cfgS.orc nQy = none := rfl
theorem sQz : cfgS.fn nQz = some (⟨false, false, true⟩, qQz) := gQz
theorem iQz : cfgS.inp nQz = none := rfl
theorem oQz : cfgS.orc nQz = none := rfl
theorem sQA : cfgS.fn nQA = some (⟨false, false, true⟩, qQA) := gQA
theorem iQA : cfgS.inp nQA = none := rfl
theorem sQB : cfgS.fn nQB = some (⟨false, false, true⟩, qQB) := gQB
theorem oQB : cfgS.orc nQB = none := rfl
theorem sQC : cfgS.fn nQC = some (⟨false, false, true⟩, qQC) := gQC
theorem iQC : cfgS.inp nQC = none := rfl
theorem oQC : cfgS.orc nQC = none := rfl
theorem sQD : cfgS.fn nQD = some (⟨false, false, true⟩, qQD) := gQD
theorem iQD : cfgS.inp nQD = none := rfl
theorem oQD : cfgS.orc nQD = none := rfl
theorem sQE : cfgS.fn nQE = some (⟨false, false, true⟩, qQE) := gQE
theorem iQE : cfgS.inp nQE = none := rfl
theorem oQE : cfgS.orc nQE = none := rfl
theorem sQF : cfgS.fn nQF = some (⟨false, false, true⟩, qQF) := gQF
theorem iQF : cfgS.inp nQF = none := rfl
theorem oQF : cfgS.orc nQF = none := rfl
theorem sQG : cfgS.fn nQG = some (⟨false, false, true⟩, qQG) := gQG
theorem iQG : cfgS.inp nQG = none := rfl
theorem oQG : cfgS.orc nQG = none := rfl
theorem sQH : cfgS.fn nQH = some (⟨false, false, true⟩, qQH) := gQH
theorem iQH : cfgS.inp nQH = none := rfl
theorem oQH : cfgS.orc nQH = none := rfl
theorem sQI : cfgS.fn nQI = some (⟨true, false, false⟩, qQI) := gQI
theorem iQI : cfgS.inp nQI = none := rfl
theorem oQI : cfgS.orc nQI = none := rfl
theorem sQJ : cfgS.fn nQJ = some (⟨false, false, true⟩, qQJ) := gQJ
theorem iQJ : cfgS.inp nQJ = none := rfl
theorem oQJ : cfgS.orc nQJ = none := rfl
theorem sQK : cfgS.fn nQK = some (⟨false, false, true⟩, qQK) := gQK
theorem iQK : cfgS.inp nQK = none := rfl
theorem oQK : cfgS.orc nQK = none := rfl
theorem sQL : cfgS.fn nQL = some (⟨false, false, false⟩, qQL) := gQL
theorem iQL : cfgS.inp nQL = none := rfl
theorem oQL : cfgS.orc nQL = none := rfl
theorem sQM : cfgS.fn nQM = some (⟨true, false, false⟩, qQM) := gQM
theorem iQM : cfgS.inp nQM = none := rfl
theorem oQM : cfgS.orc nQM = none := rfl
theorem sQN : cfgS.fn nQN = some (⟨false, false, false⟩, qQN) := gQN
theorem iQN : cfgS.inp nQN = none := rfl
theorem oQN : cfgS.orc nQN = none := rfl
theorem sQO : cfgS.fn nQO = some (⟨false, false, true⟩, qQO) := gQO
theorem iQO : cfgS.inp nQO = none := rfl
theorem oQO : cfgS.orc nQO = none := rfl
theorem sQP : cfgS.fn nQP = some (⟨false, false, true⟩, qQP) := gQP
theorem iQP : cfgS.inp nQP = none := rfl
theorem oQP : cfgS.orc nQP = none := rfl
theorem sQQ : cfgS.fn nQQ = some (⟨false, false, true⟩, qQQ) := gQQ
theorem iQQ : cfgS.inp nQQ = none := rfl
theorem oQQ : cfgS.orc nQQ = none := rfl
theorem sQR : cfgS.fn nQR = some (⟨true, false, false⟩, qQR) := gQR
theorem iQR : cfgS.inp nQR = none := rfl
theorem oQR : cfgS.orc nQR = none := rfl
theorem sQS : cfgS.fn nQS = some (⟨true, false, false⟩, qQS) := gQS
theorem iQS : cfgS.inp nQS = none := rfl
theorem oQS : cfgS.orc nQS = none := rfl
theorem sQT : cfgS.fn nQT = some (⟨false, false, true⟩, qQT) := gQT
theorem iQT : cfgS.inp nQT = none := rfl
theorem oQT : cfgS.orc nQT = none := rfl
theorem sQU : cfgS.fn nQU = some (⟨false, false, true⟩, qQU) := gQU
theorem iQU : cfgS.inp nQU = none := rfl
theorem oQU : cfgS.orc nQU = none := rfl
theorem sQV : cfgS.fn nQV = some (⟨false, false, false⟩, qQV) := gQV
theorem iQV : cfgS.inp nQV = none := rfl
theorem oQV : cfgS.orc nQV = none := rfl
theorem sQW : cfgS.fn nQW = some (⟨false, false, true⟩, qQW) := gQW
theorem oQW : cfgS.orc nQW = none := rfl
theorem sQX : cfgS.fn nQX = some (⟨false, false, true⟩, qQX) := gQX
theorem iQX : cfgS.inp nQX = none := rfl
theorem oQX : cfgS.orc nQX = none := rfl
theorem sQY : cfgS.fn nQY = some (⟨false, false, true⟩, qQY) := gQY
theorem iQY : cfgS.inp nQY = none := rfl
theorem oQY : cfgS.orc nQY = none := rfl
theorem sQZ : cfgS.fn nQZ = some (⟨false, true, true⟩, qQZ) := gQZ
theorem iQZ : cfgS.inp nQZ = none := rfl
theorem oQZ : cfgS.orc nQZ = none := rfl
theorem sQ0 : cfgS.fn nQ0 = some (⟨false, false, true⟩, qQ0) := gQ0
theorem iQ0 : cfgS.inp nQ0 = none := rfl
theorem sQ1 : cfgS.fn nQ1 = some (⟨false, false, false⟩, qQ1) := gQ1
theorem iQ1 : cfgS.inp nQ1 = none := rfl
end Go.BmZ
