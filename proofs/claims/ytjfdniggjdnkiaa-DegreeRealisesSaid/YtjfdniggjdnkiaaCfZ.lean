/- The configuration with the library's functions that write into the slice they are given, and what it says of each function. -/
import Derived.Test.YtjfdniggjdnkiaaBmP
import Derived.Test.YtjfdniggjdnkiaaGrfP
import Derived.Test.YtjfdniggjdnkiaaBitP
set_option maxRecDepth 100000
namespace Go.BmZ
open Go.BmP
open Go.Am Go.Bm
def inpS (_ : Nat) : Option (Nat -> List AV -> List AV -> Option (List AV × Option Nat)) := none
def orcF (_ : Nat) : Option (List AV -> Heap -> Option (AV × Heap)) := none
def cfgS : Go.Bm.Cfg := { cfg with inp := inpS, orc := orcF }
theorem cfgSOK : CfgOKB Go.Proofs.Try.prog cfgS := ⟨cfgOK.mixed, cfgOK.fn⟩
theorem locN (f : Nat) : cfgS.loc f = false := rfl
theorem empN (f : Nat) : cfgS.emp f = false := rfl
theorem eatN (f : Nat) : cfgS.eat f = none := rfl
theorem sQa : cfgS.fn nQa = some (⟨false, false, true⟩, qQa) := gQa
theorem oQa : cfgS.orc nQa = none := rfl
theorem sQb : cfgS.fn nQb = some (⟨false, false, true⟩, qQb) := gQb
theorem iQb : cfgS.inp nQb = none := rfl
theorem oQb : cfgS.orc nQb = none := rfl
theorem sQc : cfgS.fn nQc = some (⟨false, false, true⟩, qQc) := gQc
theorem iQc : cfgS.inp nQc = none := rfl
theorem oQc : cfgS.orc nQc = none := rfl
theorem sQd : cfgS.fn nQd = some (⟨false, false, true⟩, qQd) := gQd
theorem iQd : cfgS.inp nQd = none := rfl
theorem sQf : cfgS.fn nQf = some (⟨true, false, false⟩, qQf) := gQf
theorem iQf : cfgS.inp nQf = none := rfl
theorem oQf : cfgS.orc nQf = none := rfl
theorem sQg : cfgS.fn nQg = some (⟨true, false, false⟩, qQg) := gQg
theorem iQg : cfgS.inp nQg = none := rfl
theorem oQg : cfgS.orc nQg = none := rfl
theorem sQi : cfgS.fn nQi = some (⟨false, false, false⟩, qQi) := gQi
theorem iQi : cfgS.inp nQi = none := rfl
theorem oQi : cfgS.orc nQi = none := rfl
theorem sQk : cfgS.fn nQk = some (⟨true, false, false⟩, qQk) := gQk
theorem iQk : cfgS.inp nQk = none := rfl
theorem oQk : cfgS.orc nQk = none := rfl
theorem sQl : cfgS.fn nQl = some (⟨false, false, false⟩, qQl) := gQl
theorem iQl : cfgS.inp nQl = none := rfl
theorem oQl : cfgS.orc nQl = none := rfl
theorem sQm : cfgS.fn nQm = some (⟨false, false, false⟩, qQm) := gQm
theorem iQm : cfgS.inp nQm = none := rfl
theorem oQm : cfgS.orc nQm = none := rfl
theorem sQn : cfgS.fn nQn = some (⟨false, false, true⟩, qQn) := gQn
theorem iQn : cfgS.inp nQn = none := rfl
theorem oQn : cfgS.orc nQn = none := rfl
theorem sQo : cfgS.fn nQo = some (⟨false, false, true⟩, qQo) := gQo
theorem iQo : cfgS.inp nQo = none := rfl
theorem oQo : cfgS.orc nQo = none := rfl
theorem sQp : cfgS.fn nQp = some (⟨false, false, true⟩, qQp) := gQp
theorem iQp : cfgS.inp nQp = none := rfl
theorem oQp : cfgS.orc nQp = none := rfl
theorem sQq : cfgS.fn nQq = some (⟨false, false, false⟩, qQq) := gQq
theorem iQq : cfgS.inp nQq = none := rfl
theorem oQq : cfgS.orc nQq = none := rfl
theorem sQs : cfgS.fn nQs = some (⟨false, false, true⟩, qQs) := gQs
theorem sQw : cfgS.fn nQw = some (⟨false, false, true⟩, qQw) := gQw
theorem iQw : cfgS.inp nQw = none := rfl
theorem oQw : cfgS.orc nQw = none := rfl
theorem sQy : cfgS.fn nQy = some (⟨false, false, false⟩, qQy) := gQy
theorem iQy : cfgS.inp nQy = none := rfl
theorem oQy : cfgS.orc nQy = none := rfl
theorem sQz : cfgS.fn nQz = some (⟨false, false, true⟩, qQz) := gQz
theorem iQz : cfgS.inp nQz = none := rfl
theorem oQz : cfgS.orc nQz = none := rfl
theorem sQA : cfgS.fn nQA = some (⟨false, false, false⟩, qQA) := gQA
theorem iQA : cfgS.inp nQA = none := rfl
theorem oQA : cfgS.orc nQA = none := rfl
theorem sQB : cfgS.fn nQB = some (⟨false, false, true⟩, qQB) := gQB
theorem iQB : cfgS.inp nQB = none := rfl
theorem oQB : cfgS.orc nQB = none := rfl
theorem sQC : cfgS.fn nQC = some (⟨false, false, true⟩, qQC) := gQC
theorem iQC : cfgS.inp nQC = none := rfl
theorem oQC : cfgS.orc nQC = none := rfl
theorem sQD : cfgS.fn nQD = some (⟨false, false, true⟩, qQD) := gQD
theorem oQD : cfgS.orc nQD = none := rfl
theorem sQF : cfgS.fn nQF = some (⟨false, false, false⟩, qQF) := gQF
theorem iQF : cfgS.inp nQF = none := rfl
theorem oQF : cfgS.orc nQF = none := rfl
theorem sQG : cfgS.fn nQG = some (⟨false, false, true⟩, qQG) := gQG
theorem iQG : cfgS.inp nQG = none := rfl
theorem oQG : cfgS.orc nQG = none := rfl
theorem sQH : cfgS.fn nQH = some (⟨false, false, false⟩, qQH) := gQH
theorem iQH : cfgS.inp nQH = none := rfl
theorem oQH : cfgS.orc nQH = none := rfl
theorem sQI : cfgS.fn nQI = some (⟨false, false, true⟩, qQI) := gQI
theorem iQI : cfgS.inp nQI = none := rfl
theorem sQJ : cfgS.fn nQJ = some (⟨false, false, false⟩, qQJ) := gQJ
theorem iQJ : cfgS.inp nQJ = none := rfl
theorem sQK : cfgS.fn nQK = some (⟨false, false, true⟩, qQK) := gQK
theorem iQK : cfgS.inp nQK = none := rfl
theorem oQK : cfgS.orc nQK = none := rfl
theorem sQL : cfgS.fn nQL = some (⟨false, false, true⟩, qQL) := gQL
theorem iQL : cfgS.inp nQL = none := rfl
theorem oQL : cfgS.orc nQL = none := rfl
theorem sQM : cfgS.fn nQM = some (⟨false, false, false⟩, qQM) := gQM
theorem iQM : cfgS.inp nQM = none := rfl
theorem oQM : cfgS.orc nQM = none := rfl
theorem sQN : cfgS.fn nQN = some (⟨false, false, false⟩, qQN) := gQN
theorem iQN : cfgS.inp nQN = none := rfl
theorem oQN : cfgS.orc nQN = none := rfl
theorem sQO : cfgS.fn nQO = some (⟨false, false, true⟩, qQO) := gQO
theorem iQO : cfgS.inp nQO = none := rfl
theorem oQO : cfgS.orc nQO = none := rfl
theorem sQP : cfgS.fn nQP = some (⟨false, false, true⟩, qQP) := gQP
theorem iQP : cfgS.inp nQP = none := rfl
theorem oQP : cfgS.orc nQP = none := rfl
theorem sQQ : cfgS.fn nQQ = some (⟨false, false, false⟩, qQQ) := gQQ
theorem iQQ : cfgS.inp nQQ = none := rfl
theorem oQQ : cfgS.orc nQQ = none := rfl
theorem sQR : cfgS.fn nQR = some (⟨false, false, true⟩, qQR) := gQR
theorem iQR : cfgS.inp nQR = none := rfl
theorem oQR : cfgS.orc nQR = none := rfl
theorem sQS : cfgS.fn nQS = some (⟨false, false, false⟩, qQS) := gQS
theorem iQS : cfgS.inp nQS = none := rfl
theorem oQS : cfgS.orc nQS = none := rfl
end Go.BmZ
