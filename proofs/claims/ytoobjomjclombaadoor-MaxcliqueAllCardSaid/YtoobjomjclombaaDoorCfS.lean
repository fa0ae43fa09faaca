/- The configuration with the library's functions that write into the slice they are given, and what it says of each function. -/
import Derived.Test.YtoobjomjclombaaDoorBmP
import Derived.Test.YtoobjomjclombaaDoorRunL
import Derived.Test.YtoobjomjclombaaDoorGrfP
import Derived.Test.YtoobjomjclombaaDoorMxR
set_option maxRecDepth 100000
namespace Go.BmP
open Go.Am Go.Bm
def inpS (_ : Nat) : Option (Nat -> List AV -> List AV -> Option (List AV × Option Nat)) := none
def orcF (f : Nat) : Option (List AV -> Heap -> Option (AV × Heap)) := if f = nQr then some gMb else if f = nQi then some gMc else if f = nQj then some gMp else none
def movS (f : Nat) : Option Nat := if f = nQK then some 3 else none
def cfgS : Go.Bm.Cfg := { cfg with inp := inpS,orc := orcF,mov := movS }
theorem cfgSOK : CfgOKB Go.Proofs.Tryd.prog cfgS := ⟨cfgOK.mixed,cfgOK.fn⟩
theorem locN (f : Nat) : cfgS.loc f = false := rfl
theorem empN (f : Nat) : cfgS.emp f = false := rfl
theorem eatN (f : Nat) : cfgS.eat f = none := rfl
theorem sQa : cfgS.fn nQa = some (⟨false,false,true⟩,qQa) := gQa
theorem oQa : cfgS.orc nQa = none := rfl
theorem sQb : cfgS.fn nQb = some (⟨false,false,true⟩,qQb) := gQb
theorem iQb : cfgS.inp nQb = none := rfl
theorem vQb : cfgS.mov nQb = none := show movS nQb = none from by unfold movS; rw [if_neg (show ¬ nQb = nQK by decide)]
theorem oQb : cfgS.orc nQb = none := rfl
theorem sQc : cfgS.fn nQc = some (⟨false,false,true⟩,qQc) := gQc
theorem iQc : cfgS.inp nQc = none := rfl
theorem vQc : cfgS.mov nQc = none := show movS nQc = none from by unfold movS; rw [if_neg (show ¬ nQc = nQK by decide)]
theorem sQd : cfgS.fn nQd = some (⟨true,false,false⟩,qQd) := gQd
theorem iQd : cfgS.inp nQd = none := rfl
theorem vQd : cfgS.mov nQd = none := show movS nQd = none from by unfold movS; rw [if_neg (show ¬ nQd = nQK by decide)]
theorem oQd : cfgS.orc nQd = none := rfl
theorem sQe : cfgS.fn nQe = some (⟨true,false,false⟩,qQe) := gQe
theorem iQe : cfgS.inp nQe = none := rfl
theorem vQe : cfgS.mov nQe = none := show movS nQe = none from by unfold movS; rw [if_neg (show ¬ nQe = nQK by decide)]
theorem oQe : cfgS.orc nQe = none := rfl
theorem sQf : cfgS.fn nQf = some (⟨true,false,false⟩,qQf) := gQf
theorem iQf : cfgS.inp nQf = none := rfl
theorem vQf : cfgS.mov nQf = none := show movS nQf = none from by unfold movS; rw [if_neg (show ¬ nQf = nQK by decide)]
theorem oQf : cfgS.orc nQf = none := rfl
theorem sQg : cfgS.fn nQg = some (⟨false,false,true⟩,qQg) := gQg
theorem iQg : cfgS.inp nQg = none := rfl
theorem vQg : cfgS.mov nQg = none := show movS nQg = none from by unfold movS; rw [if_neg (show ¬ nQg = nQK by decide)]
theorem oQg : cfgS.orc nQg = none := rfl
theorem sQh : cfgS.fn nQh = some (⟨true,false,false⟩,qQh) := gQh
theorem iQh : cfgS.inp nQh = none := rfl
theorem vQh : cfgS.mov nQh = none := show movS nQh = none from by unfold movS; rw [if_neg (show ¬ nQh = nQK by decide)]
theorem oQh : cfgS.orc nQh = none := rfl
theorem sQk : cfgS.fn nQk = some (⟨false,false,false⟩,qQk) := gQk
theorem iQk : cfgS.inp nQk = none := rfl
theorem vQk : cfgS.mov nQk = none := show movS nQk = none from by unfold movS; rw [if_neg (show ¬ nQk = nQK by decide)]
theorem oQk : cfgS.orc nQk = none := rfl
theorem sQl : cfgS.fn nQl = some (⟨false,false,false⟩,qQl) := gQl
theorem iQl : cfgS.inp nQl = none := rfl
theorem vQl : cfgS.mov nQl = none := show movS nQl = none from by unfold movS; rw [if_neg (show ¬ nQl = nQK by decide)]
theorem oQl : cfgS.orc nQl = none := rfl
theorem sQm : cfgS.fn nQm = some (⟨false,false,true⟩,qQm) := gQm
theorem iQm : cfgS.inp nQm = none := rfl
theorem vQm : cfgS.mov nQm = none := show movS nQm = none from by unfold movS; rw [if_neg (show ¬ nQm = nQK by decide)]
theorem oQm : cfgS.orc nQm = none := rfl
theorem sQn : cfgS.fn nQn = some (⟨false,false,true⟩,qQn) := gQn
theorem iQn : cfgS.inp nQn = none := rfl
theorem vQn : cfgS.mov nQn = none := show movS nQn = none from by unfold movS; rw [if_neg (show ¬ nQn = nQK by decide)]
theorem oQn : cfgS.orc nQn = none := rfl
theorem sQo : cfgS.fn nQo = some (⟨false,false,true⟩,qQo) := gQo
theorem iQo : cfgS.inp nQo = none := rfl
theorem vQo : cfgS.mov nQo = none := show movS nQo = none from by unfold movS; rw [if_neg (show ¬ nQo = nQK by decide)]
theorem oQo : cfgS.orc nQo = none := rfl
theorem sQp : cfgS.fn nQp = some (⟨false,false,true⟩,qQp) := gQp
theorem iQp : cfgS.inp nQp = none := rfl
theorem vQp : cfgS.mov nQp = none := show movS nQp = none from by unfold movS; rw [if_neg (show ¬ nQp = nQK by decide)]
theorem oQp : cfgS.orc nQp = none := rfl
theorem sQs : cfgS.fn nQs = some (⟨false,false,true⟩,qQs) := gQs
theorem iQs : cfgS.inp nQs = none := rfl
theorem vQs : cfgS.mov nQs = none := show movS nQs = none from by unfold movS; rw [if_neg (show ¬ nQs = nQK by decide)]
theorem oQs : cfgS.orc nQs = none := rfl
theorem sQt : cfgS.fn nQt = some (⟨false,false,true⟩,qQt) := gQt
theorem iQt : cfgS.inp nQt = none := rfl
theorem vQt : cfgS.mov nQt = none := show movS nQt = none from by unfold movS; rw [if_neg (show ¬ nQt = nQK by decide)]
theorem oQt : cfgS.orc nQt = none := rfl
theorem sQu : cfgS.fn nQu = some (⟨false,false,true⟩,qQu) := gQu
theorem iQu : cfgS.inp nQu = none := rfl
theorem vQu : cfgS.mov nQu = none := show movS nQu = none from by unfold movS; rw [if_neg (show ¬ nQu = nQK by decide)]
theorem oQu : cfgS.orc nQu = none := rfl
theorem sQw : cfgS.fn nQw = some (⟨false,false,true⟩,qQw) := gQw
theorem iQw : cfgS.inp nQw = none := rfl
theorem vQw : cfgS.mov nQw = none := show movS nQw = none from by unfold movS; rw [if_neg (show ¬ nQw = nQK by decide)]
theorem oQw : cfgS.orc nQw = none := rfl
theorem sQx : cfgS.fn nQx = some (⟨false,false,false⟩,qQx) := gQx
theorem iQx : cfgS.inp nQx = none := rfl
theorem vQx : cfgS.mov nQx = none := show movS nQx = none from by unfold movS; rw [if_neg (show ¬ nQx = nQK by decide)]
theorem oQx : cfgS.orc nQx = none := rfl
theorem sQy : cfgS.fn nQy = some (⟨false,false,false⟩,qQy) := gQy
theorem iQy : cfgS.inp nQy = none := rfl
theorem vQy : cfgS.mov nQy = none := show movS nQy = none from by unfold movS; rw [if_neg (show ¬ nQy = nQK by decide)]
theorem oQy : cfgS.orc nQy = none := rfl
theorem sQz : cfgS.fn nQz = some (⟨false,false,true⟩,qQz) := gQz
theorem iQz : cfgS.inp nQz = none := rfl
theorem vQz : cfgS.mov nQz = none := show movS nQz = none from by unfold movS; rw [if_neg (show ¬ nQz = nQK by decide)]
theorem oQz : cfgS.orc nQz = none := rfl
theorem sQA : cfgS.fn nQA = some (⟨false,false,true⟩,qQA) := gQA
theorem iQA : cfgS.inp nQA = none := rfl
theorem vQA : cfgS.mov nQA = none := show movS nQA = none from by unfold movS; rw [if_neg (show ¬ nQA = nQK by decide)]
theorem oQA : cfgS.orc nQA = none := rfl
theorem sQC : cfgS.fn nQC = some (⟨false,false,false⟩,qQC) := gQC
theorem iQC : cfgS.inp nQC = none := rfl
theorem vQC : cfgS.mov nQC = none := show movS nQC = none from by unfold movS; rw [if_neg (show ¬ nQC = nQK by decide)]
theorem oQC : cfgS.orc nQC = none := rfl
theorem sQD : cfgS.fn nQD = some (⟨false,false,true⟩,qQD) := gQD
theorem iQD : cfgS.inp nQD = none := rfl
theorem vQD : cfgS.mov nQD = none := show movS nQD = none from by unfold movS; rw [if_neg (show ¬ nQD = nQK by decide)]
theorem oQD : cfgS.orc nQD = none := rfl
theorem sQE : cfgS.fn nQE = some (⟨false,false,true⟩,qQE) := gQE
theorem iQE : cfgS.inp nQE = none := rfl
theorem vQE : cfgS.mov nQE = none := show movS nQE = none from by unfold movS; rw [if_neg (show ¬ nQE = nQK by decide)]
theorem oQE : cfgS.orc nQE = none := rfl
theorem sQF : cfgS.fn nQF = some (⟨false,false,true⟩,qQF) := gQF
theorem iQF : cfgS.inp nQF = none := rfl
theorem vQF : cfgS.mov nQF = none := show movS nQF = none from by unfold movS; rw [if_neg (show ¬ nQF = nQK by decide)]
theorem oQF : cfgS.orc nQF = none := rfl
theorem sQG : cfgS.fn nQG = some (⟨false,false,true⟩,qQG) := gQG
theorem iQG : cfgS.inp nQG = none := rfl
theorem vQG : cfgS.mov nQG = none := show movS nQG = none from by unfold movS; rw [if_neg (show ¬ nQG = nQK by decide)]
theorem oQG : cfgS.orc nQG = none := rfl
theorem sQH : cfgS.fn nQH = some (⟨true,false,false⟩,qQH) := gQH
theorem iQH : cfgS.inp nQH = none := rfl
theorem vQH : cfgS.mov nQH = none := show movS nQH = none from by unfold movS; rw [if_neg (show ¬ nQH = nQK by decide)]
theorem oQH : cfgS.orc nQH = none := rfl
theorem sQI : cfgS.fn nQI = some (⟨false,false,true⟩,qQI) := gQI
theorem iQI : cfgS.inp nQI = none := rfl
theorem vQI : cfgS.mov nQI = none := show movS nQI = none from by unfold movS; rw [if_neg (show ¬ nQI = nQK by decide)]
theorem oQI : cfgS.orc nQI = none := rfl
theorem sQJ : cfgS.fn nQJ = some (⟨false,false,true⟩,qQJ) := gQJ
theorem iQJ : cfgS.inp nQJ = none := rfl
theorem vQJ : cfgS.mov nQJ = none := show movS nQJ = none from by unfold movS; rw [if_neg (show ¬ nQJ = nQK by decide)]
theorem oQJ : cfgS.orc nQJ = none := rfl
theorem sQK : cfgS.fn nQK = some (⟨false,true,true⟩,qQK) := gQK
theorem iQK : cfgS.inp nQK = none := rfl
theorem vQK : cfgS.mov nQK = some 3 := show movS nQK = some 3 from by unfold movS; rw [if_pos rfl]
theorem oQK : cfgS.orc nQK = none := rfl
theorem sQL : cfgS.fn nQL = some (⟨false,false,true⟩,qQL) := gQL
theorem iQL : cfgS.inp nQL = none := rfl
theorem vQL : cfgS.mov nQL = none := show movS nQL = none from by unfold movS; rw [if_neg (show ¬ nQL = nQK by decide)]
theorem oQL : cfgS.orc nQL = none := rfl
theorem sQM : cfgS.fn nQM = some (⟨false,false,true⟩,qQM) := gQM
theorem iQM : cfgS.inp nQM = none := rfl
theorem vQM : cfgS.mov nQM = none := show movS nQM = none from by unfold movS; rw [if_neg (show ¬ nQM = nQK by decide)]
theorem oQM : cfgS.orc nQM = none := rfl
theorem sQN : cfgS.fn nQN = some (⟨false,false,false⟩,qQN) := gQN
theorem iQN : cfgS.inp nQN = none := rfl
theorem vQN : cfgS.mov nQN = none := show movS nQN = none from by unfold movS; rw [if_neg (show ¬ nQN = nQK by decide)]
theorem oQN : cfgS.orc nQN = none := rfl
theorem sQO : cfgS.fn nQO = some (⟨false,false,true⟩,qQO) := gQO
theorem iQO : cfgS.inp nQO = none := rfl
theorem vQO : cfgS.mov nQO = none := show movS nQO = none from by unfold movS; rw [if_neg (show ¬ nQO = nQK by decide)]
theorem oQO : cfgS.orc nQO = none := rfl
theorem sQP : cfgS.fn nQP = some (⟨false,false,true⟩,qQP) := gQP
theorem iQP : cfgS.inp nQP = none := rfl
theorem vQP : cfgS.mov nQP = none := show movS nQP = none from by unfold movS; rw [if_neg (show ¬ nQP = nQK by decide)]
theorem oQP : cfgS.orc nQP = none := rfl
theorem sQQ : cfgS.fn nQQ = some (⟨false,false,true⟩,qQQ) := gQQ
theorem iQQ : cfgS.inp nQQ = none := rfl
theorem vQQ : cfgS.mov nQQ = none := show movS nQQ = none from by unfold movS; rw [if_neg (show ¬ nQQ = nQK by decide)]
theorem oQQ : cfgS.orc nQQ = none := rfl
theorem sQR : cfgS.fn nQR = some (⟨false,false,true⟩,qQR) := gQR
theorem iQR : cfgS.inp nQR = none := rfl
theorem vQR : cfgS.mov nQR = none := show movS nQR = none from by unfold movS; rw [if_neg (show ¬ nQR = nQK by decide)]
theorem oQR : cfgS.orc nQR = none := rfl
theorem sQS : cfgS.fn nQS = some (⟨false,false,true⟩,qQS) := gQS
theorem iQS : cfgS.inp nQS = none := rfl
theorem vQS : cfgS.mov nQS = none := show movS nQS = none from by unfold movS; rw [if_neg (show ¬ nQS = nQK by decide)]
theorem oQS : cfgS.orc nQS = none := rfl
end Go.BmP
