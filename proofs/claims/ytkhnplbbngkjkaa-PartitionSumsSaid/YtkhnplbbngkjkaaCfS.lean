/- The configuration with the library's functions that write into the slice they are given, and what it says of each function. -/
import Derived.Test.YtkhnplbbngkjkaaBmP
import Derived.Test.YtkhnplbbngkjkaaRunL
import Derived.Test.YtkhnplbbngkjkaaSetP
import Derived.Test.YtkhnplbbngkjkaaCfP
import Derived.Test.YtkhnplbbngkjkaaDlfG
set_option maxRecDepth 100000
namespace Go.BmP
open Go.Am Go.Bm
def inpS (f : Nat) : Option (Nat -> List AV -> List AV -> Option (List AV × Option Nat)) := if f = nQ0 then some srtG else if f = nQ1 then some cptG else if f = nQA then some (srfG cfP nQB) else none
def orcF (f : Nat) : Option (List AV -> Heap -> Option (AV × Heap)) := if f = nQZ then some gClo else none
def eatS (f : Nat) : Option (Nat -> List AV -> List AV -> Option (List AV)) := if f = nQv then some (delfG nQw) else none
def locS (f : Nat) : Bool := if f = nQn then true else false
def empS (f : Nat) : Bool := if f = nQm then true else false
def cfgS : Go.Bm.Cfg := { cfg with inp := inpS, orc := orcF, eat := eatS, loc := locS, emp := empS }
theorem cfgSOK : CfgOKB Go.Proofs.Try.prog cfgS := ⟨cfgOK.mixed, cfgOK.fn⟩
theorem sQb : cfgS.fn nQb = some (⟨false, false, true⟩, qQb) := gQb
theorem oQb : cfgS.orc nQb = none := rfl
theorem sQc : cfgS.fn nQc = some (⟨false, false, true⟩, qQc) := gQc
theorem iQc : cfgS.inp nQc = none := rfl
theorem eQc : cfgS.eat nQc = none := rfl
theorem lQc : cfgS.loc nQc = false := rfl
theorem yQc : cfgS.emp nQc = false := show empS nQc = false from by unfold empS; rw [if_neg (show ¬ nQc = nQm by decide)]
theorem oQc : cfgS.orc nQc = none := rfl
theorem sQd : cfgS.fn nQd = some (⟨false, false, true⟩, qQd) := gQd
theorem iQd : cfgS.inp nQd = none := rfl
theorem eQd : cfgS.eat nQd = none := rfl
theorem lQd : cfgS.loc nQd = false := rfl
theorem yQd : cfgS.emp nQd = false := show empS nQd = false from by unfold empS; rw [if_neg (show ¬ nQd = nQm by decide)]
theorem sQe : cfgS.fn nQe = some (⟨true, false, false⟩, qQe) := gQe
theorem iQe : cfgS.inp nQe = none := rfl
theorem eQe : cfgS.eat nQe = none := rfl
theorem lQe : cfgS.loc nQe = false := rfl
theorem yQe : cfgS.emp nQe = false := show empS nQe = false from by unfold empS; rw [if_neg (show ¬ nQe = nQm by decide)]
theorem oQe : cfgS.orc nQe = none := rfl
theorem sQf : cfgS.fn nQf = some (⟨true, false, false⟩, qQf) := gQf
theorem iQf : cfgS.inp nQf = none := rfl
theorem eQf : cfgS.eat nQf = none := rfl
theorem lQf : cfgS.loc nQf = false := rfl
theorem yQf : cfgS.emp nQf = false := show empS nQf = false from by unfold empS; rw [if_neg (show ¬ nQf = nQm by decide)]
theorem oQf : cfgS.orc nQf = none := rfl
theorem sQg : cfgS.fn nQg = some (⟨true, false, false⟩, qQg) := gQg
theorem iQg : cfgS.inp nQg = none := rfl
theorem eQg : cfgS.eat nQg = none := rfl
theorem lQg : cfgS.loc nQg = false := rfl
theorem yQg : cfgS.emp nQg = false := show empS nQg = false from by unfold empS; rw [if_neg (show ¬ nQg = nQm by decide)]
theorem oQg : cfgS.orc nQg = none := rfl
theorem sQh : cfgS.fn nQh = some (⟨false, false, false⟩, qQh) := gQh
theorem iQh : cfgS.inp nQh = none := rfl
theorem eQh : cfgS.eat nQh = none := rfl
theorem lQh : cfgS.loc nQh = false := rfl
theorem yQh : cfgS.emp nQh = false := show empS nQh = false from by unfold empS; rw [if_neg (show ¬ nQh = nQm by decide)]
theorem oQh : cfgS.orc nQh = none := rfl
theorem sQi : cfgS.fn nQi = some (⟨false, false, false⟩, qQi) := gQi
theorem iQi : cfgS.inp nQi = none := rfl
theorem eQi : cfgS.eat nQi = none := rfl
theorem lQi : cfgS.loc nQi = false := rfl
theorem yQi : cfgS.emp nQi = false := show empS nQi = false from by unfold empS; rw [if_neg (show ¬ nQi = nQm by decide)]
theorem oQi : cfgS.orc nQi = none := rfl
theorem sQj : cfgS.fn nQj = some (⟨false, false, true⟩, qQj) := gQj
theorem iQj : cfgS.inp nQj = none := rfl
theorem eQj : cfgS.eat nQj = none := rfl
theorem lQj : cfgS.loc nQj = false := rfl
theorem yQj : cfgS.emp nQj = false := show empS nQj = false from by unfold empS; rw [if_neg (show ¬ nQj = nQm by decide)]
theorem oQj : cfgS.orc nQj = none := rfl
theorem sQl : cfgS.fn nQl = some (⟨false, false, false⟩, qQl) := gQl
theorem iQl : cfgS.inp nQl = none := rfl
theorem eQl : cfgS.eat nQl = none := rfl
theorem lQl : cfgS.loc nQl = false := rfl
theorem yQl : cfgS.emp nQl = false := show empS nQl = false from by unfold empS; rw [if_neg (show ¬ nQl = nQm by decide)]
theorem oQl : cfgS.orc nQl = none := rfl
theorem sQm : cfgS.fn nQm = some (⟨false, false, false⟩, qQm) := gQm
theorem iQm : cfgS.inp nQm = none := rfl
theorem eQm : cfgS.eat nQm = none := rfl
theorem lQm : cfgS.loc nQm = false := rfl
theorem yQm : cfgS.emp nQm = true := show empS nQm = true from by unfold empS; rw [if_pos rfl]
theorem oQm : cfgS.orc nQm = none := rfl
theorem sQn : cfgS.fn nQn = some (⟨true, false, false⟩, qQn) := gQn
theorem iQn : cfgS.inp nQn = none := rfl
theorem eQn : cfgS.eat nQn = none := rfl
theorem lQn : cfgS.loc nQn = true := rfl
theorem yQn : cfgS.emp nQn = false := show empS nQn = false from by unfold empS; rw [if_neg (show ¬ nQn = nQm by decide)]
theorem oQn : cfgS.orc nQn = none := rfl
theorem sQo : cfgS.fn nQo = some (⟨false, false, true⟩, qQo) := gQo
theorem iQo : cfgS.inp nQo = none := rfl
theorem eQo : cfgS.eat nQo = none := rfl
theorem lQo : cfgS.loc nQo = false := rfl
theorem yQo : cfgS.emp nQo = false := show empS nQo = false from by unfold empS; rw [if_neg (show ¬ nQo = nQm by decide)]
theorem oQo : cfgS.orc nQo = none := rfl
theorem sQq : cfgS.fn nQq = some (⟨true, false, false⟩, qQq) := gQq
theorem iQq : cfgS.inp nQq = none := rfl
theorem eQq : cfgS.eat nQq = none := rfl
theorem lQq : cfgS.loc nQq = false := rfl
theorem yQq : cfgS.emp nQq = false := show empS nQq = false from by unfold empS; rw [if_neg (show ¬ nQq = nQm by decide)]
theorem oQq : cfgS.orc nQq = none := rfl
theorem sQr : cfgS.fn nQr = some (⟨true, false, false⟩, qQr) := gQr
theorem iQr : cfgS.inp nQr = none := rfl
theorem eQr : cfgS.eat nQr = none := rfl
theorem lQr : cfgS.loc nQr = false := rfl
theorem yQr : cfgS.emp nQr = false := show empS nQr = false from by unfold empS; rw [if_neg (show ¬ nQr = nQm by decide)]
theorem oQr : cfgS.orc nQr = none := rfl
theorem sQs : cfgS.fn nQs = some (⟨false, false, true⟩, qQs) := gQs
theorem iQs : cfgS.inp nQs = none := rfl
theorem eQs : cfgS.eat nQs = none := rfl
theorem lQs : cfgS.loc nQs = false := rfl
theorem yQs : cfgS.emp nQs = false := show empS nQs = false from by unfold empS; rw [if_neg (show ¬ nQs = nQm by decide)]
theorem oQs : cfgS.orc nQs = none := rfl
theorem sQt : cfgS.fn nQt = some (⟨false, false, true⟩, qQt) := gQt
theorem iQt : cfgS.inp nQt = none := rfl
theorem eQt : cfgS.eat nQt = none := rfl
theorem lQt : cfgS.loc nQt = false := rfl
theorem yQt : cfgS.emp nQt = false := show empS nQt = false from by unfold empS; rw [if_neg (show ¬ nQt = nQm by decide)]
theorem oQt : cfgS.orc nQt = none := rfl
theorem sQu : cfgS.fn nQu = some (⟨false, false, false⟩, qQu) := gQu
theorem iQu : cfgS.inp nQu = none := rfl
theorem eQu : cfgS.eat nQu = none := rfl
theorem lQu : cfgS.loc nQu = false := rfl
theorem yQu : cfgS.emp nQu = false := show empS nQu = false from by unfold empS; rw [if_neg (show ¬ nQu = nQm by decide)]
theorem oQu : cfgS.orc nQu = none := rfl
theorem sQv : cfgS.fn nQv = some (⟨false, false, false⟩, qQv) := gQv
theorem iQv : cfgS.inp nQv = none := rfl
theorem eQv : cfgS.eat nQv = some (delfG nQw) := rfl
theorem lQv : cfgS.loc nQv = false := rfl
theorem yQv : cfgS.emp nQv = false := show empS nQv = false from by unfold empS; rw [if_neg (show ¬ nQv = nQm by decide)]
theorem sQy : cfgS.fn nQy = some (⟨false, false, false⟩, qQy) := gQy
theorem iQy : cfgS.inp nQy = none := rfl
theorem eQy : cfgS.eat nQy = none := rfl
theorem lQy : cfgS.loc nQy = false := rfl
theorem yQy : cfgS.emp nQy = false := show empS nQy = false from by unfold empS; rw [if_neg (show ¬ nQy = nQm by decide)]
theorem oQy : cfgS.orc nQy = none := rfl
theorem sQz : cfgS.fn nQz = some (⟨false, false, true⟩, qQz) := gQz
theorem iQz : cfgS.inp nQz = none := rfl
theorem eQz : cfgS.eat nQz = none := rfl
theorem lQz : cfgS.loc nQz = false := rfl
theorem yQz : cfgS.emp nQz = false := show empS nQz = false from by unfold empS; rw [if_neg (show ¬ nQz = nQm by decide)]
theorem oQz : cfgS.orc nQz = none := rfl
theorem sQA : cfgS.fn nQA = some (⟨false, false, true⟩, qQA) := gQA
theorem iQA : cfgS.inp nQA = some (srfG cfP nQB) := rfl
theorem eQA : cfgS.eat nQA = none := rfl
theorem lQA : cfgS.loc nQA = false := rfl
theorem yQA : cfgS.emp nQA = false := show empS nQA = false from by unfold empS; rw [if_neg (show ¬ nQA = nQm by decide)]
theorem sQB : cfgS.fn nQB = some (⟨false, false, true⟩, qQB) := gQB
theorem oQB : cfgS.orc nQB = none := rfl
theorem sQC : cfgS.fn nQC = some (⟨false, false, true⟩, qQC) := gQC
theorem iQC : cfgS.inp nQC = none := rfl
theorem eQC : cfgS.eat nQC = none := rfl
theorem lQC : cfgS.loc nQC = false := rfl
theorem yQC : cfgS.emp nQC = false := show empS nQC = false from by unfold empS; rw [if_neg (show ¬ nQC = nQm by decide)]
theorem oQC : cfgS.orc nQC = none := rfl
theorem sQD : cfgS.fn nQD = some (⟨false, false, true⟩, qQD) := gQD
theorem iQD : cfgS.inp nQD = none := rfl
theorem eQD : cfgS.eat nQD = none := rfl
theorem lQD : cfgS.loc nQD = false := rfl
theorem yQD : cfgS.emp nQD = false := show empS nQD = false from by unfold empS; rw [if_neg (show ¬ nQD = nQm by decide)]
theorem oQD : cfgS.orc nQD = none := rfl
theorem sQE : cfgS.fn nQE = some (⟨false, false, true⟩, qQE) := gQE
theorem iQE : cfgS.inp nQE = none := rfl
theorem eQE : cfgS.eat nQE = none := rfl
theorem lQE : cfgS.loc nQE = false := rfl
theorem yQE : cfgS.emp nQE = false := show empS nQE = false from by unfold empS; rw [if_neg (show ¬ nQE = nQm by decide)]
theorem oQE : cfgS.orc nQE = none := rfl
theorem sQF : cfgS.fn nQF = some (⟨false, false, true⟩, qQF) := gQF
theorem iQF : cfgS.inp nQF = none := rfl
theorem eQF : cfgS.eat nQF = none := rfl
theorem lQF : cfgS.loc nQF = false := rfl
theorem yQF : cfgS.emp nQF = false := show empS nQF = false from by unfold empS; rw [if_neg (show ¬ nQF = nQm by decide)]
theorem oQF : cfgS.orc nQF = none := rfl
theorem sQG : cfgS.fn nQG = some (⟨false, false, true⟩, qQG) := gQG
theorem iQG : cfgS.inp nQG = none := rfl
theorem eQG : cfgS.eat nQG = none := rfl
theorem lQG : cfgS.loc nQG = false := rfl
theorem yQG : cfgS.emp nQG = false := show empS nQG = false from by unfold empS; rw [if_neg (show ¬ nQG = nQm by decide)]
theorem oQG : cfgS.orc nQG = none := rfl
theorem sQH : cfgS.fn nQH = some (⟨false, false, true⟩, qQH) := gQH
theorem iQH : cfgS.inp nQH = none := rfl
theorem eQH : cfgS.eat nQH = none := rfl
theorem lQH : cfgS.loc nQH = false := rfl
theorem yQH : cfgS.emp nQH = false := show empS nQH = false from by unfold empS; rw [if_neg (show ¬ nQH = nQm by decide)]
theorem oQH : cfgS.orc nQH = none := rfl
theorem sQI : cfgS.fn nQI = some (⟨true, false, false⟩, qQI) := gQI
theorem iQI : cfgS.inp nQI = none := rfl
theorem eQI : cfgS.eat nQI = none := rfl
theorem lQI : cfgS.loc nQI = false := rfl
theorem yQI : cfgS.emp nQI = false := show empS nQI = false from by unfold empS; rw [if_neg (show ¬ nQI = nQm by decide)]
theorem oQI : cfgS.orc nQI = none := rfl
theorem sQJ : cfgS.fn nQJ = some (⟨false, false, true⟩, qQJ) := gQJ
theorem iQJ : cfgS.inp nQJ = none := rfl
theorem eQJ : cfgS.eat nQJ = none := rfl
theorem lQJ : cfgS.loc nQJ = false := rfl
theorem yQJ : cfgS.emp nQJ = false := show empS nQJ = false from by unfold empS; rw [if_neg (show ¬ nQJ = nQm by decide)]
theorem oQJ : cfgS.orc nQJ = none := rfl
theorem sQK : cfgS.fn nQK = some (⟨false, false, true⟩, qQK) := gQK
theorem iQK : cfgS.inp nQK = none := rfl
theorem eQK : cfgS.eat nQK = none := rfl
theorem lQK : cfgS.loc nQK = false := rfl
theorem yQK : cfgS.emp nQK = false := show empS nQK = false from by unfold empS; rw [if_neg (show ¬ nQK = nQm by decide)]
theorem oQK : cfgS.orc nQK = none := rfl
theorem sQL : cfgS.fn nQL = some (⟨false, false, false⟩, qQL) := gQL
theorem iQL : cfgS.inp nQL = none := rfl
theorem eQL : cfgS.eat nQL = none := rfl
theorem lQL : cfgS.loc nQL = false := rfl
theorem yQL : cfgS.emp nQL = false := show empS nQL = false from by unfold empS; rw [if_neg (show ¬ nQL = nQm by decide)]
theorem oQL : cfgS.orc nQL = none := rfl
theorem sQM : cfgS.fn nQM = some (⟨true, false, false⟩, qQM) := gQM
theorem iQM : cfgS.inp nQM = none := rfl
theorem eQM : cfgS.eat nQM = none := rfl
theorem lQM : cfgS.loc nQM = false := rfl
theorem yQM : cfgS.emp nQM = false := show empS nQM = false from by unfold empS; rw [if_neg (show ¬ nQM = nQm by decide)]
theorem oQM : cfgS.orc nQM = none := rfl
theorem sQN : cfgS.fn nQN = some (⟨false, false, false⟩, qQN) := gQN
theorem iQN : cfgS.inp nQN = none := rfl
theorem eQN : cfgS.eat nQN = none := rfl
theorem lQN : cfgS.loc nQN = false := rfl
theorem yQN : cfgS.emp nQN = false := show empS nQN = false from by unfold empS; rw [if_neg (show ¬ nQN = nQm by decide)]
theorem oQN : cfgS.orc nQN = none := rfl
theorem sQO : cfgS.fn nQO = some (⟨false, false, true⟩, qQO) := gQO
theorem iQO : cfgS.inp nQO = none := rfl
theorem eQO : cfgS.eat nQO = none := rfl
theorem lQO : cfgS.loc nQO = false := rfl
theorem yQO : cfgS.emp nQO = false := show empS nQO = false from by unfold empS; rw [if_neg (show ¬ nQO = nQm by decide)]
theorem oQO : cfgS.orc nQO = none := rfl
theorem sQP : cfgS.fn nQP = some (⟨false, false, true⟩, qQP) := gQP
theorem iQP : cfgS.inp nQP = none := rfl
theorem eQP : cfgS.eat nQP = none := rfl
theorem lQP : cfgS.loc nQP = false := rfl
theorem yQP : cfgS.emp nQP = false := show empS nQP = false from by unfold empS; rw [if_neg (show ¬ nQP = nQm by decide)]
theorem oQP : cfgS.orc nQP = none := rfl
theorem sQQ : cfgS.fn nQQ = some (⟨false, false, true⟩, qQQ) := gQQ
theorem iQQ : cfgS.inp nQQ = none := rfl
theorem eQQ : cfgS.eat nQQ = none := rfl
theorem lQQ : cfgS.loc nQQ = false := rfl
theorem yQQ : cfgS.emp nQQ = false := show empS nQQ = false from by unfold empS; rw [if_neg (show ¬ nQQ = nQm by decide)]
theorem oQQ : cfgS.orc nQQ = none := rfl
theorem sQR : cfgS.fn nQR = some (⟨true, false, false⟩, qQR) := gQR
theorem iQR : cfgS.inp nQR = none := rfl
theorem eQR : cfgS.eat nQR = none := rfl
theorem lQR : cfgS.loc nQR = false := rfl
theorem yQR : cfgS.emp nQR = false := show empS nQR = false from by unfold empS; rw [if_neg (show ¬ nQR = nQm by decide)]
theorem oQR : cfgS.orc nQR = none := rfl
theorem sQS : cfgS.fn nQS = some (⟨true, false, false⟩, qQS) := gQS
theorem iQS : cfgS.inp nQS = none := rfl
theorem eQS : cfgS.eat nQS = none := rfl
theorem lQS : cfgS.loc nQS = false := rfl
theorem yQS : cfgS.emp nQS = false := show empS nQS = false from by unfold empS; rw [if_neg (show ¬ nQS = nQm by decide)]
theorem oQS : cfgS.orc nQS = none := rfl
theorem sQT : cfgS.fn nQT = some (⟨false, false, true⟩, qQT) := gQT
theorem iQT : cfgS.inp nQT = none := rfl
theorem eQT : cfgS.eat nQT = none := rfl
theorem lQT : cfgS.loc nQT = false := rfl
theorem yQT : cfgS.emp nQT = false := show empS nQT = false from by unfold empS; rw [if_neg (show ¬ nQT = nQm by decide)]
theorem oQT : cfgS.orc nQT = none := rfl
theorem sQU : cfgS.fn nQU = some (⟨false, false, true⟩, qQU) := gQU
theorem iQU : cfgS.inp nQU = none := rfl
theorem eQU : cfgS.eat nQU = none := rfl
theorem lQU : cfgS.loc nQU = false := rfl
theorem yQU : cfgS.emp nQU = false := show empS nQU = false from by unfold empS; rw [if_neg (show ¬ nQU = nQm by decide)]
theorem oQU : cfgS.orc nQU = none := rfl
theorem sQV : cfgS.fn nQV = some (⟨false, false, false⟩, qQV) := gQV
theorem iQV : cfgS.inp nQV = none := rfl
theorem eQV : cfgS.eat nQV = none := rfl
theorem lQV : cfgS.loc nQV = false := rfl
theorem yQV : cfgS.emp nQV = false := show empS nQV = false from by unfold empS; rw [if_neg (show ¬ nQV = nQm by decide)]
theorem oQV : cfgS.orc nQV = none := rfl
theorem sQW : cfgS.fn nQW = some (⟨false, false, true⟩, qQW) := gQW
theorem oQW : cfgS.orc nQW = none := rfl
theorem sQX : cfgS.fn nQX = some (⟨false, false, true⟩, qQX) := gQX
theorem iQX : cfgS.inp nQX = none := rfl
theorem eQX : cfgS.eat nQX = none := rfl
theorem lQX : cfgS.loc nQX = false := rfl
theorem yQX : cfgS.emp nQX = false := show empS nQX = false from by unfold empS; rw [if_neg (show ¬ nQX = nQm by decide)]
theorem oQX : cfgS.orc nQX = none := rfl
theorem sQY : cfgS.fn nQY = some (⟨false, false, true⟩, qQY) := gQY
theorem iQY : cfgS.inp nQY = none := rfl
theorem eQY : cfgS.eat nQY = none := rfl
theorem lQY : cfgS.loc nQY = false := rfl
theorem yQY : cfgS.emp nQY = false := show empS nQY = false from by unfold empS; rw [if_neg (show ¬ nQY = nQm by decide)]
theorem oQY : cfgS.orc nQY = none := rfl
theorem sQZ : cfgS.fn nQZ = some (⟨false, true, true⟩, qQZ) := gQZ
theorem iQZ : cfgS.inp nQZ = none := rfl
theorem eQZ : cfgS.eat nQZ = none := rfl
theorem lQZ : cfgS.loc nQZ = false := rfl
theorem yQZ : cfgS.emp nQZ = false := show empS nQZ = false from by unfold empS; rw [if_neg (show ¬ nQZ = nQm by decide)]
theorem oQZ : cfgS.orc nQZ = some gClo := rfl
theorem sQ0 : cfgS.fn nQ0 = some (⟨false, false, true⟩, qQ0) := gQ0
theorem iQ0 : cfgS.inp nQ0 = some srtG := rfl
theorem eQ0 : cfgS.eat nQ0 = none := rfl
theorem lQ0 : cfgS.loc nQ0 = false := rfl
theorem yQ0 : cfgS.emp nQ0 = false := show empS nQ0 = false from by unfold empS; rw [if_neg (show ¬ nQ0 = nQm by decide)]
theorem sQ1 : cfgS.fn nQ1 = some (⟨false, false, false⟩, qQ1) := gQ1
theorem iQ1 : cfgS.inp nQ1 = some cptG := rfl
theorem eQ1 : cfgS.eat nQ1 = none := rfl
theorem lQ1 : cfgS.loc nQ1 = false := rfl
theorem yQ1 : cfgS.emp nQ1 = false := show empS nQ1 = false from by unfold empS; rw [if_neg (show ¬ nQ1 = nQm by decide)]
end Go.BmP
