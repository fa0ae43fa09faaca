/- The configuration with the library's functions that write into the slice they are given, and what it says of each function. -/
import Derived.Test.YtkhnplbbngkjkaaBmP
import Derived.Test.YtkhnplbbngkjkaaRunL
import Derived.Test.YtkhnplbbngkjkaaSetP
import Derived.Test.YtkhnplbbngkjkaaCfP
import Derived.Test.YtkhnplbbngkjkaaDlfG
set_option maxRecDepth 100000
namespace Go.BmP
open Go.Am Go.Bm
def inpS (f : Nat) : Option (Nat → List AV → List AV → Option (List AV × Option Nat)) := if f = nQ0 then some srtG else if f = nQ1 then some cptG else if f = nQA then some (srfG cfP nQB) else none
def orcF (f : Nat) : Option (List AV → Heap → Option (AV × Heap)) := if f = nQZ then some gClo else none
def eatS (f : Nat) : Option (Nat → List AV → List AV → Option (List AV)) := if f = nQv then some (delfG nQw) else none
def cfgS : Go.Bm.Cfg := { cfg with inp := inpS, orc := orcF, eat := eatS }
theorem cfgSOK : CfgOKB Go.Proofs.Try.prog cfgS := ⟨cfgOK.mixed, cfgOK.fn⟩
theorem locN (f : Nat) : cfgS.loc f = false := rfl
theorem sQa : cfgS.fn nQa = some (⟨false, false, true⟩, qQa) := gQa
theorem oQa : cfgS.orc nQa = none := show orcF nQa = none from by unfold orcF; rw [if_neg (show ¬ nQa = nQZ by decide)]
theorem sQc : cfgS.fn nQc = some (⟨false, false, true⟩, qQc) := gQc
theorem iQc : cfgS.inp nQc = none := show inpS nQc = none from by unfold inpS; rw [if_neg (show ¬ nQc = nQ0 by decide), if_neg (show ¬ nQc = nQ1 by decide), if_neg (show ¬ nQc = nQA by decide)]
theorem eQc : cfgS.eat nQc = none := show eatS nQc = none from by unfold eatS; rw [if_neg (show ¬ nQc = nQv by decide)]
theorem oQc : cfgS.orc nQc = none := show orcF nQc = none from by unfold orcF; rw [if_neg (show ¬ nQc = nQZ by decide)]
theorem sQd : cfgS.fn nQd = some (⟨false, false, true⟩, qQd) := gQd
theorem iQd : cfgS.inp nQd = none := show inpS nQd = none from by unfold inpS; rw [if_neg (show ¬ nQd = nQ0 by decide), if_neg (show ¬ nQd = nQ1 by decide), if_neg (show ¬ nQd = nQA by decide)]
theorem eQd : cfgS.eat nQd = none := show eatS nQd = none from by unfold eatS; rw [if_neg (show ¬ nQd = nQv by decide)]
theorem sQe : cfgS.fn nQe = some (⟨true, false, false⟩, qQe) := gQe
theorem iQe : cfgS.inp nQe = none := show inpS nQe = none from by unfold inpS; rw [if_neg (show ¬ nQe = nQ0 by decide), if_neg (show ¬ nQe = nQ1 by decide), if_neg (show ¬ nQe = nQA by decide)]
theorem eQe : cfgS.eat nQe = none := show eatS nQe = none from by unfold eatS; rw [if_neg (show ¬ nQe = nQv by decide)]
theorem oQe : cfgS.orc nQe = none := show orcF nQe = none from by unfold orcF; rw [if_neg (show ¬ nQe = nQZ by decide)]
theorem sQf : cfgS.fn nQf = some (⟨true, false, false⟩, qQf) := gQf
theorem iQf : cfgS.inp nQf = none := show inpS nQf = none from by unfold inpS; rw [if_neg (show ¬ nQf = nQ0 by decide), if_neg (show ¬ nQf = nQ1 by decide), if_neg (show ¬ nQf = nQA by decide)]
theorem eQf : cfgS.eat nQf = none := show eatS nQf = none from by unfold eatS; rw [if_neg (show ¬ nQf = nQv by decide)]
theorem oQf : cfgS.orc nQf = none := show orcF nQf = none from by unfold orcF; rw [if_neg (show ¬ nQf = nQZ by decide)]
theorem sQg : cfgS.fn nQg = some (⟨true, false, false⟩, qQg) := gQg
theorem iQg : cfgS.inp nQg = none := show inpS nQg = none from by unfold inpS; rw [if_neg (show ¬ nQg = nQ0 by decide), if_neg (show ¬ nQg = nQ1 by decide), if_neg (show ¬ nQg = nQA by decide)]
theorem eQg : cfgS.eat nQg = none := show eatS nQg = none from by unfold eatS; rw [if_neg (show ¬ nQg = nQv by decide)]
theorem oQg : cfgS.orc nQg = none := show orcF nQg = none from by unfold orcF; rw [if_neg (show ¬ nQg = nQZ by decide)]
theorem sQh : cfgS.fn nQh = some (⟨false, false, false⟩, qQh) := gQh
theorem iQh : cfgS.inp nQh = none := show inpS nQh = none from by unfold inpS; rw [if_neg (show ¬ nQh = nQ0 by decide), if_neg (show ¬ nQh = nQ1 by decide), if_neg (show ¬ nQh = nQA by decide)]
theorem eQh : cfgS.eat nQh = none := show eatS nQh = none from by unfold eatS; rw [if_neg (show ¬ nQh = nQv by decide)]
theorem oQh : cfgS.orc nQh = none := show orcF nQh = none from by unfold orcF; rw [if_neg (show ¬ nQh = nQZ by decide)]
theorem sQi : cfgS.fn nQi = some (⟨false, false, false⟩, qQi) := gQi
theorem iQi : cfgS.inp nQi = none := show inpS nQi = none from by unfold inpS; rw [if_neg (show ¬ nQi = nQ0 by decide), if_neg (show ¬ nQi = nQ1 by decide), if_neg (show ¬ nQi = nQA by decide)]
theorem eQi : cfgS.eat nQi = none := show eatS nQi = none from by unfold eatS; rw [if_neg (show ¬ nQi = nQv by decide)]
theorem oQi : cfgS.orc nQi = none := show orcF nQi = none from by unfold orcF; rw [if_neg (show ¬ nQi = nQZ by decide)]
theorem sQj : cfgS.fn nQj = some (⟨false, false, true⟩, qQj) := gQj
theorem iQj : cfgS.inp nQj = none := show inpS nQj = none from by unfold inpS; rw [if_neg (show ¬ nQj = nQ0 by decide), if_neg (show ¬ nQj = nQ1 by decide), if_neg (show ¬ nQj = nQA by decide)]
theorem eQj : cfgS.eat nQj = none := show eatS nQj = none from by unfold eatS; rw [if_neg (show ¬ nQj = nQv by decide)]
theorem oQj : cfgS.orc nQj = none := show orcF nQj = none from by unfold orcF; rw [if_neg (show ¬ nQj = nQZ by decide)]
theorem sQk : cfgS.fn nQk = some (⟨false, false, false⟩, qQk) := gQk
theorem iQk : cfgS.inp nQk = none := show inpS nQk = none from by unfold inpS; rw [if_neg (show ¬ nQk = nQ0 by decide), if_neg (show ¬ nQk = nQ1 by decide), if_neg (show ¬ nQk = nQA by decide)]
theorem eQk : cfgS.eat nQk = none := show eatS nQk = none from by unfold eatS; rw [if_neg (show ¬ nQk = nQv by decide)]
theorem oQk : cfgS.orc nQk = none := show orcF nQk = none from by unfold orcF; rw [if_neg (show ¬ nQk = nQZ by decide)]
theorem sQn : cfgS.fn nQn = some (⟨true, false, false⟩, qQn) := gQn
theorem iQn : cfgS.inp nQn = none := show inpS nQn = none from by unfold inpS; rw [if_neg (show ¬ nQn = nQ0 by decide), if_neg (show ¬ nQn = nQ1 by decide), if_neg (show ¬ nQn = nQA by decide)]
theorem eQn : cfgS.eat nQn = none := show eatS nQn = none from by unfold eatS; rw [if_neg (show ¬ nQn = nQv by decide)]
theorem oQn : cfgS.orc nQn = none := show orcF nQn = none from by unfold orcF; rw [if_neg (show ¬ nQn = nQZ by decide)]
theorem sQq : cfgS.fn nQq = some (⟨true, false, false⟩, qQq) := gQq
theorem iQq : cfgS.inp nQq = none := show inpS nQq = none from by unfold inpS; rw [if_neg (show ¬ nQq = nQ0 by decide), if_neg (show ¬ nQq = nQ1 by decide), if_neg (show ¬ nQq = nQA by decide)]
theorem eQq : cfgS.eat nQq = none := show eatS nQq = none from by unfold eatS; rw [if_neg (show ¬ nQq = nQv by decide)]
theorem oQq : cfgS.orc nQq = none := show orcF nQq = none from by unfold orcF; rw [if_neg (show ¬ nQq = nQZ by decide)]
theorem sQr : cfgS.fn nQr = some (⟨true, false, false⟩, qQr) := gQr
theorem iQr : cfgS.inp nQr = none := show inpS nQr = none from by unfold inpS; rw [if_neg (show ¬ nQr = nQ0 by decide), if_neg (show ¬ nQr = nQ1 by decide), if_neg (show ¬ nQr = nQA by decide)]
theorem eQr : cfgS.eat nQr = none := show eatS nQr = none from by unfold eatS; rw [if_neg (show ¬ nQr = nQv by decide)]
theorem oQr : cfgS.orc nQr = none := show orcF nQr = none from by unfold orcF; rw [if_neg (show ¬ nQr = nQZ by decide)]
theorem sQs : cfgS.fn nQs = some (⟨false, false, true⟩, qQs) := gQs
theorem iQs : cfgS.inp nQs = none := show inpS nQs = none from by unfold inpS; rw [if_neg (show ¬ nQs = nQ0 by decide), if_neg (show ¬ nQs = nQ1 by decide), if_neg (show ¬ nQs = nQA by decide)]
theorem eQs : cfgS.eat nQs = none := show eatS nQs = none from by unfold eatS; rw [if_neg (show ¬ nQs = nQv by decide)]
theorem oQs : cfgS.orc nQs = none := show orcF nQs = none from by unfold orcF; rw [if_neg (show ¬ nQs = nQZ by decide)]
theorem sQt : cfgS.fn nQt = some (⟨false, false, true⟩, qQt) := gQt
theorem iQt : cfgS.inp nQt = none := show inpS nQt = none from by unfold inpS; rw [if_neg (show ¬ nQt = nQ0 by decide), if_neg (show ¬ nQt = nQ1 by decide), if_neg (show ¬ nQt = nQA by decide)]
theorem eQt : cfgS.eat nQt = none := show eatS nQt = none from by unfold eatS; rw [if_neg (show ¬ nQt = nQv by decide)]
theorem oQt : cfgS.orc nQt = none := show orcF nQt = none from by unfold orcF; rw [if_neg (show ¬ nQt = nQZ by decide)]
theorem sQu : cfgS.fn nQu = some (⟨false, false, false⟩, qQu) := gQu
theorem iQu : cfgS.inp nQu = none := show inpS nQu = none from by unfold inpS; rw [if_neg (show ¬ nQu = nQ0 by decide), if_neg (show ¬ nQu = nQ1 by decide), if_neg (show ¬ nQu = nQA by decide)]
theorem eQu : cfgS.eat nQu = none := show eatS nQu = none from by unfold eatS; rw [if_neg (show ¬ nQu = nQv by decide)]
theorem oQu : cfgS.orc nQu = none := show orcF nQu = none from by unfold orcF; rw [if_neg (show ¬ nQu = nQZ by decide)]
theorem sQv : cfgS.fn nQv = some (⟨false, false, false⟩, qQv) := gQv
theorem iQv : cfgS.inp nQv = none := show inpS nQv = none from by unfold inpS; rw [if_neg (show ¬ nQv = nQ0 by decide), if_neg (show ¬ nQv = nQ1 by decide), if_neg (show ¬ nQv = nQA by decide)]
theorem eQv : cfgS.eat nQv = some (delfG nQw) := show eatS nQv = some (delfG nQw) from by unfold eatS; rw [if_pos rfl]
theorem sQx : cfgS.fn nQx = some (⟨false, false, false⟩, qQx) := gQx
theorem iQx : cfgS.inp nQx = none := show inpS nQx = none from by unfold inpS; rw [if_neg (show ¬ nQx = nQ0 by decide), if_neg (show ¬ nQx = nQ1 by decide), if_neg (show ¬ nQx = nQA by decide)]
theorem eQx : cfgS.eat nQx = none := show eatS nQx = none from by unfold eatS; rw [if_neg (show ¬ nQx = nQv by decide)]
theorem oQx : cfgS.orc nQx = none := show orcF nQx = none from by unfold orcF; rw [if_neg (show ¬ nQx = nQZ by decide)]
theorem sQz : cfgS.fn nQz = some (⟨false, false, true⟩, qQz) := gQz
theorem iQz : cfgS.inp nQz = none := show inpS nQz = none from by unfold inpS; rw [if_neg (show ¬ nQz = nQ0 by decide), if_neg (show ¬ nQz = nQ1 by decide), if_neg (show ¬ nQz = nQA by decide)]
theorem eQz : cfgS.eat nQz = none := show eatS nQz = none from by unfold eatS; rw [if_neg (show ¬ nQz = nQv by decide)]
theorem oQz : cfgS.orc nQz = none := show orcF nQz = none from by unfold orcF; rw [if_neg (show ¬ nQz = nQZ by decide)]
theorem sQA : cfgS.fn nQA = some (⟨false, false, true⟩, qQA) := gQA
theorem sQB : cfgS.fn nQB = some (⟨false, false, true⟩, qQB) := gQB
theorem oQB : cfgS.orc nQB = none := show orcF nQB = none from by unfold orcF; rw [if_neg (show ¬ nQB = nQZ by decide)]
theorem sQC : cfgS.fn nQC = some (⟨false, false, true⟩, qQC) := gQC
theorem iQC : cfgS.inp nQC = none := show inpS nQC = none from by unfold inpS; rw [if_neg (show ¬ nQC = nQ0 by decide), if_neg (show ¬ nQC = nQ1 by decide), if_neg (show ¬ nQC = nQA by decide)]
theorem eQC : cfgS.eat nQC = none := show eatS nQC = none from by unfold eatS; rw [if_neg (show ¬ nQC = nQv by decide)]
theorem oQC : cfgS.orc nQC = none := show orcF nQC = none from by unfold orcF; rw [if_neg (show ¬ nQC = nQZ by decide)]
theorem sQD : cfgS.fn nQD = some (⟨false, false, true⟩, qQD) := gQD
theorem iQD : cfgS.inp nQD = none := show inpS nQD = none from by unfold inpS; rw [if_neg (show ¬ nQD = nQ0 by decide), if_neg (show ¬ nQD = nQ1 by decide), if_neg (show ¬ nQD = nQA by decide)]
theorem eQD : cfgS.eat nQD = none := show eatS nQD = none from by unfold eatS; rw [if_neg (show ¬ nQD = nQv by decide)]
theorem oQD : cfgS.orc nQD = none := show orcF nQD = none from by unfold orcF; rw [if_neg (show ¬ nQD = nQZ by decide)]
theorem sQG : cfgS.fn nQG = some (⟨false, false, true⟩, qQG) := gQG
theorem iQG : cfgS.inp nQG = none := show inpS nQG = none from by unfold inpS; rw [if_neg (show ¬ nQG = nQ0 by decide), if_neg (show ¬ nQG = nQ1 by decide), if_neg (show ¬ nQG = nQA by decide)]
theorem eQG : cfgS.eat nQG = none := show eatS nQG = none from by unfold eatS; rw [if_neg (show ¬ nQG = nQv by decide)]
theorem oQG : cfgS.orc nQG = none := show orcF nQG = none from by unfold orcF; rw [if_neg (show ¬ nQG = nQZ by decide)]
theorem sQI : cfgS.fn nQI = some (⟨true, false, false⟩, qQI) := gQI
theorem iQI : cfgS.inp nQI = none := show inpS nQI = none from by unfold inpS; rw [if_neg (show ¬ nQI = nQ0 by decide), if_neg (show ¬ nQI = nQ1 by decide), if_neg (show ¬ nQI = nQA by decide)]
theorem eQI : cfgS.eat nQI = none := show eatS nQI = none from by unfold eatS; rw [if_neg (show ¬ nQI = nQv by decide)]
theorem oQI : cfgS.orc nQI = none := show orcF nQI = none from by unfold orcF; rw [if_neg (show ¬ nQI = nQZ by decide)]
theorem sQJ : cfgS.fn nQJ = some (⟨false, false, true⟩, qQJ) := gQJ
theorem iQJ : cfgS.inp nQJ = none := show inpS nQJ = none from by unfold inpS; rw [if_neg (show ¬ nQJ = nQ0 by decide), if_neg (show ¬ nQJ = nQ1 by decide), if_neg (show ¬ nQJ = nQA by decide)]
theorem eQJ : cfgS.eat nQJ = none := show eatS nQJ = none from by unfold eatS; rw [if_neg (show ¬ nQJ = nQv by decide)]
theorem oQJ : cfgS.orc nQJ = none := show orcF nQJ = none from by unfold orcF; rw [if_neg (show ¬ nQJ = nQZ by decide)]
theorem sQK : cfgS.fn nQK = some (⟨false, false, true⟩, qQK) := gQK
theorem iQK : cfgS.inp nQK = none := show inpS nQK = none from by unfold inpS; rw [if_neg (show ¬ nQK = nQ0 by decide), if_neg (show ¬ nQK = nQ1 by decide), if_neg (show ¬ nQK = nQA by decide)]
theorem eQK : cfgS.eat nQK = none := show eatS nQK = none from by unfold eatS; rw [if_neg (show ¬ nQK = nQv by decide)]
theorem oQK : cfgS.orc nQK = none := show orcF nQK = none from by unfold orcF; rw [if_neg (show ¬ nQK = nQZ by decide)]
theorem sQL : cfgS.fn nQL = some (⟨false, false, false⟩, qQL) := gQL
theorem iQL : cfgS.inp nQL = none := show inpS nQL = none from by unfold inpS; rw [if_neg (show ¬ nQL = nQ0 by decide), if_neg (show ¬ nQL = nQ1 by decide), if_neg (show ¬ nQL = nQA by decide)]
theorem eQL : cfgS.eat nQL = none := show eatS nQL = none from by unfold eatS; rw [if_neg (show ¬ nQL = nQv by decide)]
theorem oQL : cfgS.orc nQL = none := show orcF nQL = none from by unfold orcF; rw [if_neg (show ¬ nQL = nQZ by decide)]
theorem sQM : cfgS.fn nQM = some (⟨true, false, false⟩, qQM) := gQM
theorem iQM : cfgS.inp nQM = none := show inpS nQM = none from by unfold inpS; rw [if_neg (show ¬ nQM = nQ0 by decide), if_neg (show ¬ nQM = nQ1 by decide), if_neg (show ¬ nQM = nQA by decide)]
theorem eQM : cfgS.eat nQM = none := show eatS nQM = none from by unfold eatS; rw [if_neg (show ¬ nQM = nQv by decide)]
theorem oQM : cfgS.orc nQM = none := show orcF nQM = none from by unfold orcF; rw [if_neg (show ¬ nQM = nQZ by decide)]
theorem sQP : cfgS.fn nQP = some (⟨false, false, true⟩, qQP) := gQP
theorem iQP : cfgS.inp nQP = none := show inpS nQP = none from by unfold inpS; rw [if_neg (show ¬ nQP = nQ0 by decide), if_neg (show ¬ nQP = nQ1 by decide), if_neg (show ¬ nQP = nQA by decide)]
theorem eQP : cfgS.eat nQP = none := show eatS nQP = none from by unfold eatS; rw [if_neg (show ¬ nQP = nQv by decide)]
theorem oQP : cfgS.orc nQP = none := show orcF nQP = none from by unfold orcF; rw [if_neg (show ¬ nQP = nQZ by decide)]
theorem sQQ : cfgS.fn nQQ = some (⟨false, false, true⟩, qQQ) := gQQ
theorem iQQ : cfgS.inp nQQ = none := show inpS nQQ = none from by unfold inpS; rw [if_neg (show ¬ nQQ = nQ0 by decide), if_neg (show ¬ nQQ = nQ1 by decide), if_neg (show ¬ nQQ = nQA by decide)]
theorem eQQ : cfgS.eat nQQ = none := show eatS nQQ = none from by unfold eatS; rw [if_neg (show ¬ nQQ = nQv by decide)]
theorem oQQ : cfgS.orc nQQ = none := show orcF nQQ = none from by unfold orcF; rw [if_neg (show ¬ nQQ = nQZ by decide)]
theorem sQR : cfgS.fn nQR = some (⟨true, false, false⟩, qQR) := gQR
theorem iQR : cfgS.inp nQR = none := show inpS nQR = none from by unfold inpS; rw [if_neg (show ¬ nQR = nQ0 by decide), if_neg (show ¬ nQR = nQ1 by decide), if_neg (show ¬ nQR = nQA by decide)]
theorem eQR : cfgS.eat nQR = none := show eatS nQR = none from by unfold eatS; rw [if_neg (show ¬ nQR = nQv by decide)]
theorem oQR : cfgS.orc nQR = none := show orcF nQR = none from by unfold orcF; rw [if_neg (show ¬ nQR = nQZ by decide)]
theorem sQS : cfgS.fn nQS = some (⟨true, false, false⟩, qQS) := gQS
theorem iQS : cfgS.inp nQS = none := show inpS nQS = none from by unfold inpS; rw [if_neg (show ¬ nQS = nQ0 by decide), if_neg (show ¬ nQS = nQ1 by decide), if_neg (show ¬ nQS = nQA by decide)]
theorem eQS : cfgS.eat nQS = none := show eatS nQS = none from by unfold eatS; rw [if_neg (show ¬ nQS = nQv by decide)]
theorem oQS : cfgS.orc nQS = none := show orcF nQS = none from by unfold orcF; rw [if_neg (show ¬ nQS = nQZ by decide)]
theorem sQT : cfgS.fn nQT = some (⟨false, false, true⟩, qQT) := gQT
theorem iQT : cfgS.inp nQT = none := show inpS nQT = none from by unfold inpS; rw [if_neg (show ¬ nQT = nQ0 by decide), if_neg (show ¬ nQT = nQ1 by decide), if_neg (show ¬ nQT = nQA by decide)]
theorem eQT : cfgS.eat nQT = none := show eatS nQT = none from by unfold eatS; rw [if_neg (show ¬ nQT = nQv by decide)]
theorem oQT : cfgS.orc nQT = none := show orcF nQT = none from by unfold orcF; rw [if_neg (show ¬ nQT = nQZ by decide)]
theorem sQU : cfgS.fn nQU = some (⟨false, false, true⟩, qQU) := gQU
theorem iQU : cfgS.inp nQU = none := show inpS nQU = none from by unfold inpS; rw [if_neg (show ¬ nQU = nQ0 by decide), if_neg (show ¬ nQU = nQ1 by decide), if_neg (show ¬ nQU = nQA by decide)]
theorem eQU : cfgS.eat nQU = none := show eatS nQU = none from by unfold eatS; rw [if_neg (show ¬ nQU = nQv by decide)]
theorem oQU : cfgS.orc nQU = none := show orcF nQU = none from by unfold orcF; rw [if_neg (show ¬ nQU = nQZ by decide)]
theorem sQV : cfgS.fn nQV = some (⟨false, false, false⟩, qQV) := gQV
theorem iQV : cfgS.inp nQV = none := show inpS nQV = none from by unfold inpS; rw [if_neg (show ¬ nQV = nQ0 by decide), if_neg (show ¬ nQV = nQ1 by decide), if_neg (show ¬ nQV = nQA by decide)]
theorem eQV : cfgS.eat nQV = none := show eatS nQV = none from by unfold eatS; rw [if_neg (show ¬ nQV = nQv by decide)]
theorem oQV : cfgS.orc nQV = none := show orcF nQV = none from by unfold orcF; rw [if_neg (show ¬ nQV = nQZ by decide)]
theorem sQW : cfgS.fn nQW = some (⟨false, false, true⟩, qQW) := gQW
theorem oQW : cfgS.orc nQW = none := show orcF nQW = none from by unfold orcF; rw [if_neg (show ¬ nQW = nQZ by decide)]
theorem sQY : cfgS.fn nQY = some (⟨false, false, true⟩, qQY) := gQY
theorem iQY : cfgS.inp nQY = none := show inpS nQY = none from by unfold inpS; rw [if_neg (show ¬ nQY = nQ0 by decide), if_neg (show ¬ nQY = nQ1 by decide), if_neg (show ¬ nQY = nQA by decide)]
theorem eQY : cfgS.eat nQY = none := show eatS nQY = none from by unfold eatS; rw [if_neg (show ¬ nQY = nQv by decide)]
theorem oQY : cfgS.orc nQY = none := show orcF nQY = none from by unfold orcF; rw [if_neg (show ¬ nQY = nQZ by decide)]
theorem sQZ : cfgS.fn nQZ = some (⟨false, true, true⟩, qQZ) := gQZ
theorem iQZ : cfgS.inp nQZ = none := show inpS nQZ = none from by unfold inpS; rw [if_neg (show ¬ nQZ = nQ0 by decide), if_neg (show ¬ nQZ = nQ1 by decide), if_neg (show ¬ nQZ = nQA by decide)]
theorem eQZ : cfgS.eat nQZ = none := show eatS nQZ = none from by unfold eatS; rw [if_neg (show ¬ nQZ = nQv by decide)]
theorem oQZ : cfgS.orc nQZ = some gClo := show orcF nQZ = some gClo from by unfold orcF; rw [if_pos rfl]
theorem sQ0 : cfgS.fn nQ0 = some (⟨false, false, true⟩, qQ0) := gQ0
theorem iQ0 : cfgS.inp nQ0 = some srtG := show inpS nQ0 = some srtG from by unfold inpS; rw [if_pos rfl]
theorem eQ0 : cfgS.eat nQ0 = none := show eatS nQ0 = none from by unfold eatS; rw [if_neg (show ¬ nQ0 = nQv by decide)]
theorem sQ1 : cfgS.fn nQ1 = some (⟨false, false, false⟩, qQ1) := gQ1
theorem iQ1 : cfgS.inp nQ1 = some cptG := show inpS nQ1 = some cptG from by unfold inpS; rw [if_neg (show ¬ nQ1 = nQ0 by decide), if_pos rfl]
theorem eQ1 : cfgS.eat nQ1 = none := show eatS nQ1 = none from by unfold eatS; rw [if_neg (show ¬ nQ1 = nQv by decide)]
end Go.BmP
