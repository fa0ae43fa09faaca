/- The configuration with the library's functions that write into the slice they are given, and what it says of each function. -/
import Derived.Test.YtjfdniggjdnkiaaBmP
import Derived.Test.YtjfdniggjdnkiaaRunL
import Derived.Test.YtjfdniggjdnkiaaSetP
set_option maxRecDepth 100000
namespace Go.BmZ
open Go.BmP
open Go.Am Go.Bm
def inpS (_ : Nat) : Option (Nat -> List AV -> List AV -> Option (List AV × Option Nat)) := none
def orcF (_ : Nat) : Option (List AV -> Heap -> Option (AV × Heap)) := none
def cfgS : Go.Bm.Cfg := { cfg with inp := inpS, orc := orcF }
theorem cfgSOK : CfgOKB Go.Proofs.Try.prog cfgS := ⟨cfgOK.mixed, cfgOK.fn⟩
theorem locN (f : Nat) : cfgS.loc f = false := rfl
theorem empN (f : Nat) : cfgS.emp f = false := rfl
theorem eatN (f : Nat) : cfgS.eat f = none := rfl
theorem sQb : cfgS.fn nQb = some (⟨false, false, true⟩, qQb) := gQb
theorem oQb : cfgS.orc nQb = none := rfl
theorem sQc : cfgS.fn nQc = some (⟨false, false, true⟩, qQc) := gQc
theorem iQc : cfgS.inp nQc = none := rfl
theorem oQc : cfgS.orc nQc = none := rfl
theorem sQe : cfgS.fn nQe = some (⟨false, false, true⟩, qQe) := gQe
theorem iQe : cfgS.inp nQe = none := rfl
theorem sQg : cfgS.fn nQg = some (⟨true, false, false⟩, qQg) := gQg
theorem iQg : cfgS.inp nQg = none := rfl
theorem oQg : cfgS.orc nQg = none := rfl
theorem sQh : cfgS.fn nQh = some (⟨true, false, false⟩, qQh) := gQh
theorem iQh : cfgS.inp nQh = none := rfl
theorem oQh : cfgS.orc nQh = none := rfl
theorem sQi : cfgS.fn nQi = some (⟨false, false, false⟩, qQi) := gQi
theorem iQi : cfgS.inp nQi = none := rfl
theorem oQi : cfgS.orc nQi = none := rfl
theorem sQj : cfgS.fn nQj = some (⟨false, false, false⟩, qQj) := gQj
theorem iQj : cfgS.inp nQj = none := rfl
theorem oQj : cfgS.orc nQj = none := rfl
theorem sQk : cfgS.fn nQk = some (⟨false, false, true⟩, qQk) := gQk
theorem iQk : cfgS.inp nQk = none := rfl
theorem oQk : cfgS.orc nQk = none := rfl
theorem sQl : cfgS.fn nQl = some (⟨true, false, false⟩, qQl) := gQl
theorem iQl : cfgS.inp nQl = none := rfl
theorem oQl : cfgS.orc nQl = none := rfl
theorem sQm : cfgS.fn nQm = some (⟨false, false, false⟩, qQm) := gQm
theorem iQm : cfgS.inp nQm = none := rfl
theorem oQm : cfgS.orc nQm = none := rfl
theorem sQq : cfgS.fn nQq = some (⟨true, false, false⟩, qQq) := gQq
theorem iQq : cfgS.inp nQq = none := rfl
theorem oQq : cfgS.orc nQq = none := rfl
theorem sQr : cfgS.fn nQr = some (⟨false, false, true⟩, qQr) := gQr
theorem iQr : cfgS.inp nQr = none := rfl
theorem oQr : cfgS.orc nQr = none := rfl
theorem sQs : cfgS.fn nQs = some (⟨false, false, false⟩, qQs) := gQs
theorem iQs : cfgS.inp nQs = none := rfl
theorem oQs : cfgS.orc nQs = none := rfl
theorem sQu : cfgS.fn nQu = some (⟨false, false, true⟩, qQu) := gQu
theorem sQv : cfgS.fn nQv = some (⟨false, false, true⟩, qQv) := gQv
theorem iQv : cfgS.inp nQv = none := rfl
theorem oQv : cfgS.orc nQv = none := rfl
theorem sQw : cfgS.fn nQw = some (⟨false, false, false⟩, qQw) := gQw
theorem iQw : cfgS.inp nQw = none := rfl
theorem oQw : cfgS.orc nQw = none := rfl
theorem sQx : cfgS.fn nQx = some (⟨false, false, true⟩, qQx) := gQx
theorem iQx : cfgS.inp nQx = none := rfl
theorem oQx : cfgS.orc nQx = none := rfl
theorem sQy : cfgS.fn nQy = some (⟨false, false, true⟩, qQy) := gQy
theorem iQy : cfgS.inp nQy = none := rfl
theorem oQy : cfgS.orc nQy = none := rfl
theorem sQz : cfgS.fn nQz = some (⟨false, false, true⟩, qQz) := gQz
theorem iQz : cfgS.inp nQz = none := rfl
theorem oQz : cfgS.orc nQz = none := rfl
theorem sQA : cfgS.fn nQA = some (⟨false, false, false⟩, qQA) := gQA
theorem iQA : cfgS.inp nQA = none := rfl
theorem oQA : cfgS.orc nQA = none := rfl
theorem sQE : cfgS.fn nQE = some (⟨false, false, true⟩, qQE) := gQE
theorem iQE : cfgS.inp nQE = none := rfl
theorem oQE : cfgS.orc nQE = none := rfl
theorem sQF : cfgS.fn nQF = some (⟨false, false, true⟩, qQF) := gQF
theorem iQF : cfgS.inp nQF = none := rfl
theorem oQF : cfgS.orc nQF = none := rfl
theorem sQG : cfgS.fn nQG = some (⟨false, false, true⟩, qQG) := gQG
theorem iQG : cfgS.inp nQG = none := rfl
theorem oQG : cfgS.orc nQG = none := rfl
theorem sQH : cfgS.fn nQH = some (⟨false, false, false⟩, qQH) := gQH
theorem iQH : cfgS.inp nQH = none := rfl
theorem oQH : cfgS.orc nQH = none := rfl
theorem sQI : cfgS.fn nQI = some (⟨false, false, true⟩, qQI) := gQI
theorem iQI : cfgS.inp nQI = none := rfl
theorem oQI : cfgS.orc nQI = none := rfl
theorem sQJ : cfgS.fn nQJ = some (⟨false, false, false⟩, qQJ) := gQJ
theorem iQJ : cfgS.inp nQJ = none := rfl
theorem oQJ : cfgS.orc nQJ = none := rfl
theorem sQK : cfgS.fn nQK = some (⟨false, false, true⟩, qQK) := gQK
theorem iQK : cfgS.inp nQK = none := rfl
theorem sQL : cfgS.fn nQL = some (⟨false, false, false⟩, qQL) := gQL
theorem iQL : cfgS.inp nQL = none := rfl
theorem sQQ : cfgS.fn nQQ = some (⟨false, false, true⟩, qQQ) := gQQ
theorem iQQ : cfgS.inp nQQ = none := rfl
theorem oQQ : cfgS.orc nQQ = none := rfl
theorem sQR : cfgS.fn nQR = some (⟨false, false, true⟩, qQR) := gQR
theorem iQR : cfgS.inp nQR = none := rfl
theorem oQR : cfgS.orc nQR = none := rfl
theorem sQS : cfgS.fn nQS = some (⟨false, false, false⟩, qQS) := gQS
theorem iQS : cfgS.inp nQS = none := rfl
theorem oQS : cfgS.orc nQS = none := rfl
theorem sQT : cfgS.fn nQT = some (⟨false, false, true⟩, qQT) := gQT
theorem iQT : cfgS.inp nQT = none := rfl
theorem oQT : cfgS.orc nQT = none := rfl
theorem sQU : cfgS.fn nQU = some (⟨false, false, false⟩, qQU) := gQU
theorem iQU : cfgS.inp nQU = none := rfl
theorem oQU : cfgS.orc nQU = none := rfl
end Go.BmZ
