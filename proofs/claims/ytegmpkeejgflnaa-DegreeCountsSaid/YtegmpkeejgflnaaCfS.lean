/- The configuration with the library's functions that write into the slice they are given, and what it says of each function. -/
import Derived.Test.YtegmpkeejgflnaaBmP
import Derived.Test.YtegmpkeejgflnaaRunL
import Derived.Test.YtegmpkeejgflnaaSetP
import Derived.Test.YtegmpkeejgflnaaCloI
import Derived.Test.YtegmpkeejgflnaaDgG
import Derived.Test.YtegmpkeejgflnaaRvG
set_option maxRecDepth 100000
namespace Go.BmP
open Go.Am Go.Bm
def inpS (f : Nat) : Option (Nat -> List AV -> List AV -> Option (List AV × Option Nat)) := if f = nQu then some srtG else if f = nQv then some rvG else none
def orcF (f : Nat) : Option (List AV -> Heap -> Option (AV × Heap)) := if f = nQx then some gCloW else if f = nQn then some gDg else none
def locS (f : Nat) : Bool := if f = nQc then true else false
def cfgS : Go.Bm.Cfg := { cfg with inp := inpS, orc := orcF, loc := locS }
theorem cfgSOK : CfgOKB Go.Proofs.Try.prog cfgS := ⟨cfgOK.mixed, cfgOK.fn⟩
theorem empN (f : Nat) : cfgS.emp f = false := rfl
theorem movN (f : Nat) : cfgS.mov f = none := rfl
theorem eatN (f : Nat) : cfgS.eat f = none := rfl
theorem sQa : cfgS.fn nQa = some (⟨false, false, true⟩, qQa) := gQa
theorem oQa : cfgS.orc nQa = none := rfl
theorem sQb : cfgS.fn nQb = some (⟨false, false, true⟩, qQb) := gQb
theorem iQb : cfgS.inp nQb = none := rfl
theorem lQb : cfgS.loc nQb = false := rfl
theorem sQc : cfgS.fn nQc = some (⟨true, false, false⟩, qQc) := gQc
theorem iQc : cfgS.inp nQc = none := rfl
theorem lQc : cfgS.loc nQc = true := rfl
theorem oQc : cfgS.orc nQc = none := rfl
theorem sQd : cfgS.fn nQd = some (⟨true, false, false⟩, qQd) := gQd
theorem iQd : cfgS.inp nQd = none := rfl
theorem lQd : cfgS.loc nQd = false := rfl
theorem oQd : cfgS.orc nQd = none := rfl
theorem sQe : cfgS.fn nQe = some (⟨true, true, false⟩, qQe) := gQe
theorem iQe : cfgS.inp nQe = none := rfl
theorem lQe : cfgS.loc nQe = false := rfl
theorem oQe : cfgS.orc nQe = none := rfl
theorem sQf : cfgS.fn nQf = some (⟨false, false, false⟩, qQf) := gQf
theorem iQf : cfgS.inp nQf = none := rfl
theorem lQf : cfgS.loc nQf = false := rfl
theorem oQf : cfgS.orc nQf = none := rfl
theorem sQg : cfgS.fn nQg = some (⟨false, false, false⟩, qQg) := gQg
theorem iQg : cfgS.inp nQg = none := rfl
theorem lQg : cfgS.loc nQg = false := rfl
theorem oQg : cfgS.orc nQg = none := rfl
theorem sQh : cfgS.fn nQh = some (⟨false, false, false⟩, qQh) := gQh
theorem iQh : cfgS.inp nQh = none := rfl
theorem lQh : cfgS.loc nQh = false := rfl
theorem oQh : cfgS.orc nQh = none := rfl
theorem sQi : cfgS.fn nQi = some (⟨false, false, false⟩, qQi) := gQi
theorem iQi : cfgS.inp nQi = none := rfl
theorem lQi : cfgS.loc nQi = false := rfl
theorem oQi : cfgS.orc nQi = none := rfl
theorem sQj : cfgS.fn nQj = some (⟨false, false, false⟩, qQj) := gQj
theorem iQj : cfgS.inp nQj = none := rfl
theorem lQj : cfgS.loc nQj = false := rfl
theorem oQj : cfgS.orc nQj = none := rfl
theorem sQk : cfgS.fn nQk = some (⟨false, false, true⟩, qQk) := gQk
theorem iQk : cfgS.inp nQk = none := rfl
theorem lQk : cfgS.loc nQk = false := rfl
theorem oQk : cfgS.orc nQk = none := rfl
theorem sQl : cfgS.fn nQl = some (⟨false, false, true⟩, qQl) := gQl
theorem iQl : cfgS.inp nQl = none := rfl
theorem lQl : cfgS.loc nQl = false := rfl
theorem oQl : cfgS.orc nQl = none := rfl
theorem sQm : cfgS.fn nQm = some (⟨false, false, true⟩, qQm) := gQm
theorem iQm : cfgS.inp nQm = none := rfl
theorem lQm : cfgS.loc nQm = false := rfl
theorem oQm : cfgS.orc nQm = none := rfl
theorem sQo : cfgS.fn nQo = some (⟨true, false, false⟩, qQo) := gQo
theorem iQo : cfgS.inp nQo = none := rfl
theorem lQo : cfgS.loc nQo = false := rfl
theorem oQo : cfgS.orc nQo = none := rfl
theorem sQp : cfgS.fn nQp = some (⟨false, false, true⟩, qQp) := gQp
theorem iQp : cfgS.inp nQp = none := rfl
theorem lQp : cfgS.loc nQp = false := rfl
theorem oQp : cfgS.orc nQp = none := rfl
theorem sQq : cfgS.fn nQq = some (⟨false, false, false⟩, qQq) := gQq
theorem iQq : cfgS.inp nQq = none := rfl
theorem lQq : cfgS.loc nQq = false := rfl
theorem oQq : cfgS.orc nQq = none := rfl
theorem sQr : cfgS.fn nQr = some (⟨false, false, true⟩, qQr) := gQr
theorem iQr : cfgS.inp nQr = none := rfl
theorem lQr : cfgS.loc nQr = false := rfl
theorem oQr : cfgS.orc nQr = none := rfl
theorem sQs : cfgS.fn nQs = some (⟨false, false, true⟩, qQs) := gQs
theorem iQs : cfgS.inp nQs = none := rfl
theorem lQs : cfgS.loc nQs = false := rfl
theorem oQs : cfgS.orc nQs = none := rfl
theorem sQt : cfgS.fn nQt = some (⟨false, false, true⟩, qQt) := gQt
theorem iQt : cfgS.inp nQt = none := rfl
theorem lQt : cfgS.loc nQt = false := rfl
theorem oQt : cfgS.orc nQt = none := rfl
theorem sQu : cfgS.fn nQu = some (⟨false, false, true⟩, qQu) := gQu
theorem iQu : cfgS.inp nQu = some srtG := rfl
theorem lQu : cfgS.loc nQu = false := rfl
theorem sQv : cfgS.fn nQv = some (⟨false, false, true⟩, qQv) := gQv
theorem iQv : cfgS.inp nQv = some rvG := rfl
theorem lQv : cfgS.loc nQv = false := rfl
theorem sQw : cfgS.fn nQw = some (⟨false, false, false⟩, qQw) := gQw
theorem iQw : cfgS.inp nQw = none := rfl
theorem lQw : cfgS.loc nQw = false := rfl
theorem oQw : cfgS.orc nQw = none := rfl
theorem sQx : cfgS.fn nQx = some (⟨false, true, true⟩, qQx) := gQx
theorem iQx : cfgS.inp nQx = none := rfl
theorem lQx : cfgS.loc nQx = false := rfl
theorem oQx : cfgS.orc nQx = some gCloW := rfl
theorem sQy : cfgS.fn nQy = some (⟨false, false, true⟩, qQy) := gQy
theorem iQy : cfgS.inp nQy = none := rfl
theorem lQy : cfgS.loc nQy = false := rfl
theorem oQy : cfgS.orc nQy = none := rfl
theorem sQz : cfgS.fn nQz = some (⟨false, false, true⟩, qQz) := gQz
theorem iQz : cfgS.inp nQz = none := rfl
theorem lQz : cfgS.loc nQz = false := rfl
theorem oQz : cfgS.orc nQz = none := rfl
theorem sQA : cfgS.fn nQA = some (⟨false, false, true⟩, qQA) := gQA
theorem iQA : cfgS.inp nQA = none := rfl
theorem lQA : cfgS.loc nQA = false := rfl
theorem oQA : cfgS.orc nQA = none := rfl
theorem sQB : cfgS.fn nQB = some (⟨false, false, true⟩, qQB) := gQB
theorem iQB : cfgS.inp nQB = none := rfl
theorem lQB : cfgS.loc nQB = false := rfl
theorem oQB : cfgS.orc nQB = none := rfl
theorem sQC : cfgS.fn nQC = some (⟨false, false, true⟩, qQC) := gQC
theorem iQC : cfgS.inp nQC = none := rfl
theorem lQC : cfgS.loc nQC = false := rfl
theorem oQC : cfgS.orc nQC = none := rfl
theorem sQD : cfgS.fn nQD = some (⟨false, false, true⟩, qQD) := gQD
theorem iQD : cfgS.inp nQD = none := rfl
theorem lQD : cfgS.loc nQD = false := rfl
theorem oQD : cfgS.orc nQD = none := rfl
theorem sQE : cfgS.fn nQE = some (⟨false, false, false⟩, qQE) := gQE
theorem iQE : cfgS.inp nQE = none := rfl
theorem lQE : cfgS.loc nQE = false := rfl
theorem oQE : cfgS.orc nQE = none := rfl
theorem sQF : cfgS.fn nQF = some (⟨false, false, true⟩, qQF) := gQF
theorem iQF : cfgS.inp nQF = none := rfl
theorem lQF : cfgS.loc nQF = false := rfl
theorem oQF : cfgS.orc nQF = none := rfl
theorem sQG : cfgS.fn nQG = some (⟨false, false, true⟩, qQG) := gQG
theorem iQG : cfgS.inp nQG = none := rfl
theorem lQG : cfgS.loc nQG = false := rfl
theorem oQG : cfgS.orc nQG = none := rfl
theorem sQH : cfgS.fn nQH = some (⟨false, false, false⟩, qQH) := gQH
theorem iQH : cfgS.inp nQH = none := rfl
theorem lQH : cfgS.loc nQH = false := rfl
theorem oQH : cfgS.orc nQH = none := rfl
theorem sQI : cfgS.fn nQI = some (⟨false, false, true⟩, qQI) := gQI
theorem iQI : cfgS.inp nQI = none := rfl
theorem lQI : cfgS.loc nQI = false := rfl
theorem oQI : cfgS.orc nQI = none := rfl
theorem sQJ : cfgS.fn nQJ = some (⟨false, false, false⟩, qQJ) := gQJ
theorem iQJ : cfgS.inp nQJ = none := rfl
theorem lQJ : cfgS.loc nQJ = false := rfl
theorem oQJ : cfgS.orc nQJ = none := rfl
end Go.BmP
