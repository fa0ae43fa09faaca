/- The configuration with the library's functions that write into the slice they are given, and what it says of each function. -/
import Derived.Test.YtmjjimilhllnoaaGreatDoorBmP
import Derived.Test.YtmjjimilhllnoaaGreatDoorRunL
import Derived.Test.YtmjjimilhllnoaaGreatDoorSetP
import Derived.Test.YtmjjimilhllnoaaGreatDoorCloI
set_option maxRecDepth 100000
namespace Go.BmP
open Go.Am Go.Bm
def inpS (f : Nat) : Option (Nat -> List AV -> List AV -> Option (List AV × Option Nat)) := if f = nQz then some srtG else none
def orcF (f : Nat) : Option (List AV -> Heap -> Option (AV × Heap)) := if f = nQs then some gCloW else none
def cfgS : Go.Bm.Cfg := { cfg with inp := inpS, orc := orcF }
theorem cfgSOK : CfgOKB Go.Proofs.Tryz.prog cfgS := ⟨cfgOK.mixed, cfgOK.fn⟩
theorem locN (f : Nat) : cfgS.loc f = false := rfl
theorem empN (f : Nat) : cfgS.emp f = false := rfl
theorem eatN (f : Nat) : cfgS.eat f = none := rfl
theorem sQa : cfgS.fn nQa = some (⟨false, false, true⟩, qQa) := gQa
theorem oQa : cfgS.orc nQa = none := rfl
theorem sQb : cfgS.fn nQb = some (⟨false, false, true⟩, qQb) := gQb
theorem iQb : cfgS.inp nQb = none := rfl
theorem oQb : cfgS.orc nQb = none := rfl
theorem sQc : cfgS.fn nQc = some (⟨false, false, true⟩, qQc) := gQc
theorem iQc : cfgS.inp nQc = none := rfl
theorem sQd : cfgS.fn nQd = some (⟨true, false, false⟩, qQd) := gQd
theorem iQd : cfgS.inp nQd = none := rfl
theorem oQd : cfgS.orc nQd = none := rfl
theorem sQe : cfgS.fn nQe = some (⟨true, false, false⟩, qQe) := gQe
theorem iQe : cfgS.inp nQe = none := rfl
theorem oQe : cfgS.orc nQe = none := rfl
theorem sQf : cfgS.fn nQf = some (⟨false, false, true⟩, qQf) := gQf
theorem iQf : cfgS.inp nQf = none := rfl
theorem oQf : cfgS.orc nQf = none := rfl
theorem sQg : cfgS.fn nQg = some (⟨false, false, false⟩, qQg) := gQg
theorem iQg : cfgS.inp nQg = none := rfl
theorem oQg : cfgS.orc nQg = none := rfl
theorem sQh : cfgS.fn nQh = some (⟨false, false, true⟩, qQh) := gQh
theorem iQh : cfgS.inp nQh = none := rfl
theorem oQh : cfgS.orc nQh = none := rfl
theorem sQi : cfgS.fn nQi = some (⟨false, false, true⟩, qQi) := gQi
theorem iQi : cfgS.inp nQi = none := rfl
theorem oQi : cfgS.orc nQi = none := rfl
theorem sQj : cfgS.fn nQj = some (⟨false, false, false⟩, qQj) := gQj
theorem iQj : cfgS.inp nQj = none := rfl
theorem oQj : cfgS.orc nQj = none := rfl
theorem sQk : cfgS.fn nQk = some (⟨false, false, false⟩, qQk) := gQk
theorem iQk : cfgS.inp nQk = none := rfl
theorem oQk : cfgS.orc nQk = none := rfl
theorem sQn : cfgS.fn nQn = some (⟨true, false, false⟩, qQn) := gQn
theorem iQn : cfgS.inp nQn = none := rfl
theorem oQn : cfgS.orc nQn = none := rfl
theorem sQo : cfgS.fn nQo = some (⟨false, false, true⟩, qQo) := gQo
theorem iQo : cfgS.inp nQo = none := rfl
theorem oQo : cfgS.orc nQo = none := rfl
theorem sQp : cfgS.fn nQp = some (⟨false, false, true⟩, qQp) := gQp
theorem iQp : cfgS.inp nQp = none := rfl
theorem oQp : cfgS.orc nQp = none := rfl
theorem sQq : cfgS.fn nQq = some (⟨false, false, true⟩, qQq) := gQq
theorem iQq : cfgS.inp nQq = none := rfl
theorem oQq : cfgS.orc nQq = none := rfl
theorem sQr : cfgS.fn nQr = some (⟨false, false, false⟩, qQr) := gQr
theorem iQr : cfgS.inp nQr = none := rfl
theorem oQr : cfgS.orc nQr = none := rfl
theorem sQs : cfgS.fn nQs = some (⟨false, true, true⟩, qQs) := gQs
theorem iQs : cfgS.inp nQs = none := rfl
theorem oQs : cfgS.orc nQs = some gCloW := rfl
theorem sQt : cfgS.fn nQt = some (⟨false, false, true⟩, qQt) := gQt
theorem iQt : cfgS.inp nQt = none := rfl
theorem oQt : cfgS.orc nQt = none := rfl
theorem sQu : cfgS.fn nQu = some (⟨false, false, false⟩, qQu) := gQu
theorem iQu : cfgS.inp nQu = none := rfl
theorem oQu : cfgS.orc nQu = none := rfl
theorem sQv : cfgS.fn nQv = some (⟨false, false, false⟩, qQv) := gQv
theorem iQv : cfgS.inp nQv = none := rfl
theorem oQv : cfgS.orc nQv = none := rfl
theorem sQw : cfgS.fn nQw = some (⟨false, false, true⟩, qQw) := gQw
theorem iQw : cfgS.inp nQw = none := rfl
theorem oQw : cfgS.orc nQw = none := rfl
theorem sQx : cfgS.fn nQx = some (⟨false, false, true⟩, qQx) := gQx
theorem iQx : cfgS.inp nQx = none := rfl
theorem oQx : cfgS.orc nQx = none := rfl
theorem sQy : cfgS.fn nQy = some (⟨false, false, false⟩, qQy) := gQy
theorem iQy : cfgS.inp nQy = none := rfl
theorem oQy : cfgS.orc nQy = none := rfl
theorem sQz : cfgS.fn nQz = some (⟨false, false, true⟩, qQz) := gQz
theorem sQC : cfgS.fn nQC = some (⟨false, false, true⟩, qQC) := gQC
theorem iQC : cfgS.inp nQC = none := rfl
theorem oQC : cfgS.orc nQC = none := rfl
theorem sQD : cfgS.fn nQD = some (⟨false, false, true⟩, qQD) := gQD
theorem iQD : cfgS.inp nQD = none := rfl
theorem oQD : cfgS.orc nQD = none := rfl
theorem sQE : cfgS.fn nQE = some (⟨false, false, false⟩, qQE) := gQE
theorem iQE : cfgS.inp nQE = none := rfl
theorem oQE : cfgS.orc nQE = none := rfl
theorem sQF : cfgS.fn nQF = some (⟨false, false, true⟩, qQF) := gQF
theorem iQF : cfgS.inp nQF = none := rfl
theorem oQF : cfgS.orc nQF = none := rfl
theorem sQG : cfgS.fn nQG = some (⟨false, false, false⟩, qQG) := gQG
theorem iQG : cfgS.inp nQG = none := rfl
theorem oQG : cfgS.orc nQG = none := rfl
theorem sQH : cfgS.fn nQH = some (⟨false, false, true⟩, qQH) := gQH
theorem iQH : cfgS.inp nQH = none := rfl
theorem oQH : cfgS.orc nQH = none := rfl
theorem sQI : cfgS.fn nQI = some (⟨false, false, true⟩, qQI) := gQI
theorem iQI : cfgS.inp nQI = none := rfl
theorem oQI : cfgS.orc nQI = none := rfl
theorem sQJ : cfgS.fn nQJ = some (⟨false, false, false⟩, qQJ) := gQJ
theorem iQJ : cfgS.inp nQJ = none := rfl
theorem oQJ : cfgS.orc nQJ = none := rfl
theorem sQM : cfgS.fn nQM = some (⟨false, false, false⟩, qQM) := gQM
theorem iQM : cfgS.inp nQM = none := rfl
theorem oQM : cfgS.orc nQM = none := rfl
theorem sQN : cfgS.fn nQN = some (⟨false, false, false⟩, qQN) := gQN
theorem iQN : cfgS.inp nQN = none := rfl
theorem oQN : cfgS.orc nQN = none := rfl
theorem sQT : cfgS.fn nQT = some (⟨false, false, false⟩, qQT) := gQT
theorem iQT : cfgS.inp nQT = none := rfl
theorem oQT : cfgS.orc nQT = none := rfl
theorem sQU : cfgS.fn nQU = some (⟨false, false, true⟩, qQU) := gQU
theorem iQU : cfgS.inp nQU = none := rfl
theorem oQU : cfgS.orc nQU = none := rfl
theorem sQV : cfgS.fn nQV = some (⟨false, false, true⟩, qQV) := gQV
theorem iQV : cfgS.inp nQV = none := rfl
theorem oQV : cfgS.orc nQV = none := rfl
theorem sQW : cfgS.fn nQW = some (⟨false, false, false⟩, qQW) := gQW
theorem iQW : cfgS.inp nQW = none := rfl
theorem oQW : cfgS.orc nQW = none := rfl
theorem sQX : cfgS.fn nQX = some (⟨false, false, true⟩, qQX) := gQX
theorem iQX : cfgS.inp nQX = none := rfl
theorem oQX : cfgS.orc nQX = none := rfl
theorem sQY : cfgS.fn nQY = some (⟨false, false, true⟩, qQY) := gQY
theorem iQY : cfgS.inp nQY = none := rfl
theorem oQY : cfgS.orc nQY = none := rfl
theorem sQZ : cfgS.fn nQZ = some (⟨false, false, true⟩, qQZ) := gQZ
theorem iQZ : cfgS.inp nQZ = none := rfl
theorem oQZ : cfgS.orc nQZ = none := rfl
theorem sQ0 : cfgS.fn nQ0 = some (⟨false, false, false⟩, qQ0) := gQ0
theorem iQ0 : cfgS.inp nQ0 = none := rfl
theorem oQ0 : cfgS.orc nQ0 = none := rfl
theorem sQ5 : cfgS.fn nQ5 = some (⟨false, false, false⟩, qQ5) := gQ5
theorem iQ5 : cfgS.inp nQ5 = none := rfl
theorem oQ5 : cfgS.orc nQ5 = none := rfl
theorem sQ6 : cfgS.fn nQ6 = some (⟨false, false, false⟩, qQ6) := gQ6
theorem iQ6 : cfgS.inp nQ6 = none := rfl
theorem oQ6 : cfgS.orc nQ6 = none := rfl
theorem sQa0 : cfgS.fn nQa0 = some (⟨false, false, false⟩, qQa0) := gQa0
theorem iQa0 : cfgS.inp nQa0 = none := rfl
theorem oQa0 : cfgS.orc nQa0 = none := rfl
theorem sQa1 : cfgS.fn nQa1 = some (⟨false, false, true⟩, qQa1) := gQa1
theorem iQa1 : cfgS.inp nQa1 = none := rfl
theorem oQa1 : cfgS.orc nQa1 = none := rfl
theorem sQa2 : cfgS.fn nQa2 = some (⟨false, false, true⟩, qQa2) := gQa2
theorem iQa2 : cfgS.inp nQa2 = none := rfl
theorem oQa2 : cfgS.orc nQa2 = none := rfl
theorem sQa3 : cfgS.fn nQa3 = some (⟨false, false, false⟩, qQa3) := gQa3
theorem iQa3 : cfgS.inp nQa3 = none := rfl
theorem oQa3 : cfgS.orc nQa3 = none := rfl
theorem sQa4 : cfgS.fn nQa4 = some (⟨false, false, false⟩, qQa4) := gQa4
theorem iQa4 : cfgS.inp nQa4 = none := rfl
theorem oQa4 : cfgS.orc nQa4 = none := rfl
theorem sQa5 : cfgS.fn nQa5 = some (⟨false, false, true⟩, qQa5) := gQa5
theorem iQa5 : cfgS.inp nQa5 = none := rfl
theorem oQa5 : cfgS.orc nQa5 = none := rfl
theorem sQb2 : cfgS.fn nQb2 = some (⟨false, false, false⟩, qQb2) := gQb2
theorem iQb2 : cfgS.inp nQb2 = none := rfl
theorem oQb2 : cfgS.orc nQb2 = none := rfl
theorem sQb3 : cfgS.fn nQb3 = some (⟨false, false, false⟩, qQb3) := gQb3
theorem iQb3 : cfgS.inp nQb3 = none := rfl
theorem oQb3 : cfgS.orc nQb3 = none := rfl
theorem sQb4 : cfgS.fn nQb4 = some (⟨false, false, true⟩, qQb4) := gQb4
theorem iQb4 : cfgS.inp nQb4 = none := rfl
theorem oQb4 : cfgS.orc nQb4 = none := rfl
theorem sQb6 : cfgS.fn nQb6 = some (⟨false, false, true⟩, qQb6) := gQb6
theorem iQb6 : cfgS.inp nQb6 = none := rfl
theorem oQb6 : cfgS.orc nQb6 = none := rfl
theorem sQb7 : cfgS.fn nQb7 = some (⟨false, false, false⟩, qQb7) := gQb7
theorem iQb7 : cfgS.inp nQb7 = none := rfl
theorem oQb7 : cfgS.orc nQb7 = none := rfl
theorem sQb8 : cfgS.fn nQb8 = some (⟨false, false, false⟩, qQb8) := gQb8
theorem iQb8 : cfgS.inp nQb8 = none := rfl
theorem oQb8 : cfgS.orc nQb8 = none := rfl
theorem sQb9 : cfgS.fn nQb9 = some (⟨false, false, false⟩, qQb9) := gQb9
theorem iQb9 : cfgS.inp nQb9 = none := rfl
theorem oQb9 : cfgS.orc nQb9 = none := rfl
theorem sQc0 : cfgS.fn nQc0 = some (⟨false, false, true⟩, qQc0) := gQc0
theorem iQc0 : cfgS.inp nQc0 = none := rfl
theorem oQc0 : cfgS.orc nQc0 = none := rfl
theorem sQc1 : cfgS.fn nQc1 = some (⟨false, false, false⟩, qQc1) := gQc1
theorem iQc1 : cfgS.inp nQc1 = none := rfl
theorem oQc1 : cfgS.orc nQc1 = none := rfl
end Go.BmP
