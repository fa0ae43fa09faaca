/- The configuration with the library's functions that write into the slice they are given, and what it says of each function. -/
import Derived.Test.YtldlafnfkiiflaaDoorBmP
import Derived.Test.YtldlafnfkiiflaaDoorRunL
import Derived.Test.YtldlafnfkiiflaaDoorSetP
import Derived.Test.YtldlafnfkiiflaaDoorMxR
set_option maxRecDepth 100000
namespace Go.BmP
open Go.Am Go.Bm
def inpS (_ : Nat) : Option (Nat -> List AV -> List AV -> Option (List AV × Option Nat)) := none
def orcF (f : Nat) : Option (List AV -> Heap -> Option (AV × Heap)) := if f = nQo then some gMb else if f = nQh then some gMc else if f = nQi then some gMp else none
def cfgS : Go.Bm.Cfg := { cfg with inp := inpS, orc := orcF }
theorem cfgSOK : CfgOKB Go.Proofs.Tryd.prog cfgS := ⟨cfgOK.mixed, cfgOK.fn⟩
theorem locN (f : Nat) : cfgS.loc f = false := rfl
theorem empN (f : Nat) : cfgS.emp f = false := rfl
theorem eatN (f : Nat) : cfgS.eat f = none := rfl
theorem sQa : cfgS.fn nQa = some (⟨false, false, true⟩, qQa) := gQa
theorem oQa : cfgS.orc nQa = none := rfl
theorem sQb : cfgS.fn nQb = some (⟨false, false, true⟩, qQb) := gQb
theorem iQb : cfgS.inp nQb = none := rfl
theorem oQb : cfgS.orc nQb = none := rfl
theorem sQc : cfgS.fn nQc = some (⟨false, false, true⟩, qQc) := gQc
theorem iQc : cfgS.inp nQc = none := rfl
theorem sQd : cfgS.fn nQd = some (⟨true, false, false⟩, qQd) := gQd
theorem iQd : cfgS.inp nQd = none := rfl
theorem oQd : cfgS.orc nQd = none := rfl
theorem sQe : cfgS.fn nQe = some (⟨true, false, false⟩, qQe) := gQe
theorem iQe : cfgS.inp nQe = none := rfl
theorem oQe : cfgS.orc nQe = none := rfl
theorem sQf : cfgS.fn nQf = some (⟨false, false, true⟩, qQf) := gQf
theorem iQf : cfgS.inp nQf = none := rfl
theorem oQf : cfgS.orc nQf = none := rfl
theorem sQg : cfgS.fn nQg = some (⟨true, false, false⟩, qQg) := gQg
theorem iQg : cfgS.inp nQg = none := rfl
theorem oQg : cfgS.orc nQg = none := rfl
theorem sQj : cfgS.fn nQj = some (⟨false, false, false⟩, qQj) := gQj
theorem iQj : cfgS.inp nQj = none := rfl
theorem oQj : cfgS.orc nQj = none := rfl
theorem sQk : cfgS.fn nQk = some (⟨false, false, false⟩, qQk) := gQk
theorem iQk : cfgS.inp nQk = none := rfl
theorem oQk : cfgS.orc nQk = none := rfl
theorem sQl : cfgS.fn nQl = some (⟨false, false, false⟩, qQl) := gQl
theorem iQl : cfgS.inp nQl = none := rfl
theorem oQl : cfgS.orc nQl = none := rfl
theorem sQn : cfgS.fn nQn = some (⟨false, false, false⟩, qQn) := gQn
theorem iQn : cfgS.inp nQn = none := rfl
theorem oQn : cfgS.orc nQn = none := rfl
theorem sQp : cfgS.fn nQp = some (⟨false, false, true⟩, qQp) := gQp
theorem iQp : cfgS.inp nQp = none := rfl
theorem oQp : cfgS.orc nQp = none := rfl
theorem sQq : cfgS.fn nQq = some (⟨false, false, true⟩, qQq) := gQq
theorem iQq : cfgS.inp nQq = none := rfl
theorem oQq : cfgS.orc nQq = none := rfl
theorem sQr : cfgS.fn nQr = some (⟨false, false, true⟩, qQr) := gQr
theorem iQr : cfgS.inp nQr = none := rfl
theorem oQr : cfgS.orc nQr = none := rfl
theorem sQs : cfgS.fn nQs = some (⟨false, false, true⟩, qQs) := gQs
theorem iQs : cfgS.inp nQs = none := rfl
theorem oQs : cfgS.orc nQs = none := rfl
theorem sQt : cfgS.fn nQt = some (⟨false, false, true⟩, qQt) := gQt
theorem iQt : cfgS.inp nQt = none := rfl
theorem oQt : cfgS.orc nQt = none := rfl
theorem sQu : cfgS.fn nQu = some (⟨false, false, false⟩, qQu) := gQu
theorem iQu : cfgS.inp nQu = none := rfl
theorem oQu : cfgS.orc nQu = none := rfl
theorem sQv : cfgS.fn nQv = some (⟨false, false, false⟩, qQv) := gQv
theorem iQv : cfgS.inp nQv = none := rfl
theorem oQv : cfgS.orc nQv = none := rfl
theorem sQw : cfgS.fn nQw = some (⟨false, false, true⟩, qQw) := gQw
theorem iQw : cfgS.inp nQw = none := rfl
theorem oQw : cfgS.orc nQw = none := rfl
theorem sQx : cfgS.fn nQx = some (⟨false, false, true⟩, qQx) := gQx
theorem iQx : cfgS.inp nQx = none := rfl
theorem oQx : cfgS.orc nQx = none := rfl
theorem sQy : cfgS.fn nQy = some (⟨false, false, false⟩, qQy) := gQy
theorem iQy : cfgS.inp nQy = none := rfl
theorem oQy : cfgS.orc nQy = none := rfl
theorem sQz : cfgS.fn nQz = some (⟨false, false, true⟩, qQz) := gQz
theorem iQz : cfgS.inp nQz = none := rfl
theorem oQz : cfgS.orc nQz = none := rfl
theorem sQA : cfgS.fn nQA = some (⟨false, false, true⟩, qQA) := gQA
theorem iQA : cfgS.inp nQA = none := rfl
theorem oQA : cfgS.orc nQA = none := rfl
theorem sQB : cfgS.fn nQB = some (⟨true, false, false⟩, qQB) := gQB
theorem iQB : cfgS.inp nQB = none := rfl
theorem oQB : cfgS.orc nQB = none := rfl
theorem sQC : cfgS.fn nQC = some (⟨false, false, true⟩, qQC) := gQC
theorem iQC : cfgS.inp nQC = none := rfl
theorem oQC : cfgS.orc nQC = none := rfl
theorem sQD : cfgS.fn nQD = some (⟨false, false, true⟩, qQD) := gQD
theorem iQD : cfgS.inp nQD = none := rfl
theorem oQD : cfgS.orc nQD = none := rfl
theorem sQE : cfgS.fn nQE = some (⟨false, false, true⟩, qQE) := gQE
theorem iQE : cfgS.inp nQE = none := rfl
theorem oQE : cfgS.orc nQE = none := rfl
theorem sQF : cfgS.fn nQF = some (⟨false, false, true⟩, qQF) := gQF
theorem iQF : cfgS.inp nQF = none := rfl
theorem oQF : cfgS.orc nQF = none := rfl
theorem sQG : cfgS.fn nQG = some (⟨false, false, true⟩, qQG) := gQG
theorem iQG : cfgS.inp nQG = none := rfl
theorem oQG : cfgS.orc nQG = none := rfl
end Go.BmP
