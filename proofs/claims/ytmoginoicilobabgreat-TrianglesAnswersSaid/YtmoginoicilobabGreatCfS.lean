/- The configuration with the library's functions that write into the slice they are given, and what it says of each function. -/
import Derived.Test.YtmoginoicilobabGreatBmP
import Derived.Test.YtmoginoicilobabGreatRunL
import Derived.Test.YtmoginoicilobabGreatGrfP
import Derived.Test.YtmoginoicilobabGreatCloE
import Derived.Test.YtmoginoicilobabGreatInsO
import Derived.Test.YtmoginoicilobabGreatDelO
set_option maxRecDepth 100000
open Go.Proofs.Tryz renaming prog → af
namespace Go.BmP
open Go.Am Go.Bm
def Ky (f : Nat) : Option (Nat -> List AV -> List AV -> Option (List AV × Option Nat)) := if f = nQ2 then some UZ else none
def orcF (f : Nat) : Option (List AV -> Heap -> Option (AV × Heap)) := if f = Kj then some Ug else if f = Z1 then some Uh else none
def eatS (f : Nat) : Option (Nat -> List AV -> List AV -> Option (List AV)) := if f = QI then some Oy else if f = QH then some O3 else none
def locS (f : Nat) : Bool := if f = CQ then true else if f = nQf then true else if f = nQi then true else false
def ak : Go.Bm.eG := { cfg with inp := Ky,orc := orcF,eat := eatS,loc := locS }
theorem ahr : fm af ak := ⟨aeR.mixed,aeR.fn⟩
theorem empN (f : Nat) : ak.emp f = false := rfl
theorem movN (f : Nat) : ak.mov f = none := rfl
theorem sQa : ak.fn nQa = some (⟨false,false,true⟩,qQa) := rfl
theorem oQa : ak.orc nQa = none := rfl
theorem sQb : ak.fn nQb = some (⟨false,false,true⟩,qQb) := rfl
theorem iQb : ak.inp nQb = none := rfl
theorem eQb : ak.eat nQb = none := rfl
theorem lQb : ak.loc nQb = false := rfl
theorem oQb : ak.orc nQb = none := rfl
theorem sQc : ak.fn nQc = some (⟨false,false,true⟩,qQc) := rfl
theorem iQc : ak.inp nQc = none := rfl
theorem eQc : ak.eat nQc = none := rfl
theorem lQc : ak.loc nQc = false := rfl
theorem oQc : ak.orc nQc = none := rfl
theorem sQd : ak.fn nQd = some (⟨false,false,true⟩,qQd) := rfl
theorem iQd : ak.inp nQd = none := rfl
theorem eQd : ak.eat nQd = none := rfl
theorem lQd : ak.loc nQd = false := rfl
theorem sQe : ak.fn nQe = some (⟨true,false,false⟩,qQe) := rfl
theorem iQe : ak.inp nQe = none := rfl
theorem eQe : ak.eat nQe = none := rfl
theorem lQe : ak.loc nQe = false := rfl
theorem oQe : ak.orc nQe = none := rfl
theorem sQf : ak.fn nQf = some (⟨true,false,false⟩,qQf) := rfl
theorem iQf : ak.inp nQf = none := rfl
theorem eQf : ak.eat nQf = none := rfl
theorem lQf : ak.loc nQf = true := rfl
theorem oQf : ak.orc nQf = none := rfl
theorem sQg : ak.fn TJ = some (⟨false,false,false⟩,qQg) := rfl
theorem iQg : ak.inp TJ = none := rfl
theorem eQg : ak.eat TJ = none := rfl
theorem lQg : ak.loc TJ = false := rfl
theorem oQg : ak.orc TJ = none := rfl
theorem Hk : ak.fn CQ = some (⟨true,false,false⟩,qQh) := rfl
theorem KA : ak.inp CQ = none := rfl
theorem KK : ak.eat CQ = none := rfl
theorem Ks : ak.loc CQ = true := rfl
theorem oQh : ak.orc CQ = none := rfl
theorem RW : ak.fn nQi = some (⟨true,false,false⟩,Tf) := rfl
theorem iQi : ak.inp nQi = none := rfl
theorem eQi : ak.eat nQi = none := rfl
theorem lQi : ak.loc nQi = true := rfl
theorem ZI : ak.orc nQi = none := rfl
theorem sQj : ak.fn ZU = some (⟨false,false,true⟩,qQj) := rfl
theorem iQj : ak.inp ZU = none := rfl
theorem eQj : ak.eat ZU = none := rfl
theorem lQj : ak.loc ZU = false := rfl
theorem oQj : ak.orc ZU = none := rfl
theorem sQk : ak.fn WL = some (⟨false,false,true⟩,qQk) := rfl
theorem iQk : ak.inp WL = none := rfl
theorem eQk : ak.eat WL = none := rfl
theorem lQk : ak.loc WL = false := rfl
theorem oQk : ak.orc WL = none := rfl
theorem sQl : ak.fn nQl = some (⟨false,false,false⟩,qQl) := rfl
theorem iQl : ak.inp nQl = none := rfl
theorem eQl : ak.eat nQl = none := rfl
theorem lQl : ak.loc nQl = false := rfl
theorem oQl : ak.orc nQl = none := rfl
theorem Xv : ak.fn Vs = some (⟨false,false,false⟩,qQm) := rfl
theorem iQm : ak.inp Vs = none := rfl
theorem eQm : ak.eat Vs = none := rfl
theorem lQm : ak.loc Vs = false := rfl
theorem oQm : ak.orc Vs = none := rfl
theorem sQn : ak.fn ZT = some (⟨false,false,false⟩,qQn) := rfl
theorem iQn : ak.inp ZT = none := rfl
theorem eQn : ak.eat ZT = none := rfl
theorem lQn : ak.loc ZT = false := rfl
theorem oQn : ak.orc ZT = none := rfl
theorem sQo : ak.fn nQo = some (⟨false,false,false⟩,qQo) := rfl
theorem iQo : ak.inp nQo = none := rfl
theorem eQo : ak.eat nQo = none := rfl
theorem lQo : ak.loc nQo = false := rfl
theorem oQo : ak.orc nQo = none := rfl
theorem sQp : ak.fn nQp = some (⟨false,false,false⟩,qQp) := rfl
theorem iQp : ak.inp nQp = none := rfl
theorem eQp : ak.eat nQp = none := rfl
theorem lQp : ak.loc nQp = false := rfl
theorem oQp : ak.orc nQp = none := rfl
theorem sQq : ak.fn nQq = some (⟨false,false,true⟩,qQq) := rfl
theorem iQq : ak.inp nQq = none := rfl
theorem eQq : ak.eat nQq = none := rfl
theorem lQq : ak.loc nQq = false := rfl
theorem oQq : ak.orc nQq = none := rfl
theorem sQr : ak.fn ZS = some (⟨false,false,true⟩,qQr) := rfl
theorem iQr : ak.inp ZS = none := rfl
theorem eQr : ak.eat ZS = none := rfl
theorem lQr : ak.loc ZS = false := rfl
theorem oQr : ak.orc ZS = none := rfl
theorem Xu : ak.fn TI = some (⟨false,false,true⟩,qQs) := rfl
theorem iQs : ak.inp TI = none := rfl
theorem eQs : ak.eat TI = none := rfl
theorem lQs : ak.loc TI = false := rfl
theorem oQs : ak.orc TI = none := rfl
theorem Xt : ak.fn TH = some (⟨false,false,true⟩,qQt) := rfl
theorem iQt : ak.inp TH = none := rfl
theorem eQt : ak.eat TH = none := rfl
theorem lQt : ak.loc TH = false := rfl
theorem oQt : ak.orc TH = none := rfl
theorem sQu : ak.fn ZR = some (⟨false,false,false⟩,qQu) := rfl
theorem iQu : ak.inp ZR = none := rfl
theorem eQu : ak.eat ZR = none := rfl
theorem lQu : ak.loc ZR = false := rfl
theorem oQu : ak.orc ZR = none := rfl
theorem sQv : ak.fn ZQ = some (⟨false,false,false⟩,qQv) := rfl
theorem iQv : ak.inp ZQ = none := rfl
theorem eQv : ak.eat ZQ = none := rfl
theorem lQv : ak.loc ZQ = false := rfl
theorem oQv : ak.orc ZQ = none := rfl
theorem sQw : ak.fn ZP = some (⟨false,false,false⟩,qQw) := rfl
theorem iQw : ak.inp ZP = none := rfl
theorem eQw : ak.eat ZP = none := rfl
theorem lQw : ak.loc ZP = false := rfl
theorem oQw : ak.orc ZP = none := rfl
theorem sQx : ak.fn nQx = some (⟨false,false,false⟩,qQx) := rfl
theorem iQx : ak.inp nQx = none := rfl
theorem eQx : ak.eat nQx = none := rfl
theorem lQx : ak.loc nQx = false := rfl
theorem oQx : ak.orc nQx = none := rfl
theorem sQy : ak.fn ZO = some (⟨false,false,false⟩,qQy) := rfl
theorem iQy : ak.inp ZO = none := rfl
theorem eQy : ak.eat ZO = none := rfl
theorem lQy : ak.loc ZO = false := rfl
theorem oQy : ak.orc ZO = none := rfl
theorem sQz : ak.fn nQz = some (⟨false,false,false⟩,qQz) := rfl
theorem iQz : ak.inp nQz = none := rfl
theorem eQz : ak.eat nQz = none := rfl
theorem lQz : ak.loc nQz = false := rfl
theorem oQz : ak.orc nQz = none := rfl
theorem sQB : ak.fn nQB = some (⟨false,false,true⟩,qQB) := rfl
theorem iQB : ak.inp nQB = none := rfl
theorem eQB : ak.eat nQB = none := rfl
theorem lQB : ak.loc nQB = false := rfl
theorem oQB : ak.orc nQB = none := rfl
theorem Jc : ak.fn QJ = some (⟨false,false,true⟩,qQC) := rfl
theorem K9 : ak.inp QJ = none := rfl
theorem Lj : ak.eat QJ = none := rfl
theorem K8 : ak.loc QJ = false := rfl
theorem oQC : ak.orc QJ = none := rfl
theorem sQD : ak.fn Vu = some (⟨false,false,false⟩,qQD) := rfl
theorem iQD : ak.inp Vu = none := rfl
theorem eQD : ak.eat Vu = none := rfl
theorem lQD : ak.loc Vu = false := rfl
theorem oQD : ak.orc Vu = none := rfl
theorem U7 : ak.fn WM = some (⟨false,false,true⟩,qQE) := rfl
theorem WO : ak.inp WM = none := rfl
theorem WR : ak.eat WM = none := rfl
theorem WN : ak.loc WM = false := rfl
theorem oQE : ak.orc WM = none := rfl
theorem sQF : ak.fn nQF = some (⟨false,false,false⟩,qQF) := rfl
theorem iQF : ak.inp nQF = none := rfl
theorem eQF : ak.eat nQF = none := rfl
theorem lQF : ak.loc nQF = false := rfl
theorem oQF : ak.orc nQF = none := rfl
theorem sQG : ak.fn nQG = some (⟨false,false,false⟩,qQG) := rfl
theorem iQG : ak.inp nQG = none := rfl
theorem eQG : ak.eat nQG = none := rfl
theorem lQG : ak.loc nQG = false := rfl
theorem oQG : ak.orc nQG = none := rfl
theorem sQH : ak.fn nQH = some (⟨false,false,true⟩,qQH) := rfl
theorem iQH : ak.inp nQH = none := rfl
theorem eQH : ak.eat nQH = none := rfl
theorem lQH : ak.loc nQH = false := rfl
theorem oQH : ak.orc nQH = none := rfl
theorem sQI : ak.fn nQI = some (⟨false,false,false⟩,qQI) := rfl
theorem iQI : ak.inp nQI = none := rfl
theorem eQI : ak.eat nQI = none := rfl
theorem lQI : ak.loc nQI = false := rfl
theorem oQI : ak.orc nQI = none := rfl
theorem sQJ : ak.fn nQJ = some (⟨false,false,true⟩,qQJ) := rfl
theorem iQJ : ak.inp nQJ = none := rfl
theorem eQJ : ak.eat nQJ = none := rfl
theorem lQJ : ak.loc nQJ = false := rfl
theorem oQJ : ak.orc nQJ = none := rfl
theorem sQK : ak.fn nQK = some (⟨false,false,false⟩,qQK) := rfl
theorem iQK : ak.inp nQK = none := rfl
theorem eQK : ak.eat nQK = none := rfl
theorem lQK : ak.loc nQK = false := rfl
theorem oQK : ak.orc nQK = none := rfl
theorem sQL : ak.fn nQL = some (⟨false,false,false⟩,qQL) := rfl
theorem iQL : ak.inp nQL = none := rfl
theorem eQL : ak.eat nQL = none := rfl
theorem lQL : ak.loc nQL = false := rfl
theorem oQL : ak.orc nQL = none := rfl
theorem sQM : ak.fn nQM = some (⟨false,false,true⟩,qQM) := rfl
theorem iQM : ak.inp nQM = none := rfl
theorem eQM : ak.eat nQM = none := rfl
theorem lQM : ak.loc nQM = false := rfl
theorem oQM : ak.orc nQM = none := rfl
theorem sQN : ak.fn nQN = some (⟨false,false,true⟩,qQN) := rfl
theorem iQN : ak.inp nQN = none := rfl
theorem eQN : ak.eat nQN = none := rfl
theorem lQN : ak.loc nQN = false := rfl
theorem oQN : ak.orc nQN = none := rfl
theorem sQO : ak.fn nQO = some (⟨false,false,true⟩,qQO) := rfl
theorem iQO : ak.inp nQO = none := rfl
theorem eQO : ak.eat nQO = none := rfl
theorem lQO : ak.loc nQO = false := rfl
theorem oQO : ak.orc nQO = none := rfl
theorem sQP : ak.fn nQP = some (⟨false,false,false⟩,qQP) := rfl
theorem iQP : ak.inp nQP = none := rfl
theorem eQP : ak.eat nQP = none := rfl
theorem lQP : ak.loc nQP = false := rfl
theorem oQP : ak.orc nQP = none := rfl
theorem sQQ : ak.fn nQQ = some (⟨false,false,false⟩,qQQ) := rfl
theorem iQQ : ak.inp nQQ = none := rfl
theorem eQQ : ak.eat nQQ = none := rfl
theorem lQQ : ak.loc nQQ = false := rfl
theorem oQQ : ak.orc nQQ = none := rfl
theorem sQR : ak.fn Z0 = some (⟨false,false,false⟩,qQR) := rfl
theorem iQR : ak.inp Z0 = none := rfl
theorem eQR : ak.eat Z0 = none := rfl
theorem lQR : ak.loc Z0 = false := rfl
theorem oQR : ak.orc Z0 = none := rfl
theorem sQS : ak.fn nQS = some (⟨false,false,false⟩,qQS) := rfl
theorem iQS : ak.inp nQS = none := rfl
theorem eQS : ak.eat nQS = none := rfl
theorem lQS : ak.loc nQS = false := rfl
theorem oQS : ak.orc nQS = none := rfl
theorem sQT : ak.fn ZZ = some (⟨false,false,false⟩,qQT) := rfl
theorem iQT : ak.inp ZZ = none := rfl
theorem eQT : ak.eat ZZ = none := rfl
theorem lQT : ak.loc ZZ = false := rfl
theorem oQT : ak.orc ZZ = none := rfl
theorem sQU : ak.fn nQU = some (⟨false,false,true⟩,qQU) := rfl
theorem iQU : ak.inp nQU = none := rfl
theorem eQU : ak.eat nQU = none := rfl
theorem lQU : ak.loc nQU = false := rfl
theorem oQU : ak.orc nQU = none := rfl
theorem sQV : ak.fn nQV = some (⟨false,false,false⟩,qQV) := rfl
theorem iQV : ak.inp nQV = none := rfl
theorem eQV : ak.eat nQV = none := rfl
theorem lQV : ak.loc nQV = false := rfl
theorem oQV : ak.orc nQV = none := rfl
theorem sQW : ak.fn ZY = some (⟨false,false,false⟩,qQW) := rfl
theorem iQW : ak.inp ZY = none := rfl
theorem eQW : ak.eat ZY = none := rfl
theorem lQW : ak.loc ZY = false := rfl
theorem oQW : ak.orc ZY = none := rfl
theorem sQX : ak.fn ZX = some (⟨false,false,true⟩,qQX) := rfl
theorem iQX : ak.inp ZX = none := rfl
theorem eQX : ak.eat ZX = none := rfl
theorem lQX : ak.loc ZX = false := rfl
theorem oQX : ak.orc ZX = none := rfl
theorem sQY : ak.fn nQY = some (⟨false,false,false⟩,qQY) := rfl
theorem iQY : ak.inp nQY = none := rfl
theorem eQY : ak.eat nQY = none := rfl
theorem lQY : ak.loc nQY = false := rfl
theorem oQY : ak.orc nQY = none := rfl
theorem sQZ : ak.fn nQZ = some (⟨false,false,true⟩,qQZ) := rfl
theorem iQZ : ak.inp nQZ = none := rfl
theorem eQZ : ak.eat nQZ = none := rfl
theorem lQZ : ak.loc nQZ = false := rfl
theorem oQZ : ak.orc nQZ = none := rfl
theorem sQ0 : ak.fn nQ0 = some (⟨false,false,false⟩,qQ0) := rfl
theorem iQ0 : ak.inp nQ0 = none := rfl
theorem eQ0 : ak.eat nQ0 = none := rfl
theorem lQ0 : ak.loc nQ0 = false := rfl
theorem oQ0 : ak.orc nQ0 = none := rfl
theorem sQ1 : ak.fn nQ1 = some (⟨false,false,false⟩,qQ1) := rfl
theorem iQ1 : ak.inp nQ1 = none := rfl
theorem eQ1 : ak.eat nQ1 = none := rfl
theorem lQ1 : ak.loc nQ1 = false := rfl
theorem oQ1 : ak.orc nQ1 = none := rfl
theorem sQ2 : ak.fn nQ2 = some (⟨false,false,true⟩,qQ2) := rfl
theorem iQ2 : ak.inp nQ2 = some UZ := rfl
theorem eQ2 : ak.eat nQ2 = none := rfl
theorem lQ2 : ak.loc nQ2 = false := rfl
theorem sQ3 : ak.fn nQ3 = some (⟨false,false,false⟩,qQ3) := rfl
theorem iQ3 : ak.inp nQ3 = none := rfl
theorem eQ3 : ak.eat nQ3 = none := rfl
theorem lQ3 : ak.loc nQ3 = false := rfl
theorem oQ3 : ak.orc nQ3 = none := rfl
theorem sQ4 : ak.fn nQ4 = some (⟨false,false,true⟩,qQ4) := rfl
theorem iQ4 : ak.inp nQ4 = none := rfl
theorem eQ4 : ak.eat nQ4 = none := rfl
theorem lQ4 : ak.loc nQ4 = false := rfl
theorem oQ4 : ak.orc nQ4 = none := rfl
theorem sQ5 : ak.fn nQ5 = some (⟨false,false,false⟩,qQ5) := rfl
theorem iQ5 : ak.inp nQ5 = none := rfl
theorem eQ5 : ak.eat nQ5 = none := rfl
theorem lQ5 : ak.loc nQ5 = false := rfl
theorem oQ5 : ak.orc nQ5 = none := rfl
theorem sQ6 : ak.fn Z1 = some (⟨false,true,true⟩,qQ6) := rfl
theorem iQ6 : ak.inp Z1 = none := rfl
theorem eQ6 : ak.eat Z1 = none := rfl
theorem lQ6 : ak.loc Z1 = false := rfl
theorem oQ6 : ak.orc Z1 = some Uh := rfl
theorem sQ7 : ak.fn nQ7 = some (⟨false,false,true⟩,qQ7) := rfl
theorem iQ7 : ak.inp nQ7 = none := rfl
theorem eQ7 : ak.eat nQ7 = none := rfl
theorem lQ7 : ak.loc nQ7 = false := rfl
theorem oQ7 : ak.orc nQ7 = none := rfl
theorem sQ8 : ak.fn nQ8 = some (⟨false,false,true⟩,qQ8) := rfl
theorem iQ8 : ak.inp nQ8 = none := rfl
theorem eQ8 : ak.eat nQ8 = none := rfl
theorem lQ8 : ak.loc nQ8 = false := rfl
theorem oQ8 : ak.orc nQ8 = none := rfl
theorem sQ9 : ak.fn nQ9 = some (⟨false,false,true⟩,qQ9) := rfl
theorem iQ9 : ak.inp nQ9 = none := rfl
theorem eQ9 : ak.eat nQ9 = none := rfl
theorem lQ9 : ak.loc nQ9 = false := rfl
theorem oQ9 : ak.orc nQ9 = none := rfl
theorem PY : ak.fn Km = some (⟨false,false,true⟩,qQa0) := rfl
theorem VM : ak.inp Km = none := rfl
theorem We : ak.eat Km = none := rfl
theorem VD : ak.loc Km = false := rfl
theorem oQa0 : ak.orc Km = none := rfl
theorem Xy : ak.fn Kl = some (⟨false,false,true⟩,qQa1) := rfl
theorem iQa1 : ak.inp Kl = none := rfl
theorem eQa1 : ak.eat Kl = none := rfl
theorem lQa1 : ak.loc Kl = false := rfl
theorem oQa1 : ak.orc Kl = none := rfl
theorem sQa2 : ak.fn QI = some (⟨false,true,true⟩,qQa2) := rfl
theorem iQa2 : ak.inp QI = none := rfl
theorem eQa2 : ak.eat QI = some Oy := rfl
theorem lQa2 : ak.loc QI = false := rfl
theorem U6 : ak.fn Kk = some (⟨false,false,false⟩,qQa3) := rfl
theorem iQa3 : ak.inp Kk = none := rfl
theorem eQa3 : ak.eat Kk = none := rfl
theorem lQa3 : ak.loc Kk = false := rfl
theorem oQa3 : ak.orc Kk = none := rfl
theorem sQa4 : ak.fn Kj = some (⟨false,true,true⟩,qQa4) := rfl
theorem iQa4 : ak.inp Kj = none := rfl
theorem eQa4 : ak.eat Kj = none := rfl
theorem lQa4 : ak.loc Kj = false := rfl
theorem oQa4 : ak.orc Kj = some Ug := rfl
theorem U5 : ak.fn Ki = some (⟨false,false,true⟩,qQa5) := rfl
theorem iQa5 : ak.inp Ki = none := rfl
theorem eQa5 : ak.eat Ki = none := rfl
theorem lQa5 : ak.loc Ki = false := rfl
theorem oQa5 : ak.orc Ki = none := rfl
theorem sQa6 : ak.fn QH = some (⟨false,true,true⟩,qQa6) := rfl
theorem iQa6 : ak.inp QH = none := rfl
theorem eQa6 : ak.eat QH = some O3 := rfl
theorem lQa6 : ak.loc QH = false := rfl
theorem sQa7 : ak.fn NT = some (⟨false,false,true⟩,qQa7) := rfl
theorem iQa7 : ak.inp NT = none := rfl
theorem eQa7 : ak.eat NT = none := rfl
theorem lQa7 : ak.loc NT = false := rfl
theorem oQa7 : ak.orc NT = none := rfl
theorem Xx : ak.fn Ao = some (⟨false,false,true⟩,qQa8) := rfl
theorem iQa8 : ak.inp Ao = none := rfl
theorem eQa8 : ak.eat Ao = none := rfl
theorem lQa8 : ak.loc Ao = false := rfl
theorem oQa8 : ak.orc Ao = none := rfl
theorem sQa9 : ak.fn Kh = some (⟨false,false,false⟩,qQa9) := rfl
theorem iQa9 : ak.inp Kh = none := rfl
theorem eQa9 : ak.eat Kh = none := rfl
theorem lQa9 : ak.loc Kh = false := rfl
theorem oQa9 : ak.orc Kh = none := rfl
theorem sQb0 : ak.fn NS = some (⟨false,false,true⟩,qQb0) := rfl
theorem iQb0 : ak.inp NS = none := rfl
theorem eQb0 : ak.eat NS = none := rfl
theorem lQb0 : ak.loc NS = false := rfl
theorem oQb0 : ak.orc NS = none := rfl
theorem sQb1 : ak.fn GS = some (⟨false,false,true⟩,qQb1) := rfl
theorem iQb1 : ak.inp GS = none := rfl
theorem eQb1 : ak.eat GS = none := rfl
theorem lQb1 : ak.loc GS = false := rfl
theorem oQb1 : ak.orc GS = none := rfl
theorem sQb2 : ak.fn NR = some (⟨false,false,false⟩,qQb2) := rfl
theorem iQb2 : ak.inp NR = none := rfl
theorem eQb2 : ak.eat NR = none := rfl
theorem lQb2 : ak.loc NR = false := rfl
theorem oQb2 : ak.orc NR = none := rfl
theorem sQb5 : ak.fn NQ = some (⟨false,false,false⟩,qQb5) := rfl
theorem iQb5 : ak.inp NQ = none := rfl
theorem eQb5 : ak.eat NQ = none := rfl
theorem lQb5 : ak.loc NQ = false := rfl
theorem oQb5 : ak.orc NQ = none := rfl
theorem sQb6 : ak.fn Kg = some (⟨false,false,true⟩,qQb6) := rfl
theorem iQb6 : ak.inp Kg = none := rfl
theorem eQb6 : ak.eat Kg = none := rfl
theorem lQb6 : ak.loc Kg = false := rfl
theorem oQb6 : ak.orc Kg = none := rfl
theorem sQb7 : ak.fn NP = some (⟨false,false,false⟩,qQb7) := rfl
theorem iQb7 : ak.inp NP = none := rfl
theorem eQb7 : ak.eat NP = none := rfl
theorem lQb7 : ak.loc NP = false := rfl
theorem oQb7 : ak.orc NP = none := rfl
theorem sQb8 : ak.fn NO = some (⟨false,false,true⟩,qQb8) := rfl
theorem iQb8 : ak.inp NO = none := rfl
theorem eQb8 : ak.eat NO = none := rfl
theorem lQb8 : ak.loc NO = false := rfl
theorem oQb8 : ak.orc NO = none := rfl
theorem Xw : ak.fn NM = some (⟨false,false,true⟩,qQb9) := rfl
theorem iQb9 : ak.inp NM = none := rfl
theorem eQb9 : ak.eat NM = none := rfl
theorem lQb9 : ak.loc NM = false := rfl
theorem oQb9 : ak.orc NM = none := rfl
theorem sQc0 : ak.fn Kf = some (⟨false,false,true⟩,qQc0) := rfl
theorem iQc0 : ak.inp Kf = none := rfl
theorem eQc0 : ak.eat Kf = none := rfl
theorem lQc0 : ak.loc Kf = false := rfl
theorem oQc0 : ak.orc Kf = none := rfl
theorem sQc1 : ak.fn NL = some (⟨false,false,false⟩,qQc1) := rfl
theorem iQc1 : ak.inp NL = none := rfl
theorem eQc1 : ak.eat NL = none := rfl
theorem lQc1 : ak.loc NL = false := rfl
theorem oQc1 : ak.orc NL = none := rfl
theorem sQc2 : ak.fn NK = some (⟨false,false,true⟩,qQc2) := rfl
theorem iQc2 : ak.inp NK = none := rfl
theorem eQc2 : ak.eat NK = none := rfl
theorem lQc2 : ak.loc NK = false := rfl
theorem oQc2 : ak.orc NK = none := rfl
theorem sQc3 : ak.fn Ke = some (⟨false,false,false⟩,qQc3) := rfl
theorem iQc3 : ak.inp Ke = none := rfl
theorem eQc3 : ak.eat Ke = none := rfl
theorem lQc3 : ak.loc Ke = false := rfl
theorem oQc3 : ak.orc Ke = none := rfl
theorem sQc8 : ak.fn NJ = some (⟨false,false,false⟩,Zi) := rfl
theorem iQc8 : ak.inp NJ = none := rfl
theorem eQc8 : ak.eat NJ = none := rfl
theorem lQc8 : ak.loc NJ = false := rfl
theorem oQc8 : ak.orc NJ = none := rfl
theorem sQc9 : ak.fn Kc = some (⟨false,false,true⟩,qQc9) := rfl
theorem iQc9 : ak.inp Kc = none := rfl
theorem eQc9 : ak.eat Kc = none := rfl
theorem lQc9 : ak.loc Kc = false := rfl
theorem oQc9 : ak.orc Kc = none := rfl
theorem sQd6 : ak.fn NI = some (⟨false,false,false⟩,qQd6) := rfl
theorem iQd6 : ak.inp NI = none := rfl
theorem eQd6 : ak.eat NI = none := rfl
theorem lQd6 : ak.loc NI = false := rfl
theorem oQd6 : ak.orc NI = none := rfl
theorem sQd7 : ak.fn GR = some (⟨false,false,false⟩,qQd7) := rfl
theorem iQd7 : ak.inp GR = none := rfl
theorem eQd7 : ak.eat GR = none := rfl
theorem lQd7 : ak.loc GR = false := rfl
theorem oQd7 : ak.orc GR = none := rfl
theorem PX : ak.fn Kb = some (⟨false,false,false⟩,qQd9) := rfl
theorem VL : ak.inp Kb = none := rfl
theorem Wd : ak.eat Kb = none := rfl
theorem VC : ak.loc Kb = false := rfl
theorem oQd9 : ak.orc Kb = none := rfl
theorem PW : ak.fn NH = some (⟨false,false,true⟩,qQe0) := rfl
theorem VK : ak.inp NH = none := rfl
theorem Wc : ak.eat NH = none := rfl
theorem VB : ak.loc NH = false := rfl
theorem oQe0 : ak.orc NH = none := rfl
theorem sQe1 : ak.fn Ka = some (⟨false,false,false⟩,qQe1) := rfl
theorem iQe1 : ak.inp Ka = none := rfl
theorem eQe1 : ak.eat Ka = none := rfl
theorem lQe1 : ak.loc Ka = false := rfl
theorem oQe1 : ak.orc Ka = none := rfl
end Go.BmP
