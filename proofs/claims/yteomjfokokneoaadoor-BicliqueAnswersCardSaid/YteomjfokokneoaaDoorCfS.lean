/- The configuration with the library's functions that write into the slice they are given, and what it says of each function. -/
import Derived.Test.YteomjfokokneoaaDoorBmP
import Derived.Test.YteomjfokokneoaaDoorRunL
import Derived.Test.YteomjfokokneoaaDoorGrfP
set_option maxRecDepth 100000
open Go.Proofs.Tryd renaming prog → aq
namespace Go.BmP
open Go.Am Go.Bm
def JT (f : Nat) : Option (Nat -> List AV -> List AV -> Option (List AV × Option Nat)) := if f = Pr then some OI else if f = Pq then some PX else none
def orcF (f : Nat) : Option (List AV -> Heap -> Option (AV × Heap)) := if f = Cq then some UT else none
def locS (f : Nat) : Bool := if f = Ui then true else if f = W8 then true else if f = nJf then true else false
def aA : Go.Bm.dN := { cfg with inp := JT,orc := orcF,loc := locS }
theorem ad9 : fk aq aA := ⟨acw.mixed,acw.fn⟩
theorem empN (f : Nat) : aA.emp f = false := rfl
theorem movN (f : Nat) : aA.mov f = none := rfl
theorem eatN (f : Nat) : aA.eat f = none := rfl
theorem sJa : aA.fn nJa = some (⟨false,false,true⟩,Z5) := rfl
theorem oJa : aA.orc nJa = none := rfl
theorem sJb : aA.fn nJb = some (⟨false,false,true⟩,qJb) := rfl
theorem iJb : aA.inp nJb = none := rfl
theorem lJb : aA.loc nJb = false := rfl
theorem oJb : aA.orc nJb = none := rfl
theorem sJc : aA.fn nJc = some (⟨false,false,true⟩,qJc) := rfl
theorem iJc : aA.inp nJc = none := rfl
theorem lJc : aA.loc nJc = false := rfl
theorem oJc : aA.orc nJc = none := rfl
theorem sJd : aA.fn nJd = some (⟨false,false,true⟩,qJd) := rfl
theorem iJd : aA.inp nJd = none := rfl
theorem lJd : aA.loc nJd = false := rfl
theorem sJe : aA.fn nJe = some (⟨true,false,false⟩,qJe) := rfl
theorem iJe : aA.inp nJe = none := rfl
theorem lJe : aA.loc nJe = false := rfl
theorem oJe : aA.orc nJe = none := rfl
theorem sJf : aA.fn nJf = some (⟨true,false,false⟩,qJf) := rfl
theorem iJf : aA.inp nJf = none := rfl
theorem lJf : aA.loc nJf = true := rfl
theorem oJf : aA.orc nJf = none := rfl
theorem sJg : aA.fn W8 = some (⟨true,false,false⟩,qJg) := rfl
theorem iJg : aA.inp W8 = none := rfl
theorem lJg : aA.loc W8 = true := rfl
theorem oJg : aA.orc W8 = none := rfl
theorem Cn : aA.fn Sn = some (⟨false,false,true⟩,qJh) := rfl
theorem Fs : aA.inp Sn = none := rfl
theorem Fj : aA.loc Sn = false := rfl
theorem oJh : aA.orc Sn = none := rfl
theorem KH : aA.fn Uk = some (⟨false,false,true⟩,qJi) := rfl
theorem Oi : aA.inp Uk = none := rfl
theorem Oh : aA.loc Uk = false := rfl
theorem oJi : aA.orc Uk = none := rfl
theorem sJj : aA.fn Zc = some (⟨false,false,true⟩,ZV) := rfl
theorem iJj : aA.inp Zc = none := rfl
theorem lJj : aA.loc Zc = false := rfl
theorem oJj : aA.orc Zc = none := rfl
theorem sJk : aA.fn W7 = some (⟨false,false,true⟩,qJk) := rfl
theorem iJk : aA.inp W7 = none := rfl
theorem lJk : aA.loc W7 = false := rfl
theorem oJk : aA.orc W7 = none := rfl
theorem sJl : aA.fn nJl = some (⟨false,false,false⟩,qJl) := rfl
theorem iJl : aA.inp nJl = none := rfl
theorem lJl : aA.loc nJl = false := rfl
theorem oJl : aA.orc nJl = none := rfl
theorem sJm : aA.fn Zb = some (⟨false,false,false⟩,qJm) := rfl
theorem iJm : aA.inp Zb = none := rfl
theorem lJm : aA.loc Zb = false := rfl
theorem oJm : aA.orc Zb = none := rfl
theorem VX : aA.fn Vv = some (⟨false,false,false⟩,qJn) := rfl
theorem iJn : aA.inp Vv = none := rfl
theorem lJn : aA.loc Vv = false := rfl
theorem oJn : aA.orc Vv = none := rfl
theorem sJo : aA.fn nJo = some (⟨false,false,false⟩,qJo) := rfl
theorem iJo : aA.inp nJo = none := rfl
theorem lJo : aA.loc nJo = false := rfl
theorem oJo : aA.orc nJo = none := rfl
theorem sJp : aA.fn nJp = some (⟨false,false,false⟩,qJp) := rfl
theorem iJp : aA.inp nJp = none := rfl
theorem lJp : aA.loc nJp = false := rfl
theorem oJp : aA.orc nJp = none := rfl
theorem sJq : aA.fn Uj = some (⟨false,false,true⟩,qJq) := rfl
theorem iJq : aA.inp Uj = none := rfl
theorem lJq : aA.loc Uj = false := rfl
theorem oJq : aA.orc Uj = none := rfl
theorem ZD : aA.fn Ui = some (⟨true,false,false⟩,qJr) := rfl
theorem iJr : aA.inp Ui = none := rfl
theorem lJr : aA.loc Ui = true := rfl
theorem oJr : aA.orc Ui = none := rfl
theorem sJs : aA.fn Za = some (⟨false,false,false⟩,qJs) := rfl
theorem iJs : aA.inp Za = none := rfl
theorem lJs : aA.loc Za = false := rfl
theorem oJs : aA.orc Za = none := rfl
theorem sJt : aA.fn nJt = some (⟨false,false,false⟩,qJt) := rfl
theorem iJt : aA.inp nJt = none := rfl
theorem lJt : aA.loc nJt = false := rfl
theorem oJt : aA.orc nJt = none := rfl
theorem sJu : aA.fn nJu = some (⟨false,false,true⟩,qJu) := rfl
theorem iJu : aA.inp nJu = none := rfl
theorem lJu : aA.loc nJu = false := rfl
theorem oJu : aA.orc nJu = none := rfl
theorem sJv : aA.fn nJv = some (⟨false,false,false⟩,qJv) := rfl
theorem iJv : aA.inp nJv = none := rfl
theorem lJv : aA.loc nJv = false := rfl
theorem oJv : aA.orc nJv = none := rfl
theorem sJw : aA.fn nJw = some (⟨false,false,false⟩,qJw) := rfl
theorem iJw : aA.inp nJw = none := rfl
theorem lJw : aA.loc nJw = false := rfl
theorem oJw : aA.orc nJw = none := rfl
theorem sJx : aA.fn nJx = some (⟨false,false,false⟩,qJx) := rfl
theorem iJx : aA.inp nJx = none := rfl
theorem lJx : aA.loc nJx = false := rfl
theorem oJx : aA.orc nJx = none := rfl
theorem sJy : aA.fn Vu = some (⟨false,false,true⟩,qJy) := rfl
theorem iJy : aA.inp Vu = none := rfl
theorem lJy : aA.loc Vu = false := rfl
theorem oJy : aA.orc Vu = none := rfl
theorem sJz : aA.fn nJz = some (⟨false,false,true⟩,qJz) := rfl
theorem iJz : aA.inp nJz = none := rfl
theorem lJz : aA.loc nJz = false := rfl
theorem oJz : aA.orc nJz = none := rfl
theorem ZF : aA.fn nJA = some (⟨false,false,true⟩,qJA) := rfl
theorem iJA : aA.inp nJA = none := rfl
theorem lJA : aA.loc nJA = false := rfl
theorem oJA : aA.orc nJA = none := rfl
theorem Vs : aA.fn Um = some (⟨false,false,true⟩,qJB) := rfl
theorem XI : aA.inp Um = none := rfl
theorem Xv : aA.loc Um = false := rfl
theorem oJB : aA.orc Um = none := rfl
theorem sJC : aA.fn nJC = some (⟨true,false,false⟩,qJC) := rfl
theorem iJC : aA.inp nJC = none := rfl
theorem lJC : aA.loc nJC = false := rfl
theorem oJC : aA.orc nJC = none := rfl
theorem sJD : aA.fn Pw = some (⟨true,false,false⟩,qJD) := rfl
theorem iJD : aA.inp Pw = none := rfl
theorem lJD : aA.loc Pw = false := rfl
theorem oJD : aA.orc Pw = none := rfl
theorem sJE : aA.fn nJE = some (⟨false,false,true⟩,qJE) := rfl
theorem iJE : aA.inp nJE = none := rfl
theorem lJE : aA.loc nJE = false := rfl
theorem oJE : aA.orc nJE = none := rfl
theorem sJF : aA.fn nJF = some (⟨false,false,true⟩,qJF) := rfl
theorem iJF : aA.inp nJF = none := rfl
theorem lJF : aA.loc nJF = false := rfl
theorem oJF : aA.orc nJF = none := rfl
theorem VY : aA.fn Xb = some (⟨false,false,true⟩,qJG) := rfl
theorem Zg : aA.inp Xb = none := rfl
theorem Zf : aA.loc Xb = false := rfl
theorem oJG : aA.orc Xb = none := rfl
theorem Vr : aA.fn Xa = some (⟨false,false,false⟩,qJH) := rfl
theorem XH : aA.inp Xa = none := rfl
theorem Xu : aA.loc Xa = false := rfl
theorem oJH : aA.orc Xa = none := rfl
theorem sJI : aA.fn nJI = some (⟨true,false,false⟩,qJI) := rfl
theorem iJI : aA.inp nJI = none := rfl
theorem lJI : aA.loc nJI = false := rfl
theorem oJI : aA.orc nJI = none := rfl
theorem sJJ : aA.fn nJJ = some (⟨false,false,true⟩,qJJ) := rfl
theorem iJJ : aA.inp nJJ = none := rfl
theorem lJJ : aA.loc nJJ = false := rfl
theorem oJJ : aA.orc nJJ = none := rfl
theorem sJK : aA.fn Zd = some (⟨false,false,true⟩,qJK) := rfl
theorem iJK : aA.inp Zd = none := rfl
theorem lJK : aA.loc Zd = false := rfl
theorem oJK : aA.orc Zd = none := rfl
theorem sJL : aA.fn nJL = some (⟨false,false,false⟩,qJL) := rfl
theorem iJL : aA.inp nJL = none := rfl
theorem lJL : aA.loc nJL = false := rfl
theorem oJL : aA.orc nJL = none := rfl
theorem sJM : aA.fn nJM = some (⟨false,false,true⟩,qJM) := rfl
theorem iJM : aA.inp nJM = none := rfl
theorem lJM : aA.loc nJM = false := rfl
theorem oJM : aA.orc nJM = none := rfl
theorem sJN : aA.fn nJN = some (⟨false,false,false⟩,qJN) := rfl
theorem iJN : aA.inp nJN = none := rfl
theorem lJN : aA.loc nJN = false := rfl
theorem oJN : aA.orc nJN = none := rfl
theorem sJO : aA.fn nJO = some (⟨false,false,true⟩,qJO) := rfl
theorem iJO : aA.inp nJO = none := rfl
theorem lJO : aA.loc nJO = false := rfl
theorem oJO : aA.orc nJO = none := rfl
theorem sJP : aA.fn nJP = some (⟨false,false,false⟩,qJP) := rfl
theorem iJP : aA.inp nJP = none := rfl
theorem lJP : aA.loc nJP = false := rfl
theorem oJP : aA.orc nJP = none := rfl
theorem sJQ : aA.fn nJQ = some (⟨false,false,false⟩,qJQ) := rfl
theorem iJQ : aA.inp nJQ = none := rfl
theorem lJQ : aA.loc nJQ = false := rfl
theorem oJQ : aA.orc nJQ = none := rfl
theorem sJR : aA.fn nJR = some (⟨true,false,false⟩,qJR) := rfl
theorem iJR : aA.inp nJR = none := rfl
theorem lJR : aA.loc nJR = false := rfl
theorem oJR : aA.orc nJR = none := rfl
theorem sJS : aA.fn nJS = some (⟨true,false,false⟩,qJS) := rfl
theorem oJS : aA.orc nJS = none := rfl
theorem sJT : aA.fn nJT = some (⟨false,false,false⟩,qJT) := rfl
theorem iJT : aA.inp nJT = none := rfl
theorem lJT : aA.loc nJT = false := rfl
theorem oJT : aA.orc nJT = none := rfl
theorem sJU : aA.fn nJU = some (⟨false,false,true⟩,qJU) := rfl
theorem iJU : aA.inp nJU = none := rfl
theorem lJU : aA.loc nJU = false := rfl
theorem oJU : aA.orc nJU = none := rfl
theorem sJV : aA.fn nJV = some (⟨true,false,false⟩,qJV) := rfl
theorem oJV : aA.orc nJV = none := rfl
theorem sJW : aA.fn nJW = some (⟨true,false,false⟩,qJW) := rfl
theorem oJW : aA.orc nJW = none := rfl
theorem sJX : aA.fn nJX = some (⟨false,false,true⟩,qJX) := rfl
theorem iJX : aA.inp nJX = none := rfl
theorem lJX : aA.loc nJX = false := rfl
theorem oJX : aA.orc nJX = none := rfl
theorem sJY : aA.fn nJY = some (⟨false,false,false⟩,qJY) := rfl
theorem iJY : aA.inp nJY = none := rfl
theorem lJY : aA.loc nJY = false := rfl
theorem oJY : aA.orc nJY = none := rfl
theorem sJZ : aA.fn nJZ = some (⟨false,false,false⟩,qJZ) := rfl
theorem iJZ : aA.inp nJZ = none := rfl
theorem lJZ : aA.loc nJZ = false := rfl
theorem oJZ : aA.orc nJZ = none := rfl
theorem sJ0 : aA.fn nJ0 = some (⟨false,false,true⟩,qJ0) := rfl
theorem iJ0 : aA.inp nJ0 = none := rfl
theorem lJ0 : aA.loc nJ0 = false := rfl
theorem oJ0 : aA.orc nJ0 = none := rfl
theorem sJ1 : aA.fn nJ1 = some (⟨true,false,false⟩,qJ1) := rfl
theorem iJ1 : aA.inp nJ1 = none := rfl
theorem lJ1 : aA.loc nJ1 = false := rfl
theorem oJ1 : aA.orc nJ1 = none := rfl
theorem sJ2 : aA.fn nJ2 = some (⟨false,false,true⟩,qJ2) := rfl
theorem iJ2 : aA.inp nJ2 = none := rfl
theorem lJ2 : aA.loc nJ2 = false := rfl
theorem oJ2 : aA.orc nJ2 = none := rfl
theorem sJ3 : aA.fn nJ3 = some (⟨false,false,true⟩,qJ3) := rfl
theorem iJ3 : aA.inp nJ3 = none := rfl
theorem lJ3 : aA.loc nJ3 = false := rfl
theorem oJ3 : aA.orc nJ3 = none := rfl
theorem sJ4 : aA.fn nJ4 = some (⟨false,false,false⟩,qJ4) := rfl
theorem iJ4 : aA.inp nJ4 = none := rfl
theorem lJ4 : aA.loc nJ4 = false := rfl
theorem oJ4 : aA.orc nJ4 = none := rfl
theorem sJ5 : aA.fn nJ5 = some (⟨false,false,false⟩,qJ5) := rfl
theorem iJ5 : aA.inp nJ5 = none := rfl
theorem lJ5 : aA.loc nJ5 = false := rfl
theorem oJ5 : aA.orc nJ5 = none := rfl
theorem sJ6 : aA.fn nJ6 = some (⟨false,false,true⟩,qJ6) := rfl
theorem iJ6 : aA.inp nJ6 = none := rfl
theorem lJ6 : aA.loc nJ6 = false := rfl
theorem oJ6 : aA.orc nJ6 = none := rfl
theorem sJ7 : aA.fn nJ7 = some (⟨false,false,true⟩,qJ7) := rfl
theorem iJ7 : aA.inp nJ7 = none := rfl
theorem lJ7 : aA.loc nJ7 = false := rfl
theorem oJ7 : aA.orc nJ7 = none := rfl
theorem sJ8 : aA.fn nJ8 = some (⟨false,false,false⟩,qJ8) := rfl
theorem iJ8 : aA.inp nJ8 = none := rfl
theorem lJ8 : aA.loc nJ8 = false := rfl
theorem oJ8 : aA.orc nJ8 = none := rfl
theorem sJ9 : aA.fn nJ9 = some (⟨false,false,false⟩,qJ9) := rfl
theorem iJ9 : aA.inp nJ9 = none := rfl
theorem lJ9 : aA.loc nJ9 = false := rfl
theorem oJ9 : aA.orc nJ9 = none := rfl
theorem OP : aA.fn E6 = some (⟨true,false,false⟩,T3) := rfl
theorem UB : aA.inp E6 = none := rfl
theorem Uw : aA.loc E6 = false := rfl
theorem oJa0 : aA.orc E6 = none := rfl
theorem sJa1 : aA.fn Pv = some (⟨false,false,true⟩,Wz) := rfl
theorem iJa1 : aA.inp Pv = none := rfl
theorem lJa1 : aA.loc Pv = false := rfl
theorem oJa1 : aA.orc Pv = none := rfl
theorem Ay : aA.fn Cq = some (⟨false,true,true⟩,Z4) := rfl
theorem Cu : aA.inp Cq = none := rfl
theorem Ct : aA.loc Cq = false := rfl
theorem oJa2 : aA.orc Cq = some UT := rfl
theorem sJa3 : aA.fn Pu = some (⟨false,false,false⟩,T2) := rfl
theorem iJa3 : aA.inp Pu = none := rfl
theorem lJa3 : aA.loc Pu = false := rfl
theorem oJa3 : aA.orc Pu = none := rfl
theorem sJa4 : aA.fn Pt = some (⟨false,false,true⟩,ZZ) := rfl
theorem iJa4 : aA.inp Pt = none := rfl
theorem lJa4 : aA.loc Pt = false := rfl
theorem oJa4 : aA.orc Pt = none := rfl
theorem sJa5 : aA.fn Mu = some (⟨false,false,true⟩,ZY) := rfl
theorem iJa5 : aA.inp Mu = none := rfl
theorem lJa5 : aA.loc Mu = false := rfl
theorem oJa5 : aA.orc Mu = none := rfl
theorem sJa6 : aA.fn Ps = some (⟨false,false,false⟩,Wy) := rfl
theorem iJa6 : aA.inp Ps = none := rfl
theorem lJa6 : aA.loc Ps = false := rfl
theorem oJa6 : aA.orc Ps = none := rfl
theorem sJa7 : aA.fn Ul = some (⟨false,false,true⟩,ZX) := rfl
theorem oJa7 : aA.orc Ul = none := rfl
theorem ZE : aA.fn Mt = some (⟨false,false,true⟩,ZW) := rfl
theorem iJa8 : aA.inp Mt = none := rfl
theorem lJa8 : aA.loc Mt = false := rfl
theorem oJa8 : aA.orc Mt = none := rfl
theorem sJa9 : aA.fn Pr = some (⟨false,false,true⟩,qJa9) := rfl
theorem JW : aA.inp Pr = some OI := rfl
theorem JR : aA.loc Pr = false := rfl
theorem sJb0 : aA.fn Pq = some (⟨false,false,false⟩,qJb0) := rfl
theorem JV : aA.inp Pq = some PX := rfl
theorem JQ : aA.loc Pq = false := rfl
end Go.BmP
