/- The configuration with the library's functions that write into the slice they are given, and what it says of each function. -/
import Derived.Test.YtpimmjklbakckaaDoorBmP
import Derived.Test.YtpimmjklbakckaaDoorPsG
set_option maxRecDepth 100000
open Go.Proofs.Tryd renaming prog → ak
namespace Go.BmP
open Go.Am Go.Bm
def Eu (f:Nat):Option (Nat->List AV->List AV->Option (List AV × Option Nat)):=if f=nQ3 then some M6 else if f=nQ4 then some Ol else if f=nQB then some (psG Ts) else none
def VJ (f:Nat):Option (List AV->Heap->Option (AV × Heap)):=if f=Yd then some TQ else if f=nQ1 then some Hb else none
def AR (f:Nat):Bool:=if f=It then true else false
def aD:Go.Bm.dM:={ cfg with inp:=Eu,orc:=VJ,loc:=AR }
theorem Oz:eM ak aD:=⟨R6.mixed,R6.fn⟩
theorem empN (f:Nat):aD.emp f=false:=rfl
theorem movN (f:Nat):aD.mov f=none:=rfl
theorem qf (f:Nat):aD.eat f=none:=rfl
theorem sQa:aD.fn nQa=some (⟨false,false,true⟩,qQa):=rfl
theorem sQb:aD.fn nQb=some (⟨true,false,false⟩,qQb):=rfl
theorem iQb:aD.inp nQb=none/\aD.loc nQb=false:=⟨rfl,rfl⟩
theorem sQc:aD.fn nQc=some (⟨true,false,false⟩,qQc):=rfl
theorem iQc:aD.inp nQc=none/\aD.loc nQc=false:=⟨rfl,rfl⟩
theorem sQd:aD.fn Yc=some (⟨false,false,false⟩,qQd):=rfl
theorem iQd:aD.inp Yc=none/\aD.loc Yc=false:=⟨rfl,rfl⟩
theorem sQe:aD.fn Zl=some (⟨false,false,true⟩,qQe):=rfl
theorem iQe:aD.inp Zl=none/\aD.loc Zl=false:=⟨rfl,rfl⟩
theorem sQf:aD.fn It=some (⟨true,false,false⟩,qQf):=rfl
theorem iQf:aD.inp It=none/\aD.loc It=true:=⟨rfl,rfl⟩
theorem sQg:aD.fn nQg=some (⟨false,false,true⟩,qQg):=rfl
theorem iQg:aD.inp nQg=none/\aD.loc nQg=false:=⟨rfl,rfl⟩
theorem sQh:aD.fn nQh=some (⟨false,false,false⟩,qQh):=rfl
theorem iQh:aD.inp nQh=none/\aD.loc nQh=false:=⟨rfl,rfl⟩
theorem sQi:aD.fn nQi=some (⟨false,false,true⟩,qQi):=rfl
theorem iQi:aD.inp nQi=none/\aD.loc nQi=false:=⟨rfl,rfl⟩
theorem sQj:aD.fn nQj=some (⟨false,false,false⟩,qQj):=rfl
theorem iQj:aD.inp nQj=none/\aD.loc nQj=false:=⟨rfl,rfl⟩
theorem sQk:aD.fn nQk=some (⟨false,false,true⟩,qQk):=rfl
theorem iQk:aD.inp nQk=none/\aD.loc nQk=false:=⟨rfl,rfl⟩
theorem sQl:aD.fn nQl=some (⟨true,true,false⟩,qQl):=rfl
theorem iQl:aD.inp nQl=none/\aD.loc nQl=false:=⟨rfl,rfl⟩
theorem sQm:aD.fn nQm=some (⟨true,false,false⟩,qQm):=rfl
theorem iQm:aD.inp nQm=none/\aD.loc nQm=false:=⟨rfl,rfl⟩
theorem sQn:aD.fn nQn=some (⟨false,false,true⟩,qQn):=rfl
theorem iQn:aD.inp nQn=none/\aD.loc nQn=false:=⟨rfl,rfl⟩
theorem sQo:aD.fn nQo=some (⟨true,false,false⟩,qQo):=rfl
theorem iQo:aD.inp nQo=none/\aD.loc nQo=false:=⟨rfl,rfl⟩
theorem sQp:aD.fn Uq=some (⟨false,false,true⟩,qQp):=rfl
theorem iQp:aD.inp Uq=none/\aD.loc Uq=false:=⟨rfl,rfl⟩
theorem sQq:aD.fn nQq=some (⟨false,false,false⟩,qQq):=rfl
theorem iQq:aD.inp nQq=none/\aD.loc nQq=false:=⟨rfl,rfl⟩
theorem sQs:aD.fn nQs=some (⟨false,false,true⟩,qQs):=rfl
theorem iQs:aD.inp nQs=none/\aD.loc nQs=false:=⟨rfl,rfl⟩
theorem sQt:aD.fn nQt=some (⟨true,false,false⟩,qQt):=rfl
theorem iQt:aD.inp nQt=none/\aD.loc nQt=false:=⟨rfl,rfl⟩
theorem sQu:aD.fn nQu=some (⟨true,false,false⟩,qQu):=rfl
theorem iQu:aD.inp nQu=none/\aD.loc nQu=false:=⟨rfl,rfl⟩
theorem sQv:aD.fn nQv=some (⟨false,false,true⟩,qQv):=rfl
theorem iQv:aD.inp nQv=none/\aD.loc nQv=false:=⟨rfl,rfl⟩
theorem sQw:aD.fn nQw=some (⟨true,false,false⟩,qQw):=rfl
theorem iQw:aD.inp nQw=none/\aD.loc nQw=false:=⟨rfl,rfl⟩
theorem sQx:aD.fn nQx=some (⟨false,false,false⟩,qQx):=rfl
theorem iQx:aD.inp nQx=none/\aD.loc nQx=false:=⟨rfl,rfl⟩
theorem sQy:aD.fn nQy=some (⟨false,false,true⟩,qQy):=rfl
theorem iQy:aD.inp nQy=none/\aD.loc nQy=false:=⟨rfl,rfl⟩
theorem sQz:aD.fn nQz=some (⟨true,true,false⟩,qQz):=rfl
theorem iQz:aD.inp nQz=none/\aD.loc nQz=false:=⟨rfl,rfl⟩
theorem sQA:aD.fn nQA=some (⟨false,false,false⟩,qQA):=rfl
theorem iQA:aD.inp nQA=none/\aD.loc nQA=false:=⟨rfl,rfl⟩
theorem sQB:aD.fn nQB=some (⟨false,true,true⟩,qQB):=rfl
theorem iQB:aD.inp nQB=some (psG Ts)/\aD.loc nQB=false:=⟨rfl,rfl⟩
theorem sQC:aD.fn Ts=some (⟨false,false,true⟩,qQC):=gQC
theorem oQC:aD.orc Ts=none:=rfl
theorem sQD:aD.fn MC=some (⟨false,false,true⟩,qQD):=gQD
theorem iQD:aD.inp MC=none/\aD.loc MC=false:=⟨rfl,rfl⟩
theorem oQD:aD.orc MC=none:=rfl
theorem UQ:aD.fn Jp=some (⟨false,false,true⟩,qQE):=gQE
theorem ZF:aD.inp Jp=none/\aD.loc Jp=false:=⟨rfl,rfl⟩
theorem oQE:aD.orc Jp=none:=rfl
theorem sQF:aD.fn NF=some (⟨false,false,true⟩,qQF):=gQF
theorem iQF:aD.inp NF=none/\aD.loc NF=false:=⟨rfl,rfl⟩
theorem oQF:aD.orc NF=none:=rfl
theorem sQG:aD.fn nQG=some (⟨false,false,true⟩,qQG):=rfl
theorem iQG:aD.inp nQG=none/\aD.loc nQG=false:=⟨rfl,rfl⟩
theorem sQH:aD.fn nQH=some (⟨false,false,false⟩,qQH):=rfl
theorem iQH:aD.inp nQH=none/\aD.loc nQH=false:=⟨rfl,rfl⟩
theorem sQI:aD.fn nQI=some (⟨false,false,true⟩,qQI):=rfl
theorem iQI:aD.inp nQI=none/\aD.loc nQI=false:=⟨rfl,rfl⟩
theorem sQJ:aD.fn nQJ=some (⟨false,false,false⟩,qQJ):=rfl
theorem iQJ:aD.inp nQJ=none/\aD.loc nQJ=false:=⟨rfl,rfl⟩
theorem sQL:aD.fn nQL=some (⟨false,false,true⟩,qQL):=rfl
theorem iQL:aD.inp nQL=none/\aD.loc nQL=false:=⟨rfl,rfl⟩
theorem sQM:aD.fn nQM=some (⟨false,false,false⟩,qQM):=rfl
theorem iQM:aD.inp nQM=none/\aD.loc nQM=false:=⟨rfl,rfl⟩
theorem sQN:aD.fn nQN=some (⟨false,false,true⟩,qQN):=rfl
theorem iQN:aD.inp nQN=none/\aD.loc nQN=false:=⟨rfl,rfl⟩
theorem sQO:aD.fn nQO=some (⟨false,false,true⟩,qQO):=rfl
theorem iQO:aD.inp nQO=none/\aD.loc nQO=false:=⟨rfl,rfl⟩
theorem sQP:aD.fn nQP=some (⟨false,false,true⟩,qQP):=rfl
theorem iQP:aD.inp nQP=none/\aD.loc nQP=false:=⟨rfl,rfl⟩
theorem sQQ:aD.fn nQQ=some (⟨false,false,true⟩,qQQ):=rfl
theorem iQQ:aD.inp nQQ=none/\aD.loc nQQ=false:=⟨rfl,rfl⟩
theorem sQR:aD.fn nQR=some (⟨false,false,false⟩,qQR):=rfl
theorem iQR:aD.inp nQR=none/\aD.loc nQR=false:=⟨rfl,rfl⟩
theorem oQR:aD.orc nQR=none:=rfl
theorem YE:aD.fn MB=some (⟨false,false,true⟩,qQS):=gQS
theorem iQS:aD.inp MB=none/\aD.loc MB=false:=⟨rfl,rfl⟩
theorem oQS:aD.orc MB=none:=rfl
theorem sQT:aD.fn ND=some (⟨false,false,true⟩,qQT):=gQT
theorem iQT:aD.inp ND=none/\aD.loc ND=false:=⟨rfl,rfl⟩
theorem oQT:aD.orc ND=none:=rfl
theorem sQU:aD.fn nQU=some (⟨false,false,false⟩,qQU):=rfl
theorem iQU:aD.inp nQU=none/\aD.loc nQU=false:=⟨rfl,rfl⟩
theorem sQV:aD.fn nQV=some (⟨false,false,true⟩,qQV):=rfl
theorem iQV:aD.inp nQV=none/\aD.loc nQV=false:=⟨rfl,rfl⟩
theorem sQW:aD.fn nQW=some (⟨false,false,true⟩,qQW):=rfl
theorem iQW:aD.inp nQW=none/\aD.loc nQW=false:=⟨rfl,rfl⟩
theorem sQX:aD.fn nQX=some (⟨false,false,true⟩,qQX):=rfl
theorem iQX:aD.inp nQX=none/\aD.loc nQX=false:=⟨rfl,rfl⟩
theorem sQY:aD.fn nQY=some (⟨false,false,false⟩,qQY):=rfl
theorem iQY:aD.inp nQY=none/\aD.loc nQY=false:=⟨rfl,rfl⟩
theorem sQZ:aD.fn nQZ=some (⟨false,false,false⟩,qQZ):=rfl
theorem iQZ:aD.inp nQZ=none/\aD.loc nQZ=false:=⟨rfl,rfl⟩
theorem sQ0:aD.fn nQ0=some (⟨false,false,true⟩,qQ0):=rfl
theorem sQ1:aD.fn nQ1=some (⟨false,true,true⟩,qQ1):=rfl
theorem iQ1:aD.inp nQ1=none/\aD.loc nQ1=false:=⟨rfl,rfl⟩
theorem oQ1:aD.orc nQ1=some Hb:=rfl
theorem Yb:aD.fn Yd=some (⟨false,true,true⟩,qQ2):=rfl
theorem ZI:aD.inp Yd=none/\aD.loc Yd=false:=⟨rfl,rfl⟩
theorem oQ2:aD.orc Yd=some TQ:=rfl
theorem sQ3:aD.fn nQ3=some (⟨false,false,true⟩,qQ3):=rfl
theorem ZH:aD.inp nQ3=some M6/\aD.loc nQ3=false:=⟨rfl,rfl⟩
theorem sQ4:aD.fn nQ4=some (⟨false,false,false⟩,qQ4):=rfl
theorem ZG:aD.inp nQ4=some Ol/\aD.loc nQ4=false:=⟨rfl,rfl⟩
end Go.BmP
