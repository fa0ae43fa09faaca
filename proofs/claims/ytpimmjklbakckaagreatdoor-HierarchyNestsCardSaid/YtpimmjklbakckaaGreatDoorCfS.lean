/- The configuration with the library's functions that write into the slice they are given, and what it says of each function. -/
import Derived.Test.YtpimmjklbakckaaGreatDoorBmP
import Derived.Test.YtpimmjklbakckaaGreatDoorPsG
set_option maxRecDepth 100000
open Go.Proofs.Tryz renaming prog → aj
namespace Go.BmP
open Go.Am Go.Bm
def Gw (f:Nat):Option (Nat->List AV->List AV->Option (List AV × Option Nat)):=if f=nQ8 then some PJ else if f=nQ9 then some Q0 else if f=nQD then some (psG V6) else none
def Ym (f:Nat):Option (List AV->Heap->Option (AV × Heap)):=if f=nQ7 then some Ww else if f=nQ6 then some Jt else none
def B7 (f:Nat):Bool:=if f=MV then true else false
def aC:Go.Bm.dO:={ cfg with inp:=Gw,orc:=Ym,loc:=B7 }
theorem Q9:eR aj aC:=⟨UH.mixed,UH.fn⟩
theorem empN (f:Nat):aC.emp f=false:=rfl
theorem movN (f:Nat):aC.mov f=none:=rfl
theorem qQ (f:Nat):aC.eat f=none:=rfl
theorem sQa:aC.fn nQa=some (⟨false,false,true⟩,qQa):=rfl
theorem sQb:aC.fn nQb=some (⟨true,false,false⟩,qQb):=rfl
theorem iQb:aC.inp nQb=none/\aC.loc nQb=false:=⟨rfl,rfl⟩
theorem sQc:aC.fn nQc=some (⟨true,false,false⟩,qQc):=rfl
theorem iQc:aC.inp nQc=none/\aC.loc nQc=false:=⟨rfl,rfl⟩
theorem sQd:aC.fn nQd=some (⟨false,false,false⟩,qQd):=rfl
theorem iQd:aC.inp nQd=none/\aC.loc nQd=false:=⟨rfl,rfl⟩
theorem sQe:aC.fn nQe=some (⟨false,false,false⟩,qQe):=rfl
theorem iQe:aC.inp nQe=none/\aC.loc nQe=false:=⟨rfl,rfl⟩
theorem sQf:aC.fn nQf=some (⟨false,false,true⟩,qQf):=rfl
theorem iQf:aC.inp nQf=none/\aC.loc nQf=false:=⟨rfl,rfl⟩
theorem sQg:aC.fn nQg=some (⟨false,false,false⟩,qQg):=rfl
theorem iQg:aC.inp nQg=none/\aC.loc nQg=false:=⟨rfl,rfl⟩
theorem sQh:aC.fn nQh=some (⟨false,false,false⟩,qQh):=rfl
theorem iQh:aC.inp nQh=none/\aC.loc nQh=false:=⟨rfl,rfl⟩
theorem sQi:aC.fn nQi=some (⟨false,false,true⟩,qQi):=rfl
theorem iQi:aC.inp nQi=none/\aC.loc nQi=false:=⟨rfl,rfl⟩
theorem sQj:aC.fn nQj=some (⟨false,false,true⟩,qQj):=rfl
theorem iQj:aC.inp nQj=none/\aC.loc nQj=false:=⟨rfl,rfl⟩
theorem sQk:aC.fn MV=some (⟨true,false,false⟩,qQk):=rfl
theorem iQk:aC.inp MV=none/\aC.loc MV=true:=⟨rfl,rfl⟩
theorem sQl:aC.fn nQl=some (⟨true,true,false⟩,qQl):=rfl
theorem iQl:aC.inp nQl=none/\aC.loc nQl=false:=⟨rfl,rfl⟩
theorem sQm:aC.fn nQm=some (⟨true,false,false⟩,qQm):=rfl
theorem iQm:aC.inp nQm=none/\aC.loc nQm=false:=⟨rfl,rfl⟩
theorem sQn:aC.fn nQn=some (⟨false,false,true⟩,qQn):=rfl
theorem iQn:aC.inp nQn=none/\aC.loc nQn=false:=⟨rfl,rfl⟩
theorem sQo:aC.fn nQo=some (⟨true,false,false⟩,qQo):=rfl
theorem iQo:aC.inp nQo=none/\aC.loc nQo=false:=⟨rfl,rfl⟩
theorem sQp:aC.fn W7=some (⟨false,false,true⟩,qQp):=rfl
theorem iQp:aC.inp W7=none/\aC.loc W7=false:=⟨rfl,rfl⟩
theorem sQq:aC.fn nQq=some (⟨false,false,false⟩,qQq):=rfl
theorem iQq:aC.inp nQq=none/\aC.loc nQq=false:=⟨rfl,rfl⟩
theorem sQr:aC.fn nQr=some (⟨false,false,true⟩,qQr):=rfl
theorem iQr:aC.inp nQr=none/\aC.loc nQr=false:=⟨rfl,rfl⟩
theorem sQs:aC.fn nQs=some (⟨false,false,false⟩,qQs):=rfl
theorem iQs:aC.inp nQs=none/\aC.loc nQs=false:=⟨rfl,rfl⟩
theorem sQt:aC.fn nQt=some (⟨false,false,true⟩,qQt):=rfl
theorem iQt:aC.inp nQt=none/\aC.loc nQt=false:=⟨rfl,rfl⟩
theorem sQu:aC.fn nQu=some (⟨false,false,false⟩,qQu):=rfl
theorem iQu:aC.inp nQu=none/\aC.loc nQu=false:=⟨rfl,rfl⟩
theorem sQv:aC.fn nQv=some (⟨true,false,false⟩,qQv):=rfl
theorem iQv:aC.inp nQv=none/\aC.loc nQv=false:=⟨rfl,rfl⟩
theorem sQw:aC.fn nQw=some (⟨true,false,false⟩,qQw):=rfl
theorem iQw:aC.inp nQw=none/\aC.loc nQw=false:=⟨rfl,rfl⟩
theorem sQx:aC.fn nQx=some (⟨false,false,true⟩,qQx):=rfl
theorem iQx:aC.inp nQx=none/\aC.loc nQx=false:=⟨rfl,rfl⟩
theorem sQz:aC.fn nQz=some (⟨false,false,true⟩,qQz):=rfl
theorem iQz:aC.inp nQz=none/\aC.loc nQz=false:=⟨rfl,rfl⟩
theorem sQA:aC.fn nQA=some (⟨false,false,true⟩,qQA):=rfl
theorem iQA:aC.inp nQA=none/\aC.loc nQA=false:=⟨rfl,rfl⟩
theorem sQB:aC.fn nQB=some (⟨true,true,false⟩,qQB):=rfl
theorem iQB:aC.inp nQB=none/\aC.loc nQB=false:=⟨rfl,rfl⟩
theorem sQC:aC.fn nQC=some (⟨false,false,false⟩,qQC):=rfl
theorem iQC:aC.inp nQC=none/\aC.loc nQC=false:=⟨rfl,rfl⟩
theorem sQD:aC.fn nQD=some (⟨false,true,true⟩,qQD):=rfl
theorem iQD:aC.inp nQD=some (psG V6)/\aC.loc nQD=false:=⟨rfl,rfl⟩
theorem sQE:aC.fn V6=some (⟨false,false,true⟩,qQE):=gQE
theorem oQE:aC.orc V6=none:=rfl
theorem sQF:aC.fn O6=some (⟨false,false,true⟩,qQF):=gQF
theorem iQF:aC.inp O6=none/\aC.loc O6=false:=⟨rfl,rfl⟩
theorem oQF:aC.orc O6=none:=rfl
theorem Xy:aC.fn Lw=some (⟨false,false,true⟩,qQG):=gQG
theorem iQG:aC.inp Lw=none/\aC.loc Lw=false:=⟨rfl,rfl⟩
theorem oQG:aC.orc Lw=none:=rfl
theorem sQH:aC.fn Qn=some (⟨false,false,true⟩,qQH):=gQH
theorem iQH:aC.inp Qn=none/\aC.loc Qn=false:=⟨rfl,rfl⟩
theorem oQH:aC.orc Qn=none:=rfl
theorem sQI:aC.fn nQI=some (⟨false,false,true⟩,qQI):=rfl
theorem iQI:aC.inp nQI=none/\aC.loc nQI=false:=⟨rfl,rfl⟩
theorem sQJ:aC.fn nQJ=some (⟨false,false,false⟩,qQJ):=rfl
theorem iQJ:aC.inp nQJ=none/\aC.loc nQJ=false:=⟨rfl,rfl⟩
theorem sQK:aC.fn nQK=some (⟨false,false,true⟩,qQK):=rfl
theorem iQK:aC.inp nQK=none/\aC.loc nQK=false:=⟨rfl,rfl⟩
theorem sQL:aC.fn nQL=some (⟨false,false,false⟩,qQL):=rfl
theorem iQL:aC.inp nQL=none/\aC.loc nQL=false:=⟨rfl,rfl⟩
theorem sQM:aC.fn nQM=some (⟨false,false,true⟩,qQM):=rfl
theorem iQM:aC.inp nQM=none/\aC.loc nQM=false:=⟨rfl,rfl⟩
theorem sQN:aC.fn nQN=some (⟨false,false,false⟩,qQN):=rfl
theorem iQN:aC.inp nQN=none/\aC.loc nQN=false:=⟨rfl,rfl⟩
theorem sQO:aC.fn nQO=some (⟨false,false,false⟩,qQO):=rfl
theorem iQO:aC.inp nQO=none/\aC.loc nQO=false:=⟨rfl,rfl⟩
theorem sQP:aC.fn nQP=some (⟨false,false,false⟩,qQP):=rfl
theorem iQP:aC.inp nQP=none/\aC.loc nQP=false:=⟨rfl,rfl⟩
theorem sQQ:aC.fn nQQ=some (⟨false,false,true⟩,qQQ):=rfl
theorem iQQ:aC.inp nQQ=none/\aC.loc nQQ=false:=⟨rfl,rfl⟩
theorem sQS:aC.fn nQS=some (⟨false,false,true⟩,qQS):=rfl
theorem iQS:aC.inp nQS=none/\aC.loc nQS=false:=⟨rfl,rfl⟩
theorem sQT:aC.fn nQT=some (⟨false,false,true⟩,qQT):=rfl
theorem iQT:aC.inp nQT=none/\aC.loc nQT=false:=⟨rfl,rfl⟩
theorem sQU:aC.fn nQU=some (⟨false,false,true⟩,qQU):=rfl
theorem iQU:aC.inp nQU=none/\aC.loc nQU=false:=⟨rfl,rfl⟩
theorem sQV:aC.fn nQV=some (⟨false,false,true⟩,qQV):=rfl
theorem iQV:aC.inp nQV=none/\aC.loc nQV=false:=⟨rfl,rfl⟩
theorem sQW:aC.fn nQW=some (⟨false,false,false⟩,qQW):=rfl
theorem iQW:aC.inp nQW=none/\aC.loc nQW=false:=⟨rfl,rfl⟩
theorem oQW:aC.orc nQW=none:=rfl
theorem sQX:aC.fn O5=some (⟨false,false,true⟩,qQX):=gQX
theorem iQX:aC.inp O5=none/\aC.loc O5=false:=⟨rfl,rfl⟩
theorem oQX:aC.orc O5=none:=rfl
theorem sQY:aC.fn Qm=some (⟨false,false,true⟩,qQY):=gQY
theorem iQY:aC.inp Qm=none/\aC.loc Qm=false:=⟨rfl,rfl⟩
theorem oQY:aC.orc Qm=none:=rfl
theorem sQZ:aC.fn nQZ=some (⟨false,false,false⟩,qQZ):=rfl
theorem iQZ:aC.inp nQZ=none/\aC.loc nQZ=false:=⟨rfl,rfl⟩
theorem sQ0:aC.fn nQ0=some (⟨false,false,true⟩,qQ0):=rfl
theorem iQ0:aC.inp nQ0=none/\aC.loc nQ0=false:=⟨rfl,rfl⟩
theorem sQ1:aC.fn nQ1=some (⟨false,false,true⟩,qQ1):=rfl
theorem iQ1:aC.inp nQ1=none/\aC.loc nQ1=false:=⟨rfl,rfl⟩
theorem sQ2:aC.fn nQ2=some (⟨false,false,true⟩,qQ2):=rfl
theorem iQ2:aC.inp nQ2=none/\aC.loc nQ2=false:=⟨rfl,rfl⟩
theorem sQ3:aC.fn nQ3=some (⟨false,false,false⟩,qQ3):=rfl
theorem iQ3:aC.inp nQ3=none/\aC.loc nQ3=false:=⟨rfl,rfl⟩
theorem sQ4:aC.fn nQ4=some (⟨false,false,false⟩,qQ4):=rfl
theorem iQ4:aC.inp nQ4=none/\aC.loc nQ4=false:=⟨rfl,rfl⟩
theorem sQ5:aC.fn nQ5=some (⟨false,false,true⟩,qQ5):=rfl
theorem sQ6:aC.fn nQ6=some (⟨false,true,true⟩,qQ6):=rfl
theorem iQ6:aC.inp nQ6=none/\aC.loc nQ6=false:=⟨rfl,rfl⟩
theorem oQ6:aC.orc nQ6=some Jt:=rfl
theorem sQ7:aC.fn nQ7=some (⟨false,true,true⟩,qQ7):=rfl
theorem iQ7:aC.inp nQ7=none/\aC.loc nQ7=false:=⟨rfl,rfl⟩
theorem oQ7:aC.orc nQ7=some Ww:=rfl
theorem sQ8:aC.fn nQ8=some (⟨false,false,true⟩,qQ8):=rfl
theorem iQ8:aC.inp nQ8=some PJ/\aC.loc nQ8=false:=⟨rfl,rfl⟩
theorem sQ9:aC.fn nQ9=some (⟨false,false,false⟩,qQ9):=rfl
theorem iQ9:aC.inp nQ9=some Q0/\aC.loc nQ9=false:=⟨rfl,rfl⟩
end Go.BmP
