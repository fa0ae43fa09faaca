/- The configuration with the library's functions that write into the slice they are given, and what it says of each function. -/
import Derived.Test.YtbnheahpdodmjaaGreatDoorBmP
import Derived.Test.YtbnheahpdodmjaaGreatDoorPsG
set_option maxRecDepth 100000
open Go.Proofs.Tryz renaming prog → aj
namespace Go.BmP
open Go.Am Go.Bm
def Lj (f:Nat):Option (Nat->List AV->List AV->Option (List AV × Option Nat)):=if f=Sz then some Vv else if f=Sy then some W3 else if f=nQW then some (psG nQX) else none
def orcF (f:Nat):Option (List AV->Heap->Option (AV × Heap)):=if f=KQ then some gClo else if f=P4 then some OI else none
def FD (f:Nat):Bool:=if f=KP then true else if f=nQg then true else false
def Fy (f:Nat):Option Nat:=if f=nQr then some 0 else none
def an:Go.Bm.eI:={ cfg with inp:=Lj,orc:=orcF,loc:=FD,mov:=Fy }
theorem Xg:fj aj an:=⟨aa9.mixed,aa9.fn⟩
theorem tZ (f:Nat):an.emp f=false:=rfl
theorem sO (f:Nat):an.eat f=none:=rfl
theorem sQa:an.fn nQa=some (⟨false,false,true⟩,qQa):=rfl
theorem sQb:an.fn nQb=some (⟨false,false,true⟩,qQb):=rfl
theorem iQb:an.inp nQb=none/\an.loc nQb=false/\an.mov nQb=none:=⟨rfl,rfl,rfl⟩
theorem sQc:an.fn nQc=some (⟨true,false,false⟩,qQc):=rfl
theorem iQc:an.inp nQc=none/\an.loc nQc=false/\an.mov nQc=none:=⟨rfl,rfl,rfl⟩
theorem sQd:an.fn nQd=some (⟨true,false,false⟩,qQd):=rfl
theorem iQd:an.inp nQd=none/\an.loc nQd=false/\an.mov nQd=none:=⟨rfl,rfl,rfl⟩
theorem sQe:an.fn Of=some (⟨false,false,false⟩,qQe):=rfl
theorem iQe:an.inp Of=none/\an.loc Of=false/\an.mov Of=none:=⟨rfl,rfl,rfl⟩
theorem sQf:an.fn KP=some (⟨true,false,false⟩,qQf):=rfl
theorem iQf:an.inp KP=none/\an.loc KP=true/\an.mov KP=none:=⟨rfl,rfl,rfl⟩
theorem sQg:an.fn nQg=some (⟨true,false,false⟩,qQg):=rfl
theorem iQg:an.inp nQg=none/\an.loc nQg=true/\an.mov nQg=none:=⟨rfl,rfl,rfl⟩
theorem sQh:an.fn nQh=some (⟨false,false,true⟩,qQh):=rfl
theorem iQh:an.inp nQh=none/\an.loc nQh=false/\an.mov nQh=none:=⟨rfl,rfl,rfl⟩
theorem sQi:an.fn nQi=some (⟨false,false,true⟩,qQi):=rfl
theorem iQi:an.inp nQi=none/\an.loc nQi=false/\an.mov nQi=none:=⟨rfl,rfl,rfl⟩
theorem sQj:an.fn Oe=some (⟨false,false,false⟩,qQj):=rfl
theorem iQj:an.inp Oe=none/\an.loc Oe=false/\an.mov Oe=none:=⟨rfl,rfl,rfl⟩
theorem sQk:an.fn nQk=some (⟨false,false,true⟩,qQk):=rfl
theorem iQk:an.inp nQk=none/\an.loc nQk=false/\an.mov nQk=none:=⟨rfl,rfl,rfl⟩
theorem sQm:an.fn nQm=some (⟨false,false,true⟩,qQm):=rfl
theorem iQm:an.inp nQm=none/\an.loc nQm=false/\an.mov nQm=none:=⟨rfl,rfl,rfl⟩
theorem sQn:an.fn nQn=some (⟨false,false,false⟩,qQn):=rfl
theorem iQn:an.inp nQn=none/\an.loc nQn=false/\an.mov nQn=none:=⟨rfl,rfl,rfl⟩
theorem sQo:an.fn nQo=some (⟨false,false,false⟩,qQo):=rfl
theorem iQo:an.inp nQo=none/\an.loc nQo=false/\an.mov nQo=none:=⟨rfl,rfl,rfl⟩
theorem sQp:an.fn nQp=some (⟨false,false,false⟩,qQp):=rfl
theorem iQp:an.inp nQp=none/\an.loc nQp=false/\an.mov nQp=none:=⟨rfl,rfl,rfl⟩
theorem sQq:an.fn nQq=some (⟨false,false,true⟩,qQq):=rfl
theorem iQq:an.inp nQq=none/\an.loc nQq=false/\an.mov nQq=none:=⟨rfl,rfl,rfl⟩
theorem sQr:an.fn nQr=some (⟨false,true,true⟩,qQr):=rfl
theorem iQr:an.inp nQr=none/\an.loc nQr=false/\an.mov nQr=some 0:=⟨rfl,rfl,rfl⟩
theorem sQs:an.fn nQs=some (⟨false,false,false⟩,qQs):=rfl
theorem iQs:an.inp nQs=none/\an.loc nQs=false/\an.mov nQs=none:=⟨rfl,rfl,rfl⟩
theorem sQt:an.fn nQt=some (⟨false,false,true⟩,qQt):=rfl
theorem iQt:an.inp nQt=none/\an.loc nQt=false/\an.mov nQt=none:=⟨rfl,rfl,rfl⟩
theorem sQu:an.fn nQu=some (⟨false,false,true⟩,qQu):=rfl
theorem iQu:an.inp nQu=none/\an.loc nQu=false/\an.mov nQu=none:=⟨rfl,rfl,rfl⟩
theorem sQv:an.fn nQv=some (⟨false,false,true⟩,qQv):=rfl
theorem iQv:an.inp nQv=none/\an.loc nQv=false/\an.mov nQv=none:=⟨rfl,rfl,rfl⟩
theorem sQw:an.fn nQw=some (⟨false,false,true⟩,qQw):=rfl
theorem iQw:an.inp nQw=none/\an.loc nQw=false/\an.mov nQw=none:=⟨rfl,rfl,rfl⟩
theorem sQx:an.fn nQx=some (⟨false,false,true⟩,qQx):=rfl
theorem iQx:an.inp nQx=none/\an.loc nQx=false/\an.mov nQx=none:=⟨rfl,rfl,rfl⟩
theorem sQy:an.fn nQy=some (⟨false,false,true⟩,qQy):=rfl
theorem iQy:an.inp nQy=none/\an.loc nQy=false/\an.mov nQy=none:=⟨rfl,rfl,rfl⟩
theorem sQz:an.fn nQz=some (⟨false,false,true⟩,qQz):=rfl
theorem iQz:an.inp nQz=none/\an.loc nQz=false/\an.mov nQz=none:=⟨rfl,rfl,rfl⟩
theorem sQA:an.fn nQA=some (⟨true,true,false⟩,qQA):=rfl
theorem iQA:an.inp nQA=none/\an.loc nQA=false/\an.mov nQA=none:=⟨rfl,rfl,rfl⟩
theorem sQB:an.fn nQB=some (⟨true,false,false⟩,qQB):=rfl
theorem iQB:an.inp nQB=none/\an.loc nQB=false/\an.mov nQB=none:=⟨rfl,rfl,rfl⟩
theorem sQC:an.fn nQC=some (⟨false,false,true⟩,qQC):=rfl
theorem iQC:an.inp nQC=none/\an.loc nQC=false/\an.mov nQC=none:=⟨rfl,rfl,rfl⟩
theorem sQD:an.fn nQD=some (⟨true,false,false⟩,qQD):=rfl
theorem iQD:an.inp nQD=none/\an.loc nQD=false/\an.mov nQD=none:=⟨rfl,rfl,rfl⟩
theorem sQE:an.fn nQE=some (⟨false,false,true⟩,qQE):=rfl
theorem iQE:an.inp nQE=none/\an.loc nQE=false/\an.mov nQE=none:=⟨rfl,rfl,rfl⟩
theorem sQF:an.fn nQF=some (⟨false,false,false⟩,qQF):=rfl
theorem iQF:an.inp nQF=none/\an.loc nQF=false/\an.mov nQF=none:=⟨rfl,rfl,rfl⟩
theorem sQG:an.fn nQG=some (⟨false,false,true⟩,qQG):=rfl
theorem iQG:an.inp nQG=none/\an.loc nQG=false/\an.mov nQG=none:=⟨rfl,rfl,rfl⟩
theorem sQK:an.fn nQK=some (⟨false,false,false⟩,qQK):=rfl
theorem iQK:an.inp nQK=none/\an.loc nQK=false/\an.mov nQK=none:=⟨rfl,rfl,rfl⟩
theorem sQL:an.fn nQL=some (⟨false,false,true⟩,qQL):=rfl
theorem iQL:an.inp nQL=none/\an.loc nQL=false/\an.mov nQL=none:=⟨rfl,rfl,rfl⟩
theorem sQM:an.fn nQM=some (⟨false,false,false⟩,qQM):=rfl
theorem iQM:an.inp nQM=none/\an.loc nQM=false/\an.mov nQM=none:=⟨rfl,rfl,rfl⟩
theorem sQN:an.fn nQN=some (⟨false,false,true⟩,qQN):=rfl
theorem iQN:an.inp nQN=none/\an.loc nQN=false/\an.mov nQN=none:=⟨rfl,rfl,rfl⟩
theorem sQO:an.fn nQO=some (⟨false,false,false⟩,qQO):=rfl
theorem iQO:an.inp nQO=none/\an.loc nQO=false/\an.mov nQO=none:=⟨rfl,rfl,rfl⟩
theorem sQP:an.fn nQP=some (⟨false,false,false⟩,qQP):=rfl
theorem iQP:an.inp nQP=none/\an.loc nQP=false/\an.mov nQP=none:=⟨rfl,rfl,rfl⟩
theorem sQQ:an.fn nQQ=some (⟨false,false,false⟩,qQQ):=rfl
theorem iQQ:an.inp nQQ=none/\an.loc nQQ=false/\an.mov nQQ=none:=⟨rfl,rfl,rfl⟩
theorem sQR:an.fn nQR=some (⟨false,false,true⟩,qQR):=rfl
theorem iQR:an.inp nQR=none/\an.loc nQR=false/\an.mov nQR=none:=⟨rfl,rfl,rfl⟩
theorem sQS:an.fn nQS=some (⟨false,false,true⟩,qQS):=rfl
theorem iQS:an.inp nQS=none/\an.loc nQS=false/\an.mov nQS=none:=⟨rfl,rfl,rfl⟩
theorem sQT:an.fn nQT=some (⟨false,false,true⟩,qQT):=rfl
theorem iQT:an.inp nQT=none/\an.loc nQT=false/\an.mov nQT=none:=⟨rfl,rfl,rfl⟩
theorem sQU:an.fn nQU=some (⟨true,true,false⟩,qQU):=rfl
theorem iQU:an.inp nQU=none/\an.loc nQU=false/\an.mov nQU=none:=⟨rfl,rfl,rfl⟩
theorem sQV:an.fn nQV=some (⟨false,false,false⟩,qQV):=rfl
theorem iQV:an.inp nQV=none/\an.loc nQV=false/\an.mov nQV=none:=⟨rfl,rfl,rfl⟩
theorem sQW:an.fn nQW=some (⟨false,true,true⟩,qQW):=rfl
theorem iQW:an.inp nQW=some (psG nQX)/\an.loc nQW=false/\an.mov nQW=none:=⟨rfl,rfl,rfl⟩
theorem sQX:an.fn nQX=some (⟨false,false,true⟩,qQX):=gQX
theorem oQX:an.orc nQX=none:=rfl
theorem sQY:an.fn Og=some (⟨false,false,true⟩,qQY):=gQY
theorem iQY:an.inp Og=none/\an.loc Og=false/\an.mov Og=none:=⟨rfl,rfl,rfl⟩
theorem oQY:an.orc Og=none:=rfl
theorem sQZ:an.fn MA=some (⟨false,false,true⟩,qQZ):=gQZ
theorem iQZ:an.inp MA=none/\an.loc MA=false/\an.mov MA=none:=⟨rfl,rfl,rfl⟩
theorem oQZ:an.orc MA=none:=rfl
theorem sQ0:an.fn P5=some (⟨false,false,true⟩,qQ0):=gQ0
theorem iQ0:an.inp P5=none/\an.loc P5=false/\an.mov P5=none:=⟨rfl,rfl,rfl⟩
theorem oQ0:an.orc P5=none:=rfl
theorem sQ1:an.fn nQ1=some (⟨false,false,true⟩,qQ1):=rfl
theorem iQ1:an.inp nQ1=none/\an.loc nQ1=false/\an.mov nQ1=none:=⟨rfl,rfl,rfl⟩
theorem sQ2:an.fn nQ2=some (⟨false,false,false⟩,qQ2):=rfl
theorem iQ2:an.inp nQ2=none/\an.loc nQ2=false/\an.mov nQ2=none:=⟨rfl,rfl,rfl⟩
theorem sQ3:an.fn nQ3=some (⟨false,false,true⟩,qQ3):=rfl
theorem iQ3:an.inp nQ3=none/\an.loc nQ3=false/\an.mov nQ3=none:=⟨rfl,rfl,rfl⟩
theorem sQ4:an.fn nQ4=some (⟨false,false,false⟩,qQ4):=rfl
theorem iQ4:an.inp nQ4=none/\an.loc nQ4=false/\an.mov nQ4=none:=⟨rfl,rfl,rfl⟩
theorem sQ6:an.fn nQ6=some (⟨false,false,true⟩,qQ6):=rfl
theorem iQ6:an.inp nQ6=none/\an.loc nQ6=false/\an.mov nQ6=none:=⟨rfl,rfl,rfl⟩
theorem sQ7:an.fn nQ7=some (⟨false,true,true⟩,qQ7):=rfl
theorem iQ7:an.inp nQ7=none/\an.loc nQ7=false/\an.mov nQ7=none:=⟨rfl,rfl,rfl⟩
theorem sQ8:an.fn nQ8=some (⟨false,false,false⟩,qQ8):=rfl
theorem iQ8:an.inp nQ8=none/\an.loc nQ8=false/\an.mov nQ8=none:=⟨rfl,rfl,rfl⟩
theorem sQ9:an.fn nQ9=some (⟨false,false,false⟩,qQ9):=rfl
theorem iQ9:an.inp nQ9=none/\an.loc nQ9=false/\an.mov nQ9=none:=⟨rfl,rfl,rfl⟩
theorem sQa0:an.fn Wk=some (⟨false,false,true⟩,qQa0):=rfl
theorem iQa0:an.inp Wk=none/\an.loc Wk=false/\an.mov Wk=none:=⟨rfl,rfl,rfl⟩
theorem sQa1:an.fn Wj=some (⟨false,false,true⟩,qQa1):=rfl
theorem iQa1:an.inp Wj=none/\an.loc Wj=false/\an.mov Wj=none:=⟨rfl,rfl,rfl⟩
theorem sQa2:an.fn SF=some (⟨false,false,true⟩,qQa2):=rfl
theorem iQa2:an.inp SF=none/\an.loc SF=false/\an.mov SF=none:=⟨rfl,rfl,rfl⟩
theorem sQa3:an.fn SE=some (⟨false,false,true⟩,qQa3):=rfl
theorem iQa3:an.inp SE=none/\an.loc SE=false/\an.mov SE=none:=⟨rfl,rfl,rfl⟩
theorem sQa4:an.fn SD=some (⟨false,false,false⟩,qQa4):=rfl
theorem iQa4:an.inp SD=none/\an.loc SD=false/\an.mov SD=none:=⟨rfl,rfl,rfl⟩
theorem oQa4:an.orc SD=none:=rfl
theorem PE:an.fn vL=some (⟨false,false,true⟩,VT):=gQa5
theorem Ww:an.inp vL=none/\an.loc vL=false/\an.mov vL=none:=⟨rfl,rfl,rfl⟩
theorem oQa5:an.orc vL=none:=rfl
theorem sQa6:an.fn wI=some (⟨false,false,true⟩,VS):=gQa6
theorem iQa6:an.inp wI=none/\an.loc wI=false/\an.mov wI=none:=⟨rfl,rfl,rfl⟩
theorem oQa6:an.orc wI=none:=rfl
theorem sQa7:an.fn Wi=some (⟨false,false,false⟩,qQa7):=rfl
theorem iQa7:an.inp Wi=none/\an.loc Wi=false/\an.mov Wi=none:=⟨rfl,rfl,rfl⟩
theorem sQa8:an.fn SC=some (⟨false,false,true⟩,qQa8):=rfl
theorem iQa8:an.inp SC=none/\an.loc SC=false/\an.mov SC=none:=⟨rfl,rfl,rfl⟩
theorem sQb0:an.fn Wh=some (⟨false,false,false⟩,qQb0):=rfl
theorem iQb0:an.inp Wh=none/\an.loc Wh=false/\an.mov Wh=none:=⟨rfl,rfl,rfl⟩
theorem sQb1:an.fn SA=some (⟨false,false,true⟩,qQb1):=rfl
theorem iQb1:an.inp SA=none/\an.loc SA=false/\an.mov SA=none:=⟨rfl,rfl,rfl⟩
theorem sQb2:an.fn Wg=some (⟨false,false,false⟩,qQb2):=rfl
theorem iQb2:an.inp Wg=none/\an.loc Wg=false/\an.mov Wg=none:=⟨rfl,rfl,rfl⟩
theorem sQb3:an.fn Wf=some (⟨false,false,false⟩,qQb3):=rfl
theorem iQb3:an.inp Wf=none/\an.loc Wf=false/\an.mov Wf=none:=⟨rfl,rfl,rfl⟩
theorem sQb4:an.fn nQb4=some (⟨false,false,true⟩,qQb4):=rfl
theorem sQb5:an.fn P4=some (⟨false,true,true⟩,qQb5):=rfl
theorem iQb5:an.inp P4=none/\an.loc P4=false/\an.mov P4=none:=⟨rfl,rfl,rfl⟩
theorem oQb5:an.orc P4=some OI:=rfl
theorem MK:an.fn KQ=some (⟨false,true,true⟩,qQb6):=rfl
theorem Qk:an.inp KQ=none/\an.loc KQ=false/\an.mov KQ=none:=⟨rfl,rfl,rfl⟩
theorem oQb6:an.orc KQ=some gClo:=rfl
theorem sQb7:an.fn Sz=some (⟨false,false,true⟩,qQb7):=rfl
theorem Qj:an.inp Sz=some Vv/\an.loc Sz=false/\an.mov Sz=none:=⟨rfl,rfl,rfl⟩
theorem sQb8:an.fn Sy=some (⟨false,false,false⟩,qQb8):=rfl
theorem Qi:an.inp Sy=some W3/\an.loc Sy=false/\an.mov Sy=none:=⟨rfl,rfl,rfl⟩
end Go.BmP
