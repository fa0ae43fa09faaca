/- The configuration with the library's functions that write into the slice they are given, and what it says of each function. -/
import Derived.Test.YtmildmgogdmknaaGreatDoorBmP
import Derived.Test.YtmildmgogdmknaaGreatDoorRvG
set_option maxRecDepth 100000
open Go.Proofs.Tryz renaming prog → aj
namespace Go.BmP
open Go.Am Go.Bm
def MW (f:Nat):Option (Nat->List AV->List AV->Option (List AV × Option Nat)):=if f=ME then some Wk else if f=MD then some Xz else if f=nQJ then some rvG else none
def orcF (f:Nat):Option (List AV->Heap->Option (AV × Heap)):=if f=F6 then some gClo else none
def locS (f:Nat):Bool:=if f=KF then true else if f=nQf then true else if f=nQp then true else if f=nQg then true else if f=nQo then true else false
def bL (f:Nat):Option Nat:=if f=ij then some 3 else none
def aq:Go.Bm.fe:={ cfg with inp:=MW,orc:=orcF,loc:=locS,mov:=bL }
theorem al0:gF aj aq:=⟨ajr.mixed,ajr.fn⟩
theorem empN (f:Nat):aq.emp f=false:=rfl
theorem eatN (f:Nat):aq.eat f=none:=rfl
theorem sQa:aq.fn nQa=some (⟨false,false,true⟩,qQa):=rfl
theorem sQb:aq.fn nQb=some (⟨false,false,true⟩,qQb):=rfl
theorem iQb:aq.inp nQb=none/\aq.loc nQb=false/\aq.mov nQb=none:=⟨rfl,rfl,rfl⟩
theorem sQc:aq.fn nQc=some (⟨false,false,true⟩,qQc):=rfl
theorem iQc:aq.inp nQc=none/\aq.loc nQc=false/\aq.mov nQc=none:=⟨rfl,rfl,rfl⟩
theorem sQd:aq.fn nQd=some (⟨false,false,true⟩,qQd):=rfl
theorem iQd:aq.inp nQd=none/\aq.loc nQd=false/\aq.mov nQd=none:=⟨rfl,rfl,rfl⟩
theorem sQe:aq.fn nQe=some (⟨true,false,false⟩,qQe):=rfl
theorem iQe:aq.inp nQe=none/\aq.loc nQe=false/\aq.mov nQe=none:=⟨rfl,rfl,rfl⟩
theorem sQf:aq.fn nQf=some (⟨true,false,false⟩,qQf):=rfl
theorem iQf:aq.inp nQf=none/\aq.loc nQf=true/\aq.mov nQf=none:=⟨rfl,rfl,rfl⟩
theorem sQg:aq.fn nQg=some (⟨true,false,false⟩,Zq):=rfl
theorem iQg:aq.inp nQg=none/\aq.loc nQg=true/\aq.mov nQg=none:=⟨rfl,rfl,rfl⟩
theorem sQh:aq.fn WU=some (⟨false,false,false⟩,qQh):=rfl
theorem iQh:aq.inp WU=none/\aq.loc WU=false/\aq.mov WU=none:=⟨rfl,rfl,rfl⟩
theorem sQi:aq.fn nQi=some (⟨false,false,false⟩,qQi):=rfl
theorem iQi:aq.inp nQi=none/\aq.loc nQi=false/\aq.mov nQi=none:=⟨rfl,rfl,rfl⟩
theorem sQj:aq.fn TU=some (⟨false,false,true⟩,qQj):=rfl
theorem iQj:aq.inp TU=none/\aq.loc TU=false/\aq.mov TU=none:=⟨rfl,rfl,rfl⟩
theorem sQk:aq.fn nQk=some (⟨false,false,true⟩,qQk):=rfl
theorem iQk:aq.inp nQk=none/\aq.loc nQk=false/\aq.mov nQk=none:=⟨rfl,rfl,rfl⟩
theorem sQl:aq.fn Sd=some (⟨false,false,false⟩,qQl):=rfl
theorem iQl:aq.inp Sd=none/\aq.loc Sd=false/\aq.mov Sd=none:=⟨rfl,rfl,rfl⟩
theorem sQm:aq.fn nQm=some (⟨false,false,false⟩,qQm):=rfl
theorem iQm:aq.inp nQm=none/\aq.loc nQm=false/\aq.mov nQm=none:=⟨rfl,rfl,rfl⟩
theorem sQn:aq.fn TR=some (⟨false,false,true⟩,qQn):=rfl
theorem iQn:aq.inp TR=none/\aq.loc TR=false/\aq.mov TR=none:=⟨rfl,rfl,rfl⟩
theorem sQo:aq.fn nQo=some (⟨true,false,false⟩,qQo):=rfl
theorem iQo:aq.inp nQo=none/\aq.loc nQo=true/\aq.mov nQo=none:=⟨rfl,rfl,rfl⟩
theorem sQp:aq.fn nQp=some (⟨true,false,false⟩,qQp):=rfl
theorem iQp:aq.inp nQp=none/\aq.loc nQp=true/\aq.mov nQp=none:=⟨rfl,rfl,rfl⟩
theorem sQq:aq.fn Z2=some (⟨false,false,false⟩,qQq):=rfl
theorem iQq:aq.inp Z2=none/\aq.loc Z2=false/\aq.mov Z2=none:=⟨rfl,rfl,rfl⟩
theorem sQr:aq.fn Z0=some (⟨false,false,false⟩,qQr):=rfl
theorem iQr:aq.inp Z0=none/\aq.loc Z0=false/\aq.mov Z0=none:=⟨rfl,rfl,rfl⟩
theorem sQs:aq.fn TQ=some (⟨false,false,true⟩,qQs):=rfl
theorem iQs:aq.inp TQ=none/\aq.loc TQ=false/\aq.mov TQ=none:=⟨rfl,rfl,rfl⟩
theorem sQt:aq.fn nQt=some (⟨false,false,true⟩,qQt):=rfl
theorem iQt:aq.inp nQt=none/\aq.loc nQt=false/\aq.mov nQt=none:=⟨rfl,rfl,rfl⟩
theorem NA:aq.fn KF=some (⟨true,false,false⟩,qQu):=rfl
theorem Ry:aq.inp KF=none/\aq.loc KF=true/\aq.mov KF=none:=⟨rfl,rfl,rfl⟩
theorem sQv:aq.fn nQv=some (⟨false,false,true⟩,qQv):=rfl
theorem iQv:aq.inp nQv=none/\aq.loc nQv=false/\aq.mov nQv=none:=⟨rfl,rfl,rfl⟩
theorem sQw:aq.fn nQw=some (⟨false,false,true⟩,qQw):=rfl
theorem iQw:aq.inp nQw=none/\aq.loc nQw=false/\aq.mov nQw=none:=⟨rfl,rfl,rfl⟩
theorem sQx:aq.fn nQx=some (⟨false,false,false⟩,qQx):=rfl
theorem iQx:aq.inp nQx=none/\aq.loc nQx=false/\aq.mov nQx=none:=⟨rfl,rfl,rfl⟩
theorem Mw:aq.fn TP=some (⟨false,false,true⟩,qQy):=rfl
theorem O7:aq.inp TP=none/\aq.loc TP=false/\aq.mov TP=none:=⟨rfl,rfl,rfl⟩
theorem sQz:aq.fn nQz=some (⟨false,false,false⟩,qQz):=rfl
theorem iQz:aq.inp nQz=none/\aq.loc nQz=false/\aq.mov nQz=none:=⟨rfl,rfl,rfl⟩
theorem sQA:aq.fn nQA=some (⟨false,false,true⟩,qQA):=rfl
theorem iQA:aq.inp nQA=none/\aq.loc nQA=false/\aq.mov nQA=none:=⟨rfl,rfl,rfl⟩
theorem sQB:aq.fn Z4=some (⟨false,false,true⟩,qQB):=rfl
theorem iQB:aq.inp Z4=none/\aq.loc Z4=false/\aq.mov Z4=none:=⟨rfl,rfl,rfl⟩
theorem FD:aq.fn Sg=some (⟨false,false,true⟩,qQC):=rfl
theorem Gs:aq.inp Sg=none/\aq.loc Sg=false/\aq.mov Sg=none:=⟨rfl,rfl,rfl⟩
theorem sQD:aq.fn nQD=some (⟨false,false,false⟩,qQD):=rfl
theorem iQD:aq.inp nQD=none/\aq.loc nQD=false/\aq.mov nQD=none:=⟨rfl,rfl,rfl⟩
theorem sQE:aq.fn nQE=some (⟨false,false,true⟩,qQE):=rfl
theorem iQE:aq.inp nQE=none/\aq.loc nQE=false/\aq.mov nQE=none:=⟨rfl,rfl,rfl⟩
theorem sQF:aq.fn nQF=some (⟨false,false,false⟩,qQF):=rfl
theorem iQF:aq.inp nQF=none/\aq.loc nQF=false/\aq.mov nQF=none:=⟨rfl,rfl,rfl⟩
theorem sQG:aq.fn nQG=some (⟨false,false,true⟩,qQG):=rfl
theorem iQG:aq.inp nQG=none/\aq.loc nQG=false/\aq.mov nQG=none:=⟨rfl,rfl,rfl⟩
theorem sQH:aq.fn Z3=some (⟨false,false,false⟩,qQH):=rfl
theorem iQH:aq.inp Z3=none/\aq.loc Z3=false/\aq.mov Z3=none:=⟨rfl,rfl,rfl⟩
theorem sQI:aq.fn nQI=some (⟨true,true,false⟩,qQI):=rfl
theorem iQI:aq.inp nQI=none/\aq.loc nQI=false/\aq.mov nQI=none:=⟨rfl,rfl,rfl⟩
theorem sQJ:aq.fn nQJ=some (⟨false,false,true⟩,qQJ):=rfl
theorem iQJ:aq.inp nQJ=some rvG/\aq.loc nQJ=false/\aq.mov nQJ=none:=⟨rfl,rfl,rfl⟩
theorem sQK:aq.fn nQK=some (⟨false,false,false⟩,qQK):=rfl
theorem iQK:aq.inp nQK=none/\aq.loc nQK=false/\aq.mov nQK=none:=⟨rfl,rfl,rfl⟩
theorem sQL:aq.fn nQL=some (⟨false,false,true⟩,qQL):=rfl
theorem iQL:aq.inp nQL=none/\aq.loc nQL=false/\aq.mov nQL=none:=⟨rfl,rfl,rfl⟩
theorem sQM:aq.fn nQM=some (⟨false,false,false⟩,qQM):=rfl
theorem iQM:aq.inp nQM=none/\aq.loc nQM=false/\aq.mov nQM=none:=⟨rfl,rfl,rfl⟩
theorem sQN:aq.fn nQN=some (⟨false,true,true⟩,qQN):=rfl
theorem iQN:aq.inp nQN=none/\aq.loc nQN=false/\aq.mov nQN=none:=⟨rfl,rfl,rfl⟩
theorem sQO:aq.fn nQO=some (⟨false,false,false⟩,qQO):=rfl
theorem iQO:aq.inp nQO=none/\aq.loc nQO=false/\aq.mov nQO=none:=⟨rfl,rfl,rfl⟩
theorem sQP:aq.fn nQP=some (⟨false,false,true⟩,qQP):=rfl
theorem iQP:aq.inp nQP=none/\aq.loc nQP=false/\aq.mov nQP=none:=⟨rfl,rfl,rfl⟩
theorem sQQ:aq.fn nQQ=some (⟨false,false,false⟩,qQQ):=rfl
theorem iQQ:aq.inp nQQ=none/\aq.loc nQQ=false/\aq.mov nQQ=none:=⟨rfl,rfl,rfl⟩
theorem sQR:aq.fn nQR=some (⟨false,false,false⟩,qQR):=rfl
theorem iQR:aq.inp nQR=none/\aq.loc nQR=false/\aq.mov nQR=none:=⟨rfl,rfl,rfl⟩
theorem sQS:aq.fn nQS=some (⟨false,false,true⟩,qQS):=rfl
theorem iQS:aq.inp nQS=none/\aq.loc nQS=false/\aq.mov nQS=none:=⟨rfl,rfl,rfl⟩
theorem sQT:aq.fn nQT=some (⟨true,false,false⟩,qQT):=rfl
theorem iQT:aq.inp nQT=none/\aq.loc nQT=false/\aq.mov nQT=none:=⟨rfl,rfl,rfl⟩
theorem sQU:aq.fn Sf=some (⟨true,false,false⟩,qQU):=rfl
theorem iQU:aq.inp Sf=none/\aq.loc Sf=false/\aq.mov Sf=none:=⟨rfl,rfl,rfl⟩
theorem sQV:aq.fn nQV=some (⟨true,false,false⟩,qQV):=rfl
theorem iQV:aq.inp nQV=none/\aq.loc nQV=false/\aq.mov nQV=none:=⟨rfl,rfl,rfl⟩
theorem sQW:aq.fn Se=some (⟨true,false,false⟩,qQW):=rfl
theorem iQW:aq.inp Se=none/\aq.loc Se=false/\aq.mov Se=none:=⟨rfl,rfl,rfl⟩
theorem sQX:aq.fn nQX=some (⟨false,false,true⟩,qQX):=rfl
theorem iQX:aq.inp nQX=none/\aq.loc nQX=false/\aq.mov nQX=none:=⟨rfl,rfl,rfl⟩
theorem sQY:aq.fn nQY=some (⟨false,false,true⟩,qQY):=rfl
theorem iQY:aq.inp nQY=none/\aq.loc nQY=false/\aq.mov nQY=none:=⟨rfl,rfl,rfl⟩
theorem sQZ:aq.fn nQZ=some (⟨false,false,true⟩,qQZ):=rfl
theorem iQZ:aq.inp nQZ=none/\aq.loc nQZ=false/\aq.mov nQZ=none:=⟨rfl,rfl,rfl⟩
theorem sQ0:aq.fn nQ0=some (⟨false,false,true⟩,qQ0):=rfl
theorem iQ0:aq.inp nQ0=none/\aq.loc nQ0=false/\aq.mov nQ0=none:=⟨rfl,rfl,rfl⟩
theorem sQ3:aq.fn nQ3=some (⟨false,false,false⟩,qQ3):=rfl
theorem iQ3:aq.inp nQ3=none/\aq.loc nQ3=false/\aq.mov nQ3=none:=⟨rfl,rfl,rfl⟩
theorem sQ4:aq.fn nQ4=some (⟨false,false,true⟩,qQ4):=rfl
theorem iQ4:aq.inp nQ4=none/\aq.loc nQ4=false/\aq.mov nQ4=none:=⟨rfl,rfl,rfl⟩
theorem sQ5:aq.fn nQ5=some (⟨true,false,false⟩,qQ5):=rfl
theorem iQ5:aq.inp nQ5=none/\aq.loc nQ5=false/\aq.mov nQ5=none:=⟨rfl,rfl,rfl⟩
theorem sQ6:aq.fn nQ6=some (⟨false,false,true⟩,qQ6):=rfl
theorem iQ6:aq.inp nQ6=none/\aq.loc nQ6=false/\aq.mov nQ6=none:=⟨rfl,rfl,rfl⟩
theorem sQ7:aq.fn nQ7=some (⟨false,false,true⟩,qQ7):=rfl
theorem iQ7:aq.inp nQ7=none/\aq.loc nQ7=false/\aq.mov nQ7=none:=⟨rfl,rfl,rfl⟩
theorem sQ8:aq.fn nQ8=some (⟨false,false,true⟩,qQ8):=rfl
theorem iQ8:aq.inp nQ8=none/\aq.loc nQ8=false/\aq.mov nQ8=none:=⟨rfl,rfl,rfl⟩
theorem sQ9:aq.fn ij=some (⟨false,true,true⟩,qQ9):=rfl
theorem iQ9:aq.inp ij=none/\aq.loc ij=false/\aq.mov ij=some 3:=⟨rfl,rfl,rfl⟩
theorem sQa0:aq.fn MU=some (⟨true,true,false⟩,qQa0):=rfl
theorem iQa0:aq.inp MU=none/\aq.loc MU=false/\aq.mov MU=none:=⟨rfl,rfl,rfl⟩
theorem sQa1:aq.fn MT=some (⟨false,false,false⟩,qQa1):=rfl
theorem iQa1:aq.inp MT=none/\aq.loc MT=false/\aq.mov MT=none:=⟨rfl,rfl,rfl⟩
theorem sQa2:aq.fn MS=some (⟨false,false,false⟩,qQa2):=rfl
theorem iQa2:aq.inp MS=none/\aq.loc MS=false/\aq.mov MS=none:=⟨rfl,rfl,rfl⟩
theorem sQa3:aq.fn MR=some (⟨false,false,false⟩,qQa3):=rfl
theorem iQa3:aq.inp MR=none/\aq.loc MR=false/\aq.mov MR=none:=⟨rfl,rfl,rfl⟩
theorem sQa4:aq.fn KO=some (⟨true,true,false⟩,qQa4):=rfl
theorem iQa4:aq.inp KO=none/\aq.loc KO=false/\aq.mov KO=none:=⟨rfl,rfl,rfl⟩
theorem sQa5:aq.fn KN=some (⟨false,false,false⟩,qQa5):=rfl
theorem iQa5:aq.inp KN=none/\aq.loc KN=false/\aq.mov KN=none:=⟨rfl,rfl,rfl⟩
theorem sQa6:aq.fn F7=some (⟨false,false,false⟩,qQa6):=rfl
theorem iQa6:aq.inp F7=none/\aq.loc F7=false/\aq.mov F7=none:=⟨rfl,rfl,rfl⟩
theorem sQa8:aq.fn KM=some (⟨false,false,false⟩,qQa8):=rfl
theorem iQa8:aq.inp KM=none/\aq.loc KM=false/\aq.mov KM=none:=⟨rfl,rfl,rfl⟩
theorem sQa9:aq.fn MQ=some (⟨false,false,true⟩,qQa9):=rfl
theorem iQa9:aq.inp MQ=none/\aq.loc MQ=false/\aq.mov MQ=none:=⟨rfl,rfl,rfl⟩
theorem sQb0:aq.fn KL=some (⟨true,false,false⟩,qQb0):=rfl
theorem iQb0:aq.inp KL=none/\aq.loc KL=false/\aq.mov KL=none:=⟨rfl,rfl,rfl⟩
theorem sQb1:aq.fn KK=some (⟨true,false,false⟩,qQb1):=rfl
theorem iQb1:aq.inp KK=none/\aq.loc KK=false/\aq.mov KK=none:=⟨rfl,rfl,rfl⟩
theorem sQb2:aq.fn MP=some (⟨false,false,true⟩,qQb2):=rfl
theorem iQb2:aq.inp MP=none/\aq.loc MP=false/\aq.mov MP=none:=⟨rfl,rfl,rfl⟩
theorem sQb3:aq.fn MO=some (⟨false,false,true⟩,qQb3):=rfl
theorem iQb3:aq.inp MO=none/\aq.loc MO=false/\aq.mov MO=none:=⟨rfl,rfl,rfl⟩
theorem sQb4:aq.fn MN=some (⟨false,false,false⟩,qQb4):=rfl
theorem iQb4:aq.inp MN=none/\aq.loc MN=false/\aq.mov MN=none:=⟨rfl,rfl,rfl⟩
theorem sQb5:aq.fn MM=some (⟨false,false,true⟩,qQb5):=rfl
theorem iQb5:aq.inp MM=none/\aq.loc MM=false/\aq.mov MM=none:=⟨rfl,rfl,rfl⟩
theorem sQb6:aq.fn Ic=some (⟨false,false,true⟩,qQb6):=rfl
theorem iQb6:aq.inp Ic=none/\aq.loc Ic=false/\aq.mov Ic=none:=⟨rfl,rfl,rfl⟩
theorem sQb7:aq.fn ML=some (⟨false,false,true⟩,qQb7):=rfl
theorem iQb7:aq.inp ML=none/\aq.loc ML=false/\aq.mov ML=none:=⟨rfl,rfl,rfl⟩
theorem sQb8:aq.fn KJ=some (⟨false,false,true⟩,qQb8):=rfl
theorem iQb8:aq.inp KJ=none/\aq.loc KJ=false/\aq.mov KJ=none:=⟨rfl,rfl,rfl⟩
theorem sQb9:aq.fn KI=some (⟨false,false,true⟩,qQb9):=rfl
theorem iQb9:aq.inp KI=none/\aq.loc KI=false/\aq.mov KI=none:=⟨rfl,rfl,rfl⟩
theorem sQc0:aq.fn MK=some (⟨false,false,true⟩,Wx):=rfl
theorem iQc0:aq.inp MK=none/\aq.loc MK=false/\aq.mov MK=none:=⟨rfl,rfl,rfl⟩
theorem sQc1:aq.fn MJ=some (⟨false,false,false⟩,qQc1):=rfl
theorem iQc1:aq.inp MJ=none/\aq.loc MJ=false/\aq.mov MJ=none:=⟨rfl,rfl,rfl⟩
theorem sQc2:aq.fn nQc2=some (⟨false,false,true⟩,qQc2):=rfl
theorem sQc3:aq.fn MI=some (⟨false,false,false⟩,qQc3):=rfl
theorem iQc3:aq.inp MI=none/\aq.loc MI=false/\aq.mov MI=none:=⟨rfl,rfl,rfl⟩
theorem sQc4:aq.fn KH=some (⟨false,false,false⟩,qQc4):=rfl
theorem iQc4:aq.inp KH=none/\aq.loc KH=false/\aq.mov KH=none:=⟨rfl,rfl,rfl⟩
theorem sQc5:aq.fn MH=some (⟨false,false,true⟩,qQc5):=rfl
theorem iQc5:aq.inp MH=none/\aq.loc MH=false/\aq.mov MH=none:=⟨rfl,rfl,rfl⟩
theorem sQc6:aq.fn ES=some (⟨false,false,true⟩,qQc6):=rfl
theorem iQc6:aq.inp ES=none/\aq.loc ES=false/\aq.mov ES=none:=⟨rfl,rfl,rfl⟩
theorem sQc7:aq.fn MG=some (⟨false,false,true⟩,qQc7):=rfl
theorem iQc7:aq.inp MG=none/\aq.loc MG=false/\aq.mov MG=none:=⟨rfl,rfl,rfl⟩
theorem sQc8:aq.fn MF=some (⟨false,false,true⟩,qQc8):=rfl
theorem iQc8:aq.inp MF=none/\aq.loc MF=false/\aq.mov MF=none:=⟨rfl,rfl,rfl⟩
theorem sQd1:aq.fn KG=some (⟨false,false,true⟩,qQd1):=rfl
theorem iQd1:aq.inp KG=none/\aq.loc KG=false/\aq.mov KG=none:=⟨rfl,rfl,rfl⟩
theorem Mx:aq.fn F6=some (⟨false,true,true⟩,qQd2):=rfl
theorem RB:aq.inp F6=none/\aq.loc F6=false/\aq.mov F6=none:=⟨rfl,rfl,rfl⟩
theorem oQd2:aq.orc F6=some gClo:=rfl
theorem sQd3:aq.fn ME=some (⟨false,false,true⟩,qQd3):=rfl
theorem RA:aq.inp ME=some Wk/\aq.loc ME=false/\aq.mov ME=none:=⟨rfl,rfl,rfl⟩
theorem sQd4:aq.fn MD=some (⟨false,false,false⟩,qQd4):=rfl
theorem Rz:aq.inp MD=some Xz/\aq.loc MD=false/\aq.mov MD=none:=⟨rfl,rfl,rfl⟩
end Go.BmP
