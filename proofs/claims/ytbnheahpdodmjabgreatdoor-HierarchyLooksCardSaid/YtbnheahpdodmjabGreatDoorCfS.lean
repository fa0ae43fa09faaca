/- The configuration with the library's functions that write into the slice they are given, and what it says of each function. -/
import Derived.Test.YtbnheahpdodmjabGreatDoorBmP
import Derived.Test.YtbnheahpdodmjabGreatDoorPsG
set_option maxRecDepth 100000
open Go.Proofs.Tryz renaming prog → ak
namespace Go.BmP
open Go.Am Go.Bm
def Mh (f:Nat):Option (Nat->List AV->List AV->Option (List AV × Option Nat)):=if f=T5 then some WR else if f=T4 then some Yv else if f=nQ2 then some (psG nQ3) else none
def orcF (f:Nat):Option (List AV->Heap->Option (AV × Heap)):=if f=LI then some gClo else if f=Rp then some P5 else none
def Gd (f:Nat):Bool:=if f=Nx then true else false
def F8 (f:Nat):Option Nat:=if f=tN then some 0 else none
def aq:Go.Bm.eS:={ cfg with inp:=Mh,orc:=orcF,loc:=Gd,mov:=F8 }
theorem YG:fy ak aq:=⟨acr.mixed,acr.fn⟩
theorem uU (f:Nat):aq.emp f=false:=rfl
theorem tj (f:Nat):aq.eat f=none:=rfl
theorem sQa:aq.fn nQa=some (⟨false,false,true⟩,qQa):=rfl
theorem sQb:aq.fn nQb=some (⟨false,false,true⟩,qQb):=rfl
theorem iQb:aq.inp nQb=none/\aq.loc nQb=false/\aq.mov nQb=none:=⟨rfl,rfl,rfl⟩
theorem sQc:aq.fn nQc=some (⟨true,false,false⟩,qQc):=rfl
theorem iQc:aq.inp nQc=none/\aq.loc nQc=false/\aq.mov nQc=none:=⟨rfl,rfl,rfl⟩
theorem sQd:aq.fn nQd=some (⟨false,false,false⟩,qQd):=rfl
theorem iQd:aq.inp nQd=none/\aq.loc nQd=false/\aq.mov nQd=none:=⟨rfl,rfl,rfl⟩
theorem sQe:aq.fn nQe=some (⟨true,false,false⟩,qQe):=rfl
theorem iQe:aq.inp nQe=none/\aq.loc nQe=false/\aq.mov nQe=none:=⟨rfl,rfl,rfl⟩
theorem sQf:aq.fn Nx=some (⟨true,false,false⟩,qQf):=rfl
theorem iQf:aq.inp Nx=none/\aq.loc Nx=true/\aq.mov Nx=none:=⟨rfl,rfl,rfl⟩
theorem sQg:aq.fn nQg=some (⟨false,false,true⟩,qQg):=rfl
theorem iQg:aq.inp nQg=none/\aq.loc nQg=false/\aq.mov nQg=none:=⟨rfl,rfl,rfl⟩
theorem sQh:aq.fn nQh=some (⟨false,false,true⟩,qQh):=rfl
theorem iQh:aq.inp nQh=none/\aq.loc nQh=false/\aq.mov nQh=none:=⟨rfl,rfl,rfl⟩
theorem sQi:aq.fn nQi=some (⟨false,false,true⟩,qQi):=rfl
theorem iQi:aq.inp nQi=none/\aq.loc nQi=false/\aq.mov nQi=none:=⟨rfl,rfl,rfl⟩
theorem sQj:aq.fn nQj=some (⟨false,false,true⟩,qQj):=rfl
theorem iQj:aq.inp nQj=none/\aq.loc nQj=false/\aq.mov nQj=none:=⟨rfl,rfl,rfl⟩
theorem sQk:aq.fn Xy=some (⟨false,false,true⟩,qQk):=rfl
theorem iQk:aq.inp Xy=none/\aq.loc Xy=false/\aq.mov Xy=none:=⟨rfl,rfl,rfl⟩
theorem sQl:aq.fn nQl=some (⟨false,false,false⟩,qQl):=rfl
theorem iQl:aq.inp nQl=none/\aq.loc nQl=false/\aq.mov nQl=none:=⟨rfl,rfl,rfl⟩
theorem sQm:aq.fn nQm=some (⟨false,false,false⟩,qQm):=rfl
theorem iQm:aq.inp nQm=none/\aq.loc nQm=false/\aq.mov nQm=none:=⟨rfl,rfl,rfl⟩
theorem sQn:aq.fn nQn=some (⟨false,false,false⟩,qQn):=rfl
theorem iQn:aq.inp nQn=none/\aq.loc nQn=false/\aq.mov nQn=none:=⟨rfl,rfl,rfl⟩
theorem sQo:aq.fn nQo=some (⟨false,false,false⟩,qQo):=rfl
theorem iQo:aq.inp nQo=none/\aq.loc nQo=false/\aq.mov nQo=none:=⟨rfl,rfl,rfl⟩
theorem sQp:aq.fn nQp=some (⟨false,false,false⟩,qQp):=rfl
theorem iQp:aq.inp nQp=none/\aq.loc nQp=false/\aq.mov nQp=none:=⟨rfl,rfl,rfl⟩
theorem sQq:aq.fn nQq=some (⟨false,false,false⟩,qQq):=rfl
theorem iQq:aq.inp nQq=none/\aq.loc nQq=false/\aq.mov nQq=none:=⟨rfl,rfl,rfl⟩
theorem sQr:aq.fn nQr=some (⟨false,false,false⟩,qQr):=rfl
theorem sQs:aq.fn nQs=some (⟨false,false,true⟩,qQs):=rfl
theorem iQs:aq.inp nQs=none/\aq.loc nQs=false/\aq.mov nQs=none:=⟨rfl,rfl,rfl⟩
theorem sQt:aq.fn nQt=some (⟨false,false,false⟩,qQt):=rfl
theorem iQt:aq.inp nQt=none/\aq.loc nQt=false/\aq.mov nQt=none:=⟨rfl,rfl,rfl⟩
theorem sQu:aq.fn nQu=some (⟨false,false,false⟩,qQu):=rfl
theorem iQu:aq.inp nQu=none/\aq.loc nQu=false/\aq.mov nQu=none:=⟨rfl,rfl,rfl⟩
theorem sQv:aq.fn nQv=some (⟨false,false,false⟩,qQv):=rfl
theorem iQv:aq.inp nQv=none/\aq.loc nQv=false/\aq.mov nQv=none:=⟨rfl,rfl,rfl⟩
theorem sQw:aq.fn nQw=some (⟨false,false,true⟩,qQw):=rfl
theorem iQw:aq.inp nQw=none/\aq.loc nQw=false/\aq.mov nQw=none:=⟨rfl,rfl,rfl⟩
theorem sQx:aq.fn tN=some (⟨false,true,true⟩,qQx):=rfl
theorem iQx:aq.inp tN=none/\aq.loc tN=false/\aq.mov tN=some 0:=⟨rfl,rfl,rfl⟩
theorem sQy:aq.fn nQy=some (⟨false,false,false⟩,qQy):=rfl
theorem iQy:aq.inp nQy=none/\aq.loc nQy=false/\aq.mov nQy=none:=⟨rfl,rfl,rfl⟩
theorem sQz:aq.fn nQz=some (⟨false,false,true⟩,qQz):=rfl
theorem iQz:aq.inp nQz=none/\aq.loc nQz=false/\aq.mov nQz=none:=⟨rfl,rfl,rfl⟩
theorem sQA:aq.fn nQA=some (⟨true,false,false⟩,qQA):=rfl
theorem iQA:aq.inp nQA=none/\aq.loc nQA=false/\aq.mov nQA=none:=⟨rfl,rfl,rfl⟩
theorem sQB:aq.fn nQB=some (⟨true,false,false⟩,qQB):=rfl
theorem iQB:aq.inp nQB=none/\aq.loc nQB=false/\aq.mov nQB=none:=⟨rfl,rfl,rfl⟩
theorem sQC:aq.fn nQC=some (⟨false,false,true⟩,qQC):=rfl
theorem iQC:aq.inp nQC=none/\aq.loc nQC=false/\aq.mov nQC=none:=⟨rfl,rfl,rfl⟩
theorem Jp:aq.fn Wp=some (⟨false,false,true⟩,qQD):=rfl
theorem Nz:aq.inp Wp=none/\aq.loc Wp=false/\aq.mov Wp=none:=⟨rfl,rfl,rfl⟩
theorem sQE:aq.fn nQE=some (⟨true,false,false⟩,qQE):=rfl
theorem iQE:aq.inp nQE=none/\aq.loc nQE=false/\aq.mov nQE=none:=⟨rfl,rfl,rfl⟩
theorem sQF:aq.fn nQF=some (⟨false,false,true⟩,qQF):=rfl
theorem iQF:aq.inp nQF=none/\aq.loc nQF=false/\aq.mov nQF=none:=⟨rfl,rfl,rfl⟩
theorem sQG:aq.fn nQG=some (⟨false,false,false⟩,qQG):=rfl
theorem iQG:aq.inp nQG=none/\aq.loc nQG=false/\aq.mov nQG=none:=⟨rfl,rfl,rfl⟩
theorem sQH:aq.fn nQH=some (⟨false,false,false⟩,qQH):=rfl
theorem iQH:aq.inp nQH=none/\aq.loc nQH=false/\aq.mov nQH=none:=⟨rfl,rfl,rfl⟩
theorem sQI:aq.fn nQI=some (⟨true,true,false⟩,qQI):=rfl
theorem iQI:aq.inp nQI=none/\aq.loc nQI=false/\aq.mov nQI=none:=⟨rfl,rfl,rfl⟩
theorem sQJ:aq.fn nQJ=some (⟨true,false,false⟩,qQJ):=rfl
theorem iQJ:aq.inp nQJ=none/\aq.loc nQJ=false/\aq.mov nQJ=none:=⟨rfl,rfl,rfl⟩
theorem sQK:aq.fn nQK=some (⟨false,false,true⟩,qQK):=rfl
theorem iQK:aq.inp nQK=none/\aq.loc nQK=false/\aq.mov nQK=none:=⟨rfl,rfl,rfl⟩
theorem sQL:aq.fn nQL=some (⟨true,false,false⟩,qQL):=rfl
theorem iQL:aq.inp nQL=none/\aq.loc nQL=false/\aq.mov nQL=none:=⟨rfl,rfl,rfl⟩
theorem sQM:aq.fn nQM=some (⟨false,false,true⟩,qQM):=rfl
theorem iQM:aq.inp nQM=none/\aq.loc nQM=false/\aq.mov nQM=none:=⟨rfl,rfl,rfl⟩
theorem sQN:aq.fn nQN=some (⟨false,false,false⟩,qQN):=rfl
theorem iQN:aq.inp nQN=none/\aq.loc nQN=false/\aq.mov nQN=none:=⟨rfl,rfl,rfl⟩
theorem sQO:aq.fn nQO=some (⟨false,false,false⟩,qQO):=rfl
theorem iQO:aq.inp nQO=none/\aq.loc nQO=false/\aq.mov nQO=none:=⟨rfl,rfl,rfl⟩
theorem sQP:aq.fn nQP=some (⟨false,false,true⟩,qQP):=rfl
theorem iQP:aq.inp nQP=none/\aq.loc nQP=false/\aq.mov nQP=none:=⟨rfl,rfl,rfl⟩
theorem sQQ:aq.fn nQQ=some (⟨false,false,false⟩,qQQ):=rfl
theorem iQQ:aq.inp nQQ=none/\aq.loc nQQ=false/\aq.mov nQQ=none:=⟨rfl,rfl,rfl⟩
theorem sQR:aq.fn nQR=some (⟨false,false,false⟩,qQR):=rfl
theorem iQR:aq.inp nQR=none/\aq.loc nQR=false/\aq.mov nQR=none:=⟨rfl,rfl,rfl⟩
theorem sQS:aq.fn nQS=some (⟨false,false,false⟩,qQS):=rfl
theorem iQS:aq.inp nQS=none/\aq.loc nQS=false/\aq.mov nQS=none:=⟨rfl,rfl,rfl⟩
theorem sQT:aq.fn nQT=some (⟨false,false,false⟩,qQT):=rfl
theorem iQT:aq.inp nQT=none/\aq.loc nQT=false/\aq.mov nQT=none:=⟨rfl,rfl,rfl⟩
theorem sQU:aq.fn nQU=some (⟨false,false,true⟩,qQU):=rfl
theorem iQU:aq.inp nQU=none/\aq.loc nQU=false/\aq.mov nQU=none:=⟨rfl,rfl,rfl⟩
theorem sQV:aq.fn nQV=some (⟨false,false,true⟩,qQV):=rfl
theorem iQV:aq.inp nQV=none/\aq.loc nQV=false/\aq.mov nQV=none:=⟨rfl,rfl,rfl⟩
theorem sQW:aq.fn nQW=some (⟨true,false,false⟩,qQW):=rfl
theorem iQW:aq.inp nQW=none/\aq.loc nQW=false/\aq.mov nQW=none:=⟨rfl,rfl,rfl⟩
theorem sQX:aq.fn nQX=some (⟨true,false,false⟩,qQX):=rfl
theorem iQX:aq.inp nQX=none/\aq.loc nQX=false/\aq.mov nQX=none:=⟨rfl,rfl,rfl⟩
theorem sQY:aq.fn nQY=some (⟨false,false,true⟩,qQY):=rfl
theorem iQY:aq.inp nQY=none/\aq.loc nQY=false/\aq.mov nQY=none:=⟨rfl,rfl,rfl⟩
theorem sQZ:aq.fn nQZ=some (⟨false,false,true⟩,qQZ):=rfl
theorem iQZ:aq.inp nQZ=none/\aq.loc nQZ=false/\aq.mov nQZ=none:=⟨rfl,rfl,rfl⟩
theorem sQ0:aq.fn nQ0=some (⟨true,true,false⟩,qQ0):=rfl
theorem iQ0:aq.inp nQ0=none/\aq.loc nQ0=false/\aq.mov nQ0=none:=⟨rfl,rfl,rfl⟩
theorem sQ1:aq.fn nQ1=some (⟨false,false,false⟩,qQ1):=rfl
theorem iQ1:aq.inp nQ1=none/\aq.loc nQ1=false/\aq.mov nQ1=none:=⟨rfl,rfl,rfl⟩
theorem sQ2:aq.fn nQ2=some (⟨false,true,true⟩,qQ2):=rfl
theorem iQ2:aq.inp nQ2=some (psG nQ3)/\aq.loc nQ2=false/\aq.mov nQ2=none:=⟨rfl,rfl,rfl⟩
theorem sQ3:aq.fn nQ3=some (⟨false,false,true⟩,qQ3):=gQ3
theorem oQ3:aq.orc nQ3=none:=rfl
theorem sQ4:aq.fn Pw=some (⟨false,false,true⟩,qQ4):=gQ4
theorem iQ4:aq.inp Pw=none/\aq.loc Pw=false/\aq.mov Pw=none:=⟨rfl,rfl,rfl⟩
theorem oQ4:aq.orc Pw=none:=rfl
theorem sQ5:aq.fn Ny=some (⟨false,false,true⟩,qQ5):=gQ5
theorem iQ5:aq.inp Ny=none/\aq.loc Ny=false/\aq.mov Ny=none:=⟨rfl,rfl,rfl⟩
theorem oQ5:aq.orc Ny=none:=rfl
theorem sQ6:aq.fn Rq=some (⟨false,false,true⟩,qQ6):=gQ6
theorem iQ6:aq.inp Rq=none/\aq.loc Rq=false/\aq.mov Rq=none:=⟨rfl,rfl,rfl⟩
theorem oQ6:aq.orc Rq=none:=rfl
theorem sQ7:aq.fn nQ7=some (⟨false,false,true⟩,qQ7):=rfl
theorem iQ7:aq.inp nQ7=none/\aq.loc nQ7=false/\aq.mov nQ7=none:=⟨rfl,rfl,rfl⟩
theorem sQ8:aq.fn nQ8=some (⟨false,false,false⟩,qQ8):=rfl
theorem iQ8:aq.inp nQ8=none/\aq.loc nQ8=false/\aq.mov nQ8=none:=⟨rfl,rfl,rfl⟩
theorem sQ9:aq.fn nQ9=some (⟨false,false,true⟩,qQ9):=rfl
theorem iQ9:aq.inp nQ9=none/\aq.loc nQ9=false/\aq.mov nQ9=none:=⟨rfl,rfl,rfl⟩
theorem sQa0:aq.fn Ud=some (⟨false,false,false⟩,qQa0):=rfl
theorem iQa0:aq.inp Ud=none/\aq.loc Ud=false/\aq.mov Ud=none:=⟨rfl,rfl,rfl⟩
theorem sQa1:aq.fn XI=some (⟨false,false,true⟩,qQa1):=rfl
theorem iQa1:aq.inp XI=none/\aq.loc XI=false/\aq.mov XI=none:=⟨rfl,rfl,rfl⟩
theorem sQa2:aq.fn Uc=some (⟨false,true,true⟩,qQa2):=rfl
theorem iQa2:aq.inp Uc=none/\aq.loc Uc=false/\aq.mov Uc=none:=⟨rfl,rfl,rfl⟩
theorem sQa3:aq.fn Ub=some (⟨false,false,false⟩,qQa3):=rfl
theorem iQa3:aq.inp Ub=none/\aq.loc Ub=false/\aq.mov Ub=none:=⟨rfl,rfl,rfl⟩
theorem sQa4:aq.fn NQ=some (⟨false,false,false⟩,qQa4):=rfl
theorem iQa4:aq.inp NQ=none/\aq.loc NQ=false/\aq.mov NQ=none:=⟨rfl,rfl,rfl⟩
theorem sQa5:aq.fn XH=some (⟨false,false,true⟩,qQa5):=rfl
theorem iQa5:aq.inp XH=none/\aq.loc XH=false/\aq.mov XH=none:=⟨rfl,rfl,rfl⟩
theorem sQa6:aq.fn XG=some (⟨true,false,false⟩,qQa6):=rfl
theorem iQa6:aq.inp XG=none/\aq.loc XG=false/\aq.mov XG=none:=⟨rfl,rfl,rfl⟩
theorem sQa7:aq.fn XF=some (⟨false,false,true⟩,qQa7):=rfl
theorem iQa7:aq.inp XF=none/\aq.loc XF=false/\aq.mov XF=none:=⟨rfl,rfl,rfl⟩
theorem sQa8:aq.fn XE=some (⟨false,false,true⟩,qQa8):=rfl
theorem iQa8:aq.inp XE=none/\aq.loc XE=false/\aq.mov XE=none:=⟨rfl,rfl,rfl⟩
theorem sQa9:aq.fn XD=some (⟨false,false,true⟩,qQa9):=rfl
theorem iQa9:aq.inp XD=none/\aq.loc XD=false/\aq.mov XD=none:=⟨rfl,rfl,rfl⟩
theorem sQb0:aq.fn Ua=some (⟨false,false,true⟩,qQb0):=rfl
theorem iQb0:aq.inp Ua=none/\aq.loc Ua=false/\aq.mov Ua=none:=⟨rfl,rfl,rfl⟩
theorem sQb1:aq.fn T9=some (⟨false,false,true⟩,qQb1):=rfl
theorem iQb1:aq.inp T9=none/\aq.loc T9=false/\aq.mov T9=none:=⟨rfl,rfl,rfl⟩
theorem sQb2:aq.fn T8=some (⟨false,false,false⟩,qQb2):=rfl
theorem iQb2:aq.inp T8=none/\aq.loc T8=false/\aq.mov T8=none:=⟨rfl,rfl,rfl⟩
theorem oQb2:aq.orc T8=none:=rfl
theorem QT:aq.fn wx=some (⟨false,false,true⟩,Xg):=gQb3
theorem XX:aq.inp wx=none/\aq.loc wx=false/\aq.mov wx=none:=⟨rfl,rfl,rfl⟩
theorem oQb3:aq.orc wx=none:=rfl
theorem sQb4:aq.fn xn=some (⟨false,false,true⟩,Xf):=gQb4
theorem iQb4:aq.inp xn=none/\aq.loc xn=false/\aq.mov xn=none:=⟨rfl,rfl,rfl⟩
theorem oQb4:aq.orc xn=none:=rfl
theorem sQb5:aq.fn XC=some (⟨false,false,false⟩,qQb5):=rfl
theorem iQb5:aq.inp XC=none/\aq.loc XC=false/\aq.mov XC=none:=⟨rfl,rfl,rfl⟩
theorem sQb6:aq.fn T7=some (⟨false,false,true⟩,qQb6):=rfl
theorem iQb6:aq.inp T7=none/\aq.loc T7=false/\aq.mov T7=none:=⟨rfl,rfl,rfl⟩
theorem sQb7:aq.fn XB=some (⟨false,false,false⟩,qQb7):=rfl
theorem iQb7:aq.inp XB=none/\aq.loc XB=false/\aq.mov XB=none:=⟨rfl,rfl,rfl⟩
theorem sQb8:aq.fn T6=some (⟨false,false,true⟩,qQb8):=rfl
theorem iQb8:aq.inp T6=none/\aq.loc T6=false/\aq.mov T6=none:=⟨rfl,rfl,rfl⟩
theorem sQb9:aq.fn XA=some (⟨false,false,false⟩,qQb9):=rfl
theorem iQb9:aq.inp XA=none/\aq.loc XA=false/\aq.mov XA=none:=⟨rfl,rfl,rfl⟩
theorem sQc0:aq.fn Xz=some (⟨false,false,false⟩,qQc0):=rfl
theorem iQc0:aq.inp Xz=none/\aq.loc Xz=false/\aq.mov Xz=none:=⟨rfl,rfl,rfl⟩
theorem sQc1:aq.fn nQc1=some (⟨false,false,true⟩,qQc1):=rfl
theorem sQc2:aq.fn Rp=some (⟨false,true,true⟩,qQc2):=rfl
theorem iQc2:aq.inp Rp=none/\aq.loc Rp=false/\aq.mov Rp=none:=⟨rfl,rfl,rfl⟩
theorem oQc2:aq.orc Rp=some P5:=rfl
theorem NJ:aq.fn LI=some (⟨false,true,true⟩,qQc3):=rfl
theorem RJ:aq.inp LI=none/\aq.loc LI=false/\aq.mov LI=none:=⟨rfl,rfl,rfl⟩
theorem oQc3:aq.orc LI=some gClo:=rfl
theorem sQc4:aq.fn T5=some (⟨false,false,true⟩,qQc4):=rfl
theorem RI:aq.inp T5=some WR/\aq.loc T5=false/\aq.mov T5=none:=⟨rfl,rfl,rfl⟩
theorem sQc5:aq.fn T4=some (⟨false,false,false⟩,qQc5):=rfl
theorem RH:aq.inp T4=some Yv/\aq.loc T4=false/\aq.mov T4=none:=⟨rfl,rfl,rfl⟩
end Go.BmP
