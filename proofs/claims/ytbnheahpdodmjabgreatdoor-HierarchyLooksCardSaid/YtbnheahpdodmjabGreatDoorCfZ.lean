/- The configuration with the library's functions that write into the slice they are given, and what it says of each function. -/
import Derived.Test.YtbnheahpdodmjabGreatDoorBmP
import Derived.Test.YtbnheahpdodmjabGreatDoorGrfP
set_option maxRecDepth 100000
open Go.Proofs.Tryz renaming prog → ak
namespace Go.BmZ
open Go.Am Go.Bm Go.BmP
def Mh (_:Nat):Option (Nat->List AV->List AV->Option (List AV × Option Nat)):=none
def orcF (_:Nat):Option (List AV->Heap->Option (AV × Heap)):=none
def Gd (f:Nat):Bool:=if f=Nx then true else false
def F8 (f:Nat):Option Nat:=if f=tN then some 0 else none
def aq:Go.Bm.eS:={ cfg with gl:=fun _=>[],inp:=Mh,orc:=orcF,loc:=Gd,mov:=F8 }
theorem YG:fy ak aq:=⟨acr.mixed,acr.fn⟩
theorem uU (f:Nat):aq.emp f=false:=rfl
theorem tj (f:Nat):aq.eat f=none:=rfl
theorem sQ3:aq.fn nQ3=some (⟨false,false,true⟩,qQ3):=gQ3
theorem oQ3:aq.orc nQ3=none:=rfl
theorem sQ4:aq.fn Pw=some (⟨false,false,true⟩,qQ4):=gQ4
theorem iQ4:aq.inp Pw=none:=rfl
theorem lQ4:aq.loc Pw=false:=show Gd Pw=false from by unfold Gd; rw[if_neg (show ¬Pw=Nx by decide)]
theorem vQ4:aq.mov Pw=none:=show F8 Pw=none from by unfold F8; rw[if_neg (show ¬Pw=tN by decide)]
theorem oQ4:aq.orc Pw=none:=rfl
theorem sQ5:aq.fn Ny=some (⟨false,false,true⟩,qQ5):=gQ5
theorem iQ5:aq.inp Ny=none:=rfl
theorem lQ5:aq.loc Ny=false:=show Gd Ny=false from by unfold Gd; rw[if_neg (show ¬Ny=Nx by decide)]
theorem vQ5:aq.mov Ny=none:=show F8 Ny=none from by unfold F8; rw[if_neg (show ¬Ny=tN by decide)]
theorem oQ5:aq.orc Ny=none:=rfl
theorem sQ6:aq.fn Rq=some (⟨false,false,true⟩,qQ6):=gQ6
theorem iQ6:aq.inp Rq=none:=rfl
theorem lQ6:aq.loc Rq=false:=show Gd Rq=false from by unfold Gd; rw[if_neg (show ¬Rq=Nx by decide)]
theorem vQ6:aq.mov Rq=none:=show F8 Rq=none from by unfold F8; rw[if_neg (show ¬Rq=tN by decide)]
theorem oQ6:aq.orc Rq=none:=rfl
theorem QT:aq.fn wx=some (⟨false,false,true⟩,Xg):=gQb3
theorem XX:aq.inp wx=none:=rfl
theorem lQb3:aq.loc wx=false:=show Gd wx=false from by unfold Gd; rw[if_neg (show ¬wx=Nx by decide)]
theorem vQb3:aq.mov wx=none:=show F8 wx=none from by unfold F8; rw[if_neg (show ¬wx=tN by decide)]
theorem oQb3:aq.orc wx=none:=rfl
theorem sQb4:aq.fn xn=some (⟨false,false,true⟩,Xf):=gQb4
theorem iQb4:aq.inp xn=none:=rfl
theorem lQb4:aq.loc xn=false:=show Gd xn=false from by unfold Gd; rw[if_neg (show ¬xn=Nx by decide)]
theorem vQb4:aq.mov xn=none:=show F8 xn=none from by unfold F8; rw[if_neg (show ¬xn=tN by decide)]
theorem oQb4:aq.orc xn=none:=rfl
end Go.BmZ
