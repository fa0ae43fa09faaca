/- The configuration with the library's functions that write into the slice they are given, and what it says of each function. -/
import Derived.Test.YtbnheahpdodmjaaGreatDoorBmP
import Derived.Test.YtbnheahpdodmjaaGreatDoorGrfP
set_option maxRecDepth 100000
open Go.Proofs.Tryz renaming prog → aj
namespace Go.BmZ
open Go.Am Go.Bm Go.BmP
def Lj (_:Nat):Option (Nat->List AV->List AV->Option (List AV × Option Nat)):=none
def orcF (_:Nat):Option (List AV->Heap->Option (AV × Heap)):=none
def FD (f:Nat):Bool:=if f=KP then true else false
def Fy (f:Nat):Option Nat:=if f=nQr then some 0 else none
def an:Go.Bm.eI:={ cfg with gl:=fun _=>[],inp:=Lj,orc:=orcF,loc:=FD,mov:=Fy }
theorem Xg:fj aj an:=⟨aa9.mixed,aa9.fn⟩
theorem tZ (f:Nat):an.emp f=false:=rfl
theorem sO (f:Nat):an.eat f=none:=rfl
theorem sQX:an.fn nQX=some (⟨false,false,true⟩,qQX):=gQX
theorem oQX:an.orc nQX=none:=rfl
theorem sQY:an.fn Og=some (⟨false,false,true⟩,qQY):=gQY
theorem iQY:an.inp Og=none:=rfl
theorem lQY:an.loc Og=false:=show FD Og=false from by unfold FD; rw[if_neg (show ¬Og=KP by decide)]
theorem vQY:an.mov Og=none:=show Fy Og=none from by unfold Fy; rw[if_neg (show ¬Og=nQr by decide)]
theorem oQY:an.orc Og=none:=rfl
theorem sQZ:an.fn MA=some (⟨false,false,true⟩,qQZ):=gQZ
theorem iQZ:an.inp MA=none:=rfl
theorem lQZ:an.loc MA=false:=show FD MA=false from by unfold FD; rw[if_neg (show ¬MA=KP by decide)]
theorem vQZ:an.mov MA=none:=show Fy MA=none from by unfold Fy; rw[if_neg (show ¬MA=nQr by decide)]
theorem oQZ:an.orc MA=none:=rfl
theorem sQ0:an.fn P5=some (⟨false,false,true⟩,qQ0):=gQ0
theorem iQ0:an.inp P5=none:=rfl
theorem lQ0:an.loc P5=false:=show FD P5=false from by unfold FD; rw[if_neg (show ¬P5=KP by decide)]
theorem vQ0:an.mov P5=none:=show Fy P5=none from by unfold Fy; rw[if_neg (show ¬P5=nQr by decide)]
theorem oQ0:an.orc P5=none:=rfl
theorem PE:an.fn vL=some (⟨false,false,true⟩,VT):=gQa5
theorem Ww:an.inp vL=none:=rfl
theorem lQa5:an.loc vL=false:=show FD vL=false from by unfold FD; rw[if_neg (show ¬vL=KP by decide)]
theorem vQa5:an.mov vL=none:=show Fy vL=none from by unfold Fy; rw[if_neg (show ¬vL=nQr by decide)]
theorem oQa5:an.orc vL=none:=rfl
theorem sQa6:an.fn wI=some (⟨false,false,true⟩,VS):=gQa6
theorem iQa6:an.inp wI=none:=rfl
theorem lQa6:an.loc wI=false:=show FD wI=false from by unfold FD; rw[if_neg (show ¬wI=KP by decide)]
theorem vQa6:an.mov wI=none:=show Fy wI=none from by unfold Fy; rw[if_neg (show ¬wI=nQr by decide)]
theorem oQa6:an.orc wI=none:=rfl
end Go.BmZ
