/- The configuration with the library's functions that write into the slice they are given, and what it says of each function. -/
import Derived.Test.YtpimmjklbakckaaGreatDoorBmP
import Derived.Test.YtpimmjklbakckaaGreatDoorGrfP
set_option maxRecDepth 100000
open Go.Proofs.Tryz renaming prog → aj
namespace Go.BmZ
open Go.Am Go.Bm Go.BmP
def Gw (_:Nat):Option (Nat->List AV->List AV->Option (List AV × Option Nat)):=none
def Ym (_:Nat):Option (List AV->Heap->Option (AV × Heap)):=none
def B7 (f:Nat):Bool:=if f=MV then true else false
def aC:Go.Bm.dO:={ cfg with gl:=fun _=>[],inp:=Gw,orc:=Ym,loc:=B7 }
theorem Q9:eR aj aC:=⟨UH.mixed,UH.fn⟩
theorem empN (f:Nat):aC.emp f=false:=rfl
theorem movN (f:Nat):aC.mov f=none:=rfl
theorem qQ (f:Nat):aC.eat f=none:=rfl
theorem sQE:aC.fn V6=some (⟨false,false,true⟩,qQE):=gQE
theorem oQE:aC.orc V6=none:=rfl
theorem sQF:aC.fn O6=some (⟨false,false,true⟩,qQF):=gQF
theorem iQF:aC.inp O6=none:=rfl
theorem lQF:aC.loc O6=false:=show B7 O6=false from by unfold B7; rw[if_neg (show ¬O6=MV by decide)]
theorem oQF:aC.orc O6=none:=rfl
theorem Xy:aC.fn Lw=some (⟨false,false,true⟩,qQG):=gQG
theorem iQG:aC.inp Lw=none:=rfl
theorem lQG:aC.loc Lw=false:=show B7 Lw=false from by unfold B7; rw[if_neg (show ¬Lw=MV by decide)]
theorem oQG:aC.orc Lw=none:=rfl
theorem sQH:aC.fn Qn=some (⟨false,false,true⟩,qQH):=gQH
theorem iQH:aC.inp Qn=none:=rfl
theorem lQH:aC.loc Qn=false:=show B7 Qn=false from by unfold B7; rw[if_neg (show ¬Qn=MV by decide)]
theorem oQH:aC.orc Qn=none:=rfl
theorem sQX:aC.fn O5=some (⟨false,false,true⟩,qQX):=gQX
theorem iQX:aC.inp O5=none:=rfl
theorem lQX:aC.loc O5=false:=show B7 O5=false from by unfold B7; rw[if_neg (show ¬O5=MV by decide)]
theorem oQX:aC.orc O5=none:=rfl
theorem sQY:aC.fn Qm=some (⟨false,false,true⟩,qQY):=gQY
theorem iQY:aC.inp Qm=none:=rfl
theorem lQY:aC.loc Qm=false:=show B7 Qm=false from by unfold B7; rw[if_neg (show ¬Qm=MV by decide)]
theorem oQY:aC.orc Qm=none:=rfl
end Go.BmZ
