/- The configuration with the library's functions that write into the slice they are given, and what it says of each function. -/
import Derived.Test.YtpimmjklbakckaaDoorBmP
import Derived.Test.YtpimmjklbakckaaDoorGrfP
set_option maxRecDepth 100000
open Go.Proofs.Tryd renaming prog → ak
namespace Go.BmZ
open Go.Am Go.Bm Go.BmP
def Eu (_:Nat):Option (Nat->List AV->List AV->Option (List AV × Option Nat)):=none
def VJ (_:Nat):Option (List AV->Heap->Option (AV × Heap)):=none
def AR (f:Nat):Bool:=if f=It then true else false
def aD:Go.Bm.dM:={ cfg with gl:=fun _=>[],inp:=Eu,orc:=VJ,loc:=AR }
theorem Oz:eM ak aD:=⟨R6.mixed,R6.fn⟩
theorem empN (f:Nat):aD.emp f=false:=rfl
theorem movN (f:Nat):aD.mov f=none:=rfl
theorem qf (f:Nat):aD.eat f=none:=rfl
theorem sQC:aD.fn Ts=some (⟨false,false,true⟩,qQC):=gQC
theorem oQC:aD.orc Ts=none:=rfl
theorem sQD:aD.fn MC=some (⟨false,false,true⟩,qQD):=gQD
theorem iQD:aD.inp MC=none:=rfl
theorem lQD:aD.loc MC=false:=show AR MC=false from by unfold AR; rw[if_neg (show ¬MC=It by decide)]
theorem oQD:aD.orc MC=none:=rfl
theorem UQ:aD.fn Jp=some (⟨false,false,true⟩,qQE):=gQE
theorem ZF:aD.inp Jp=none:=rfl
theorem lQE:aD.loc Jp=false:=show AR Jp=false from by unfold AR; rw[if_neg (show ¬Jp=It by decide)]
theorem oQE:aD.orc Jp=none:=rfl
theorem sQF:aD.fn NF=some (⟨false,false,true⟩,qQF):=gQF
theorem iQF:aD.inp NF=none:=rfl
theorem lQF:aD.loc NF=false:=show AR NF=false from by unfold AR; rw[if_neg (show ¬NF=It by decide)]
theorem oQF:aD.orc NF=none:=rfl
theorem YE:aD.fn MB=some (⟨false,false,true⟩,qQS):=gQS
theorem iQS:aD.inp MB=none:=rfl
theorem lQS:aD.loc MB=false:=show AR MB=false from by unfold AR; rw[if_neg (show ¬MB=It by decide)]
theorem oQS:aD.orc MB=none:=rfl
theorem sQT:aD.fn ND=some (⟨false,false,true⟩,qQT):=gQT
theorem iQT:aD.inp ND=none:=rfl
theorem lQT:aD.loc ND=false:=show AR ND=false from by unfold AR; rw[if_neg (show ¬ND=It by decide)]
theorem oQT:aD.orc ND=none:=rfl
end Go.BmZ
