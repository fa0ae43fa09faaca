/- maxclique.Bound, Colours and Proper of the cycle of five, run by the older machine. -/
import Derived.Test.YtoobjomjclombaaDoorAmP
import Derived.Test.YtoobjomjclombaaDoorBmP
import Derived.Test.YtoobjomjclombaaDoorMxR
import Derived.KernelRfl
set_option maxRecDepth 100000
namespace Go.AmP
open Go.Am Go.Bm
def cfgM : Am.Cfg := { cfg with gl := Go.BmP.cfg.gl }
theorem cfgMOK : Am.CfgOK Go.Proofs.Tryd.prog cfgM := ⟨cfgOK.mixed,cfgOK.fn⟩
theorem orcMOK : OrcOK Go.Proofs.Tryd.prog cfgM := fun f g h => by cases h
def runA (f : Nat) (args : List AV) (r : AV) : Bool := match aCall cfgM 400 f args [] with
 | some (x,H) => (match Am.frz H DEEP x with
   | some (y,_) => avE y r
   | none => false)
 | none => false
theorem run_p : runA nQj [G5,.list 1 (ints [2,1,0,1,0])] (.bool true) = true := by kernel_rfl
theorem run_c : runA nQi [G5] (.tup [.list 1 (ints [2,1,0,1,0]),.int .i64 0]) = true := by kernel_rfl
theorem run_b : runA nQr [G5] (.tup [.int .i64 3,.int .i64 0]) = true := by kernel_rfl
end Go.AmP
