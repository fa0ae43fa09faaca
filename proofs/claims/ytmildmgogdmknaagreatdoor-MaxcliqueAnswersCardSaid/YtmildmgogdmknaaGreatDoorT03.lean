/- What triangles.lists returns: the neighbours of each node, ascending. -/
import Derived.Test.YtmildmgogdmknaaGreatDoorT02
set_option linter.unusedSimpArgs false
set_option linter.unusedVariables false
set_option maxRecDepth 100000
set_option maxHeartbeats 4000000
namespace Go.BmP
open Go.Am Go.Bm
def lsF (R:List (List Int)) (e:Ed):List (List Int):=(R.set e.1.toNat (R.getD e.1.toNat []++[e.2])).set e.2.toNat (R.getD e.2.toNat []++[e.1])
theorem KZ (R:List (List Int)) (e:Ed):(lsF R e).length=R.length:=by simp[lsF]
def lstE (N:Nat) (Es:List Ed):List (List Int):=(Es.foldl lsF (List.replicate N [])).map iP
theorem abM (Es:List Ed):∀R:List (List Int),(Es.foldl lsF R).length=R.length:=by
 induction Es with
 |nil=>intro R; rfl
 |cons e r ih=>intro R; rw[List.foldl_cons,ih,KZ]
end Go.BmP
