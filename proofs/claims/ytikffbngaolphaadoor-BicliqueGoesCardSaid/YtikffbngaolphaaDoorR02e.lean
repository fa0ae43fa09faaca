/- nodeset.merged: its loop and its answer. -/
import Derived.Test.YtikffbngaolphaaDoorR02d
set_option linter.unusedSimpArgs false
set_option linter.unusedVariables false
set_option maxRecDepth 100000
set_option maxHeartbeats 4000000
namespace Go.BmP
open Go.Am Go.Bm
/-- A row of ints that a slot owns, or by value. -/
def sq (b : Bool) (l : List Int) : AV := if b then .own 1 (ints l) else .list 1 (ints l)
theorem sq_t (l : List Int) : sq true l = .own 1 (ints l) := rfl
theorem sq_f (l : List Int) : sq false l = .list 1 (ints l) := rfl
/-- The function that says what is kept. -/
def KeepOK (f : Nat) (keep : Bool → Bool → Bool) : Prop := (∃ q, cfgS.fn f = some (⟨false, false, true⟩, q)) ∧ ∀ p r, callL cfgS f [.bool p, .bool r] [] = some (.bool (keep p r), [])
def jk : Bool → Int → Env
  | true, _ => []
  | false, x => [(10, .int .i64 x), (80, .bool false)]
def mst (f : Nat) (b1 b2 : Bool) (A B out : List Int) (J : Env) : St := ⟨(0, sq b1 A) :: (1, sq b2 B) :: (2, .func (.func f) [] []) :: (7, .own 1 (ints out)) :: J, []⟩
end Go.BmP
