/- The law of a heavy node, at numbers of a byte. -/
import Derived.Test.YtapiaeciffmdnaaP05
namespace Go.BmP
open Go.Am Go.Bm
theorem heavy_run (a : Int) (ha : 0 ≤ a ∧ a < 256) (b : Int) (hb : 0 ≤ b ∧ b < 256) (l : List Int) : callL cfgS nLaw37PartitionHeavy [.int .u8 a, .int .u8 b, .list 1 (ints l)] [] = some (.bool true, []) := by
  obtain ⟨x, rfl⟩ : ∃ x : Nat, a = x := ⟨a.toNat, by omega⟩
  obtain ⟨y, rfl⟩ : ∃ y : Nat, b = y := ⟨b.toNat, by omega⟩
  exact heavyN_run x y (by omega) (by omega) l
end Go.BmP
