/- What masks.Rows and masks.Count return; degree.Degrees. -/
import Derived.Test.YtldlafnfkiiflaaDoorUseM
import Derived.Test.YtldlafnfkiiflaaDoorK04
import Derived.Test.YtldlafnfkiiflaaDoorBicP
set_option linter.unusedSimpArgs false
set_option linter.unusedVariables false
set_option maxRecDepth 100000
set_option maxHeartbeats 4000000
namespace Go.BmP
open Go.Am Go.Bm
theorem adj_spec {N : Nat} {Es : List Ed} (h : GOK (N : Int) Es) : (adjE N Es).length = N /\ Small (adjE N Es) /\ ∀ a b : Nat, ((adjE N Es).getD a 0).testBit b = (decide (((a : Int), (b : Int)) ∈ Es) || decide (((b : Int), (a : Int)) ∈ Es)) := by
 have hn := h.1
 obtain ⟨i1, i2, i3⟩ := adjOf_spec N (by omega) Es (List.replicate N 0) (by simp) (fun x hx => by have := List.eq_of_mem_replicate hx; omega) h.2.2
 refine ⟨i1, i2, fun a b => ?_⟩
 unfold adjE
 rw [i3]
 have : ((List.replicate N 0).getD a 0) = 0 := by rw [List.getD_eq_getElem?_getD, List.getElem?_replicate]; split <;> rfl
 rw [this, Nat.zero_testBit, Bool.false_or]
def pc9 (m : Nat) : Nat := ((List.range 9).filter fun j => m.testBit j).length
def pcA (x : Int) : Int := IntKind.u64.wrap (bits .and .u64 (x.fdiv 2) 6148914691236517205 + bits .and .u64 x 6148914691236517205)
def pcB (x : Int) : Int := IntKind.u64.wrap (bits .and .u64 (x.fdiv 4) 3689348814741910323 + bits .and .u64 x 3689348814741910323)
def pcC (x : Int) : Int := bits .and .u64 (IntKind.u64.wrap (x.fdiv 16 + x)) 1085102592571150095
def pcD (n : Int) (x : Int) : Int := IntKind.u64.wrap (x + x.fdiv n)
def pcE (x : Int) : Int := bits .and .i64 (IntKind.i64.wrap (pcD 4294967296 (pcD 65536 (pcD 256 (pcC (pcB (pcA x))))))) 127
theorem ones_run (x : Int) : callL cfgS nQC [.int .u64 x] [] = some (.int .i64 (pcE x), []) := by
 obtain ⟨a, ea⟩ : ∃ a, IntKind.u64.wrap (bits .and .u64 (x.fdiv 2) 6148914691236517205 + bits .and .u64 x 6148914691236517205) = a := ⟨_, rfl⟩
 obtain ⟨b, eb⟩ : ∃ b, IntKind.u64.wrap (bits .and .u64 (a.fdiv 4) 3689348814741910323 + bits .and .u64 a 3689348814741910323) = b := ⟨_, rfl⟩
 obtain ⟨c, ec⟩ : ∃ c, bits .and .u64 (IntKind.u64.wrap (b.fdiv 16 + b)) 1085102592571150095 = c := ⟨_, rfl⟩
 obtain ⟨d, ed⟩ : ∃ d, IntKind.u64.wrap (c + c.fdiv 256) = d := ⟨_, rfl⟩
 obtain ⟨e, ee⟩ : ∃ e, IntKind.u64.wrap (d + d.fdiv 65536) = e := ⟨_, rfl⟩
 obtain ⟨f, ef⟩ : ∃ f, IntKind.u64.wrap (e + e.fdiv 4294967296) = f := ⟨_, rfl⟩
 have hp : pcE x = bits .and .i64 (IntKind.i64.wrap f) 127 := by unfold pcE pcD pcC pcB pcA; rw [ea, eb, ec, ed, ee, ef]
 rw [hp]
 rw [callL_end oQC sQC (Nat.le_of_ble_eq_true rfl)]
 unfold qQC cQC
 simp [rQCX0, rQCX1, rQCX2, rQCX3, rQCX4, rQCX5, rQCX6, rQCX7, ea, eb, ec, ed, ee, ef, IntKind.bits, blk, endL, finB]
end Go.BmP
