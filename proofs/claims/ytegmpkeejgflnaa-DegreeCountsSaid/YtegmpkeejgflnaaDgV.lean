/- One round of cohesionlaw09.DegreeCounts: the program's answers about a graph are the document's. -/
import Derived.Test.YtegmpkeejgflnaaDgU
import Derived.Test.YtegmpkeejgflnaaR02d
set_option linter.unusedSimpArgs false
set_option linter.unusedVariables false
set_option maxRecDepth 100000
set_option maxHeartbeats 8000000
namespace Go.BmP
open Go.Am Go.Bm
structure CntG (n : Int) (F : List Ed) (e : Int) (D S K : List Int) (V : AV) (H : Heap) : Prop where
 hV : (V = .list 1 [] /\ D = [] /\ H = [some [.int .i64 n, .list 2 (eds F)]]) \/ (V = .sl 1 1 0 D.length /\ H = [some [.int .i64 n, .list 2 (eds F)], some (ints D)])
 hl : D.length <= 64 /\ S.length <= 64 /\ K.length <= 64
 pd : callL cfgS nQe [.agg [.int .i64 n, .list 2 (eds F)]] [some [.int .i64 n, .list 2 (eds F)]] = some (.tup [V, .int .i64 e], H)
 rd : callL cfgS nQf [.agg [.int .i64 n, .list 2 (eds F)]] [] = some (.tup [.list 1 (ints D), .int .i64 e], [])
 ps : callL cfgS nQg [.agg [.int .i64 n, .list 2 (eds F)]] [] = some (.tup [.list 1 (ints S), .int .i64 e], [])
 rs : callL cfgS nQh [.agg [.int .i64 n, .list 2 (eds F)]] [] = some (.tup [.list 1 (ints S), .int .i64 e], [])
 ph : callL cfgS nQi [.agg [.int .i64 n, .list 2 (eds F)]] [] = some (.tup [.list 1 (ints K), .int .i64 e], [])
 rh : callL cfgS nQj [.agg [.int .i64 n, .list 2 (eds F)]] [] = some (.tup [.list 1 (ints K), .int .i64 e], [])
theorem hist_len {D : List Int} (h : ∀ x ∈ D, 0 <= x /\ x < 64) : (hist D).length <= 64 := by
 cases D with
 | nil => exact Nat.zero_le _
 | cons x L =>
   have e : (hist (x :: L)).length = (mxL x L).toNat + 1 := hs_len _ _
   have b0 := h x List.mem_cons_self
   have : mxL x L < 64 := by
    rcases (mxL_ge L x).2.2 with q | q
    ·rw [q]; omega
    ·have := h _ (List.mem_cons_of_mem _ q); omega
   omega
theorem cntG_all (n : Int) (F : List Ed) (hE : F.length < 1000000) : ∃ e D S K V H, CntG n F e D S K V H := by
 by_cases h0 : chkG n F = 0
 ·have hG := chkG_zero.1 h0
  obtain ⟨N, rfl⟩ : ∃ N : Nat, n = (N : Int) := ⟨n.toNat, by have := hG.1.1; omega⟩
  have hN := hG.1.2
  have d := pdeg_run hG hE [gBl N F] (.inr rfl)
  have ld := dgA_len hG
  unfold dRs dHp gBl at d
  simp only [List.length_nil, List.length_cons, Nat.zero_add, List.cons_append, List.nil_append] at d
  refine ⟨0, dgA N F, (isort (dgA N F)).reverse, hist (dgA N F), _, _, ?_, ⟨by omega, by rw [List.length_reverse, isort_length]; omega, hist_len (dgA_bd hG)⟩, d, rdegN_run hG hE, seq_run hG hE, rseq_run hG hE, hist_run hG hE, rhist_run hG hE⟩
  by_cases z : N = 0
  ·subst z
   have hd : dgA 0 F = [] := List.eq_nil_of_length_eq_zero ld
   rw [if_pos rfl, if_pos rfl, hd]
   exact .inl ⟨rfl, rfl, rfl⟩
  ·rw [if_neg z, if_neg z, ld]
   exact .inr ⟨rfl, rfl⟩
 ·have r := pdegE_run n F hE _ rfl h0 [gBl n F] (.inr rfl)
  exact ⟨chkG n F, [], [], [], _, _, .inl ⟨rfl, rfl, rfl⟩, ⟨Nat.zero_le _, Nat.zero_le _, Nat.zero_le _⟩, r, rdegE_run n F hE _ rfl h0, seqE_run n F hE _ rfl h0, rseqE_run n F hE _ rfl h0, histE_run n F hE _ rfl h0, rhistE_run n F hE _ rfl h0⟩
end Go.BmP
