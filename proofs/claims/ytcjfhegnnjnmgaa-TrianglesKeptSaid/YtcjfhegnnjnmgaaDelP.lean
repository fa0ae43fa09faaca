/- The library's Delete at a list of pairs, for one pair: it takes over the slice that it is given. What its function does. -/
import Derived.Test.YtcjfhegnnjnmgaaInsP
set_option linter.unusedVariables false
set_option linter.unusedSimpArgs false
namespace Go.Proofs
open Go.Shelf Go.RowKit Go.Lib
theorem step_append_runI {P : Program} {ops : Array Oper} {o : Oper} {a : Act} {w : World} {K : Act -> World -> Prop} {Q : Exit -> Act -> World -> Prop} {E : Prop}
  (hg : o.guard = none) (d x : Operand) (dT sT : TypeId) (hop : o.op = Op.call { callee := Callee.builtin Builtin.append, args := #[d, x], argTypes := #[dT, sT] })
  (v u : Value) (hd : a.eval d = v) (hx : a.eval x = u) {v' : Value} {w' : World} (hr : (Builtin.append_ #[dT, sT] o.type #[v, u]).run P w = .ok v' w') (hK : K (a.put o.dst v') w') :
  if Region.wanted o (yielded ops a.tmps) = true then Oper.wp P o a w K Q else E := by
 have hw : Region.wanted o (yielded ops a.tmps) = true := by simp [Region.wanted, hg]
 rw [if_pos hw]
 unfold Oper.wp
 simp [execOp, hop, resolve, invoke, builtin, hd, hx, hr, Result.andThen]
 exact hK
theorem run_clear_rowK {P : Program} (w : World) (t e ty : TypeId) (z : Value) (ht : P.underlying t = some (.slice e)) (hv : ∀ w, (zeroValue e).run P w = .ok z w) (g o n c : Nat) (hn : 0 < n) (cur : Array Value) (te : TypeId) (hg : w.heap[g]? = some (.cells cur te (0, 0)))
  (hfit : o + (Builtin.zeroCells z.cells n).size <= cur.size) (h1 : ∀ v ∈ (Builtin.zeroCells z.cells n).toList, v.oneCell' = true) :
  (Builtin.clear_ #[t] ty #[.slice (some ⟨g, o, none⟩) n c]).run P w = .ok (.tuple #[]) (w.setRow g (cur.toList.take o ++ (Builtin.zeroCells z.cells n).toList ++ cur.toList.drop (o + (Builtin.zeroCells z.cells n).toList.length)).toArray) := by
 have hst := run_storeCells_at P g o te (Builtin.zeroCells z.cells n).toList 0 cur w hg (by simpa using hfit) h1
 simp only [Nat.add_zero] at hst
 obtain ⟨m, rfl⟩ : ∃ m, n = m + 1 := ⟨n - 1, by omega⟩
 simp [Builtin.clear_, run_underlying ht, hv] at hst ⊢
 simp [hst]
def delRow (i n : Nat) (cur : Array Value) (cs : List Value) : List Value :=
 (cur.toList.take (i * 2) ++ cs ++ cur.toList.drop (i * 2 + cs.length)).take ((n - 1) * 2) ++ (insZ 1).toList ++ (cur.toList.take (i * 2) ++ cs ++ cur.toList.drop (i * 2 + cs.length)).drop ((n - 1) * 2 + 2)
set_option maxHeartbeats 4000000 in
set_option maxRecDepth 100000 in
theorem del_walk (g n c i : Nat) (cur : Array Value) (te : TypeId) (cs : List Value) (w : World) (hi : i < n) (hcn : n <= c) (hL : n <= 4294967296)
  (hg : w.heap[g]? = some (.cells cur te (0, 0))) (hfit : c * 2 <= cur.size) (hcl : cs.length = 2 * (n - (i + 1)))
  (hcs : ∀ j v, cs[j]? = some v -> w.cell? ⟨g, (i + 1) * 2 + j, none⟩ = some v) (h1c : ∀ v ∈ cs, v.oneCell' = true) :
  Calls Try.prog 43 #[.slice (some ⟨g, 0, none⟩) n c, .int .i64 i, .int .i64 ((i : Int) + 1)] w fun e w' =>
   e = .returned (.slice (some ⟨g, 0, none⟩) (n - 1) c) /\ w' = w.drew.setRow g (delRow i n cur cs).toArray := by
 have t0 := Try.underlying0; have a0 := Try.isAgg0; have z0 := Try.sizeOf0; have v0 := Try.zeroValue0; have t3 := Try.underlying3; have a3 := Try.isAgg3; have z3 := Try.sizeOf3; have v3 := Try.zeroValue3; have t4 := Try.underlying4; have a4 := Try.isAgg4; have z4 := Try.sizeOf4; have v4 := Try.zeroValue4; have t27 := Try.underlying27; have a27 := Try.isAgg27; have z27 := Try.sizeOf27; have v27 := Try.zeroValue27; have z43 := Try.sizeOf47; have vE := Try.zeroValue47
 have u0 := run_underlying t0; have u3 := run_underlying t3; have u4 := run_underlying t4; have u27 := run_underlying t27
 have mixed := insM
 obtain ⟨i0, hi0, h0z, h0s, h0b⟩ := info_parts insI
 have hz2 : ¬ ((i : Int) = (i : Int) + 1) := by omega
 obtain ⟨A, hA, hsrc⟩ : ∃ A : Addr, (if c = i + 1 then (some (⟨g, 0, none⟩ : Addr)) else some ⟨g, (i + 1) * 2, none⟩) = some A /\ (∀ t u, cs[t]? = some u -> w.cell? (A.add t) = some u) := by
  by_cases h : c = i + 1
  ·refine ⟨⟨g, 0, none⟩, by simp [h], fun t u hu => ?_⟩
   have h0 : cs.length = 0 := by omega
   rw [List.length_eq_zero_iff.1 h0] at hu
   simp at hu
  ·exact ⟨⟨g, (i + 1) * 2, none⟩, by simp [h], fun t u hu => by rw [Addr.add_lit]; exact hcs t u hu⟩
 obtain ⟨row1, hrow1⟩ : ∃ row1, row1 = (cur.toList.take (i * 2) ++ cs ++ cur.toList.drop (i * 2 + cs.length)) := ⟨_, rfl⟩
 have hap : ∀ ty sc, (Builtin.append_ #[27, 27] ty #[.slice (some ⟨g, 0, none⟩) i c, .slice (some A) (n - (i + 1)) sc]).run Try.prog w.drew = .ok (.slice (some ⟨g, 0, none⟩) (n - 1) c) (w.drew.setRow g row1.toArray) := fun ty sc => by
  have hgd : w.drew.heap[g]? = some (.cells cur te (0, 0)) := hg
  have := Go.Am.run_append_room' (P := Try.prog) (ty := ty) (c := sc) t27 hi0 hgd (a := A) (m := n - (i + 1)) (news := cs) (sLen := i) (sCap := c) (by rw [hcl, h0s]; omega) (fun j u hj => hsrc j u hj) h1c (by omega) (by rw [h0s, hcl]; omega)
  rw [h0s, show i + (n - (i + 1)) = n - 1 by omega] at this
  rw [this, hrow1]
 have lrow1 : row1.length = cur.size := by rw [hrow1]; simp; omega
 obtain ⟨W1, hW1⟩ : ∃ W1, W1 = w.drew.setRow g row1.toArray := ⟨_, rfl⟩
 rw [<- hW1] at hap
 have hg1 : W1.heap[g]? = some (.cells row1.toArray te (0, 0)) := by rw [hW1]; exact setRow_heap w.drew g cur _ te _ hg
 have hzz : ∀ v ∈ (Builtin.zeroCells (Value.agg #[.int .i64 0, .int .i64 0]).cells 1).toList, v.oneCell' = true := by
  intro v hv
  have e : (Builtin.zeroCells (Value.agg #[.int .i64 0, .int .i64 0]).cells 1).toList = [.int .i64 0, .int .i64 0] := by simp [Builtin.zeroCells, Value.cells, Array.range, List.range, List.range.loop]
  rw [e] at hv
  simp only [List.mem_cons, List.not_mem_nil, or_false, or_self] at hv
  subst hv
  rfl
 have hcr : ∀ ty cc, (Builtin.clear_ #[27] ty #[.slice (some ⟨g, (n - 1) * 2, none⟩) 1 cc]).run Try.prog W1 = .ok (.tuple #[]) (W1.setRow g (row1.take ((n - 1) * 2) ++ (insZ 1).toList ++ row1.drop ((n - 1) * 2 + 2)).toArray) := fun ty cc => by
  have := run_clear_rowK W1 27 47 ty _ t27 vE g ((n - 1) * 2) 1 cc (by omega) row1.toArray te hg1 (by simp [Builtin.zeroCells, Value.cells]; omega) hzz
  rw [this]
  simp [insZ, Builtin.zeroCells, Value.cells]
 have HW : Hid (W1 = w.drew.setRow g row1.toArray) := hW1
 have HR : Hid (row1 = (cur.toList.take (i * 2) ++ cs ++ cur.toList.drop (i * 2 + cs.length))) := hrow1
 clear hW1 hrow1 hsrc hcs lrow1 hg1
 have hb1 : (0 : Int) <= (i : Int) + 1 := by omega
 have hb0 : (i : Int) <= (i : Int) + 1 := by omega
 have hin : i <= n := by omega
 have hic : i <= c := by omega
 have hi1 : (i : Int) + 1 <= (n : Int) := by omega
 have hi1c : (i : Int) + 1 <= (c : Int) := by omega
 have hi1n : i + 1 <= n := by omega
 have hi1nc : i + 1 <= c := by omega
 have hnc : (n : Int) <= (c : Int) := by omega
 have htn : ((i : Int) + 1).toNat = i + 1 := by omega
 have hn1 : n - 1 <= n := by omega
 have hn1c : n - 1 <= c := by omega
 have hnn : n - (n - 1) = 1 := by omega
 have hcn1 : ¬ (c = n - 1) := by omega
 have hnI : ((n - 1 : Nat) : Int) <= (n : Int) := by omega
 go_enter Try.func43, Try.ntmps43
 go_wp2_with fail
 go_region_law_o (refine step_append_runI rfl (.tmp 22) (.tmp 25) 27 27 rfl (.slice (some ⟨g, 0, none⟩) i c) (.slice (some A) (n - (i + 1)) (c - (i + 1))) (by simp [Act.eval, Act.put]) (by simp [Act.eval, Act.put]) (hap _ _) ?_)
 go_wp2
 go_ret
 refine ⟨rfl, ?_⟩
 rw [show W1 = w.drew.setRow g row1.toArray from HW, setRow_setRow, show row1 = _ from HR]
 unfold delRow
 simp only [List.append_assoc]
end Go.Proofs
