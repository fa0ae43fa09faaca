/- The library's Insert at a list of pairs, for one pair: it takes over the slice that it is given. What its function does, by the cases of room. -/
import Derived.Test.YtcjfhegnnjnmgaaBmP
import Derived.Shelf.Spec.SlicesInsertGrow
import Derived.Laws.CopyRow
set_option linter.unusedVariables false
set_option linter.unusedSimpArgs false
namespace Go.Proofs
open Go.Shelf Go.RowKit Go.Lib
theorem run_copy_rowK {P : Program} (w : World) (dT sT ty elem : TypeId) (i : TypeInfo) (g o dLen dCap : Nat) (a : Addr) (sLen sCap m : Nat) (cur : Array Value) (t : TypeId) (cs : List Value)
  (hu : P.underlying dT = some (.slice elem)) (hi : P.info? elem = some i)
  (hg : w.heap[g]? = some (.cells cur t (0, 0))) (hm : Nat.min sLen dLen = m) (hl : cs.length = m * i.size)
  (hsrc : ∀ j v, cs[j]? = some v -> w.cell? (a.add j) = some v) (hfit : o + cs.length <= cur.size) (h1 : ∀ v ∈ cs, v.oneCell' = true) :
  (Builtin.copy_ #[dT, sT] ty #[.slice (some ⟨g, o, none⟩) dLen dCap, .slice (some a) sLen sCap]).run P w =
   .ok (goInt m) (w.setRow g (cur.toList.take o ++ cs ++ cur.toList.drop (o + cs.length)).toArray) := by
 have hf := run_firstCells_some (P := P) w i.size m a sLen sCap cs hl hsrc
 have hst := run_storeCells_at P g o t cs 0 cur w hg (by simpa using hfit) h1
 simp only [Nat.add_zero] at hst
 simp [Builtin.copy_, run_underlying hu, Builtin.lenOf, sizeOf, typeInfo, hi, hm, hf, hst]
theorem cell_setRow {w : World} {g b o : Nat} {r : Array Value} (h : b ≠ g) : (w.setRow g r).cell? ⟨b, o, none⟩ = w.cell? ⟨b, o, none⟩ := by
 simp [World.cell?, World.setRow, Array.getElem?_modify, Ne.symm h]
theorem cellRow2 {w : World} {g o : Nat} {cur : Array Value} {t : TypeId} (hg : w.heap[g]? = some (.cells cur t (0, 0))) : w.cell? ⟨g, o, none⟩ = cur[o]? := by
 simp [World.cell?, hg]
def insRow (i : Nat) (cur : Array Value) (cs vs : List Value) : List Value :=
 (cur.toList.take ((i + 1) * 2) ++ cs ++ cur.toList.drop ((i + 1) * 2 + cs.length)).take (i * 2) ++ vs ++ (cur.toList.take ((i + 1) * 2) ++ cs ++ cur.toList.drop ((i + 1) * 2 + cs.length)).drop (i * 2 + 2)
theorem insI : (Try.prog.info? 47).map (fun i => (i.zero, i.size, i.bytes)) = some (some (.agg #[.int .i64 0, .int .i64 0]), 2, 16) := by kernel_rfl
theorem insM : Try.prog.follows .mixedOrders = true := by kernel_rfl
set_option maxHeartbeats 4000000 in
set_option maxRecDepth 100000 in
theorem ins_shift (g n c i vb voff vc : Nat) (cur va : Array Value) (te vt : TypeId) (cs vs : List Value) (w : World) (hi : i < n) (hL : n <= 4294967296) (hroom : n + 1 <= c) (hvb : vb ≠ g)
  (hg : w.heap[g]? = some (.cells cur te (0, 0))) (hfit : c * 2 <= cur.size) (hcl : cs.length = 2 * (n - i)) (hvl : vs.length = 2)
  (hcs : ∀ j v, cs[j]? = some v -> w.cell? ⟨g, i * 2 + j, none⟩ = some v) (hvs : ∀ j v, vs[j]? = some v -> w.cell? ⟨vb, voff + j, none⟩ = some v) (h1c : ∀ v ∈ cs, v.oneCell' = true) (h1v : ∀ v ∈ vs, v.oneCell' = true)
  (hvh : w.heap[vb]? = some (.cells va vt (0, 0))) :
  Calls Try.prog 40 #[.slice (some ⟨g, 0, none⟩) n c, .int .i64 i, .slice (some ⟨vb, voff, none⟩) 1 vc] w fun e w' =>
   e = .returned (.slice (some ⟨g, 0, none⟩) (n + 1) c) /\ w' = w.drew.setRow g (insRow i cur cs vs).toArray := by
 have t0 := Try.underlying0; have a0 := Try.isAgg0; have z0 := Try.sizeOf0; have v0 := Try.zeroValue0; have t3 := Try.underlying3; have a3 := Try.isAgg3; have z3 := Try.sizeOf3; have v3 := Try.zeroValue3; have t4 := Try.underlying4; have a4 := Try.isAgg4; have z4 := Try.sizeOf4; have v4 := Try.zeroValue4; have t27 := Try.underlying27; have a27 := Try.isAgg27; have z27 := Try.sizeOf27; have v27 := Try.zeroValue27; have z43 := Try.sizeOf47
 have u0 := run_underlying t0; have u3 := run_underlying t3; have u4 := run_underlying t4; have u27 := run_underlying t27
 have mixed := insM
 obtain ⟨i0, hi0, h0z, h0s, h0b⟩ := info_parts insI
 have hz1 : ¬ ((1 : Int) = 0) := by omega
 have hz2 : ¬ ((i : Int) = (n : Int)) := by omega
 have hc1 : ∀ ty dc sc, (Builtin.copy_ #[27, 27] ty #[.slice (some ⟨g, (i + 1) * 2, none⟩) (n - i) dc, .slice (some ⟨g, i * 2, none⟩) (n + 1 - i) sc]).run Try.prog w.drew = .ok (goInt (n - i : Nat)) (w.drew.setRow g (cur.toList.take ((i + 1) * 2) ++ cs ++ cur.toList.drop ((i + 1) * 2 + cs.length)).toArray) := fun ty dc sc =>
  run_copy_rowK w.drew 27 27 ty 47 i0 g _ _ dc _ _ sc (n - i) cur te cs t27 hi0 hg (by simp only [Nat.min_def]; split <;> omega) (by rw [h0s, hcl]; omega) (fun j v hj => by rw [Addr.add_lit]; exact hcs j v hj) (by omega) h1c
 obtain ⟨row1, hrow1⟩ : ∃ row1, row1 = (cur.toList.take ((i + 1) * 2) ++ cs ++ cur.toList.drop ((i + 1) * 2 + cs.length)) := ⟨_, rfl⟩
 rw [<- hrow1] at hc1
 have lrow1 : row1.length = cur.size := by rw [hrow1]; simp; omega
 obtain ⟨W1, hW1⟩ : ∃ W1, W1 = w.drew.setRow g row1.toArray := ⟨_, rfl⟩
 rw [<- hW1] at hc1
 have hg1 : W1.heap[g]? = some (.cells row1.toArray te (0, 0)) := by rw [hW1]; exact setRow_heap w.drew g cur _ te _ hg
 have hv1 : ∀ j v, vs[j]? = some v -> W1.cell? ⟨vb, voff + j, none⟩ = some v := fun j v hj => by
  rw [hW1, cell_setRow hvb]
  exact hvs j v hj
 have hc2 : ∀ ty dc, (Builtin.copy_ #[27, 27] ty #[.slice (some ⟨g, i * 2, none⟩) (n + 1 - i) dc, .slice (some ⟨vb, voff, none⟩) 1 vc]).run Try.prog W1 = .ok (goInt (1 : Nat)) (W1.setRow g (row1.take (i * 2) ++ vs ++ row1.drop (i * 2 + vs.length)).toArray) := fun ty dc => by
  have := run_copy_rowK W1 27 27 ty 47 i0 g (i * 2) (n + 1 - i) dc ⟨vb, voff, none⟩ 1 vc 1 row1.toArray te vs t27 hi0 hg1 (by simp only [Nat.min_def]; split <;> omega) (by rw [h0s, hvl]) (fun j v hj => by rw [Addr.add_lit]; exact hv1 j v hj) (by simp; omega) h1v
  simpa using this
 have HW : Hid (W1 = w.drew.setRow g row1.toArray) := hW1
 have HR : Hid (row1 = (cur.toList.take ((i + 1) * 2) ++ cs ++ cur.toList.drop ((i + 1) * 2 + cs.length))) := hrow1
 clear hW1 hrow1
 have hov : ∀ lb cb, (callFunc 54 #[.slice (some ⟨vb, voff, none⟩) 1 vc, .slice (some ⟨g, (i + 1) * 2, none⟩) lb cb]).run Try.prog w = .ok (.value (.bool false)) w := fun lb cb => by
  rw [run_callFunc_extern Try.func54 (by kernel_rfl) (by kernel_rfl) (by kernel_rfl) (e := Extern.SlicesOverlaps.overlaps #[27, 27] #[4]) (by kernel_rfl),
   Lib.run_overlaps_apart w 27 4 47 t27 2 z43 ⟨vb, voff, none⟩ ⟨g, (i + 1) * 2, none⟩ 1 vc lb cb hvb vt te va.size cur.size (by simp [World.shape?, hvh]) (by simp [World.shape?, hg]) (by omega) (by simp [World.frozen?, hvh]) (by simp [World.frozen?, hvh])]
  rfl
 clear hvh
 have hw1 : IntKind.i64.wrap ((i : Int) + 1) = (i : Int) + 1 := by rw [IntKind.wrap_i64]; omega
 have hw2 : IntKind.i64.wrap ((n : Int) + 1) = (n : Int) + 1 := by rw [IntKind.wrap_i64]; omega
 have hb1 : (0 : Int) <= (i : Int) + 1 := by omega
 have hin : i <= n := by omega
 have htn : ((i : Int) + 1).toNat = i + 1 := by omega
 have hb2 : ¬ (c = i + 1) := by omega
 have hb3 : (i : Int) <= (n : Int) + 1 := by omega
 have hb4 : ¬ (c = i) := by omega
 go_enter Try.func40, Try.ntmps40
 go_wp2_with (simp only [hov])
 go_region_law_o (refine step_copy_runI rfl _ _ 27 27 rfl _ _ (by simp [Act.eval, Act.put]) (by simp [Act.eval, Act.put]) (hc1 _ _ _) ?_)
 go_wp2_with (at_builtin; refine wpList_copy_runI _ rfl _ _ 27 27 rfl _ _ rfl rfl (hc2 _ _) ?_)
 go_ret
 refine ⟨rfl, ?_⟩
 rw [show W1 = w.drew.setRow g row1.toArray from HW, setRow_setRow, show row1 = _ from HR]
 unfold insRow
 simp only [hvl, List.append_assoc]
set_option maxHeartbeats 4000000 in
set_option maxRecDepth 100000 in
theorem ins_end (g n c vb voff vc : Nat) (cur : Array Value) (te : TypeId) (vs : List Value) (w : World) (hroom : n + 1 <= c)
  (hg : w.heap[g]? = some (.cells cur te (0, 0))) (hfit : c * 2 <= cur.size) (hvl : vs.length = 2)
  (hvs : ∀ j v, vs[j]? = some v -> w.cell? ⟨vb, voff + j, none⟩ = some v) (h1v : ∀ v ∈ vs, v.oneCell' = true) :
  Calls Try.prog 40 #[.slice (some ⟨g, 0, none⟩) n c, .int .i64 n, .slice (some ⟨vb, voff, none⟩) 1 vc] w fun e w' =>
   e = .returned (.slice (some ⟨g, 0, none⟩) (n + 1) c) /\ w' = w.setRow g (cur.toList.take (n * 2) ++ vs ++ cur.toList.drop (n * 2 + 2)).toArray := by
 have t0 := Try.underlying0; have a0 := Try.isAgg0; have z0 := Try.sizeOf0; have v0 := Try.zeroValue0; have t3 := Try.underlying3; have a3 := Try.isAgg3; have z3 := Try.sizeOf3; have v3 := Try.zeroValue3; have t4 := Try.underlying4; have a4 := Try.isAgg4; have z4 := Try.sizeOf4; have v4 := Try.zeroValue4; have t27 := Try.underlying27; have a27 := Try.isAgg27; have z27 := Try.sizeOf27; have v27 := Try.zeroValue27; have z43 := Try.sizeOf47
 have u0 := run_underlying t0; have u3 := run_underlying t3; have u4 := run_underlying t4; have u27 := run_underlying t27
 have mixed := insM
 obtain ⟨i0, hi0, h0z, h0s, h0b⟩ := info_parts insI
 have hz1 : ¬ ((1 : Int) = 0) := by omega
 have hrun : ∀ ty, (Builtin.append_ #[27, 27] ty #[.slice (some ⟨g, 0, none⟩) n c, .slice (some ⟨vb, voff, none⟩) 1 vc]).run Try.prog w = .ok (.slice (some ⟨g, 0, none⟩) (n + 1) c) (w.setRow g (cur.toList.take (n * 2) ++ vs ++ cur.toList.drop (n * 2 + 2)).toArray) := fun ty => by
  have := Go.Am.run_append_room' (P := Try.prog) (ty := ty) (c := vc) t27 hi0 hg (a := ⟨vb, voff, none⟩) (m := 1) (news := vs) (sLen := n) (sCap := c) (by rw [hvl, h0s]) (fun j u hj => by rw [Addr.add_lit]; exact hvs j u hj) h1v hroom (by rw [h0s, hvl]; omega)
  rw [h0s, hvl] at this
  exact this
 go_enter Try.func40, Try.ntmps40
 go_wp2_with (at_builtin; refine Lib.wpList_append_run _ rfl _ _ _ _ rfl _ _ rfl rfl _ _ (hrun _) ?_)
 go_ret
 exact ⟨rfl, by rw [List.append_assoc]⟩
def insZ (n : Nat) : Array Value := Builtin.zeroCells (Value.agg #[.int .i64 0, .int .i64 0]).cells n
set_option maxHeartbeats 4000000 in
set_option maxRecDepth 100000 in
theorem ins_end_grow (base : Option Addr) (n vb voff vc : Nat) (cs vs : List Value) (w : World) (hbig : (n + 1) * 16 <= 140737488355328)
  (hcl : cs.length = n * 2) (hvl : vs.length = 2) (hnil : base = none -> n = 0)
  (hcs : ∀ a, base = some a -> ∀ j v, cs[j]? = some v -> w.cell? (a.add j) = some v)
  (hvs : ∀ j v, vs[j]? = some v -> w.cell? ⟨vb, voff + j, none⟩ = some v) (h1v : ∀ v ∈ vs, v.oneCell' = true) :
  Calls Try.prog 40 #[.slice base n n, .int .i64 n, .slice (some ⟨vb, voff, none⟩) 1 vc] w fun e w' =>
   e = .returned (.slice (some ⟨w.heap.size, 0, none⟩) (n + 1) (grownCap w (n + 1) n 47)) /\
   w' = w.drew.alloc (.cells ((cs ++ vs).toArray ++ insZ (grownCap w (n + 1) n 47 - (n + 1))) 47) := by
 have t0 := Try.underlying0; have a0 := Try.isAgg0; have z0 := Try.sizeOf0; have v0 := Try.zeroValue0; have t3 := Try.underlying3; have a3 := Try.isAgg3; have z3 := Try.sizeOf3; have v3 := Try.zeroValue3; have t4 := Try.underlying4; have a4 := Try.isAgg4; have z4 := Try.sizeOf4; have v4 := Try.zeroValue4; have t27 := Try.underlying27; have a27 := Try.isAgg27; have z27 := Try.sizeOf27; have v27 := Try.zeroValue27; have z43 := Try.sizeOf47
 have u0 := run_underlying t0; have u3 := run_underlying t3; have u4 := run_underlying t4; have u27 := run_underlying t27
 have mixed := insM
 obtain ⟨i0, hi0, h0z, h0s, h0b⟩ := info_parts insI
 have hz1 : ¬ ((1 : Int) = 0) := by omega
 have hsrc : Src Try.prog i0.size 27 (.slice (some ⟨vb, voff, none⟩) 1 vc) 1 vs w := by
  rw [h0s]
  exact Src.ofSlice w t27 ⟨vb, voff, none⟩ 1 vc vs (by omega) (fun j u hj => by rw [Addr.add_lit]; exact hvs j u hj) h1v
 have hold : (Builtin.firstCells i0.size n (.slice base n n)).run Try.prog w.drew = .ok cs.toArray w.drew := by
  rw [h0s]
  cases base with
  | none =>
    have h0 := hnil rfl
    subst h0
    have hc0 : cs = [] := List.length_eq_zero_iff.1 (by simpa using hcl)
    subst hc0
    exact run_firstCells_none w.drew 2 0 0 0
  | some a => exact run_firstCells_some w.drew 2 n a n n cs (by omega) (fun j v hj => hcs a rfl j v hj)
 have hrun : ∀ ty, (Builtin.append_ #[27, 27] ty #[.slice base n n, .slice (some ⟨vb, voff, none⟩) 1 vc]).run Try.prog w = .ok (.slice (some ⟨w.heap.size, 0, none⟩) (n + 1) (grownCap w (n + 1) n 47)) (w.drew.alloc (.cells ((cs ++ vs).toArray ++ insZ (grownCap w (n + 1) n 47 - (n + 1))) 47)) := fun ty =>
  run_append_grow_src w 27 27 ty 47 i0 _ t27 hi0 h0z base n n cs hold _ 1 vs hsrc (by omega) (by omega) (by rw [h0b]; exact growslice_fits (by omega) hbig)
 go_enter Try.func40, Try.ntmps40
 cases base with
 | none =>
   have h0 := hnil rfl
   subst h0
   go_wp2_with (at_builtin; refine Lib.wpList_append_run _ rfl _ _ _ _ rfl _ _ rfl rfl _ _ (hrun _) ?_)
   go_ret
   exact ⟨rfl, rfl⟩
 | some a =>
   obtain ⟨ab, ao, asp⟩ := a
   go_wp2_with (at_builtin; refine Lib.wpList_append_run _ rfl _ _ _ _ rfl _ _ rfl rfl _ _ (hrun _) ?_)
   all_goals (go_ret; exact ⟨rfl, rfl⟩)
def insNew (i : Nat) (row : List Value) (vs ds : List Value) : List Value :=
 (row.take (i * 2) ++ vs ++ row.drop (i * 2 + 2)).take ((i + 1) * 2) ++ ds ++ (row.take (i * 2) ++ vs ++ row.drop (i * 2 + 2)).drop ((i + 1) * 2 + ds.length)
set_option maxHeartbeats 4000000 in
set_option maxRecDepth 100000 in
theorem ins_grow (g n i vb voff vc : Nat) (cs ds vs : List Value) (w : World) (hi : i < n) (hbig : (n + 1) * 16 <= 140737488355328)
  (hcl : cs.length = i * 2) (hdl : ds.length = 2 * (n - i)) (hvl : vs.length = 2) (hgw : g < w.heap.size) (hvw : vb < w.heap.size)
  (hcs : ∀ j v, cs[j]? = some v -> w.cell? ⟨g, j, none⟩ = some v) (hds : ∀ j v, ds[j]? = some v -> w.cell? ⟨g, i * 2 + j, none⟩ = some v)
  (hvs : ∀ j v, vs[j]? = some v -> w.cell? ⟨vb, voff + j, none⟩ = some v) (h1d : ∀ v ∈ ds, v.oneCell' = true) (h1v : ∀ v ∈ vs, v.oneCell' = true) :
  Calls Try.prog 40 #[.slice (some ⟨g, 0, none⟩) n n, .int .i64 i, .slice (some ⟨vb, voff, none⟩) 1 vc] w fun e w' =>
   e = .returned (.slice (some ⟨w.heap.size, 0, none⟩) (n + 1) (grownCap w (n + 1) n 47)) /\
   w' = ((w.alloc (.cells (cs ++ (insZ (n + 1 - i)).toList ++ (insZ (grownCap w (n + 1) n 47 - (n + 1))).toList).toArray 47)).drew.drew).setRow w.heap.size (insNew i (cs ++ (insZ (n + 1 - i)).toList ++ (insZ (grownCap w (n + 1) n 47 - (n + 1))).toList) vs ds).toArray := by
 have t0 := Try.underlying0; have a0 := Try.isAgg0; have z0 := Try.sizeOf0; have v0 := Try.zeroValue0; have t3 := Try.underlying3; have a3 := Try.isAgg3; have z3 := Try.sizeOf3; have v3 := Try.zeroValue3; have t4 := Try.underlying4; have a4 := Try.isAgg4; have z4 := Try.sizeOf4; have v4 := Try.zeroValue4; have t27 := Try.underlying27; have a27 := Try.isAgg27; have z27 := Try.sizeOf27; have v27 := Try.zeroValue27; have z43 := Try.sizeOf47
 have u0 := run_underlying t0; have u3 := run_underlying t3; have u4 := run_underlying t4; have u27 := run_underlying t27
 have mixed := insM
 obtain ⟨i0, hi0, h0z, h0s, h0b⟩ := info_parts insI
 have hz1 : ¬ ((1 : Int) = 0) := by omega
 have hz2 : ¬ ((i : Int) = (n : Int)) := by omega
 have hz3 : (n : Int) < (n : Int) + 1 := by omega
 have hkk : (n : Int) + 1 - (i : Int) = ((n + 1 - i : Nat) : Int) := by omega
 have hik : i + (n + 1 - i) = n + 1 := by omega
 have hold : (Builtin.firstCells i0.size i (.slice (some ⟨g, 0, none⟩) i n)).run Try.prog w.drew = .ok cs.toArray w.drew := by
  rw [h0s]
  exact run_firstCells_some w.drew 2 i ⟨g, 0, none⟩ i n cs hcl (fun j v hj => by rw [Addr.add_lit, Nat.zero_add]; exact hcs j v hj)
 obtain ⟨G, hG⟩ : ∃ G, G = grownCap w (n + 1) n 47 := ⟨_, rfl⟩
 have hrz : ∀ ty, (Builtin.append_ #[27, 3] ty #[.slice (some ⟨g, 0, none⟩) i n, .int .i64 ((n : Int) + 1 - (i : Int))]).run Try.prog w =
   .ok (.slice (some ⟨w.heap.size, 0, none⟩) (n + 1) G) (w.drew.alloc (.cells (cs.toArray ++ insZ (n + 1 - i) ++ insZ (G - (n + 1))) 47)) := fun ty => by
  have h := Lib.run_append_grow_zeros w 27 3 ty 47 i0 _ .i64 .i64 t27 t3 hi0 h0z (some ⟨g, 0, none⟩) i n cs hold (n + 1 - i) (by omega) (by omega) (by omega) (by omega) (by rw [h0b]; omega) (by rw [h0b, hik]; exact growslice_fits (by omega) hbig)
  rw [hik, <- hG] at h
  rw [hkk]
  exact h
 have hGn : n + 1 <= G := by rw [hG]; exact grownCap_ge w _ _ _
 have hG63 : G <= 9223372036854775807 := by
  have := grownCap_le_maxLen w (n + 1) n 47 (by unfold maxLen; omega)
  rw [<- hG] at this
  unfold maxLen at this
  omega
 have hGi : ¬ (G = i) := by omega
 have hGim : ¬ (G = i + 1) := by omega
 have hni : ¬ (n = i) := by omega
 obtain ⟨row, hrow⟩ : ∃ row, row = (cs ++ (insZ (n + 1 - i)).toList ++ (insZ (G - (n + 1))).toList) := ⟨_, rfl⟩
 have hlZ : ∀ m, (insZ m).size = m * 2 := fun m => by simp [insZ, Builtin.zeroCells, Value.cells]
 have hlr : row.length = G * 2 := by rw [hrow]; simp [hlZ]; omega
 have hra : cs.toArray ++ insZ (n + 1 - i) ++ insZ (G - (n + 1)) = row.toArray := by rw [hrow]; simp
 rw [hra] at hrz
 have hcA : ∀ W : World, W.heap[w.heap.size]? = some (.cells row.toArray 47 (0, 0)) -> (∀ j v, vs[j]? = some v -> W.cell? ⟨vb, voff + j, none⟩ = some v) -> ∀ ty dc, (Builtin.copy_ #[27, 27] ty #[.slice (some ⟨w.heap.size, i * 2, none⟩) (n + 1 - i) dc, .slice (some ⟨vb, voff, none⟩) 1 vc]).run Try.prog W = .ok (goInt (1 : Nat)) (W.setRow w.heap.size (row.take (i * 2) ++ vs ++ row.drop (i * 2 + 2)).toArray) := fun W hW hV ty dc => by
  have := run_copy_rowK W 27 27 ty 47 i0 w.heap.size (i * 2) (n + 1 - i) dc ⟨vb, voff, none⟩ 1 vc 1 row.toArray 47 vs t27 hi0 hW (by simp only [Nat.min_def]; split <;> omega) (by rw [h0s, hvl]) (fun j v hj => by rw [Addr.add_lit]; exact hV j v hj) (by simp; omega) h1v
  rw [hvl] at this
  simpa using this
 obtain ⟨rowA, hrowA⟩ : ∃ rowA, rowA = (row.take (i * 2) ++ vs ++ row.drop (i * 2 + 2)) := ⟨_, rfl⟩
 rw [<- hrowA] at hcA
 have hlA : rowA.length = G * 2 := by rw [hrowA]; simp; omega
 have hcB : ∀ W : World, W.heap[w.heap.size]? = some (.cells rowA.toArray 47 (0, 0)) -> (∀ j v, ds[j]? = some v -> W.cell? ⟨g, i * 2 + j, none⟩ = some v) -> ∀ ty dc sc, (Builtin.copy_ #[27, 27] ty #[.slice (some ⟨w.heap.size, (i + 1) * 2, none⟩) (n - i) dc, .slice (some ⟨g, i * 2, none⟩) (n - i) sc]).run Try.prog W = .ok (goInt (n - i : Nat)) (W.setRow w.heap.size (rowA.take ((i + 1) * 2) ++ ds ++ rowA.drop ((i + 1) * 2 + ds.length)).toArray) := fun W hW hV ty dc sc => by
  have := run_copy_rowK W 27 27 ty 47 i0 w.heap.size ((i + 1) * 2) (n - i) dc ⟨g, i * 2, none⟩ (n - i) sc (n - i) rowA.toArray 47 ds t27 hi0 hW (by simp only [Nat.min_def]; split <;> omega) (by rw [h0s, hdl]; omega) (fun j v hj => by rw [Addr.add_lit]; exact hV j v hj) (by simp; omega) h1d
  simpa using this
 have HR : Hid (row = (cs ++ (insZ (n + 1 - i)).toList ++ (insZ (G - (n + 1))).toList)) := hrow
 have HA : Hid (rowA = (row.take (i * 2) ++ vs ++ row.drop (i * 2 + 2))) := hrowA
 have HG : Hid (G = grownCap w (n + 1) n 47) := hG
 have HV : Hid (∀ j v, vs[j]? = some v -> w.cell? ⟨vb, voff + j, none⟩ = some v) := hvs
 have HD : Hid (∀ j v, ds[j]? = some v -> w.cell? ⟨g, i * 2 + j, none⟩ = some v) := hds
 have h0 : ∀ o : Obj, (w.alloc o).drew.heap[w.heap.size]? = some o := fun o => by show (w.heap.push o)[w.heap.size]? = some o; simp
 have hp : ∀ (o : Obj) (b k : Nat), b < w.heap.size -> (w.alloc o).drew.cell? ⟨b, k, none⟩ = w.cell? ⟨b, k, none⟩ := fun o b k hb => World.cell?_alloc_past (w := w.drew) _ b k hb
 have hcA1 := hcA ((w.alloc (.cells row.toArray 47)).drew) (h0 _) (fun j v hj => by rw [hp _ _ _ hvw]; exact hvs j v hj)
 have hcB1 := hcB (((w.alloc (.cells row.toArray 47)).drew.setRow w.heap.size rowA.toArray).drew) (setRow_heap (w.alloc (.cells row.toArray 47)).drew w.heap.size row.toArray _ 47 _ (h0 _)) (fun j v hj => by
  have e : (((w.alloc (.cells row.toArray 47)).drew.setRow w.heap.size rowA.toArray).drew).cell? ⟨g, i * 2 + j, none⟩ = ((w.alloc (.cells row.toArray 47)).drew.setRow w.heap.size rowA.toArray).cell? ⟨g, i * 2 + j, none⟩ := rfl
  rw [e, cell_setRow (by omega), hp _ _ _ hgw]; exact hds j v hj)
 have hw1 : IntKind.i64.wrap ((i : Int) + 1) = (i : Int) + 1 := by rw [IntKind.wrap_i64]; omega
 have hw2 : IntKind.i64.wrap ((n : Int) + 1) = (n : Int) + 1 := by rw [IntKind.wrap_i64]; omega
 have hw3 : IntKind.i64.wrap ((n : Int) + 1 - (i : Int)) = (n : Int) + 1 - (i : Int) := by rw [IntKind.wrap_i64]; omega
 have hb1 : (0 : Int) <= (i : Int) + 1 := by omega
 have hin : i <= n := by omega
 have htn : ((i : Int) + 1).toNat = i + 1 := by omega
 have hb3 : (i : Int) <= (n : Int) := by omega
 clear hrow hrowA hG hkk hik hold hra hlr hlA hlZ hvs hds hcA hcB hcs h0 hp HV HD
 go_enter Try.func40, Try.ntmps40
 go_wp2_with (first
  | (at_builtin; refine Lib.wpList_append_run _ rfl _ _ _ _ rfl _ _ rfl rfl _ _ (hrz _) ?_)
  | (at_builtin; refine wpList_copy_runI _ rfl _ _ 27 27 rfl _ _ rfl rfl (hcA1 _ _) ?_))
 go_region_law_o (refine step_copy_runI rfl _ _ 27 27 rfl _ _ (by simp [Act.eval, Act.put]) (by simp [Act.eval, Act.put]) (hcB1 _ _ _) ?_)
 go_wp2
 go_ret
 refine ⟨congrArg (fun z => Ending.returned (.slice (some ⟨w.heap.size, 0, none⟩) (n + 1) z)) (show G = grownCap w (n + 1) n 47 from HG), ?_⟩
 show ((w.alloc (.cells row.toArray 47)).drew.drew.setRow w.heap.size rowA.toArray).setRow w.heap.size _ = _
 rw [setRow_setRow]
 unfold insNew
 rw [hdl, <- show G = grownCap w (n + 1) n 47 from HG, <- show row = _ from HR, <- show rowA = _ from HA]
 simp only [List.append_assoc]
end Go.Proofs
