/- The library's Insert at a list of pairs, for one pair: it takes over the slice that it is given. What its function does, by the cases of room. -/
import Derived.Test.YtmoginoicilobabGreatBmP
import Derived.Shelf.Spec.SlicesInsertGrow
import Derived.Laws.CopyRow
import Derived.Test.YtmoginoicilobabGreatMe
set_option linter.unusedVariables false
set_option linter.unusedSimpArgs false
open Array renaming getElem?_eq_getElem → dX, getElem?_eq_some_iff → dG, getElem?_modify → tc, getElem?_push → yt, length_toList → kq
open Go.Proofs.Tryz renaming prog → af
open List renaming append_assoc → bK, append_nil → jS, getElem?_append → kC, getElem?_drop → aQ, getElem?_of_mem → br, getElem?_take → bf, length_append → bX, length_drop → c9, length_eq_zero_iff → rS, mem_append → aC, mem_cons → aU, mem_of_mem_drop → cF, mem_of_mem_take → cD, size_toArray → mi
open Nat renaming le_refl → aT, le_succ → K5, min_def → Gx, zero_add → dM
open Ne renaming symm → kj
open Option.some renaming inj → cK, injEq → ah
namespace Go.Proofs
open Go.Shelf Go.RowKit Go.Lib
theorem mc {P : Program} (w : World) (dT sT ty elem : TypeId) (i : TypeInfo) (g o dLen dCap : Nat) (a : Addr) (sLen sCap m : Nat) (cur : Array Value) (t : TypeId) (cs : List Value)
  (hu : P.underlying dT = some (.slice elem)) (hi : P.info? elem = some i)
  (hg : w.heap[g]? = some (.cells cur t (0,0))) (hm : Nat.min sLen dLen = m) (hl : cs.length = m * i.size)
  (VN : ∀ j v,cs[j]? = some v -> w.cell? (a.add j) = some v) (jX : o + cs.length <= cur.size) (h1 : ∀ v ∈ cs,v.oneCell' = true) :
  (Builtin.copy_ #[dT,sT] ty #[.slice (some ⟨g,o,none⟩) dLen dCap,.slice (some a) sLen sCap]).run P w =
   .ok (goInt m) (w.setRow g (cur.toList.take o ++ cs ++ cur.toList.drop (o + cs.length)).toArray) := by
 have hf := run_firstCells_some (P := P) w i.size m a sLen sCap cs hl VN;have yk := run_storeCells_at P g o t cs 0 cur w hg (by simpa using jX) h1;simp only [Nat.add_zero] at yk;simp [Builtin.copy_,run_underlying hu,Builtin.lenOf,sizeOf,typeInfo,hi,hm,hf,yk]
theorem Ci {w : World} {g b o : Nat} {r : Array Value} (h : b ≠ g) : (w.setRow g r).cell? ⟨b,o,none⟩ = w.cell? ⟨b,o,none⟩ := by
 simp [World.cell?,World.setRow,tc,kj h]
theorem O8 {w : World} {g o : Nat} {cur : Array Value} {t : TypeId} (hg : w.heap[g]? = some (.cells cur t (0,0))) : w.cell? ⟨g,o,none⟩ = cur[o]? := by
 simp [World.cell?,hg]
def Fl (i : Nat) (cur : Array Value) (cs vs : List Value) : List Value :=
 (cur.toList.take ((i + 1) * 2) ++ cs ++ cur.toList.drop ((i + 1) * 2 + cs.length)).take (i * 2) ++ vs ++ (cur.toList.take ((i + 1) * 2) ++ cs ++ cur.toList.drop ((i + 1) * 2 + cs.length)).drop (i * 2 + 2)
theorem y8 : (Tryz.prog.info? 60).map (fun i => (i.zero,i.size,i.bytes)) = some (some (.agg #[.int .i64 0,.int .i64 0]),2,16) := by kernel_rfl
theorem insM : Tryz.prog.follows .mixedOrders = true := by kernel_rfl
set_option maxHeartbeats 4000000 in
set_option maxRecDepth 100000 in
theorem VF (g n c i vb jy vc : Nat) (cur va : Array Value) (te vt : TypeId) (cs vs : List Value) (w : World) (hi : i < n) (hL : n <= 4294967296) (vY : n + 1 <= c) (hvb : vb ≠ g)
  (hg : w.heap[g]? = some (.cells cur te (0,0))) (jX : c * 2 <= cur.size) (xT : cs.length = 2 * (n - i)) (s8 : vs.length = 2)
  (dC : ∀ j v,cs[j]? = some v -> w.cell? ⟨g,i * 2 + j,none⟩ = some v) (um : ∀ j v,vs[j]? = some v -> w.cell? ⟨vb,jy + j,none⟩ = some v) (h1c : ∀ v ∈ cs,v.oneCell' = true) (Ue : ∀ v ∈ vs,v.oneCell' = true)
  (hvh : w.heap[vb]? = some (.cells va vt (0,0))) :
  Calls Tryz.prog 67 #[.slice (some ⟨g,0,none⟩) n c,.int .i64 i,.slice (some ⟨vb,jy,none⟩) 1 vc] w fun e w' =>
   e = .returned (.slice (some ⟨g,0,none⟩) (n + 1) c) /\ w' = w.drew.setRow g (Fl i cur cs vs).toArray := by
 have t0 := Tryz.underlying0; have a0 := Tryz.isAgg0; have z0 := Tryz.sizeOf0; have v0 := Tryz.zeroValue0; have t3 := Tryz.underlying3; have a3 := Tryz.isAgg3; have z3 := Tryz.sizeOf3; have v3 := Tryz.zeroValue3; have t4 := Tryz.underlying4; have a4 := Tryz.isAgg4; have z4 := Tryz.sizeOf4; have v4 := Tryz.zeroValue4; have t27 := Tryz.underlying23; have a27 := Tryz.isAgg23; have z27 := Tryz.sizeOf23; have v27 := Tryz.zeroValue23; have z43 := Tryz.sizeOf60;have u0 := run_underlying t0; have u3 := run_underlying t3; have u4 := run_underlying t4; have u27 := run_underlying t27;have mixed := insM;obtain ⟨i0,Px,h0z,OL,h0b⟩ := info_parts y8;have hz1 : ¬ ((1 : Int) = 0) := by omega
 have hz2 : ¬ ((i : Int) = (n : Int)) := by omega
 have Lg : ∀ ty dc sc,(Builtin.copy_ #[23,23] ty #[.slice (some ⟨g,(i + 1) * 2,none⟩) (n - i) dc,.slice (some ⟨g,i * 2,none⟩) (n + 1 - i) sc]).run Tryz.prog w.drew = .ok (goInt (n - i : Nat)) (w.drew.setRow g (cur.toList.take ((i + 1) * 2) ++ cs ++ cur.toList.drop ((i + 1) * 2 + cs.length)).toArray) := fun ty dc sc =>
  mc w.drew 23 23 ty 60 i0 g _ _ dc _ _ sc (n - i) cur te cs t27 Px hg (by simp only [Gx]; split <;> omega) (by rw [OL,xT]; omega) (fun j v hj => by rw [Addr.add_lit]; exact dC j v hj) (by omega) h1c
 obtain ⟨ml,zc⟩ : ∃ ml,ml = (cur.toList.take ((i + 1) * 2) ++ cs ++ cur.toList.drop ((i + 1) * 2 + cs.length)) := ⟨_,rfl⟩;rw [<- zc] at Lg;have aeG : ml.length = cur.size := by rw [zc]; simp; omega
 obtain ⟨W1,hW1⟩ : ∃ W1,W1 = w.drew.setRow g ml.toArray := ⟨_,rfl⟩;rw [<- hW1] at Lg;have hg1 : W1.heap[g]? = some (.cells ml.toArray te (0,0)) := by rw [hW1]; exact setRow_heap w.drew g cur _ te _ hg
 have hv1 : ∀ j v,vs[j]? = some v -> W1.cell? ⟨vb,jy + j,none⟩ = some v := fun j v hj => by
  rw [hW1,Ci hvb];exact um j v hj
 have Ic : ∀ ty dc,(Builtin.copy_ #[23,23] ty #[.slice (some ⟨g,i * 2,none⟩) (n + 1 - i) dc,.slice (some ⟨vb,jy,none⟩) 1 vc]).run Tryz.prog W1 = .ok (goInt (1 : Nat)) (W1.setRow g (ml.take (i * 2) ++ vs ++ ml.drop (i * 2 + vs.length)).toArray) := fun ty dc => by
  have := mc W1 23 23 ty 60 i0 g (i * 2) (n + 1 - i) dc ⟨vb,jy,none⟩ 1 vc 1 ml.toArray te vs t27 Px hg1 (by simp only [Gx]; split <;> omega) (by rw [OL,s8]) (fun j v hj => by rw [Addr.add_lit]; exact hv1 j v hj) (by simp; omega) Ue;simpa using this
 have HW : Hid (W1 = w.drew.setRow g ml.toArray) := hW1;have HR : Hid (ml = (cur.toList.take ((i + 1) * 2) ++ cs ++ cur.toList.drop ((i + 1) * 2 + cs.length))) := zc;clear hW1 zc
 have hov : ∀ lb cb,(callFunc 87 #[.slice (some ⟨vb,jy,none⟩) 1 vc,.slice (some ⟨g,(i + 1) * 2,none⟩) lb cb]).run Tryz.prog w = .ok (.value (.bool false)) w := fun lb cb => by
  rw [run_callFunc_extern Tryz.func87 (by kernel_rfl) (by kernel_rfl) (by kernel_rfl) (e := Extern.SlicesOverlaps.overlaps #[23,23] #[4]) (by kernel_rfl),
   Lib.run_overlaps_apart w 23 4 60 t27 2 z43 ⟨vb,jy,none⟩ ⟨g,(i + 1) * 2,none⟩ 1 vc lb cb hvb vt te va.size cur.size (by simp [World.shape?,hvh]) (by simp [World.shape?,hg]) (by omega) (by simp [World.frozen?,hvh]) (by simp [World.frozen?,hvh])]
  rfl
 clear hvh;have hw1 : IntKind.i64.wrap ((i : Int) + 1) = (i : Int) + 1 := by rw [IntKind.wrap_i64]; omega
 have hw2 : IntKind.i64.wrap ((n : Int) + 1) = (n : Int) + 1 := by rw [IntKind.wrap_i64]; omega
 have pg : (0 : Int) <= (i : Int) + 1 := by omega
 have Ld : i <= n := by omega
 have htn : ((i : Int) + 1).toNat = i + 1 := by omega
 have m8 : ¬ (c = i + 1) := by omega
 have hb3 : (i : Int) <= (n : Int) + 1 := by omega
 have hb4 : ¬ (c = i) := by omega
 go_enter Tryz.func67,Tryz.ntmps67
 go_wp2_with (simp only [hov])
 go_region_law_o (refine step_copy_runI rfl _ _ 23 23 rfl _ _ (by simp [Act.eval,Act.put]) (by simp [Act.eval,Act.put]) (Lg _ _ _) ?_)
 go_wp2_with (at_builtin; refine wpList_copy_runI _ rfl _ _ 23 23 rfl _ _ rfl rfl (Ic _ _) ?_)
 go_ret
 refine ⟨rfl,?_⟩;rw [show W1 = w.drew.setRow g ml.toArray from HW,setRow_setRow,show ml = _ from HR];unfold Fl;simp only [s8,bK]
set_option maxHeartbeats 4000000 in
set_option maxRecDepth 100000 in
theorem acs (g n c vb jy vc : Nat) (cur : Array Value) (te : TypeId) (vs : List Value) (w : World) (vY : n + 1 <= c)
  (hg : w.heap[g]? = some (.cells cur te (0,0))) (jX : c * 2 <= cur.size) (s8 : vs.length = 2)
  (um : ∀ j v,vs[j]? = some v -> w.cell? ⟨vb,jy + j,none⟩ = some v) (Ue : ∀ v ∈ vs,v.oneCell' = true) :
  Calls Tryz.prog 67 #[.slice (some ⟨g,0,none⟩) n c,.int .i64 n,.slice (some ⟨vb,jy,none⟩) 1 vc] w fun e w' =>
   e = .returned (.slice (some ⟨g,0,none⟩) (n + 1) c) /\ w' = w.setRow g (cur.toList.take (n * 2) ++ vs ++ cur.toList.drop (n * 2 + 2)).toArray := by
 have t0 := Tryz.underlying0; have a0 := Tryz.isAgg0; have z0 := Tryz.sizeOf0; have v0 := Tryz.zeroValue0; have t3 := Tryz.underlying3; have a3 := Tryz.isAgg3; have z3 := Tryz.sizeOf3; have v3 := Tryz.zeroValue3; have t4 := Tryz.underlying4; have a4 := Tryz.isAgg4; have z4 := Tryz.sizeOf4; have v4 := Tryz.zeroValue4; have t27 := Tryz.underlying23; have a27 := Tryz.isAgg23; have z27 := Tryz.sizeOf23; have v27 := Tryz.zeroValue23; have z43 := Tryz.sizeOf60;have u0 := run_underlying t0; have u3 := run_underlying t3; have u4 := run_underlying t4; have u27 := run_underlying t27;have mixed := insM;obtain ⟨i0,Px,h0z,OL,h0b⟩ := info_parts y8;have hz1 : ¬ ((1 : Int) = 0) := by omega
 have jw : ∀ ty,(Builtin.append_ #[23,23] ty #[.slice (some ⟨g,0,none⟩) n c,.slice (some ⟨vb,jy,none⟩) 1 vc]).run Tryz.prog w = .ok (.slice (some ⟨g,0,none⟩) (n + 1) c) (w.setRow g (cur.toList.take (n * 2) ++ vs ++ cur.toList.drop (n * 2 + 2)).toArray) := fun ty => by
  have := Go.Am.lJ (P := Tryz.prog) (ty := ty) (c := vc) t27 Px hg (a := ⟨vb,jy,none⟩) (m := 1) (news := vs) (sLen := n) (sCap := c) (by rw [s8,OL]) (fun j u hj => by rw [Addr.add_lit]; exact um j u hj) Ue vY (by rw [OL,s8]; omega);rw [OL,s8] at this;exact this
 go_enter Tryz.func67,Tryz.ntmps67
 go_wp2_with (at_builtin; refine Lib.wpList_append_run _ rfl _ _ _ _ rfl _ _ rfl rfl _ _ (jw _) ?_)
 go_ret
 exact ⟨rfl,by rw [bK]⟩
def jj (n : Nat) : Array Value := Builtin.zeroCells (Value.agg #[.int .i64 0,.int .i64 0]).cells n
set_option maxHeartbeats 4000000 in
set_option maxRecDepth 100000 in
theorem y7 (base : Option Addr) (n vb jy vc : Nat) (cs vs : List Value) (w : World) (hbig : (n + 1) * 16 <= 140737488355328)
  (xT : cs.length = n * 2) (s8 : vs.length = 2) (QT : base = none -> n = 0)
  (dC : ∀ a,base = some a -> ∀ j v,cs[j]? = some v -> w.cell? (a.add j) = some v)
  (um : ∀ j v,vs[j]? = some v -> w.cell? ⟨vb,jy + j,none⟩ = some v) (Ue : ∀ v ∈ vs,v.oneCell' = true) :
  Calls Tryz.prog 67 #[.slice base n n,.int .i64 n,.slice (some ⟨vb,jy,none⟩) 1 vc] w fun e w' =>
   e = .returned (.slice (some ⟨w.heap.size,0,none⟩) (n + 1) (grownCap w (n + 1) n 60)) /\
   w' = w.drew.alloc (.cells ((cs ++ vs).toArray ++ jj (grownCap w (n + 1) n 60 - (n + 1))) 60) := by
 have t0 := Tryz.underlying0; have a0 := Tryz.isAgg0; have z0 := Tryz.sizeOf0; have v0 := Tryz.zeroValue0; have t3 := Tryz.underlying3; have a3 := Tryz.isAgg3; have z3 := Tryz.sizeOf3; have v3 := Tryz.zeroValue3; have t4 := Tryz.underlying4; have a4 := Tryz.isAgg4; have z4 := Tryz.sizeOf4; have v4 := Tryz.zeroValue4; have t27 := Tryz.underlying23; have a27 := Tryz.isAgg23; have z27 := Tryz.sizeOf23; have v27 := Tryz.zeroValue23; have z43 := Tryz.sizeOf60;have u0 := run_underlying t0; have u3 := run_underlying t3; have u4 := run_underlying t4; have u27 := run_underlying t27;have mixed := insM;obtain ⟨i0,Px,h0z,OL,h0b⟩ := info_parts y8;have hz1 : ¬ ((1 : Int) = 0) := by omega
 have VN : Src Tryz.prog i0.size 23 (.slice (some ⟨vb,jy,none⟩) 1 vc) 1 vs w := by
  rw [OL];exact Src.ofSlice w t27 ⟨vb,jy,none⟩ 1 vc vs (by omega) (fun j u hj => by rw [Addr.add_lit]; exact um j u hj) Ue
 have hold : (Builtin.firstCells i0.size n (.slice base n n)).run Tryz.prog w.drew = .ok cs.toArray w.drew := by
  rw [OL];cases base with
  | none =>
    have h0 := QT rfl;subst h0;have AR : cs = [] := rS.1 (by simpa using xT);subst AR;exact run_firstCells_none w.drew 2 0 0 0
  | some a => exact run_firstCells_some w.drew 2 n a n n cs (by omega) (fun j v hj => dC a rfl j v hj)
 have jw : ∀ ty,(Builtin.append_ #[23,23] ty #[.slice base n n,.slice (some ⟨vb,jy,none⟩) 1 vc]).run Tryz.prog w = .ok (.slice (some ⟨w.heap.size,0,none⟩) (n + 1) (grownCap w (n + 1) n 60)) (w.drew.alloc (.cells ((cs ++ vs).toArray ++ jj (grownCap w (n + 1) n 60 - (n + 1))) 60)) := fun ty =>
  run_append_grow_src w 23 23 ty 60 i0 _ t27 Px h0z base n n cs hold _ 1 vs VN (by omega) (by omega) (by rw [h0b]; exact growslice_fits (by omega) hbig)
 go_enter Tryz.func67,Tryz.ntmps67
 cases base with
 | none =>
   have h0 := QT rfl;subst h0
   go_wp2_with (at_builtin; refine Lib.wpList_append_run _ rfl _ _ _ _ rfl _ _ rfl rfl _ _ (jw _) ?_)
   go_ret
   exact ⟨rfl,rfl⟩
 | some a =>
   obtain ⟨ab,ao,asp⟩ := a
   go_wp2_with (at_builtin; refine Lib.wpList_append_run _ rfl _ _ _ _ rfl _ _ rfl rfl _ _ (jw _) ?_)
   all_goals (go_ret; exact ⟨rfl,rfl⟩)
def uj (i : Nat) (row : List Value) (vs ds : List Value) : List Value :=
 (row.take (i * 2) ++ vs ++ row.drop (i * 2 + 2)).take ((i + 1) * 2) ++ ds ++ (row.take (i * 2) ++ vs ++ row.drop (i * 2 + 2)).drop ((i + 1) * 2 + ds.length)
set_option maxHeartbeats 4000000 in
set_option maxRecDepth 100000 in
theorem aak (g n i vb jy vc : Nat) (cs ds vs : List Value) (w : World) (hi : i < n) (hbig : (n + 1) * 16 <= 140737488355328)
  (xT : cs.length = i * 2) (hdl : ds.length = 2 * (n - i)) (s8 : vs.length = 2) (hgw : g < w.heap.size) (hvw : vb < w.heap.size)
  (dC : ∀ j v,cs[j]? = some v -> w.cell? ⟨g,j,none⟩ = some v) (kc : ∀ j v,ds[j]? = some v -> w.cell? ⟨g,i * 2 + j,none⟩ = some v)
  (um : ∀ j v,vs[j]? = some v -> w.cell? ⟨vb,jy + j,none⟩ = some v) (h1d : ∀ v ∈ ds,v.oneCell' = true) (Ue : ∀ v ∈ vs,v.oneCell' = true) :
  Calls Tryz.prog 67 #[.slice (some ⟨g,0,none⟩) n n,.int .i64 i,.slice (some ⟨vb,jy,none⟩) 1 vc] w fun e w' =>
   e = .returned (.slice (some ⟨w.heap.size,0,none⟩) (n + 1) (grownCap w (n + 1) n 60)) /\
   w' = ((w.alloc (.cells (cs ++ (jj (n + 1 - i)).toList ++ (jj (grownCap w (n + 1) n 60 - (n + 1))).toList).toArray 60)).drew.drew).setRow w.heap.size (uj i (cs ++ (jj (n + 1 - i)).toList ++ (jj (grownCap w (n + 1) n 60 - (n + 1))).toList) vs ds).toArray := by
 have t0 := Tryz.underlying0; have a0 := Tryz.isAgg0; have z0 := Tryz.sizeOf0; have v0 := Tryz.zeroValue0; have t3 := Tryz.underlying3; have a3 := Tryz.isAgg3; have z3 := Tryz.sizeOf3; have v3 := Tryz.zeroValue3; have t4 := Tryz.underlying4; have a4 := Tryz.isAgg4; have z4 := Tryz.sizeOf4; have v4 := Tryz.zeroValue4; have t27 := Tryz.underlying23; have a27 := Tryz.isAgg23; have z27 := Tryz.sizeOf23; have v27 := Tryz.zeroValue23; have z43 := Tryz.sizeOf60;have u0 := run_underlying t0; have u3 := run_underlying t3; have u4 := run_underlying t4; have u27 := run_underlying t27;have mixed := insM;obtain ⟨i0,Px,h0z,OL,h0b⟩ := info_parts y8;have hz1 : ¬ ((1 : Int) = 0) := by omega
 have hz2 : ¬ ((i : Int) = (n : Int)) := by omega
 have hz3 : (n : Int) < (n : Int) + 1 := by omega
 have zF : (n : Int) + 1 - (i : Int) = ((n + 1 - i : Nat) : Int) := by omega
 have sP : i + (n + 1 - i) = n + 1 := by omega
 have hold : (Builtin.firstCells i0.size i (.slice (some ⟨g,0,none⟩) i n)).run Tryz.prog w.drew = .ok cs.toArray w.drew := by
  rw [OL];exact run_firstCells_some w.drew 2 i ⟨g,0,none⟩ i n cs xT (fun j v hj => by rw [Addr.add_lit,dM]; exact dC j v hj)
 obtain ⟨G,hG⟩ : ∃ G,G = grownCap w (n + 1) n 60 := ⟨_,rfl⟩
 have hrz : ∀ ty,(Builtin.append_ #[23,3] ty #[.slice (some ⟨g,0,none⟩) i n,.int .i64 ((n : Int) + 1 - (i : Int))]).run Tryz.prog w =
   .ok (.slice (some ⟨w.heap.size,0,none⟩) (n + 1) G) (w.drew.alloc (.cells (cs.toArray ++ jj (n + 1 - i) ++ jj (G - (n + 1))) 60)) := fun ty => by
  have h := Lib.run_append_grow_zeros w 23 3 ty 60 i0 _ .i64 .i64 t27 t3 Px h0z (some ⟨g,0,none⟩) i n cs hold (n + 1 - i) (by omega) (by omega) (by omega) (by omega) (by rw [h0b]; omega) (by rw [h0b,sP]; exact growslice_fits (by omega) hbig);rw [sP,<- hG] at h;rw [zF];exact h
 have hGn : n + 1 <= G := by rw [hG]; exact grownCap_ge w _ _ _
 have hG63 : G <= 9223372036854775807 := by
  have := grownCap_le_maxLen w (n + 1) n 60 (by unfold maxLen; omega);rw [<- hG] at this;unfold maxLen at this;omega
 have hGi : ¬ (G = i) := by omega
 have hGim : ¬ (G = i + 1) := by omega
 have hni : ¬ (n = i) := by omega
 obtain ⟨row,Cr⟩ : ∃ row,row = (cs ++ (jj (n + 1 - i)).toList ++ (jj (G - (n + 1))).toList) := ⟨_,rfl⟩;have hlZ : ∀ m,(jj m).size = m * 2 := fun m => by simp [jj,Builtin.zeroCells,Value.cells]
 have hlr : row.length = G * 2 := by rw [Cr]; simp [hlZ]; omega
 have hra : cs.toArray ++ jj (n + 1 - i) ++ jj (G - (n + 1)) = row.toArray := by rw [Cr]; simp
 rw [hra] at hrz
 have hcA : ∀ W : World,W.heap[w.heap.size]? = some (.cells row.toArray 60 (0,0)) -> (∀ j v,vs[j]? = some v -> W.cell? ⟨vb,jy + j,none⟩ = some v) -> ∀ ty dc,(Builtin.copy_ #[23,23] ty #[.slice (some ⟨w.heap.size,i * 2,none⟩) (n + 1 - i) dc,.slice (some ⟨vb,jy,none⟩) 1 vc]).run Tryz.prog W = .ok (goInt (1 : Nat)) (W.setRow w.heap.size (row.take (i * 2) ++ vs ++ row.drop (i * 2 + 2)).toArray) := fun W hW hV ty dc => by
  have := mc W 23 23 ty 60 i0 w.heap.size (i * 2) (n + 1 - i) dc ⟨vb,jy,none⟩ 1 vc 1 row.toArray 60 vs t27 Px hW (by simp only [Gx]; split <;> omega) (by rw [OL,s8]) (fun j v hj => by rw [Addr.add_lit]; exact hV j v hj) (by simp; omega) Ue;rw [s8] at this;simpa using this
 obtain ⟨zO,T3⟩ : ∃ zO,zO = (row.take (i * 2) ++ vs ++ row.drop (i * 2 + 2)) := ⟨_,rfl⟩;rw [<- T3] at hcA;have hlA : zO.length = G * 2 := by rw [T3]; simp; omega
 have hcB : ∀ W : World,W.heap[w.heap.size]? = some (.cells zO.toArray 60 (0,0)) -> (∀ j v,ds[j]? = some v -> W.cell? ⟨g,i * 2 + j,none⟩ = some v) -> ∀ ty dc sc,(Builtin.copy_ #[23,23] ty #[.slice (some ⟨w.heap.size,(i + 1) * 2,none⟩) (n - i) dc,.slice (some ⟨g,i * 2,none⟩) (n - i) sc]).run Tryz.prog W = .ok (goInt (n - i : Nat)) (W.setRow w.heap.size (zO.take ((i + 1) * 2) ++ ds ++ zO.drop ((i + 1) * 2 + ds.length)).toArray) := fun W hW hV ty dc sc => by
  have := mc W 23 23 ty 60 i0 w.heap.size ((i + 1) * 2) (n - i) dc ⟨g,i * 2,none⟩ (n - i) sc (n - i) zO.toArray 60 ds t27 Px hW (by simp only [Gx]; split <;> omega) (by rw [OL,hdl]; omega) (fun j v hj => by rw [Addr.add_lit]; exact hV j v hj) (by simp; omega) h1d;simpa using this
 have HR : Hid (row = (cs ++ (jj (n + 1 - i)).toList ++ (jj (G - (n + 1))).toList)) := Cr;have HA : Hid (zO = (row.take (i * 2) ++ vs ++ row.drop (i * 2 + 2))) := T3;have HG : Hid (G = grownCap w (n + 1) n 60) := hG;have HV : Hid (∀ j v,vs[j]? = some v -> w.cell? ⟨vb,jy + j,none⟩ = some v) := um;have HD : Hid (∀ j v,ds[j]? = some v -> w.cell? ⟨g,i * 2 + j,none⟩ = some v) := kc;have h0 : ∀ o : Obj,(w.alloc o).drew.heap[w.heap.size]? = some o := fun o => by show (w.heap.push o)[w.heap.size]? = some o; simp
 have hp : ∀ (o : Obj) (b k : Nat),b < w.heap.size -> (w.alloc o).drew.cell? ⟨b,k,none⟩ = w.cell? ⟨b,k,none⟩ := fun o b k hb => World.cell?_alloc_past (w := w.drew) _ b k hb;have hcA1 := hcA ((w.alloc (.cells row.toArray 60)).drew) (h0 _) (fun j v hj => by rw [hp _ _ _ hvw]; exact um j v hj)
 have hcB1 := hcB (((w.alloc (.cells row.toArray 60)).drew.setRow w.heap.size zO.toArray).drew) (setRow_heap (w.alloc (.cells row.toArray 60)).drew w.heap.size row.toArray _ 60 _ (h0 _)) (fun j v hj => by
  have e : (((w.alloc (.cells row.toArray 60)).drew.setRow w.heap.size zO.toArray).drew).cell? ⟨g,i * 2 + j,none⟩ = ((w.alloc (.cells row.toArray 60)).drew.setRow w.heap.size zO.toArray).cell? ⟨g,i * 2 + j,none⟩ := rfl;rw [e,Ci (by omega),hp _ _ _ hgw]; exact kc j v hj)
 have hw1 : IntKind.i64.wrap ((i : Int) + 1) = (i : Int) + 1 := by rw [IntKind.wrap_i64]; omega
 have hw2 : IntKind.i64.wrap ((n : Int) + 1) = (n : Int) + 1 := by rw [IntKind.wrap_i64]; omega
 have hw3 : IntKind.i64.wrap ((n : Int) + 1 - (i : Int)) = (n : Int) + 1 - (i : Int) := by rw [IntKind.wrap_i64]; omega
 have pg : (0 : Int) <= (i : Int) + 1 := by omega
 have Ld : i <= n := by omega
 have htn : ((i : Int) + 1).toNat = i + 1 := by omega
 have hb3 : (i : Int) <= (n : Int) := by omega
 clear Cr T3 hG zF sP hold hra hlr hlA hlZ um kc hcA hcB dC h0 hp HV HD
 go_enter Tryz.func67,Tryz.ntmps67
 go_wp2_with (first
  | (at_builtin; refine Lib.wpList_append_run _ rfl _ _ _ _ rfl _ _ rfl rfl _ _ (hrz _) ?_)
  | (at_builtin; refine wpList_copy_runI _ rfl _ _ 23 23 rfl _ _ rfl rfl (hcA1 _ _) ?_))
 go_region_law_o (refine step_copy_runI rfl _ _ 23 23 rfl _ _ (by simp [Act.eval,Act.put]) (by simp [Act.eval,Act.put]) (hcB1 _ _ _) ?_)
 go_wp2
 go_ret
 refine ⟨congrArg (fun z => Ending.returned (.slice (some ⟨w.heap.size,0,none⟩) (n + 1) z)) (show G = grownCap w (n + 1) n 60 from HG),?_⟩;show ((w.alloc (.cells row.toArray 60)).drew.drew.setRow w.heap.size zO.toArray).setRow w.heap.size _ = _;rw [setRow_setRow];unfold uj;rw [hdl,<- show G = grownCap w (n + 1) n 60 from HG,<- show row = _ from HR,<- show zO = _ from HA];simp only [bK]
end Go.Proofs
/- The library's Insert at a list of pairs, for one pair: what is asked of a function that takes over a slice. -/
namespace Go.Bm
open Go.Am Go.Shelf Go.Proofs Go.RowKit Go.Lib
def Oy (k : Nat) (xs es : List AV) : Option (List AV) :=
 match es with
 | [.int .i64 i,.list 2 [e]] => if k = 2 /\ 0 <= i /\ i.toNat <= xs.length /\ xs.length + 1 <= jQ /\ e.cells.length = 2 /\ Q1 e.cells = true /\ fK e.cells = true then some (xs.take i.toNat ++ e :: xs.drop i.toNat) else none
 | _ => none
theorem EK {w W : World} {og : Option Nat} {k : Nat} {ys : List AV} {cap : Nat} {arr : Array Value} {te : TypeId} (hH : W.heap = w.heap.push (.cells arr te (0,0))) (h1 : W.os = w.os) (h2 : W.tape = w.tape) (h3 : W.output = w.output) (h4 : w.drawn <= W.drawn) (fD : ys.length <= cap) (hs : cap * k <= arr.size)
  (hc : ∀ (i : Nat) (d : AV),(aA ys)[i]? = some d -> ∃ u,arr[i]? = some u /\ bI (fun _ _ => False) [] d u) : ko w og k ys (.returned (.slice (some ⟨w.heap.size,0,none⟩) ys.length cap)) W := by
 refine ⟨w.heap.size,cap,arr,te,rfl,fD,hs,by rw [hH]; simp,hc,.inr (aT _),fun h hh _ => ?_,h1,h2,h3,h4,by rw [hH]; simp⟩;rw [hH,Array.getElem?_push_lt hh,dX hh]
theorem Af {w W : World} {g k : Nat} {ys : List AV} {cap : Nat} {cur arr : Array Value} {te : TypeId} (hg : w.heap[g]? = some (.cells cur te (0,0))) (hH : W.heap = (w.setRow g arr).heap) (h1 : W.os = w.os) (h2 : W.tape = w.tape) (h3 : W.output = w.output) (h4 : w.drawn <= W.drawn) (fD : ys.length <= cap) (hs : cap * k <= arr.size)
  (hc : ∀ (i : Nat) (d : AV),(aA ys)[i]? = some d -> ∃ u,arr[i]? = some u /\ bI (fun _ _ => False) [] d u) : ko w (some g) k ys (.returned (.slice (some ⟨g,0,none⟩) ys.length cap)) W := by
 refine ⟨g,cap,arr,te,rfl,fD,hs,by rw [hH]; exact setRow_heap w g cur _ te _ hg,hc,.inl rfl,fun h hh sO => ?_,h1,h2,h3,h4,by rw [hH]; simp [World.setRow]⟩;have T9 : g ≠ h := fun e => sO (by rw [e]);rw [hH];simp [World.setRow,tc,T9]
theorem aay {xs : List AV} {j : Nat} {e : AV} {k : Nat} (hk : ∀ x ∈ xs,x.cells.length = k) : aA (xs.take j ++ e :: xs.drop j) = (aA xs).take (j * k) ++ e.cells ++ (aA xs).drop (j * k) := by
 rw [aiO];simp only [aA];rw [nE hk,vC hk,bK]
theorem XK {fl ec : List AV} {A V B rest : List Value} {j2 : Nat} (hA : ∀ (i : Nat) (d : AV),(fl.take j2)[i]? = some d -> ∃ u,A[i]? = some u /\ bI (fun _ _ => False) [] d u) (hV : ∀ (i : Nat) (d : AV),ec[i]? = some d -> ∃ u,V[i]? = some u /\ bI (fun _ _ => False) [] d u) (hB : ∀ (i : Nat) (d : AV),(fl.drop j2)[i]? = some d -> ∃ u,B[i]? = some u /\ bI (fun _ _ => False) [] d u)
  (lA : A.length = (fl.take j2).length) (lV : V.length = ec.length) : ∀ (i : Nat) (d : AV),(fl.take j2 ++ ec ++ fl.drop j2)[i]? = some d -> ∃ u,(A ++ V ++ B ++ rest)[i]? = some u /\ bI (fun _ _ => False) [] d u := by
 intro i d hd;rw [kC] at hd;rw [bK (A ++ V),kC,bX,lA,lV,<- bX];by_cases h1 : i < (fl.take j2 ++ ec).length
 ·rw [if_pos h1] at hd ⊢;rw [kC] at hd ⊢;rw [lA];by_cases h2 : i < (fl.take j2).length
  ·rw [if_pos h2] at hd ⊢; exact hA i d hd
  ·rw [if_neg h2] at hd ⊢; exact hV _ d hd
 ·rw [if_neg h1] at hd ⊢;obtain ⟨u,u1,u2⟩ := hB _ d hd;exact ⟨u,by rw [List.getElem?_append_left (au u1)]; exact u1,u2⟩
theorem Pg {w : World} {og : Option Nat} {e : AV} {v : Value} (he : e.cells.length = 2) (hz : Q1 e.cells = true) (xT : fK e.cells = true) (r : bI (la w og) [] (.list 2 [e]) v) :
  ∃ (vb jy vc : Nat) (va : Array Value) (vt : TypeId) (vs : List Value),v = .slice (some ⟨vb,jy,none⟩) 1 vc /\ og ≠ some vb /\ w.heap[vb]? = some (.cells va vt (0,0)) /\ vs.length = 2 /\ (∀ (t : Nat) (u : Value),vs[t]? = some u -> w.cell? ⟨vb,jy + t,none⟩ = some u) /\ (∀ u ∈ vs,u.oneCell' = true) /\ ∀ (t : Nat) (d : AV),e.cells[t]? = some d -> ∃ u,vs[t]? = some u /\ bI (fun _ _ => False) [] d u := by
 cases r with
 | qC _ _ _ a n cap u hn fD hk hu hh =>
   simp only [List.length_cons,List.length_nil] at hn;subst hn
   obtain ⟨d0,d1,hd⟩ : ∃ d0 d1,e.cells = [d0,d1] := by
    match h : e.cells with
    | [] => rw [h] at he; cases he
    | [_] => rw [h] at he; cases he
    | [a,b] => exact ⟨a,b,rfl⟩
    | _ :: _ :: _ :: _ => rw [h] at he; simp at he
   have e0 : e.cells[0]? = some d0 := by rw [hd]; rfl
   have e1 : e.cells[1]? = some d1 := by rw [hd]; rfl
   have q0 := hu 0 0 e d0 rfl e0;have q1 := hu 0 1 e d1 rfl e1;have p0 := hh 0 0 e d0 rfl e0;have p1 := hh 0 1 e d1 rfl e1;have z0 := jO hz d0 (by rw [hd]; simp);have z1 := jO hz d1 (by rw [hd]; simp);have k0 := oR xT d0 (by rw [hd]; simp);have k1 := oR xT d1 (by rw [hd]; simp);obtain ⟨ab,ao,asp⟩ := a;obtain ⟨b1,b2,arr,te,b3⟩ := q0;obtain ⟨_,c2,_⟩ := q1;have ea : (⟨ab,ao,asp⟩ : Addr).add (0 * 2 + 0) = ⟨ab,ao,asp⟩ := rfl;have eb : (⟨ab,ao,asp⟩ : Addr).add (0 * 2 + 1) = ⟨ab,ao + 1,none⟩ := rfl;rw [ea] at b1 b2 b3;rw [eb] at c2
   have hsp : asp = none := by
    simp only [World.cell?,b3] at b2;cases asp with
    | none => rfl
    | some z => simp at b2
   subst hsp;refine ⟨ab,ao,cap,arr,te,[u 0 0,u 0 1],rfl,b1,b3,rfl,fun t x ht => ?_,fun x hx => ?_,fun t d ht => ?_⟩
   ·match t with
    | 0 => simp at ht; subst ht; exact b2
    | 1 => simp at ht; subst ht; exact c2
    | t + 2 => simp at ht
   ·simp only [aU,List.not_mem_nil,or_false] at hx;rcases hx with rfl | rfl
    ·exact p0.kR (iC z0).2
    ·exact p1.kR (iC z1).2
   ·rw [hd] at ht
    match t with
    | 0 => simp at ht; subst ht; exact ⟨_,rfl,rH (N := ⟨fun _ => 0,fun _ => none⟩) k0 (iC z0).1 p0⟩
    | 1 => simp at ht; subst ht; exact ⟨_,rfl,rH (N := ⟨fun _ => 0,fun _ => none⟩) k1 (iC z1).1 p1⟩
    | t + 2 => simp at ht
theorem VG {j : Nat} {cur : Array Value} {D vs : List Value} (h : (j + 1) * 2 <= cur.size) : Fl j cur D vs = cur.toList.take (j * 2) ++ vs ++ D ++ cur.toList.drop ((j + 1) * 2 + D.length) := by
 unfold Fl;have l1 : (cur.toList.take ((j + 1) * 2)).length = (j + 1) * 2 := by simp; omega
 rw [bK (cur.toList.take ((j + 1) * 2)) D,List.take_append_of_le_length (by omega),List.take_take,show min (j * 2) ((j + 1) * 2) = j * 2 by omega,List.drop_left' (by omega)];simp only [bK]
theorem VH {j : Nat} {A Z vs ds : List Value} (hA : A.length = j * 2) (hv : vs.length = 2) : uj j (A ++ Z) vs ds = A ++ vs ++ ds ++ (A ++ vs ++ (A ++ Z).drop (j * 2 + 2)).drop ((j + 1) * 2 + ds.length) := by
 unfold uj;rw [List.take_left' hA,bK A vs,<- bK A vs,List.take_left' (by simp; omega)]
theorem Nx {α : Type} (a : Array α) (x : α) (f : α -> α) : (a.push x).modify a.size f = a.push (f x) := by
 apply Array.ext_getElem?;intro t;rw [tc,yt,yt];by_cases h : a.size = t
 ·subst h; simp
 ·rw [if_neg h,if_neg (kj h),if_neg (kj h)]
theorem aim : ∀ k xs es ys,Oy k xs es = some ys -> (∀ x ∈ xs,x.cells.length = k) -> (∀ x ∈ xs,∀ d ∈ x.cells,fz d = true) ->
 ((∀ y ∈ ys,y.cells.length = k) /\ ∀ y ∈ ys,∀ d ∈ y.cells,fz d = true) /\
 (xs = [] -> ∀ w (vargs : Array Value),es.length + 1 = vargs.size -> vargs[0]? = some (.slice none 0 0) -> (∀ (i : Nat) (e : AV) (v : Value),es[i]? = some e -> vargs[i + 1]? = some v -> bI (la w none) [] e v) -> Calls af 67 vargs w (ko w none k ys)) /\
 ∀ w (vargs : Array Value) g0 arr te a cap,w.heap[g0]? = some (.cells arr te (0,0)) -> (∀ (i : Nat) (d : AV),(aA xs)[i]? = some d -> ∃ u,arr[i]? = some u /\ bI (fun _ _ => False) [] d u) -> es.length + 1 = vargs.size -> vargs[0]? = some (.slice (some a) xs.length cap) -> (0 < cap -> a = ⟨g0,0,none⟩) -> xs.length <= cap -> cap * k <= arr.size ->
  (∀ (i : Nat) (e : AV) (v : Value),es[i]? = some e -> vargs[i + 1]? = some v -> bI (la w (some g0)) [] e v) -> Calls af 67 vargs w (ko w (some g0) k ys) := by
 intro k xs es ys hg hk hf;have hL : jQ = 4294967296 := rfl;unfold Oy at hg;split at hg
 case h_2 => cases hg
 rename_i i e;split at hg
 case isFalse => cases hg
 rename_i hc;obtain ⟨rfl,h0,Ld,hlim,he2,hez,hec⟩ := hc;simp only [ah] at hg;obtain ⟨j,rfl⟩ : ∃ j : Nat,i = j := ⟨i.toNat,by omega⟩;rw [show ((j : Nat) : Int).toNat = j by omega] at hg Ld;subst hg;have hlen : (xs.take j ++ e :: xs.drop j).length = xs.length + 1 := by simp; omega
 have hfl := gC hk;have hfi := aay (e := e) (j := j) hk
 have three : ∀ {vargs : Array Value} {v0 : Value},[AV.int .i64 j,.list 2 [e]].length + 1 = vargs.size -> vargs[0]? = some v0 -> ∃ v1 v2,vargs = #[v0,v1,v2] /\ vargs[1]? = some v1 /\ vargs[2]? = some v2 := by
  intro vargs v0 hs h0;obtain ⟨v1,h1⟩ := cv (l := vargs) (i := 1) (by rw [<- hs]; simp);obtain ⟨v2,h2⟩ := cv (l := vargs) (i := 2) (by rw [<- hs]; simp);refine ⟨v1,v2,?_,h1,h2⟩;apply Array.ext
  ·rw [<- hs]; rfl
  ·intro t p1 p2;have p3 : t < 3 := by simpa using p2
   match t,p3 with
   | 0,_ => rw [dX p1] at h0; exact cK h0
   | 1,_ => rw [dX p1] at h1; exact cK h1
   | 2,_ => rw [dX p1] at h2; exact cK h2
 refine ⟨⟨fun y hy => ?_,fun y hy => ?_⟩,fun hx w vargs hl CV Cw => ?_,fun w vargs g0 arr te a cap T9 fQ hl CV ha fD kM Cw => ?_⟩
 ·rcases aC.1 hy with h | h
  ·exact hk y (cD h)
  ·rcases aU.1 h with h | h
   ·subst h; exact he2
   ·exact hk y (cF h)
 ·rcases aC.1 hy with h | h
  ·exact hf y (cD h)
  ·rcases aU.1 h with h | h
   ·subst h; exact jO hez
   ·exact hf y (cF h)
 ·subst hx;have hj : j = 0 := by simpa using Ld
  subst hj;obtain ⟨v1,v2,rfl,h1,h2⟩ := three hl CV;have r1 := Cw 0 _ v1 rfl h1;have r2 := Cw 1 _ v2 rfl h2;cases r1;obtain ⟨vb,jy,vc,va,vt,vs,rfl,_,_,s8,um,Ue,hvr⟩ := Pg he2 hez hec r2;refine (y7 none 0 vb jy vc [] vs w (by omega) rfl s8 (fun _ => rfl) (fun a h => by cases h) um Ue).mono ?_;rintro e' w' ⟨rfl,rfl⟩;refine EK (w := w) (k := 2) (ys := List.take 0 [] ++ e :: List.drop 0 []) (te := 60) rfl rfl rfl rfl (K5 _) (grownCap_ge w _ _ _) ?_ fun i d hd => ?_
  ·have := grownCap_ge w (0 + 1) 0 60;simp [jj,Builtin.zeroCells,Value.cells,s8]; omega
  ·have hd' : e.cells[i]? = some d := by simpa [aA] using hd
   obtain ⟨u,u1,u2⟩ := hvr i d hd';refine ⟨u,?_,u2⟩;have := au u1;rw [Array.getElem?_append_left (by simpa using this)];simpa using u1
 ·obtain ⟨v1,v2,rfl,h1,h2⟩ := three hl CV;have r1 := Cw 0 _ v1 rfl h1;have r2 := Cw 1 _ v2 rfl h2;cases r1;obtain ⟨vb,jy,vc,va,vt,vs,rfl,hvb,hvh,s8,um,Ue,hvr⟩ := Pg he2 hez hec r2;have hvb' : vb ≠ g0 := fun e => hvb (by rw [e]);have hvw : vb < w.heap.size := (dG.1 hvh).1;have hgw : g0 < w.heap.size := (dG.1 T9).1;have hsz' : xs.length * 2 <= arr.size := Nat.le_trans (Nat.mul_le_mul_right 2 fD) kM
  -- the cells as values
  have one : ∀ (t : Nat) (u : Value),t < xs.length * 2 -> arr[t]? = some u -> u.oneCell' = true := by
   intro t u ht hu;obtain ⟨d,hd⟩ := aV (l := aA xs) (i := t) (by omega);obtain ⟨u',u1,u2⟩ := fQ t d hd;rw [hu] at u1;cases u1;obtain ⟨y,hy,Ub⟩ := jg (List.mem_of_getElem? hd);exact u2.kR (iC (hf y hy d Ub)).2
  have IC : ∀ t,w.cell? ⟨g0,t,none⟩ = arr[t]? := fun t => O8 T9;obtain ⟨A,hA⟩ : ∃ A,A = arr.toList.take (j * 2) := ⟨_,rfl⟩;obtain ⟨D,hD⟩ : ∃ D,D = (arr.toList.take (xs.length * 2)).drop (j * 2) := ⟨_,rfl⟩;have lA : A.length = j * 2 := by rw [hA]; simp; omega
  have lD : D.length = 2 * (xs.length - j) := by rw [hD]; simp; omega
  have gA : ∀ t u,A[t]? = some u -> t < j * 2 /\ arr[t]? = some u := fun t u h => by
   rw [hA,bf] at h;split at h
   ·rename_i q; exact ⟨q,by simpa using h⟩
   ·cases h
  have gD : ∀ t u,D[t]? = some u -> j * 2 + t < xs.length * 2 /\ arr[j * 2 + t]? = some u := fun t u h => by
   rw [hD,aQ,bf] at h;split at h
   ·rename_i q; exact ⟨q,by simpa using h⟩
   ·cases h
  have rA : ∀ (t : Nat) (d : AV),((aA xs).take (j * 2))[t]? = some d -> ∃ u,A[t]? = some u /\ bI (fun _ _ => False) [] d u := fun t d hd => by
   rw [bf] at hd;split at hd
   ·rename_i q;obtain ⟨u,u1,u2⟩ := fQ t d hd;exact ⟨u,by rw [hA,bf,if_pos q]; simpa using u1,u2⟩
   ·cases hd
  have rD : ∀ (t : Nat) (d : AV),((aA xs).drop (j * 2))[t]? = some d -> ∃ u,D[t]? = some u /\ bI (fun _ _ => False) [] d u := fun t d hd => by
   rw [aQ] at hd;obtain ⟨u,u1,u2⟩ := fQ _ d hd;have := au hd;exact ⟨u,by rw [hD,aQ,bf,if_pos (by omega)]; simpa using u1,u2⟩
  have lAf : A.length = ((aA xs).take (j * 2)).length := by rw [lA]; simp; omega
  have lVf : vs.length = e.cells.length := by rw [s8,he2]
  have fin : ∀ (rest : List Value) (i : Nat) (d : AV),(aA (xs.take j ++ e :: xs.drop j))[i]? = some d -> ∃ u,(A ++ vs ++ D ++ rest).toArray[i]? = some u /\ bI (fun _ _ => False) [] d u := by
   intro rest i d hd;rw [hfi] at hd;obtain ⟨u,u1,u2⟩ := XK (rest := rest) rA hvr rD lAf lVf i d hd;exact ⟨u,by simpa using u1,u2⟩
  by_cases vY : xs.length + 1 <= cap
  ·have Li := ha (by omega);subst Li;by_cases hj : j = xs.length
   ·-- at the end, with room
    subst hj;refine (acs g0 xs.length cap vb jy vc arr te vs w vY T9 kM s8 um Ue).mono ?_;rintro e' w' ⟨rfl,rfl⟩;rw [<- hlen];refine Af (te := te) T9 rfl rfl rfl rfl (aT _) (by rw [hlen]; exact vY) (by simp [s8]; omega) fun i d hd => ?_;have hD0 : D = [] := rS.1 (by rw [lD]; omega);have := fin (arr.toList.drop (xs.length * 2 + 2)) i d hd;rw [hD0,hA,jS] at this;exact this
   ·-- ahead of the end, with room
    have hjl : j < xs.length := by omega
    refine (VF g0 xs.length cap j vb jy vc arr va te vt D vs w hjl (by omega) vY hvb' T9 kM lD s8 (fun t u h => by rw [IC]; exact (gD t u h).2) um (fun u hu => by
     obtain ⟨t,ht⟩ := br hu;obtain ⟨q1,q2⟩ := gD t u ht;exact one _ u q1 q2) Ue hvh).mono ?_
    rintro e' w' ⟨rfl,rfl⟩;rw [<- hlen];have Cr := VG (j := j) (cur := arr) (D := D) (vs := vs) (by omega);rw [<- hA] at Cr
    have hrl : (Fl j arr D vs).length = arr.size := by
     rw [Cr]; simp only [bX,lA,lD,s8,c9,kq]; omega
    refine Af (te := te) T9 rfl rfl rfl rfl (K5 _) (by rw [hlen]; exact vY) (by simp [hrl]; omega) fun i d hd => ?_;rw [Cr];exact fin _ i d hd
  ·have hce : cap = xs.length := by omega
   subst hce;by_cases hj : j = xs.length
   ·-- at the end, without room
    subst hj;have hD0 : D = [] := rS.1 (by rw [lD]; omega)
    refine (y7 (some a) xs.length vb jy vc A vs w (by omega) (by rw [lA]) s8 (fun h => by cases h) (fun a' h t u hu => by
     cases h;obtain ⟨q1,q2⟩ := gA t u hu;rw [ha (by omega),Addr.add_lit,dM,IC];exact q2) um Ue).mono ?_
    rintro e' w' ⟨rfl,rfl⟩;have hgc := grownCap_ge w (xs.length + 1) xs.length 60;have hz : ∀ m,(jj m).size = m * 2 := fun m => by simp [jj,Builtin.zeroCells,Value.cells]
    have P := EK (w := w) (W := w.drew.alloc (.cells ((A ++ vs).toArray ++ jj (grownCap w (xs.length + 1) xs.length 60 - (xs.length + 1))) 60)) (og := some g0) (k := 2) (ys := xs.take xs.length ++ e :: xs.drop xs.length) (cap := grownCap w (xs.length + 1) xs.length 60) (te := 60) (arr := (A ++ vs).toArray ++ jj (grownCap w (xs.length + 1) xs.length 60 - (xs.length + 1))) rfl rfl rfl rfl (K5 _) (by rw [hlen]; exact hgc) (by simp only [Array.size_append,mi,bX,hz,s8,lA]; omega) fun i d hd => by
     have h := fin (jj (grownCap w (xs.length + 1) xs.length 60 - (xs.length + 1))).toList i d hd;rw [hD0,jS] at h;have e2 : (A ++ vs).toArray ++ jj (grownCap w (xs.length + 1) xs.length 60 - (xs.length + 1)) = (A ++ vs ++ (jj (grownCap w (xs.length + 1) xs.length 60 - (xs.length + 1))).toList).toArray := by simp
     rw [e2];exact h
    rw [hlen] at P;exact P
   ·-- ahead of the end, without room
    have hjl : j < xs.length := by omega
    have Li := ha (by omega);subst Li
    refine (aak g0 xs.length j vb jy vc A D vs w hjl (by omega) lA lD s8 hgw hvw (fun t u h => by rw [IC]; exact (gA t u h).2) (fun t u h => by rw [IC]; exact (gD t u h).2) um (fun u hu => by
     obtain ⟨t,ht⟩ := br hu;obtain ⟨q1,q2⟩ := gD t u ht;exact one _ u q1 q2) Ue).mono ?_
    rintro e' w' ⟨rfl,rfl⟩;have hgc := grownCap_ge w (xs.length + 1) xs.length 60;obtain ⟨G,hG⟩ : ∃ G,G = grownCap w (xs.length + 1) xs.length 60 := ⟨_,rfl⟩;rw [<- hG] at hgc ⊢;have hz : ∀ m,(jj m).size = m * 2 := fun m => by simp [jj,Builtin.zeroCells,Value.cells]
    obtain ⟨R0,hR0⟩ : ∃ R0,R0 = A ++ (jj (xs.length + 1 - j)).toList ++ (jj (G - (xs.length + 1))).toList := ⟨_,rfl⟩;have KB := VH (j := j) (A := A) (Z := (jj (xs.length + 1 - j)).toList ++ (jj (G - (xs.length + 1))).toList) (vs := vs) (ds := D) lA s8;rw [<- bK,<- hR0] at KB
    have hR0l : R0.length = G * 2 := by
     rw [hR0]; simp only [bX,lA,kq,hz]; omega
    rw [<- hR0]
    have hnl : (uj j R0 vs D).length = G * 2 := by
     rw [KB];simp only [bX,c9,lA,lD,s8,hR0l];omega
    have P := EK (w := w) (W := ((w.alloc (.cells R0.toArray 60)).drew.drew).setRow w.heap.size (uj j R0 vs D).toArray) (og := some g0) (k := 2) (ys := xs.take j ++ e :: xs.drop j) (cap := G) (te := 60) (arr := (uj j R0 vs D).toArray) ((Nx w.heap (.cells R0.toArray 60) fun x => match x with
     | Obj.cells c elem frozen => Obj.cells (uj j R0 vs D).toArray elem frozen
     | o => o).trans rfl) rfl rfl rfl (by show w.drawn <= w.drawn + 1 + 1; omega) (by rw [hlen]; exact hgc) (by rw [mi,hnl]; omega) fun i d hd => by
     rw [KB];exact fin _ i d hd
    rw [hlen] at P;exact P
end Go.Bm
