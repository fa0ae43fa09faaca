/- mk.Light, mk.Spoilt, mk.New beside a graph. -/
import Derived.Test.YtholnjkicdifdaaDoorUseM
import Derived.Test.YtholnjkicdifdaaDoorL01
import Derived.Test.YtholnjkicdifdaaDoorCaD
set_option linter.unusedSimpArgs false
set_option linter.unusedVariables false
set_option maxRecDepth 100000
set_option maxHeartbeats 8000000
namespace Go.BmP
open Go.Am Go.Bm
theorem new1_run (l : List Int) (n : Int) (F : List Ed) : callL cfgS nQe [.list 1 (ints l)] [some [.int .i64 n,.list 2 (eds F)]] = some (.ptr 1 0,[some [.int .i64 n,.list 2 (eds F)],dk l 0]) := by
 rw [callL_end oQe sQe (Nat.le_of_ble_eq_true rfl)];generalize eds F = Y;unfold qQe cQe dk;simp [rQeX0,rQeX1,finS,plp,mapH,mapBL,mapB,swS,endL,finB,blk]
theorem light_run (n : Int) (F : List Ed) (m : Int) (hm : 0 <= m /\ m <= 1000) : callL cfgS nQc [gA n F,.int .i64 m] [] = some (.bool (decide (n <= m) && decide ((F.length : Int) <= m * m)),[]) := by
 rw [callL_end oQc sQc (Nat.le_of_ble_eq_true rfl)];have lF := eds_length F
 have w : IntKind.i64.wrap (m * m) = m * m := by
  obtain ⟨h0,h1⟩ := hm;have : m * m <= 1000 * 1000 := Int.mul_le_mul h1 h1 h0 (by omega);have : 0 <= m * m := Int.mul_nonneg h0 h0;exact wrap_id (by omega) (by omega)
 unfold gA;generalize eds F = Y at *;by_cases k : n <= m
 ·by_cases q : (F.length : Int) <= m * m
  ·unfold qQc cQc;simp [rQcX0,rQcX1,k,q,w,lF,blk,endL,finB,plL,pl]
  ·unfold qQc cQc;simp [rQcX0,rQcX1,k,q,w,lF,blk,endL,finB,plL,pl]
 ·unfold qQc cQc;simp [rQcX0,rQcX1,k,w,lF,blk,endL,finB,plL,pl]
def Low (F : List Ed) (m : Int) : Prop := ∀ e ∈ F,(0 <= e.1 /\ e.1 < m) /\ (0 <= e.2 /\ e.2 < m)
theorem eds_set (F : List Ed) (i : Nat) (u v : Int) : (eds F).set i (.agg [.int .i64 u,.int .i64 v]) = eds (F.set i (u,v)) := by simp [eds,List.map_set,edAV]
theorem spo_run (l : List Int) (hl : l.length <= 500) (a : Nat) (N : Int) (hN : 0 <= N /\ N <= 64) (Es : List Ed) (hE : Es.length <= 10000) (hL : Low Es 8) : ∃ n' Es' a',callL cfgS nQg [.ptr 0 0,gA N Es] [dk l a] = some (gA n' Es',[dk l a']) /\ Es'.length <= Es.length + 1 /\ ∀ e ∈ Es',e.1 < 10 /\ e.2 < 10 := by
 have lE := eds_length Es;have kE := cleanL_eds Es;have aE := allLeaf_eds Es;have tE : (eds Es).take Es.length = eds Es := List.take_of_length_le (by omega);have mE : Es.length <= 4294967296 := by omega
 have n1 := next_run l hl a 6 (by omega) [] ⟨fun _ => rfl,rfl,fun _ _ => rfl,fun _ => rfl,fun _ _ => rfl⟩;obtain ⟨b0,b1⟩ := nxV_bd l a (n := 6) (by omega);generalize nxA l a 6 = a1 at *;generalize nxV l a 6 = c at *;have lo : ∀ e ∈ Es,e.1 < 10 /\ e.2 < 10 := fun e he => by have := hL e he; omega
 by_cases c0 : c = 0
 ·subst c0;have n2 := next_run l hl a1 70 (by omega) [] ⟨fun _ => rfl,rfl,fun _ _ => rfl,fun _ => rfl,fun _ _ => rfl⟩;obtain ⟨d0,d1⟩ := nxV_bd l a1 (n := 70) (by omega);generalize nxA l a1 70 = a2 at *;generalize nxV l a1 70 = d at *;have w : IntKind.i64.wrap (d - 2) = d - 2 := wrap_id (by omega) (by omega);refine ⟨d - 2,Es,a2,?_,by omega,lo⟩;rw [callL_end oQg sQg (Nat.le_of_ble_eq_true rfl)];unfold gA dk at *;generalize eds Es = Y at *;unfold qQg cQg;simp [rQgX0,rQgX1,rQgX2,rQgX3,rQgX4,rQgX5,rQgX6,rQgX7,rQgX8,rQgX9,rQgX10,rQgX11,rQgX12,rQgX13,rQgX14,rQgX15,rQgX16,rQgX17,rQgX18,rQgX19,n1,n2,w,lE,kE,aE,tE,mE,LIM,blk,endL,finB,finS,plp,plpL,plL,pl,swS,allB,notBox,swC,seesC,inBox,relB,handBox,mvBB,mvRtB,sQi,iQi,vQi,lQi]
 by_cases c1 : c = 1
 ·subst c1;by_cases z : Es.length = 0
  ·skip
   obtain rfl : Es = [] := List.eq_nil_of_length_eq_zero z;rw [eds_nil] at *;refine ⟨N,[],a1,?_,by simp,by simp⟩;rw [callL_end oQg sQg (Nat.le_of_ble_eq_true rfl)];unfold gA dk at *;unfold qQg cQg;simp [rQgX0,rQgX1,rQgX2,rQgX3,rQgX4,rQgX5,rQgX6,rQgX7,rQgX8,rQgX9,rQgX10,rQgX11,rQgX12,rQgX13,rQgX14,rQgX15,rQgX16,rQgX17,rQgX18,rQgX19,n1,c0,eds_nil,LIM,idx,blk,endL,finB,finS,plp,plpL,plL,pl,swS,allB,notBox,swC,seesC,inBox,relB,handBox,mvBB,mvRtB,sQi,iQi,vQi,lQi]
  ·have z1 : (0 : Int) < Es.length := by omega
   have z2 : 0 < Es.length := by omega
   have n2 := next_run l hl a1 (Es.length : Int) (by omega) [] ⟨fun _ => rfl,rfl,fun _ _ => rfl,fun _ => rfl,fun _ _ => rfl⟩;obtain ⟨d0,d1⟩ := nxV_bd l a1 (n := (Es.length : Int)) (by omega);generalize nxA l a1 (Es.length : Int) = a2 at *;obtain ⟨i,hi⟩ : ∃ i : Nat,nxV l a1 (Es.length : Int) = (i : Int) := ⟨(nxV l a1 (Es.length : Int)).toNat,by omega⟩;rw [hi] at n2 d1;clear hi d0;have il : i < Es.length := by omega
   obtain ⟨u,v,huv⟩ : ∃ u v : Int,Es[i] = (u,v) := ⟨_,_,rfl⟩;have bE := hL _ (List.getElem_mem il);rw [huv] at bE;have gE : ∀ h,(eds Es)[i]'h = .agg [.int .i64 u,.int .i64 v] := fun h => by rw [edsAt,huv]; rfl
   have gE2 : (eds Es)[i]? = some (.agg [.int .i64 u,.int .i64 v]) := by rw [List.getElem?_eq_getElem (by omega),gE]
   have sE := eds_set Es i v u;have l1 : (eds (Es.set i (v,u))).length = Es.length := by rw [eds_length,List.length_set]
   have tS : (eds (Es.set i (v,u))).take Es.length = eds (Es.set i (v,u)) := List.take_of_length_le (by omega);refine ⟨N,Es.set i (v,u),a2,?_,by rw [List.length_set]; omega,fun e he => ?_⟩
   ·rw [callL_end oQg sQg (Nat.le_of_ble_eq_true rfl)];unfold gA dk at *;generalize eds (Es.set i (v,u)) = Y2 at *;clear huv hL lo bE;generalize eds Es = Y at *;unfold qQg cQg;simp [rQgX0,rQgX1,rQgX2,rQgX3,rQgX4,rQgX5,rQgX6,rQgX7,rQgX8,rQgX9,rQgX10,rQgX11,rQgX12,rQgX13,rQgX14,rQgX15,rQgX16,rQgX17,rQgX18,rQgX19,n1,n2,z,z1,z2,d1,il,gE,gE2,sE,l1,tS,List.set_set,List.length_set,List.getElem_set_self,List.getElem?_set_self,lE,kE,aE,tE,mE,LIM,idx,blk,endL,finB,finS,plp,plpL,plL,pl,swS,allB,notBox,swC,seesC,inBox,relB,handBox,mvBB,mvRtB,sQi,iQi,vQi,lQi]
   ·rcases List.mem_or_eq_of_mem_set he with q | q
    ·exact lo e q
    ·subst q; simp only; omega
 by_cases c2 : c = 2
 ·subst c2;by_cases z : Es.length = 0
  ·skip
   obtain rfl : Es = [] := List.eq_nil_of_length_eq_zero z;rw [eds_nil] at *;refine ⟨N,[],a1,?_,by simp,by simp⟩;rw [callL_end oQg sQg (Nat.le_of_ble_eq_true rfl)];unfold gA dk at *;unfold qQg cQg;simp [rQgX0,rQgX1,rQgX2,rQgX3,rQgX4,rQgX5,rQgX6,rQgX7,rQgX8,rQgX9,rQgX10,rQgX11,rQgX12,rQgX13,rQgX14,rQgX15,rQgX16,rQgX17,rQgX18,rQgX19,n1,c0,c1,eds_nil,LIM,idx,blk,endL,finB,finS,plp,plpL,plL,pl,swS,allB,notBox,swC,seesC,inBox,relB,handBox,mvBB,mvRtB,sQi,iQi,vQi,lQi]
  by_cases zz : Es.length = 1
  ·have z1 : ¬ (1 : Int) < Es.length := by omega
   have z2 : ¬ 1 < Es.length := by omega
   refine ⟨N,Es,a1,?_,by omega,lo⟩;rw [callL_end oQg sQg (Nat.le_of_ble_eq_true rfl)];unfold gA dk at *;generalize eds Es = Y at *;unfold qQg cQg;simp [rQgX0,rQgX1,rQgX2,rQgX3,rQgX4,rQgX5,rQgX6,rQgX7,rQgX8,rQgX9,rQgX10,rQgX11,rQgX12,rQgX13,rQgX14,rQgX15,rQgX16,rQgX17,rQgX18,rQgX19,n1,c0,c1,z1,z2,lE,kE,aE,tE,mE,LIM,idx,blk,endL,finB,finS,plp,plpL,plL,pl,swS,allB,notBox,swC,seesC,inBox,relB,handBox,mvBB,mvRtB,sQi,iQi,vQi,lQi]
  ·have z1 : (1 : Int) < Es.length := by omega
   have z2 : 1 < Es.length := by omega
   obtain ⟨m,hm⟩ : ∃ m : Nat,Es.length = m + 2 := ⟨Es.length - 2,by omega⟩;have w : IntKind.i64.wrap ((Es.length : Int) - 1) = ((m + 1 : Nat) : Int) := by rw [wrap_id (by omega) (by omega)]; omega
   have il : 0 < Es.length := by omega
   have jl : m + 1 < Es.length := by omega
   obtain ⟨u,v,huv⟩ : ∃ u v : Int,Es[0] = (u,v) := ⟨_,_,rfl⟩;obtain ⟨x,y,hxy⟩ : ∃ x y : Int,Es[m + 1] = (x,y) := ⟨_,_,rfl⟩;have bE := hL _ (List.getElem_mem il);have bE2 := hL _ (List.getElem_mem jl);rw [huv] at bE;rw [hxy] at bE2;have g0 : ∀ h,(eds Es)[0]'h = .agg [.int .i64 u,.int .i64 v] := fun h => by rw [edsAt,huv]; rfl
   have g1 : ∀ h,(eds Es)[m + 1]'h = .agg [.int .i64 x,.int .i64 y] := fun h => by rw [edsAt,hxy]; rfl
   have g02 : (eds Es)[0]? = some (.agg [.int .i64 u,.int .i64 v]) := by rw [List.getElem?_eq_getElem (by omega),g0]
   have g12 : (eds Es)[m + 1]? = some (.agg [.int .i64 x,.int .i64 y]) := by rw [List.getElem?_eq_getElem (by omega),g1]
   have s0 := eds_set Es 0 x y;have s1 := eds_set (Es.set 0 (x,y)) (m + 1) u v;have g3 : ∀ h,(eds (Es.set 0 (x,y)))[m + 1]'h = .agg [.int .i64 x,.int .i64 y] := fun h => by rw [edsAt,List.getElem_set_ne (by omega),hxy]; rfl
   have g32 : (eds (Es.set 0 (x,y)))[m + 1]? = some (.agg [.int .i64 x,.int .i64 y]) := by rw [List.getElem?_eq_getElem (by rw [eds_length,List.length_set]; omega),g3]
   have l0 : (eds (Es.set 0 (x,y))).length = Es.length := by rw [eds_length,List.length_set]
   have l1 : (eds ((Es.set 0 (x,y)).set (m + 1) (u,v))).length = Es.length := by rw [eds_length,List.length_set,List.length_set]
   have tS : (eds ((Es.set 0 (x,y)).set (m + 1) (u,v))).take Es.length = eds ((Es.set 0 (x,y)).set (m + 1) (u,v)) := List.take_of_length_le (by omega);have j1 : ((m : Int) + 1) < Es.length := by omega
   have j2 : ¬ ((m : Int) + 1) < 0 := by omega
   have j3 : (0 : Int) <= (m : Int) + 1 := by omega
   refine ⟨N,(Es.set 0 (x,y)).set (m + 1) (u,v),a1,?_,by rw [List.length_set,List.length_set]; omega,fun e he => ?_⟩
   ·rw [callL_end oQg sQg (Nat.le_of_ble_eq_true rfl)];unfold gA dk at *;generalize eds ((Es.set 0 (x,y)).set (m + 1) (u,v)) = Y2 at *;generalize eds (Es.set 0 (x,y)) = Y1 at *;clear huv hL lo bE bE2 hxy;generalize eds Es = Y at *;unfold qQg cQg;simp [rQgX0,rQgX1,rQgX2,rQgX3,rQgX4,rQgX5,rQgX6,rQgX7,rQgX8,rQgX9,rQgX10,rQgX11,rQgX12,rQgX13,rQgX14,rQgX15,rQgX16,rQgX17,rQgX18,rQgX19,n1,c0,c1,z,z1,z2,w,il,jl,g0,g1,g02,g12,g3,g32,s0,s1,l0,l1,tS,j1,j2,j3,lE,kE,aE,tE,mE,LIM,idx,blk,endL,finB,finS,plp,plpL,plL,pl,swS,allB,notBox,swC,seesC,inBox,relB,handBox,mvBB,mvRtB,sQi,iQi,vQi,lQi]
   ·rcases List.mem_or_eq_of_mem_set he with q | q
    ·rcases List.mem_or_eq_of_mem_set q with q | q
     ·exact lo e q
     ·subst q; simp only; omega
    ·subst q; simp only; omega
 by_cases c3 : c = 3
 ·subst c3;by_cases z : Es.length = 0
  ·skip
   obtain rfl : Es = [] := List.eq_nil_of_length_eq_zero z;rw [eds_nil] at *;refine ⟨N,[],a1,?_,by simp,by simp⟩;rw [callL_end oQg sQg (Nat.le_of_ble_eq_true rfl)];unfold gA dk at *;unfold qQg cQg;simp [rQgX0,rQgX1,rQgX2,rQgX3,rQgX4,rQgX5,rQgX6,rQgX7,rQgX8,rQgX9,rQgX10,rQgX11,rQgX12,rQgX13,rQgX14,rQgX15,rQgX16,rQgX17,rQgX18,rQgX19,n1,c0,c1,c2,eds_nil,LIM,idx,blk,endL,finB,finS,plp,plpL,plL,pl,swS,allB,notBox,swC,seesC,inBox,relB,handBox,mvBB,mvRtB,sQi,iQi,vQi,lQi]
  ·have z1 : (0 : Int) < Es.length := by omega
   have z2 : 0 < Es.length := by omega
   obtain ⟨m,hm⟩ : ∃ m : Nat,Es.length = m + 1 := ⟨Es.length - 1,by omega⟩;have w : IntKind.i64.wrap ((Es.length : Int) - 1) = (m : Int) := by rw [wrap_id (by omega) (by omega)]; omega
   have jl : m < Es.length := by omega
   have jl2 : (m : Int) < Es.length := by omega
   obtain ⟨x,y,hxy⟩ : ∃ x y : Int,Es[m] = (x,y) := ⟨_,_,rfl⟩;have bE := hL _ (List.getElem_mem jl);rw [hxy] at bE;have g1 : ∀ h,(eds Es)[m]'h = .agg [.int .i64 x,.int .i64 y] := fun h => by rw [edsAt,hxy]; rfl
   have g12 : (eds Es)[m]? = some (.agg [.int .i64 x,.int .i64 y]) := by rw [List.getElem?_eq_getElem (by omega),g1]
   have sn := eds_snocM Es x y;have l1 : (eds (Es ++ [(x,y)])).length = Es.length + 1 := by rw [eds_length]; simp
   have tS : (eds (Es ++ [(x,y)])).take (Es.length + 1) = eds (Es ++ [(x,y)]) := List.take_of_length_le (by omega);have mE2 : Es.length + 1 <= 4294967296 := by omega
   refine ⟨N,Es ++ [(x,y)],a1,?_,by simp,fun e he => ?_⟩
   ·rw [callL_end oQg sQg (Nat.le_of_ble_eq_true rfl)];unfold gA dk at *;generalize eds (Es ++ [(x,y)]) = Y2 at *;clear hL lo bE hxy;generalize eds Es = Y at *;unfold qQg cQg;simp [rQgX0,rQgX1,rQgX2,rQgX3,rQgX4,rQgX5,rQgX6,rQgX7,rQgX8,rQgX9,rQgX10,rQgX11,rQgX12,rQgX13,rQgX14,rQgX15,rQgX16,rQgX17,rQgX18,rQgX19,n1,c0,c1,c2,z,z1,z2,w,jl,jl2,g1,g12,sn,l1,tS,mE2,lE,kE,aE,tE,mE,LIM,idx,blk,endL,finB,finS,plp,plpL,plL,pl,swS,allB,notBox,swC,seesC,inBox,relB,handBox,mvBB,mvRtB,sQi,iQi,vQi,lQi]
   ·rcases List.mem_append.1 he with q | q
    ·exact lo e q
    ·rw [List.mem_singleton] at q; subst q; simp only; omega
 by_cases c4 : c = 4
 ·subst c4;by_cases z : Es.length = 0
  ·skip
   obtain rfl : Es = [] := List.eq_nil_of_length_eq_zero z;rw [eds_nil] at *;refine ⟨N,[],a1,?_,by simp,by simp⟩;rw [callL_end oQg sQg (Nat.le_of_ble_eq_true rfl)];unfold gA dk at *;unfold qQg cQg;simp [rQgX0,rQgX1,rQgX2,rQgX3,rQgX4,rQgX5,rQgX6,rQgX7,rQgX8,rQgX9,rQgX10,rQgX11,rQgX12,rQgX13,rQgX14,rQgX15,rQgX16,rQgX17,rQgX18,rQgX19,n1,c0,c1,c2,c3,eds_nil,LIM,idx,blk,endL,finB,finS,plp,plpL,plL,pl,swS,allB,notBox,swC,seesC,inBox,relB,handBox,mvBB,mvRtB,sQi,iQi,vQi,lQi]
  ·have z1 : (0 : Int) < Es.length := by omega
   have z2 : 0 < Es.length := by omega
   have n2 := next_run l hl a1 (Es.length : Int) (by omega) [] ⟨fun _ => rfl,rfl,fun _ _ => rfl,fun _ => rfl,fun _ _ => rfl⟩;obtain ⟨d0,d1⟩ := nxV_bd l a1 (n := (Es.length : Int)) (by omega);generalize nxA l a1 (Es.length : Int) = a2 at *;obtain ⟨i,hi⟩ : ∃ i : Nat,nxV l a1 (Es.length : Int) = (i : Int) := ⟨(nxV l a1 (Es.length : Int)).toNat,by omega⟩;rw [hi] at n2 d1;clear hi d0;have n3 := next_run l hl a2 5 (by omega) [] ⟨fun _ => rfl,rfl,fun _ _ => rfl,fun _ => rfl,fun _ _ => rfl⟩;obtain ⟨f0,f1⟩ := nxV_bd l a2 (n := 5) (by omega);generalize nxA l a2 5 = a3 at *;generalize nxV l a2 5 = d at *;have il : i < Es.length := by omega
   obtain ⟨u,v,huv⟩ : ∃ u v : Int,Es[i] = (u,v) := ⟨_,_,rfl⟩;have bE := hL _ (List.getElem_mem il);rw [huv] at bE;have gE : ∀ h,(eds Es)[i]'h = .agg [.int .i64 u,.int .i64 v] := fun h => by rw [edsAt,huv]; rfl
   have gE2 : (eds Es)[i]? = some (.agg [.int .i64 u,.int .i64 v]) := by rw [List.getElem?_eq_getElem (by omega),gE]
   have w1 : IntKind.i64.wrap (d - 2) = d - 2 := wrap_id (by omega) (by omega);have w2 : IntKind.i64.wrap (v + (d - 2)) = v + (d - 2) := wrap_id (by omega) (by omega);have sE := eds_set Es i u (v + (d - 2));have l1 : (eds (Es.set i (u,v + (d - 2)))).length = Es.length := by rw [eds_length,List.length_set]
   have tS : (eds (Es.set i (u,v + (d - 2)))).take Es.length = eds (Es.set i (u,v + (d - 2))) := List.take_of_length_le (by omega);refine ⟨N,Es.set i (u,v + (d - 2)),a3,?_,by rw [List.length_set]; omega,fun e he => ?_⟩
   ·rw [callL_end oQg sQg (Nat.le_of_ble_eq_true rfl)];unfold gA dk at *;generalize eds (Es.set i (u,v + (d - 2))) = Y2 at *;clear huv hL lo bE;generalize eds Es = Y at *;unfold qQg cQg;simp [rQgX0,rQgX1,rQgX2,rQgX3,rQgX4,rQgX5,rQgX6,rQgX7,rQgX8,rQgX9,rQgX10,rQgX11,rQgX12,rQgX13,rQgX14,rQgX15,rQgX16,rQgX17,rQgX18,rQgX19,n1,n2,n3,c0,c1,c2,c3,z,z1,z2,d1,il,gE,gE2,w1,w2,sE,l1,tS,lE,kE,aE,tE,mE,LIM,idx,blk,endL,finB,finS,plp,plpL,plL,pl,swS,allB,notBox,swC,seesC,inBox,relB,handBox,mvBB,mvRtB,sQi,iQi,vQi,lQi]
   ·rcases List.mem_or_eq_of_mem_set he with q | q
    ·exact lo e q
    ·subst q; simp only; omega
 refine ⟨N,Es,a1,?_,by omega,lo⟩;rw [callL_end oQg sQg (Nat.le_of_ble_eq_true rfl)];unfold gA dk at *;generalize eds Es = Y at *;unfold qQg cQg;simp [rQgX0,rQgX1,rQgX2,rQgX3,rQgX4,rQgX5,rQgX6,rQgX7,rQgX8,rQgX9,rQgX10,rQgX11,rQgX12,rQgX13,rQgX14,rQgX15,rQgX16,rQgX17,rQgX18,rQgX19,n1,c0,c1,c2,c3,c4,lE,kE,aE,tE,mE,LIM,idx,blk,endL,finB,finS,plp,plpL,plL,pl,swS,allB,notBox,swC,seesC,inBox,relB,handBox,mvBB,mvRtB,sQi,iQi,vQi,lQi]
end Go.BmP
