/- The law of two sides. -/
import Derived.Test.YtoobjomjclombaaDoorUseM
import Derived.Test.YtoobjomjclombaaDoorCoA
import Derived.Test.YtoobjomjclombaaDoorCoY
import Derived.Test.YtoobjomjclombaaDoorCoV
import Derived.Test.YtoobjomjclombaaDoorCoW
import Derived.Test.YtoobjomjclombaaDoorPeE
set_option linter.unusedSimpArgs false
set_option linter.unusedVariables false
set_option maxRecDepth 100000
set_option maxHeartbeats 8000000
namespace Go.BmP
open Go.Am Go.Bm
theorem awake26s : callL cfgS nQc [] [] = some (.bool true,[]) := by
 have k1 : callL cfgS nQp [G9] [] = some (.tup [.list 1 (ints [0,1]),.int .i64 0],[]) := callL_iff.2 ⟨3000,k_best⟩;have k2 : callL cfgS nQm [G9] [] = some (.tup [.list 1 (ints [2,1,0,1,0]),.int .i64 0],[]) := callL_iff.2 ⟨3000,k_cols⟩;have k3 : callL cfgS nQo [G9,.list 1 (ints [2,1,0,1,0])] [] = some (.bool true,[]) := callL_iff.2 ⟨3000,k_prop⟩;have k4 : callL cfgS nQs [G9] [] = some (.tup [.int .i64 3,.int .i64 0],[]) := callL_iff.2 ⟨3000,k_bound⟩;have k5 : callL cfgS nQr [.int .i64 5,.list 2 [.agg [.int .i64 0,.int .i64 1],.agg [.int .i64 1,.int .i64 2],.agg [.int .i64 2,.int .i64 3],.agg [.int .i64 3,.int .i64 4],.agg [.int .i64 4,.int .i64 0]]] [] = some (.tup [G9,.int .i64 0],[]) := callL_iff.2 ⟨3000,k_of⟩;have k6 : callL cfgS nQq [.list 1 (ints [0,1]),.list 1 [.int .i64 0,.int .i64 1]] [] = some (.int .i64 0,[]) := callL_iff.2 ⟨3000,k_cmp⟩;unfold G9 at *;have p1 := plL_ints [0,1];have p2 := plL_ints [2,1,0,1,0];have p3 := cleanL_ints [0,1];have f3 := flatCells_ints [0,1];generalize ints [0,1] = I1 at *;generalize ints [2,1,0,1,0] = I2 at *;have c1 := cleanL_eds cyc9;generalize eds cyc9 = Y at *;rw [callL_end oQc sQc (Nat.le_of_ble_eq_true rfl)];unfold qQc cQc;simp [rQcX0,rQcX1,rQcX2,rQcX3,rQcX4,rQcX5,k1,k2,k3,k4,k5,k6,p1,p2,p3,c1,blk,endL,finB,plp,plpL,plL,pl,allB,notBox,swC,swS,seesC,inBox,relB,handBox,mvBB,mvRtB,sQr,iQr,lQr,sQp,iQp,lQp,sQs,iQs,lQs,sQm,iQm,lQm,sQo,iQo,lQo,sQq,iQq,lQq]
theorem sd9_two {N : Nat} {o : List Ed} {A : List Int} (hG : GOK (N : Int) o) (hN : N <= 64) (hu : Up A) (hA : ∀ x ∈ A,0 <= x /\ x < (N : Int)) (hS : Sd9 A o) : (setOf (grc (nbF9 N o) N (A ++ minus (rangeI N) A))).length <= 2 /\ (A ++ minus (rangeI N) A).length = N /\ setOf (A ++ minus (rangeI N) A) = rangeI N /\ ∀ v ∈ A ++ minus (rangeI N) A,0 <= v /\ v < (N : Int) := by
 obtain ⟨m1,m2⟩ := minus_spec (rangeI (N : Int)) A
 have hB : ∀ v ∈ minus (rangeI (N : Int)) A,(0 <= v /\ v < (N : Int)) /\ v ∉ A := fun v hv => by
  obtain ⟨a,b⟩ := (m2 v).1 hv;exact ⟨(rangeI_mem hN v).1 a,b⟩
 have hall : ∀ i : Nat,i < N -> (i : Int) ∈ A \/ (i : Int) ∈ minus (rangeI (N : Int)) A := fun i hi => by
  by_cases q : (i : Int) ∈ A
  ·exact .inl q
  ·exact .inr ((m2 _).2 ⟨(rangeI_mem hN _).2 ⟨by omega,by omega⟩,q⟩)
 have mem : ∀ x,x ∈ A ++ minus (rangeI (N : Int)) A ↔ 0 <= x /\ x < (N : Int) := fun x => by
  rw [List.mem_append];constructor
  ·rintro (h | h)
   ·exact hA x h
   ·exact (hB x h).1
  ·intro h;have := hall x.toNat (by omega)
   rwa [show ((x.toNat : Nat) : Int) = x by omega] at this
 have hj : ∀ v w,jn o v w -> decide (v ∈ A) ≠ decide (w ∈ A) := fun v w h => by
  rcases h with h | h
  ·exact hS _ h
  ·exact (hS _ h).symm
 refine ⟨two_set hG A _ hA (fun v hv => (hB v hv).1) (fun v hv => (hB v hv).2) hall (fun v hv w h q => ?_) (fun v hv w h => ?_),?_,?_,fun v hv => (mem v).1 hv⟩
 ·have := hj v w h;simp [hv,q] at this
 ·have := hj v w h;have hn := (hB v hv).2;simp only [hn,decide_false,ne_eq] at this;cases q : decide (w ∈ A) with
  | true => exact of_decide_eq_true q
  | false => rw [q] at this; exact absurd rfl this
 ·have nd1 : A.Nodup := by unfold Up at hu; exact hu.imp fun h => by omega
  have nd2 : (minus (rangeI (N : Int)) A).Nodup := by unfold Up at m1; exact m1.imp fun h => by omega
  have nd : (A ++ minus (rangeI (N : Int)) A).Nodup := List.nodup_append.2 ⟨nd1,nd2,fun a ha b hb e => (hB b hb).2 (e ▸ ha)⟩;have nr : (rangeI (N : Int)).Nodup := by have := rangeI_up (N : Int); unfold Up at this; exact this.imp fun h => by omega
  have hp := (List.perm_ext_iff_of_nodup nd nr).2 fun x => by rw [mem,rangeI_mem hN]
  rw [hp.length_eq];unfold rangeI;rw [List.length_map,List.length_range]; omega
 ·obtain ⟨s1,s2⟩ := setOf_spec (A ++ minus (rangeI (N : Int)) A);exact up_ext s1 (rangeI_up N) fun x => by rw [s2,mem,rangeI_mem hN]
/- The law of two sides, as a whole. -/
theorem col_ok {N : Nat} {Es : List Ed} (hG : GOK (N : Int) Es) {o ds : List Nat} (hp : PeelR (adjE N Es) (2 ^ N - 1) o ds) : (grc (nbF9 N Es) N (ns o).reverse).length = N /\ (∀ x ∈ grc (nbF9 N Es) N (ns o).reverse,0 <= x) /\ ∀ e ∈ Es,(grc (nbF9 N Es) N (ns o).reverse).getD e.1.toNat (-1) ≠ (grc (nbF9 N Es) N (ns o).reverse).getD e.2.toNat (-1) := by
 have hN : N <= 64 := by have := hG.1.2; omega
 obtain ⟨ol,_,nd,om⟩ := peel_len hN hp;obtain ⟨q1,q2,q3,q4⟩ := rev_range hN ol nd om;obtain ⟨g1,g2,g3⟩ := grc_proper hG (ns o).reverse q3 q4;refine ⟨g1,fun x hx => ?_,g3⟩;obtain ⟨i,hi,rfl⟩ := List.getElem_of_mem hx;have := g2 i (by omega)
 rwa [List.getD_eq_getElem?_getD,List.getElem?_eq_getElem hi] at this
theorem avLE_edz : ∀ l : List Ed,avLE (eds l) (eds l) = true
 | [] => rfl
 | e :: r => by
   have := avLE_edz r;rw [eds_cons];simp only [avLE,avE,this,Bool.and_true,Bool.and_self,decide_true]
theorem avLE_intz : ∀ l : List Int,avLE (ints l) (ints l) = true
 | [] => rfl
 | x :: r => by
   have := avLE_intz r;rw [ints_cons];simp only [avLE,avE,this,Bool.and_true,Bool.and_self,decide_true]
theorem sides_run (l : List Int) : callL cfgS nQa [.list 1 (ints l)] [] = some (.bool true,[]) := by
 rw [callL_end oQa sQa (Nat.le_of_ble_eq_true rfl)];have aw := awake26s;have few := few_run l;by_cases hl : (l.length : Int) <= 500
 case neg =>
  unfold qQa cQa;simp [rQaX0,rQaX1,rQaX2,rQaX3,rQaX4,rQaX5,rQaX6,rQaX7,rQaX8,rQaX9,rQaX10,rQaX11,rQaX12,rQaX13,rQaX14,rQaX15,rQaX16,rQaX17,rQaX18,rQaX19,rQaX20,rQaX21,rQaX22,rQaX23,rQaX24,few,hl,aw,sQb,iQb,lQb,sQc,iQc,lQc,blk,eds_length,eds_get,edsAt,edAV,allLeaf_eds,cleanL_eds,cleanL_ints,ints_length,ints_get,intsAt,endL,finB]
 have hl5 : l.length <= 500 := by omega
 have n1 := new_run l;have n2 := next_run l hl5 0 9 (by omega) [] ⟨fun _ => rfl,rfl,fun _ _ => rfl,fun _ => rfl,fun _ _ => rfl⟩;obtain ⟨b0,b1⟩ := nxV_bd l 0 (n := 9) (by omega);obtain ⟨N,hN⟩ : ∃ N : Nat,nxV l 0 9 = (N : Int) := ⟨(nxV l 0 9).toNat,by omega⟩;rw [hN] at n2 b1;have N64 : N <= 64 := by omega
 obtain ⟨A,a2,n3,lA,uA,bA⟩ := set_run l hl5 N N64 [] ⟨fun _ => rfl,rfl,fun _ _ => rfl,fun _ => rfl,fun _ _ => rfl⟩ (nxA l 0 9);have n4 := range_run (N : Int);have lr : (rangeI (N : Int)).length < 4294967295 := by unfold rangeI; rw [List.length_map,List.length_range]; omega
 have n5 := minus_run (rangeI (N : Int)) A lr (by omega);obtain ⟨a3,o,n6,hI,hS⟩ := sd_out l hl5 N N64 A (minus (rangeI (N : Int)) A) (by omega) N 0 a2 [] (by omega) ⟨by simp [UpE],by simp,by simp,by simp⟩ (fun e he => by simp at he);have hGo : GOK (N : Int) o := ⟨by omega,hI.1,hI.2.1⟩;have lo : o.length < 1000000 := by have := hI.2.2.2; omega
 obtain ⟨t1,t2,t3,t4⟩ := sd9_two hGo N64 uA bA hS;have n7 := colour_run hGo lo (A ++ minus (rangeI (N : Int)) A) t2 t3 t4;have lc : (grc (nbF9 N o) N (A ++ minus (rangeI (N : Int)) A)).length = N := (fold_ok (nbF9_ok hGo) _ _ t4 (cso_zero _ _)).1.len;have n8 := of_run (grc (nbF9 N o) N (A ++ minus (rangeI (N : Int)) A)) (by omega);have two : ¬ (2 : Int) < ((setOf (grc (nbF9 N o) N (A ++ minus (rangeI (N : Int)) A))).length : Int) := by omega
 obtain ⟨M,Es,a4,n9,hG,hM,hEl⟩ := graph_run l hl5 8 (by omega) a3;obtain ⟨ord,ds,hp,m1⟩ := colours_run hG (by omega);obtain ⟨c1,c2,c3⟩ := col_ok hG hp;have lAB : A.length + (minus (rangeI (N : Int)) A).length = N := by rw [<- List.length_append]; exact t2
 have s1 : ints A ++ ints (minus (rangeI (N : Int)) A) = ints (A ++ minus (rangeI (N : Int)) A) := ints_app _ _;have lsA := ints_length A;have lsB := ints_length (minus (rangeI (N : Int)) A);have lsAB : (ints (A ++ minus (rangeI (N : Int)) A)).length = N := by rw [ints_length]; exact t2
 have tkAB : (ints (A ++ minus (rangeI (N : Int)) A)).take N = ints (A ++ minus (rangeI (N : Int)) A) := List.take_of_length_le (by omega);have tkA : (ints A).take A.length = ints A := List.take_of_length_le (by omega);have lk1 : A.length <= LIM := by unfold LIM; omega
 have lk2 : A.length + (minus (rangeI (N : Int)) A).length <= LIM := by unfold LIM; omega
 have lk3 : N <= LIM := by unfold LIM; omega
 have leo := eds_length o;have tko : (eds o).take o.length = eds o := List.take_of_length_le (by omega);have pA := plL_ints A;have fA := flatCells_ints A;have fB := flatCells_ints (minus (rangeI (N : Int)) A);have fAB := flatCells_ints (A ++ minus (rangeI (N : Int)) A);have aA := allLeaf_ints A;have aB := allLeaf_ints (minus (rangeI (N : Int)) A);have aAB := allLeaf_ints (A ++ minus (rangeI (N : Int)) A);have kA := cleanL_ints A;have kB := cleanL_ints (minus (rangeI (N : Int)) A);have kAB := cleanL_ints (A ++ minus (rangeI (N : Int)) A);have pB := plL_ints (minus (rangeI (N : Int)) A);have pc := plL_ints (grc (nbF9 N o) N (A ++ minus (rangeI (N : Int)) A));have pd := plL_ints (grc (nbF9 M Es) M (ns ord).reverse);have leE := eds_length Es;have lsS := ints_length (setOf (grc (nbF9 N o) N (A ++ minus (rangeI (N : Int)) A)));unfold sd2St at n6;unfold dk gB at *;simp only [nat0,show ((8 : Nat) : Int) = 8 from rfl] at n1 n2 n9;rw [show ((0 : Nat) : Int) = 0 from rfl] at n6;rw [show eds [] = [] from rfl] at n6;by_cases e0 : Es.length = 0
 ·have e1 : Es = [] := List.eq_nil_of_length_eq_zero e0;have m2 := proper_run hG (by omega) _ c1 c2 c3;clear c1 c2 c3 hp;subst e1;rw [eds_nil] at *;clear hI hS hGo t1 t2 t3 t4 hG;generalize ints (grc (nbF9 M []) M (ns ord).reverse) = C2 at *;generalize setOf (grc (nbF9 N o) N (A ++ minus (rangeI (N : Int)) A)) = S1 at *;generalize ints (grc (nbF9 N o) N (A ++ minus (rangeI (N : Int)) A)) = C1 at *;generalize ints (A ++ minus (rangeI (N : Int)) A) = AB1 at *;generalize ints (minus (rangeI (N : Int)) A) = B1 at *;generalize ints (rangeI (N : Int)) = R1 at *;generalize ints A = A1 at *;generalize ints S1 = S2 at *;generalize eds o = Y at *;unfold qQa cQa;simp [rQaX0,rQaX1,rQaX2,rQaX3,rQaX4,rQaX5,rQaX6,rQaX7,rQaX8,rQaX9,rQaX10,rQaX11,rQaX12,rQaX13,rQaX14,rQaX15,rQaX16,rQaX17,rQaX18,rQaX19,rQaX20,rQaX21,rQaX22,rQaX23,rQaX24,few,hl,aw,n1,n2,n3,n4,n5,n6,n7,n8,n9,m1,m2,two,lAB,s1,lsA,lsB,lsAB,lsS,tkAB,tkA,lk1,lk2,lk3,leo,tko,pA,pB,pc,pd,fA,fB,fAB,aA,aB,aAB,kA,kB,kAB,blk,endL,finB,plp,plpL,plL,pl,allB,notBox,swC,swS,seesC,inBox,relB,handBox,mvBB,mvRtB,offBoxes,offLab,calmB,ptrs,ptrsL,blkE,avE,avLE,sQb,iQb,lQb,sQc,iQc,lQc,sQd,iQd,lQd,sQe,iQe,lQe,sQf,iQf,lQf,sQh,iQh,lQh,sQg,iQg,lQg,sQj,iQj,lQj,sQk,iQk,lQk,sQl,iQl,lQl,sQm,iQm,lQm,sQo,iQo,lQo]
 ·have nx := next_run l hl5 a4 (Es.length : Int) (by omega) [peG M (eds Es)] ⟨fun _ => rfl,rfl,fun _ _ => rfl,fun _ => rfl,fun _ _ => rfl⟩;have av := avLE_edz Es;have avl := avLE_intz l;obtain ⟨x0,x1⟩ := nxV_bd l a4 (n := (Es.length : Int)) (by omega);obtain ⟨x,hx⟩ : ∃ x : Nat,nxV l a4 (Es.length : Int) = (x : Int) := ⟨(nxV l a4 (Es.length : Int)).toNat,by omega⟩;rw [hx] at nx x1;have xl : x < Es.length := by omega
  obtain ⟨u,v,huv⟩ : ∃ u v : Int,Es[x] = (u,v) := ⟨_,_,rfl⟩;have hm : (u,v) ∈ Es := by rw [<- huv]; exact List.getElem_mem xl
  have rm := rem_run hG (by omega) u v hm;have hG2 := wo9_ok hG (nrmE u v);have l2 := wo9_len (nrmE u v) Es;have m2 := proper_run hG2 (by omega) _ c1 c2 fun e he => c3 e (List.mem_filter.1 he).1;have gx : ∀ h,(eds Es)[x]'h = .agg [.int .i64 u,.int .i64 v] := fun h => by rw [edsAt,huv]; rfl
  have e1 : (0 : Int) < Es.length := by omega
  have e2 : 0 < Es.length := by omega
  unfold dk at nx;clear c1 c2 c3 hp hm huv hG2;have lw := eds_length (wo9 (nrmE u v) Es);have pw := cleanL_eds (wo9 (nrmE u v) Es);have ce := cleanL_eds Es;clear hI hS hGo t1 t2 t3 t4 hG;generalize ints (grc (nbF9 M Es) M (ns ord).reverse) = C2 at *;generalize setOf (grc (nbF9 N o) N (A ++ minus (rangeI (N : Int)) A)) = S1 at *;generalize ints (grc (nbF9 N o) N (A ++ minus (rangeI (N : Int)) A)) = C1 at *;generalize ints (A ++ minus (rangeI (N : Int)) A) = AB1 at *;generalize ints (minus (rangeI (N : Int)) A) = B1 at *;generalize ints (rangeI (N : Int)) = R1 at *;generalize ints A = A1 at *;generalize ints S1 = S2 at *;generalize eds o = Y at *;generalize eds (wo9 (nrmE u v) Es) = Y2 at *;generalize eds Es = Y1 at *;unfold qQa cQa;simp [rQaX0,rQaX1,rQaX2,rQaX3,rQaX4,rQaX5,rQaX6,rQaX7,rQaX8,rQaX9,rQaX10,rQaX11,rQaX12,rQaX13,rQaX14,rQaX15,rQaX16,rQaX17,rQaX18,rQaX19,rQaX20,rQaX21,rQaX22,rQaX23,rQaX24,few,hl,aw,n1,n2,n3,n4,n5,n6,n7,n8,n9,m1,m2,nx,rm,gx,e0,e1,e2,x1,xl,leE,lw,pw,ce,av,avl,two,lAB,s1,lsA,lsB,lsAB,lsS,tkAB,tkA,lk1,lk2,lk3,leo,tko,pA,pB,pc,pd,fA,fB,fAB,aA,aB,aAB,kA,kB,kAB,idx,blk,endL,finB,plp,plpL,plL,pl,allB,notBox,swC,swS,seesC,inBox,relB,handBox,mvBB,mvRtB,offBoxes,offLab,calmB,ptrs,ptrsL,blkE,avE,avLE,sQb,iQb,lQb,sQc,iQc,lQc,sQd,iQd,lQd,sQe,iQe,lQe,sQf,iQf,lQf,sQh,iQh,lQh,sQg,iQg,lQg,sQj,iQj,lQj,sQk,iQk,lQk,sQl,iQl,lQl,sQm,iQm,lQm,sQo,iQo,lQo,sQn,iQn,lQn]
end Go.BmP
