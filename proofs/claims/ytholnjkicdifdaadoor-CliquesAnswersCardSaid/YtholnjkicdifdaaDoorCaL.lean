/- The law: all functions answer as the reference does. -/
import Derived.Test.YtholnjkicdifdaaDoorUseM
import Derived.Test.YtholnjkicdifdaaDoorCaT
import Derived.Test.YtholnjkicdifdaaDoorRawM
import Derived.KernelRfl
set_option linter.unusedSimpArgs false
set_option linter.unusedVariables false
set_option maxRecDepth 100000
set_option maxHeartbeats 8000000
namespace Go.BmP
open Go.Am Go.Bm
theorem awake24 : callL cfgS nQd [] [] = some (.bool true,[]) := callL_iff.2 ⟨3000,by kernel_rfl⟩
theorem cag_raw (n : Int) (F : List Ed) (hn : n <= 9) (hE : F.length <= 81) : CAg n F := by
 by_cases h0 : chkG n F = 0
 ·have h := chkG_zero.1 h0;exact cag_any n F 9 (by omega) (by omega) fun e he => by have := h.2.2 e he; omega
 ·exact cag_bad n F (by omega) h0
theorem gs_at (x y z : AV) : ∀ i : Nat,i < 3 -> ([x,y,z] : List AV)[i]? = some (if i = 0 then x else if i = 1 then y else z)
 | 0,_ => rfl
 | 1,_ => rfl
 | 2,_ => rfl
 | i + 3,h => by omega
theorem ca_loop (n0 : Int) (F0 : List Ed) (l : List Int) (hl : l.length <= 500) (N1 n2 n3 : Int) (F1 F2 F3 : List Ed) (h1 : CAg N1 F1) (h2 : CAg n2 F2) (h3 : n3 <= 70 -> F3.length <= 40 -> CAg n3 F3) (st : List Int) (hst : st.length <= 20) (Z : List (List Int)) (hZ : Z.length <= 40) (bZ : ∀ S ∈ Z,S.length <= 9223372036854775807) (m : Int) : ∀ k i a : Nat,i + k = 3 ->
  ∃ a',codeL cfgS 0 (.loop lQaX2) ⟨caO st Z m [gA N1 F1,gA n2 F2,gA n3 F3] i [],caB n0 F0 l a⟩ = some (.exit 0,⟨caO st Z m [gA N1 F1,gA n2 F2,gA n3 F3] 3 [(64,.bool false)],caB n0 F0 l a'⟩)
 | 0,i,a,hi => by
   obtain rfl : i = 3 := by omega
   refine ⟨a,loop_exit ?_⟩;unfold caO caB gA dk;generalize lls Z = Z1 at *;generalize ints st = T1 at *;generalize eds F0 = Y0 at *;generalize eds F1 = Y1 at *;generalize eds F2 = Y2 at *;generalize eds F3 = Y3 at *;generalize ints l = D1 at *;unfold lQaX2;simp [rQaX0,rQaX1,rQaX2,rQaX3,rQaX4,rQaX5,rQaX6,rQaX7,rQaX8,rQaX9,rQaX10,rQaX11,rQaX12,rQaX13,rQaX14,rQaX15,rQaX16,rQaX17,rQaX18,rQaX19,rQaX20,rQaX21,rQaX22,rQaX23,rQaX24,rQaX25,rQaX26,rQaX27,rQaX28,rQaX29,rQaX30,blk]
 | k + 1,i,a,hi => by
   have key : ∃ (n : Int) (F : List Ed),(n <= 70 -> F.length <= 40 -> CAg n F) /\ ([gA N1 F1,gA n2 F2,gA n3 F3] : List AV)[i]? = some (gA n F) := by
    rw [gs_at _ _ _ i (by omega)];by_cases e0 : i = 0
    ·exact ⟨N1,F1,fun _ _ => h1,by rw [if_pos e0]⟩
    ·rw [if_neg e0];by_cases e1 : i = 1
     ·exact ⟨n2,F2,fun _ _ => h2,by rw [if_pos e1]⟩
     ·exact ⟨n3,F3,h3,by rw [if_neg e1]⟩
   obtain ⟨n,F,hC,hg⟩ := key;obtain ⟨a1,e⟩ := ca_graph n0 F0 l hl a n F hC st hst Z hZ bZ m [gA N1 F1,gA n2 F2,gA n3 F3] i (by omega) rfl hg;obtain ⟨a',e2⟩ := ca_loop n0 F0 l hl N1 n2 n3 F1 F2 F3 h1 h2 h3 st hst Z hZ bZ m k (i + 1) a1 (by omega);exact ⟨a',(loop_next e).trans e2⟩
theorem clans_run (l st : List Int) (n0 : Int) (F0 : List Ed) (Z : List (List Int)) (bZ : ∀ S ∈ Z,S.length <= 9223372036854775807) (m : Int) : callL cfgS nQa [.list 1 (ints l),.list 1 (ints st),.agg [.int .i64 n0,.list 2 (eds F0)],.list 1 (Z.map fun S => .list 1 (ints S)),.int .i64 m] [] = some (.bool true,[]) := by
 rw [callL_end oQa sQa (Nat.le_of_ble_eq_true rfl)];have aw := awake24;have few := few_run l;have lt := light_run n0 F0 9 (by omega);have lS := ints_length st;have lZ := lls_length Z;change endL _ _ _ _ (codeL cfgS _ _ ⟨mkEnv 0 [_,_,_,.list 1 (lls Z),_],_⟩) = _;by_cases hl : (l.length : Int) <= 500
 case neg =>
  unfold gA at *;generalize lls Z = Z1 at *;generalize ints st = T1 at *;generalize eds F0 = Y0 at *;generalize ints l = D1 at *;unfold qQa cQa;simp [rQaX0,rQaX1,rQaX2,rQaX3,rQaX4,rQaX5,rQaX6,rQaX7,rQaX8,rQaX9,rQaX10,rQaX11,rQaX12,rQaX13,rQaX14,rQaX15,rQaX16,rQaX17,rQaX18,rQaX19,rQaX20,rQaX21,rQaX22,rQaX23,rQaX24,rQaX25,rQaX26,rQaX27,rQaX28,rQaX29,rQaX30,few,hl,aw,lt,blk,endL,finB,plL,pl,sQb,iQb,vQb,lQb,sQd,iQd,vQd,lQd]
 by_cases hs : st.length <= 20
 case neg =>
  have h1 : (20 : Int) < st.length := by omega
  have h2 : 20 < st.length := by omega
  unfold gA at *;generalize lls Z = Z1 at *;generalize ints st = T1 at *;generalize eds F0 = Y0 at *;generalize ints l = D1 at *;unfold qQa cQa;simp [rQaX0,rQaX1,rQaX2,rQaX3,rQaX4,rQaX5,rQaX6,rQaX7,rQaX8,rQaX9,rQaX10,rQaX11,rQaX12,rQaX13,rQaX14,rQaX15,rQaX16,rQaX17,rQaX18,rQaX19,rQaX20,rQaX21,rQaX22,rQaX23,rQaX24,rQaX25,rQaX26,rQaX27,rQaX28,rQaX29,rQaX30,few,hl,aw,lt,lS,h1,h2,blk,endL,finB,plL,pl,sQb,iQb,vQb,lQb,sQd,iQd,vQd,lQd]
 have h1 : ¬ (20 : Int) < st.length := by omega
 have h2 : ¬ 20 < st.length := by omega
 by_cases hg : n0 <= 9 /\ F0.length <= 81
 case neg =>
  have e : (decide (n0 <= 9) && decide ((F0.length : Int) <= 9 * 9)) = false := by
   rw [Bool.and_eq_false_iff,decide_eq_false_iff_not,decide_eq_false_iff_not];by_cases q : n0 <= 9
   ·exact .inr (by have : ¬ F0.length <= 81 := fun k => hg ⟨q,k⟩; omega)
   ·exact .inl q
  rw [e] at lt;unfold gA at *;generalize lls Z = Z1 at *;generalize ints st = T1 at *;generalize eds F0 = Y0 at *;generalize ints l = D1 at *;unfold qQa cQa;simp [rQaX0,rQaX1,rQaX2,rQaX3,rQaX4,rQaX5,rQaX6,rQaX7,rQaX8,rQaX9,rQaX10,rQaX11,rQaX12,rQaX13,rQaX14,rQaX15,rQaX16,rQaX17,rQaX18,rQaX19,rQaX20,rQaX21,rQaX22,rQaX23,rQaX24,rQaX25,rQaX26,rQaX27,rQaX28,rQaX29,rQaX30,few,hl,aw,lt,lS,h1,h2,blk,endL,finB,plL,pl,sQb,iQb,vQb,lQb,sQd,iQd,vQd,lQd,sQc,iQc,vQc,lQc]
 obtain ⟨g1,g2⟩ := hg;rw [decide_eq_true g1,Bool.true_and,decide_eq_true (show (F0.length : Int) <= 9 * 9 by omega)] at lt;by_cases hZ : Z.length <= 40
 case neg =>
  have h3 : (40 : Int) < Z.length := by omega
  have h4 : 40 < Z.length := by omega
  unfold gA at *;generalize lls Z = Z1 at *;generalize ints st = T1 at *;generalize eds F0 = Y0 at *;generalize ints l = D1 at *;unfold qQa cQa;simp [rQaX0,rQaX1,rQaX2,rQaX3,rQaX4,rQaX5,rQaX6,rQaX7,rQaX8,rQaX9,rQaX10,rQaX11,rQaX12,rQaX13,rQaX14,rQaX15,rQaX16,rQaX17,rQaX18,rQaX19,rQaX20,rQaX21,rQaX22,rQaX23,rQaX24,rQaX25,rQaX26,rQaX27,rQaX28,rQaX29,rQaX30,few,hl,aw,lt,lS,lZ,h1,h2,h3,h4,blk,endL,finB,plL,pl,sQb,iQb,vQb,lQb,sQd,iQd,vQd,lQd,sQc,iQc,vQc,lQc]
 have h3 : ¬ (40 : Int) < Z.length := by omega
 have h4 : ¬ 40 < Z.length := by omega
 have hl5 : l.length <= 500 := by omega
 have n1 := new1_run l n0 F0;obtain ⟨N,Es,a1,m1,hG,hN,hEl⟩ := graph_run l hl5 8 (by omega) 0;obtain ⟨n3,F3,a2,m2,hF3,hb3⟩ := spo_run l hl5 a1 N (by omega) Es hEl fun e he => by have := hG.2.2 e he; omega
 have c1 : CAg N Es := cag_any N Es 8 (by omega) (by omega) fun e he => by have := hG.2.2 e he; omega
 have c2 := cag_raw n0 F0 g1 g2;have c3 : n3 <= 70 -> F3.length <= 40 -> CAg n3 F3 := fun _ _ => cag_any n3 F3 10 (by omega) (by omega) fun e he => by have := hb3 e he; omega
 obtain ⟨a3,lp⟩ := ca_loop n0 F0 l hl5 N n0 n3 Es F0 F3 c1 c2 c3 st hs Z hZ bZ m 3 0 a2 rfl;rw [show ((8 : Nat) : Int) = 8 from rfl] at m1
 have av0 : avLE (eds F0) (eds F0) = true := by
  clear lp c2 n1 lt g2
  induction F0 with
  | nil => rfl
  | cons e r ih => rw [eds_cons]; simp only [avLE,avE,ih,Bool.and_true,Bool.and_self,decide_true]
 unfold caO caB at lp;unfold gA at *;unfold dk at *;simp only [nat0] at n1 m1 lp;clear hG hEl hF3 hb3 c1 c2 c3 bZ;generalize lls Z = Z1 at *;generalize ints st = T1 at *;generalize eds F3 = Y3 at *;generalize eds Es = Y1 at *;generalize eds F0 = Y0 at *;generalize ints l = D1 at *;unfold qQa cQa;simp [rQaX0,rQaX1,rQaX2,rQaX3,rQaX4,rQaX5,rQaX6,rQaX7,rQaX8,rQaX9,rQaX10,rQaX11,rQaX12,rQaX13,rQaX14,rQaX15,rQaX16,rQaX17,rQaX18,rQaX19,rQaX20,rQaX21,rQaX22,rQaX23,rQaX24,rQaX25,rQaX26,rQaX27,rQaX28,rQaX29,rQaX30,few,hl,aw,lt,lS,lZ,h1,h2,h3,h4,n1,m1,m2,lp,av0,blk,endL,finB,plp,plpL,plL,pl,allB,notBox,swC,swS,seesC,inBox,relB,handBox,mvBB,mvRtB,offBoxes,offLab,calmB,ptrs,ptrsL,blkE,avE,avLE,sQb,iQb,vQb,lQb,sQd,iQd,vQd,lQd,sQc,iQc,vQc,lQc,sQe,iQe,vQe,lQe,sQf,iQf,vQf,lQf,sQg,iQg,vQg,lQg]
end Go.BmP
