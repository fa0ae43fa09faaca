/- The law's rounds: one list, one bound, one graph. -/
import Derived.Test.YtholnjkicdifdaaDoorUseM
import Derived.Test.YtholnjkicdifdaaDoorCaS
set_option linter.unusedSimpArgs false
set_option linter.unusedVariables false
set_option maxRecDepth 100000
set_option maxHeartbeats 8000000
namespace Go.BmP
open Go.Am Go.Bm
def caH (n0 : Int) (F0 : List Ed) (l : List Int) (a : Nat) (n : Int) (F : List Ed) : Heap := [some [.int .i64 n0,.list 2 (eds F0)],dk l a,some [.int .i64 n,.list 2 (eds F)]]
def caE (st : List Int) (Z : List (List Int)) (m : Int) (GS : List AV) (i : Int) (J : Env) : Env := (1,.list 1 (ints st)) :: (3,.list 1 (lls Z)) :: (4,.int .i64 m) :: (11,.ptr 1 0) :: (14,.ptr 2 0) :: (61,.own 2 GS) :: (62,.int .i64 3) :: (63,.int .i64 i) :: J
theorem lls_at {ss : List (List Int)} {j : Nat} (hj : j < ss.length) : (∀ h,(lls ss)[j]'h = .list 1 (ints ss[j])) /\ (lls ss)[j]? = some (.list 1 (ints ss[j])) := by
 have g1 := lls_get ss j;rw [List.getElem?_eq_getElem hj,Option.map_some] at g1;exact ⟨fun h => by rw [List.getElem?_eq_getElem h] at g1; exact Option.some.inj g1,g1⟩
theorem cmp_self (L : List Int) (h : L.length <= 64) : callL cfgS nQr [.list 1 (ints L),.list 1 (ints L)] [] = some (.int .i64 0,[]) := by
 have := cmp_run L L (by omega) (by omega)
 rwa [cmpL_zero.2 rfl] at this
def isZ : Option (AV × Heap) -> Bool
 | some (.int .i64 0,[]) => true
 | _ => false
theorem cmp_nilsK : isZ (callB cfgS 200 nQr [.nils,.list 1 []] []) = true := by kernel_rfl
theorem cmp_nils : callL cfgS nQr [.nils,.list 1 []] [] = some (.int .i64 0,[]) := callL_iff.2 ⟨200,by
 have h := cmp_nilsK
 revert h
 generalize callB cfgS 200 nQr [.nils,.list 1 []] [] = r;intro h;unfold isZ at h;split at h
 ·rfl
 ·cases h⟩
theorem ca_set (n0 : Int) (F0 : List Ed) (l : List Int) (a : Nat) (n : Int) (F : List Ed) (hC : CAg n F) (st : List Int) (Z : List (List Int)) (m : Int) (GS : List AV) (i : Int) (ss : List (List Int)) (hs : ∀ S ∈ ss,S.length <= 64) (hl : ss.length <= 1000) (j : Nat) (hj : j < ss.length) :
  codeL cfgS 0 lQaX0 ⟨caE st Z m GS i [(82,.own 1 (lls ss)),(83,.int .i64 ss.length),(84,.int .i64 j)],caH n0 F0 l a n F⟩ = some (.normal,⟨caE st Z m GS i [(82,.own 1 (lls ss)),(83,.int .i64 ss.length),(84,.int .i64 ((j + 1 : Nat) : Int))],caH n0 F0 l a n F⟩) := by
 have hS := hs _ (List.getElem_mem hj);obtain ⟨g1,g2⟩ := lls_at hj;have lg := lls_length ss;have h1 : (j : Int) < ss.length := by omega
 have hw := wrapS (i := j) (by omega);generalize ss[j] = S at *;obtain ⟨b1,i1,i2⟩ := hC.is S hS;obtain ⟨b2,m1,m2⟩ := hC.mx S hS;obtain ⟨L,e,lL,x1,x2⟩ := hC.ex S hS;obtain ⟨c1,L2,b3,e2,lL2,hc,n1,n2⟩ := hC.nx S hS;have k1 := cmp_self L lL
 have k2 : callL cfgS nQr [c1,.list 1 (ints L2)] [] = some (.int .i64 0,[]) := by
  rcases hc with rfl | ⟨rfl,rfl⟩
  ·exact cmp_self L2 lL2
  ·exact cmp_nils
 have pS := plL_ints S;have pL := plL_ints L;have pL2 := plL_ints L2;unfold gA at *;clear hC hs;rcases hc with rfl | ⟨rfl,rfl⟩
 ·unfold caE caH dk;generalize ints S = S1 at *;generalize ints L = L1 at *;generalize ints L2 = L3 at *;generalize lls ss = SS at *;generalize lls Z = Z1 at *;generalize ints st = T1 at *;generalize eds F = Y at *;generalize eds F0 = Y0 at *;generalize ints l = D1 at *;unfold lQaX0;simp [rQaX0,rQaX1,rQaX2,rQaX3,rQaX4,rQaX5,rQaX6,rQaX7,rQaX8,rQaX9,rQaX10,rQaX11,rQaX12,rQaX13,rQaX14,rQaX15,rQaX16,rQaX17,rQaX18,rQaX19,rQaX20,rQaX21,rQaX22,rQaX23,rQaX24,rQaX25,rQaX26,rQaX27,rQaX28,rQaX29,rQaX30,h1,hj,hw,lg,g1,g2,i1,i2,m1,m2,x1,x2,n1,n2,k1,k2,pS,pL,pL2,idx,blk,plL,pl,cleanL,clean,sQn,iQn,vQn,lQn,sQo,iQo,vQo,lQo,sQp,iQp,vQp,lQp,sQq,iQq,vQq,lQq,sQj,iQj,vQj,lQj,sQk,iQk,vQk,lQk,sQl,iQl,vQl,lQl,sQm,iQm,vQm,lQm,sQr,iQr,vQr,lQr]
 ·rw [ints_nil] at *;unfold caE caH dk;generalize ints S = S1 at *;generalize ints L = L1 at *;generalize lls ss = SS at *;generalize lls Z = Z1 at *;generalize ints st = T1 at *;generalize eds F = Y at *;generalize eds F0 = Y0 at *;generalize ints l = D1 at *;unfold lQaX0;simp [rQaX0,rQaX1,rQaX2,rQaX3,rQaX4,rQaX5,rQaX6,rQaX7,rQaX8,rQaX9,rQaX10,rQaX11,rQaX12,rQaX13,rQaX14,rQaX15,rQaX16,rQaX17,rQaX18,rQaX19,rQaX20,rQaX21,rQaX22,rQaX23,rQaX24,rQaX25,rQaX26,rQaX27,rQaX28,rQaX29,rQaX30,h1,hj,hw,lg,g1,g2,i1,i2,m1,m2,x1,x2,n1,n2,k1,k2,pS,pL,idx,blk,plL,pl,cleanL,clean,sQn,iQn,vQn,lQn,sQo,iQo,vQo,lQo,sQp,iQp,vQp,lQp,sQq,iQq,vQq,lQq,sQj,iQj,vQj,lQj,sQk,iQk,vQk,lQk,sQl,iQl,vQl,lQl,sQm,iQm,vQm,lQm,sQr,iQr,vQr,lQr]
/- The law's body for one graph. -/
theorem ca_sets (n0 : Int) (F0 : List Ed) (l : List Int) (a : Nat) (n : Int) (F : List Ed) (hC : CAg n F) (st : List Int) (Z : List (List Int)) (m : Int) (GS : List AV) (i : Int) (ss : List (List Int)) (hs : ∀ S ∈ ss,S.length <= 64) (hl : ss.length <= 1000) : ∀ k j : Nat,j + k = ss.length ->
  codeL cfgS 0 (.loop lQaX0) ⟨caE st Z m GS i [(82,.own 1 (lls ss)),(83,.int .i64 ss.length),(84,.int .i64 j)],caH n0 F0 l a n F⟩ = some (.exit 2,⟨caE st Z m GS i [(82,.own 1 (lls ss)),(83,.int .i64 ss.length),(84,.int .i64 ss.length),(85,.bool false)],caH n0 F0 l a n F⟩)
 | 0,j,hj => by
   obtain rfl : j = ss.length := by omega
   refine loop_exit ?_;unfold caE caH dk;generalize lls ss = SS at *;generalize lls Z = Z1 at *;generalize ints st = T1 at *;generalize eds F = Y at *;generalize eds F0 = Y0 at *;generalize ints l = D1 at *;unfold lQaX0;simp [rQaX0,rQaX1,rQaX2,rQaX3,rQaX4,rQaX5,rQaX6,rQaX7,rQaX8,rQaX9,rQaX10,rQaX11,rQaX12,rQaX13,rQaX14,rQaX15,rQaX16,rQaX17,rQaX18,rQaX19,rQaX20,rQaX21,rQaX22,rQaX23,rQaX24,rQaX25,rQaX26,rQaX27,rQaX28,rQaX29,rQaX30,blk]
 | k + 1,j,hj => (loop_next (ca_set n0 F0 l a n F hC st Z m GS i ss hs hl j (by omega))).trans (ca_sets n0 F0 l a n F hC st Z m GS i ss hs hl k (j + 1) (by omega))
theorem ca_one (n0 : Int) (F0 : List Ed) (l : List Int) (a : Nat) (n : Int) (F : List Ed) (hC : CAg n F) (st : List Int) (Z : List (List Int)) (m : Int) (GS : List AV) (i : Int) (ms : List Int) (hl : ms.length <= 1000) (j : Nat) (hj : j < ms.length) :
  codeL cfgS 0 lQaX1 ⟨caE st Z m GS i [(161,.own 1 (ints ms)),(162,.int .i64 ms.length),(163,.int .i64 j)],caH n0 F0 l a n F⟩ = some (.normal,⟨caE st Z m GS i [(161,.own 1 (ints ms)),(162,.int .i64 ms.length),(163,.int .i64 ((j + 1 : Nat) : Int))],caH n0 F0 l a n F⟩) := by
 have g1 : ∀ h,(ints ms)[j]'h = .int .i64 ms[j] := fun h => intsAt _ _ _;have lg := ints_length ms;have h1 : (j : Int) < ms.length := by omega
 have hw := wrapS (i := j) (by omega);obtain ⟨L,e,⟨lL,bL⟩,x1,x2⟩ := hC.al ms[j];have sm := same24_run L L lL bL bL;rw [decide_eq_true rfl] at sm
 have pL : plL (lls L) = true := plL_of fun y hy => by
  obtain ⟨S,_,rfl⟩ := List.mem_map.1 hy;rfl
 have cL : cleanL (lls L) = true \/ True := .inr trivial;generalize ms[j] = x at *;unfold gA at *;unfold caE caH dk;generalize lls L = L1 at *;generalize ints ms = M1 at *;generalize lls Z = Z1 at *;generalize ints st = T1 at *;generalize eds F = Y at *;generalize eds F0 = Y0 at *;generalize ints l = D1 at *;clear hC bL lL cL;unfold lQaX1;simp [rQaX0,rQaX1,rQaX2,rQaX3,rQaX4,rQaX5,rQaX6,rQaX7,rQaX8,rQaX9,rQaX10,rQaX11,rQaX12,rQaX13,rQaX14,rQaX15,rQaX16,rQaX17,rQaX18,rQaX19,rQaX20,rQaX21,rQaX22,rQaX23,rQaX24,rQaX25,rQaX26,rQaX27,rQaX28,rQaX29,rQaX30,h1,hj,hw,lg,g1,x1,x2,sm,pL,idx,blk,plL,pl,sQs,iQs,vQs,lQs,sQt,iQt,vQt,lQt,sQu,iQu,vQu,lQu]
theorem ca_alls (n0 : Int) (F0 : List Ed) (l : List Int) (a : Nat) (n : Int) (F : List Ed) (hC : CAg n F) (st : List Int) (Z : List (List Int)) (m : Int) (GS : List AV) (i : Int) (ms : List Int) (hl : ms.length <= 1000) : ∀ k j : Nat,j + k = ms.length ->
  codeL cfgS 0 (.loop lQaX1) ⟨caE st Z m GS i [(161,.own 1 (ints ms)),(162,.int .i64 ms.length),(163,.int .i64 j)],caH n0 F0 l a n F⟩ = some (.exit 4,⟨caE st Z m GS i [(161,.own 1 (ints ms)),(162,.int .i64 ms.length),(163,.int .i64 ms.length),(164,.bool false)],caH n0 F0 l a n F⟩)
 | 0,j,hj => by
   obtain rfl : j = ms.length := by omega
   refine loop_exit ?_;unfold caE caH dk;generalize ints ms = M1 at *;generalize lls Z = Z1 at *;generalize ints st = T1 at *;generalize eds F = Y at *;generalize eds F0 = Y0 at *;generalize ints l = D1 at *;unfold lQaX1;simp [rQaX0,rQaX1,rQaX2,rQaX3,rQaX4,rQaX5,rQaX6,rQaX7,rQaX8,rQaX9,rQaX10,rQaX11,rQaX12,rQaX13,rQaX14,rQaX15,rQaX16,rQaX17,rQaX18,rQaX19,rQaX20,rQaX21,rQaX22,rQaX23,rQaX24,rQaX25,rQaX26,rQaX27,rQaX28,rQaX29,rQaX30,blk]
 | k + 1,j,hj => (loop_next (ca_one n0 F0 l a n F hC st Z m GS i ms hl j (by omega))).trans (ca_alls n0 F0 l a n F hC st Z m GS i ms hl k (j + 1) (by omega))
def caO (st : List Int) (Z : List (List Int)) (m : Int) (GS : List AV) (i : Int) (J : Env) : Env := (1,.list 1 (ints st)) :: (3,.list 1 (lls Z)) :: (4,.int .i64 m) :: (11,.ptr 1 0) :: (61,.own 2 GS) :: (62,.int .i64 3) :: (63,.int .i64 i) :: J
def caB (n0 : Int) (F0 : List Ed) (l : List Int) (a : Nat) : Heap := [some [.int .i64 n0,.list 2 (eds F0)],dk l a]
theorem ca_graph (n0 : Int) (F0 : List Ed) (l : List Int) (hl : l.length <= 500) (a : Nat) (n : Int) (F : List Ed) (hC : n <= 70 -> F.length <= 40 -> CAg n F) (st : List Int) (hst : st.length <= 20) (Z : List (List Int)) (hZ : Z.length <= 40) (bZ : ∀ S ∈ Z,S.length <= 9223372036854775807) (m : Int) (GS : List AV) (i : Nat) (hi : i < 3) (lG : GS.length = 3) (g : GS[i]? = some (gA n F)) :
  ∃ a',codeL cfgS 0 lQaX2 ⟨caO st Z m GS i [],caB n0 F0 l a⟩ = some (.normal,⟨caO st Z m GS ((i + 1 : Nat) : Int) [],caB n0 F0 l a'⟩) := by
 have lt := light_run n F 70 (by omega);have i3 : (i : Int) < 3 := by omega
 have hw := wrapS (i := i) (by omega);have g' : ∀ h : i < GS.length,GS[i] = gA n F := fun h => by rw [List.getElem?_eq_getElem h] at g; exact Option.some.inj g
 have lF := eds_length F;have iG : i < GS.length := by omega
 by_cases k1 : n <= 70
 case neg =>
  refine ⟨a,?_⟩;rw [decide_eq_false k1,Bool.false_and] at lt;unfold gA at *;unfold caO caB dk;generalize lls Z = Z1 at *;generalize ints st = T1 at *;generalize eds F = Y at *;generalize eds F0 = Y0 at *;generalize ints l = D1 at *;clear hC;unfold lQaX2;simp [rQaX0,rQaX1,rQaX2,rQaX3,rQaX4,rQaX5,rQaX6,rQaX7,rQaX8,rQaX9,rQaX10,rQaX11,rQaX12,rQaX13,rQaX14,rQaX15,rQaX16,rQaX17,rQaX18,rQaX19,rQaX20,rQaX21,rQaX22,rQaX23,rQaX24,rQaX25,rQaX26,rQaX27,rQaX28,rQaX29,rQaX30,i3,hi,hw,iG,lG,g,g',lt,lF,idx,blk,plL,pl,sQc,iQc,vQc,lQc]
 by_cases k2 : F.length <= 40
 case neg =>
  refine ⟨a,?_⟩;have k3 : (40 : Int) < F.length := by omega
  have k4 : 40 < F.length := by omega
  generalize (decide (n <= 70) && decide ((F.length : Int) <= 70 * 70)) = t at *;unfold gA at *;unfold caO caB dk;generalize lls Z = Z1 at *;generalize ints st = T1 at *;generalize eds F = Y at *;generalize eds F0 = Y0 at *;generalize ints l = D1 at *;clear hC;unfold lQaX2;cases t
  ·simp [rQaX0,rQaX1,rQaX2,rQaX3,rQaX4,rQaX5,rQaX6,rQaX7,rQaX8,rQaX9,rQaX10,rQaX11,rQaX12,rQaX13,rQaX14,rQaX15,rQaX16,rQaX17,rQaX18,rQaX19,rQaX20,rQaX21,rQaX22,rQaX23,rQaX24,rQaX25,rQaX26,rQaX27,rQaX28,rQaX29,rQaX30,i3,hi,hw,iG,lG,g,g',lt,lF,idx,blk,plL,pl,sQc,iQc,vQc,lQc]
  ·simp [rQaX0,rQaX1,rQaX2,rQaX3,rQaX4,rQaX5,rQaX6,rQaX7,rQaX8,rQaX9,rQaX10,rQaX11,rQaX12,rQaX13,rQaX14,rQaX15,rQaX16,rQaX17,rQaX18,rQaX19,rQaX20,rQaX21,rQaX22,rQaX23,rQaX24,rQaX25,rQaX26,rQaX27,rQaX28,rQaX29,rQaX30,i3,hi,hw,iG,lG,g,g',lt,lF,k3,k4,idx,blk,plL,pl,sQc,iQc,vQc,lQc]
 have hC := hC k1 k2;have k3 : ¬ (40 : Int) < F.length := by omega
 have k4 : ¬ 40 < F.length := by omega
 rw [decide_eq_true k1,Bool.true_and,decide_eq_true (show (F.length : Int) <= 70 * 70 by omega)] at lt;obtain ⟨o,a1,n1,lo,_,_⟩ := set_run l hl 8 (by omega) [] ⟨fun _ => rfl,rfl,fun _ _ => rfl,fun _ => rfl,fun _ _ => rfl⟩ a;have n2 := next_run l hl a1 8 (by omega) [] ⟨fun _ => rfl,rfl,fun _ _ => rfl,fun _ => rfl,fun _ _ => rfl⟩;generalize nxA l a1 8 = a2 at *;generalize nxV l a1 8 = d at *;have n3 := next_run l hl a2 9 (by omega) [] ⟨fun _ => rfl,rfl,fun _ _ => rfl,fun _ => rfl,fun _ _ => rfl⟩;generalize nxA l a2 9 = a3 at *;generalize nxV l a2 9 = d2 at *
 have l1 := ca_sets n0 F0 l a2 n F hC st Z m GS i [st,o,[d],[]] (by
  intro S hS;simp only [List.mem_cons,List.not_mem_nil,or_false] at hS;rcases hS with rfl | rfl | rfl | rfl
  ·omega
  ·omega
  ·simp
  ·simp) (by simp) 4 0 rfl
 have l2 := ca_alls n0 F0 l a3 n F hC st Z m GS i [m,d2,4096] (by simp) 3 0 rfl;obtain ⟨b,c1,c2⟩ := hC.ck Z (by omega) bZ;refine ⟨a3,?_⟩;rw [show lls [st,o,[d],[]] = [.list 1 (ints st),.list 1 (ints o),.list 1 [.int .i64 d],.list 1 []] from rfl,show (([st,o,[d],[]] : List (List Int)).length : Int) = 4 from rfl,nat0] at l1;rw [show ints [m,d2,4096] = [.int .i64 m,.int .i64 d2,.int .i64 4096] from rfl,show (([m,d2,4096] : List Int).length : Int) = 3 from rfl,nat0] at l2;rw [show ((8 : Nat) : Int) = 8 from rfl] at n1;have pT := plL_ints st;have pO := plL_ints o;unfold gA at *;unfold caE caH at l1 l2;unfold caO caB;unfold dk at *;generalize lls Z = Z1 at *;generalize ints st = T1 at *;generalize ints o = O1 at *;generalize eds F = Y at *;generalize eds F0 = Y0 at *;generalize ints l = D1 at *;clear hC bZ;unfold lQaX2;simp [rQaX0,rQaX1,rQaX2,rQaX3,rQaX4,rQaX5,rQaX6,rQaX7,rQaX8,rQaX9,rQaX10,rQaX11,rQaX12,rQaX13,rQaX14,rQaX15,rQaX16,rQaX17,rQaX18,rQaX19,rQaX20,rQaX21,rQaX22,rQaX23,rQaX24,rQaX25,rQaX26,rQaX27,rQaX28,rQaX29,rQaX30,i3,hi,hw,iG,lG,g,g',lt,lF,k3,k4,n1,n2,n3,l1,l2,c1,c2,pT,pO,idx,blk,plL,pl,sQc,iQc,vQc,lQc,sQh,iQh,vQh,lQh,sQi,iQi,vQi,lQi,sQv,iQv,vQv,lQv,sQw,iQw,vQw,lQw]
end Go.BmP
