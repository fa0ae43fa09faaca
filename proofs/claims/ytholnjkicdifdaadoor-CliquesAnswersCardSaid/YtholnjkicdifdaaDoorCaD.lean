/- What ref24.All, Next, Same, Check and Extend return of any graph that is in order. -/
import Derived.Test.YtholnjkicdifdaaDoorUseM
import Derived.Test.YtholnjkicdifdaaDoorCaA
import Derived.Test.YtholnjkicdifdaaDoorCaP
import Derived.Test.YtholnjkicdifdaaDoorE02
import Derived.Test.YtholnjkicdifdaaDoorL54
import Derived.Test.YtholnjkicdifdaaDoorK07
set_option linter.unusedSimpArgs false
set_option linter.unusedVariables false
set_option maxRecDepth 100000
set_option maxHeartbeats 8000000
namespace Go.BmP
open Go.Am Go.Bm
theorem lls_eq (o : List (List Int)) : llsG o = lls o := rfl
theorem all24g_run {N : Nat} {Es : List Ed} (h : GOK (N : Int) Es) (hE : Es.length < 4294967295) (most : Int) : callL cfgS nQt [.agg [.int .i64 N,.list 2 (eds Es)],.int .i64 most] [] = some (allK N Es most,[]) := by
 have c1 := rchk_run (N : Int) Es (by omega);rw [chkG_zero.2 h] at c1;rw [callL_end oQt sQt (Nat.le_of_ble_eq_true rfl)];by_cases k1 : most < 0
 ·have e : allK N Es most = AV.tup [.list 1 [],.int .i64 1] := if_pos (.inl k1);rw [e];unfold qQt cQt;simp [rQtX0,rQtX1,rQtX2,rQtX3,rQtX4,rQtX5,rQtX6,rQtX7,rQtX8,rQtX9,c1,k1,sQF,iQF,vQF,lQF,cleanL_eds,cleanL_ints,blk,eds_length,eds_get,edsAt,edAV,allLeaf_eds,cleanL_eds,cleanL_ints,ints_length,ints_get,intsAt,endL,finB]
 by_cases k2 : 4096 < most
 ·have e : allK N Es most = AV.tup [.list 1 [],.int .i64 1] := if_pos (.inr k2);rw [e];unfold qQt cQt;simp [rQtX0,rQtX1,rQtX2,rQtX3,rQtX4,rQtX5,rQtX6,rQtX7,rQtX8,rQtX9,c1,k1,k2,sQF,iQF,vQF,lQF,cleanL_eds,cleanL_ints,blk,eds_length,eds_get,edsAt,edAV,allLeaf_eds,cleanL_eds,cleanL_ints,ints_length,ints_get,intsAt,endL,finB]
 obtain ⟨M,rfl⟩ : ∃ M : Nat,most = (M : Int) := ⟨most.toNat,by omega⟩;have c := list24g_run h hE M (by omega);rw [grw_mcl h,lls_eq] at c;have lm := lls_length ((mcl N Es).take (M + 1));rw [List.length_take] at lm;have k2' : ¬ 4096 < M := by omega
 by_cases k3 : (mcl N Es).length <= M
 ·have e : allK N Es (M : Int) = AV.tup [.list 1 (lls (mcl N Es)),.int .i64 0] := by
   unfold allK;rw [if_neg (by omega),if_pos (by omega)]
  rw [e];rw [List.take_of_length_le (by omega)] at c lm;have k4 : ¬ (M : Int) < (lls (mcl N Es)).length := by omega
  have k5 : ¬ M < (lls (mcl N Es)).length := by omega
  generalize lls (mcl N Es) = Y at *;unfold qQt cQt;simp [rQtX0,rQtX1,rQtX2,rQtX3,rQtX4,rQtX5,rQtX6,rQtX7,rQtX8,rQtX9,c1,k1,k2,k2',c,k4,k5,sQF,iQF,vQF,lQF,sQK,iQK,vQK,lQK,cleanL_eds,cleanL_ints,blk,eds_length,eds_get,edsAt,edAV,allLeaf_eds,cleanL_eds,cleanL_ints,ints_length,ints_get,intsAt,endL,finB]
 ·have e : allK N Es (M : Int) = AV.tup [.list 1 [],.int .i64 3] := by
   unfold allK;rw [if_neg (by omega),if_neg (by omega)]
  rw [e];have k4 : (M : Int) < (lls ((mcl N Es).take (M + 1))).length := by omega
  have k5 : M < (lls ((mcl N Es).take (M + 1))).length := by omega
  generalize lls ((mcl N Es).take (M + 1)) = Y at *;unfold qQt cQt;simp [rQtX0,rQtX1,rQtX2,rQtX3,rQtX4,rQtX5,rQtX6,rQtX7,rQtX8,rQtX9,c1,k1,k2,k2',c,k4,k5,sQF,iQF,vQF,lQF,sQK,iQK,vQK,lQK,cleanL_eds,cleanL_ints,blk,eds_length,eds_get,edsAt,edAV,allLeaf_eds,cleanL_eds,cleanL_ints,ints_length,ints_get,intsAt,endL,finB]
def nxtR : List (List Int) -> AV
 | [] => .tup [.list 1 [],.bool false,.int .i64 0]
 | S :: _ => .tup [.list 1 (ints S),.bool true,.int .i64 0]
theorem cmpL_tri (a b : List Int) : cmpL a b = -1 \/ cmpL a b = 0 \/ cmpL a b = 1 := by
 induction a generalizing b with
 | nil => cases b <;> simp [cmpL]
 | cons x r ih =>
   cases b with
   | nil => simp [cmpL]
   | cons y s =>
     unfold cmpL;split
     ·simp
     ·split
      ·simp
      ·exact ih s
theorem nx24_loop (L : List (List Int)) (after : List Int) (ha : after.length <= 9223372036854775807) (hL : L.length < 1100000) (hb : ∀ S ∈ L,S.length <= 64) (N : Int) (Y : List AV) : ∀ k i : Nat,i + k = L.length -> codeL cfgS 0 (.loop lQmX0) ⟨[(1,.list 1 (ints after)),(8,.list 1 (lls L)),(9,.int .i64 i)],[]⟩ =
  match (L.drop i).filter (fun S => decide (cmpL S after = 1)) with
  | [] => some (.exit 0,⟨[(1,.list 1 (ints after)),(8,.list 1 (lls L)),(9,.int .i64 L.length),(20,.bool false)],[]⟩)
  | S :: _ => some (.ret,⟨[(4,.list 1 (ints S)),(5,.bool true),(6,.int .i64 0)],[]⟩)
 | 0,i,hi => by
   obtain rfl : i = L.length := by omega
   have lg := lls_length L;rw [List.drop_length];simp only [List.filter_nil];refine loop_exit ?_;unfold lQmX0;generalize lls L = Z at *;generalize ints after = A1 at *;simp [rQmX0,rQmX1,rQmX2,rQmX3,rQmX4,rQmX5,rQmX6,rQmX7,rQmX8,rQmX9,rQmX10,lg,blk,eds_length,eds_get,edsAt,edAV,allLeaf_eds,cleanL_eds,cleanL_ints,ints_length,ints_get,intsAt,endL,finB]
 | k + 1,i,hi => by
   have hlt : i < L.length := by omega
   have h1 : (i : Int) < L.length := by omega
   have hw := wrapS (i := i) (by omega);have ih := nx24_loop L after ha hL hb N Y k (i + 1) (by omega);have lg := lls_length L;have g1 := lls_get L i;rw [List.getElem?_eq_getElem hlt,Option.map_some] at g1;have g1' : ∀ h : i < (lls L).length,(lls L)[i] = .list 1 (ints L[i]) := fun h => by rw [List.getElem?_eq_getElem h] at g1; exact Option.some.inj g1
   have cm := cmp_run L[i] after (by have := hb _ (List.getElem_mem hlt); omega) ha;rw [List.drop_eq_getElem_cons hlt,List.filter_cons];generalize L[i] = S at *;by_cases q : cmpL S after = 1
   ·rw [q] at cm;rw [if_pos (by simp [q])];refine loop_ret ?_;unfold lQmX0;generalize lls L = Z at *;generalize ints after = A1 at *;generalize ints S = S1 at *;simp [rQmX0,rQmX1,rQmX2,rQmX3,rQmX4,rQmX5,rQmX6,rQmX7,rQmX8,rQmX9,rQmX10,h1,hlt,hw,lg,g1,g1',cm,idx,sQr,iQr,vQr,lQr,blk,eds_length,eds_get,edsAt,edAV,allLeaf_eds,cleanL_eds,cleanL_ints,ints_length,ints_get,intsAt,endL,finB]
   ·have q2 : ¬ (0 : Int) < cmpL S after := by have := cmpL_tri S after; omega
    rw [if_neg (by simp [q])];refine (loop_next ?_).trans ih;unfold lQmX0;generalize lls L = Z at *;generalize ints after = A1 at *;generalize ints S = S1 at *;generalize cmpL S after = c at *;simp [rQmX0,rQmX1,rQmX2,rQmX3,rQmX4,rQmX5,rQmX6,rQmX7,rQmX8,rQmX9,rQmX10,h1,hlt,hw,lg,g1,g1',cm,q2,idx,sQr,iQr,vQr,lQr,blk,eds_length,eds_get,edsAt,edAV,allLeaf_eds,cleanL_eds,cleanL_ints,ints_length,ints_get,intsAt,endL,finB]
theorem mcl_64 {N : Nat} {Es : List Ed} (h : GOK (N : Int) Es) : ∀ S ∈ mcl N Es,S.length <= 64 := fun S hS => by
 have hM := ((mcl_mem h).1 hS).1;exact up_len hM.up (isC_bd h hM)
theorem next24_run {N : Nat} {Es : List Ed} (h : GOK (N : Int) Es) (hE : Es.length < 4294967295) (hf : (mcl N Es).length <= 1000000) (after : List Int) (ha : after.length <= 9223372036854775807) : callL cfgS nQm [.agg [.int .i64 N,.list 2 (eds Es)],.list 1 (ints after)] [] = some (nxtR (behK N Es after),[]) := by
 have c1 := rchk_run (N : Int) Es (by omega);rw [chkG_zero.2 h] at c1;have c := list24g_run h hE 1048576 (by omega);rw [grw_mcl h,lls_eq,List.take_of_length_le (by omega)] at c;have lp := nx24_loop (mcl N Es) after ha (by omega) (mcl_64 h) N (eds Es) (mcl N Es).length 0 (by omega);rw [List.drop_zero,nat0] at lp;rw [show ((1048576 : Nat) : Int) = 1048576 from rfl] at c;unfold behK;rw [callL_end oQm sQm (Nat.le_of_ble_eq_true rfl)];have lg := lls_length (mcl N Es);cases e : (mcl N Es).filter (fun S => decide (cmpL S after = 1)) with
 | nil =>
   rw [e] at lp;simp only at lp;simp only [nxtR];generalize lls (mcl N Es) = Z at *;generalize ints after = A1 at *;generalize eds Es = Y at *;unfold qQm cQm;simp [rQmX0,rQmX1,rQmX2,rQmX3,rQmX4,rQmX5,rQmX6,rQmX7,rQmX8,rQmX9,rQmX10,c1,c,lp,blk,endL,finB,sQF,iQF,vQF,lQF,sQK,iQK,vQK,lQK,plL,pl]
 | cons S r =>
   rw [e] at lp;simp only at lp;simp only [nxtR];generalize lls (mcl N Es) = Z at *;generalize ints after = A1 at *;generalize ints S = S1 at *;generalize eds Es = Y at *;unfold qQm cQm;simp [rQmX0,rQmX1,rQmX2,rQmX3,rQmX4,rQmX5,rQmX6,rQmX7,rQmX8,rQmX9,rQmX10,c1,c,lp,blk,endL,finB,sQF,iQF,vQF,lQF,sQK,iQK,vQK,lQK,plL,pl]
theorem sm_loop (a b : List (List Int)) (hl : a.length = b.length) (ha : a.length < 1100000) (hA : ∀ S ∈ a,S.length <= 9223372036854775807) (hB : ∀ S ∈ b,S.length <= 9223372036854775807) : ∀ k i : Nat,i + k = a.length -> codeL cfgS 0 (.loop lQuX0) ⟨[(0,.list 1 (lls a)),(1,.list 1 (lls b)),(5,.int .i64 i)],[]⟩ =
  if a.drop i = b.drop i then some (.exit 0,⟨[(0,.list 1 (lls a)),(1,.list 1 (lls b)),(5,.int .i64 a.length),(14,.bool false)],[]⟩) else some (.ret,⟨[(4,.bool false)],[]⟩)
 | 0,i,hi => by
   obtain rfl : i = a.length := by omega
   have lg := lls_length a;rw [List.drop_length,hl,List.drop_length,if_pos rfl];refine loop_exit ?_;rw [<- hl];unfold lQuX0;generalize lls a = Z at *;generalize lls b = W at *;simp [rQuX0,rQuX1,rQuX2,rQuX3,rQuX4,rQuX5,rQuX6,rQuX7,rQuX8,lg,blk,eds_length,eds_get,edsAt,edAV,allLeaf_eds,cleanL_eds,cleanL_ints,ints_length,ints_get,intsAt,endL,finB]
 | k + 1,i,hi => by
   have hlt : i < a.length := by omega
   have hltb : i < b.length := by omega
   have h1 : (i : Int) < a.length := by omega
   have h2 : (i : Int) < b.length := by omega
   have hw := wrapS (i := i) (by omega);have ih := sm_loop a b hl ha hA hB k (i + 1) (by omega);have lg := lls_length a;have lgb := lls_length b;have g1 := lls_get a i;rw [List.getElem?_eq_getElem hlt,Option.map_some] at g1;have g1' : ∀ h : i < (lls a).length,(lls a)[i] = .list 1 (ints a[i]) := fun h => by rw [List.getElem?_eq_getElem h] at g1; exact Option.some.inj g1
   have g2 := lls_get b i;rw [List.getElem?_eq_getElem hltb,Option.map_some] at g2;have g2' : ∀ h : i < (lls b).length,(lls b)[i] = .list 1 (ints b[i]) := fun h => by rw [List.getElem?_eq_getElem h] at g2; exact Option.some.inj g2
   have cm := cmp_run a[i] b[i] (hA _ (List.getElem_mem hlt)) (hB _ (List.getElem_mem hltb));rw [List.drop_eq_getElem_cons hlt,List.drop_eq_getElem_cons hltb];simp only [List.cons.injEq];by_cases q : a[i] = b[i]
   ·have z : cmpL a[i] b[i] = 0 := cmpL_zero.2 q;rw [z] at cm;have e : (a[i] = b[i] /\ a.drop (i + 1) = b.drop (i + 1)) = (a.drop (i + 1) = b.drop (i + 1)) := by simp [q]
    simp only [e];rw [<- ih];refine loop_next ?_;generalize a[i] = S at *;generalize b[i] = T at *;unfold lQuX0;generalize lls a = Z at *;generalize lls b = W at *;generalize ints S = S1 at *;generalize ints T = T1 at *;simp [rQuX0,rQuX1,rQuX2,rQuX3,rQuX4,rQuX5,rQuX6,rQuX7,rQuX8,h1,h2,hlt,hltb,hw,lg,lgb,g1,g1',g2,g2',cm,idx,sQr,iQr,vQr,lQr,blk,eds_length,eds_get,edsAt,edAV,allLeaf_eds,cleanL_eds,cleanL_ints,ints_length,ints_get,intsAt,endL,finB]
   ·have z : ¬ cmpL a[i] b[i] = 0 := fun k => q (cmpL_zero.1 k);rw [if_neg (by simp [q])];refine loop_ret ?_;clear q;generalize cmpL a[i] b[i] = c at *;generalize a[i] = S at *;generalize b[i] = T at *;unfold lQuX0;generalize lls a = Z at *;generalize lls b = W at *;generalize ints S = S1 at *;generalize ints T = T1 at *;simp [rQuX0,rQuX1,rQuX2,rQuX3,rQuX4,rQuX5,rQuX6,rQuX7,rQuX8,h1,h2,hlt,hltb,hw,lg,lgb,g1,g1',g2,g2',cm,z,idx,sQr,iQr,vQr,lQr,blk,eds_length,eds_get,edsAt,edAV,allLeaf_eds,cleanL_eds,cleanL_ints,ints_length,ints_get,intsAt,endL,finB]
theorem same24_run (a b : List (List Int)) (ha : a.length < 1100000) (hA : ∀ S ∈ a,S.length <= 9223372036854775807) (hB : ∀ S ∈ b,S.length <= 9223372036854775807) : callL cfgS nQu [.list 1 (lls a),.list 1 (lls b)] [] = some (.bool (decide (a = b)),[]) := by
 rw [callL_end oQu sQu (Nat.le_of_ble_eq_true rfl)];have lg := lls_length a;have lgb := lls_length b;by_cases q : a.length = b.length
 ·have lp := sm_loop a b q ha hA hB a.length 0 (by omega);rw [List.drop_zero,List.drop_zero,nat0] at lp;have n1 : (a.length : Int) = b.length := by omega
  by_cases e : a = b
  ·rw [if_pos e] at lp;rw [decide_eq_true e];clear e;generalize lls a = Z at *;generalize lls b = W at *;unfold qQu cQu;simp [rQuX0,rQuX1,rQuX2,rQuX3,rQuX4,rQuX5,rQuX6,rQuX7,rQuX8,lp,lg,lgb,q,n1,blk,eds_length,eds_get,edsAt,edAV,allLeaf_eds,cleanL_eds,cleanL_ints,ints_length,ints_get,intsAt,endL,finB]
  ·rw [if_neg e] at lp;rw [decide_eq_false e];clear e;generalize lls a = Z at *;generalize lls b = W at *;unfold qQu cQu;simp [rQuX0,rQuX1,rQuX2,rQuX3,rQuX4,rQuX5,rQuX6,rQuX7,rQuX8,lp,lg,lgb,q,n1,blk,eds_length,eds_get,edsAt,edAV,allLeaf_eds,cleanL_eds,cleanL_ints,ints_length,ints_get,intsAt,endL,finB]
 ·have e : a ≠ b := fun k => q (by rw [k]);have n1 : ¬ (a.length : Int) = b.length := by omega
  rw [decide_eq_false e];clear e;generalize lls a = Z at *;generalize lls b = W at *;unfold qQu cQu;simp [rQuX0,rQuX1,rQuX2,rQuX3,rQuX4,rQuX5,rQuX6,rQuX7,rQuX8,lg,lgb,q,n1,blk,eds_length,eds_get,edsAt,edAV,allLeaf_eds,cleanL_eds,cleanL_ints,ints_length,ints_get,intsAt,endL,finB]
theorem check24_run {N : Nat} {Es : List Ed} (h : GOK (N : Int) Es) (hE : Es.length < 4294967295) (o : List (List Int)) (ho : o.length <= 1000000) (hO : ∀ S ∈ o,S.length <= 9223372036854775807) : callL cfgS nQw [.agg [.int .i64 N,.list 2 (eds Es)],.list 1 (lls o)] [] = some (.bool (decide (mcl N Es = o)),[]) := by
 have c1 := rchk_run (N : Int) Es (by omega);rw [chkG_zero.2 h] at c1;have c := list24g_run h hE o.length (by omega);rw [grw_mcl h,lls_eq] at c;have s := same24_run o ((mcl N Es).take (o.length + 1)) (by omega) hO fun S hS => by have := mcl_64 h S (List.mem_of_mem_take hS); omega
 have e : decide (o = (mcl N Es).take (o.length + 1)) = decide (mcl N Es = o) := by
  apply decide_eq_decide.2;constructor
  ·intro k;have l := congrArg List.length k;rw [List.length_take] at l;rw [List.take_of_length_le (by omega)] at k;exact k.symm
  ·intro k;rw [k,List.take_of_length_le (by omega)]
 rw [e] at s;have lg := lls_length o;rw [callL_end oQw sQw (Nat.le_of_ble_eq_true rfl)];generalize decide (mcl N Es = o) = r at *;generalize lls ((mcl N Es).take (o.length + 1)) = Z at *;generalize lls o = W at *;generalize eds Es = Y at *;unfold qQw cQw;simp [rQwX0,rQwX1,c1,c,s,lg,blk,endL,finB,sQF,iQF,vQF,lQF,sQK,iQK,vQK,lQK,sQu,iQu,vQu,lQu,plL,pl]
/- Extending a clique: the program and the reference; both on graphs that are not in order. -/
def exS (Es : List Ed) (o : List Int) (v : Nat) : List Int := if fitB Es o (v : Int) = true then o ++ [(v : Int)] else o
def exR (N : Nat) (Es : List Ed) (v : Nat) (o : List Int) : List Int := (List.range' v (N - v)).foldl (exS Es) o
section
variable {N : Nat} {E : List Ed} (h : GOK (N : Int) E)
include h
theorem exR_eq : ∀ (n v : Nat) (P : List Int),v + n = N -> IsQ N E P -> (∀ x ∈ bitL (cn N E P),(v : Int) <= x) -> (List.range' v n).foldl (exS E) P = P ++ grd N E P
 | 0,v,P,hv,hP,hk => by
   have z : cn N E P = 0 := by
    apply (bitL_nil (cn_lt h P)).1;apply List.eq_nil_iff_forall_not_mem.2;intro x hx;have b := ((cnL_mem h (fun x hx => (hP.bd x hx).1) x).1 hx).1;have := hk x hx;omega
   rw [grd_zero z,List.append_nil]; rfl
 | n + 1,v,P,hv,hP,hk => by
   have nn : ∀ x ∈ P,0 <= x := fun x hx => (hP.bd x hx).1;rw [List.range'_succ,List.foldl_cons];by_cases f : fitB E P (v : Int) = true
   ·have ee : exS E P v = P ++ [(v : Int)] := by unfold exS; rw [if_pos f]
    rw [ee];have hc : (v : Int) ∈ bitL (cn N E P) := (cnL_mem h nn _).2 ⟨⟨by omega,by omega⟩,(fitB_iff h).1 f⟩;have h0 : cn N E P ≠ 0 := fun z => by rw [z,bitL_zero] at hc; cases hc
    obtain ⟨w,ev,hw,hq,he,hs,hlt⟩ := gr_step h hP h0;have l1 := bitL_len (cn N E P)
    have eg : grd N E P = w :: grd N E (P ++ [w]) := by
     unfold grd
     conv => lhs; unfold gr
     rw [if_neg h0,he,<- ev,gr_fuel h 63 64 (P ++ [w]) hq (by omega) (by omega)]
    have wv : w = (v : Int) := by
     have a := hk w hw;have st := bitL_step h0 (cn_lt h P);have up := bitL_up (cn N E P);rw [st] at hc up;rcases List.mem_cons.1 hc with k | k
     ·rw [ev]; exact k.symm
     ·have := (List.pairwise_cons.1 up).1 _ k;omega
    subst wv;rw [exR_eq n (v + 1) (P ++ [(v : Int)]) (by omega) hq (fun x hx => by have := (hs x hx).2; omega),eg,List.append_assoc]; rfl
   ·have ee : exS E P v = P := by unfold exS; rw [if_neg f]
    rw [ee];refine exR_eq n (v + 1) P (by omega) hP fun x hx => ?_;have a := hk x hx
    have : x ≠ (v : Int) := by
     rintro rfl;exact f ((fitB_iff h).2 ((cnL_mem h nn _).1 hx).2)
    omega
theorem exR_set {S : List Int} (hS : IsC N E S) : setOf (exR N E 0 S) = extK N E S := by
 have e : exR N E 0 S = S ++ grd N E S := by
  unfold exR;exact exR_eq h (N - 0) 0 S (by omega) hS.q fun x hx => ((cnL_mem h (fun x hx => (hS.bd x hx).1) x).1 hx).1.1
 rw [e];obtain ⟨s1,s2⟩ := setOf_spec (S ++ grd N E S);obtain ⟨x1,x2,_⟩ := extK_spec h hS.q;exact up_ext s1 x1 fun x => by rw [s2,x2,List.mem_append]
end
theorem isR_isB {N : Nat} {Es : List Ed} (h : GOK (N : Int) Es) (S : List Int) : isR N Es S = isB N Es S := by
 unfold isR isB;congr 1;rw [Bool.eq_iff_iff,decide_eq_true_eq,decide_eq_true_eq];exact ⟨fun k => k.imp fun q => (nrm_jn h _ _).1 q,fun k => k.imp fun q => (nrm_jn h _ _).2 q⟩
theorem mxR_maxB {N : Nat} {Es : List Ed} (h : GOK (N : Int) Es) (S : List Int) : mxR N Es S = maxB N Es S := by
 rw [Bool.eq_iff_iff,mxR_iff h];unfold maxB IsMax;simp only [Bool.and_eq_true,Bool.not_eq_true',decide_eq_false_iff_not,decide_eq_true_eq,isB_iff];constructor
 ·rintro ⟨a,b,c⟩;refine ⟨b,a,?_⟩;apply (bitL_nil (cn_lt h S)).1;apply List.eq_nil_iff_forall_not_mem.2;intro x hx;obtain ⟨k1,k2⟩ := (cnL_mem h (fun x hx => (a.bd x hx).1) x).1 hx;exact c x k1 k2
 ·rintro ⟨b,a,c⟩;refine ⟨a,b,fun x hx k => ?_⟩;have := (cnL_mem h (fun x hx => (a.bd x hx).1) x).2 ⟨hx,k⟩;rw [c,bitL_zero] at this;cases this
theorem rex_loop {N : Nat} {Es : List Ed} (h : GOK (N : Int) Es) (hE : Es.length < 4294967295) : ∀ (n v : Nat) (P : List Int),v + n = N -> P.length + n <= 1000000 -> codeL cfgS 0 (.loop lQkX0) ⟨[(2,.ptr 0 0),(7,.own 1 (ints P)),(8,.int .i64 v)],gBx N Es⟩ = some (.exit 0,⟨[(2,.ptr 0 0),(7,.own 1 (ints ((List.range' v n).foldl (exS Es) P))),(8,.int .i64 N),(26,.bool false)],gBx N Es⟩)
 | 0,v,P,hv,hl => by
   obtain rfl : v = N := by omega
   refine loop_exit ?_;show codeL cfgS 0 _ _ = some (_,⟨[_,(7,.own 1 (ints P)),_,_],_⟩);unfold gBx lQkX0;generalize ints P = Z at *;generalize eds Es = Y at *;simp [rQkX0,rQkX1,rQkX2,rQkX3,rQkX4,rQkX5,rQkX6,rQkX7,rQkX8,rQkX9,rQkX10,rQkX11,rQkX12,rQkX13,rQkX14,blk]
 | n + 1,v,P,hv,hl => by
   have hn := gok_n h;have h1 : (v : Int) < N := by omega
   have hw := wrapS (i := v) (by omega);have q := fits_run h hE P (by omega) v;rw [List.range'_succ,List.foldl_cons];by_cases f : fitB Es P (v : Int) = true
   ·have e : exS Es P v = P ++ [(v : Int)] := by unfold exS; rw [if_pos f]
    rw [f] at q;rw [e];refine (loop_next ?_).trans (rex_loop h hE n (v + 1) (P ++ [(v : Int)]) (by omega) (by rw [List.length_append,List.length_singleton]; omega));have l5 : P.length + 1 <= 4294967296 := by omega
    unfold gBx lQkX0;generalize eds Es = Y at *;simp [rQkX0,rQkX1,rQkX2,rQkX3,rQkX4,rQkX5,rQkX6,rQkX7,rQkX8,rQkX9,rQkX10,rQkX11,rQkX12,rQkX13,rQkX14,h1,hw,q,l5,LIM,ints_snoc,ints_take,List.take_length,ints_length,blk,sQG,iQG,vQG,lQG]
   ·have e : exS Es P v = P := by unfold exS; rw [if_neg f]
    rw [Bool.not_eq_true] at f;rw [f] at q;rw [e];refine (loop_next ?_).trans (rex_loop h hE n (v + 1) P (by omega) (by omega));unfold gBx lQkX0;generalize eds Es = Y at *;simp [rQkX0,rQkX1,rQkX2,rQkX3,rQkX4,rQkX5,rQkX6,rQkX7,rQkX8,rQkX9,rQkX10,rQkX11,rQkX12,rQkX13,rQkX14,h1,hw,q,ints_take,List.take_length,ints_length,blk,sQG,iQG,vQG,lQG]
def extL (N : Nat) (Es : List Ed) (S : List Int) : List Int := if isB N Es S = true then (if N = 0 then [] else extK N Es S) else []
def extE (N : Nat) (Es : List Ed) (S : List Int) : Int := if isB N Es S = true then (if N = 0 then 13 else 0) else 4
theorem extB_run {N : Nat} {Es : List Ed} (h : GOK (N : Int) Es) (hE : Es.length < 1000000) (S : List Int) (hS : S.length <= 100000) : callL cfgS nQj [.agg [.int .i64 N,.list 2 (eds Es)],.list 1 (ints S)] [] = some (.tup [.list 1 (ints (extL N Es S)),.int .i64 (extE N Es S)],[]) := by
 have c1 := gchk_run (N : Int) Es (by omega);rw [chkG_zero.2 h] at c1;have i := is_run h (by omega) S (by omega);unfold extL extE;by_cases b : isB N Es S = true
 ·rw [if_pos b,if_pos b];rw [b] at i;by_cases n0 : N = 0
  ·rw [if_pos n0,if_pos n0,ints_nil];subst n0;rw [callL_end oQj sQj (Nat.le_of_ble_eq_true rfl)];rw [nat0] at *;generalize ints S = Z at *;generalize eds Es = Y at *;unfold qQj cQj;simp [rQjX0,rQjX1,rQjX2,rQjX3,rQjX4,rQjX5,rQjX6,rQjX7,rQjX8,rQjX9,rQjX10,rQjX11,rQjX12,rQjX13,rQjX14,rQjX15,c1,i,blk,endL,finB,plL,pl,sQz,iQz,vQz,lQz,sQn,iQn,vQn,lQn]
  ·rw [if_neg n0,if_neg n0];exact ext_run h (by omega) (by omega) S (isB_iff.1 b)
 ·rw [if_neg b,if_neg b,ints_nil];rw [Bool.not_eq_true] at b;rw [b] at i;rw [callL_end oQj sQj (Nat.le_of_ble_eq_true rfl)];generalize ints S = Z at *;generalize eds Es = Y at *;unfold qQj cQj;simp [rQjX0,rQjX1,rQjX2,rQjX3,rQjX4,rQjX5,rQjX6,rQjX7,rQjX8,rQjX9,rQjX10,rQjX11,rQjX12,rQjX13,rQjX14,rQjX15,c1,i,blk,endL,finB,plL,pl,sQz,iQz,vQz,lQz,sQn,iQn,vQn,lQn]
theorem rextB_run {N : Nat} {Es : List Ed} (h : GOK (N : Int) Es) (hE : Es.length < 1000000) (S : List Int) (hS : S.length <= 100000) : callL cfgS nQk [.agg [.int .i64 N,.list 2 (eds Es)],.list 1 (ints S)] [] = some (.tup [.list 1 (ints (extL N Es S)),.int .i64 (extE N Es S)],[]) := by
 have c1 := rchk_run (N : Int) Es (by omega);rw [chkG_zero.2 h] at c1;have i := ris_run h (by omega) S (by omega);rw [isR_isB h] at i;have hn := gok_n h;unfold extL extE;rw [callL_end oQk sQk (Nat.le_of_ble_eq_true rfl)];by_cases b : isB N Es S = true
 ·rw [if_pos b,if_pos b];rw [b] at i;by_cases n0 : N = 0
  ·rw [if_pos n0,if_pos n0,ints_nil];subst n0;rw [nat0] at *;generalize ints S = Z at *;generalize eds Es = Y at *;unfold qQk cQk;simp [rQkX0,rQkX1,rQkX2,rQkX3,rQkX4,rQkX5,rQkX6,rQkX7,rQkX8,rQkX9,rQkX10,rQkX11,rQkX12,rQkX13,rQkX14,c1,i,blk,endL,finB,plL,pl,sQF,iQF,vQF,lQF,sQo,iQo,vQo,lQo]
  ·rw [if_neg n0,if_neg n0];have lp := rex_loop h (by omega) N 0 S (by omega) (by omega);have es := exR_set h (isB_iff.1 b);unfold exR at es;rw [Nat.sub_zero] at es
   have ll : ((List.range' 0 N).foldl (exS Es) S).length <= 4000000 := by
    have : ∀ (l : List Nat) (P : List Int),(l.foldl (exS Es) P).length <= P.length + l.length := by
     intro l
     induction l with
     | nil => intro P; simp
     | cons x r ih =>
       intro P;have := ih (exS Es P x)
       have q : (exS Es P x).length <= P.length + 1 := by
        unfold exS;split
        ·rw [List.length_append,List.length_singleton]; omega
        ·omega
       rw [List.foldl_cons,List.length_cons];omega
    have := this (List.range' 0 N) S;rw [List.length_range'] at this;omega
   have of := of_run ((List.range' 0 N).foldl (exS Es) S) (by omega);rw [es] at of;rw [nat0] at lp;have n1 : ¬ (N : Int) = 0 := by omega
   have lS := ints_length S;have tk := ints_tk S;have fS := flatCells_ints S;have aS := allLeaf_ints S;have kS := cleanL_ints S;have pS := plL_ints S;have lS2 : S.length <= 4294967296 := by omega
   have lX := ints_length ((List.range' 0 N).foldl (exS Es) S);have tX := ints_tk ((List.range' 0 N).foldl (exS Es) S);have kX := cleanL_ints ((List.range' 0 N).foldl (exS Es) S);have pX := plL_ints ((List.range' 0 N).foldl (exS Es) S);have pR := plL_ints (extK N Es S);unfold gBx at lp;clear es ll;generalize (List.range' 0 N).foldl (exS Es) S = X at *;generalize ints X = X1 at *;generalize ints (extK N Es S) = R1 at *;generalize ints S = Z at *;generalize eds Es = Y at *;unfold qQk cQk;simp [rQkX0,rQkX1,rQkX2,rQkX3,rQkX4,rQkX5,rQkX6,rQkX7,rQkX8,rQkX9,rQkX10,rQkX11,rQkX12,rQkX13,rQkX14,c1,i,n0,n1,lp,of,lS,tk,fS,aS,kS,pS,lS2,lX,tX,kX,pX,pR,LIM,blk,endL,finB,plL,pl,sQF,iQF,vQF,lQF,sQo,iQo,vQo,lQo,sQH,iQH,vQH,lQH]
 ·rw [if_neg b,if_neg b,ints_nil];rw [Bool.not_eq_true] at b;rw [b] at i;generalize ints S = Z at *;generalize eds Es = Y at *;unfold qQk cQk;simp [rQkX0,rQkX1,rQkX2,rQkX3,rQkX4,rQkX5,rQkX6,rQkX7,rQkX8,rQkX9,rQkX10,rQkX11,rQkX12,rQkX13,rQkX14,c1,i,blk,endL,finB,plL,pl,sQF,iQF,vQF,lQF,sQo,iQo,vQo,lQo]
/- What all six functions of cliques say of any graph: the same as the reference. -/
def gA (n : Int) (Fs : List Ed) : AV := .agg [.int .i64 n,.list 2 (eds Fs)]
structure CAg (n : Int) (Fs : List Ed) : Prop where
 is : ∀ S : List Int,S.length <= 64 -> ∃ b : Bool,callL cfgS nQn [gA n Fs,.list 1 (ints S)] [] = some (.bool b,[]) /\ callL cfgS nQo [gA n Fs,.list 1 (ints S)] [] = some (.bool b,[])
 mx : ∀ S : List Int,S.length <= 64 -> ∃ b : Bool,callL cfgS nQp [gA n Fs,.list 1 (ints S)] [] = some (.bool b,[]) /\ callL cfgS nQq [gA n Fs,.list 1 (ints S)] [] = some (.bool b,[])
 ex : ∀ S : List Int,S.length <= 64 -> ∃ (L : List Int) (e : Int),L.length <= 64 /\ callL cfgS nQj [gA n Fs,.list 1 (ints S)] [] = some (.tup [.list 1 (ints L),.int .i64 e],[]) /\ callL cfgS nQk [gA n Fs,.list 1 (ints S)] [] = some (.tup [.list 1 (ints L),.int .i64 e],[])
 nx : ∀ S : List Int,S.length <= 64 -> ∃ (c1 : AV) (L : List Int) (b : Bool) (e : Int),L.length <= 64 /\ (c1 = .list 1 (ints L) \/ (c1 = .nils /\ L = [])) /\ callL cfgS nQl [gA n Fs,.list 1 (ints S)] [] = some (.tup [c1,.bool b,.int .i64 e],[]) /\ callL cfgS nQm [gA n Fs,.list 1 (ints S)] [] = some (.tup [.list 1 (ints L),.bool b,.int .i64 e],[])
 al : ∀ m : Int,∃ (L : List (List Int)) (e : Int),(L.length < 1100000 /\ ∀ S ∈ L,S.length <= 9223372036854775807) /\ callL cfgS nQs [gA n Fs,.int .i64 m] [] = some (.tup [.list 1 (lls L),.int .i64 e],[]) /\ callL cfgS nQt [gA n Fs,.int .i64 m] [] = some (.tup [.list 1 (lls L),.int .i64 e],[])
 ck : ∀ o : List (List Int),o.length <= 1000 -> (∀ S ∈ o,S.length <= 9223372036854775807) -> ∃ b : Bool,callL cfgS nQv [gA n Fs,.list 1 (lls o)] [] = some (.bool b,[]) /\ callL cfgS nQw [gA n Fs,.list 1 (lls o)] [] = some (.bool b,[])
theorem allK_shape {N : Nat} {Es : List Ed} (h : GOK (N : Int) Es) (hf : (mcl N Es).length <= 1000000) (m : Int) : ∃ (L : List (List Int)) (e : Int),(L.length < 1100000 /\ ∀ S ∈ L,S.length <= 9223372036854775807) /\ allK N Es m = .tup [.list 1 (lls L),.int .i64 e] := by
 unfold allK;split
 ·exact ⟨[],1,⟨by simp,by simp⟩,rfl⟩
 ·split
  ·exact ⟨mcl N Es,0,⟨by omega,fun S hS => by have := mcl_64 h S hS; omega⟩,rfl⟩
  ·exact ⟨[],3,⟨by simp,by simp⟩,rfl⟩
theorem cag_ok {N : Nat} {Es : List Ed} (h : GOK (N : Int) Es) (hE : Es.length < 1000000) (hf : (mcl N Es).length <= 1000000) : CAg (N : Int) Es where
 is := fun S hS => ⟨isB N Es S,is_run h (by omega) S (by omega),by have := ris_run h (by omega) S (by omega); rwa [isR_isB h] at this⟩
 mx := fun S hS => ⟨maxB N Es S,max_run h (by omega) S (by omega),by have := rmax_run h (by omega) S (by omega); rwa [mxR_maxB h] at this⟩
 ex := fun S hS => ⟨extL N Es S,extE N Es S,by
  unfold extL;split
  ·split
   ·simp
   ·rename_i b _;have x := (extK_spec h (isB_iff.1 b).q).2.2.1;exact up_len x.up (isC_bd h x)
  ·simp,extB_run h hE S (by omega),rextB_run h hE S (by omega)⟩
 nx := fun S hS => by
  have a := nextK_run h (by omega) S (by omega);have b := next24_run h (by omega) hf S (by omega);cases e : behK N Es S with
  | nil =>
    rw [e] at a b;exact ⟨.nils,[],false,0,by simp,.inr ⟨rfl,rfl⟩,a,b⟩
  | cons T r =>
    rw [e] at a b
    have hT : T ∈ mcl N Es := by
     have : T ∈ behK N Es S := by rw [e]; exact List.mem_cons_self
     unfold behK at this;exact (List.mem_filter.1 this).1
    exact ⟨_,T,true,0,mcl_64 h T hT,.inl rfl,a,b⟩
 al := fun m => by
  obtain ⟨L,e,hL,k⟩ := allK_shape h hf m;refine ⟨L,e,hL,?_,?_⟩
  ·rw [<- k]; exact allK_run h (by omega) m
  ·rw [<- k]; exact all24g_run h (by omega) m
 ck := fun o ho hO => ⟨decide (mcl N Es = o),checkK_run h (by omega) o (by omega),check24_run h (by omega) o (by omega) hO⟩
theorem cag_bad (n : Int) (Fs : List Ed) (hE : Fs.length < 1000000) (h0 : chkG n Fs ≠ 0) : CAg n Fs := by
 have g := gchk_run n Fs (by omega);have r := rchk_run n Fs (by omega);generalize hx : chkG n Fs = x at *
 have ri : ∀ S : List Int,callL cfgS nQo [gA n Fs,.list 1 (ints S)] [] = some (.bool false,[]) := fun S => by
  rw [callL_end oQo sQo (Nat.le_of_ble_eq_true rfl)];unfold gA;generalize ints S = Z at *;generalize eds Fs = Y at *;unfold qQo cQo;simp [rQoX0,rQoX1,rQoX2,rQoX3,rQoX4,rQoX5,rQoX6,rQoX7,rQoX8,rQoX9,rQoX10,rQoX11,r,h0,blk,endL,finB,plL,pl,sQF,iQF,vQF,lQF]
 refine ⟨fun S _ => ⟨false,?_,ri S⟩,fun S _ => ⟨false,?_,?_⟩,fun S _ => ⟨[],x,by simp,?_,?_⟩,fun S _ => ⟨.nils,[],false,x,by simp,.inr ⟨rfl,rfl⟩,?_,?_⟩,fun m => ⟨[],x,⟨by simp,by simp⟩,?_,?_⟩,fun o _ _ => ⟨false,?_,?_⟩⟩
 ·rw [callL_end oQn sQn (Nat.le_of_ble_eq_true rfl)];unfold gA;generalize ints S = Z at *;generalize eds Fs = Y at *;unfold qQn cQn;simp [rQnX0,rQnX1,g,h0,blk,endL,finB,plL,pl,sQz,iQz,vQz,lQz]
 ·have i : callL cfgS nQn [gA n Fs,.list 1 (ints S)] [] = some (.bool false,[]) := by
   rw [callL_end oQn sQn (Nat.le_of_ble_eq_true rfl)];unfold gA;generalize ints S = Z at *;generalize eds Fs = Y at *;unfold qQn cQn;simp [rQnX0,rQnX1,g,h0,blk,endL,finB,plL,pl,sQz,iQz,vQz,lQz]
  rw [callL_end oQp sQp (Nat.le_of_ble_eq_true rfl)];have lS := ints_length S;unfold gA at *;generalize eds Fs = Y at *;by_cases q : S.length = 0
  ·have q1 : ¬ (0 : Int) < S.length := by omega
   have q2 : ¬ 0 < S.length := by omega
   generalize ints S = Z at *;unfold qQp cQp;simp [rQpX0,rQpX1,i,q,q1,q2,lS,blk,endL,finB,plL,pl,sQn,iQn,vQn,lQn]
  ·have q1 : (0 : Int) < S.length := by omega
   have q2 : 0 < S.length := by omega
   generalize ints S = Z at *;unfold qQp cQp;simp [rQpX0,rQpX1,i,q,q1,q2,lS,blk,endL,finB,plL,pl,sQn,iQn,vQn,lQn]
 ·have i := ri S;rw [callL_end oQq sQq (Nat.le_of_ble_eq_true rfl)];unfold gA at *;generalize ints S = Z at *;generalize eds Fs = Y at *;unfold qQq cQq;simp [rQqX0,rQqX1,rQqX2,rQqX3,rQqX4,rQqX5,rQqX6,rQqX7,rQqX8,i,blk,endL,finB,plL,pl,sQo,iQo,vQo,lQo]
 ·rw [callL_end oQj sQj (Nat.le_of_ble_eq_true rfl),ints_nil];unfold gA;generalize ints S = Z at *;generalize eds Fs = Y at *;unfold qQj cQj;simp [rQjX0,rQjX1,rQjX2,rQjX3,rQjX4,rQjX5,rQjX6,rQjX7,rQjX8,rQjX9,rQjX10,rQjX11,rQjX12,rQjX13,rQjX14,rQjX15,g,h0,blk,endL,finB,plL,pl,sQz,iQz,vQz,lQz]
 ·rw [callL_end oQk sQk (Nat.le_of_ble_eq_true rfl),ints_nil];unfold gA;generalize ints S = Z at *;generalize eds Fs = Y at *;unfold qQk cQk;simp [rQkX0,rQkX1,rQkX2,rQkX3,rQkX4,rQkX5,rQkX6,rQkX7,rQkX8,rQkX9,rQkX10,rQkX11,rQkX12,rQkX13,rQkX14,r,h0,blk,endL,finB,plL,pl,sQF,iQF,vQF,lQF]
 ·rw [callL_end oQl sQl (Nat.le_of_ble_eq_true rfl)];unfold gA;generalize ints S = Z at *;generalize eds Fs = Y at *;unfold qQl cQl;simp [rQlX0,rQlX1,rQlX2,rQlX3,rQlX4,rQlX5,rQlX6,g,h0,blk,endL,finB,plL,pl,sQz,iQz,vQz,lQz]
 ·rw [callL_end oQm sQm (Nat.le_of_ble_eq_true rfl),ints_nil];unfold gA;generalize ints S = Z at *;generalize eds Fs = Y at *;unfold qQm cQm;simp [rQmX0,rQmX1,rQmX2,rQmX3,rQmX4,rQmX5,rQmX6,rQmX7,rQmX8,rQmX9,rQmX10,r,h0,blk,endL,finB,plL,pl,sQF,iQF,vQF,lQF]
 ·rw [callL_end oQs sQs (Nat.le_of_ble_eq_true rfl),show lls [] = [] from rfl];unfold gA;generalize eds Fs = Y at *;unfold qQs cQs;simp [rQsX0,rQsX1,rQsX2,rQsX3,rQsX4,rQsX5,rQsX6,rQsX7,rQsX8,rQsX9,rQsX10,g,h0,blk,endL,finB,plL,pl,sQz,iQz,vQz,lQz]
 ·rw [callL_end oQt sQt (Nat.le_of_ble_eq_true rfl),show lls [] = [] from rfl];unfold gA;generalize eds Fs = Y at *;unfold qQt cQt;simp [rQtX0,rQtX1,rQtX2,rQtX3,rQtX4,rQtX5,rQtX6,rQtX7,rQtX8,rQtX9,r,h0,blk,endL,finB,plL,pl,sQF,iQF,vQF,lQF]
 ·rw [callL_end oQv sQv (Nat.le_of_ble_eq_true rfl)];unfold gA;generalize lls o = Z at *;generalize eds Fs = Y at *;unfold qQv cQv;simp [rQvX0,rQvX1,rQvX2,rQvX3,rQvX4,rQvX5,g,h0,blk,endL,finB,plL,pl,sQz,iQz,vQz,lQz]
 ·rw [callL_end oQw sQw (Nat.le_of_ble_eq_true rfl)];unfold gA;generalize lls o = Z at *;generalize eds Fs = Y at *;unfold qQw cQw;simp [rQwX0,rQwX1,r,h0,blk,endL,finB,plL,pl,sQF,iQF,vQF,lQF]
theorem cag_any (n : Int) (Fs : List Ed) (m : Nat) (hm : m <= 19) (hE : Fs.length < 1000000) (hl : ∀ e ∈ Fs,e.1 < (m : Int) /\ e.2 < (m : Int)) : CAg n Fs := by
 by_cases h0 : chkG n Fs = 0
 ·have h := chkG_zero.1 h0;obtain ⟨N,rfl⟩ : ∃ N : Nat,n = (N : Int) := ⟨n.toNat,by have := h.1; omega⟩;have := mcl_low h m hl;have hn := gok_n h;have p : 2 ^ m <= 2 ^ 19 := Nat.pow_le_pow_right (by decide) hm;exact cag_ok h hE (by have : (2 : Nat) ^ 19 = 524288 := rfl; omega)
 ·exact cag_bad n Fs hE h0
end Go.BmP
