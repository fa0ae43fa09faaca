/- What ref24.Is and Maximal return. -/
import Derived.Test.YtholnjkicdifdaaDoorUseM
import Derived.Test.YtholnjkicdifdaaDoorCaP
import Derived.Test.YtholnjkicdifdaaDoorK05
import Derived.Test.YtholnjkicdifdaaDoorK07
set_option linter.unusedSimpArgs false
set_option linter.unusedVariables false
set_option maxRecDepth 100000
set_option maxHeartbeats 4000000
namespace Go.BmP
open Go.Am Go.Bm
def gBx (N : Nat) (Es : List Ed) : Heap := [some [.int .i64 N,.list 2 (eds Es)]]
theorem find_lt {N : Nat} {Es : List Ed} (h : GOK (N : Int) Es) (hE : Es.length < 4294967295) (u v : Int) : ∃ r : Int,callL cfgS nQO [.agg [.int .i64 N,.list 2 (eds Es)],.int .i64 u,.int .i64 v] [] = some (.int .i64 r,[]) /\ (nrmE u v ∈ Es -> ¬ r < 0) /\ (nrmE u v ∉ Es -> r < 0) := by
 refine ⟨_,find_run (N : Int) Es (by omega) h u v,fun k => ?_,fun k => ?_⟩
 ·rw [if_pos k]; omega
 ·rw [if_neg k]; omega
theorem fits_loop {N : Nat} {Es : List Ed} (h : GOK (N : Int) Es) (hE : Es.length < 4294967295) (S : List Int) (hl : S.length < 4294967295) (v : Int) : ∀ n i : Nat,i + n = S.length -> codeL cfgS 0 (.loop lQGX0) ⟨[(1,.list 1 (ints S)),(2,.int .i64 v),(3,.ptr 0 0),(7,.int .i64 i)],gBx N Es⟩ =
  if fitB Es (S.drop i) v = true then some (.exit 0,⟨[(1,.list 1 (ints S)),(2,.int .i64 v),(3,.ptr 0 0),(7,.int .i64 S.length),(11,.bool false)],gBx N Es⟩) else some (.ret,⟨[(6,.bool false)],[]⟩)
 | 0,i,hi => by
   obtain rfl : i = S.length := by omega
   rw [List.drop_length,if_pos (show fitB Es [] v = true from rfl)];exact loop_exit (by unfold lQGX0 gBx; simp [rQGX0,rQGX1,rQGX2,rQGX3,rQGX4,rQGX5,rQGX6,blk,eds_length,eds_get,edsAt,edAV,allLeaf_eds,cleanL_eds,cleanL_ints,ints_length,ints_get,intsAt,endL,finB])
 | n + 1,i,hi => by
   have hlt : i < S.length := by omega
   have h1 : (i : Int) < S.length := by omega
   have hw := wrapS (i := i) (by omega);have ih := fits_loop h hE S hl v n (i + 1) (by omega);have hx := idx_lt (k := .i64) (i := (i : Int)) (n := S.length) (by omega) h1;obtain ⟨r,f1,f2,f3⟩ := find_lt h hE S[i] v;rw [List.drop_eq_getElem_cons hlt];have e : fitB Es (S[i] :: S.drop (i + 1)) v = ((!decide (S[i] = v) && decide (nrmE S[i] v ∈ Es)) && fitB Es (S.drop (i + 1)) v) := rfl;rw [e];by_cases c : S[i] = v
   ·rw [if_neg (by simp [c])];clear ih f1 f2 f3 e;exact loop_ret (by unfold lQGX0 gBx; simp [rQGX0,rQGX1,rQGX2,rQGX3,rQGX4,rQGX5,rQGX6,h1,hlt,hx,c,hw,blk,eds_length,eds_get,edsAt,edAV,allLeaf_eds,cleanL_eds,cleanL_ints,ints_length,ints_get,intsAt,endL,finB])
   ·by_cases d : nrmE S[i] v ∈ Es
    ·have f2 := f2 d;rw [show ((!decide (S[i] = v) && decide (nrmE S[i] v ∈ Es)) && fitB Es (S.drop (i + 1)) v) = fitB Es (S.drop (i + 1)) v by simp [c,d]];refine (loop_next ?_).trans ih;clear ih f3 e;unfold lQGX0 gBx;simp [rQGX0,rQGX1,rQGX2,rQGX3,rQGX4,rQGX5,rQGX6,h1,hlt,hx,c,hw,f1,f2,sQO,iQO,vQO,lQO,cleanL_eds,blk,eds_length,eds_get,edsAt,edAV,allLeaf_eds,cleanL_eds,cleanL_ints,ints_length,ints_get,intsAt,endL,finB]
    ·have f3 := f3 d;rw [if_neg (by simp [d])];clear ih f2 e;exact loop_ret (by unfold lQGX0 gBx; simp [rQGX0,rQGX1,rQGX2,rQGX3,rQGX4,rQGX5,rQGX6,h1,hlt,hx,c,hw,f1,f3,sQO,iQO,vQO,lQO,cleanL_eds,blk,eds_length,eds_get,edsAt,edAV,allLeaf_eds,cleanL_eds,cleanL_ints,ints_length,ints_get,intsAt,endL,finB])
theorem fits_run {N : Nat} {Es : List Ed} (h : GOK (N : Int) Es) (hE : Es.length < 4294967295) (S : List Int) (hl : S.length < 4294967295) (v : Int) : callL cfgS nQG [.agg [.int .i64 N,.list 2 (eds Es)],.list 1 (ints S),.int .i64 v] [] = some (.bool (fitB Es S v),[]) := by
 rw [callL_end oQG sQG (Nat.le_of_ble_eq_true rfl)];have l := fits_loop h hE S hl v S.length 0 (by omega);rw [nat0,List.drop_zero] at l;unfold gBx at l;cases f : fitB Es S v with
 | true =>
   rw [f,if_pos rfl] at l;unfold qQG cQG;simp [rQGX0,rQGX1,rQGX2,rQGX3,rQGX4,rQGX5,rQGX6,l,blk,eds_length,eds_get,edsAt,edAV,allLeaf_eds,cleanL_eds,cleanL_ints,ints_length,ints_get,intsAt,endL,finB]
 | false =>
   rw [f,if_neg (by decide)] at l;unfold qQG cQG;simp [rQGX0,rQGX1,rQGX2,rQGX3,rQGX4,rQGX5,rQGX6,l,blk,eds_length,eds_get,edsAt,edAV,allLeaf_eds,cleanL_eds,cleanL_ints,ints_length,ints_get,intsAt,endL,finB]
/-! Is -/
def prB (Es : List Ed) (a : Int) (S : List Int) : Bool := S.all fun b => decide (nrmE a b ∈ Es)
def prsB (Es : List Ed) : List Int -> Bool
 | [] => true
 | a :: r => prB Es a r && prsB Es r
theorem prsB_eq (Es : List Ed) : ∀ S : List Int,prsB Es S = decide (S.Pairwise fun a b => nrmE a b ∈ Es)
 | [] => by simp [prsB]
 | a :: r => by
   unfold prsB;rw [prsB_eq Es r,Bool.eq_iff_iff];simp [prB,List.all_eq_true]
theorem is_in {N : Nat} {Es : List Ed} (h : GOK (N : Int) Es) (hE : Es.length < 4294967295) (S : List Int) (hl : S.length < 4294967295) (i : Nat) (hi : i < S.length) : ∀ n j : Nat,j + n = S.length -> codeL cfgS 0 (.loop lQoX0) ⟨[(1,.list 1 (ints S)),(2,.ptr 0 0),(5,.int .i64 i),(6,.int .i64 j)],gBx N Es⟩ =
  if prB Es S[i] (S.drop j) = true then some (.exit 2,⟨[(1,.list 1 (ints S)),(2,.ptr 0 0),(5,.int .i64 i),(6,.int .i64 S.length),(28,.bool false)],gBx N Es⟩) else some (.ret,⟨[(4,.bool false)],[]⟩)
 | 0,j,hj => by
   obtain rfl : j = S.length := by omega
   rw [List.drop_length,if_pos (show prB Es S[i] [] = true from rfl)];exact loop_exit (by unfold lQoX0 gBx; simp [rQoX0,rQoX1,rQoX2,rQoX3,rQoX4,rQoX5,rQoX6,rQoX7,rQoX8,rQoX9,rQoX10,rQoX11,blk,eds_length,eds_get,edsAt,edAV,allLeaf_eds,cleanL_eds,cleanL_ints,ints_length,ints_get,intsAt,endL,finB])
 | n + 1,j,hj => by
   have hlt : j < S.length := by omega
   have h1 : (j : Int) < S.length := by omega
   have h0 : (i : Int) < S.length := by omega
   have hw := wrapS (i := j) (by omega);have ih := is_in h hE S hl i hi n (j + 1) (by omega);have hx := idx_lt (k := .i64) (i := (j : Int)) (n := S.length) (by omega) h1;have hy := idx_lt (k := .i64) (i := (i : Int)) (n := S.length) (by omega) h0;obtain ⟨r,f1,f2,f3⟩ := find_lt h hE S[i] S[j];rw [List.drop_eq_getElem_cons hlt];have e : prB Es S[i] (S[j] :: S.drop (j + 1)) = (decide (nrmE S[i] S[j] ∈ Es) && prB Es S[i] (S.drop (j + 1))) := rfl;rw [e];by_cases d : nrmE S[i] S[j] ∈ Es
   ·have f2 := f2 d;rw [decide_eq_true d,Bool.true_and];refine (loop_next ?_).trans ih;clear ih f3 e;unfold lQoX0 gBx;simp [rQoX0,rQoX1,rQoX2,rQoX3,rQoX4,rQoX5,rQoX6,rQoX7,rQoX8,rQoX9,rQoX10,rQoX11,h1,hlt,hi,h0,hx,hy,hw,f1,f2,sQO,iQO,vQO,lQO,cleanL_eds,blk,eds_length,eds_get,edsAt,edAV,allLeaf_eds,cleanL_eds,cleanL_ints,ints_length,ints_get,intsAt,endL,finB]
   ·have f3 := f3 d;rw [if_neg (by simp [d])];clear ih f2 e;exact loop_ret (by unfold lQoX0 gBx; simp [rQoX0,rQoX1,rQoX2,rQoX3,rQoX4,rQoX5,rQoX6,rQoX7,rQoX8,rQoX9,rQoX10,rQoX11,h1,hlt,hi,h0,hx,hy,hw,f1,f3,sQO,iQO,vQO,lQO,cleanL_eds,blk,eds_length,eds_get,edsAt,edAV,allLeaf_eds,cleanL_eds,cleanL_ints,ints_length,ints_get,intsAt,endL,finB])
theorem is_out {N : Nat} {Es : List Ed} (h : GOK (N : Int) Es) (hE : Es.length < 4294967295) (S : List Int) (hl : S.length < 4294967295) : ∀ n i : Nat,i + n = S.length -> codeL cfgS 0 (.loop lQoX1) ⟨[(1,.list 1 (ints S)),(2,.ptr 0 0),(5,.int .i64 i)],gBx N Es⟩ =
  if prsB Es (S.drop i) = true then some (.exit 0,⟨[(1,.list 1 (ints S)),(2,.ptr 0 0),(5,.int .i64 S.length),(20,.bool false)],gBx N Es⟩) else some (.ret,⟨[(4,.bool false)],[]⟩)
 | 0,i,hi => by
   obtain rfl : i = S.length := by omega
   rw [List.drop_length,if_pos (show prsB Es [] = true from rfl)];exact loop_exit (by unfold lQoX1 gBx; simp [rQoX0,rQoX1,rQoX2,rQoX3,rQoX4,rQoX5,rQoX6,rQoX7,rQoX8,rQoX9,rQoX10,rQoX11,blk,eds_length,eds_get,edsAt,edAV,allLeaf_eds,cleanL_eds,cleanL_ints,ints_length,ints_get,intsAt,endL,finB])
 | n + 1,i,hi => by
   have hlt : i < S.length := by omega
   have h1 : (i : Int) < S.length := by omega
   have hw := wrapS (i := i) (by omega);have ih := is_out h hE S hl n (i + 1) (by omega);have q := is_in h hE S hl i hlt (S.length - (i + 1)) (i + 1) (by omega);rw [List.drop_eq_getElem_cons hlt];have e : prsB Es (S[i] :: S.drop (i + 1)) = (prB Es S[i] (S.drop (i + 1)) && prsB Es (S.drop (i + 1))) := rfl;rw [e];unfold gBx at q ih ⊢;rw [show ((i + 1 : Nat) : Int) = (i : Int) + 1 by omega] at q;cases f : prB Es S[i] (S.drop (i + 1)) with
   | true =>
     rw [f,if_pos rfl] at q;rw [Bool.true_and];refine (loop_next ?_).trans ih;clear ih e;unfold lQoX1;simp [rQoX0,rQoX1,rQoX2,rQoX3,rQoX4,rQoX5,rQoX6,rQoX7,rQoX8,rQoX9,rQoX10,rQoX11,h1,hlt,hw,q,blk,eds_length,eds_get,edsAt,edAV,allLeaf_eds,cleanL_eds,cleanL_ints,ints_length,ints_get,intsAt,endL,finB]
   | false =>
     rw [f,if_neg (by decide)] at q;rw [Bool.false_and,if_neg (by decide)];clear ih e;exact loop_ret (by unfold lQoX1; simp [rQoX0,rQoX1,rQoX2,rQoX3,rQoX4,rQoX5,rQoX6,rQoX7,rQoX8,rQoX9,rQoX10,rQoX11,h1,hlt,hw,q,blk,eds_length,eds_get,edsAt,edAV,allLeaf_eds,cleanL_eds,cleanL_ints,ints_length,ints_get,intsAt,endL,finB])
def isR (N : Nat) (Es : List Ed) (S : List Int) : Bool := valGo (N : Int) (-1) S && decide (S.Pairwise fun a b => nrmE a b ∈ Es)
theorem ris_run {N : Nat} {Es : List Ed} (h : GOK (N : Int) Es) (hE : Es.length < 4294967295) (S : List Int) (hl : S.length < 4294967295) : callL cfgS nQo [.agg [.int .i64 N,.list 2 (eds Es)],.list 1 (ints S)] [] = some (.bool (isR N Es S),[]) := by
 rw [callL_end oQo sQo (Nat.le_of_ble_eq_true rfl)];have c1 := rchk_run (N : Int) Es (by omega);rw [chkG_zero.2 h] at c1;have v := valid_run (N : Int) S (by omega);have l := is_out h hE S hl S.length 0 (by omega);rw [nat0,List.drop_zero,prsB_eq] at l;unfold gBx at l;unfold isR;cases f : valGo (N : Int) (-1) S with
 | false =>
   rw [f] at v;rw [Bool.false_and];unfold qQo cQo;simp [rQoX0,rQoX1,rQoX2,rQoX3,rQoX4,rQoX5,rQoX6,rQoX7,rQoX8,rQoX9,rQoX10,rQoX11,c1,v,sQF,iQF,vQF,lQF,sQN,iQN,vQN,lQN,cleanL_eds,cleanL_ints,blk,eds_length,eds_get,edsAt,edAV,allLeaf_eds,cleanL_eds,cleanL_ints,ints_length,ints_get,intsAt,endL,finB]
 | true =>
   rw [f] at v;rw [Bool.true_and];cases g : decide (S.Pairwise fun a b => nrmE a b ∈ Es) with
   | true =>
     rw [g,if_pos rfl] at l;unfold qQo cQo;simp [rQoX0,rQoX1,rQoX2,rQoX3,rQoX4,rQoX5,rQoX6,rQoX7,rQoX8,rQoX9,rQoX10,rQoX11,c1,v,l,sQF,iQF,vQF,lQF,sQN,iQN,vQN,lQN,cleanL_eds,cleanL_ints,blk,eds_length,eds_get,edsAt,edAV,allLeaf_eds,cleanL_eds,cleanL_ints,ints_length,ints_get,intsAt,endL,finB]
   | false =>
     rw [g,if_neg (by decide)] at l;unfold qQo cQo;simp [rQoX0,rQoX1,rQoX2,rQoX3,rQoX4,rQoX5,rQoX6,rQoX7,rQoX8,rQoX9,rQoX10,rQoX11,c1,v,l,sQF,iQF,vQF,lQF,sQN,iQN,vQN,lQN,cleanL_eds,cleanL_ints,blk,eds_length,eds_get,edsAt,edAV,allLeaf_eds,cleanL_eds,cleanL_ints,ints_length,ints_get,intsAt,endL,finB]
/-! Maximal -/
theorem mx_loop {N : Nat} {Es : List Ed} (h : GOK (N : Int) Es) (hE : Es.length < 4294967295) (S : List Int) (hl : S.length < 4294967295) : ∀ n i : Nat,i + n = N -> codeL cfgS 0 (.loop lQqX0) ⟨[(1,.list 1 (ints S)),(2,.ptr 0 0),(5,.int .i64 i)],gBx N Es⟩ =
  if ((List.range' i n).all fun v => !fitB Es S v) = true then some (.exit 0,⟨[(1,.list 1 (ints S)),(2,.ptr 0 0),(5,.int .i64 N),(18,.bool false)],gBx N Es⟩) else some (.ret,⟨[(4,.bool false)],[]⟩)
 | 0,i,hi => by
   obtain rfl : i = N := by omega
   rw [show List.range' i 0 = [] from rfl,List.all_nil,if_pos rfl];exact loop_exit (by unfold lQqX0 gBx; simp [rQqX0,rQqX1,rQqX2,rQqX3,rQqX4,rQqX5,rQqX6,rQqX7,rQqX8,blk,eds_length,eds_get,edsAt,edAV,allLeaf_eds,cleanL_eds,cleanL_ints,ints_length,ints_get,intsAt,endL,finB])
 | n + 1,i,hi => by
   have h1 : (i : Int) < N := by omega
   have hlt : i < N := by omega
   have hn := gok_n h;have hw := wrapS (i := i) (by omega);have ih := mx_loop h hE S hl n (i + 1) (by omega);have q := fits_run h hE S hl i;rw [List.range'_succ,List.all_cons];cases f : fitB Es S i with
   | false =>
     rw [f] at q;rw [Bool.not_false,Bool.true_and];refine (loop_next ?_).trans ih;clear ih;unfold lQqX0 gBx;simp [rQqX0,rQqX1,rQqX2,rQqX3,rQqX4,rQqX5,rQqX6,rQqX7,rQqX8,h1,hlt,hw,q,sQG,iQG,vQG,lQG,cleanL_eds,cleanL_ints,blk,eds_length,eds_get,edsAt,edAV,allLeaf_eds,cleanL_eds,cleanL_ints,ints_length,ints_get,intsAt,endL,finB]
   | true =>
     rw [f] at q;rw [Bool.not_true,Bool.false_and,if_neg (by decide)];clear ih;exact loop_ret (by unfold lQqX0 gBx; simp [rQqX0,rQqX1,rQqX2,rQqX3,rQqX4,rQqX5,rQqX6,rQqX7,rQqX8,h1,hlt,hw,q,sQG,iQG,vQG,lQG,cleanL_eds,cleanL_ints,blk,eds_length,eds_get,edsAt,edAV,allLeaf_eds,cleanL_eds,cleanL_ints,ints_length,ints_get,intsAt,endL,finB])
theorem rmax_run {N : Nat} {Es : List Ed} (h : GOK (N : Int) Es) (hE : Es.length < 4294967295) (S : List Int) (hl : S.length < 4294967295) : callL cfgS nQq [.agg [.int .i64 N,.list 2 (eds Es)],.list 1 (ints S)] [] = some (.bool (mxR N Es S),[]) := by
 rw [callL_end oQq sQq (Nat.le_of_ble_eq_true rfl)];have i := ris_run h hE S hl;have l := mx_loop h hE S hl N 0 (by omega);rw [nat0,<- List.range_eq_range'] at l;unfold gBx at l;have e : mxR N Es S = (isR N Es S && (!decide (S = []) && (List.range N).all fun v => !fitB Es S v)) := rfl;rw [e];cases f : isR N Es S with
 | false =>
   rw [f] at i;rw [Bool.false_and];unfold qQq cQq;simp [rQqX0,rQqX1,rQqX2,rQqX3,rQqX4,rQqX5,rQqX6,rQqX7,rQqX8,i,sQo,iQo,vQo,lQo,cleanL_eds,cleanL_ints,blk,eds_length,eds_get,edsAt,edAV,allLeaf_eds,cleanL_eds,cleanL_ints,ints_length,ints_get,intsAt,endL,finB]
 | true =>
   rw [f] at i;rw [Bool.true_and];by_cases k0 : S = []
   ·subst k0;rw [ints_nil] at i ⊢;unfold qQq cQq;simp [rQqX0,rQqX1,rQqX2,rQqX3,rQqX4,rQqX5,rQqX6,rQqX7,rQqX8,i,sQo,iQo,vQo,lQo,cleanL_eds,cleanL,blk,eds_length,eds_get,edsAt,edAV,allLeaf_eds,cleanL_eds,cleanL_ints,ints_length,ints_get,intsAt,endL,finB]
   have l1 : ¬ S.length = 0 := fun e => k0 (List.length_eq_zero_iff.1 e);rw [decide_eq_false k0,Bool.not_false,Bool.true_and];cases g : (List.range N).all fun v => !fitB Es S v with
   | true =>
     rw [g,if_pos rfl] at l;unfold qQq cQq;simp [rQqX0,rQqX1,rQqX2,rQqX3,rQqX4,rQqX5,rQqX6,rQqX7,rQqX8,i,k0,l1,l,sQo,iQo,vQo,lQo,cleanL_eds,cleanL_ints,blk,eds_length,eds_get,edsAt,edAV,allLeaf_eds,cleanL_eds,cleanL_ints,ints_length,ints_get,intsAt,endL,finB]
   | false =>
     rw [g,if_neg (by decide)] at l;unfold qQq cQq;simp [rQqX0,rQqX1,rQqX2,rQqX3,rQqX4,rQqX5,rQqX6,rQqX7,rQqX8,i,k0,l1,l,sQo,iQo,vQo,lQo,cleanL_eds,cleanL_ints,blk,eds_length,eds_get,edsAt,edAV,allLeaf_eds,cleanL_eds,cleanL_ints,ints_length,ints_get,intsAt,endL,finB]
/- What ref24.List and All return of a small graph. -/
set_option maxHeartbeats 8000000
def llsG (o : List (List Int)) : List AV := o.map fun S => .list 1 (ints S)
theorem llsG_length (o : List (List Int)) : (llsG o).length = o.length := List.length_map _
theorem llsG_snoc (o : List (List Int)) (S : List Int) : llsG o ++ [.list 1 (ints S)] = llsG (o ++ [S]) := by simp [llsG]
theorem tk_ints (S : List Int) : (ints S).take S.length = ints S := List.take_of_length_le (by rw [ints_length]; omega)
theorem tk_lls (o : List (List Int)) : (llsG o).take o.length = llsG o := List.take_of_length_le (by rw [llsG_length]; omega)
def gwS (N : Nat) (Es : List Ed) (S : List Int) (o : List (List Int)) (M : Int) (v : Int) (J : Env) : St := ⟨(1,.list 1 (ints S)) :: (3,.own 1 (llsG o)) :: (4,.int .i64 M) :: (5,.ptr 0 0) :: (11,.int .i64 v) :: J,gBx N Es⟩
def GwL (N : Nat) (Es : List Ed) (M : Int) (k : Nat) : Prop := ∀ (v : Nat) (S : List Int) (o : List (List Int)),v + k = N -> S.length <= v -> (o.length : Int) + 2 ^ k <= M -> codeL cfgS 0 (.loop lQ0X0) (gwS N Es S o M v []) = some (.exit 0,gwS N Es S (o ++ grw N Es k v S) M N [(17,.bool false)])
theorem gw_fn {N : Nat} {Es : List Ed} {M : Int} {k : Nat} (h : GwL N Es M k) (v : Nat) (S : List Int) (o : List (List Int)) (hv : v + k = N) (hS : S.length <= v) (ho : (o.length : Int) + 2 ^ k <= M) : callL cfgS nQ0 [.agg [.int .i64 N,.list 2 (eds Es)],.list 1 (ints S),.int .i64 v,.own 1 (llsG o),.int .i64 M] [] = some (.own 1 (llsG (o ++ grw N Es k v S)),[]) := by
 rw [callL_end oQ0 sQ0 (Nat.le_of_ble_eq_true rfl)];have e := h v S o hv hS ho;have t1 := tk_lls (o ++ grw N Es k v S);have l1 := llsG_length (o ++ grw N Es k v S);unfold gwS gBx at e;generalize o ++ grw N Es k v S = R at *;generalize llsG R = Q at *;generalize R.length = LR at *;generalize llsG o = Z at *;unfold qQ0 cQ0;subst l1;simp [rQ0X0,rQ0X1,rQ0X2,rQ0X3,rQ0X4,rQ0X5,rQ0X6,rQ0X7,rQ0X8,rQ0X9,e,t1,allLocal,local_,takeR,takeV,blk,eds_length,eds_get,edsAt,edAV,allLeaf_eds,cleanL_eds,cleanL_ints,ints_length,ints_get,intsAt,endL,finB]
theorem gw_skip {N : Nat} {Es : List Ed} (h : GOK (N : Int) Es) (hE : Es.length < 4294967295) (S : List Int) (hS : S.length <= 64) (o : List (List Int)) (M : Int) (ho : (o.length : Int) <= M) (v : Nat) (hv : v < N) (f : fitB Es S v = false) : codeL cfgS 0 lQ0X0 (gwS N Es S o M v []) = some (.normal,gwS N Es S o M (v + 1 : Nat) []) := by
 have hn := gok_n h;have h1 : (v : Int) < N := by omega
 have hw := wrapS (i := v) (by omega);have q := fits_run h hE S (by omega) v;rw [f] at q;have l1 := llsG_length o;unfold gwS gBx lQ0X0;generalize llsG o = Z at *;simp [rQ0X0,rQ0X1,rQ0X2,rQ0X3,rQ0X4,rQ0X5,rQ0X6,rQ0X7,rQ0X8,rQ0X9,h1,hv,hw,q,l1,ho,sQG,iQG,vQG,lQG,cleanL_eds,cleanL_ints,blk,eds_length,eds_get,edsAt,edAV,allLeaf_eds,cleanL_eds,cleanL_ints,ints_length,ints_get,intsAt,endL,finB]
theorem gw_max {N : Nat} {Es : List Ed} (h : GOK (N : Int) Es) (hE : Es.length < 4294967295) (S : List Int) (hS : S.length <= 64) (o : List (List Int)) (M : Int) (ho : (o.length : Int) <= M) (ho2 : o.length <= 4000000) (v : Nat) (hv : v < N) (f : fitB Es S v = true) (g : mxR N Es (S ++ [(v : Int)]) = true) : codeL cfgS 0 lQ0X0 (gwS N Es S o M v []) = some (.normal,gwS N Es S (o ++ [S ++ [(v : Int)]]) M (v + 1 : Nat) []) := by
 have hn := gok_n h;have h1 : (v : Int) < N := by omega
 have hw := wrapS (i := v) (by omega);have q := fits_run h hE S (by omega) v;rw [f] at q;have q2 := rmax_run h hE (S ++ [(v : Int)]) (by simp; omega);rw [g] at q2;have t1 := tk_ints S;have t2 := tk_lls o;have t3 := tk_ints (S ++ [(v : Int)]);have l1 := llsG_length o;have sn := llsG_snoc o (S ++ [(v : Int)]);have l3 := ints_length (S ++ [(v : Int)]);have l4 : (S ++ [(v : Int)]).length = S.length + 1 := by simp
 have l5 : S.length + 1 <= 4294967296 := by omega
 have l6 : o.length + 1 <= 4294967296 := by omega
 have l7 : S.length <= 4294967296 := by omega
 have e1 := ints_snoc S v;unfold gwS gBx lQ0X0;rw [<- sn];clear sn;rw [l4] at l3 t3;generalize S ++ [(v : Int)] = T at *;generalize llsG o = Z at *;generalize ints T = IT at *;subst e1;have t4 : ∀ x : AV,List.take (o.length + 1) (Z ++ [x]) = Z ++ [x] := fun x => List.take_of_length_le (by simp; omega);simp [rQ0X0,rQ0X1,rQ0X2,rQ0X3,rQ0X4,rQ0X5,rQ0X6,rQ0X7,rQ0X8,rQ0X9,h1,hv,hw,q,q2,l1,ho,t1,t2,t3,t4,l3,l5,l6,l7,LIM,sQG,iQG,vQG,lQG,sQq,iQq,vQq,lQq,cleanL_eds,cleanL_ints,blk,eds_length,eds_get,edsAt,edAV,allLeaf_eds,cleanL_eds,cleanL_ints,ints_length,ints_get,intsAt,endL,finB]
theorem gw_rec {N : Nat} {Es : List Ed} (h : GOK (N : Int) Es) (hE : Es.length < 4294967295) (S : List Int) (hS : S.length <= 64) (o R : List (List Int)) (M : Int) (ho : (o.length : Int) <= M) (ho2 : o.length <= 4000000) (v : Nat) (hv : v < N) (f : fitB Es S v = true) (g : mxR N Es (S ++ [(v : Int)]) = false) (hc : callL cfgS nQ0 [.agg [.int .i64 N,.list 2 (eds Es)],.list 1 (ints (S ++ [(v : Int)])),.int .i64 (v + 1 : Nat),.own 1 (llsG o),.int .i64 M] [] = some (.own 1 (llsG R),[])) : codeL cfgS 0 lQ0X0 (gwS N Es S o M v []) = some (.normal,gwS N Es S R M (v + 1 : Nat) []) := by
 have hn := gok_n h;have h1 : (v : Int) < N := by omega
 have hw := wrapS (i := v) (by omega);have q := fits_run h hE S (by omega) v;rw [f] at q;have q2 := rmax_run h hE (S ++ [(v : Int)]) (by simp; omega);rw [g] at q2;have t1 := tk_ints S;have t2 := tk_lls o;have t3 := tk_ints (S ++ [(v : Int)]);have l1 := llsG_length o;have t6 := tk_lls R;have l6 := llsG_length R;rw [<- l6] at t6;have l3 := ints_length (S ++ [(v : Int)]);have l4 : (S ++ [(v : Int)]).length = S.length + 1 := by simp
 have l5 : S.length + 1 <= 4294967296 := by omega
 have l7 : S.length <= 4294967296 := by omega
 have e1 := ints_snoc S v;rw [show ((v + 1 : Nat) : Int) = (v : Int) + 1 by omega] at hc hw ⊢;unfold gwS gBx lQ0X0;rw [l4] at l3 t3;generalize S ++ [(v : Int)] = T at *;generalize llsG o = Z at *;generalize llsG R = Y at *;generalize ints T = IT at *;subst e1;simp [rQ0X0,rQ0X1,rQ0X2,rQ0X3,rQ0X4,rQ0X5,rQ0X6,rQ0X7,rQ0X8,rQ0X9,h1,hv,hw,q,q2,l1,ho,t1,t2,t3,t6,hc,l3,l5,l7,LIM,sQG,iQG,vQG,lQG,sQq,iQq,vQq,lQq,sQ0,iQ0,vQ0,lQ0,cleanL_eds,cleanL_ints,blk,eds_length,eds_get,edsAt,edAV,allLeaf_eds,cleanL_eds,cleanL_ints,ints_length,ints_get,intsAt,endL,finB]
/- What ref24.List returns of any graph that is in order, with any bound: the first ones of the walk. -/
theorem take_more {α : Type} (X B : List α) (n : Nat) : (X.take n ++ B).take n = (X ++ B).take n := by
 by_cases h : X.length <= n
 ·rw [List.take_of_length_le h]
 ·have h1 : (X.take n).length = n := by rw [List.length_take]; omega
  rw [List.take_append_of_le_length (by omega),List.take_append_of_le_length (by omega),List.take_of_length_le (by omega)]
def GwG (N : Nat) (Es : List Ed) (M : Nat) (k : Nat) : Prop := ∀ (v : Nat) (S : List Int) (o : List (List Int)),v + k = N -> S.length <= v -> o.length <= M + 1 -> codeL cfgS 0 (.loop lQ0X0) (gwS N Es S o M v []) = some (.exit 0,gwS N Es S ((o ++ grw N Es k v S).take (M + 1)) M N [(17,.bool false)])
theorem gw_full {N : Nat} {Es : List Ed} (h : GOK (N : Int) Es) (hE : Es.length < 4294967295) (S : List Int) (o : List (List Int)) (M : Int) (ho : ¬ (o.length : Int) <= M) (v : Nat) (hv : v < N) : codeL cfgS 0 lQ0X0 (gwS N Es S o M v []) = some (.normal,gwS N Es S o M (v + 1 : Nat) []) := by
 have hn := gok_n h;have h1 : (v : Int) < N := by omega
 have hw := wrapS (i := v) (by omega);have l1 := llsG_length o;unfold gwS gBx lQ0X0;generalize llsG o = Z at *;simp [rQ0X0,rQ0X1,rQ0X2,rQ0X3,rQ0X4,rQ0X5,rQ0X6,rQ0X7,rQ0X8,rQ0X9,h1,hv,hw,l1,ho,cleanL_eds,cleanL_ints,blk,eds_length,eds_get,edsAt,edAV,allLeaf_eds,cleanL_eds,cleanL_ints,ints_length,ints_get,intsAt,endL,finB]
theorem gw_fnG {N : Nat} {Es : List Ed} {M k : Nat} (h : GwG N Es M k) (v : Nat) (S : List Int) (o : List (List Int)) (hv : v + k = N) (hS : S.length <= v) (ho : o.length <= M + 1) : callL cfgS nQ0 [.agg [.int .i64 N,.list 2 (eds Es)],.list 1 (ints S),.int .i64 v,.own 1 (llsG o),.int .i64 M] [] = some (.own 1 (llsG ((o ++ grw N Es k v S).take (M + 1))),[]) := by
 rw [callL_end oQ0 sQ0 (Nat.le_of_ble_eq_true rfl)];have e := h v S o hv hS ho;have t1 := tk_lls ((o ++ grw N Es k v S).take (M + 1));have l1 := llsG_length ((o ++ grw N Es k v S).take (M + 1));unfold gwS gBx at e;generalize (o ++ grw N Es k v S).take (M + 1) = R at *;generalize llsG R = Q at *;generalize R.length = LR at *;generalize llsG o = Z at *;unfold qQ0 cQ0;subst l1;simp [rQ0X0,rQ0X1,rQ0X2,rQ0X3,rQ0X4,rQ0X5,rQ0X6,rQ0X7,rQ0X8,rQ0X9,e,t1,allLocal,local_,takeR,takeV,blk,eds_length,eds_get,edsAt,edAV,allLeaf_eds,cleanL_eds,cleanL_ints,ints_length,ints_get,intsAt,endL,finB]
theorem gw_loopG {N : Nat} {Es : List Ed} (h : GOK (N : Int) Es) (hE : Es.length < 4294967295) (M : Nat) (hM : M <= 1100000) : ∀ k : Nat,GwG N Es M k
 | 0 => by
   intro v S o hv hS ho;obtain rfl : v = N := by omega
   rw [show grw v Es 0 v S = [] from rfl,List.append_nil,List.take_of_length_le ho];refine loop_exit ?_;have l1 := llsG_length o;unfold gwS gBx lQ0X0;generalize llsG o = Z at *;simp [rQ0X0,rQ0X1,rQ0X2,rQ0X3,rQ0X4,rQ0X5,rQ0X6,rQ0X7,rQ0X8,rQ0X9,l1,blk,eds_length,eds_get,edsAt,edAV,allLeaf_eds,cleanL_eds,cleanL_ints,ints_length,ints_get,intsAt,endL,finB]
 | k + 1 => by
   intro v S o hv hS ho;have hn := gok_n h;have ih := gw_loopG h hE M hM k;have hle : o.length <= 4000000 := by omega
   by_cases hf : o.length <= M
   case neg =>
    have h1 := ih (v + 1) S o (by omega) (by omega) ho;have e : ∀ B : List (List Int),(o ++ B).take (M + 1) = o := fun B => by rw [List.take_append_of_le_length (by omega),List.take_of_length_le (by omega)]
    rw [e] at h1 ⊢;exact (loop_next (gw_full h hE S o M (by omega) v (by omega))).trans h1
   cases f : fitB Es S v with
   | false =>
     have e : grw N Es (k + 1) v S = grw N Es k (v + 1) S := by
      conv => lhs; unfold grw
      rw [f,if_neg (by decide),List.nil_append]
     rw [e];exact (loop_next (gw_skip h hE S (by omega) o M (by omega) v (by omega) f)).trans (ih (v + 1) S o (by omega) (by omega) ho)
   | true =>
     cases g : mxR N Es (S ++ [(v : Int)]) with
     | true =>
       have e : grw N Es (k + 1) v S = [S ++ [(v : Int)]] ++ grw N Es k (v + 1) S := by
        conv => lhs; unfold grw
        rw [f,if_pos rfl,g,if_pos rfl]
       rw [e,<- List.append_assoc];exact (loop_next (gw_max h hE S (by omega) o M (by omega) hle v (by omega) f g)).trans (ih (v + 1) S (o ++ [S ++ [(v : Int)]]) (by omega) (by omega) (by simp; omega))
     | false =>
       have e : grw N Es (k + 1) v S = grw N Es k (v + 1) (S ++ [(v : Int)]) ++ grw N Es k (v + 1) S := by
        conv => lhs; unfold grw
        rw [f,if_pos rfl,g,if_neg (by decide)]
       rw [e,<- List.append_assoc,<- take_more];have c := gw_fnG ih (v + 1) (S ++ [(v : Int)]) o (by omega) (by simp; omega) ho;exact (loop_next (gw_rec h hE S (by omega) o _ M (by omega) hle v (by omega) f g c)).trans (ih (v + 1) S _ (by omega) (by omega) (by rw [List.length_take]; omega))
theorem list24g_run {N : Nat} {Es : List Ed} (h : GOK (N : Int) Es) (hE : Es.length < 4294967295) (M : Nat) (hM : M <= 1100000) : callL cfgS nQK [.agg [.int .i64 N,.list 2 (eds Es)],.int .i64 M] [] = some (.list 1 (llsG ((grw N Es N 0 []).take (M + 1))),[]) := by
 have c := gw_fnG (gw_loopG h hE M hM N) 0 [] [] (by omega) (by simp) (by simp);rw [List.nil_append,nat0,ints_nil,show llsG [] = [] from rfl] at c;rw [callL_end oQK sQK (Nat.le_of_ble_eq_true rfl)];have t6 := tk_lls ((grw N Es N 0 []).take (M + 1));have l6 := llsG_length ((grw N Es N 0 []).take (M + 1));rw [<- l6] at t6;clear l6;generalize llsG ((grw N Es N 0 []).take (M + 1)) = Y at *;unfold qQK cQK;simp [rQKX0,rQKX1,rQKX2,rQKX3,c,t6,sQ0,iQ0,vQ0,lQ0,blk,eds_length,eds_get,edsAt,edAV,allLeaf_eds,cleanL_eds,cleanL_ints,ints_length,ints_get,intsAt,endL,finB]
end Go.BmP
