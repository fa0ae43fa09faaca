/- What cliques.Is, Maximal and Extend return of a graph. -/
import Derived.Test.YtholnjkicdifdaaDoorUseM
import Derived.Test.YtholnjkicdifdaaDoorW14
import Derived.Test.YtholnjkicdifdaaDoorCaP
import Derived.Test.YtholnjkicdifdaaDoorK05
import Derived.Test.YtholnjkicdifdaaDoorK07
set_option linter.unusedSimpArgs false
set_option linter.unusedVariables false
set_option maxRecDepth 100000
set_option maxHeartbeats 4000000
namespace Go.BmP
open Go.Am Go.Bm
theorem comm_loop (A : List Nat) (hA : Small A) (l : List Int) (hl : l.length < 4294967295) (hb : ∀ v ∈ l,0 <= v /\ v < (A.length : Int)) : ∀ (n i m : Nat),i + n = l.length -> m < 18446744073709551616 -> codeL cfgS 0 (.loop lQCX0) ⟨[(0,.list 1 (us A)),(5,.int .u64 m),(11,.list 1 (ints l)),(12,.int .i64 l.length),(13,.int .i64 i)],[]⟩ =
  some (.exit 0,⟨[(0,.list 1 (us A)),(5,.int .u64 (comL A m (l.drop i) : Nat)),(11,.list 1 (ints l)),(12,.int .i64 l.length),(13,.int .i64 l.length),(14,.bool false)],[]⟩)
 | 0,i,m,hi,hm => by
   obtain rfl : i = l.length := by omega
   rw [List.drop_length];exact loop_exit (by unfold lQCX0; simp [rQCX0,rQCX1,rQCX2,rQCX3,rQCX4,rQCX5,rQCX6,rQCX7,comL,List.foldl_nil,blk,eds_length,eds_get,edsAt,edAV,allLeaf_eds,cleanL_eds,cleanL_ints,ints_length,ints_get,intsAt,endL,finB])
 | n + 1,i,m,hi,hm => by
   have hlt : i < l.length := by omega
   have h1 : (i : Int) < l.length := by omega
   have hw := wrapS (i := i) (by omega);obtain ⟨b0,b1⟩ := hb l[i] (List.getElem_mem hlt);have ra := getD_lt hA l[i].toNat;have w2 := u64_and_nat m (A.getD l[i].toNat 0) hm ra;have ih := comm_loop A hA l hl hb n (i + 1) (m &&& A.getD l[i].toNat 0) (by omega) (Nat.lt_of_le_of_lt Nat.and_le_left hm);rw [List.drop_eq_getElem_cons hlt];have e : comL A m (l[i] :: l.drop (i + 1)) = comL A (m &&& A.getD l[i].toNat 0) (l.drop (i + 1)) := rfl;rw [e];refine (loop_next ?_).trans ih;clear ih e;have i1 := idx_lt (k := .i64) (i := (i : Int)) (n := l.length) (by omega) h1;have i2 := idx_lt (k := .i64) (i := l[i]) (n := A.length) b0 b1
   have g2 : (us A)[l[i].toNat]? = some (.int .u64 (A.getD l[i].toNat 0 : Nat)) := by
    rw [us_get,List.getD_eq_getElem?_getD,List.getElem?_eq_getElem (by omega)]; rfl
   have g2' : ∀ h : l[i].toNat < (us A).length,(us A)[l[i].toNat] = .int .u64 (A.getD l[i].toNat 0 : Nat) := fun h => by rw [List.getElem?_eq_getElem h] at g2; exact Option.some.inj g2
   have elA := us_length A;generalize ((m &&& A.getD l[i].toNat 0 : Nat) : Int) = q at *;generalize ((A.getD l[i].toNat 0 : Nat) : Int) = p at *;generalize us A = Z at *;generalize (m : Int) = X at *;unfold lQCX0;simp [rQCX0,rQCX1,rQCX2,rQCX3,rQCX4,rQCX5,rQCX6,rQCX7,h1,hlt,hw,i1,i2,g2,g2',elA,w2,blk,eds_length,eds_get,edsAt,edAV,allLeaf_eds,cleanL_eds,cleanL_ints,ints_length,ints_get,intsAt,endL,finB]
theorem comm_run {N : Nat} {Es : List Ed} (h : GOK (N : Int) Es) (S : List Int) (hS : S.length < 4294967295) (hb : ∀ v ∈ S,0 <= v /\ v < (N : Int)) : callL cfgS nQC [.list 1 (us (adjE N Es)),.list 1 (ints S)] [] = some (.int .u64 (cn N Es S : Nat),[]) := by
 rw [callL_end oQC sQC (Nat.le_of_ble_eq_true rfl)];have hn := gok_n h;have ga := gadj h;have p : 2 ^ N <= 2 ^ 64 := Nat.pow_le_pow_right (by decide) hn;have p0 : 0 < 2 ^ N := Nat.two_pow_pos N;have hl := comm_loop (adjE N Es) ga.2.1 S hS (by rw [ga.1]; exact hb) S.length 0 (2 ^ N - 1) (by omega) (by omega);rw [nat0,List.drop_zero] at hl;have al := alln_run N hn;have e : comL (adjE N Es) (2 ^ N - 1) S = cn N Es S := rfl;rw [e] at hl;have elA := us_length (adjE N Es);rw [ga.1] at elA;generalize ((cn N Es S : Nat) : Int) = q at *;generalize ((2 ^ N - 1 : Nat) : Int) = W at *;generalize us (adjE N Es) = Z at *;unfold qQC cQC;simp [rQCX0,rQCX1,rQCX2,rQCX3,rQCX4,rQCX5,rQCX6,rQCX7,hl,al,elA,sQW,iQW,vQW,lQW,blk,eds_length,eds_get,edsAt,edAV,allLeaf_eds,cleanL_eds,cleanL_ints,ints_length,ints_get,intsAt,endL,finB]
def okAt (A : List Nat) (S : List Int) (i : Nat) : Bool := (S.take i).all fun w => (A.getD (S.getD i 0).toNat 0).testBit w.toNat
theorem shrb (M : Nat) (u : Int) (h0 : 0 <= u) (h1 : u < 64) : binA .shr (.int .u64 (M : Int)) (.int .i64 u) = some (.int .u64 ((M / 2 ^ u.toNat : Nat) : Int)) := by
 unfold binA;simp only;rw [if_neg (by omega),show min u.toNat IntKind.u64.bits = u.toNat by (show min u.toNat 64 = u.toNat); omega,powc,Int.fdiv_eq_ediv_of_nonneg _ (Int.natCast_nonneg _)];rfl
theorem oneb (M : Nat) (u : Int) (h0 : 0 <= u) (hM : M < 18446744073709551616) : binA .and (.int .u64 ((M / 2 ^ u.toNat : Nat) : Int)) (.int .u64 1) = some (.int .u64 (if M.testBit u.toNat = true then 1 else 0)) := by
 have hd : M / 2 ^ u.toNat <= M := Nat.div_le_self _ _;have h := bin_and (M / 2 ^ u.toNat) 1 (by omega) (by decide)
 have e : (((M / 2 ^ u.toNat) &&& 1 : Nat) : Int) = if M.testBit u.toNat = true then 1 else 0 := by
  rw [Nat.and_one_is_mod,Nat.testBit_eq_decide_div_mod_eq];by_cases k : M / 2 ^ u.toNat % 2 = 1
  ·simp [k]
  ·simp only [k,decide_false,Bool.false_eq_true,if_false]; omega
 rw [e] at h;exact h
theorem clq_in (A : List Nat) (hA : Small A) (S : List Int) (hS : S.length < 4294967295) (hb : ∀ v ∈ S,0 <= v /\ v < (A.length : Int)) (hA64 : A.length <= 64) (i : Nat) (hi : i < S.length) : ∀ (k j : Nat),j + k = i -> codeL cfgS 0 (.loop lQMX0) ⟨[(0,.list 1 (us A)),(1,.list 1 (ints S)),(6,.int .i64 (S.getD i 0)),(9,.list 1 (ints S)),(10,.int .i64 S.length),(11,.int .i64 i),(18,.list 1 (ints (S.take i))),(19,.int .i64 i),(20,.int .i64 j)],[]⟩ =
  if ((S.take i).drop j).all (fun w => (A.getD (S.getD i 0).toNat 0).testBit w.toNat) = true then some (.exit 2,⟨[(0,.list 1 (us A)),(1,.list 1 (ints S)),(6,.int .i64 (S.getD i 0)),(9,.list 1 (ints S)),(10,.int .i64 S.length),(11,.int .i64 i),(18,.list 1 (ints (S.take i))),(19,.int .i64 i),(20,.int .i64 i),(21,.bool false)],[]⟩) else some (.ret,⟨[(4,.bool false)],[]⟩)
 | 0,j,hj => by
   obtain rfl : j = i := by omega
   have : (S.take j).drop j = [] := List.drop_eq_nil_of_le (by simp; omega);rw [this,List.all_nil,if_pos rfl];exact loop_exit (by unfold lQMX0; simp [rQMX0,rQMX1,rQMX2,rQMX3,rQMX4,rQMX5,rQMX6,rQMX7,rQMX8,rQMX9,rQMX10,rQMX11,blk,eds_length,eds_get,edsAt,edAV,allLeaf_eds,cleanL_eds,cleanL_ints,ints_length,ints_get,intsAt,endL,finB])
 | k + 1,j,hj => by
   have hlt : j < i := by omega
   have hlS : j < S.length := by omega
   have h1 : (j : Int) < i := by omega
   have hw := wrapS (i := j) (by omega);have lt : (S.take i).length = i := by simp; omega
   have ih := clq_in A hA S hS hb hA64 i hi k (j + 1) (by omega);have gj : (S.take i)[j]'(by omega) = S[j] := by simp
   rw [List.drop_eq_getElem_cons (by omega),List.all_cons,gj];obtain ⟨b0,b1⟩ := hb S[j] (List.getElem_mem hlS)
   have hSi : S.getD i 0 ∈ S := by
    rw [List.getD_eq_getElem?_getD,List.getElem?_eq_getElem hi];exact List.getElem_mem hi
   obtain ⟨c0,c1⟩ := hb _ hSi;have i1 := idx_lt (k := .i64) (i := (j : Int)) (n := i) (by omega) h1;have i2 := idx_lt (k := .i64) (i := S.getD i 0) (n := A.length) c0 c1
   have g2 : (us A)[(S.getD i 0).toNat]? = some (.int .u64 (A.getD (S.getD i 0).toNat 0 : Nat)) := by
    rw [us_get,List.getD_eq_getElem?_getD (l := A),List.getElem?_eq_getElem (by omega)]; rfl
   have g2' : ∀ h : (S.getD i 0).toNat < (us A).length,(us A)[(S.getD i 0).toNat] = .int .u64 (A.getD (S.getD i 0).toNat 0 : Nat) := fun h => by rw [List.getElem?_eq_getElem h] at g2; exact Option.some.inj g2
   have elA := us_length A;have ra := getD_lt hA (S.getD i 0).toNat;have s1 := shrb (A.getD (S.getD i 0).toNat 0) S[j] b0 (by omega);have s2 := oneb (A.getD (S.getD i 0).toNat 0) S[j] b0 ra;have gt : (ints (S.take i))[j]? = some (.int .i64 S[j]) := by rw [ints_get,List.getElem?_eq_getElem (by omega),gj]; rfl
   have gt' : ∀ h : j < (ints (S.take i)).length,(ints (S.take i))[j] = .int .i64 S[j] := fun h => by rw [List.getElem?_eq_getElem h] at gt; exact Option.some.inj gt
   have elt : (ints (S.take i)).length = i := by rw [ints_length]; exact lt
   generalize ((A.getD (S.getD i 0).toNat 0 / 2 ^ S[j].toNat : Nat) : Int) = q1 at *;cases tb : (A.getD (S.getD i 0).toNat 0).testBit S[j].toNat with
   | true =>
     rw [tb,if_pos rfl] at s2;rw [Bool.true_and];refine (loop_next ?_).trans ih;clear ih tb;generalize ((A.getD (S.getD i 0).toNat 0 : Nat) : Int) = p at *;generalize S.getD i 0 = sv at *;generalize us A = Z at *;generalize hT : ints (S.take i) = TT at *;have q2 : binA .eql (.int .u64 1) (.int .u64 0) = some (.bool false) := rfl;unfold lQMX0;simp [rQMX0,rQMX1,rQMX2,rQMX3,rQMX4,rQMX5,rQMX6,rQMX7,rQMX8,rQMX9,rQMX10,rQMX11,h1,hlt,i1,i2,g2,g2',elA,gt,gt',elt,s1,s2,q2,show binA .lss (.int .i64 (j : Int)) (.int .i64 (i : Int)) = some (.bool true) from (by simp [binA,arith,h1]),show binA .add (.int .i64 (j : Int)) (.int .i64 1) = some (.int .i64 ((j + 1 : Nat) : Int)) from (by simp [binA,arith,hw]),blk,eds_length,eds_get,edsAt,edAV,allLeaf_eds,cleanL_eds,cleanL_ints,ints_length,ints_get,intsAt,endL,finB,-binA]
   | false =>
     rw [tb,if_neg (by decide)] at s2;rw [Bool.false_and,if_neg (by decide)];refine loop_ret ?_;clear ih tb;generalize ((A.getD (S.getD i 0).toNat 0 : Nat) : Int) = p at *;generalize S.getD i 0 = sv at *;generalize us A = Z at *;generalize hT : ints (S.take i) = TT at *;have q2 : binA .eql (.int .u64 0) (.int .u64 0) = some (.bool true) := rfl;unfold lQMX0;simp [rQMX0,rQMX1,rQMX2,rQMX3,rQMX4,rQMX5,rQMX6,rQMX7,rQMX8,rQMX9,rQMX10,rQMX11,h1,hlt,i1,i2,g2,g2',elA,gt,gt',elt,s1,s2,q2,show binA .lss (.int .i64 (j : Int)) (.int .i64 (i : Int)) = some (.bool true) from (by simp [binA,arith,h1]),blk,eds_length,eds_get,edsAt,edAV,allLeaf_eds,cleanL_eds,cleanL_ints,ints_length,ints_get,intsAt,endL,finB,-binA]
/- What cliques.Is, Maximal and Extend return of a graph: the whole. -/
def okK (A : List Nat) (S : List Int) : Nat -> Nat -> Bool
 | _,0 => true
 | i,k + 1 => okAt A S i && okK A S (i + 1) k
theorem clq_out (A : List Nat) (hA : Small A) (S : List Int) (hS : S.length < 4294967295) (hb : ∀ v ∈ S,0 <= v /\ v < (A.length : Int)) (hA64 : A.length <= 64) : ∀ (k i : Nat),i + k = S.length -> codeL cfgS 0 (.loop lQMX1) ⟨[(0,.list 1 (us A)),(1,.list 1 (ints S)),(9,.list 1 (ints S)),(10,.int .i64 S.length),(11,.int .i64 i)],[]⟩ =
  if okK A S i k = true then some (.exit 0,⟨[(0,.list 1 (us A)),(1,.list 1 (ints S)),(9,.list 1 (ints S)),(10,.int .i64 S.length),(11,.int .i64 S.length),(12,.bool false)],[]⟩) else some (.ret,⟨[(4,.bool false)],[]⟩)
 | 0,i,hi => by
   obtain rfl : i = S.length := by omega
   rw [if_pos (show okK A S S.length 0 = true from rfl)];exact loop_exit (by unfold lQMX1; simp [rQMX0,rQMX1,rQMX2,rQMX3,rQMX4,rQMX5,rQMX6,rQMX7,rQMX8,rQMX9,rQMX10,rQMX11,blk,eds_length,eds_get,edsAt,edAV,allLeaf_eds,cleanL_eds,cleanL_ints,ints_length,ints_get,intsAt,endL,finB])
 | k + 1,i,hi => by
   have hlt : i < S.length := by omega
   have h1 : (i : Int) < S.length := by omega
   have h1' : (i : Int) <= S.length := by omega
   have hw := wrapS (i := i) (by omega);have ih := clq_out A hA S hS hb hA64 k (i + 1) (by omega);have inn := clq_in A hA S hS hb hA64 i hlt i 0 (by omega);rw [List.drop_zero] at inn;have e0 : ((S.take i).all fun w => (A.getD (S.getD i 0).toNat 0).testBit w.toNat) = okAt A S i := rfl;rw [e0,nat0] at inn;have i1 := idx_lt (k := .i64) (i := (i : Int)) (n := S.length) (by omega) h1;have gi : (ints S)[i]? = some (.int .i64 (S.getD i 0)) := by rw [ints_get,List.getD_eq_getElem?_getD,List.getElem?_eq_getElem hlt]; rfl
   have gi' : ∀ h : i < (ints S).length,(ints S)[i] = .int .i64 (S.getD i 0) := fun h => by rw [List.getElem?_eq_getElem h] at gi; exact Option.some.inj gi
   have ti := ints_take S i;have lt : (ints (S.take i)).length = i := by rw [ints_length]; simp; omega
   have ek : okK A S i (k + 1) = (okAt A S i && okK A S (i + 1) k) := rfl;rw [ek];cases q : okAt A S i with
   | true =>
     rw [q,if_pos rfl] at inn;rw [Bool.true_and];refine (loop_next ?_).trans ih;clear ih ek q e0;generalize us A = Z at *;generalize S.getD i 0 = sv at *;generalize ints (S.take i) = TT at *;unfold lQMX1;simp [rQMX0,rQMX1,rQMX2,rQMX3,rQMX4,rQMX5,rQMX6,rQMX7,rQMX8,rQMX9,rQMX10,rQMX11,h1,h1',hlt,hw,i1,gi,gi',ti,lt,inn,Nat.le_of_lt hlt,blk,eds_length,eds_get,edsAt,edAV,allLeaf_eds,cleanL_eds,cleanL_ints,ints_length,ints_get,intsAt,endL,finB]
   | false =>
     rw [q,if_neg (by decide)] at inn;rw [Bool.false_and,if_neg (by decide)];refine loop_ret ?_;clear ih ek q e0;generalize us A = Z at *;generalize S.getD i 0 = sv at *;generalize ints (S.take i) = TT at *;unfold lQMX1;simp [rQMX0,rQMX1,rQMX2,rQMX3,rQMX4,rQMX5,rQMX6,rQMX7,rQMX8,rQMX9,rQMX10,rQMX11,h1,h1',hlt,hw,i1,gi,gi',ti,lt,inn,Nat.le_of_lt hlt,blk,eds_length,eds_get,edsAt,edAV,allLeaf_eds,cleanL_eds,cleanL_ints,ints_length,ints_get,intsAt,endL,finB]
theorem okK_iff {A : List Nat} {S : List Int} : ∀ (k i : Nat),okK A S i k = true ↔ ∀ j,i <= j -> j < i + k -> okAt A S j = true
 | 0,i => ⟨fun _ j h1 h2 => by omega,fun _ => rfl⟩
 | k + 1,i => by
   unfold okK;rw [Bool.and_eq_true,okK_iff k (i + 1)];constructor
   ·rintro ⟨h1,h2⟩ j h3 h4;by_cases e : j = i
    ·rw [e]; exact h1
    ·exact h2 j (by omega) (by omega)
   ·intro h;exact ⟨h i (by omega) (by omega),fun j h3 h4 => h j (by omega) (by omega)⟩
theorem okK_jn {N : Nat} {Es : List Ed} (h : GOK (N : Int) Es) {S : List Int} (hb : ∀ v ∈ S,0 <= v /\ v < (N : Int)) : okK (adjE N Es) S 0 S.length = true ↔ S.Pairwise (jn Es) := by
 rw [okK_iff,List.pairwise_iff_getElem]
 have key : ∀ (i j : Nat) (hi : i < S.length) (hj : j < S.length),((adjE N Es).getD (S.getD j 0).toNat 0).testBit S[i].toNat = true ↔ jn Es S[i] S[j] := by
  intro i j hi hj;have ej : S.getD j 0 = S[j] := by rw [List.getD_eq_getElem?_getD,List.getElem?_eq_getElem hj]; rfl
  have bi := hb S[i] (List.getElem_mem hi);have bj := hb S[j] (List.getElem_mem hj);rw [ej,adj_bit h bj.1,show ((S[i].toNat : Nat) : Int) = S[i] by omega];exact ⟨jn_symm,jn_symm⟩
 constructor
 ·intro k i j hi hj hij;have := k j (by omega) (by omega);unfold okAt at this;rw [List.all_eq_true] at this;exact (key i j hi hj).1 (this S[i] (List.mem_take_iff_getElem.2 ⟨i,by omega,rfl⟩))
 ·intro k j _ hj;have hj : j < S.length := by omega
  unfold okAt;rw [List.all_eq_true];intro w hw;obtain ⟨i,hi,rfl⟩ := List.mem_take_iff_getElem.1 hw;have hi2 : i < j /\ i < S.length := by omega
  exact (key i j hi2.2 hj).2 (k i j hi2.2 hj hi2.1)
def isB (N : Nat) (Es : List Ed) (S : List Int) : Bool := valGo (N : Int) (-1) S && decide (S.Pairwise (jn Es))
theorem isB_iff {N : Nat} {Es : List Ed} {S : List Int} : isB N Es S = true ↔ IsC N Es S := by
 unfold isB;rw [Bool.and_eq_true,decide_eq_true_eq,valGo_iff];constructor
 ·rintro ⟨⟨h1,h2⟩,h3⟩;exact ⟨h1,fun x hx => (h2 x hx).2,h3⟩
 ·rintro ⟨h1,h2,h3⟩;exact ⟨⟨h1,fun x hx => by have := h2 x hx; omega⟩,h3⟩
theorem is_run {N : Nat} {Es : List Ed} (h : GOK (N : Int) Es) (hE : Es.length < 4294967295) (S : List Int) (hS : S.length < 4294967295) : callL cfgS nQn [.agg [.int .i64 N,.list 2 (eds Es)],.list 1 (ints S)] [] = some (.bool (isB N Es S),[]) := by
 rw [callL_end oQn sQn (Nat.le_of_ble_eq_true rfl)];have c1 := gchk_run (N : Int) Es (by omega);rw [chkG_zero.2 h] at c1;have v := nvalid_run (N : Int) S (by omega);have m := msks_run h hE;unfold isB;by_cases k : valGo (N : Int) (-1) S = true
 ·have hb : ∀ v ∈ S,0 <= v /\ v < (N : Int) := fun x hx => (((valGo_iff (N : Int)).1 k).2 x hx).2;have ga := gadj h;have hn := gok_n h;have cl := clq_out (adjE N Es) ga.2.1 S hS (by rw [ga.1]; exact hb) (by rw [ga.1]; exact hn) S.length 0 (by omega);rw [nat0] at cl
  have clr : callL cfgS nQM [.list 1 (us (adjE N Es)),.list 1 (ints S)] [] = some (.bool (okK (adjE N Es) S 0 S.length),[]) := by
   rw [callL_end oQM sQM (Nat.le_of_ble_eq_true rfl)];cases q : okK (adjE N Es) S 0 S.length with
   | true =>
     rw [q,if_pos rfl] at cl;generalize us (adjE N Es) = Z at *;unfold qQM cQM;simp [rQMX0,rQMX1,rQMX2,rQMX3,rQMX4,rQMX5,rQMX6,rQMX7,rQMX8,rQMX9,rQMX10,rQMX11,cl,blk,eds_length,eds_get,edsAt,edAV,allLeaf_eds,cleanL_eds,cleanL_ints,ints_length,ints_get,intsAt,endL,finB]
   | false =>
     rw [q,if_neg (by decide)] at cl;generalize us (adjE N Es) = Z at *;unfold qQM cQM;simp [rQMX0,rQMX1,rQMX2,rQMX3,rQMX4,rQMX5,rQMX6,rQMX7,rQMX8,rQMX9,rQMX10,rQMX11,cl,blk,eds_length,eds_get,edsAt,edAV,allLeaf_eds,cleanL_eds,cleanL_ints,ints_length,ints_get,intsAt,endL,finB]
  have e : okK (adjE N Es) S 0 S.length = decide (S.Pairwise (jn Es)) := by
   rw [Bool.eq_iff_iff,decide_eq_true_eq]; exact okK_jn h hb
  rw [e] at clr;rw [k] at v;rw [k,Bool.true_and];clear cl e;generalize decide (S.Pairwise (jn Es)) = d at *;generalize us (adjE N Es) = Z at *;unfold qQn cQn;cases d <;> simp [rQnX0,rQnX1,c1,v,m,clr,sQz,iQz,vQz,lQz,sQL,iQL,vQL,lQL,sQA,iQA,vQA,lQA,sQM,iQM,vQM,lQM,cleanL_eds,cleanL_ints,cleanL_us,blk,eds_length,eds_get,edsAt,edAV,allLeaf_eds,cleanL_eds,cleanL_ints,ints_length,ints_get,intsAt,endL,finB]
 ·have k : valGo (N : Int) (-1) S = false := by simpa using k
  rw [k] at v;rw [k,Bool.false_and];unfold qQn cQn;simp [rQnX0,rQnX1,c1,v,sQz,iQz,vQz,lQz,sQL,iQL,vQL,lQL,cleanL_eds,cleanL_ints,blk,eds_length,eds_get,edsAt,edAV,allLeaf_eds,cleanL_eds,cleanL_ints,ints_length,ints_get,intsAt,endL,finB]
def maxB (N : Nat) (Es : List Ed) (S : List Int) : Bool := (!decide (S = [])) && (isB N Es S && decide (cn N Es S = 0))
theorem max_run {N : Nat} {Es : List Ed} (h : GOK (N : Int) Es) (hE : Es.length < 4294967295) (S : List Int) (hS : S.length < 4294967295) : callL cfgS nQp [.agg [.int .i64 N,.list 2 (eds Es)],.list 1 (ints S)] [] = some (.bool (maxB N Es S),[]) := by
 rw [callL_end oQp sQp (Nat.le_of_ble_eq_true rfl)];have i := is_run h hE S hS;have m := msks_run h hE;unfold maxB;by_cases k0 : S = []
 ·subst k0;rw [ints_nil];unfold qQp cQp;simp [rQpX0,rQpX1,ints_nil,blk,eds_length,eds_get,edsAt,edAV,allLeaf_eds,cleanL_eds,cleanL_ints,ints_length,ints_get,intsAt,endL,finB]
 have l0 : (0 : Int) < S.length := by have := List.length_pos_iff.2 k0; omega
 have l1 : 0 < S.length := List.length_pos_iff.2 k0;by_cases k : isB N Es S = true
 ·have hc := isB_iff.1 k;have cm := comm_run h S hS hc.bd
  have z : decide (((cn N Es S : Nat) : Int) = 0) = decide (cn N Es S = 0) := by
   rw [Bool.eq_iff_iff,decide_eq_true_eq,decide_eq_true_eq]; omega
  rw [k] at i;rw [k,<- z];clear z;generalize ((cn N Es S : Nat) : Int) = q at *;generalize us (adjE N Es) = Z at *;unfold qQp cQp;simp [rQpX0,rQpX1,l0,l1,k0,i,m,cm,beqI,sQn,iQn,vQn,lQn,sQA,iQA,vQA,lQA,sQC,iQC,vQC,lQC,cleanL_eds,cleanL_ints,cleanL_us,blk,eds_length,eds_get,edsAt,edAV,allLeaf_eds,cleanL_eds,cleanL_ints,ints_length,ints_get,intsAt,endL,finB]
 ·have k : isB N Es S = false := by simpa using k
  rw [k] at i;rw [k];unfold qQp cQp;simp [rQpX0,rQpX1,l0,l1,k0,i,sQn,iQn,vQn,lQn,cleanL_eds,cleanL_ints,blk,eds_length,eds_get,edsAt,edAV,allLeaf_eds,cleanL_eds,cleanL_ints,ints_length,ints_get,intsAt,endL,finB]
theorem ext_loop {N : Nat} {Es : List Ed} (h : GOK (N : Int) Es) : ∀ (n : Nat) (P : List Int),IsQ N Es P -> (bitL (cn N Es P)).length <= n -> P.length <= 64 -> codeL cfgS 0 (.loop lQjX0) ⟨[(7,.list 1 (us (adjE N Es))),(8,.own 1 (ints P)),(9,.int .u64 (cn N Es P : Nat))],[]⟩ =
  some (.exit 0,⟨[(7,.list 1 (us (adjE N Es))),(8,.own 1 (ints (P ++ gr (adjE N Es) n (cn N Es P)))),(9,.int .u64 (0 : Nat)),(31,.bool false)],[]⟩)
 | n,P,hP,hn,hl => by
   by_cases h0 : cn N Es P = 0
   ·have : gr (adjE N Es) n (cn N Es P) = [] := by
     cases n with
     | zero => rfl
     | succ n => simp [gr,h0]
    rw [this,List.append_nil,h0];generalize us (adjE N Es) = Z at *;exact loop_exit (by unfold lQjX0; simp [rQjX0,rQjX1,rQjX2,rQjX3,rQjX4,rQjX5,rQjX6,rQjX7,rQjX8,rQjX9,rQjX10,rQjX11,rQjX12,rQjX13,rQjX14,rQjX15,blk,eds_length,eds_get,edsAt,edAV,allLeaf_eds,cleanL_eds,cleanL_ints,ints_length,ints_get,intsAt,endL,finB])
   ·obtain ⟨v,ev,hv,hq,he,hs,hlt⟩ := gr_step h hP h0;have hcl := cn_lt h P;cases n with
    | zero => omega
    | succ n =>
      have lq : (P ++ [v]).length <= 64 := by
       have nd := isQ_nodup h hq;have s1 := isort_up nd
       have := up_len s1.1 (fun x hx => by
        have := hq.bd x ((s1.2 x).1 hx); have := gok_n h; omega)
       rwa [isort_length] at this
      have ih := ext_loop h n (P ++ [v]) hq (by omega) lq
      have eg : gr (adjE N Es) (n + 1) (cn N Es P) = v :: gr (adjE N Es) n (cn N Es (P ++ [v])) := by
       conv => lhs; unfold gr
       rw [if_neg h0,he,<- ev]
      rw [eg,show P ++ v :: gr (adjE N Es) n (cn N Es (P ++ [v])) = (P ++ [v]) ++ gr (adjE N Es) n (cn N Es (P ++ [v])) by simp];refine (loop_next ?_).trans ih;have vb := (cnL_mem h (fun x hx => (hP.bd x hx).1) v).1 hv;have ht := tz_run (cn N Es P) h0 hcl;rw [<- ev] at ht;have ra := getD_lt (gadj h).2.1 v.toNat;have w1 := u64_and_nat (cn N Es P) ((adjE N Es).getD v.toNat 0) hcl ra;rw [<- cn_snoc] at w1;have i2 := idx_lt (k := .i64) (i := v) (n := (adjE N Es).length) vb.1.1 (by rw [(gadj h).1]; exact vb.1.2)
      have g2 : (us (adjE N Es))[v.toNat]? = some (.int .u64 ((adjE N Es).getD v.toNat 0 : Nat)) := by
       have := (gadj h).1;have := vb.1;rw [us_get,List.getD_eq_getElem?_getD,List.getElem?_eq_getElem (by omega)]; rfl
      have g2' : ∀ h : v.toNat < (us (adjE N Es)).length,(us (adjE N Es))[v.toNat] = .int .u64 ((adjE N Es).getD v.toNat 0 : Nat) := fun h => by rw [List.getElem?_eq_getElem h] at g2; exact Option.some.inj g2
      have elA := us_length (adjE N Es);have n0 : ¬ ((cn N Es P : Nat) : Int) = 0 := by omega
      have hL : P.length + 1 <= 4294967296 := by omega
      clear ih eg he hs hlt;generalize ((cn N Es (P ++ [v]) : Nat) : Int) = q2 at *;generalize ((cn N Es P : Nat) : Int) = q1 at *;generalize (((adjE N Es).getD v.toNat 0 : Nat) : Int) = r at *;generalize us (adjE N Es) = Z at *;unfold lQjX0;simp [rQjX0,rQjX1,rQjX2,rQjX3,rQjX4,rQjX5,rQjX6,rQjX7,rQjX8,rQjX9,rQjX10,rQjX11,rQjX12,rQjX13,rQjX14,rQjX15,n0,ht,w1,i2,g2,g2',elA,hL,LIM,ints_snoc,ints_take,sQD,iQD,vQD,lQD,blk,eds_length,eds_get,edsAt,edAV,allLeaf_eds,cleanL_eds,cleanL_ints,ints_length,ints_get,intsAt,endL,finB]
theorem srtG_ints' (l : List Int) (h : l.length <= 4294967296) : srtG 1 (ints l) [] = some (ints (isort l),none) := by
 unfold srtG;rw [if_pos (by rw [ints_length]; exact h)];show (match intsOf (l.map (AV.int .i64)) with | some zs => some ((isort zs).map (AV.int .i64),none) | none => none) = _;rw [intsOf_ints];rfl
theorem ext_run {N : Nat} {Es : List Ed} (h : GOK (N : Int) Es) (hN : 0 < N) (hE : Es.length < 4294967295) (S : List Int) (hc : IsC N Es S) : callL cfgS nQj [.agg [.int .i64 N,.list 2 (eds Es)],.list 1 (ints S)] [] = some (.tup [.list 1 (ints (extK N Es S)),.int .i64 0],[]) := by
 rw [callL_end oQj sQj (Nat.le_of_ble_eq_true rfl)];have lS : S.length <= 64 := up_len hc.up (isC_bd h hc);have c1 := gchk_run (N : Int) Es (by omega);rw [chkG_zero.2 h] at c1;have i := is_run h hE S (by omega);rw [isB_iff.2 hc] at i;have m := msks_run h hE;have cm := comm_run h S (by omega) hc.bd;have elA := ext_loop h 64 S hc.q (bitL_len _) lS;have eg : S ++ gr (adjE N Es) 64 (cn N Es S) = S ++ grd N Es S := rfl;rw [eg,nat0] at elA
 have lx : (S ++ grd N Es S).length <= 64 := by
  have := up_len (extK_spec h hc.q).1 (isC_bd h (extK_spec h hc.q).2.2.1);unfold extK at this
  rwa [isort_length] at this
 have so := srtG_ints' (S ++ grd N Es S) (by omega);have ex : isort (S ++ grd N Es S) = extK N Es S := rfl;have lex : (extK N Es S).length = (S ++ grd N Es S).length := by unfold extK; exact isort_length _
 rw [ex] at so;have n0 : ¬ (N : Int) = 0 := by omega
 have n1 : ¬ N = 0 := by omega
 have tk1 := ints_tk (S ++ grd N Es S);have tk2 := ints_tk (extK N Es S);have tk3 : (ints (extK N Es S)).take (S ++ grd N Es S).length = ints (extK N Es S) := by rw [<- lex]; exact tk2
 have ln1 := ints_length (S ++ grd N Es S);have ln2 := ints_length (extK N Es S);by_cases k0 : S = []
 ·have cl : callL cfgS nQB [.list 1 []] [] = some (.own 1 [],[]) := callL_orc (by unfold orcA; rw [oQB]; rfl);subst k0;rw [ints_nil] at *;have z : ((cn N Es [] : Nat) : Int) = ((cn N Es [] : Nat) : Int) := rfl;generalize ((cn N Es [] : Nat) : Int) = q at *;generalize us (adjE N Es) = Z at *;generalize [] ++ grd N Es [] = W at *;generalize extK N Es [] = Y at *;unfold qQj cQj;simp [rQjX0,rQjX1,rQjX2,rQjX3,rQjX4,rQjX5,rQjX6,rQjX7,rQjX8,rQjX9,rQjX10,rQjX11,rQjX12,rQjX13,rQjX14,rQjX15,c1,i,m,cm,cl,elA,so,n0,n1,lex,tk1,tk2,tk3,ln1,ln2,List.drop_length,sQz,iQz,vQz,lQz,sQn,iQn,vQn,lQn,sQA,iQA,vQA,lQA,sQC,iQC,vQC,lQC,sQB,iQB,vQB,lQB,iQE,vQE,lQE,cleanL_eds,cleanL_ints,cleanL_us,blk,eds_length,eds_get,edsAt,edAV,allLeaf_eds,cleanL_eds,cleanL_ints,ints_length,ints_get,intsAt,endL,finB]
 ·have cl := clone_ne k0 (by omega);generalize ((cn N Es S : Nat) : Int) = q at *;generalize us (adjE N Es) = Z at *;generalize S ++ grd N Es S = W at *;generalize extK N Es S = Y at *;have tk0 := ints_tk S;unfold qQj cQj;simp [rQjX0,rQjX1,rQjX2,rQjX3,rQjX4,rQjX5,rQjX6,rQjX7,rQjX8,rQjX9,rQjX10,rQjX11,rQjX12,rQjX13,rQjX14,rQjX15,c1,i,m,cm,cl,elA,so,n0,n1,lex,tk0,tk1,tk2,tk3,ln1,ln2,List.drop_length,sQz,iQz,vQz,lQz,sQn,iQn,vQn,lQn,sQA,iQA,vQA,lQA,sQC,iQC,vQC,lQC,sQB,iQB,vQB,lQB,iQE,vQE,lQE,cleanL_eds,cleanL_ints,cleanL_us,blk,eds_length,eds_get,edsAt,edAV,allLeaf_eds,cleanL_eds,cleanL_ints,ints_length,ints_get,intsAt,endL,finB]
end Go.BmP
