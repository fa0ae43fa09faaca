/- What cliques.masks and all return. -/
import Derived.Test.YtoobjomjclombaaDoorUseM
import Derived.Test.YtoobjomjclombaaDoorMxG
import Derived.Test.YtoobjomjclombaaDoorL01
import Derived.Test.YtoobjomjclombaaDoorMxQ
import Derived.Test.YtoobjomjclombaaDoorMxW
set_option linter.unusedSimpArgs false
set_option linter.unusedVariables false
set_option maxRecDepth 100000
set_option maxHeartbeats 4000000
namespace Go.BmP
open Go.Am Go.Bm
theorem msks_loop (N : Nat) (hN : N <= 64) (Es : List Ed) (hE : Es.length < 4294967295) (hv : ∀ e ∈ Es,0 <= e.1 /\ e.1 < e.2 /\ e.2 < (N : Int)) : ∀ (k i : Nat) (A : List Nat),i + k = Es.length -> A.length = N -> Small A -> codeL cfgS 0 (.loop lQNX0) ⟨[(3,.own 1 (us A)),(10,.list 2 (eds Es)),(11,.int .i64 Es.length),(12,.int .i64 i)],[]⟩ =
  some (.exit 0,⟨[(3,.own 1 (us (adjOf (Es.drop i) A))),(10,.list 2 (eds Es)),(11,.int .i64 Es.length),(12,.int .i64 Es.length),(13,.bool false)],[]⟩)
 | 0,i,A,hi,hA,hS => by
   obtain rfl : i = Es.length := by omega
   rw [List.drop_length]
   exact loop_exit (by unfold lQNX0; simp [rQNX0,rQNX1,rQNX2,rQNX3,rQNX4,rQNX5,rQNX6,rQNX7,rQNX8,adjOf,List.foldl_nil,blk,eds_length,eds_get,edsAt,edAV,allLeaf_eds,cleanL_eds,cleanL_ints,ints_length,ints_get,intsAt,endL,finB])
 | k + 1,i,A,hi,hA,hS => by
   have hlt : i < Es.length := by omega
   have h1 : (i : Int) < Es.length := by omega
   have hw := wrapS (i := i) (by omega)
   obtain ⟨u0,uv,vn⟩ := hv Es[i] (List.getElem_mem hlt)
   have ih := msks_loop N hN Es hE hv k (i + 1) (adF A Es[i]) (by omega) (by rw [adF_length]; exact hA) (adF_small hS (by omega) (by omega))
   rw [List.drop_eq_getElem_cons hlt]
   have v0 : 0 <= Es[i].2 := by omega
   have un : Es[i].1 < (N : Int) := by omega
   have u0' : ¬ Es[i].1 < 0 := by omega
   have v0' : ¬ Es[i].2 < 0 := by omega
   have uN : Es[i].1.toNat < N := by omega
   have vN : Es[i].2.toNat < N := by omega
   have pu := pow_lt64 (v := Es[i].1) (by omega) u0
   have pv := pow_lt64 (v := Es[i].2) (by omega) v0
   have su := shlU (v := Es[i].1) u0 (by omega)
   have sv := shlU (v := Es[i].2) v0 (by omega)
   have su' : IntKind.u64.wrap (2 ^ (min Es[i].1.toNat 64)) = ((2 ^ Es[i].1.toNat : Nat) : Int) := by rw [<- su,Int.one_mul]
   have sv' : IntKind.u64.wrap (2 ^ (min Es[i].2.toNat 64)) = ((2 ^ Es[i].2.toNat : Nat) : Int) := by rw [<- sv,Int.one_mul]
   have gu : (us A)[Es[i].1.toNat]? = some (.int .u64 (A.getD Es[i].1.toNat 0 : Nat)) := by
    rw [us_get,List.getD_eq_getElem?_getD,List.getElem?_eq_getElem (by omega)]; rfl
   have xu := getD_lt hS Es[i].1.toNat
   have ou := u64_or_nat (A.getD Es[i].1.toNat 0) (2 ^ Es[i].2.toNat) xu pv
   have eu := us_set A Es[i].1.toNat (A.getD Es[i].1.toNat 0 ||| 2 ^ Es[i].2.toNat)
   have sm : Small (A.set Es[i].1.toNat (A.getD Es[i].1.toNat 0 ||| 2 ^ Es[i].2.toNat)) := set_small hS (Nat.or_lt_two_pow (n := 64) xu pv)
   have eln : (A.set Es[i].1.toNat (A.getD Es[i].1.toNat 0 ||| 2 ^ Es[i].2.toNat)).length = N := by rw [List.length_set]; exact hA
   have ead : adjOf (Es[i] :: Es.drop (i + 1)) A = adjOf (Es.drop (i + 1)) (adF A Es[i]) := rfl
   rw [ead]
   have eA : adF A Es[i] = (A.set Es[i].1.toNat (A.getD Es[i].1.toNat 0 ||| 2 ^ Es[i].2.toNat)).set Es[i].2.toNat ((A.set Es[i].1.toNat (A.getD Es[i].1.toNat 0 ||| 2 ^ Es[i].2.toNat)).getD Es[i].2.toNat 0 ||| 2 ^ Es[i].1.toNat) := rfl
   rw [eA] at ih ⊢
   generalize hA1 : A.set Es[i].1.toNat (A.getD Es[i].1.toNat 0 ||| 2 ^ Es[i].2.toNat) = A1 at *
   have gv : (us A1)[Es[i].2.toNat]? = some (.int .u64 (A1.getD Es[i].2.toNat 0 : Nat)) := by
    rw [us_get,List.getD_eq_getElem?_getD,List.getElem?_eq_getElem (by omega)]; rfl
   have ov := u64_or_nat (A1.getD Es[i].2.toNat 0) (2 ^ Es[i].1.toNat) (getD_lt sm _) pu
   have ev := us_set A1 Es[i].2.toNat (A1.getD Es[i].2.toNat 0 ||| 2 ^ Es[i].1.toNat)
   generalize A1.getD Es[i].2.toNat 0 ||| 2 ^ Es[i].1.toNat = q at *
   generalize A.getD Es[i].1.toNat 0 ||| 2 ^ Es[i].2.toNat = p at *
   generalize A1.getD Es[i].2.toNat 0 = y at *
   generalize A.getD Es[i].1.toNat 0 = x at *
   generalize 2 ^ Es[i].1.toNat = pU at *
   generalize 2 ^ Es[i].2.toNat = pV at *
   clear pu pv xu sm eA ead hA1
   have gu' : ∀ h : Es[i].1.toNat < (us A).length,(us A)[Es[i].1.toNat] = .int .u64 (x : Int) := fun h => by rw [List.getElem?_eq_getElem h] at gu; exact Option.some.inj gu
   have gv' : ∀ h : Es[i].2.toNat < (us A1).length,(us A1)[Es[i].2.toNat] = .int .u64 (y : Int) := fun h => by rw [List.getElem?_eq_getElem h] at gv; exact Option.some.inj gv
   refine (loop_next (s' := ⟨[(3,.own 1 (us (A1.set Es[i].2.toNat q))),(10,.list 2 (eds Es)),(11,.int .i64 Es.length),(12,.int .i64 ((i + 1 : Nat) : Int))],[]⟩) ?_).trans ih
   unfold lQNX0
   simp [rQNX0,rQNX1,rQNX2,rQNX3,rQNX4,rQNX5,rQNX6,rQNX7,rQNX8,h1,hlt,hw,u0,v0,u0',v0',un,vn,uN,vN,su,sv,su',sv',gu,gv,gu',gv',ou,ov,eu,ev,hA,eln,us_length,idx,IntKind.bits,fz,pl,AV.leaf,blk,eds_length,eds_get,edsAt,edAV,allLeaf_eds,cleanL_eds,cleanL_ints,ints_length,ints_get,intsAt,endL,finB]
theorem msks_run {N : Nat} {Es : List Ed} (h : GOK (N : Int) Es) (hE : Es.length < 4294967295) : callL cfgS nQN [.agg [.int .i64 N,.list 2 (eds Es)]] [] = some (.list 1 (us (adjE N Es)),[]) := by
 rw [callL_end oQN sQN (Nat.le_of_ble_eq_true rfl)]
 have hn := gok_n h
 have hl := msks_loop N hn Es hE h.2.2 Es.length 0 (List.replicate N 0) (by omega) (by simp) (fun x hx => by have := List.eq_of_mem_replicate hx; omega)
 rw [nat0,List.drop_zero] at hl
 have r1 : List.replicate N (AV.int .u64 0) = us (List.replicate N 0) := us_rep N
 have n0 : ¬ (N : Int) < 0 := by omega
 have nL : (N : Int) <= 4294967296 := by omega
 have ea : adjOf Es (List.replicate N 0) = adjE N Es := rfl
 rw [ea] at hl
 have tk : (us (adjE N Es)).take (adjE N Es).length = us (adjE N Es) := by rw [us_take,List.take_length]
 have e := (gadj h).1
 have tkr : (us (List.replicate N 0)).take N = us (List.replicate N 0) := by
  have := List.take_length (l := us (List.replicate N 0))
  rwa [us_length,List.length_replicate] at this
 rw [e] at tk
 unfold qQN cQN
 simp [rQNX0,rQNX1,rQNX2,rQNX3,rQNX4,rQNX5,rQNX6,rQNX7,rQNX8,hl,r1,tkr,e,List.length_replicate,n0,nL,us_length,tk,LIM,blk,eds_length,eds_get,edsAt,edAV,allLeaf_eds,cleanL_eds,cleanL_ints,ints_length,ints_get,intsAt,endL,finB]
/- What cliques.masks and all return. -/
/- What cliques.Is, Maximal and Extend return of a graph. -/
def okAt (A : List Nat) (S : List Int) (i : Nat) : Bool := (S.take i).all fun w => (A.getD (S.getD i 0).toNat 0).testBit w.toNat
theorem shrb (M : Nat) (u : Int) (h0 : 0 <= u) (h1 : u < 64) : binA .shr (.int .u64 (M : Int)) (.int .i64 u) = some (.int .u64 ((M / 2 ^ u.toNat : Nat) : Int)) := by
 unfold binA
 simp only
 rw [if_neg (by omega),show min u.toNat IntKind.u64.bits = u.toNat by (show min u.toNat 64 = u.toNat); omega,powc,Int.fdiv_eq_ediv_of_nonneg _ (Int.natCast_nonneg _)]
 rfl
theorem oneb (M : Nat) (u : Int) (h0 : 0 <= u) (hM : M < 18446744073709551616) : binA .and (.int .u64 ((M / 2 ^ u.toNat : Nat) : Int)) (.int .u64 1) = some (.int .u64 (if M.testBit u.toNat = true then 1 else 0)) := by
 have hd : M / 2 ^ u.toNat <= M := Nat.div_le_self _ _
 have h := bin_and (M / 2 ^ u.toNat) 1 (by omega) (by decide)
 have e : (((M / 2 ^ u.toNat) &&& 1 : Nat) : Int) = if M.testBit u.toNat = true then 1 else 0 := by
  rw [Nat.and_one_is_mod,Nat.testBit_eq_decide_div_mod_eq]
  by_cases k : M / 2 ^ u.toNat % 2 = 1
  ·simp [k]
  ·simp only [k,decide_false,Bool.false_eq_true,if_false]; omega
 rw [e] at h
 exact h
theorem clq_in (A : List Nat) (hA : Small A) (S : List Int) (hS : S.length < 4294967295) (hb : ∀ v ∈ S,0 <= v /\ v < (A.length : Int)) (hA64 : A.length <= 64) (i : Nat) (hi : i < S.length) : ∀ (k j : Nat),j + k = i -> codeL cfgS 0 (.loop lQMX0) ⟨[(0,.list 1 (us A)),(1,.list 1 (ints S)),(6,.int .i64 (S.getD i 0)),(9,.list 1 (ints S)),(10,.int .i64 S.length),(11,.int .i64 i),(18,.list 1 (ints (S.take i))),(19,.int .i64 i),(20,.int .i64 j)],[]⟩ =
  if ((S.take i).drop j).all (fun w => (A.getD (S.getD i 0).toNat 0).testBit w.toNat) = true then some (.exit 2,⟨[(0,.list 1 (us A)),(1,.list 1 (ints S)),(6,.int .i64 (S.getD i 0)),(9,.list 1 (ints S)),(10,.int .i64 S.length),(11,.int .i64 i),(18,.list 1 (ints (S.take i))),(19,.int .i64 i),(20,.int .i64 i),(21,.bool false)],[]⟩) else some (.ret,⟨[(4,.bool false)],[]⟩)
 | 0,j,hj => by
   obtain rfl : j = i := by omega
   have : (S.take j).drop j = [] := List.drop_eq_nil_of_le (by simp; omega)
   rw [this,List.all_nil,if_pos rfl]
   exact loop_exit (by unfold lQMX0; simp [rQMX0,rQMX1,rQMX2,rQMX3,rQMX4,rQMX5,rQMX6,rQMX7,rQMX8,rQMX9,rQMX10,rQMX11,blk,eds_length,eds_get,edsAt,edAV,allLeaf_eds,cleanL_eds,cleanL_ints,ints_length,ints_get,intsAt,endL,finB])
 | k + 1,j,hj => by
   have hlt : j < i := by omega
   have hlS : j < S.length := by omega
   have h1 : (j : Int) < i := by omega
   have hw := wrapS (i := j) (by omega)
   have lt : (S.take i).length = i := by simp; omega
   have ih := clq_in A hA S hS hb hA64 i hi k (j + 1) (by omega)
   have gj : (S.take i)[j]'(by omega) = S[j] := by simp
   rw [List.drop_eq_getElem_cons (by omega),List.all_cons,gj]
   obtain ⟨b0,b1⟩ := hb S[j] (List.getElem_mem hlS)
   have hSi : S.getD i 0 ∈ S := by
    rw [List.getD_eq_getElem?_getD,List.getElem?_eq_getElem hi]
    exact List.getElem_mem hi
   obtain ⟨c0,c1⟩ := hb _ hSi
   have i1 := idx_lt (k := .i64) (i := (j : Int)) (n := i) (by omega) h1
   have i2 := idx_lt (k := .i64) (i := S.getD i 0) (n := A.length) c0 c1
   have g2 : (us A)[(S.getD i 0).toNat]? = some (.int .u64 (A.getD (S.getD i 0).toNat 0 : Nat)) := by
    rw [us_get,List.getD_eq_getElem?_getD (l := A),List.getElem?_eq_getElem (by omega)]; rfl
   have g2' : ∀ h : (S.getD i 0).toNat < (us A).length,(us A)[(S.getD i 0).toNat] = .int .u64 (A.getD (S.getD i 0).toNat 0 : Nat) := fun h => by rw [List.getElem?_eq_getElem h] at g2; exact Option.some.inj g2
   have elA := us_length A
   have ra := getD_lt hA (S.getD i 0).toNat
   have s1 := shrb (A.getD (S.getD i 0).toNat 0) S[j] b0 (by omega)
   have s2 := oneb (A.getD (S.getD i 0).toNat 0) S[j] b0 ra
   have gt : (ints (S.take i))[j]? = some (.int .i64 S[j]) := by rw [ints_get,List.getElem?_eq_getElem (by omega),gj]; rfl
   have gt' : ∀ h : j < (ints (S.take i)).length,(ints (S.take i))[j] = .int .i64 S[j] := fun h => by rw [List.getElem?_eq_getElem h] at gt; exact Option.some.inj gt
   have elt : (ints (S.take i)).length = i := by rw [ints_length]; exact lt
   generalize ((A.getD (S.getD i 0).toNat 0 / 2 ^ S[j].toNat : Nat) : Int) = q1 at *
   cases tb : (A.getD (S.getD i 0).toNat 0).testBit S[j].toNat with
   | true =>
     rw [tb,if_pos rfl] at s2
     rw [Bool.true_and]
     refine (loop_next ?_).trans ih
     clear ih tb
     generalize ((A.getD (S.getD i 0).toNat 0 : Nat) : Int) = p at *
     generalize S.getD i 0 = sv at *
     generalize us A = Z at *
     generalize hT : ints (S.take i) = TT at *
     have q2 : binA .eql (.int .u64 1) (.int .u64 0) = some (.bool false) := rfl
     unfold lQMX0
     simp [rQMX0,rQMX1,rQMX2,rQMX3,rQMX4,rQMX5,rQMX6,rQMX7,rQMX8,rQMX9,rQMX10,rQMX11,h1,hlt,i1,i2,g2,g2',elA,gt,gt',elt,s1,s2,q2,show binA .lss (.int .i64 (j : Int)) (.int .i64 (i : Int)) = some (.bool true) from (by simp [binA,arith,h1]),show binA .add (.int .i64 (j : Int)) (.int .i64 1) = some (.int .i64 ((j + 1 : Nat) : Int)) from (by simp [binA,arith,hw]),blk,eds_length,eds_get,edsAt,edAV,allLeaf_eds,cleanL_eds,cleanL_ints,ints_length,ints_get,intsAt,endL,finB,-binA]
   | false =>
     rw [tb,if_neg (by decide)] at s2
     rw [Bool.false_and,if_neg (by decide)]
     refine loop_ret ?_
     clear ih tb
     generalize ((A.getD (S.getD i 0).toNat 0 : Nat) : Int) = p at *
     generalize S.getD i 0 = sv at *
     generalize us A = Z at *
     generalize hT : ints (S.take i) = TT at *
     have q2 : binA .eql (.int .u64 0) (.int .u64 0) = some (.bool true) := rfl
     unfold lQMX0
     simp [rQMX0,rQMX1,rQMX2,rQMX3,rQMX4,rQMX5,rQMX6,rQMX7,rQMX8,rQMX9,rQMX10,rQMX11,h1,hlt,i1,i2,g2,g2',elA,gt,gt',elt,s1,s2,q2,show binA .lss (.int .i64 (j : Int)) (.int .i64 (i : Int)) = some (.bool true) from (by simp [binA,arith,h1]),blk,eds_length,eds_get,edsAt,edAV,allLeaf_eds,cleanL_eds,cleanL_ints,ints_length,ints_get,intsAt,endL,finB,-binA]
/- What cliques.Is, Maximal and Extend return of a graph: the whole. -/
def okK (A : List Nat) (S : List Int) : Nat -> Nat -> Bool
 | _,0 => true
 | i,k + 1 => okAt A S i && okK A S (i + 1) k
theorem clq_out (A : List Nat) (hA : Small A) (S : List Int) (hS : S.length < 4294967295) (hb : ∀ v ∈ S,0 <= v /\ v < (A.length : Int)) (hA64 : A.length <= 64) : ∀ (k i : Nat),i + k = S.length -> codeL cfgS 0 (.loop lQMX1) ⟨[(0,.list 1 (us A)),(1,.list 1 (ints S)),(9,.list 1 (ints S)),(10,.int .i64 S.length),(11,.int .i64 i)],[]⟩ =
  if okK A S i k = true then some (.exit 0,⟨[(0,.list 1 (us A)),(1,.list 1 (ints S)),(9,.list 1 (ints S)),(10,.int .i64 S.length),(11,.int .i64 S.length),(12,.bool false)],[]⟩) else some (.ret,⟨[(4,.bool false)],[]⟩)
 | 0,i,hi => by
   obtain rfl : i = S.length := by omega
   rw [if_pos (show okK A S S.length 0 = true from rfl)]
   exact loop_exit (by unfold lQMX1; simp [rQMX0,rQMX1,rQMX2,rQMX3,rQMX4,rQMX5,rQMX6,rQMX7,rQMX8,rQMX9,rQMX10,rQMX11,blk,eds_length,eds_get,edsAt,edAV,allLeaf_eds,cleanL_eds,cleanL_ints,ints_length,ints_get,intsAt,endL,finB])
 | k + 1,i,hi => by
   have hlt : i < S.length := by omega
   have h1 : (i : Int) < S.length := by omega
   have h1' : (i : Int) <= S.length := by omega
   have hw := wrapS (i := i) (by omega)
   have ih := clq_out A hA S hS hb hA64 k (i + 1) (by omega)
   have inn := clq_in A hA S hS hb hA64 i hlt i 0 (by omega)
   rw [List.drop_zero] at inn
   have e0 : ((S.take i).all fun w => (A.getD (S.getD i 0).toNat 0).testBit w.toNat) = okAt A S i := rfl
   rw [e0,nat0] at inn
   have i1 := idx_lt (k := .i64) (i := (i : Int)) (n := S.length) (by omega) h1
   have gi : (ints S)[i]? = some (.int .i64 (S.getD i 0)) := by rw [ints_get,List.getD_eq_getElem?_getD,List.getElem?_eq_getElem hlt]; rfl
   have gi' : ∀ h : i < (ints S).length,(ints S)[i] = .int .i64 (S.getD i 0) := fun h => by rw [List.getElem?_eq_getElem h] at gi; exact Option.some.inj gi
   have ti := ints_take S i
   have lt : (ints (S.take i)).length = i := by rw [ints_length]; simp; omega
   have ek : okK A S i (k + 1) = (okAt A S i && okK A S (i + 1) k) := rfl
   rw [ek]
   cases q : okAt A S i with
   | true =>
     rw [q,if_pos rfl] at inn
     rw [Bool.true_and]
     refine (loop_next ?_).trans ih
     clear ih ek q e0
     generalize us A = Z at *
     generalize S.getD i 0 = sv at *
     generalize ints (S.take i) = TT at *
     unfold lQMX1
     simp [rQMX0,rQMX1,rQMX2,rQMX3,rQMX4,rQMX5,rQMX6,rQMX7,rQMX8,rQMX9,rQMX10,rQMX11,h1,h1',hlt,hw,i1,gi,gi',ti,lt,inn,Nat.le_of_lt hlt,blk,eds_length,eds_get,edsAt,edAV,allLeaf_eds,cleanL_eds,cleanL_ints,ints_length,ints_get,intsAt,endL,finB]
   | false =>
     rw [q,if_neg (by decide)] at inn
     rw [Bool.false_and,if_neg (by decide)]
     refine loop_ret ?_
     clear ih ek q e0
     generalize us A = Z at *
     generalize S.getD i 0 = sv at *
     generalize ints (S.take i) = TT at *
     unfold lQMX1
     simp [rQMX0,rQMX1,rQMX2,rQMX3,rQMX4,rQMX5,rQMX6,rQMX7,rQMX8,rQMX9,rQMX10,rQMX11,h1,h1',hlt,hw,i1,gi,gi',ti,lt,inn,Nat.le_of_lt hlt,blk,eds_length,eds_get,edsAt,edAV,allLeaf_eds,cleanL_eds,cleanL_ints,ints_length,ints_get,intsAt,endL,finB]
theorem okK_iff {A : List Nat} {S : List Int} : ∀ (k i : Nat),okK A S i k = true ↔ ∀ j,i <= j -> j < i + k -> okAt A S j = true
 | 0,i => ⟨fun _ j h1 h2 => by omega,fun _ => rfl⟩
 | k + 1,i => by
   unfold okK
   rw [Bool.and_eq_true,okK_iff k (i + 1)]
   constructor
   ·rintro ⟨h1,h2⟩ j h3 h4
    by_cases e : j = i
    ·rw [e]; exact h1
    ·exact h2 j (by omega) (by omega)
   ·intro h
    exact ⟨h i (by omega) (by omega),fun j h3 h4 => h j (by omega) (by omega)⟩
theorem okK_jn {N : Nat} {Es : List Ed} (h : GOK (N : Int) Es) {S : List Int} (hb : ∀ v ∈ S,0 <= v /\ v < (N : Int)) : okK (adjE N Es) S 0 S.length = true ↔ S.Pairwise (jn Es) := by
 rw [okK_iff,List.pairwise_iff_getElem]
 have key : ∀ (i j : Nat) (hi : i < S.length) (hj : j < S.length),((adjE N Es).getD (S.getD j 0).toNat 0).testBit S[i].toNat = true ↔ jn Es S[i] S[j] := by
  intro i j hi hj
  have ej : S.getD j 0 = S[j] := by rw [List.getD_eq_getElem?_getD,List.getElem?_eq_getElem hj]; rfl
  have bi := hb S[i] (List.getElem_mem hi)
  have bj := hb S[j] (List.getElem_mem hj)
  rw [ej,adj_bit h bj.1,show ((S[i].toNat : Nat) : Int) = S[i] by omega]
  exact ⟨jn_symm,jn_symm⟩
 constructor
 ·intro k i j hi hj hij
  have := k j (by omega) (by omega)
  unfold okAt at this
  rw [List.all_eq_true] at this
  exact (key i j hi hj).1 (this S[i] (List.mem_take_iff_getElem.2 ⟨i,by omega,rfl⟩))
 ·intro k j _ hj
  have hj : j < S.length := by omega
  unfold okAt
  rw [List.all_eq_true]
  intro w hw
  obtain ⟨i,hi,rfl⟩ := List.mem_take_iff_getElem.1 hw
  have hi2 : i < j /\ i < S.length := by omega
  exact (key i j hi2.2 hj).2 (k i j hi2.2 hj hi2.1)
def isB (N : Nat) (Es : List Ed) (S : List Int) : Bool := valGo (N : Int) (-1) S && decide (S.Pairwise (jn Es))
theorem isB_iff {N : Nat} {Es : List Ed} {S : List Int} : isB N Es S = true ↔ IsC N Es S := by
 unfold isB
 rw [Bool.and_eq_true,decide_eq_true_eq,valGo_iff]
 constructor
 ·rintro ⟨⟨h1,h2⟩,h3⟩
  exact ⟨h1,fun x hx => (h2 x hx).2,h3⟩
 ·rintro ⟨h1,h2,h3⟩
  exact ⟨⟨h1,fun x hx => by have := h2 x hx; omega⟩,h3⟩
theorem is_run {N : Nat} {Es : List Ed} (h : GOK (N : Int) Es) (hE : Es.length < 4294967295) (S : List Int) (hS : S.length < 4294967295) : callL cfgS nQD [.agg [.int .i64 N,.list 2 (eds Es)],.list 1 (ints S)] [] = some (.bool (isB N Es S),[]) := by
 rw [callL_end oQD sQD (Nat.le_of_ble_eq_true rfl)]
 have c1 := gchk_run (N : Int) Es (by omega)
 rw [chkG_zero.2 h] at c1
 have v := nvalid_run (N : Int) S (by omega)
 have m := msks_run h hE
 unfold isB
 by_cases k : valGo (N : Int) (-1) S = true
 ·have hb : ∀ v ∈ S,0 <= v /\ v < (N : Int) := fun x hx => (((valGo_iff (N : Int)).1 k).2 x hx).2
  have ga := gadj h
  have hn := gok_n h
  have cl := clq_out (adjE N Es) ga.2.1 S hS (by rw [ga.1]; exact hb) (by rw [ga.1]; exact hn) S.length 0 (by omega)
  rw [nat0] at cl
  have clr : callL cfgS nQM [.list 1 (us (adjE N Es)),.list 1 (ints S)] [] = some (.bool (okK (adjE N Es) S 0 S.length),[]) := by
   rw [callL_end oQM sQM (Nat.le_of_ble_eq_true rfl)]
   cases q : okK (adjE N Es) S 0 S.length with
   | true =>
     rw [q,if_pos rfl] at cl
     generalize us (adjE N Es) = Z at *
     unfold qQM cQM
     simp [rQMX0,rQMX1,rQMX2,rQMX3,rQMX4,rQMX5,rQMX6,rQMX7,rQMX8,rQMX9,rQMX10,rQMX11,cl,blk,eds_length,eds_get,edsAt,edAV,allLeaf_eds,cleanL_eds,cleanL_ints,ints_length,ints_get,intsAt,endL,finB]
   | false =>
     rw [q,if_neg (by decide)] at cl
     generalize us (adjE N Es) = Z at *
     unfold qQM cQM
     simp [rQMX0,rQMX1,rQMX2,rQMX3,rQMX4,rQMX5,rQMX6,rQMX7,rQMX8,rQMX9,rQMX10,rQMX11,cl,blk,eds_length,eds_get,edsAt,edAV,allLeaf_eds,cleanL_eds,cleanL_ints,ints_length,ints_get,intsAt,endL,finB]
  have e : okK (adjE N Es) S 0 S.length = decide (S.Pairwise (jn Es)) := by
   rw [Bool.eq_iff_iff,decide_eq_true_eq]; exact okK_jn h hb
  rw [e] at clr
  rw [k] at v
  rw [k,Bool.true_and]
  clear cl e
  generalize decide (S.Pairwise (jn Es)) = d at *
  generalize us (adjE N Es) = Z at *
  unfold qQD cQD
  cases d <;> simp [rQDX0,rQDX1,c1,v,m,clr,sQt,iQt,vQt,sQL,iQL,vQL,sQN,iQN,vQN,sQM,iQM,vQM,cleanL_eds,cleanL_ints,cleanL_us,blk,eds_length,eds_get,edsAt,edAV,allLeaf_eds,cleanL_eds,cleanL_ints,ints_length,ints_get,intsAt,endL,finB]
 ·have k : valGo (N : Int) (-1) S = false := by simpa using k
  rw [k] at v
  rw [k,Bool.false_and]
  unfold qQD cQD
  simp [rQDX0,rQDX1,c1,v,sQt,iQt,vQt,sQL,iQL,vQL,cleanL_eds,cleanL_ints,blk,eds_length,eds_get,edsAt,edAV,allLeaf_eds,cleanL_eds,cleanL_ints,ints_length,ints_get,intsAt,endL,finB]
def maxB (N : Nat) (Es : List Ed) (S : List Int) : Bool := (!decide (S = [])) && (isB N Es S && decide (cn N Es S = 0))
/- What maxclique.Above returns. -/
set_option maxHeartbeats 8000000
theorem ab_loop (A : List Nat) (hA : Small A) (n : Int) (l : List Int) (hl : l.length < 4294967295) (hb : ∀ v ∈ l,0 <= v /\ v < (A.length : Int)) : ∀ (k i m : Nat),i + k = l.length -> m < 18446744073709551616 -> codeL cfgS 0 (.loop lQmX0) ⟨[(1,.list 1 (ints l)),(2,.int .i64 n),(9,.list 1 (us A)),(10,.int .u64 m),(28,.list 1 (ints l)),(29,.int .i64 l.length),(30,.int .i64 i)],[]⟩ =
  some (.exit 0,⟨[(1,.list 1 (ints l)),(2,.int .i64 n),(9,.list 1 (us A)),(10,.int .u64 (comL A m (l.drop i) : Nat)),(28,.list 1 (ints l)),(29,.int .i64 l.length),(30,.int .i64 l.length),(31,.bool false)],[]⟩)
 | 0,i,m,hi,hm => by
   obtain rfl : i = l.length := by omega
   rw [List.drop_length]
   exact loop_exit (by unfold lQmX0; simp [rQmX0,rQmX1,rQmX2,rQmX3,rQmX4,rQmX5,rQmX6,rQmX7,rQmX8,rQmX9,rQmX10,rQmX11,rQmX12,rQmX13,comL,List.foldl_nil,blk,eds_length,eds_get,edsAt,edAV,allLeaf_eds,cleanL_eds,cleanL_ints,ints_length,ints_get,intsAt,endL,finB])
 | k + 1,i,m,hi,hm => by
   have hlt : i < l.length := by omega
   have h1 : (i : Int) < l.length := by omega
   have hw := wrapS (i := i) (by omega)
   obtain ⟨b0,b1⟩ := hb l[i] (List.getElem_mem hlt)
   have ra := getD_lt hA l[i].toNat
   have w2 := u64_and_nat m (A.getD l[i].toNat 0) hm ra
   have ih := ab_loop A hA n l hl hb k (i + 1) (m &&& A.getD l[i].toNat 0) (by omega) (Nat.lt_of_le_of_lt Nat.and_le_left hm)
   rw [List.drop_eq_getElem_cons hlt]
   have e : comL A m (l[i] :: l.drop (i + 1)) = comL A (m &&& A.getD l[i].toNat 0) (l.drop (i + 1)) := rfl
   rw [e]
   refine (loop_next ?_).trans ih
   clear ih e
   have i1 := idx_lt (k := .i64) (i := (i : Int)) (n := l.length) (by omega) h1
   have i2 := idx_lt (k := .i64) (i := l[i]) (n := A.length) b0 b1
   have g2 : (us A)[l[i].toNat]? = some (.int .u64 (A.getD l[i].toNat 0 : Nat)) := by
    rw [us_get,List.getD_eq_getElem?_getD,List.getElem?_eq_getElem (by omega)]; rfl
   have g2' : ∀ h : l[i].toNat < (us A).length,(us A)[l[i].toNat] = .int .u64 (A.getD l[i].toNat 0 : Nat) := fun h => by rw [List.getElem?_eq_getElem h] at g2; exact Option.some.inj g2
   have elA := us_length A
   generalize ((m &&& A.getD l[i].toNat 0 : Nat) : Int) = q at *
   generalize ((A.getD l[i].toNat 0 : Nat) : Int) = p at *
   generalize us A = Z at *
   generalize (m : Int) = X at *
   unfold lQmX0
   simp [rQmX0,rQmX1,rQmX2,rQmX3,rQmX4,rQmX5,rQmX6,rQmX7,rQmX8,rQmX9,rQmX10,rQmX11,rQmX12,rQmX13,h1,hlt,hw,i1,i2,g2,g2',elA,w2,blk,eds_length,eds_get,edsAt,edAV,allLeaf_eds,cleanL_eds,cleanL_ints,ints_length,ints_get,intsAt,endL,finB]
theorem above_no {N : Nat} {Es : List Ed} (h : GOK (N : Int) Es) (hE : Es.length < 1000000) (s : List Int) (hs : s.length < 4294967295) (n : Int) (hb : isB N Es s = false) : callL cfgS nQm [.agg [.int .i64 N,.list 2 (eds Es)],.list 1 (ints s),.int .i64 n] [] = some (.tup [.bool false,.int .i64 4],[]) := by
 have ck := gchk_run (N : Int) Es (by omega)
 rw [chkG_zero.2 h] at ck
 have q := is_run h (by omega) s hs
 rw [hb] at q
 rw [callL_end oQm sQm (Nat.le_of_ble_eq_true rfl)]
 unfold qQm cQm
 simp [rQmX0,rQmX1,rQmX2,rQmX3,rQmX4,rQmX5,rQmX6,rQmX7,rQmX8,rQmX9,rQmX10,rQmX11,rQmX12,rQmX13,ck,q,sQt,iQt,vQt,sQD,iQD,vQD,cleanL_eds,cleanL_ints,blk,eds_length,eds_get,edsAt,edAV,allLeaf_eds,cleanL_eds,cleanL_ints,ints_length,ints_get,intsAt,endL,finB]
theorem above_yes {N : Nat} {Es : List Ed} (h : GOK (N : Int) Es) (hN : N <= 63) (hE : Es.length < 1000000) (s : List Int) (hs : s.length <= 64) (hb : isB N Es s = true) : ∃ r,Rg (adjE N Es) 0 (cn N Es s) 0 r /\ ∀ n : Int,callL cfgS nQm [.agg [.int .i64 N,.list 2 (eds Es)],.list 1 (ints s),.int .i64 n] [] = some (.tup [.bool (decide (n <= (s.length : Int) + r)),.int .i64 0],[]) := by
 have ck := gchk_run (N : Int) Es (by omega)
 rw [chkG_zero.2 h] at ck
 have q := is_run h (by omega) s (by omega)
 rw [hb] at q
 have hc := isB_iff.1 hb
 have mk := masks_run h (by omega)
 obtain ⟨eN,hS,_⟩ := adj_spec h
 have hA := adj_sym h
 have hp := pow_n (v := N) (by omega)
 have hp0 : 0 < 2 ^ N := Nat.two_pow_pos N
 have e : comL (adjE N Es) (2 ^ N - 1) s = cn N Es s := rfl
 have cl := cn_lt h s
 obtain ⟨r,g1,g2⟩ := longest_run hS hA (cn N Es s) cl (fun j hj => by rw [eN]; exact ((cn_bit h (fun x hx => (hc.bd x hx).1) j).1 hj).1) 0
 refine ⟨r,g1,fun n => ?_⟩
 have lp := ab_loop (adjE N Es) hS n s (by omega) (by rw [eN]; exact hc.bd) s.length 0 (2 ^ N - 1) (by omega) (by omega)
 rw [nat0,List.drop_zero,e] at lp
 have r0 : 0 <= r := g1.1
 have r1 : r <= 64 := by
  rcases g1.2.2 with k | ⟨T,t1,t2,t3⟩
  ·omega
  ·have := kq_bits cl t1 t2
   have e2 : ((List.range 64).filter fun j => (cn N Es s).testBit j).length = pcn (cn N Es s) := rfl
   have := pcn_le (cn N Es s)
   omega
 have wr : IntKind.i64.wrap ((s.length : Int) + r) = s.length + r := wrap_id (by omega) (by omega)
 obtain ⟨s1,s2⟩ := shl_n (v := N) (by omega)
 have s3 := s1
 rw [Nat.min_eq_left (show N <= 64 by omega)] at s3
 have d1 : IntKind.u64.wrap (((2 ^ N : Nat) : Int) - 1) = ((2 ^ N - 1 : Nat) : Int) := decU (by omega) hp
 have nn : ¬ (N : Int) < 0 := by omega
 have n0 : (0 : Int) <= N := by omega
 have n6 : N <= 64 := by omega
 rw [callL_end oQm sQm (Nat.le_of_ble_eq_true rfl)]
 unfold qQm cQm
 clear g1 hS hA eN hp0 h hc e
 generalize cn N Es s = C at *
 generalize (2 ^ N - 1 : Nat) = M at *
 generalize (2 ^ N : Nat) = M2 at *
 generalize us (adjE N Es) = AA at *
 simp [rQmX0,rQmX1,rQmX2,rQmX3,rQmX4,rQmX5,rQmX6,rQmX7,rQmX8,rQmX9,rQmX10,rQmX11,rQmX12,rQmX13,ck,q,mk,g2,lp,wr,s1,s2,s3,d1,nn,n0,n6,LIM,IntKind.bits,nat0,plL,pl,sQt,iQt,vQt,sQD,iQD,vQD,sQy,iQy,vQy,sQz,iQz,vQz,Int.toNat_natCast,cleanL_eds,cleanL_ints,blk,eds_length,eds_get,edsAt,edAV,allLeaf_eds,cleanL_eds,cleanL_ints,ints_length,ints_get,intsAt,endL,finB]
/- The law of all maximal cliques: its loop. -/
def gM (N : Nat) (Es : List Ed) : Blk := some [.int .i64 N,.list 2 (eds Es)]
theorem rest_gM (N : Nat) (E : List Ed) : Rest [gM N E] := ⟨fun _ => rfl,rfl,fun _ _ => rfl,fun _ => rfl,fun _ _ => rfl⟩
def mtS (H : Heap) (O s : List Int) (n f : Int) (b w : Bool) (al : List (List Int)) (i : Int) (J : Env) : St :=
 ⟨(6,.ptr 1 0) :: (9,.list 1 (ints O)) :: (10,.int .i64 0) :: (11,.list 1 (ints s)) :: (12,.int .i64 n) :: (13,.bool b) :: (14,.int .i64 f) :: (15,.bool true) :: (16,.bool w) :: (51,.list 1 (llsG al)) :: (52,.int .i64 al.length) :: (53,.int .i64 i) :: J,H⟩
def wnt (s : List Int) (n : Int) (X : List Int) : Bool := (s.all fun x => decide (x ∈ X)) && decide (n <= (X.length : Int))
theorem mt_round (l : List Int) (a N : Nat) (Es : List Ed) (O s : List Int) (hs : s.length <= 64) (hO : O.length <= 64) (n f : Int) (b w : Bool) (al : List (List Int)) (i : Nat) (hi : i < al.length) (hl : al.length <= 100000) (hX : al[i].length <= 64) (h1 : ¬ (O.length : Int) < al[i].length) (h2 : (al[i].length : Int) = O.length -> ¬ cmpL al[i] O < 0) :
  codeL cfgS 0 lQaX0 (mtS [dk l a,gM N Es] O s n f b w al i []) = some (.normal,mtS [dk l a,gM N Es] O s n f b (w || wnt s n al[i]) al (i + 1 : Nat) []) := by
 have hw := wrapS (i := i) (by omega)
 have k1 : (i : Int) < al.length := by omega
 have hx := idx_lt (k := .i64) (i := (i : Int)) (n := al.length) (by omega) k1
 have lg := llsG_length al
 have g1 := llsG_get al i
 rw [List.getElem?_eq_getElem hi,Option.map_some] at g1
 have g1' : ∀ h : i < (llsG al).length,(llsG al)[i] = .list 1 (ints al[i]) := fun h => by rw [List.getElem?_eq_getElem h] at g1; exact Option.some.inj g1
 have cr := cmp_run al[i] O (by omega) (by omega)
 have wr := within_run s al[i] (by omega) (by omega)
 have lx := ints_length al[i]
 have lO := ints_length O
 unfold wnt mtS dk gM lQaX0
 generalize (s.all fun x => decide (x ∈ al[i])) = d at *
 generalize al[i] = X at *
 generalize llsG al = Y at *
 generalize cmpL X O = C at *
 have fin : ∀ x : Bool,(if x = true then true else false) = x := fun x => by cases x <;> rfl
 by_cases c : (X.length : Int) = O.length
 ·have h2 := h2 c
  have c' : X.length = O.length := by omega
  cases w <;> cases d <;> simp [rQaX0,rQaX1,rQaX2,rQaX3,rQaX4,rQaX5,rQaX6,rQaX7,rQaX8,rQaX9,rQaX10,rQaX11,rQaX12,rQaX13,rQaX14,rQaX15,rQaX16,rQaX17,rQaX18,rQaX19,rQaX20,k1,hi,hw,hx,lg,g1,g1',cr,wr,lx,lO,c,c',h2,sQn,iQn,vQn,sQo,iQo,vQo,cleanL_ints,fin,blk,eds_length,eds_get,edsAt,edAV,allLeaf_eds,cleanL_eds,cleanL_ints,ints_length,ints_get,intsAt,endL,finB]
 ·have c' : ¬ X.length = O.length := by omega
  have h1' : ¬ O.length < X.length := by omega
  clear h2
  cases w <;> cases d <;> simp [rQaX0,rQaX1,rQaX2,rQaX3,rQaX4,rQaX5,rQaX6,rQaX7,rQaX8,rQaX9,rQaX10,rQaX11,rQaX12,rQaX13,rQaX14,rQaX15,rQaX16,rQaX17,rQaX18,rQaX19,rQaX20,k1,hi,hw,hx,lg,g1,g1',cr,wr,lx,lO,c,c',h1,h1',sQn,iQn,vQn,sQo,iQo,vQo,cleanL_ints,fin,blk,eds_length,eds_get,edsAt,edAV,allLeaf_eds,cleanL_eds,cleanL_ints,ints_length,ints_get,intsAt,endL,finB]
/- The law of all maximal cliques. -/
theorem mt_loop (l : List Int) (a N : Nat) (Es : List Ed) (O s : List Int) (hs : s.length <= 64) (hO : O.length <= 64) (n f : Int) (b : Bool) (al : List (List Int)) (hl : al.length <= 100000) (hX : ∀ X ∈ al,X.length <= 64 /\ ¬ (O.length : Int) < X.length /\ ((X.length : Int) = O.length -> ¬ cmpL X O < 0)) : ∀ (k i : Nat) (w : Bool),i + k = al.length ->
  codeL cfgS 0 (.loop lQaX0) (mtS [dk l a,gM N Es] O s n f b w al i []) = some (.exit 0,mtS [dk l a,gM N Es] O s n f b (w || (al.drop i).any (wnt s n)) al al.length [(54,.bool false)])
 | 0,i,w,hi => by
   obtain rfl : i = al.length := by omega
   rw [List.drop_length,List.any_nil,Bool.or_false]
   refine loop_exit ?_
   unfold mtS dk gM lQaX0
   generalize llsG al = Y at *
   simp [rQaX0,rQaX1,rQaX2,rQaX3,rQaX4,rQaX5,rQaX6,rQaX7,rQaX8,rQaX9,rQaX10,rQaX11,rQaX12,rQaX13,rQaX14,rQaX15,rQaX16,rQaX17,rQaX18,rQaX19,rQaX20,blk,eds_length,eds_get,edsAt,edAV,allLeaf_eds,cleanL_eds,cleanL_ints,ints_length,ints_get,intsAt,endL,finB]
 | k + 1,i,w,hi => by
   have hlt : i < al.length := by omega
   obtain ⟨x1,x2,x3⟩ := hX al[i] (List.getElem_mem hlt)
   have ih := mt_loop l a N Es O s hs hO n f b al hl hX k (i + 1) (w || wnt s n al[i]) (by omega)
   rw [List.drop_eq_getElem_cons hlt,List.any_cons,<- Bool.or_assoc]
   exact (loop_next (mt_round l a N Es O s hs hO n f b w al i hlt hl x1 x2 x3)).trans ih
theorem isR_isB {N : Nat} {Es : List Ed} (h : GOK (N : Int) Es) (S : List Int) : isR N Es S = isB N Es S := by
 unfold isR isB
 congr 1
 rw [Bool.eq_iff_iff,decide_eq_true_eq,decide_eq_true_eq]
 exact ⟨fun k => k.imp fun q => (nrm_jn h _ _).1 q,fun k => k.imp fun q => (nrm_jn h _ _).2 q⟩
theorem maxall_run (l : List Int) (z : Int) (hz : 0 <= z /\ z < 256) : callL cfgS nQa [.list 1 (ints l),.int .u8 z] [] = some (.bool true,[]) := by
 rw [callL_end oQa sQa (Nat.le_of_ble_eq_true rfl)]
 have aw := awake26
 have few := few_run l
 by_cases hl : (l.length : Int) <= 500
 case neg =>
  unfold qQa cQa
  simp [rQaX0,rQaX1,rQaX2,rQaX3,rQaX4,rQaX5,rQaX6,rQaX7,rQaX8,rQaX9,rQaX10,rQaX11,rQaX12,rQaX13,rQaX14,rQaX15,rQaX16,rQaX17,rQaX18,rQaX19,rQaX20,few,hl,aw,sQb,iQb,vQb,sQc,iQc,vQc,blk,eds_length,eds_get,edsAt,edAV,allLeaf_eds,cleanL_eds,cleanL_ints,ints_length,ints_get,intsAt,endL,finB]
 have hl5 : l.length <= 500 := by omega
 have n1 := new_run l
 obtain ⟨N,Es,a1,n2,hG,hN,hEl⟩ := graph_run l hl5 8 (by omega) 0
 have al := all24_run hG (by omega) (by omega)
 obtain ⟨O,⟨lgO,fsO⟩,bO⟩ := best1_run hG (by omega) (by omega)
 obtain ⟨s,a2,n3,ls,us,bs⟩ := set_run l hl5 N (by omega) [gM N Es] (rest_gM N Es) a1
 have hOl : O.length <= 64 := by
  have := asc_sub (lgO.1.1.imp fun k => k.1) List.pairwise_lt_range fun x hx => List.mem_range.2 (lgO.1.2 x hx)
  simp at this; omega
 have sl : s.length <= 64 := by omega
 have hOl' : (nz O).length <= 64 := by rw [nz_length]; exact hOl
 have hln := grw_len N Es N 0 []
 have p8 : (2 : Nat) ^ N <= 256 := Nat.pow_le_pow_right (n := 2) (by decide) hN
 have hX : ∀ X ∈ grw N Es N 0 [],X.length <= 64 /\ ¬ ((nz O).length : Int) < X.length /\ ((X.length : Int) = (nz O).length -> ¬ cmpL X (nz O) < 0) := by
  intro X hm
  have hM := (grw_all hG X).1 hm
  obtain ⟨q1,q2⟩ := isC_qs hM.1
  have := lgO.2 _ q1
  rw [List.length_map] at this
  rw [nz_length]
  exact ⟨by omega,by omega,fun e => fst_cmp fsO hM.1 (by omega)⟩
 have ri := ris_run hG (by omega) s (by omega)
 rw [isR_isB hG] at ri
 have wn : ∀ n : Int,(grw N Es N 0 []).any (wnt s n) = true ↔ ∃ X,IsMax N Es X /\ (∀ x ∈ s,x ∈ X) /\ n <= (X.length : Int) := by
  intro n
  rw [List.any_eq_true]
  constructor
  ·rintro ⟨X,h1,h2⟩
   unfold wnt at h2
   simp only [Bool.and_eq_true,List.all_eq_true,decide_eq_true_eq] at h2
   exact ⟨X,(grw_all hG X).1 h1,h2.1,h2.2⟩
  ·rintro ⟨X,h1,h2,h3⟩
   refine ⟨X,(grw_all hG X).2 h1,?_⟩
   unfold wnt
   simp only [Bool.and_eq_true,List.all_eq_true,decide_eq_true_eq]
   exact ⟨h2,h3⟩
 have lp := fun (n f : Int) (b : Bool) => mt_loop l a2 N Es (nz O) s sl hOl' n f b (grw N Es N 0 []) (by omega) hX (grw N Es N 0 []).length 0 false (by omega)
 simp only [nat0,List.drop_zero,Bool.false_or] at lp
 generalize hW : (fun n : Int => (grw N Es N 0 []).any (wnt s n)) = W at *
 have hW' : ∀ n : Int,(grw N Es N 0 []).any (wnt s n) = W n := fun n => by rw [<- hW]
 simp only [hW'] at lp wn
 clear hW hW'
 have lgl := llsG_length (grw N Es N 0 [])
 unfold mtS at lp
 unfold dk gM at n3 lp
 unfold dk at n1 n2
 simp only [nat0,show ((8 : Nat) : Int) = 8 from rfl] at n1 n2
 have lsn := ints_length s
 cases hb : isB N Es s with
 | false =>
   rw [hb] at ri
   have ab := fun n : Int => above_no hG (by omega) s (by omega) n hb
   have lp := fun (n : Int) => lp n 4 false
   clear hX wn fsO lgO hG us bs hln lgl
   rw [<- llsG_length] at lp
   generalize llsG (grw N Es N 0 []) = Y at *
   generalize nz O = P at *
   generalize eds Es = YE at *
   unfold qQa cQa
   simp [rQaX0,rQaX1,rQaX2,rQaX3,rQaX4,rQaX5,rQaX6,rQaX7,rQaX8,rQaX9,rQaX10,rQaX11,rQaX12,rQaX13,rQaX14,rQaX15,rQaX16,rQaX17,rQaX18,rQaX19,rQaX20,few,hl,n1,n2,n3,al,bO,ab,lp,ri,aw,lsn,sQb,iQb,vQb,sQd,iQd,vQd,sQh,iQh,vQh,sQl,iQl,vQl,sQk,iQk,vQk,sQf,iQf,vQf,sQm,iQm,vQm,sQp,iQp,vQp,sQc,iQc,vQc,plp,plpL,allB,notBox,swC,swS,seesC,inBox,relB,handBox,mvBB,mvRtB,offBoxes,offLab,calmB,ptrs,ptrsL,blkE,avE,avLE,blk,eds_length,eds_get,edsAt,edAV,allLeaf_eds,cleanL_eds,cleanL_ints,ints_length,ints_get,intsAt,endL,finB]
 | true =>
   rw [hb] at ri
   obtain ⟨r,g1,ab⟩ := above_yes hG (by omega) (by omega) s sl hb
   have hc := isB_iff.1 hb
   obtain ⟨nn,e1⟩ : ∃ nn,z.tmod 6 = nn := ⟨_,rfl⟩
   have en : 0 <= nn /\ nn < 6 := by
    rw [<- e1,Int.tmod_eq_emod_of_nonneg hz.1]
    omega
   have e2 : IntKind.u8.wrap nn = nn := by
    unfold IntKind.wrap
    simp [IntKind.bits,IntKind.signed]
    omega
   have e3 : IntKind.i64.wrap nn = nn := wrap_id (by omega) (by omega)
   have ab := ab nn
   have hv : decide (nn <= (s.length : Int) + r) = (W nn || decide (nn <= (s.length : Int))) := by
    rw [Bool.eq_iff_iff,decide_eq_true_eq,Bool.or_eq_true,decide_eq_true_eq,wn nn]
    exact above_iff hG hc g1 nn
   rw [hv] at ab
   have lp := lp nn 0 (W nn || decide (nn <= (s.length : Int)))
   clear hX wn fsO lgO hG us bs hln lgl hv g1 hc hb
   rw [<- llsG_length] at lp
   generalize llsG (grw N Es N 0 []) = Y at *
   generalize nz O = P at *
   generalize eds Es = YE at *
   generalize W nn = w at *
   unfold qQa cQa
   by_cases d : nn <= (s.length : Int)
   ·rw [decide_eq_true d,Bool.or_true] at ab lp
    cases w <;> simp [rQaX0,rQaX1,rQaX2,rQaX3,rQaX4,rQaX5,rQaX6,rQaX7,rQaX8,rQaX9,rQaX10,rQaX11,rQaX12,rQaX13,rQaX14,rQaX15,rQaX16,rQaX17,rQaX18,rQaX19,rQaX20,few,hl,n1,n2,n3,al,bO,ab,lp,ri,aw,lsn,e1,e2,e3,d,sQb,iQb,vQb,sQd,iQd,vQd,sQh,iQh,vQh,sQl,iQl,vQl,sQk,iQk,vQk,sQf,iQf,vQf,sQm,iQm,vQm,sQp,iQp,vQp,sQc,iQc,vQc,plp,plpL,allB,notBox,swC,swS,seesC,inBox,relB,handBox,mvBB,mvRtB,offBoxes,offLab,calmB,ptrs,ptrsL,blkE,avE,avLE,blk,eds_length,eds_get,edsAt,edAV,allLeaf_eds,cleanL_eds,cleanL_ints,ints_length,ints_get,intsAt,endL,finB]
   ·rw [decide_eq_false d,Bool.or_false] at ab lp
    have d' : ¬ nn <= (s.length : Int) := d
    cases w <;> simp [rQaX0,rQaX1,rQaX2,rQaX3,rQaX4,rQaX5,rQaX6,rQaX7,rQaX8,rQaX9,rQaX10,rQaX11,rQaX12,rQaX13,rQaX14,rQaX15,rQaX16,rQaX17,rQaX18,rQaX19,rQaX20,few,hl,n1,n2,n3,al,bO,ab,lp,ri,aw,lsn,e1,e2,e3,d',sQb,iQb,vQb,sQd,iQd,vQd,sQh,iQh,vQh,sQl,iQl,vQl,sQk,iQk,vQk,sQf,iQf,vQf,sQm,iQm,vQm,sQp,iQp,vQp,sQc,iQc,vQc,plp,plpL,allB,notBox,swC,swS,seesC,inBox,relB,handBox,mvBB,mvRtB,offBoxes,offLab,calmB,ptrs,ptrsL,blkE,avE,avLE,blk,eds_length,eds_get,edsAt,edAV,allLeaf_eds,cleanL_eds,cleanL_ints,ints_length,ints_get,intsAt,endL,finB]
end Go.BmP
