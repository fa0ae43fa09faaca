/- What the bits of cliques return: masks, all; the boxes of a walk, behind any boxes that lead. -/
import Derived.Test.YtholnjkicdifdaaDoorUseM
import Derived.Test.YtholnjkicdifdaaDoorCaP
import Derived.Test.YtholnjkicdifdaaDoorK07
set_option linter.unusedSimpArgs false
set_option linter.unusedVariables false
set_option maxRecDepth 100000
set_option maxHeartbeats 4000000
namespace Go.BmP
open Go.Am Go.Bm
theorem msks_loop (N : Nat) (hN : N <= 64) (Es : List Ed) (hE : Es.length < 4294967295) (hv : ∀ e ∈ Es,0 <= e.1 /\ e.1 < e.2 /\ e.2 < (N : Int)) : ∀ (k i : Nat) (A : List Nat),i + k = Es.length -> A.length = N -> Small A -> codeL cfgS 0 (.loop lQAX0) ⟨[(3,.own 1 (us A)),(10,.list 2 (eds Es)),(11,.int .i64 Es.length),(12,.int .i64 i)],[]⟩ =
  some (.exit 0,⟨[(3,.own 1 (us (adjOf (Es.drop i) A))),(10,.list 2 (eds Es)),(11,.int .i64 Es.length),(12,.int .i64 Es.length),(13,.bool false)],[]⟩)
 | 0,i,A,hi,hA,hS => by
   obtain rfl : i = Es.length := by omega
   rw [List.drop_length];exact loop_exit (by unfold lQAX0; simp [rQAX0,rQAX1,rQAX2,rQAX3,rQAX4,rQAX5,rQAX6,rQAX7,rQAX8,adjOf,List.foldl_nil,blk,eds_length,eds_get,edsAt,edAV,allLeaf_eds,cleanL_eds,cleanL_ints,ints_length,ints_get,intsAt,endL,finB])
 | k + 1,i,A,hi,hA,hS => by
   have hlt : i < Es.length := by omega
   have h1 : (i : Int) < Es.length := by omega
   have hw := wrapS (i := i) (by omega);obtain ⟨u0,uv,vn⟩ := hv Es[i] (List.getElem_mem hlt);have ih := msks_loop N hN Es hE hv k (i + 1) (adF A Es[i]) (by omega) (by rw [adF_length]; exact hA) (adF_small hS (by omega) (by omega));rw [List.drop_eq_getElem_cons hlt];have v0 : 0 <= Es[i].2 := by omega
   have un : Es[i].1 < (N : Int) := by omega
   have u0' : ¬ Es[i].1 < 0 := by omega
   have v0' : ¬ Es[i].2 < 0 := by omega
   have uN : Es[i].1.toNat < N := by omega
   have vN : Es[i].2.toNat < N := by omega
   have pu := pow_lt64 (v := Es[i].1) (by omega) u0;have pv := pow_lt64 (v := Es[i].2) (by omega) v0;have su := shlU (v := Es[i].1) u0 (by omega);have sv := shlU (v := Es[i].2) v0 (by omega);have su' : IntKind.u64.wrap (2 ^ (min Es[i].1.toNat 64)) = ((2 ^ Es[i].1.toNat : Nat) : Int) := by rw [<- su,Int.one_mul]
   have sv' : IntKind.u64.wrap (2 ^ (min Es[i].2.toNat 64)) = ((2 ^ Es[i].2.toNat : Nat) : Int) := by rw [<- sv,Int.one_mul]
   have gu : (us A)[Es[i].1.toNat]? = some (.int .u64 (A.getD Es[i].1.toNat 0 : Nat)) := by
    rw [us_get,List.getD_eq_getElem?_getD,List.getElem?_eq_getElem (by omega)]; rfl
   have xu := getD_lt hS Es[i].1.toNat;have ou := u64_or_nat (A.getD Es[i].1.toNat 0) (2 ^ Es[i].2.toNat) xu pv;have eu := us_set A Es[i].1.toNat (A.getD Es[i].1.toNat 0 ||| 2 ^ Es[i].2.toNat);have sm : Small (A.set Es[i].1.toNat (A.getD Es[i].1.toNat 0 ||| 2 ^ Es[i].2.toNat)) := set_small hS (Nat.or_lt_two_pow (n := 64) xu pv);have eln : (A.set Es[i].1.toNat (A.getD Es[i].1.toNat 0 ||| 2 ^ Es[i].2.toNat)).length = N := by rw [List.length_set]; exact hA
   have ead : adjOf (Es[i] :: Es.drop (i + 1)) A = adjOf (Es.drop (i + 1)) (adF A Es[i]) := rfl;rw [ead];have eA : adF A Es[i] = (A.set Es[i].1.toNat (A.getD Es[i].1.toNat 0 ||| 2 ^ Es[i].2.toNat)).set Es[i].2.toNat ((A.set Es[i].1.toNat (A.getD Es[i].1.toNat 0 ||| 2 ^ Es[i].2.toNat)).getD Es[i].2.toNat 0 ||| 2 ^ Es[i].1.toNat) := rfl;rw [eA] at ih ⊢;generalize hA1 : A.set Es[i].1.toNat (A.getD Es[i].1.toNat 0 ||| 2 ^ Es[i].2.toNat) = A1 at *
   have gv : (us A1)[Es[i].2.toNat]? = some (.int .u64 (A1.getD Es[i].2.toNat 0 : Nat)) := by
    rw [us_get,List.getD_eq_getElem?_getD,List.getElem?_eq_getElem (by omega)]; rfl
   have ov := u64_or_nat (A1.getD Es[i].2.toNat 0) (2 ^ Es[i].1.toNat) (getD_lt sm _) pu;have ev := us_set A1 Es[i].2.toNat (A1.getD Es[i].2.toNat 0 ||| 2 ^ Es[i].1.toNat);generalize A1.getD Es[i].2.toNat 0 ||| 2 ^ Es[i].1.toNat = q at *
   generalize A.getD Es[i].1.toNat 0 ||| 2 ^ Es[i].2.toNat = p at *
   generalize A1.getD Es[i].2.toNat 0 = y at *;generalize A.getD Es[i].1.toNat 0 = x at *;generalize 2 ^ Es[i].1.toNat = pU at *;generalize 2 ^ Es[i].2.toNat = pV at *;clear pu pv xu sm eA ead hA1;have gu' : ∀ h : Es[i].1.toNat < (us A).length,(us A)[Es[i].1.toNat] = .int .u64 (x : Int) := fun h => by rw [List.getElem?_eq_getElem h] at gu; exact Option.some.inj gu
   have gv' : ∀ h : Es[i].2.toNat < (us A1).length,(us A1)[Es[i].2.toNat] = .int .u64 (y : Int) := fun h => by rw [List.getElem?_eq_getElem h] at gv; exact Option.some.inj gv
   refine (loop_next (s' := ⟨[(3,.own 1 (us (A1.set Es[i].2.toNat q))),(10,.list 2 (eds Es)),(11,.int .i64 Es.length),(12,.int .i64 ((i + 1 : Nat) : Int))],[]⟩) ?_).trans ih;unfold lQAX0;simp [rQAX0,rQAX1,rQAX2,rQAX3,rQAX4,rQAX5,rQAX6,rQAX7,rQAX8,h1,hlt,hw,u0,v0,u0',v0',un,vn,uN,vN,su,sv,su',sv',gu,gv,gu',gv',ou,ov,eu,ev,hA,eln,us_length,idx,IntKind.bits,fz,pl,AV.leaf,blk,eds_length,eds_get,edsAt,edAV,allLeaf_eds,cleanL_eds,cleanL_ints,ints_length,ints_get,intsAt,endL,finB]
theorem msks_run {N : Nat} {Es : List Ed} (h : GOK (N : Int) Es) (hE : Es.length < 4294967295) : callL cfgS nQA [.agg [.int .i64 N,.list 2 (eds Es)]] [] = some (.list 1 (us (adjE N Es)),[]) := by
 rw [callL_end oQA sQA (Nat.le_of_ble_eq_true rfl)];have hn := gok_n h;have hl := msks_loop N hn Es hE h.2.2 Es.length 0 (List.replicate N 0) (by omega) (by simp) (fun x hx => by have := List.eq_of_mem_replicate hx; omega);rw [nat0,List.drop_zero] at hl;have r1 : List.replicate N (AV.int .u64 0) = us (List.replicate N 0) := us_rep N;have n0 : ¬ (N : Int) < 0 := by omega
 have nL : (N : Int) <= 4294967296 := by omega
 have ea : adjOf Es (List.replicate N 0) = adjE N Es := rfl;rw [ea] at hl;have tk : (us (adjE N Es)).take (adjE N Es).length = us (adjE N Es) := by rw [us_take,List.take_length]
 have e := (gadj h).1
 have tkr : (us (List.replicate N 0)).take N = us (List.replicate N 0) := by
  have := List.take_length (l := us (List.replicate N 0))
  rwa [us_length,List.length_replicate] at this
 rw [e] at tk;unfold qQA cQA;simp [rQAX0,rQAX1,rQAX2,rQAX3,rQAX4,rQAX5,rQAX6,rQAX7,rQAX8,hl,r1,tkr,e,List.length_replicate,n0,nL,us_length,tk,LIM,blk,eds_length,eds_get,edsAt,edAV,allLeaf_eds,cleanL_eds,cleanL_ints,ints_length,ints_get,intsAt,endL,finB]
theorem alln_run (N : Nat) (hn : N <= 64) : callL cfgS nQW [.int .i64 N] [] = some (.int .u64 ((2 ^ N - 1 : Nat) : Int),[]) := by
 rw [callL_end oQW sQW (Nat.le_of_ble_eq_true rfl)];have n0 : ¬ (N : Int) < 0 := by omega
 have e1 : IntKind.u64.wrap (1 * 2 ^ (min N 64)) = IntKind.u64.wrap ((2 ^ N : Nat) : Int) := by rw [show min N 64 = N by omega,Int.one_mul]; simp
 have e1' : IntKind.u64.wrap (2 ^ (min N 64)) = IntKind.u64.wrap ((2 ^ N : Nat) : Int) := by rw [show min N 64 = N by omega]; simp
 have hp : 0 < 2 ^ N := Nat.two_pow_pos N;have hq : 2 ^ N <= 2 ^ 64 := Nat.pow_le_pow_right (by decide) hn
 have e2 : IntKind.u64.wrap (IntKind.u64.wrap ((2 ^ N : Nat) : Int) - 1) = ((2 ^ N - 1 : Nat) : Int) := by
  rw [IntKind.wrap_u64,IntKind.wrap_u64]; omega
 generalize IntKind.u64.wrap ((2 ^ N : Nat) : Int) = W at *;generalize 2 ^ N - 1 = W1 at *;unfold qQW cQW;simp [rQWX0,rQWX1,n0,e1,e1',e2,IntKind.bits,blk,eds_length,eds_get,edsAt,edAV,allLeaf_eds,cleanL_eds,cleanL_ints,ints_length,ints_get,intsAt,endL,finB]
structure Plain (x : List AV) : Prop where
 m : ∀ g,mapBL g x = x
 b : borL x = []
 n : ∀ b,noPtrL b x = true
 c : ∀ p f j,borC p f j x = none
structure PlainC (nb : Nat) (x : List AV) : Prop where
 m : ∀ g,mapBL g x = x
 b : borL x = []
 o : hasOwnL x = false
 p : plpL x = true
 l : x.map nilL = x
 n : ∀ b,nb <= b -> noPtrL b x = true
structure Lead (nb : Nat) (L : Heap) : Prop where
 m : ∀ g R,mapH g (L ++ R) = L ++ mapH g R
 a : ∀ R,allB (L ++ R) = allB R
 b : ∀ p i R,borH p i (L ++ R) = borH p (i + nb) R
 f : ∀ f R,anyH f (L ++ R) = anyH f R
 s : ∀ p i R,seesB p i (L ++ R) = seesB p (i + nb) R
 n : ∀ b R,noPtrH b (L ++ R) = noPtrH b R
 k : ∀ i R,blk (L ++ R) (nb + i) = blk R i
 kz : ∀ R,blk (L ++ R) nb = blk R 0
 w : ∀ i x (R : Heap),(L ++ R).set (nb + i) x = L ++ R.set i x
 wz : ∀ x (R : Heap),(L ++ R).set nb x = L ++ R.set 0 x
 l : L.length = nb
 t : ∀ i (R : Heap),(L ++ R).take (nb + i) = L ++ R.take i
theorem lead_nil : Lead 0 [] := ⟨fun _ _ => rfl,fun _ => rfl,fun _ _ _ => rfl,fun _ _ => rfl,fun _ _ _ => rfl,fun _ _ => rfl,fun i R => by simp,fun _ => rfl,fun i x R => by simp,fun _ _ => rfl,rfl,fun i R => by simp⟩
theorem lead_snoc {nb : Nat} {L : Heap} (h : Lead nb L) {x : List AV} (q : Plain x) : Lead (nb + 1) (L ++ [some x]) := by
 obtain ⟨f1,f2,f3,f4,f5,f6,f7,f7z,f8,f8z,f9,f10⟩ := h;obtain ⟨p1,p2,p3,p4⟩ := q;refine ⟨fun g R => ?_,fun R => ?_,fun p i R => ?_,fun f R => ?_,fun p i R => ?_,fun b R => ?_,fun i R => ?_,fun R => ?_,fun i y R => ?_,fun y R => ?_,?_,fun i R => ?_⟩
 ·rw [List.append_assoc,f1]; simp [mapH,p1]
 ·rw [List.append_assoc,f2]; simp [allB,p2,anyR]
 ·rw [List.append_assoc,f3]; simp [borH,p4,Nat.add_assoc]
 ·rw [List.append_assoc,f4]; simp [anyH,p2,anyR]
 ·rw [List.append_assoc,f5]; simp [seesB,p2,inRt,Nat.add_assoc]
 ·rw [List.append_assoc,f6]; simp [noPtrH,p3]
 ·rw [List.append_assoc,show nb + 1 + i = nb + (i + 1) by omega,f7]; rfl
 ·rw [List.append_assoc,f7]; rfl
 ·rw [List.append_assoc,show nb + 1 + i = nb + (i + 1) by omega,f8]; simp
 ·rw [List.append_assoc,f8]; simp
 ·simp [f9]
 ·rw [List.append_assoc,show nb + 1 + i = nb + (i + 1) by omega,f10]; simp
def kH (nb : Nat) (L : Heap) (N : Nat) (Es : List Ed) (nT : Nat) (caps : List AV) (after : List Int) (P : List Int) : Heap := L ++ [some [.int .i64 N,.list 2 (eds Es)],some [.list 1 (ints after)],some [.func (.func nT) [] caps],some [.list 1 (us (adjE N Es))],some [.own 1 (ints P)],some [.func (.func nQZ) [] [.ptr (nb + 4) 0,.ptr (nb + 1) 0,.ptr (nb + 2) 0,.ptr (nb + 3) 0,.ptr (nb + 5) 0]]]
structure TakeK {σ : Type} (N : Nat) (Es : List Ed) (after : List Int) (nb : Nat) (nT : Nat) (caps : List AV) (X2 : σ -> Heap) (tk : σ -> List Int -> σ × Bool) (Inv : σ -> Prop) : Prop where
 fn : ∃ q,cfgS.fn nT = some (⟨true,false,false⟩,q)
 px : ∀ s,Lead nb (X2 s)
 cp : PlainC nb caps
 run : ∀ s S P,Inv s -> S ≠ [] -> S.length <= 64 -> callL cfgS nT (.list 1 (ints S) :: caps) (kH nb (X2 s) N Es nT caps after P) = some (.bool (tk s S).2,kH nb (X2 (tk s S).1) N Es nT caps after P)
 inv : ∀ s S,Inv s -> S ≠ [] -> S.length <= 64 -> (tk s S).2 = true -> Inv (tk s S).1
theorem clone_ne {Q : List Int} (h0 : Q ≠ []) (hl : Q.length < 4294967295) : callL cfgS nQB [.list 1 (ints Q)] [] = some (.own 1 (ints Q),[]) := by
 cases Q with
 | nil => exact absurd rfl h0
 | cons x r =>
   have hl' : r.length + 1 <= 4294967296 := by simp at hl; omega
   rw [callL_ofA (by unfold orcA; rw [oQB]; rfl) sQB (Nat.le_of_ble_eq_true rfl)];unfold qQB cQB;simp [rQBX0,rQBX1,rQBX2,rQBX3,ints_cons,ints_length,hl',LIM,endL,finB,allLocal,local_,takeR,takeV,ints_take,List.take_take,Nat.min_self,List.take_length,AV.cells,AV.leaf]
/- The walk over cliques: its regions. -/
set_option maxHeartbeats 8000000
def cv0 (nb a b : Nat) (t : Bool) (x : Env) : Env := (0,.int .u64 (a : Nat)) :: (1,.int .u64 (b : Nat)) :: (2,.bool t) :: (3,.ptr (nb + 4) 0) :: (4,.ptr (nb + 1) 0) :: (5,.ptr (nb + 2) 0) :: (6,.ptr (nb + 3) 0) :: (7,.ptr (nb + 5) 0) :: x
def cv1 (nb a b : Nat) (t : Bool) (x : Env) : Env := (0,.int .u64 (a : Nat)) :: (1,.int .u64 (b : Nat)) :: (2,.bool t) :: (3,.ptr (nb + 4) 0) :: (4,.ptr (nb + 1) 0) :: (6,.ptr (nb + 3) 0) :: (7,.ptr (nb + 5) 0) :: x
theorem cX0 (N : Nat) (Es : List Ed) {nb : Nat} {L : Heap} {caps : List AV} (q1 : Lead nb L) (q3 : PlainC nb caps) (nT : Nat) (after P : List Int) (a b : Nat) (t : Bool)  : codeL cfgS (nb + 6) (.reg rQZX0 false [] [0,1,2,3,4,5,6,7]) ⟨cv0 nb a b t [],kH nb L N Es nT caps after P⟩ = some (.normal,⟨cv0 nb a b t [],kH nb L N Es nT caps after P⟩) := by
 obtain ⟨f1,f2,f3,f4,f5,f6,f7,f7z,f8,f8z,f9,f10⟩ := q1;obtain ⟨pm3,pb3,po3,pp3,pl3,_⟩ := q3
 try unfold cv0
 try unfold cv1
 unfold kH;simp [rQZX0,rQZX1,rQZX2,rQZX3,rQZX4,rQZX5,rQZX6,rQZX7,rQZX8,rQZX9,rQZX10,rQZX11,rQZX12,rQZX13,rQZX14,rQZX15,rQZX16,rQZX17,rQZX18,rQZX19,rQZX20,rQZX21,f1,f2,f3,f4,f5,f6,f7,f7z,f8,f8z,f9,f10,pm3,pb3,po3,pp3,pl3,blk,eds_length,eds_get,edsAt,edAV,allLeaf_eds,cleanL_eds,cleanL_ints,ints_length,ints_get,intsAt,endL,finB]
theorem cX1z (N : Nat) (Es : List Ed) {nb : Nat} {L : Heap} {caps : List AV} (q1 : Lead nb L) (q3 : PlainC nb caps) (nT : Nat) (after P : List Int) (a b : Nat) (t : Bool)  : codeL cfgS (nb + 6) (.reg rQZX1 false [] [0,1,2,3,4,5,6,7,19]) ⟨cv0 nb 0 b t [],kH nb L N Es nT caps after P⟩ = some (.normal,⟨cv0 nb 0 b t [(19,.bool true)],kH nb L N Es nT caps after P⟩) := by
 obtain ⟨f1,f2,f3,f4,f5,f6,f7,f7z,f8,f8z,f9,f10⟩ := q1;obtain ⟨pm3,pb3,po3,pp3,pl3,_⟩ := q3
 try unfold cv0
 try unfold cv1
 unfold kH;simp [rQZX0,rQZX1,rQZX2,rQZX3,rQZX4,rQZX5,rQZX6,rQZX7,rQZX8,rQZX9,rQZX10,rQZX11,rQZX12,rQZX13,rQZX14,rQZX15,rQZX16,rQZX17,rQZX18,rQZX19,rQZX20,rQZX21,nat0,f1,f2,f3,f4,f5,f6,f7,f7z,f8,f8z,f9,f10,pm3,pb3,po3,pp3,pl3,blk,eds_length,eds_get,edsAt,edAV,allLeaf_eds,cleanL_eds,cleanL_ints,ints_length,ints_get,intsAt,endL,finB]
theorem cX1 (N : Nat) (Es : List Ed) {nb : Nat} {L : Heap} {caps : List AV} (q1 : Lead nb L) (q3 : PlainC nb caps) (nT : Nat) (after P : List Int) (a b : Nat) (t : Bool) (a0 : a ≠ 0) : codeL cfgS (nb + 6) (.reg rQZX1 false [] [0,1,2,3,4,5,6,7,19]) ⟨cv0 nb a b t [],kH nb L N Es nT caps after P⟩ = some (.normal,⟨cv0 nb a b t [(19,.bool false)],kH nb L N Es nT caps after P⟩) := by
 obtain ⟨f1,f2,f3,f4,f5,f6,f7,f7z,f8,f8z,f9,f10⟩ := q1;obtain ⟨pm3,pb3,po3,pp3,pl3,_⟩ := q3;have n0 : ¬ ((a : Int) = 0) := by omega
 unfold cv0 kH;generalize (a : Int) = X at *;simp [rQZX0,rQZX1,rQZX2,rQZX3,rQZX4,rQZX5,rQZX6,rQZX7,rQZX8,rQZX9,rQZX10,rQZX11,rQZX12,rQZX13,rQZX14,rQZX15,rQZX16,rQZX17,rQZX18,rQZX19,rQZX20,rQZX21,n0,f1,f2,f3,f4,f5,f6,f7,f7z,f8,f8z,f9,f10,pm3,pb3,po3,pp3,pl3,blk,eds_length,eds_get,edsAt,edAV,allLeaf_eds,cleanL_eds,cleanL_ints,ints_length,ints_get,intsAt,endL,finB]
theorem cX2n (N : Nat) (Es : List Ed) {nb : Nat} {L : Heap} {caps : List AV} (q1 : Lead nb L) (q3 : PlainC nb caps) (nT : Nat) (after P : List Int) (b : Nat) (t : Bool) (hn : b ≠ 0 \/ P = [] \/ (t = true /\ P.length <= after.length)) : codeL cfgS (nb + 6) (.reg rQZX2 true [(0,0),(1,1),(2,2),(3,3),(4,4),(5,5),(6,6),(7,7),(8,8),(9,9),(14,14),(15,15),(16,16),(17,17),(21,21),(22,22),(23,23),(10,12),(11,12),(10,13),(18,19),(18,20)] [11]) ⟨cv0 nb 0 b t [(19,.bool true)],kH nb L N Es nT caps after P⟩ = some (.normal,⟨[(11,.bool true)],kH nb L N Es nT caps after P⟩) := by
 obtain ⟨f1,f2,f3,f4,f5,f6,f7,f7z,f8,f8z,f9,f10⟩ := q1;obtain ⟨pm3,pb3,po3,pp3,pl3,_⟩ := q3;by_cases k1 : b = 0
 ·subst k1;by_cases k2 : P = []
  ·subst k2;unfold cv0 kH;simp [rQZX0,rQZX1,rQZX2,rQZX3,rQZX4,rQZX5,rQZX6,rQZX7,rQZX8,rQZX9,rQZX10,rQZX11,rQZX12,rQZX13,rQZX14,rQZX15,rQZX16,rQZX17,rQZX18,rQZX19,rQZX20,rQZX21,nat0,ints_nil,f1,f2,f3,f4,f5,f6,f7,f7z,f8,f8z,f9,f10,pm3,pb3,po3,pp3,pl3,blk,eds_length,eds_get,edsAt,edAV,allLeaf_eds,cleanL_eds,cleanL_ints,ints_length,ints_get,intsAt,endL,finB]
  ·have l1 : ¬ (P.length : Int) = 0 := by have := List.length_pos_iff.2 k2; omega
   rcases hn with k | k | ⟨k3,k4⟩
   ·exact absurd rfl k
   ·exact absurd k k2
   ·have k5 : (P.length : Int) <= after.length := by omega
    subst k3;unfold cv0 kH;simp [rQZX0,rQZX1,rQZX2,rQZX3,rQZX4,rQZX5,rQZX6,rQZX7,rQZX8,rQZX9,rQZX10,rQZX11,rQZX12,rQZX13,rQZX14,rQZX15,rQZX16,rQZX17,rQZX18,rQZX19,rQZX20,rQZX21,nat0,l1,k2,k4,k5,f1,f2,f3,f4,f5,f6,f7,f7z,f8,f8z,f9,f10,pm3,pb3,po3,pp3,pl3,blk,eds_length,eds_get,edsAt,edAV,allLeaf_eds,cleanL_eds,cleanL_ints,ints_length,ints_get,intsAt,endL,finB]
 ·have n0 : ¬ ((b : Int) = 0) := by omega
  unfold cv0 kH;generalize (b : Int) = X at *;simp [rQZX0,rQZX1,rQZX2,rQZX3,rQZX4,rQZX5,rQZX6,rQZX7,rQZX8,rQZX9,rQZX10,rQZX11,rQZX12,rQZX13,rQZX14,rQZX15,rQZX16,rQZX17,rQZX18,rQZX19,rQZX20,rQZX21,n0,f1,f2,f3,f4,f5,f6,f7,f7z,f8,f8z,f9,f10,pm3,pb3,po3,pp3,pl3,blk,eds_length,eds_get,edsAt,edAV,allLeaf_eds,cleanL_eds,cleanL_ints,ints_length,ints_get,intsAt,endL,finB]
theorem cX2t {N : Nat} {Es : List Ed} {caps : List AV} {nb nT : Nat} {after : List Int} {σ : Type} {X2 : σ -> Heap} {tk : σ -> List Int -> σ × Bool} {Inv : σ -> Prop} (hT : TakeK N Es after nb nT caps X2 tk Inv) {s : σ} (hs : Inv s) {P : List Int} (hP : P ≠ []) (hl : P.length <= 64) (t : Bool) (hn : ¬ (t = true /\ P.length <= after.length)) : codeL cfgS (nb + 6) (.reg rQZX2 true [(0,0),(1,1),(2,2),(3,3),(4,4),(5,5),(6,6),(7,7),(8,8),(9,9),(14,14),(15,15),(16,16),(17,17),(21,21),(22,22),(23,23),(10,12),(11,12),(10,13),(18,19),(18,20)] [11]) ⟨cv0 nb 0 0 t [(19,.bool true)],kH nb (X2 s) N Es nT caps after P⟩ = some (.normal,⟨[(11,.bool (tk s P).2)],kH nb (X2 (tk s P).1) N Es nT caps after P⟩) := by
 obtain ⟨f1,f2,f3,f4,f5,f6,f7,f7z,f8,f8z,f9,f10⟩ := hT.px s;obtain ⟨pm3,pb3,po3,pp3,pl3,_⟩ := hT.cp;obtain ⟨g1,g2,g3,g4,g5,g6,g7,g7z,g8,g8z,g9,g10⟩ := hT.px (tk s P).1;obtain ⟨q0,sT⟩ := hT.fn;have c1 := clone_ne hP (by omega);have c3 := hT.run s P P hs hP hl;have l1 : ¬ (P.length : Int) = 0 := by have := List.length_pos_iff.2 hP; omega
 have tk0 := ints_tk P;unfold kH at c3 ⊢;unfold cv0;generalize X2 s = Y at *;generalize X2 (tk s P).1 = Y1 at *;generalize (tk s P).2 = g at *;cases t with
 | false =>
   cases g <;> simp [rQZX0,rQZX1,rQZX2,rQZX3,rQZX4,rQZX5,rQZX6,rQZX7,rQZX8,rQZX9,rQZX10,rQZX11,rQZX12,rQZX13,rQZX14,rQZX15,rQZX16,rQZX17,rQZX18,rQZX19,rQZX20,rQZX21,nat0,l1,hP,c1,c3,tk0,plp,plpL,allB,notBox,swC,seesC,inBox,sQB,iQB,vQB,lQB,sT,f1,f2,f3,f4,f5,f6,f7,f7z,f8,f8z,f9,f10,pm3,pb3,po3,pp3,pl3,g1,g2,g3,g4,g5,g6,g7,g7z,g8,g8z,g9,g10,blk,eds_length,eds_get,edsAt,edAV,allLeaf_eds,cleanL_eds,cleanL_ints,ints_length,ints_get,intsAt,endL,finB]
 | true =>
   have k5 : ¬ (P.length : Int) <= after.length := by have : ¬ P.length <= after.length := fun k => hn ⟨rfl,k⟩; omega
   have k6 : ¬ P.length <= after.length := by omega
   have k7 : after.length < P.length := by omega
   cases g <;> simp [rQZX0,rQZX1,rQZX2,rQZX3,rQZX4,rQZX5,rQZX6,rQZX7,rQZX8,rQZX9,rQZX10,rQZX11,rQZX12,rQZX13,rQZX14,rQZX15,rQZX16,rQZX17,rQZX18,rQZX19,rQZX20,rQZX21,nat0,l1,hP,k5,k6,k7,c1,c3,tk0,plp,plpL,allB,notBox,swC,seesC,inBox,sQB,iQB,vQB,lQB,sT,f1,f2,f3,f4,f5,f6,f7,f7z,f8,f8z,f9,f10,pm3,pb3,po3,pp3,pl3,g1,g2,g3,g4,g5,g6,g7,g7z,g8,g8z,g9,g10,blk,eds_length,eds_get,edsAt,edAV,allLeaf_eds,cleanL_eds,cleanL_ints,ints_length,ints_get,intsAt,endL,finB]
theorem cX3 (N : Nat) (Es : List Ed) {nb : Nat} {L : Heap} {caps : List AV} (q1 : Lead nb L) (q3 : PlainC nb caps) (nT : Nat) (after P : List Int) (a b : Nat) (t : Bool)  : codeL cfgS (nb + 6) (.reg rQZX3 false [] [0,1,2,3,4,6,7,12]) ⟨cv0 nb a b t [(19,.bool false)],kH nb L N Es nT caps after P⟩ = some (.normal,⟨cv1 nb a b t [(12,.int .u64 (b : Int))],kH nb L N Es nT caps after P⟩) := by
 obtain ⟨f1,f2,f3,f4,f5,f6,f7,f7z,f8,f8z,f9,f10⟩ := q1;obtain ⟨pm3,pb3,po3,pp3,pl3,_⟩ := q3
 try unfold cv0
 try unfold cv1
 unfold kH;simp [rQZX0,rQZX1,rQZX2,rQZX3,rQZX4,rQZX5,rQZX6,rQZX7,rQZX8,rQZX9,rQZX10,rQZX11,rQZX12,rQZX13,rQZX14,rQZX15,rQZX16,rQZX17,rQZX18,rQZX19,rQZX20,rQZX21,f1,f2,f3,f4,f5,f6,f7,f7z,f8,f8z,f9,f10,pm3,pb3,po3,pp3,pl3,blk,eds_length,eds_get,edsAt,edAV,allLeaf_eds,cleanL_eds,cleanL_ints,ints_length,ints_get,intsAt,endL,finB]
theorem cX4z (N : Nat) (Es : List Ed) {nb : Nat} {L : Heap} {caps : List AV} (q1 : Lead nb L) (q3 : PlainC nb caps) (nT : Nat) (after P : List Int) (a b : Nat) (t : Bool)  : codeL cfgS (nb + 6) (.reg rQZX4 false [] [0,1,2,3,4,6,7,12,45]) ⟨cv1 nb a b t [(12,.int .u64 ((0 : Nat) : Int))],kH nb L N Es nT caps after P⟩ = some (.normal,⟨cv1 nb a b t [(12,.int .u64 ((0 : Nat) : Int)),(45,.bool false)],kH nb L N Es nT caps after P⟩) := by
 obtain ⟨f1,f2,f3,f4,f5,f6,f7,f7z,f8,f8z,f9,f10⟩ := q1;obtain ⟨pm3,pb3,po3,pp3,pl3,_⟩ := q3
 try unfold cv0
 try unfold cv1
 unfold kH;simp [rQZX0,rQZX1,rQZX2,rQZX3,rQZX4,rQZX5,rQZX6,rQZX7,rQZX8,rQZX9,rQZX10,rQZX11,rQZX12,rQZX13,rQZX14,rQZX15,rQZX16,rQZX17,rQZX18,rQZX19,rQZX20,rQZX21,f1,f2,f3,f4,f5,f6,f7,f7z,f8,f8z,f9,f10,pm3,pb3,po3,pp3,pl3,blk,eds_length,eds_get,edsAt,edAV,allLeaf_eds,cleanL_eds,cleanL_ints,ints_length,ints_get,intsAt,endL,finB]
theorem cX4 (N : Nat) (Es : List Ed) {nb : Nat} {L : Heap} {caps : List AV} (q1 : Lead nb L) (q3 : PlainC nb caps) (nT : Nat) (after P : List Int) (a b : Nat) (t : Bool) {m : Nat} (m0 : m ≠ 0) : codeL cfgS (nb + 6) (.reg rQZX4 false [] [0,1,2,3,4,6,7,12,45]) ⟨cv1 nb a b t [(12,.int .u64 (m : Int))],kH nb L N Es nT caps after P⟩ = some (.normal,⟨cv1 nb a b t [(12,.int .u64 (m : Int)),(45,.bool true)],kH nb L N Es nT caps after P⟩) := by
 obtain ⟨f1,f2,f3,f4,f5,f6,f7,f7z,f8,f8z,f9,f10⟩ := q1;obtain ⟨pm3,pb3,po3,pp3,pl3,_⟩ := q3;have n0 : ¬ ((m : Int) = 0) := by omega
 generalize (m : Int) = X at *
 try unfold cv0
 try unfold cv1
 unfold kH;simp [rQZX0,rQZX1,rQZX2,rQZX3,rQZX4,rQZX5,rQZX6,rQZX7,rQZX8,rQZX9,rQZX10,rQZX11,rQZX12,rQZX13,rQZX14,rQZX15,rQZX16,rQZX17,rQZX18,rQZX19,rQZX20,rQZX21,n0,f1,f2,f3,f4,f5,f6,f7,f7z,f8,f8z,f9,f10,pm3,pb3,po3,pp3,pl3,blk,eds_length,eds_get,edsAt,edAV,allLeaf_eds,cleanL_eds,cleanL_ints,ints_length,ints_get,intsAt,endL,finB]
theorem row_k {N : Nat} {Es : List Ed} (h : GOK (N : Int) Es) {v : Int} (hv : 0 <= v /\ v < (N : Int)) : idx (.int .i64 v) (adjE N Es).length = some v.toNat /\ (us (adjE N Es))[v.toNat]? = some (.int .u64 ((adjE N Es).getD v.toNat 0 : Nat)) := by
 have e := (gadj h).1;refine ⟨idx_lt hv.1 (by rw [e]; exact hv.2),?_⟩;rw [us_get,List.getD_eq_getElem?_getD,List.getElem?_eq_getElem (by omega)];rfl
theorem aft_at {after P : List Int} (h : P.length < after.length) (h2 : after.length < 9223372036854775808) : idx (.int .i64 (P.length : Int)) after.length = some P.length /\ (ints after)[P.length]? = some (.int .i64 (after.getD P.length 0)) := by
 refine ⟨idx_lt (by omega) (by omega),?_⟩;rw [ints_get,List.getD_eq_getElem?_getD,List.getElem?_eq_getElem h];rfl
theorem cX5 {N : Nat} {Es : List Ed} (h : GOK (N : Int) Es) {nb : Nat} {L : Heap} {caps : List AV} (q1 : Lead nb L) (q3 : PlainC nb caps) (nT : Nat) (after P : List Int) {a : Nat} (ha : a < 18446744073709551616) (b : Nat) (t : Bool) {m : Nat} (m0 : m ≠ 0) (hm : m < 18446744073709551616) {v : Int} (ev : v = ((tz m : Nat) : Int)) (hv : 0 <= v /\ v < (N : Int)) : codeL cfgS (nb + 6) (.reg rQZX5 true [(6,6),(7,7),(0,1),(1,2),(0,3),(1,3),(0,5)] [0,1,2,3,4,6,7,12,57]) ⟨cv1 nb a b t [(12,.int .u64 (m : Int)),(45,.bool true)],kH nb L N Es nT caps after P⟩ = some (.normal,⟨cv1 nb a b t [(12,.int .u64 (m : Int)),(57,.bool (decide (a &&& (18446744073709551615 - (adjE N Es).getD v.toNat 0) = 0)))],kH nb L N Es nT caps after P⟩) := by
 obtain ⟨f1,f2,f3,f4,f5,f6,f7,f7z,f8,f8z,f9,f10⟩ := q1;obtain ⟨pm3,pb3,po3,pp3,pl3,_⟩ := q3;obtain ⟨i1,i2⟩ := row_k h hv;have ra := getD_lt (gadj h).2.1 v.toNat;have elA := us_length (adjE N Es);have i2' : ∀ h : v.toNat < (us (adjE N Es)).length,(us (adjE N Es))[v.toNat] = .int .u64 ((adjE N Es).getD v.toNat 0 : Nat) := fun h => by rw [List.getElem?_eq_getElem h] at i2; exact Option.some.inj i2
 have w1 := u64_andNot_nat a ((adjE N Es).getD v.toNat 0) ha ra;have ht := tz_run m m0 hm;rw [<- ev] at ht
 have z : decide (((a &&& (18446744073709551615 - (adjE N Es).getD v.toNat 0) : Nat) : Int) = 0) = decide (a &&& (18446744073709551615 - (adjE N Es).getD v.toNat 0) = 0) := by
  rw [Bool.eq_iff_iff,decide_eq_true_eq,decide_eq_true_eq]; omega
 rw [<- z];clear z;generalize ((a &&& (18446744073709551615 - (adjE N Es).getD v.toNat 0) : Nat) : Int) = Q at *;generalize (((adjE N Es).getD v.toNat 0 : Nat) : Int) = r at *;generalize (m : Int) = X at *
 try unfold cv0
 try unfold cv1
 unfold kH;generalize us (adjE N Es) = A at *;simp [rQZX0,rQZX1,rQZX2,rQZX3,rQZX4,rQZX5,rQZX6,rQZX7,rQZX8,rQZX9,rQZX10,rQZX11,rQZX12,rQZX13,rQZX14,rQZX15,rQZX16,rQZX17,rQZX18,rQZX19,rQZX20,rQZX21,i1,i2,i2',elA,w1,ht,beqI,sQD,iQD,vQD,lQD,f1,f2,f3,f4,f5,f6,f7,f7z,f8,f8z,f9,f10,pm3,pb3,po3,pp3,pl3,blk,eds_length,eds_get,edsAt,edAV,allLeaf_eds,cleanL_eds,cleanL_ints,ints_length,ints_get,intsAt,endL,finB]
theorem cX6 (N : Nat) (Es : List Ed) {nb : Nat} {L : Heap} {caps : List AV} (q1 : Lead nb L) (q3 : PlainC nb caps) (nT : Nat) (after P : List Int) (a b : Nat) (t : Bool) (X : Int) : codeL cfgS (nb + 6) (.reg rQZX6 false [] [11]) ⟨cv1 nb a b t [(12,.int .u64 X),(57,.bool true)],kH nb L N Es nT caps after P⟩ = some (.normal,⟨[(11,.bool true)],kH nb L N Es nT caps after P⟩) := by
 obtain ⟨f1,f2,f3,f4,f5,f6,f7,f7z,f8,f8z,f9,f10⟩ := q1;obtain ⟨pm3,pb3,po3,pp3,pl3,_⟩ := q3
 try unfold cv0
 try unfold cv1
 unfold kH;simp [rQZX0,rQZX1,rQZX2,rQZX3,rQZX4,rQZX5,rQZX6,rQZX7,rQZX8,rQZX9,rQZX10,rQZX11,rQZX12,rQZX13,rQZX14,rQZX15,rQZX16,rQZX17,rQZX18,rQZX19,rQZX20,rQZX21,f1,f2,f3,f4,f5,f6,f7,f7z,f8,f8z,f9,f10,pm3,pb3,po3,pp3,pl3,blk,eds_length,eds_get,edsAt,edAV,allLeaf_eds,cleanL_eds,cleanL_ints,ints_length,ints_get,intsAt,endL,finB]
theorem cX7 (N : Nat) (Es : List Ed) {nb : Nat} {L : Heap} {caps : List AV} (q1 : Lead nb L) (q3 : PlainC nb caps) (nT : Nat) (after P : List Int) (a b : Nat) (t : Bool) {m : Nat} (m0 : m ≠ 0) (hm : m < 18446744073709551616) : codeL cfgS (nb + 6) (.reg rQZX7 false [] [0,1,2,3,4,6,7,12]) ⟨cv1 nb a b t [(12,.int .u64 (m : Int)),(57,.bool false)],kH nb L N Es nT caps after P⟩ = some (.normal,⟨cv1 nb a b t [(12,.int .u64 ((m &&& (m - 1) : Nat) : Int))],kH nb L N Es nT caps after P⟩) := by
 obtain ⟨f1,f2,f3,f4,f5,f6,f7,f7z,f8,f8z,f9,f10⟩ := q1;obtain ⟨pm3,pb3,po3,pp3,pl3,_⟩ := q3;have w1 := decU m0 hm;have w2 := u64_and_nat m (m - 1) hm (by omega);generalize ((m &&& (m - 1) : Nat) : Int) = q at *;generalize ((m - 1 : Nat) : Int) = p at *;generalize (m : Int) = Y at *
 try unfold cv0
 try unfold cv1
 unfold kH;simp [rQZX0,rQZX1,rQZX2,rQZX3,rQZX4,rQZX5,rQZX6,rQZX7,rQZX8,rQZX9,rQZX10,rQZX11,rQZX12,rQZX13,rQZX14,rQZX15,rQZX16,rQZX17,rQZX18,rQZX19,rQZX20,rQZX21,w1,w2,f1,f2,f3,f4,f5,f6,f7,f7z,f8,f8z,f9,f10,pm3,pb3,po3,pp3,pl3,blk,eds_length,eds_get,edsAt,edAV,allLeaf_eds,cleanL_eds,cleanL_ints,ints_length,ints_get,intsAt,endL,finB]
theorem cX8 (N : Nat) (Es : List Ed) {nb : Nat} {L : Heap} {caps : List AV} (q1 : Lead nb L) (q3 : PlainC nb caps) (nT : Nat) (after P : List Int) (a b : Nat) (t : Bool) (X : Int) : codeL cfgS (nb + 6) (.reg rQZX8 false [] [0,1,2,3,4,6,7,13]) ⟨cv1 nb a b t [(12,.int .u64 X),(45,.bool false)],kH nb L N Es nT caps after P⟩ = some (.normal,⟨cv1 nb a b t [(13,.int .u64 (a : Int))],kH nb L N Es nT caps after P⟩) := by
 obtain ⟨f1,f2,f3,f4,f5,f6,f7,f7z,f8,f8z,f9,f10⟩ := q1;obtain ⟨pm3,pb3,po3,pp3,pl3,_⟩ := q3
 try unfold cv0
 try unfold cv1
 unfold kH;simp [rQZX0,rQZX1,rQZX2,rQZX3,rQZX4,rQZX5,rQZX6,rQZX7,rQZX8,rQZX9,rQZX10,rQZX11,rQZX12,rQZX13,rQZX14,rQZX15,rQZX16,rQZX17,rQZX18,rQZX19,rQZX20,rQZX21,f1,f2,f3,f4,f5,f6,f7,f7z,f8,f8z,f9,f10,pm3,pb3,po3,pp3,pl3,blk,eds_length,eds_get,edsAt,edAV,allLeaf_eds,cleanL_eds,cleanL_ints,ints_length,ints_get,intsAt,endL,finB]
theorem cX9z (N : Nat) (Es : List Ed) {nb : Nat} {L : Heap} {caps : List AV} (q1 : Lead nb L) (q3 : PlainC nb caps) (nT : Nat) (after P : List Int) (a b : Nat) (t : Bool)  : codeL cfgS (nb + 6) (.reg rQZX9 false [] [0,1,2,3,4,6,7,13,60]) ⟨cv1 nb a b t [(13,.int .u64 ((0 : Nat) : Int))],kH nb L N Es nT caps after P⟩ = some (.normal,⟨cv1 nb a b t [(13,.int .u64 ((0 : Nat) : Int)),(60,.bool false)],kH nb L N Es nT caps after P⟩) := by
 obtain ⟨f1,f2,f3,f4,f5,f6,f7,f7z,f8,f8z,f9,f10⟩ := q1;obtain ⟨pm3,pb3,po3,pp3,pl3,_⟩ := q3
 try unfold cv0
 try unfold cv1
 unfold kH;simp [rQZX0,rQZX1,rQZX2,rQZX3,rQZX4,rQZX5,rQZX6,rQZX7,rQZX8,rQZX9,rQZX10,rQZX11,rQZX12,rQZX13,rQZX14,rQZX15,rQZX16,rQZX17,rQZX18,rQZX19,rQZX20,rQZX21,f1,f2,f3,f4,f5,f6,f7,f7z,f8,f8z,f9,f10,pm3,pb3,po3,pp3,pl3,blk,eds_length,eds_get,edsAt,edAV,allLeaf_eds,cleanL_eds,cleanL_ints,ints_length,ints_get,intsAt,endL,finB]
theorem cX9 (N : Nat) (Es : List Ed) {nb : Nat} {L : Heap} {caps : List AV} (q1 : Lead nb L) (q3 : PlainC nb caps) (nT : Nat) (after P : List Int) (a b : Nat) (t : Bool) {m : Nat} (m0 : m ≠ 0) : codeL cfgS (nb + 6) (.reg rQZX9 false [] [0,1,2,3,4,6,7,13,60]) ⟨cv1 nb a b t [(13,.int .u64 (m : Int))],kH nb L N Es nT caps after P⟩ = some (.normal,⟨cv1 nb a b t [(13,.int .u64 (m : Int)),(60,.bool true)],kH nb L N Es nT caps after P⟩) := by
 obtain ⟨f1,f2,f3,f4,f5,f6,f7,f7z,f8,f8z,f9,f10⟩ := q1;obtain ⟨pm3,pb3,po3,pp3,pl3,_⟩ := q3;have n0 : ¬ ((m : Int) = 0) := by omega
 generalize (m : Int) = X at *
 try unfold cv0
 try unfold cv1
 unfold kH;simp [rQZX0,rQZX1,rQZX2,rQZX3,rQZX4,rQZX5,rQZX6,rQZX7,rQZX8,rQZX9,rQZX10,rQZX11,rQZX12,rQZX13,rQZX14,rQZX15,rQZX16,rQZX17,rQZX18,rQZX19,rQZX20,rQZX21,n0,f1,f2,f3,f4,f5,f6,f7,f7z,f8,f8z,f9,f10,pm3,pb3,po3,pp3,pl3,blk,eds_length,eds_get,edsAt,edAV,allLeaf_eds,cleanL_eds,cleanL_ints,ints_length,ints_get,intsAt,endL,finB]
theorem cX10 (N : Nat) (Es : List Ed) {nb : Nat} {L : Heap} {caps : List AV} (q1 : Lead nb L) (q3 : PlainC nb caps) (nT : Nat) (after P : List Int) (a b : Nat) (t : Bool) {m : Nat} (m0 : m ≠ 0) (hm : m < 18446744073709551616) : codeL cfgS (nb + 6) (.reg rQZX10 false [] [0,1,2,3,4,6,7,13,14]) ⟨cv1 nb a b t [(13,.int .u64 (m : Int)),(60,.bool true)],kH nb L N Es nT caps after P⟩ = some (.normal,⟨cv1 nb a b t [(13,.int .u64 (m : Int)),(14,.int .i64 (tz m : Nat))],kH nb L N Es nT caps after P⟩) := by
 obtain ⟨f1,f2,f3,f4,f5,f6,f7,f7z,f8,f8z,f9,f10⟩ := q1;obtain ⟨pm3,pb3,po3,pp3,pl3,_⟩ := q3;have ht := tz_run m m0 hm;generalize (m : Int) = X at *;generalize ((tz m : Nat) : Int) = v at *
 try unfold cv0
 try unfold cv1
 unfold kH;simp [rQZX0,rQZX1,rQZX2,rQZX3,rQZX4,rQZX5,rQZX6,rQZX7,rQZX8,rQZX9,rQZX10,rQZX11,rQZX12,rQZX13,rQZX14,rQZX15,rQZX16,rQZX17,rQZX18,rQZX19,rQZX20,rQZX21,ht,sQD,iQD,vQD,lQD,f1,f2,f3,f4,f5,f6,f7,f7z,f8,f8z,f9,f10,pm3,pb3,po3,pp3,pl3,blk,eds_length,eds_get,edsAt,edAV,allLeaf_eds,cleanL_eds,cleanL_ints,ints_length,ints_get,intsAt,endL,finB]
theorem cX11 (N : Nat) (Es : List Ed) {nb : Nat} {L : Heap} {caps : List AV} (q1 : Lead nb L) (q3 : PlainC nb caps) (nT : Nat) (after P : List Int) (a b : Nat) (t : Bool) (X v : Int) : codeL cfgS (nb + 6) (.reg rQZX11 false [] [0,1,2,3,4,6,7,13,14,15]) ⟨cv1 nb a b t [(13,.int .u64 X),(14,.int .i64 v)],kH nb L N Es nT caps after P⟩ = some (.normal,⟨cv1 nb a b t [(13,.int .u64 X),(14,.int .i64 v),(15,.bool (hereL after P t))],kH nb L N Es nT caps after P⟩) := by
 obtain ⟨f1,f2,f3,f4,f5,f6,f7,f7z,f8,f8z,f9,f10⟩ := q1;obtain ⟨pm3,pb3,po3,pp3,pl3,_⟩ := q3
 try unfold cv0
 try unfold cv1
 unfold kH;unfold hereL;cases t
 ·simp [rQZX0,rQZX1,rQZX2,rQZX3,rQZX4,rQZX5,rQZX6,rQZX7,rQZX8,rQZX9,rQZX10,rQZX11,rQZX12,rQZX13,rQZX14,rQZX15,rQZX16,rQZX17,rQZX18,rQZX19,rQZX20,rQZX21,f1,f2,f3,f4,f5,f6,f7,f7z,f8,f8z,f9,f10,pm3,pb3,po3,pp3,pl3,blk,eds_length,eds_get,edsAt,edAV,allLeaf_eds,cleanL_eds,cleanL_ints,ints_length,ints_get,intsAt,endL,finB]
 ·simp [rQZX0,rQZX1,rQZX2,rQZX3,rQZX4,rQZX5,rQZX6,rQZX7,rQZX8,rQZX9,rQZX10,rQZX11,rQZX12,rQZX13,rQZX14,rQZX15,rQZX16,rQZX17,rQZX18,rQZX19,rQZX20,rQZX21,f1,f2,f3,f4,f5,f6,f7,f7z,f8,f8z,f9,f10,pm3,pb3,po3,pp3,pl3,blk,eds_length,eds_get,edsAt,edAV,allLeaf_eds,cleanL_eds,cleanL_ints,ints_length,ints_get,intsAt,endL,finB]
theorem cX12 (N : Nat) (Es : List Ed) {nb : Nat} {L : Heap} {caps : List AV} (q1 : Lead nb L) (q3 : PlainC nb caps) (nT : Nat) (after P : List Int) (a b : Nat) (t : Bool) (hA : after.length < 9223372036854775808) (X v : Int) : codeL cfgS (nb + 6) (.reg rQZX12 false [] [0,1,2,3,4,6,7,13,14,15,84]) ⟨cv1 nb a b t [(13,.int .u64 X),(14,.int .i64 v),(15,.bool (hereL after P t))],kH nb L N Es nT caps after P⟩ = some (.normal,⟨cv1 nb a b t [(13,.int .u64 X),(14,.int .i64 v),(15,.bool (hereL after P t)),(84,.bool (skipL after P t v))],kH nb L N Es nT caps after P⟩) := by
 obtain ⟨f1,f2,f3,f4,f5,f6,f7,f7z,f8,f8z,f9,f10⟩ := q1;obtain ⟨pm3,pb3,po3,pp3,pl3,_⟩ := q3
 try unfold cv0
 try unfold cv1
 unfold kH;unfold skipL;by_cases k : hereL after P t = true
 ·have k2 : P.length < after.length := by
   simp only [hereL,Bool.and_eq_true,decide_eq_true_eq] at k; exact k.2
  obtain ⟨j1,j2⟩ := aft_at k2 hA;have j2' : ∀ h : P.length < (ints after).length,(ints after)[P.length] = .int .i64 (after.getD P.length 0) := fun h => by rw [List.getElem?_eq_getElem h] at j2; exact Option.some.inj j2
  generalize after.getD P.length 0 = w at *;rw [k];simp [rQZX0,rQZX1,rQZX2,rQZX3,rQZX4,rQZX5,rQZX6,rQZX7,rQZX8,rQZX9,rQZX10,rQZX11,rQZX12,rQZX13,rQZX14,rQZX15,rQZX16,rQZX17,rQZX18,rQZX19,rQZX20,rQZX21,j1,j2,j2',beqI,f1,f2,f3,f4,f5,f6,f7,f7z,f8,f8z,f9,f10,pm3,pb3,po3,pp3,pl3,blk,eds_length,eds_get,edsAt,edAV,allLeaf_eds,cleanL_eds,cleanL_ints,ints_length,ints_get,intsAt,endL,finB]
 ·have k : hereL after P t = false := by simpa using k
  rw [k];simp [rQZX0,rQZX1,rQZX2,rQZX3,rQZX4,rQZX5,rQZX6,rQZX7,rQZX8,rQZX9,rQZX10,rQZX11,rQZX12,rQZX13,rQZX14,rQZX15,rQZX16,rQZX17,rQZX18,rQZX19,rQZX20,rQZX21,f1,f2,f3,f4,f5,f6,f7,f7z,f8,f8z,f9,f10,pm3,pb3,po3,pp3,pl3,blk,eds_length,eds_get,edsAt,edAV,allLeaf_eds,cleanL_eds,cleanL_ints,ints_length,ints_get,intsAt,endL,finB]
theorem cX13 (N : Nat) (Es : List Ed) {nb : Nat} {L : Heap} {caps : List AV} (q1 : Lead nb L) (q3 : PlainC nb caps) (nT : Nat) (after P : List Int) (a b : Nat) (t : Bool) (hA : after.length < 9223372036854775808) (X v : Int) : codeL cfgS (nb + 6) (.reg rQZX13 false [] [0,1,2,3,4,6,7,13,14,15]) ⟨cv1 nb a b t [(13,.int .u64 X),(14,.int .i64 v),(15,.bool (hereL after P t)),(84,.bool false)],kH nb L N Es nT caps after P⟩ = some (.normal,⟨cv1 nb a b t [(13,.int .u64 X),(14,.int .i64 v),(15,.bool (onL after P t v))],kH nb L N Es nT caps after P⟩) := by
 obtain ⟨f1,f2,f3,f4,f5,f6,f7,f7z,f8,f8z,f9,f10⟩ := q1;obtain ⟨pm3,pb3,po3,pp3,pl3,_⟩ := q3
 try unfold cv0
 try unfold cv1
 unfold kH;unfold onL;by_cases k : hereL after P t = true
 ·have k2 : P.length < after.length := by
   simp only [hereL,Bool.and_eq_true,decide_eq_true_eq] at k; exact k.2
  obtain ⟨j1,j2⟩ := aft_at k2 hA;have j2' : ∀ h : P.length < (ints after).length,(ints after)[P.length] = .int .i64 (after.getD P.length 0) := fun h => by rw [List.getElem?_eq_getElem h] at j2; exact Option.some.inj j2
  generalize after.getD P.length 0 = w at *;rw [k];simp [rQZX0,rQZX1,rQZX2,rQZX3,rQZX4,rQZX5,rQZX6,rQZX7,rQZX8,rQZX9,rQZX10,rQZX11,rQZX12,rQZX13,rQZX14,rQZX15,rQZX16,rQZX17,rQZX18,rQZX19,rQZX20,rQZX21,j1,j2,j2',beqI,f1,f2,f3,f4,f5,f6,f7,f7z,f8,f8z,f9,f10,pm3,pb3,po3,pp3,pl3,blk,eds_length,eds_get,edsAt,edAV,allLeaf_eds,cleanL_eds,cleanL_ints,ints_length,ints_get,intsAt,endL,finB]
 ·have k : hereL after P t = false := by simpa using k
  rw [k];simp [rQZX0,rQZX1,rQZX2,rQZX3,rQZX4,rQZX5,rQZX6,rQZX7,rQZX8,rQZX9,rQZX10,rQZX11,rQZX12,rQZX13,rQZX14,rQZX15,rQZX16,rQZX17,rQZX18,rQZX19,rQZX20,rQZX21,f1,f2,f3,f4,f5,f6,f7,f7z,f8,f8z,f9,f10,pm3,pb3,po3,pp3,pl3,blk,eds_length,eds_get,edsAt,edAV,allLeaf_eds,cleanL_eds,cleanL_ints,ints_length,ints_get,intsAt,endL,finB]
theorem cX14 (N : Nat) (Es : List Ed) {nb : Nat} {L : Heap} {caps : List AV} (q1 : Lead nb L) (q3 : PlainC nb caps) (nT : Nat) (after P : List Int) (a b : Nat) (t : Bool) (hl : P.length < 4294967295) (X v : Int) (c : Bool) : codeL cfgS (nb + 6) (.reg rQZX14 false [] [0,1,2,3,4,6,7,13,14,15]) ⟨cv1 nb a b t [(13,.int .u64 X),(14,.int .i64 v),(15,.bool c)],kH nb L N Es nT caps after P⟩ = some (.normal,⟨cv1 nb a b t [(13,.int .u64 X),(14,.int .i64 v),(15,.bool c)],kH nb L N Es nT caps after (P ++ [v])⟩) := by
 obtain ⟨f1,f2,f3,f4,f5,f6,f7,f7z,f8,f8z,f9,f10⟩ := q1;obtain ⟨pm3,pb3,po3,pp3,pl3,_⟩ := q3;have h1 : P.length + 1 <= 4294967296 := by omega
 try unfold cv0
 try unfold cv1
 have e1 : nb + 1 + 1 = nb + 2 := rfl;have e2 : nb + 2 + 1 = nb + 3 := rfl;have e3 : nb + 3 + 1 = nb + 4 := rfl;have e4 : nb + 4 + 1 = nb + 5 := rfl;unfold kH;simp [rQZX0,rQZX1,rQZX2,rQZX3,rQZX4,rQZX5,rQZX6,rQZX7,rQZX8,rQZX9,rQZX10,rQZX11,rQZX12,rQZX13,rQZX14,rQZX15,rQZX16,rQZX17,rQZX18,rQZX19,rQZX20,rQZX21,h1,LIM,ints_snoc,ints_take,e1,e2,e3,e4,f1,f2,f3,f4,f5,f6,f7,f7z,f8,f8z,f9,f10,pm3,pb3,po3,pp3,pl3,blk,eds_length,eds_get,edsAt,edAV,allLeaf_eds,cleanL_eds,cleanL_ints,ints_length,ints_get,intsAt,endL,finB]
theorem cX15 (N : Nat) (Es : List Ed) {nb : Nat} {L : Heap} {caps : List AV} (q1 : Lead nb L) (q3 : PlainC nb caps) (nT : Nat) (after P : List Int) (a b : Nat) (t : Bool) (X : Int) {v : Int} (v0 : 0 <= v) (v1 : v < 64) (c : Bool) : codeL cfgS (nb + 6) (.reg rQZX15 false [] [0,1,2,3,4,6,7,13,14,15,16]) ⟨cv1 nb a b t [(13,.int .u64 X),(14,.int .i64 v),(15,.bool c)],kH nb L N Es nT caps after P⟩ = some (.normal,⟨cv1 nb a b t [(13,.int .u64 X),(14,.int .i64 v),(15,.bool c),(16,.int .u64 ((2 ^ v.toNat - 1 : Nat) : Int))],kH nb L N Es nT caps after P⟩) := by
 obtain ⟨f1,f2,f3,f4,f5,f6,f7,f7z,f8,f8z,f9,f10⟩ := q1;obtain ⟨pm3,pb3,po3,pp3,pl3,_⟩ := q3;have v0' : ¬ v < 0 := by omega
 have s1 := shlU v0 v1;have s1' : IntKind.u64.wrap (2 ^ (min v.toNat 64)) = ((2 ^ v.toNat : Nat) : Int) := by rw [<- s1,Int.one_mul]
 have s2 := decU (m := 2 ^ v.toNat) (by have := Nat.two_pow_pos v.toNat; omega) (pow_lt64 v1 v0);generalize ((2 ^ v.toNat - 1 : Nat) : Int) = p1 at *;generalize ((2 ^ v.toNat : Nat) : Int) = p at *
 try unfold cv0
 try unfold cv1
 unfold kH;simp [rQZX0,rQZX1,rQZX2,rQZX3,rQZX4,rQZX5,rQZX6,rQZX7,rQZX8,rQZX9,rQZX10,rQZX11,rQZX12,rQZX13,rQZX14,rQZX15,rQZX16,rQZX17,rQZX18,rQZX19,rQZX20,rQZX21,v0',s1,s1',s2,IntKind.bits,f1,f2,f3,f4,f5,f6,f7,f7z,f8,f8z,f9,f10,pm3,pb3,po3,pp3,pl3,blk,eds_length,eds_get,edsAt,edAV,allLeaf_eds,cleanL_eds,cleanL_ints,ints_length,ints_get,intsAt,endL,finB]
def kA (nb a b : Nat) (t : Bool) : List AV := [.int .u64 (a : Nat),.int .u64 (b : Nat),.bool t,.ptr (nb + 4) 0,.ptr (nb + 1) 0,.ptr (nb + 2) 0,.ptr (nb + 3) 0,.ptr (nb + 5) 0]
theorem cX16 {N : Nat} {Es : List Ed} (h : GOK (N : Int) Es) {nb : Nat} {L : Heap} {caps : List AV} (q1 : Lead nb L) (q3 : PlainC nb caps) (nT : Nat) (after P : List Int) {a : Nat} (ha : a < 18446744073709551616) (b : Nat) (t : Bool) (hb : b < 18446744073709551616) {L3 : Heap} (q4 : Lead nb L3) (X : Int) {v : Int} (hv : 0 <= v /\ v < (N : Int)) (c g : Bool) {a2 b2 : Nat} (ea : a2 = (a &&& (adjE N Es).getD v.toNat 0) &&& (18446744073709551615 - (2 ^ v.toNat - 1))) (eb : b2 = (b ||| (a &&& (2 ^ v.toNat - 1))) &&& (adjE N Es).getD v.toNat 0) (hin : callL cfgS nQZ (kA nb a2 b2 c) (kH nb L N Es nT caps after P) = some (.bool g,kH nb L3 N Es nT caps after P)) : codeL cfgS (nb + 6) (.reg rQZX16 true [(20,20),(21,21),(0,1),(0,2),(1,2),(0,3),(2,3),(0,4),(0,5),(1,5),(0,6),(0,7),(2,7),(5,7),(0,8),(0,9),(2,9),(5,9),(0,10),(2,10),(5,10),(0,11),(2,11),(5,11),(0,12),(2,12),(5,12),(0,13),(2,13),(5,13),(0,14),(1,14),(2,14),(3,14),(4,14),(5,14),(6,14),(7,14),(8,14),(9,14),(10,14),(11,14),(12,14),(13,14),(0,15),(2,15),(5,15),(14,15),(0,16),(2,16),(5,16),(0,17),(1,17),(2,17),(3,17),(4,17),(5,17),(6,17),(7,17),(8,17),(9,17),(10,17),(11,17),(12,17),(13,17),(0,18),(2,18),(5,18),(0,19),(2,19),(5,19),(14,19),(17,19)] [0,1,2,3,4,6,7,13,17]) ⟨cv1 nb a b t [(13,.int .u64 X),(14,.int .i64 v),(15,.bool c),(16,.int .u64 ((2 ^ v.toNat - 1 : Nat) : Int))],kH nb L N Es nT caps after P⟩ = some (.normal,⟨cv1 nb a b t [(13,.int .u64 X),(17,.bool g)],kH nb L3 N Es nT caps after P⟩) := by
 obtain ⟨f1,f2,f3,f4,f5,f6,f7,f7z,f8,f8z,f9,f10⟩ := q1;obtain ⟨pm3,pb3,po3,pp3,pl3,_⟩ := q3;obtain ⟨g1,g2,g3,g4,g5,g6,g7,g7z,g8,g8z,g9,g10⟩ := q4;obtain ⟨i1,i2⟩ := row_k h hv;have ra := getD_lt (gadj h).2.1 v.toNat;have elA := us_length (adjE N Es);have i2' : ∀ h : v.toNat < (us (adjE N Es)).length,(us (adjE N Es))[v.toNat] = .int .u64 ((adjE N Es).getD v.toNat 0 : Nat) := fun h => by rw [List.getElem?_eq_getElem h] at i2; exact Option.some.inj i2
 have hn := gok_n h;have p2 := pow_lt64 (v := v) (by omega) hv.1;have w1 := u64_and_nat a ((adjE N Es).getD v.toNat 0) ha ra;have w2 := u64_andNot_nat (a &&& (adjE N Es).getD v.toNat 0) (2 ^ v.toNat - 1) (Nat.lt_of_le_of_lt Nat.and_le_left ha) (by omega);have w3 := u64_and_nat a (2 ^ v.toNat - 1) ha (by omega);have w4 := u64_or_nat b (a &&& (2 ^ v.toNat - 1)) hb (Nat.lt_of_le_of_lt Nat.and_le_left ha);have w5 := u64_and_nat (b ||| (a &&& (2 ^ v.toNat - 1))) ((adjE N Es).getD v.toNat 0) (Nat.or_lt_two_pow (n := 64) hb (Nat.lt_of_le_of_lt Nat.and_le_left ha)) ra;rw [<- ea] at w2;rw [<- eb] at w5;unfold kA at hin;unfold cv1;unfold kH at hin ⊢;clear ea eb p2;generalize ((b ||| (a &&& (2 ^ v.toNat - 1)) : Nat) : Int) = u1 at *;generalize ((a &&& (2 ^ v.toNat - 1) : Nat) : Int) = u2 at *;generalize ((a &&& (adjE N Es).getD v.toNat 0 : Nat) : Int) = u3 at *;generalize ((2 ^ v.toNat - 1 : Nat) : Int) = u4 at *;generalize (((adjE N Es).getD v.toNat 0 : Nat) : Int) = u5 at *;generalize (a2 : Int) = u6 at *;generalize (b2 : Int) = u7 at *;generalize us (adjE N Es) = A at *;simp [rQZX0,rQZX1,rQZX2,rQZX3,rQZX4,rQZX5,rQZX6,rQZX7,rQZX8,rQZX9,rQZX10,rQZX11,rQZX12,rQZX13,rQZX14,rQZX15,rQZX16,rQZX17,rQZX18,rQZX19,rQZX20,rQZX21,i1,i2,i2',elA,w1,w2,w3,w4,w5,hin,plp,plpL,allB,notBox,swC,seesC,inBox,sQZ,iQZ,vQZ,lQZ,f1,f2,f3,f4,f5,f6,f7,f7z,f8,f8z,f9,f10,pm3,pb3,po3,pp3,pl3,g1,g2,g3,g4,g5,g6,g7,g7z,g8,g8z,g9,g10,blk,eds_length,eds_get,edsAt,edAV,allLeaf_eds,cleanL_eds,cleanL_ints,ints_length,ints_get,intsAt,endL,finB]
theorem cX17 (N : Nat) (Es : List Ed) {nb : Nat} {L : Heap} {caps : List AV} (q1 : Lead nb L) (q3 : PlainC nb caps) (nT : Nat) (after P : List Int) (a b : Nat) (t : Bool) (hl : P.length < 4294967295) (X v : Int) (g : Bool) : codeL cfgS (nb + 6) (.reg rQZX17 false [] [0,1,2,3,4,6,7,13,17]) ⟨cv1 nb a b t [(13,.int .u64 X),(17,.bool g)],kH nb L N Es nT caps after (P ++ [v])⟩ = some (.normal,⟨cv1 nb a b t [(13,.int .u64 X),(17,.bool g)],kH nb L N Es nT caps after P⟩) := by
 obtain ⟨f1,f2,f3,f4,f5,f6,f7,f7z,f8,f8z,f9,f10⟩ := q1;obtain ⟨pm3,pb3,po3,pp3,pl3,_⟩ := q3;have w1 : IntKind.i64.wrap ((P.length : Int) + 1 - 1) = P.length := by rw [wrap_id (by omega) (by omega)]; omega
 have w2 := wrapN (i := P.length) (by omega);have le1 : (P.length : Int) <= P.length + 1 := by omega
 have nleK : ∀ n : Nat,(n + 1 <= n) = False := fun n => by simp
 have tk : (ints (P ++ [v])).take P.length = ints P := by rw [ints_take]; simp
 have ln : (ints (P ++ [v])).length = P.length + 1 := by simp [ints]
 try unfold cv0
 try unfold cv1
 unfold kH;simp [rQZX0,rQZX1,rQZX2,rQZX3,rQZX4,rQZX5,rQZX6,rQZX7,rQZX8,rQZX9,rQZX10,rQZX11,rQZX12,rQZX13,rQZX14,rQZX15,rQZX16,rQZX17,rQZX18,rQZX19,rQZX20,rQZX21,w1,w2,tk,ln,le1,nleK,relB,handBox,mvBB,mvRtB,f1,f2,f3,f4,f5,f6,f7,f7z,f8,f8z,f9,f10,pm3,pb3,po3,pp3,pl3,blk,eds_length,eds_get,edsAt,edAV,allLeaf_eds,cleanL_eds,cleanL_ints,ints_length,ints_get,intsAt,endL,finB]
theorem cX18 (N : Nat) (Es : List Ed) {nb : Nat} {L : Heap} {caps : List AV} (q1 : Lead nb L) (q3 : PlainC nb caps) (nT : Nat) (after P : List Int) (a b : Nat) (t : Bool) (X : Int) (g : Bool) : codeL cfgS (nb + 6) (.reg rQZX18 false [] [0,1,2,3,4,6,7,13,129]) ⟨cv1 nb a b t [(13,.int .u64 X),(17,.bool g)],kH nb L N Es nT caps after P⟩ = some (.normal,⟨cv1 nb a b t [(13,.int .u64 X),(129,.bool (!g))],kH nb L N Es nT caps after P⟩) := by
 obtain ⟨f1,f2,f3,f4,f5,f6,f7,f7z,f8,f8z,f9,f10⟩ := q1;obtain ⟨pm3,pb3,po3,pp3,pl3,_⟩ := q3
 try unfold cv0
 try unfold cv1
 unfold kH;cases g <;> simp [rQZX0,rQZX1,rQZX2,rQZX3,rQZX4,rQZX5,rQZX6,rQZX7,rQZX8,rQZX9,rQZX10,rQZX11,rQZX12,rQZX13,rQZX14,rQZX15,rQZX16,rQZX17,rQZX18,rQZX19,rQZX20,rQZX21,f1,f2,f3,f4,f5,f6,f7,f7z,f8,f8z,f9,f10,pm3,pb3,po3,pp3,pl3,blk,eds_length,eds_get,edsAt,edAV,allLeaf_eds,cleanL_eds,cleanL_ints,ints_length,ints_get,intsAt,endL,finB]
theorem cX19 (N : Nat) (Es : List Ed) {nb : Nat} {L : Heap} {caps : List AV} (q1 : Lead nb L) (q3 : PlainC nb caps) (nT : Nat) (after P : List Int) (a b : Nat) (t : Bool) (X : Int) : codeL cfgS (nb + 6) (.reg rQZX19 false [] [11]) ⟨cv1 nb a b t [(13,.int .u64 X),(129,.bool true)],kH nb L N Es nT caps after P⟩ = some (.normal,⟨[(11,.bool false)],kH nb L N Es nT caps after P⟩) := by
 obtain ⟨f1,f2,f3,f4,f5,f6,f7,f7z,f8,f8z,f9,f10⟩ := q1;obtain ⟨pm3,pb3,po3,pp3,pl3,_⟩ := q3
 try unfold cv0
 try unfold cv1
 unfold kH;simp [rQZX0,rQZX1,rQZX2,rQZX3,rQZX4,rQZX5,rQZX6,rQZX7,rQZX8,rQZX9,rQZX10,rQZX11,rQZX12,rQZX13,rQZX14,rQZX15,rQZX16,rQZX17,rQZX18,rQZX19,rQZX20,rQZX21,f1,f2,f3,f4,f5,f6,f7,f7z,f8,f8z,f9,f10,pm3,pb3,po3,pp3,pl3,blk,eds_length,eds_get,edsAt,edAV,allLeaf_eds,cleanL_eds,cleanL_ints,ints_length,ints_get,intsAt,endL,finB]
theorem cX20 (N : Nat) (Es : List Ed) {nb : Nat} {L : Heap} {caps : List AV} (q1 : Lead nb L) (q3 : PlainC nb caps) (nT : Nat) (after P : List Int) (a b : Nat) (t : Bool) {m : Nat} (m0 : m ≠ 0) (hm : m < 18446744073709551616) (x : Env) (hx : x = [(129,.bool false)] \/ ∃ v c,x = [(14,.int .i64 v),(15,.bool c),(84,.bool true)]) : codeL cfgS (nb + 6) (.reg rQZX20 false [] [0,1,2,3,4,6,7,13]) ⟨cv1 nb a b t ((13,.int .u64 (m : Int)) :: x),kH nb L N Es nT caps after P⟩ = some (.normal,⟨cv1 nb a b t [(13,.int .u64 ((m &&& (m - 1) : Nat) : Int))],kH nb L N Es nT caps after P⟩) := by
 obtain ⟨f1,f2,f3,f4,f5,f6,f7,f7z,f8,f8z,f9,f10⟩ := q1;obtain ⟨pm3,pb3,po3,pp3,pl3,_⟩ := q3;have w1 := decU m0 hm;have w2 := u64_and_nat m (m - 1) hm (by omega);generalize ((m &&& (m - 1) : Nat) : Int) = q at *;generalize ((m - 1 : Nat) : Int) = p at *;generalize (m : Int) = Y at *;unfold cv1 kH;rcases hx with rfl | ⟨v,c,rfl⟩
 ·simp [rQZX0,rQZX1,rQZX2,rQZX3,rQZX4,rQZX5,rQZX6,rQZX7,rQZX8,rQZX9,rQZX10,rQZX11,rQZX12,rQZX13,rQZX14,rQZX15,rQZX16,rQZX17,rQZX18,rQZX19,rQZX20,rQZX21,w1,w2,f1,f2,f3,f4,f5,f6,f7,f7z,f8,f8z,f9,f10,pm3,pb3,po3,pp3,pl3,blk,eds_length,eds_get,edsAt,edAV,allLeaf_eds,cleanL_eds,cleanL_ints,ints_length,ints_get,intsAt,endL,finB]
 ·simp [rQZX0,rQZX1,rQZX2,rQZX3,rQZX4,rQZX5,rQZX6,rQZX7,rQZX8,rQZX9,rQZX10,rQZX11,rQZX12,rQZX13,rQZX14,rQZX15,rQZX16,rQZX17,rQZX18,rQZX19,rQZX20,rQZX21,w1,w2,f1,f2,f3,f4,f5,f6,f7,f7z,f8,f8z,f9,f10,pm3,pb3,po3,pp3,pl3,blk,eds_length,eds_get,edsAt,edAV,allLeaf_eds,cleanL_eds,cleanL_ints,ints_length,ints_get,intsAt,endL,finB]
theorem cX21 (N : Nat) (Es : List Ed) {nb : Nat} {L : Heap} {caps : List AV} (q1 : Lead nb L) (q3 : PlainC nb caps) (nT : Nat) (after P : List Int) (a b : Nat) (t : Bool) (X : Int) : codeL cfgS (nb + 6) (.reg rQZX21 false [] [11]) ⟨cv1 nb a b t [(13,.int .u64 X),(60,.bool false)],kH nb L N Es nT caps after P⟩ = some (.normal,⟨[(11,.bool true)],kH nb L N Es nT caps after P⟩) := by
 obtain ⟨f1,f2,f3,f4,f5,f6,f7,f7z,f8,f8z,f9,f10⟩ := q1;obtain ⟨pm3,pb3,po3,pp3,pl3,_⟩ := q3
 try unfold cv0
 try unfold cv1
 unfold kH;simp [rQZX0,rQZX1,rQZX2,rQZX3,rQZX4,rQZX5,rQZX6,rQZX7,rQZX8,rQZX9,rQZX10,rQZX11,rQZX12,rQZX13,rQZX14,rQZX15,rQZX16,rQZX17,rQZX18,rQZX19,rQZX20,rQZX21,f1,f2,f3,f4,f5,f6,f7,f7z,f8,f8z,f9,f10,pm3,pb3,po3,pp3,pl3,blk,eds_length,eds_get,edsAt,edAV,allLeaf_eds,cleanL_eds,cleanL_ints,ints_length,ints_get,intsAt,endL,finB]
theorem cEnd (N : Nat) (Es : List Ed) {nb : Nat} {L : Heap} {caps : List AV} (q1 : Lead nb L) (q3 : PlainC nb caps) (nT : Nat) (after P : List Int) (g : Bool) : endL cfgS ⟨true,false,false⟩ qQZ (nb + 6) (some (.ret,⟨[(11,.bool g)],kH nb L N Es nT caps after P⟩)) = some (.bool g,kH nb L N Es nT caps after P) := by
 obtain ⟨f1,f2,f3,f4,f5,f6,f7,f7z,f8,f8z,f9,f10⟩ := q1;obtain ⟨pm3,pb3,po3,pp3,pl3,_⟩ := q3;unfold kH qQZ;simp [rQZX0,rQZX1,rQZX2,rQZX3,rQZX4,rQZX5,rQZX6,rQZX7,rQZX8,rQZX9,rQZX10,rQZX11,rQZX12,rQZX13,rQZX14,rQZX15,rQZX16,rQZX17,rQZX18,rQZX19,rQZX20,rQZX21,finS,plp,plpL,swS,mapH,mapBL,mapB,f1,f2,f3,f4,f5,f6,f7,f7z,f8,f8z,f9,f10,pm3,pb3,po3,pp3,pl3,blk,eds_length,eds_get,edsAt,edAV,allLeaf_eds,cleanL_eds,cleanL_ints,ints_length,ints_get,intsAt,endL,finB]
end Go.BmP
