/- The walk over cliques: what it hands out, in order. -/
import Derived.Test.YtholnjkicdifdaaDoorW14
import Derived.Test.YtholnjkicdifdaaDoorUseM
import Derived.Test.YtholnjkicdifdaaDoorK05
set_option linter.unusedSimpArgs false
set_option linter.unusedVariables false
set_option maxRecDepth 100000
set_option maxHeartbeats 8000000
namespace Go.BmP
open Go.Am Go.Bm
theorem get_cv1 (nb a b : Nat) (t : Bool) (x : Env) (i : Nat) (h : 7 < i) : opnd cfgS (cv1 nb a b t x) (.t i) = lend i (Am.get x i) := by
 unfold cv1 opnd;simp only [get_cons',if_neg (show i ≠ 0 by omega),if_neg (show i ≠ 1 by omega),if_neg (show i ≠ 2 by omega),if_neg (show i ≠ 3 by omega),if_neg (show i ≠ 4 by omega),if_neg (show i ≠ 6 by omega),if_neg (show i ≠ 7 by omega)]
theorem get_cv0 (nb a b : Nat) (t : Bool) (x : Env) (i : Nat) (h : 7 < i) : opnd cfgS (cv0 nb a b t x) (.t i) = lend i (Am.get x i) := by
 unfold cv0 opnd;simp only [get_cons',if_neg (show i ≠ 0 by omega),if_neg (show i ≠ 1 by omega),if_neg (show i ≠ 2 by omega),if_neg (show i ≠ 3 by omega),if_neg (show i ≠ 4 by omega),if_neg (show i ≠ 5 by omega),if_neg (show i ≠ 6 by omega),if_neg (show i ≠ 7 by omega)]
section
variable {N : Nat} {Es : List Ed} (h : GOK (N : Int) Es)
include h
omit h in
theorem lst_lt {P : List Int} (hP : IsC N Es P) : lst P < (N : Int) /\ -1 <= lst P := by
 rcases List.eq_nil_or_concat P with e | ⟨Q,w,e⟩
 ·rw [e]; simp [lst]; omega
 ·rw [List.concat_eq_append] at e;rw [e,lst_snoc];have := hP.bd w (by rw [e]; simp);omega
theorem prune_loop {nb : Nat} {L : Heap} {caps : List AV} (q1 : Lead nb L) (q3 : PlainC nb caps) (nT : Nat) (after P : List Int) {a : Nat} (ha : a < 18446744073709551616) (b : Nat) (t : Bool) : ∀ (C : List Int) (m : Nat),m < 18446744073709551616 -> bitL m = C -> (∀ x ∈ C,0 <= x /\ x < (N : Int)) -> codeL cfgS (nb + 6) (.loop lQZX0) ⟨cv1 nb a b t [(12,.int .u64 (m : Int))],kH nb L N Es nT caps after P⟩ = if (C.any fun x => decide (a &&& (18446744073709551615 - (adjE N Es).getD x.toNat 0) = 0)) = true then some (.ret,⟨[(11,.bool true)],kH nb L N Es nT caps after P⟩) else some (.exit 0,⟨cv1 nb a b t [(12,.int .u64 ((0 : Nat) : Int)),(45,.bool false)],kH nb L N Es nT caps after P⟩)
 | [],m,hm,hC,hb => by
   obtain rfl : m = 0 := (bitL_nil hm).1 hC;rw [List.any_nil,if_neg (by decide)];refine loop_exit ?_;unfold lQZX0;rw [codeL_seq,codeL_seq,cX4z N Es q1 q3,thenL_n,codeL_cnd,get_cv1 _ _ _ _ _ _ (by decide)];show thenL cfgS (nb + 6) _ (codeL cfgS (nb + 6) (.exit 0) _) = _;rw [codeL_exit,thenL_e]
 | v :: C,m,hm,hC,hb => by
   have h0 : m ≠ 0 := by rintro rfl; rw [bitL_zero] at hC; cases hC
   have hst := bitL_step h0 hm;rw [hC] at hst;obtain ⟨hv,hC'⟩ : v = ((tz m : Nat) : Int) /\ C = bitL (m &&& (m - 1)) := by simpa using hst
   have ih := prune_loop q1 q3 nT after P ha b t C (m &&& (m - 1)) (Nat.lt_of_le_of_lt Nat.and_le_left hm) hC'.symm (fun x hx => hb x (by simp [hx]));have a5 := cX5 h q1 q3 nT after P ha b t h0 hm hv (hb v (by simp));rw [List.any_cons];cases k : decide (a &&& (18446744073709551615 - (adjE N Es).getD v.toNat 0) = 0) with
   | true =>
     rw [k] at a5;rw [Bool.true_or,if_pos rfl];refine loop_ret ?_;unfold lQZX0;rw [codeL_seq,codeL_seq,cX4 N Es q1 q3 nT after P a b t h0,thenL_n,codeL_cnd,get_cv1 _ _ _ _ _ _ (by decide)];show thenL cfgS (nb + 6) _ (codeL cfgS (nb + 6) .skip _) = _;rw [codeL_skip,thenL_n,codeL_seq,codeL_blk,codeL_seq,a5,thenL_n,codeL_cnd,get_cv1 _ _ _ _ _ _ (by decide)];show thenL cfgS (nb + 6) _ (blkL 1 (codeL cfgS (nb + 6) (.seq _ .ret) _)) = _;rw [codeL_seq,cX6 N Es q1 q3,thenL_n,codeL_ret,blkL_r,thenL_r]
   | false =>
     rw [k] at a5;rw [Bool.false_or];refine (loop_next ?_).trans ih;unfold lQZX0;rw [codeL_seq,codeL_seq,cX4 N Es q1 q3 nT after P a b t h0,thenL_n,codeL_cnd,get_cv1 _ _ _ _ _ _ (by decide)];show thenL cfgS (nb + 6) _ (codeL cfgS (nb + 6) .skip _) = _;rw [codeL_skip,thenL_n,codeL_seq,codeL_blk,codeL_seq,a5,thenL_n,codeL_cnd,get_cv1 _ _ _ _ _ _ (by decide)];show thenL cfgS (nb + 6) _ (blkL 1 (codeL cfgS (nb + 6) .skip _)) = _;rw [codeL_skip,blkL_n,thenL_n];exact cX7 N Es q1 q3 nT after P a b t h0 hm
variable {caps : List AV} {nb nT : Nat} {after : List Int} {σ : Type} {X2 : σ -> Heap} {tk : σ -> List Int -> σ × Bool} {Inv : σ -> Prop} (hT : TakeK N Es after nb nT caps X2 tk Inv)
def CallK {σ : Type} (N : Nat) (Es : List Ed) (after : List Int) (nb nT : Nat) (caps : List AV) (X2 : σ -> Heap) (tk : σ -> List Int -> σ × Bool) (Inv : σ -> Prop) (n : Nat) (P : List Int) (t : Bool) (s : σ) : Prop :=
 callL cfgS nQZ (kA nb (mo N Es P) (le N Es P) t) (kH nb (X2 s) N Es nT caps after P) = some (.bool (foldS tk (innK N Es after n P t) s).2,kH nb (X2 (foldS tk (innK N Es after n P t) s).1) N Es nT caps after P) /\ ((foldS tk (innK N Es after n P t) s).2 = true -> Inv (foldS tk (innK N Es after n P t) s).1)
include hT
theorem try_loop (hA : after.length < 9223372036854775808) {P : List Int} (hP : IsC N Es P) (n : Nat) (t : Bool) (hin : ∀ v ∈ bitL (mo N Es P),∀ (t2 : Bool) (s : σ),Inv s -> CallK N Es after nb nT caps X2 tk Inv n (P ++ [v]) t2 s) : ∀ (C : List Int) (m : Nat) (s : σ),m < 18446744073709551616 -> bitL m = C -> (∀ v ∈ C,v ∈ bitL (mo N Es P)) -> Inv s -> ∀ R,R = foldS tk (C.flatMap fun v => if skipL after P t v = true then [] else innK N Es after n (P ++ [v]) (onL after P t v)) s -> (R.2 = true -> codeL cfgS (nb + 6) (.loop lQZX1) ⟨cv1 nb (mo N Es P) (le N Es P) t [(13,.int .u64 (m : Int))],kH nb (X2 s) N Es nT caps after P⟩ = some (.exit 2,⟨cv1 nb (mo N Es P) (le N Es P) t [(13,.int .u64 ((0 : Nat) : Int)),(60,.bool false)],kH nb (X2 R.1) N Es nT caps after P⟩) /\ Inv R.1) /\ (R.2 = false -> codeL cfgS (nb + 6) (.loop lQZX1) ⟨cv1 nb (mo N Es P) (le N Es P) t [(13,.int .u64 (m : Int))],kH nb (X2 s) N Es nT caps after P⟩ = some (.ret,⟨[(11,.bool false)],kH nb (X2 R.1) N Es nT caps after P⟩))
 | [],m,s,hm,hC,hb,hs,R,hR => by
   obtain rfl : m = 0 := (bitL_nil hm).1 hC;subst hR;refine ⟨fun _ => ⟨loop_exit ?_,hs⟩,fun k => by cases k⟩;unfold lQZX1;rw [codeL_seq,codeL_seq,cX9z N Es (hT.px _) hT.cp,thenL_n,codeL_cnd,get_cv1 _ _ _ _ _ _ (by decide)];show thenL cfgS (nb + 6) _ (codeL cfgS (nb + 6) (.exit 2) _) = _;rw [codeL_exit,thenL_e];rfl
 | v :: C,m,s,hm,hC,hb,hs,R,hR => by
   have hn := gok_n h;have h0 : m ≠ 0 := by rintro rfl; rw [bitL_zero] at hC; cases hC
   have hst := bitL_step h0 hm;rw [hC] at hst;obtain ⟨hv,hC'⟩ : v = ((tz m : Nat) : Int) /\ C = bitL (m &&& (m - 1)) := by simpa using hst
   have hvm := hb v (by simp);have bP := isC_bd h hP;obtain ⟨hvb,_,hvl⟩ := (moL_mem h bP v).1 hvm;have cQ := (isC_snoc h hP hvm).1;have lP : P.length <= 64 := up_len hP.up bP;have a9 := cX9 N Es (hT.px s) hT.cp nT after P (mo N Es P) (le N Es P) t h0;have a10 := cX10 N Es (hT.px s) hT.cp nT after P (mo N Es P) (le N Es P) t h0 hm;rw [<- hv] at a10;have a11 := cX11 N Es (hT.px s) hT.cp nT after P (mo N Es P) (le N Es P) t (m : Int) v;have a12 := cX12 N Es (hT.px s) hT.cp nT after P (mo N Es P) (le N Es P) t hA (m : Int) v;have ih := fun s hs => try_loop hA hP n t hin C (m &&& (m - 1)) s (Nat.lt_of_le_of_lt Nat.and_le_left hm) hC'.symm (fun x hx => hb x (by simp [hx])) hs _ rfl;rw [List.flatMap_cons,foldS_app] at hR;cases sk : skipL after P t v with
   | true =>
     rw [sk,if_pos rfl] at hR;have hR : R = foldS tk (C.flatMap fun v => if skipL after P t v = true then [] else innK N Es after n (P ++ [v]) (onL after P t v)) s := hR;rw [sk] at a12
     have e : codeL cfgS (nb + 6) lQZX1 ⟨cv1 nb (mo N Es P) (le N Es P) t [(13,.int .u64 (m : Int))],kH nb (X2 s) N Es nT caps after P⟩ = some (.normal,⟨cv1 nb (mo N Es P) (le N Es P) t [(13,.int .u64 ((m &&& (m - 1) : Nat) : Int))],kH nb (X2 s) N Es nT caps after P⟩) := by
      unfold lQZX1;rw [codeL_seq,codeL_seq,a9,thenL_n,codeL_cnd,get_cv1 _ _ _ _ _ _ (by decide)];show thenL cfgS (nb + 6) _ (codeL cfgS (nb + 6) .skip _) = _;rw [codeL_skip,thenL_n,codeL_seq,codeL_blk,codeL_seq,a10,thenL_n,codeL_seq,a11,thenL_n,codeL_seq,codeL_seq,a12,thenL_n,codeL_cnd,get_cv1 _ _ _ _ _ _ (by decide)];show thenL cfgS (nb + 6) _ (blkL 3 (thenL cfgS (nb + 6) _ (codeL cfgS (nb + 6) (.exit 3) _))) = _;rw [codeL_exit,thenL_e,blkL_e,if_pos rfl,thenL_n];exact cX20 N Es (hT.px s) hT.cp nT after P (mo N Es P) (le N Es P) t h0 hm _ (.inr ⟨v,hereL after P t,rfl⟩)
     rw [loop_next e,hR];exact ih s hs
   | false =>
     rw [sk,if_neg (show ¬ (false = true) by decide)] at hR;rw [sk] at a12;have hc := hin v hvm (onL after P t v) s hs;unfold CallK at hc;generalize foldS tk (innK N Es after n (P ++ [v]) (onL after P t v)) s = Q at *;obtain ⟨hc1,hc2⟩ := hc;have a13 := cX13 N Es (hT.px s) hT.cp nT after P (mo N Es P) (le N Es P) t hA (m : Int) v;have a14 := cX14 N Es (hT.px s) hT.cp nT after P (mo N Es P) (le N Es P) t (by omega) (m : Int) v (onL after P t v);have a15 := cX15 N Es (hT.px s) hT.cp nT after (P ++ [v]) (mo N Es P) (le N Es P) t (m : Int) hvb.1 (by omega) (onL after P t v);have a16 := cX16 h (hT.px s) hT.cp nT after (P ++ [v]) (mo_lt h P) (le N Es P) t (le_lt h P) (hT.px Q.1) (m : Int) hvb (onL after P t v) Q.2 (mo_snoc h bP ⟨hvb.1,by omega⟩ hvl) (le_snoc h bP ⟨hvb.1,by omega⟩ hvl) hc1;have a17 := cX17 N Es (hT.px Q.1) hT.cp nT after P (mo N Es P) (le N Es P) t (by omega) (m : Int) v Q.2;have a18 := cX18 N Es (hT.px Q.1) hT.cp nT after P (mo N Es P) (le N Es P) t (m : Int) Q.2
     have e : codeL cfgS (nb + 6) lQZX1 ⟨cv1 nb (mo N Es P) (le N Es P) t [(13,.int .u64 (m : Int))],kH nb (X2 s) N Es nT caps after P⟩ = if Q.2 = true then some (.normal,⟨cv1 nb (mo N Es P) (le N Es P) t [(13,.int .u64 ((m &&& (m - 1) : Nat) : Int))],kH nb (X2 Q.1) N Es nT caps after P⟩) else some (.ret,⟨[(11,.bool false)],kH nb (X2 Q.1) N Es nT caps after P⟩) := by
      unfold lQZX1;rw [codeL_seq,codeL_seq,a9,thenL_n,codeL_cnd,get_cv1 _ _ _ _ _ _ (by decide)];show thenL cfgS (nb + 6) _ (codeL cfgS (nb + 6) .skip _) = _;rw [codeL_skip,thenL_n,codeL_seq,codeL_blk,codeL_seq,a10,thenL_n,codeL_seq,a11,thenL_n,codeL_seq,codeL_seq,a12,thenL_n,codeL_cnd,get_cv1 _ _ _ _ _ _ (by decide)];show thenL cfgS (nb + 6) _ (blkL 3 (thenL cfgS (nb + 6) _ (codeL cfgS (nb + 6) .skip _))) = _;rw [codeL_skip,thenL_n,codeL_seq,a13,thenL_n,codeL_seq,a14,thenL_n,codeL_seq,a15,thenL_n,codeL_seq,a16,thenL_n,codeL_seq,a17,thenL_n,codeL_seq,a18,thenL_n,codeL_cnd,get_cv1 _ _ _ _ _ _ (by decide)];cases q : Q.2 with
      | true =>
        show thenL cfgS (nb + 6) _ (blkL 3 (codeL cfgS (nb + 6) .skip _)) = _;rw [codeL_skip,blkL_n,thenL_n,if_pos rfl];exact cX20 N Es (hT.px Q.1) hT.cp nT after P (mo N Es P) (le N Es P) t h0 hm _ (.inl rfl)
      | false =>
        show thenL cfgS (nb + 6) _ (blkL 3 (codeL cfgS (nb + 6) (.seq _ .ret) _)) = _;rw [Bool.not_false,codeL_seq,cX19 N Es (hT.px Q.1) hT.cp,thenL_n,codeL_ret,blkL_r,thenL_r,if_neg (by decide)]
     by_cases q : Q.2 = true
     ·rw [if_pos q] at hR e;rw [loop_next e,hR];exact ih Q.1 (hc2 q)
     ·rw [if_neg q] at hR e;subst hR;rw [loop_ret e];exact ⟨fun k => (by cases k),fun _ => rfl⟩
theorem inner_run (hA : after.length < 9223372036854775808) : ∀ (n : Nat) (P : List Int) (t : Bool) (s : σ),IsC N Es P -> (N : Int) - lst P <= n -> Inv s -> CallK N Es after nb nT caps X2 tk Inv n P t s
 | 0,P,t,s,hP,hf,hs => by
   have := lst_lt hP;omega
 | n + 1,P,t,s,hP,hf,hs => by
   have bP := isC_bd h hP;have lP : P.length <= 64 := up_len hP.up bP;have hH : ∀ s,(kH nb (X2 s) N Es nT caps after P).length = nb + 6 := fun s => by unfold kH; rw [List.length_append,(hT.px s).l]; rfl
   have st : callL cfgS nQZ (kA nb (mo N Es P) (le N Es P) t) (kH nb (X2 s) N Es nT caps after P) = endL cfgS ⟨true,false,false⟩ qQZ (nb + 6) (codeL cfgS (nb + 6) cQZ ⟨cv0 nb (mo N Es P) (le N Es P) t [],kH nb (X2 s) N Es nT caps after P⟩) := by
    rw [callL_end oQZ sQZ (Nat.le_of_ble_eq_true rfl),hH];rfl
   unfold CallK;rw [st];have fin : ∀ (s2 : σ) (g : Bool),endL cfgS ⟨true,false,false⟩ qQZ (nb + 6) (some (.ret,⟨[(11,.bool g)],kH nb (X2 s2) N Es nT caps after P⟩)) = some (.bool g,kH nb (X2 s2) N Es nT caps after P) := fun s2 g => cEnd N Es (hT.px s2) hT.cp nT after P g;by_cases k1 : mo N Es P = 0
   ·-- nothing can be added
    have run : ∀ z,codeL cfgS (nb + 6) (.reg rQZX2 true [(0,0),(1,1),(2,2),(3,3),(4,4),(5,5),(6,6),(7,7),(8,8),(9,9),(14,14),(15,15),(16,16),(17,17),(21,21),(22,22),(23,23),(10,12),(11,12),(10,13),(18,19),(18,20)] [11]) ⟨cv0 nb 0 (le N Es P) t [(19,.bool true)],kH nb (X2 s) N Es nT caps after P⟩ = some (.normal,z) -> codeL cfgS (nb + 6) cQZ ⟨cv0 nb (mo N Es P) (le N Es P) t [],kH nb (X2 s) N Es nT caps after P⟩ = some (.ret,z) := by
     intro z hz;unfold cQZ;rw [codeL_seq,cX0 N Es (hT.px s) hT.cp,thenL_n,k1,codeL_seq,codeL_seq,cX1z N Es (hT.px s) hT.cp nT after P 0,thenL_n,codeL_cnd,get_cv0 _ _ _ _ _ _ (by decide)];show thenL cfgS (nb + 6) _ (codeL cfgS (nb + 6) (.seq _ .ret) _) = _;rw [codeL_seq,hz,thenL_n,codeL_ret,thenL_r]
    by_cases k2 : le N Es P ≠ 0 \/ P = [] \/ (t = true /\ P.length <= after.length)
    ·have ei : innK N Es after (n + 1) P t = [] := by unfold innK; rw [if_pos k1,if_pos k2]
     rw [ei,run _ (cX2n N Es (hT.px s) hT.cp nT after P (le N Es P) t k2),fin];exact ⟨rfl,fun _ => hs⟩
    ·have ei : innK N Es after (n + 1) P t = [P] := by unfold innK; rw [if_pos k1,if_neg k2]
     simp only [not_or,ne_eq,Decidable.not_not] at k2;have l0 := k2.1;rw [l0] at run ⊢
     have ef : foldS tk [P] s = ((tk s P).1,(tk s P).2) := by
      show (if (tk s P).2 = true then ((tk s P).1,true) else ((tk s P).1,false)) = _;cases (tk s P).2 <;> rfl
     rw [ei,ef,run _ (cX2t hT hs k2.2.1 lP t k2.2.2),fin];exact ⟨rfl,fun k => hT.inv s P hs k2.2.1 lP k⟩
   ·have a1 := cX1 N Es (hT.px s) hT.cp nT after P (mo N Es P) (le N Es P) t k1;have a3 := cX3 N Es (hT.px s) hT.cp nT after P (mo N Es P) (le N Es P) t;have pl := prune_loop h (hT.px s) hT.cp nT after P (mo_lt h P) (le N Es P) t (bitL (le N Es P)) (le N Es P) (le_lt h P) rfl (fun x hx => ((leL_mem h bP x).1 hx).1);have ep : ((bitL (le N Es P)).any fun x => decide (mo N Es P &&& (18446744073709551615 - (adjE N Es).getD x.toNat 0) = 0)) = prn N Es P := rfl;rw [ep] at pl
    have run : codeL cfgS (nb + 6) cQZ ⟨cv0 nb (mo N Es P) (le N Es P) t [],kH nb (X2 s) N Es nT caps after P⟩ = thenL cfgS (nb + 6) (.seq (.seq (.reg rQZX8 false [] [0,1,2,3,4,6,7,13]) (.blk 2 (.loop lQZX1))) (.seq (.reg rQZX21 false [] [11]) .ret)) (blkL 0 (codeL cfgS (nb + 6) (.loop lQZX0) ⟨cv1 nb (mo N Es P) (le N Es P) t [(12,.int .u64 (le N Es P : Int))],kH nb (X2 s) N Es nT caps after P⟩)) := by
     unfold cQZ;rw [codeL_seq,cX0 N Es (hT.px s) hT.cp,thenL_n,codeL_seq,codeL_seq,a1,thenL_n,codeL_cnd,get_cv0 _ _ _ _ _ _ (by decide)];show thenL cfgS (nb + 6) _ (codeL cfgS (nb + 6) .skip _) = _;rw [codeL_skip,thenL_n,codeL_seq,codeL_seq,a3,thenL_n,codeL_blk]
    rw [run,pl];by_cases k2 : prn N Es P = true
    ·have ei : innK N Es after (n + 1) P t = [] := by unfold innK; rw [if_neg k1,if_pos k2]
     rw [if_pos k2,blkL_r,thenL_r,fin,ei];exact ⟨rfl,fun _ => hs⟩
    ·have ei : innK N Es after (n + 1) P t = (bitL (mo N Es P)).flatMap fun v => if skipL after P t v = true then [] else innK N Es after n (P ++ [v]) (onL after P t v) := by
      conv => lhs; unfold innK
      rw [if_neg k1,if_neg k2]
     have lp := try_loop h hT hA hP n t (fun v hv t2 s2 hs2 => by
      obtain ⟨c1,c2⟩ := isC_snoc h hP hv;exact inner_run hA n (P ++ [v]) t2 s2 c1 (by rw [lst_snoc]; omega) hs2) (bitL (mo N Es P)) (mo N Es P) s (mo_lt h P) rfl (fun v hv => hv) hs _ rfl
     rw [<- ei] at lp;generalize foldS tk (innK N Es after (n + 1) P t) s = R at *;rw [if_neg k2,blkL_e,if_pos rfl,thenL_n,codeL_seq,codeL_seq,cX8 N Es (hT.px s) hT.cp,thenL_n,codeL_blk];by_cases q : R.2 = true
     ·obtain ⟨e,hi⟩ := lp.1 q;rw [e,blkL_e,if_pos rfl,thenL_n,codeL_seq,cX21 N Es (hT.px R.1) hT.cp,thenL_n,codeL_ret,fin,q];exact ⟨rfl,fun _ => hi⟩
     ·have q := Bool.eq_false_iff.2 q;rw [lp.2 q,blkL_r,thenL_r,fin,q];exact ⟨rfl,fun k => by cases k⟩
end
/- What cliques' each does with the maximal cliques behind a list, and what All returns. -/
set_option maxHeartbeats 4000000
theorem trim_base (nb : Nat) (env : Env) (L : Heap) : trim nb env nb L = L := by
 cases nb with
 | zero => rfl
 | succ n => unfold trim; rw [if_neg (by omega)]
def tkH (N : Nat) (Es : List Ed) (x1 x2 : List AV) : Heap := [some [.int .i64 N,.list 2 (eds Es)],some x1,some x2]
theorem plain_g (N : Nat) (Es : List Ed) : Plain [.int .i64 N,.list 2 (eds Es)] := ⟨fun _ => rfl,rfl,fun _ => rfl,fun _ _ _ => rfl⟩
theorem lead_tkH (N : Nat) (Es : List Ed) {x1 x2 : List AV} (q1 : Plain x1) (q2 : Plain x2) : Lead 3 (tkH N Es x1 x2) := lead_snoc (lead_snoc (lead_snoc lead_nil (plain_g N Es)) q1) q2
def behK (N : Nat) (Es : List Ed) (after : List Int) : List (List Int) := (mcl N Es).filter fun S => decide (cmpL S after = 1)
theorem each_run {N : Nat} {Es : List Ed} (h : GOK (N : Int) Es) (hE : Es.length < 4294967295) {caps : List AV} {nb nT : Nat} {after : List Int} (ha : after.length < 9223372036854775808) {σ : Type} {X2 : σ -> Heap} {tk : σ -> List Int -> σ × Bool} {Inv : σ -> Prop} (hT : TakeK N Es after nb nT caps X2 tk Inv) (s : σ) (hs : Inv s) : callL cfgS nQI [.agg [.int .i64 N,.list 2 (eds Es)],.list 1 (ints after),.func (.func nT) [] caps] (X2 s) = some (.tup [],X2 (foldS tk (behK N Es after) s).1) := by
 have hn := gok_n h;have c0 : IsC N Es [] := ⟨List.Pairwise.nil,by simp,List.Pairwise.nil⟩;have e := inner_run h hT ha (N + 1) [] true s c0 (by show (N : Int) - (-1) <= ((N + 1 : Nat) : Int); omega) hs;unfold CallK at e;have we := inn_after (N := N) (E := Es) (after := after) (N + 1) [] true (fun _ => ⟨after,rfl⟩) (fun k => by cases k);have eb : ((innK N Es [] (N + 1) [] false).filter fun S => decide (cmpL S after = 1)) = behK N Es after := rfl;rw [eb] at we;rw [we] at e;have e := e.1;generalize foldS tk (behK N Es after) s = R at *;rw [mo_nil h,le_nil] at e;have m1 := msks_run h hE;have m2 := alln_run N hn;clear we eb;rw [callL_end oQI sQI (Nat.le_of_ble_eq_true rfl),(hT.px s).l];obtain ⟨f1,f2,f3,f4,f5,f6,f7,f7z,f8,f8z,f9,f10⟩ := hT.px s;obtain ⟨g1,g2,g3,g4,g5,g6,g7,g7z,g8,g8z,g9,g10⟩ := hT.px R.1;obtain ⟨pm3,pb3,po3,pp3,pl3,pn3⟩ := hT.cp;have n3 := pn3 (nb + 0) (by omega);have n4 := pn3 (nb + 1) (by omega);have n5 := pn3 (nb + 2) (by omega);have n6 := pn3 (nb + 3) (by omega);have n7 := pn3 (nb + 4) (by omega);have n8 := pn3 (nb + 5) (by omega);clear pn3;have z1 : ∀ g,mapH g (X2 s) = X2 s := fun g => by simpa [mapH] using f1 g []
 have z2 : allB (X2 s) = true := by simpa [allB] using f2 []
 have z3 : ∀ p i,borH p i (X2 s) = none := fun p i => by simpa [borH] using f3 p i []
 have z4 : ∀ f,anyH f (X2 s) = false := fun f => by simpa [anyH] using f4 f []
 have z5 : ∀ p i,seesB p i (X2 s) = [] := fun p i => by simpa [seesB] using f5 p i []
 have z6 : ∀ b,noPtrH b (X2 s) = true := fun b => by simpa [noPtrH] using f6 b []
 have y1 : ∀ g,mapH g (X2 R.1) = X2 R.1 := fun g => by simpa [mapH] using g1 g []
 have y2 : allB (X2 R.1) = true := by simpa [allB] using g2 []
 have y3 : ∀ p i,borH p i (X2 R.1) = none := fun p i => by simpa [borH] using g3 p i []
 have y4 : ∀ f,anyH f (X2 R.1) = false := fun f => by simpa [anyH] using g4 f []
 have y5 : ∀ p i,seesB p i (X2 R.1) = [] := fun p i => by simpa [seesB] using g5 p i []
 have y6 : ∀ b,noPtrH b (X2 R.1) = true := fun b => by simpa [noPtrH] using g6 b []
 unfold kA kH at e;rw [ints_nil,nat0] at e;generalize X2 R.1 = Y at *;generalize X2 s = Y0 at *;generalize ((2 ^ N - 1 : Nat) : Int) = W at *;generalize R.2 = g at *;unfold qQI cQI;simp [rQIX0,rQIX1,rQIX2,rQIX3,rQIX4,rQIX5,e,m1,m2,plp,plpL,allB,notBox,swC,seesC,inBox,finS,swS,mapH,sQZ,iQZ,vQZ,lQZ,sQA,iQA,vQA,lQA,sQW,iQW,vQW,lQW,relB,handBox,cleanL_eds,cleanL_us,trim_base,z1,z2,z3,z4,z5,z6,y1,y2,y3,y4,y5,y6,f1,f2,f3,f4,f5,f6,f7,f7z,f8,f8z,f9,f10,pm3,pb3,po3,pp3,pl3,g1,g2,g3,g4,g5,g6,g7,g7z,g8,g8z,g9,g10,n3,n4,n5,n6,n7,n8,blk,eds_length,eds_get,edsAt,edAV,allLeaf_eds,cleanL_eds,cleanL_ints,ints_length,ints_get,intsAt,endL,finB]
def lls (o : List (List Int)) : List AV := o.map fun S => .list 1 (ints S)
theorem lls_length (o : List (List Int)) : (lls o).length = o.length := List.length_map _
theorem lls_snoc (o : List (List Int)) (S : List Int) : lls o ++ [.list 1 (ints S)] = lls (o ++ [S]) := by simp [lls]
theorem lls_get (o : List (List Int)) (i : Nat) : (lls o)[i]? = (o[i]?).map fun S => .list 1 (ints S) := List.getElem?_map
theorem llsAt (o : List (List Int)) (i : Nat) (h : i < (lls o).length) : (lls o)[i] = .list 1 (ints (o[i]'(by simpa [lls] using h))) := by simp [lls]
theorem plain_own (k : Nat) (x : List AV) : Plain [.own k x] := ⟨fun _ => rfl,rfl,fun _ => rfl,fun _ _ _ => rfl⟩
theorem plain_int (k : IntKind) (x : Int) : Plain [.int k x] := ⟨fun _ => rfl,rfl,fun _ => rfl,fun _ _ _ => rfl⟩
theorem plainC_21 : PlainC 3 [.ptr 2 0,.ptr 1 0] := ⟨fun _ => rfl,rfl,rfl,rfl,rfl,fun b hb => by simp [noPtrL,noPtr]; omega⟩
theorem takeK_run (N : Nat) (Es : List Ed) (most : Int) (after : List Int) (o : List (List Int)) (P S : List Int) (ho : o.length < 4294967295) : callL cfgS nQP [.list 1 (ints S),.ptr 2 0,.ptr 1 0] (kH 3 (tkH N Es [.int .i64 most] [.own 1 (lls o)]) N Es nQP [.ptr 2 0,.ptr 1 0] after P) = some (.bool (decide ((o.length : Int) + 1 <= most)),kH 3 (tkH N Es [.int .i64 most] [.own 1 (lls (o ++ [S]))]) N Es nQP [.ptr 2 0,.ptr 1 0] after P) := by
 rw [callL_end oQP sQP (Nat.le_of_ble_eq_true rfl)];have h1 : o.length + 1 <= 4294967296 := by omega
 have h2 := lls_snoc o S;have h3 := lls_length o;have ht : (lls o).take o.length = lls o := by rw [<- h3,List.take_length]
 have h4 := lls_length (o ++ [S])
 have h5 : (lls (o ++ [S])).take (o.length + 1) = lls (o ++ [S]) := by
  have := List.take_length (l := lls (o ++ [S]))
  rwa [h4,List.length_append] at this
 unfold kH tkH;generalize hX : lls (o ++ [S]) = X at *;generalize hY : lls o = Y at *;unfold qQP cQP;simp [rQPX0,rQPX1,rQPX2,h1,h2,h3,ht,h4,h5,LIM,finS,plp,plpL,swS,mapH,mapBL,mapB,blk,eds_length,eds_get,edsAt,edAV,allLeaf_eds,cleanL_eds,cleanL_ints,ints_length,ints_get,intsAt,endL,finB]
theorem take_allK (N : Nat) (Es : List Ed) {most : Int} (hm : most <= 4096) (after : List Int) : TakeK N Es after 3 nQP [.ptr 2 0,.ptr 1 0] (fun o => tkH N Es [.int .i64 most] [.own 1 (lls o)]) (tkA most) (fun o => (o.length : Int) <= most) :=
 ⟨⟨_,sQP⟩,fun _ => lead_tkH N Es (plain_int _ _) (plain_own _ _),plainC_21,fun s S P hs _ _ => takeK_run N Es most after s P S (by omega),fun s S hs _ _ k => by
  have : (s.length : Int) + 1 <= most := of_decide_eq_true k;show ((s ++ [S]).length : Int) <= most;simp;omega⟩
theorem behK_nil {N : Nat} {Es : List Ed} (h : GOK (N : Int) Es) : behK N Es [] = mcl N Es := by
 unfold behK;rw [List.filter_eq_self];intro S hS;have := ((mcl_mem h).1 hS).2.1;cases S with
 | nil => exact absurd rfl this
 | cons x r => rfl
def allK (N : Nat) (Es : List Ed) (most : Int) : AV := if most < 0 \/ 4096 < most then .tup [.list 1 [],.int .i64 1] else if ((mcl N Es).length : Int) <= most then .tup [.list 1 (lls (mcl N Es)),.int .i64 0] else .tup [.list 1 [],.int .i64 3]
theorem allK_run {N : Nat} {Es : List Ed} (h : GOK (N : Int) Es) (hE : Es.length < 4294967295) (most : Int) : callL cfgS nQs [.agg [.int .i64 N,.list 2 (eds Es)],.int .i64 most] [] = some (allK N Es most,[]) := by
 have c1 := gchk_run (N : Int) Es (by omega);rw [chkG_zero.2 h] at c1;rw [callL_end oQs sQs (Nat.le_of_ble_eq_true rfl)];by_cases k1 : most < 0
 ·have e : allK N Es most = AV.tup [.list 1 [],.int .i64 1] := if_pos (.inl k1);rw [e];unfold qQs cQs;simp [rQsX0,rQsX1,rQsX2,rQsX3,rQsX4,rQsX5,rQsX6,rQsX7,rQsX8,rQsX9,rQsX10,c1,k1,sQz,iQz,vQz,lQz,cleanL_eds,cleanL_ints,blk,eds_length,eds_get,edsAt,edAV,allLeaf_eds,cleanL_eds,cleanL_ints,ints_length,ints_get,intsAt,endL,finB]
 by_cases k2 : 4096 < most
 ·have e : allK N Es most = AV.tup [.list 1 [],.int .i64 1] := if_pos (.inr k2);rw [e];unfold qQs cQs;simp [rQsX0,rQsX1,rQsX2,rQsX3,rQsX4,rQsX5,rQsX6,rQsX7,rQsX8,rQsX9,rQsX10,c1,k1,k2,sQz,iQz,vQz,lQz,cleanL_eds,cleanL_ints,blk,eds_length,eds_get,edsAt,edAV,allLeaf_eds,cleanL_eds,cleanL_ints,ints_length,ints_get,intsAt,endL,finB]
 unfold allK;rw [if_neg (by omega)];have c3 := each_run h hE (after := []) (by decide) (take_allK N Es (most := most) (by omega) []) [] (by simp; omega);rw [behK_nil h] at c3;by_cases k3 : ((mcl N Es).length : Int) <= most
 ·have f := foldS_all (most := most) (mcl N Es) [] (by simpa using k3);rw [List.nil_append] at f;rw [f] at c3;rw [if_pos k3];have l1 : ¬ most < ((mcl N Es).length : Int) := by omega
  have hpl := lls_length (mcl N Es);have tk : (lls (mcl N Es)).take (mcl N Es).length = lls (mcl N Es) := by rw [<- hpl,List.take_length]
  unfold tkH at c3;rw [show lls [] = [] from rfl,ints_nil] at c3;generalize lls (mcl N Es) = Y at *;unfold qQs cQs;simp [rQsX0,rQsX1,rQsX2,rQsX3,rQsX4,rQsX5,rQsX6,rQsX7,rQsX8,rQsX9,rQsX10,c1,c3,k1,k2,l1,hpl,tk,sQz,iQz,vQz,lQz,sQI,iQI,vQI,lQI,cleanL_eds,cleanL_ints,cleanL_us,plp,plpL,allB,notBox,swC,seesC,inBox,blk,eds_length,eds_get,edsAt,edAV,allLeaf_eds,cleanL_eds,cleanL_ints,ints_length,ints_get,intsAt,endL,finB]
 ·have f := foldS_more (most := most) (mcl N Es) [] (by simp; omega) (by simp; omega);rw [if_neg k3];generalize (foldS (tkA most) (mcl N Es) []).1 = o at *;have l1 : most < (o.length : Int) := by omega
  have hpl := lls_length o;unfold tkH at c3;rw [show lls [] = [] from rfl,ints_nil] at c3;generalize lls o = Y at *;unfold qQs cQs;simp [rQsX0,rQsX1,rQsX2,rQsX3,rQsX4,rQsX5,rQsX6,rQsX7,rQsX8,rQsX9,rQsX10,c1,c3,k1,k2,l1,hpl,sQz,iQz,vQz,lQz,sQI,iQI,vQI,lQI,cleanL_eds,cleanL_ints,cleanL_us,plp,plpL,allB,notBox,swC,seesC,inBox,blk,eds_length,eds_get,edsAt,edAV,allLeaf_eds,cleanL_eds,cleanL_ints,ints_length,ints_get,intsAt,endL,finB]
/- What slices.Equal, cliques.Next return. -/
theorem eql_loop (a b : List Int) (hl : a.length = b.length) (ha : a.length < 4294967295) : ∀ (k i : Nat),i + k = a.length -> codeL cfgS 0 (.loop lQRX0) ⟨[(0,.list 1 (ints a)),(1,.list 1 (ints b)),(12,.int .i64 a.length),(13,.int .i64 i)],[]⟩ =
  if a.drop i = b.drop i then some (.exit 0,⟨[(0,.list 1 (ints a)),(1,.list 1 (ints b)),(12,.int .i64 a.length),(13,.int .i64 a.length),(14,.bool false)],[]⟩) else some (.ret,⟨[(4,.bool false)],[]⟩)
 | 0,i,hi => by
   obtain rfl : i = a.length := by omega
   rw [List.drop_length,hl,List.drop_length,if_pos rfl];exact loop_exit (by unfold lQRX0; simp [rQRX0,rQRX1,rQRX2,rQRX3,rQRX4,rQRX5,rQRX6,rQRX7,rQRX8,rQRX9,blk,eds_length,eds_get,edsAt,edAV,allLeaf_eds,cleanL_eds,cleanL_ints,ints_length,ints_get,intsAt,endL,finB])
 | k + 1,i,hi => by
   have hlt : i < a.length := by omega
   have hltb : i < b.length := by omega
   have h1 : (i : Int) < a.length := by omega
   have h1b : (i : Int) < b.length := by omega
   have hw := wrapS (i := i) (by omega);have ih := eql_loop a b hl ha k (i + 1) (by omega);have i1 := idx_lt (k := .i64) (i := (i : Int)) (n := a.length) (by omega) h1;have i2 := idx_lt (k := .i64) (i := (i : Int)) (n := b.length) (by omega) h1b;rw [List.drop_eq_getElem_cons hlt,List.drop_eq_getElem_cons hltb];simp only [List.cons.injEq];by_cases e : a[i] = b[i]
   ·have : (a[i] = b[i] /\ a.drop (i + 1) = b.drop (i + 1)) = (a.drop (i + 1) = b.drop (i + 1)) := by simp [e]
    simp only [this];rw [<- ih];exact loop_next (by unfold lQRX0; simp [rQRX0,rQRX1,rQRX2,rQRX3,rQRX4,rQRX5,rQRX6,rQRX7,rQRX8,rQRX9,h1,h1b,hlt,hltb,hw,i1,i2,e,blk,eds_length,eds_get,edsAt,edAV,allLeaf_eds,cleanL_eds,cleanL_ints,ints_length,ints_get,intsAt,endL,finB])
   ·rw [if_neg (fun k => e k.1)];exact loop_ret (by unfold lQRX0; simp [rQRX0,rQRX1,rQRX2,rQRX3,rQRX4,rQRX5,rQRX6,rQRX7,rQRX8,rQRX9,h1,h1b,hlt,hltb,hw,i1,i2,e,blk,eds_length,eds_get,edsAt,edAV,allLeaf_eds,cleanL_eds,cleanL_ints,ints_length,ints_get,intsAt,endL,finB])
theorem eql_run (a b : List Int) (ha : a.length < 4294967295) : callL cfgS nQR [.list 1 (ints a),.list 1 (ints b)] [] = some (.bool (decide (a = b)),[]) := by
 rw [callL_end oQR sQR (Nat.le_of_ble_eq_true rfl)];unfold qQR cQR;by_cases hl : a.length = b.length
 ·have lp := eql_loop a b hl ha a.length 0 (by omega);rw [List.drop_zero,List.drop_zero,nat0] at lp;have hl' : (a.length : Int) = b.length := by omega
  by_cases e : a = b
  ·rw [if_pos e] at lp;subst e;simp [rQRX0,rQRX1,rQRX2,rQRX3,rQRX4,rQRX5,rQRX6,rQRX7,rQRX8,rQRX9,lp,blk,eds_length,eds_get,edsAt,edAV,allLeaf_eds,cleanL_eds,cleanL_ints,ints_length,ints_get,intsAt,endL,finB]
  ·rw [if_neg e] at lp;rw [decide_eq_false e];rw [hl'] at lp;simp [rQRX0,rQRX1,rQRX2,rQRX3,rQRX4,rQRX5,rQRX6,rQRX7,rQRX8,rQRX9,lp,hl',blk,eds_length,eds_get,edsAt,edAV,allLeaf_eds,cleanL_eds,cleanL_ints,ints_length,ints_get,intsAt,endL,finB]
 ·have hl' : ¬ (a.length : Int) = b.length := by omega
  have e : ¬ a = b := fun k => hl (by rw [k]);rw [decide_eq_false e];simp [rQRX0,rQRX1,rQRX2,rQRX3,rQRX4,rQRX5,rQRX6,rQRX7,rQRX8,rQRX9,hl',blk,eds_length,eds_get,edsAt,edAV,allLeaf_eds,cleanL_eds,cleanL_ints,ints_length,ints_get,intsAt,endL,finB]
def nxB : Option (List Int) -> AV
 | none => .nils
 | some S => .list 1 (ints S)
def nxH (N : Nat) (Es : List Ed) (o : Option (List Int)) : Heap := [some [.int .i64 N,.list 2 (eds Es)],some [nxB o]]
theorem lead_nx (N : Nat) (Es : List Ed) (o : Option (List Int)) : Lead 2 (nxH N Es o) := by
 have q : Plain [nxB o] := by cases o <;> exact ⟨fun _ => rfl,rfl,fun _ => rfl,fun _ _ _ => rfl⟩
 exact lead_snoc (lead_snoc lead_nil (plain_g N Es)) q
def tkX (_ : Option (List Int)) (S : List Int) : Option (List Int) × Bool := (some S,false)
theorem foldX (l : List (List Int)) : (foldS tkX l none).1 = l.head? := by cases l <;> rfl
theorem takeX_run (N : Nat) (Es : List Ed) (after P S : List Int) : callL cfgS nQJ [.list 1 (ints S),.ptr 1 0] (kH 2 (nxH N Es none) N Es nQJ [.ptr 1 0] after P) = some (.bool false,kH 2 (nxH N Es (some S)) N Es nQJ [.ptr 1 0] after P) := by
 rw [callL_end oQJ sQJ (Nat.le_of_ble_eq_true rfl)];unfold kH nxH nxB;unfold qQJ cQJ;simp [rQJX0,rQJX1,rQJX2,finS,plp,plpL,swS,mapH,mapBL,mapB,blk,eds_length,eds_get,edsAt,edAV,allLeaf_eds,cleanL_eds,cleanL_ints,ints_length,ints_get,intsAt,endL,finB]
theorem take_nx (N : Nat) (Es : List Ed) (after : List Int) : TakeK N Es after 2 nQJ [.ptr 1 0] (nxH N Es) tkX (fun o => o = none) :=
 ⟨⟨_,sQJ⟩,lead_nx N Es,⟨fun _ => rfl,rfl,rfl,rfl,rfl,fun b hb => by simp [noPtrL,noPtr]; omega⟩,fun s S P hs _ _ => by subst hs; exact takeX_run N Es after P S,fun s S hs _ _ k => by cases k⟩
def nxtV : List (List Int) -> AV
 | [] => .tup [.nils,.bool false,.int .i64 0]
 | S :: _ => .tup [.list 1 (ints S),.bool true,.int .i64 0]
theorem nextK_run {N : Nat} {Es : List Ed} (h : GOK (N : Int) Es) (hE : Es.length < 4294967295) (after : List Int) (ha : after.length < 9223372036854775808) : callL cfgS nQl [.agg [.int .i64 N,.list 2 (eds Es)],.list 1 (ints after)] [] = some (nxtV (behK N Es after),[]) := by
 have c1 := gchk_run (N : Int) Es (by omega);rw [chkG_zero.2 h] at c1;have c3 := each_run h hE ha (take_nx N Es after) none rfl;rw [foldX] at c3;have ne : ∀ S ∈ behK N Es after,S ≠ [] := fun S hS => ((mcl_mem h).1 (List.mem_filter.1 hS).1).2.1;rw [callL_end oQl sQl (Nat.le_of_ble_eq_true rfl)];unfold nxH at c3;generalize behK N Es after = l at *;unfold qQl cQl;cases l with
 | nil =>
   unfold nxtV;simp only [List.head?_nil,nxB] at c3;simp [rQlX0,rQlX1,rQlX2,rQlX3,rQlX4,rQlX5,rQlX6,c1,c3,sQz,iQz,vQz,lQz,sQI,iQI,vQI,lQI,plp,plpL,allB,notBox,swC,seesC,inBox,blk,eds_length,eds_get,edsAt,edAV,allLeaf_eds,cleanL_eds,cleanL_ints,ints_length,ints_get,intsAt,endL,finB]
 | cons S r =>
   unfold nxtV;simp only [List.head?_cons,nxB] at c3;cases S with
   | nil => exact absurd rfl (ne [] (by simp))
   | cons x t =>
     simp only [ints_cons] at c3 ⊢;simp [rQlX0,rQlX1,rQlX2,rQlX3,rQlX4,rQlX5,rQlX6,c1,c3,sQz,iQz,vQz,lQz,sQI,iQI,vQI,lQI,plp,plpL,allB,notBox,swC,seesC,inBox,blk,eds_length,eds_get,edsAt,edAV,allLeaf_eds,cleanL_eds,cleanL_ints,ints_length,ints_get,intsAt,endL,finB]
/- What cliques.Check returns. -/
def tkC (o : List (List Int)) (s : Nat × Bool) (S : List Int) : (Nat × Bool) × Bool := ((s.1 + 1,decide (o[s.1]? = some S)),decide (o[s.1]? = some S))
theorem foldC (o : List (List Int)) : ∀ (l : List (List Int)) (i : Nat),i <= o.length -> (((foldS (tkC o) l (i,true)).1.2 = true /\ (foldS (tkC o) l (i,true)).1.1 = o.length) ↔ l = o.drop i)
 | [],i,h => by
   simp only [foldS,true_and];constructor
   ·intro e; rw [e,List.drop_length]
   ·intro e;have := congrArg List.length e;simp at this;omega
 | S :: r,i,h => by
   by_cases k : o[i]? = some S
   ·obtain ⟨hi,e⟩ := List.getElem?_eq_some_iff.1 k;have ih := foldC o r (i + 1) (by omega)
    have e1 : foldS (tkC o) (S :: r) (i,true) = foldS (tkC o) r (i + 1,true) := by
     rw [foldS]; simp only [tkC,k,decide_true,if_pos]
    rw [e1,ih,List.drop_eq_getElem_cons hi,e];simp
   ·have e1 : foldS (tkC o) (S :: r) (i,true) = ((i + 1,false),false) := by
     rw [foldS]; simp only [tkC,k,decide_false]; rfl
    rw [e1];constructor
    ·rintro ⟨k,_⟩; cases k
    ·intro e;exfalso;apply k
     have hi : i < o.length := by
      have := congrArg List.length e;simp at this;omega
     rw [List.drop_eq_getElem_cons hi] at e;rw [List.getElem?_eq_getElem hi,(List.cons.inj e).1]
def ckH (N : Nat) (Es : List Ed) (o : List (List Int)) (s : Nat × Bool) : Heap := [some [.int .i64 N,.list 2 (eds Es)],some [.list 1 (lls o)],some [.int .i64 s.1],some [.bool s.2]]
theorem lead_ck (N : Nat) (Es : List Ed) (o : List (List Int)) (s : Nat × Bool) : Lead 4 (ckH N Es o s) :=
 lead_snoc (lead_snoc (lead_snoc (lead_snoc lead_nil (plain_g N Es)) ⟨fun _ => rfl,rfl,fun _ => rfl,fun _ _ _ => rfl⟩) ⟨fun _ => rfl,rfl,fun _ => rfl,fun _ _ _ => rfl⟩) ⟨fun _ => rfl,rfl,fun _ => rfl,fun _ _ _ => rfl⟩
theorem takeC_run (N : Nat) (Es : List Ed) (o : List (List Int)) (ho : o.length < 4294967295) (after P S : List Int) (hS : S.length <= 64) (i : Nat) (hi : i <= o.length) (g : Bool) : callL cfgS nQQ [.list 1 (ints S),.ptr 2 0,.ptr 1 0,.ptr 3 0] (kH 4 (ckH N Es o (i,g)) N Es nQQ [.ptr 2 0,.ptr 1 0,.ptr 3 0] after P) = some (.bool (decide (o[i]? = some S)),kH 4 (ckH N Es o (i + 1,decide (o[i]? = some S))) N Es nQQ [.ptr 2 0,.ptr 1 0,.ptr 3 0] after P) := by
 rw [callL_end oQQ sQQ (Nat.le_of_ble_eq_true rfl)];have hw := wrapS (i := i) (by omega);have g2 := lls_length o;by_cases hlt : i < o.length
 ·have h1 : (i : Int) < o.length := by omega
  have i1 := idx_lt (k := .i64) (i := (i : Int)) (n := o.length) (by omega) h1;have g1 : ∀ h,(lls o)[i]'h = AV.list 1 (ints o[i]) := fun h => llsAt ..;have g3 : (lls o)[i]? = some (.list 1 (ints o[i])) := by rw [lls_get,List.getElem?_eq_getElem hlt]; rfl
  have er := eql_run S o[i] (by omega);have ed : (o[i]? = some S) = (S = o[i]) := by rw [List.getElem?_eq_getElem hlt]; exact propext ⟨fun k => (Option.some.inj k).symm,fun k => by rw [k]⟩
  simp only [ed];generalize decide (S = o[i]) = d at *;unfold kH ckH;generalize lls o = X at *;generalize o[i] = T at *;unfold qQQ cQQ;cases d <;> simp [rQQX0,rQQX1,rQQX2,rQQX3,h1,hlt,hw,i1,g1,g2,g3,er,sQR,iQR,vQR,lQR,finS,plp,plpL,swS,mapH,mapBL,mapB,blk,eds_length,eds_get,edsAt,edAV,allLeaf_eds,cleanL_eds,cleanL_ints,ints_length,ints_get,intsAt,endL,finB]
 ·have h1 : ¬ (i : Int) < o.length := by omega
  have ed : (o[i]? = some S) = False := by rw [List.getElem?_eq_none (by omega)]; simp
  simp only [ed,decide_false];unfold kH ckH;generalize lls o = X at *;unfold qQQ cQQ;simp [rQQX0,rQQX1,rQQX2,rQQX3,h1,hlt,hw,g2,finS,plp,plpL,swS,mapH,mapBL,mapB,blk,eds_length,eds_get,edsAt,edAV,allLeaf_eds,cleanL_eds,cleanL_ints,ints_length,ints_get,intsAt,endL,finB]
theorem take_ck (N : Nat) (Es : List Ed) (o : List (List Int)) (ho : o.length < 4294967295) (after : List Int) : TakeK N Es after 4 nQQ [.ptr 2 0,.ptr 1 0,.ptr 3 0] (ckH N Es o) (tkC o) (fun s => s.1 <= o.length) :=
 ⟨⟨_,sQQ⟩,lead_ck N Es o,⟨fun _ => rfl,rfl,rfl,rfl,rfl,fun b hb => by simp [noPtrL,noPtr]; omega⟩,fun s S P hs _ l => takeC_run N Es o ho after P S l s.1 hs s.2,fun s S hs _ _ k => by
  have k : o[s.1]? = some S := of_decide_eq_true k;obtain ⟨hi,_⟩ := List.getElem?_eq_some_iff.1 k;exact hi⟩
theorem checkK_run {N : Nat} {Es : List Ed} (h : GOK (N : Int) Es) (hE : Es.length < 4294967295) (o : List (List Int)) (ho : o.length < 4294967295) : callL cfgS nQv [.agg [.int .i64 N,.list 2 (eds Es)],.list 1 (lls o)] [] = some (.bool (decide (mcl N Es = o)),[]) := by
 have c1 := gchk_run (N : Int) Es (by omega);rw [chkG_zero.2 h] at c1;have c3 := each_run h hE (after := []) (by decide) (take_ck N Es o ho []) (0,true) (Nat.zero_le _);rw [behK_nil h] at c3;have fc := foldC o (mcl N Es) 0 (Nat.zero_le _);rw [List.drop_zero] at fc;generalize (foldS (tkC o) (mcl N Es) (0,true)).1 = R at *;obtain ⟨j,g⟩ := R;have g2 := lls_length o;have ed : (mcl N Es = o) = (g = true /\ j = o.length) := propext fc.symm;simp only [ed];rw [callL_end oQv sQv (Nat.le_of_ble_eq_true rfl)];unfold ckH at c3;simp only [nat0,ints_nil] at c3;have ej : ((j : Int) = o.length) = (j = o.length) := propext ⟨fun k => by omega,fun k => by omega⟩;generalize lls o = X at *;unfold qQv cQv;cases g <;> simp [rQvX0,rQvX1,rQvX2,rQvX3,rQvX4,rQvX5,c1,c3,g2,ej,beqI,sQz,iQz,vQz,lQz,sQI,iQI,vQI,lQI,plp,plpL,allB,notBox,swC,seesC,inBox,blk,eds_length,eds_get,edsAt,edAV,allLeaf_eds,cleanL_eds,cleanL_ints,ints_length,ints_get,intsAt,endL,finB]
end Go.BmP
