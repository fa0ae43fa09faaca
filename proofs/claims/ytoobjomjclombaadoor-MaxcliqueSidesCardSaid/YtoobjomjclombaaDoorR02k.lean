/- nodeset.merged: its loop and its answer. -/
import Derived.Test.YtoobjomjclombaaDoorUseM
import Derived.Test.YtoobjomjclombaaDoorR02d
set_option linter.unusedSimpArgs false
set_option linter.unusedVariables false
set_option maxRecDepth 100000
set_option maxHeartbeats 4000000
namespace Go.BmP
open Go.Am Go.Bm
def sq (b : Bool) (l : List Int) : AV := if b then .own 1 (ints l) else .list 1 (ints l)
theorem sq_t (l : List Int) : sq true l = .own 1 (ints l) := rfl
theorem sq_f (l : List Int) : sq false l = .list 1 (ints l) := rfl
def KeepOK (f : Nat) (keep : Bool -> Bool -> Bool) : Prop := (∃ q,cfgS.fn f = some (⟨false,false,true⟩,q)) /\ ∀ p r,callL cfgS f [.bool p,.bool r] [] = some (.bool (keep p r),[])
theorem union1_ok : KeepOK nQ7 (fun _ _ => true) := by
 refine ⟨⟨_,sQ7⟩,fun p r => ?_⟩;rw [callL_end oQ7 sQ7 (Nat.le_of_ble_eq_true rfl)];unfold qQ7 cQ7;simp [rQ7X0,rQ7X1,endL,finB]
def jk : Bool -> Int -> Env
 | true,_ => []
 | false,x => [(10,.int .i64 x),(80,.bool false)]
def mst (f : Nat) (b1 b2 : Bool) (A B out : List Int) (J : Env) : St := ⟨(0,sq b1 A) :: (1,sq b2 B) :: (2,.func (.func f) [] []) :: (7,.own 1 (ints out)) :: J,[]⟩
theorem mrg_end (f : Nat) (b1 b2 : Bool) (out : List Int) : codeL cfgS 0 (.loop lQ6X0) (mst f b1 b2 [] [] out []) = some (.exit 0,⟨[(0,sq b1 []),(1,sq b2 []),(2,.func (.func f) [] []),(7,.own 1 (ints out)),(30,.bool false)],[]⟩) := by
 cases b1 <;> cases b2 <;> (simp only [mst,sq_t,sq_f]; exact loop_exit (by unfold lQ6X0; simp [rQ6X0,rQ6X1,rQ6X2,rQ6X3,rQ6X4,rQ6X5,rQ6X6,rQ6X7,rQ6X8,rQ6X9,rQ6X10,rQ6X11,rQ6X12,rQ6X13,rQ6X14,rQ6X15,rQ6X16,ints_nil]))
theorem mrg_j (f : Nat) (b1 b2 : Bool) (A B out : List Int) (k : Bool) (x : Int) : codeL cfgS 0 lQ6X0 (mst f b1 b2 A B out (jk k x)) = codeL cfgS 0 lQ6X0 (mst f b1 b2 A B out []) := by
 cases k
 case true => rfl
 unfold lQ6X0
 have e : codeL cfgS 0 (.reg rQ6X6 false [] [0,1,2,7,30]) (mst f b1 b2 A B out (jk false x)) = codeL cfgS 0 (.reg rQ6X6 false [] [0,1,2,7,30]) (mst f b1 b2 A B out []) := by
  cases A with
  | nil => cases b1 <;> cases b2 <;> (simp only [mst,sq_t,sq_f,jk]; simp [rQ6X0,rQ6X1,rQ6X2,rQ6X3,rQ6X4,rQ6X5,rQ6X6,rQ6X7,rQ6X8,rQ6X9,rQ6X10,rQ6X11,rQ6X12,rQ6X13,rQ6X14,rQ6X15,rQ6X16,ints_nil,ints_length])
  | cons a r =>
    have h0 : (0 : Int) < (r.length : Int) + 1 := by omega
    cases b1 <;> cases b2 <;> (simp only [mst,sq_t,sq_f,jk]; simp [rQ6X0,rQ6X1,rQ6X2,rQ6X3,rQ6X4,rQ6X5,rQ6X6,rQ6X7,rQ6X8,rQ6X9,rQ6X10,rQ6X11,rQ6X12,rQ6X13,rQ6X14,rQ6X15,rQ6X16,ints_nil,ints_length,h0])
 rw [codeL_seq,codeL_seq,e,<- codeL_seq,<- codeL_seq]
/- nodeset.merged: rounds of its loop. -/
theorem mrg_a (f : Nat) (keep : Bool -> Bool -> Bool) (hk : KeepOK f keep) (x : Int) (r : List Int) (out : List Int) (hL : out.length + 1 <= 4294967296) (b1 b2 : Bool) : codeL cfgS 0 lQ6X0 (mst f b1 b2 (x :: r) [] out []) = some (.normal,mst f false b2 r [] (out ++ put1 (keep true false) x []) (jk (keep true false) x)) := by
 obtain ⟨⟨q,hf⟩,hc⟩ := hk;have h0 : (0 : Int) < (r.length : Int) + 1 := by omega
 have h1 : ¬ ((r.length : Int) + 1 = 0) := by omega
 have h2 : (1 : Int) <= (r.length : Int) + 1 := by omega
 have h3 : 1 + r.length <= r.length + 1 := by omega
 have hkk := hc true false
 cases hkv : keep true false <;> rw [hkv] at hkk <;> cases b1 <;> cases b2 <;>
  (simp only [mst,sq_t,sq_f,jk,put1,Bool.false_eq_true,if_true,if_false,List.append_nil]
   unfold lQ6X0;simp [rQ6X0,rQ6X1,rQ6X2,rQ6X3,rQ6X4,rQ6X5,rQ6X6,rQ6X7,rQ6X8,rQ6X9,rQ6X10,rQ6X11,rQ6X12,rQ6X13,rQ6X14,rQ6X15,rQ6X16,ints_nil,ints_cons,ints_length,h0,h1,h2,h3,hf,hkk,idx,LIM,hL,ints_take,ints_drop,ints_snoc,List.drop_succ_cons,List.drop_zero,List.take_succ_cons,List.take_zero])
/- nodeset.merged: rounds of its loop. -/
theorem mrg_b (f : Nat) (keep : Bool -> Bool -> Bool) (hk : KeepOK f keep) (y : Int) (s : List Int) (out : List Int) (hL : out.length + 1 <= 4294967296) (b1 b2 : Bool) : codeL cfgS 0 lQ6X0 (mst f b1 b2 [] (y :: s) out []) = some (.normal,mst f b1 false [] s (out ++ put1 (keep false true) y []) (jk (keep false true) y)) := by
 obtain ⟨⟨q,hf⟩,hc⟩ := hk;have k0 : (0 : Int) < (s.length : Int) + 1 := by omega
 have k1 : ¬ ((s.length : Int) + 1 = 0) := by omega
 have k2 : (1 : Int) <= (s.length : Int) + 1 := by omega
 have k3 : 1 + s.length <= s.length + 1 := by omega
 have hkk := hc false true
 cases hkv : keep false true <;> rw [hkv] at hkk <;> cases b1 <;> cases b2 <;>
  (simp only [mst,sq_t,sq_f,jk,put1,Bool.false_eq_true,if_true,if_false,List.append_nil]
   unfold lQ6X0;simp [rQ6X0,rQ6X1,rQ6X2,rQ6X3,rQ6X4,rQ6X5,rQ6X6,rQ6X7,rQ6X8,rQ6X9,rQ6X10,rQ6X11,rQ6X12,rQ6X13,rQ6X14,rQ6X15,rQ6X16,ints_nil,ints_cons,ints_length,k0,k1,k2,k3,hf,hkk,idx,LIM,hL,ints_take,ints_drop,ints_snoc,List.drop_succ_cons,List.drop_zero,List.take_succ_cons,List.take_zero])
/- nodeset.merged: rounds of its loop. -/
theorem mrg_lt (f : Nat) (keep : Bool -> Bool -> Bool) (hk : KeepOK f keep) (x y : Int) (r s : List Int) (hxy : x < y) (out : List Int) (hL : out.length + 1 <= 4294967296) (b1 b2 : Bool) : codeL cfgS 0 lQ6X0 (mst f b1 b2 (x :: r) (y :: s) out []) = some (.normal,mst f false b2 r (y :: s) (out ++ put1 (keep true false) x []) (jk (keep true false) x)) := by
 obtain ⟨⟨q,hf⟩,hc⟩ := hk;have h0 : (0 : Int) < (r.length : Int) + 1 := by omega
 have h1 : ¬ ((r.length : Int) + 1 = 0) := by omega
 have h2 : (1 : Int) <= (r.length : Int) + 1 := by omega
 have h3 : 1 + r.length <= r.length + 1 := by omega
 have k0 : (0 : Int) < (s.length : Int) + 1 := by omega
 have k1 : ¬ ((s.length : Int) + 1 = 0) := by omega
 have k2 : (1 : Int) <= (s.length : Int) + 1 := by omega
 have k3 : 1 + s.length <= s.length + 1 := by omega
 have c1 : x <= y := by omega
 have c2 : ¬ y <= x := by omega
 have hkk := hc true false
 cases hkv : keep true false <;> rw [hkv] at hkk <;> cases b1 <;> cases b2 <;>
  (simp only [mst,sq_t,sq_f,jk,put1,Bool.false_eq_true,if_true,if_false,List.append_nil]
   unfold lQ6X0;simp [rQ6X0,rQ6X1,rQ6X2,rQ6X3,rQ6X4,rQ6X5,rQ6X6,rQ6X7,rQ6X8,rQ6X9,rQ6X10,rQ6X11,rQ6X12,rQ6X13,rQ6X14,rQ6X15,rQ6X16,ints_nil,ints_cons,ints_length,h0,h1,h2,h3,k0,k1,k2,k3,c1,c2,hf,hkk,idx,LIM,hL,ints_take,ints_drop,ints_snoc,List.drop_succ_cons,List.drop_zero,List.take_succ_cons,List.take_zero])
/- nodeset.merged: rounds of its loop. -/
theorem mrg_gt (f : Nat) (keep : Bool -> Bool -> Bool) (hk : KeepOK f keep) (x y : Int) (r s : List Int) (hxy : y < x) (out : List Int) (hL : out.length + 1 <= 4294967296) (b1 b2 : Bool) : codeL cfgS 0 lQ6X0 (mst f b1 b2 (x :: r) (y :: s) out []) = some (.normal,mst f b1 false (x :: r) s (out ++ put1 (keep false true) y []) (jk (keep false true) y)) := by
 obtain ⟨⟨q,hf⟩,hc⟩ := hk;have h0 : (0 : Int) < (r.length : Int) + 1 := by omega
 have h1 : ¬ ((r.length : Int) + 1 = 0) := by omega
 have h2 : (1 : Int) <= (r.length : Int) + 1 := by omega
 have h3 : 1 + r.length <= r.length + 1 := by omega
 have k0 : (0 : Int) < (s.length : Int) + 1 := by omega
 have k1 : ¬ ((s.length : Int) + 1 = 0) := by omega
 have k2 : (1 : Int) <= (s.length : Int) + 1 := by omega
 have k3 : 1 + s.length <= s.length + 1 := by omega
 have c1 : y <= x := by omega
 have c2 : ¬ x <= y := by omega
 have hkk := hc false true
 cases hkv : keep false true <;> rw [hkv] at hkk <;> cases b1 <;> cases b2 <;>
  (simp only [mst,sq_t,sq_f,jk,put1,Bool.false_eq_true,if_true,if_false,List.append_nil]
   unfold lQ6X0;simp [rQ6X0,rQ6X1,rQ6X2,rQ6X3,rQ6X4,rQ6X5,rQ6X6,rQ6X7,rQ6X8,rQ6X9,rQ6X10,rQ6X11,rQ6X12,rQ6X13,rQ6X14,rQ6X15,rQ6X16,ints_nil,ints_cons,ints_length,h0,h1,h2,h3,k0,k1,k2,k3,c1,c2,hf,hkk,idx,LIM,hL,ints_take,ints_drop,ints_snoc,List.drop_succ_cons,List.drop_zero,List.take_succ_cons,List.take_zero])
/- nodeset.merged: rounds of its loop. -/
theorem mrg_eq (f : Nat) (keep : Bool -> Bool -> Bool) (hk : KeepOK f keep) (x : Int) (r s : List Int) (out : List Int) (hL : out.length + 1 <= 4294967296) (b1 b2 : Bool) : codeL cfgS 0 lQ6X0 (mst f b1 b2 (x :: r) (x :: s) out []) = some (.normal,mst f false false r s (out ++ put1 (keep true true) x []) (jk (keep true true) x)) := by
 obtain ⟨⟨q,hf⟩,hc⟩ := hk;have h0 : (0 : Int) < (r.length : Int) + 1 := by omega
 have h1 : ¬ ((r.length : Int) + 1 = 0) := by omega
 have h2 : (1 : Int) <= (r.length : Int) + 1 := by omega
 have h3 : 1 + r.length <= r.length + 1 := by omega
 have k0 : (0 : Int) < (s.length : Int) + 1 := by omega
 have k1 : ¬ ((s.length : Int) + 1 = 0) := by omega
 have k2 : (1 : Int) <= (s.length : Int) + 1 := by omega
 have k3 : 1 + s.length <= s.length + 1 := by omega
 have hkk := hc true true
 cases hkv : keep true true <;> rw [hkv] at hkk <;> cases b1 <;> cases b2 <;>
  (simp only [mst,sq_t,sq_f,jk,put1,Bool.false_eq_true,if_true,if_false,List.append_nil]
   unfold lQ6X0;simp [rQ6X0,rQ6X1,rQ6X2,rQ6X3,rQ6X4,rQ6X5,rQ6X6,rQ6X7,rQ6X8,rQ6X9,rQ6X10,rQ6X11,rQ6X12,rQ6X13,rQ6X14,rQ6X15,rQ6X16,ints_nil,ints_cons,ints_length,h0,h1,h2,h3,k0,k1,k2,k3,hf,hkk,idx,LIM,hL,ints_take,ints_drop,ints_snoc,List.drop_succ_cons,List.drop_zero,List.take_succ_cons,List.take_zero])
/- nodeset.merged as a whole; Union, Meet, Minus, Of, Within. -/
theorem cleanL_ints0 (l : List Int) : cleanL (ints l) = true := by
 induction l with
 | nil => rfl
 | cons x r ih => simp only [ints,List.map_cons,cleanL,clean] at ih ⊢; rw [ih]; rfl
theorem put1_app (c : Bool) (x : Int) (m : List Int) : put1 c x m = put1 c x [] ++ m := by cases c <;> rfl
theorem mrg_loop (f : Nat) (keep : Bool -> Bool -> Bool) (hk : KeepOK f keep) (A B : List Int) : ∀ (b1 b2 : Bool) (out : List Int),out.length + A.length + B.length <= 4294967296 -> ∃ b1' b2',codeL cfgS 0 (.loop lQ6X0) (mst f b1 b2 A B out []) = some (.exit 0,⟨[(0,sq b1' []),(1,sq b2' []),(2,.func (.func f) [] []),(7,.own 1 (ints (out ++ mrg keep A B))),(30,.bool false)],[]⟩) := by
 have go : ∀ {k : Bool} {x : Int} {b1 b2 : Bool} {A B out : List Int},codeL cfgS 0 (.loop lQ6X0) (mst f b1 b2 A B out (jk k x)) = codeL cfgS 0 (.loop lQ6X0) (mst f b1 b2 A B out []) := by
  intro k x b1 b2 A B out;rw [codeL_loop,codeL_loop,mrg_j]
 have pl : ∀ (c : Bool) (x : Int) (o : List Int),(o ++ put1 c x []).length <= o.length + 1 := by
  intro c x o; cases c <;> simp [put1]
 induction A,B using mrg.induct with
 | case1 => intro b1 b2 out h; exact ⟨b1,b2,by rw [mrg,List.append_nil]; exact mrg_end f b1 b2 out⟩
 | case2 x r ih =>
   intro b1 b2 out h;simp only [List.length_cons,List.length_nil] at h;have := pl (keep true false) x out;obtain ⟨c1,c2,e⟩ := ih false b2 (out ++ put1 (keep true false) x []) (by simp only [List.length_nil]; omega);refine ⟨c1,c2,?_⟩;rw [loop_next (mrg_a f keep hk x r out (by omega) b1 b2),go,e,mrg,put1_app (keep true false) x (mrg keep r []),List.append_assoc]
 | case3 y s ih =>
   intro b1 b2 out h;simp only [List.length_cons,List.length_nil] at h;have := pl (keep false true) y out;obtain ⟨c1,c2,e⟩ := ih b1 false (out ++ put1 (keep false true) y []) (by simp only [List.length_nil]; omega);refine ⟨c1,c2,?_⟩;rw [loop_next (mrg_b f keep hk y s out (by omega) b1 b2),go,e,mrg,put1_app (keep false true) y (mrg keep [] s),List.append_assoc]
 | case4 x r y s hlt ih =>
   intro b1 b2 out h;simp only [List.length_cons] at h;have := pl (keep true false) x out;obtain ⟨c1,c2,e⟩ := ih false b2 (out ++ put1 (keep true false) x []) (by simp only [List.length_cons]; omega);refine ⟨c1,c2,?_⟩;rw [loop_next (mrg_lt f keep hk x y r s hlt out (by omega) b1 b2),go,e,mrg,if_pos hlt,put1_app (keep true false) x (mrg keep r (y :: s)),List.append_assoc]
 | case5 x r y s hn hlt ih =>
   intro b1 b2 out h;simp only [List.length_cons] at h;have := pl (keep false true) y out;obtain ⟨c1,c2,e⟩ := ih b1 false (out ++ put1 (keep false true) y []) (by simp only [List.length_cons]; omega);refine ⟨c1,c2,?_⟩;rw [loop_next (mrg_gt f keep hk x y r s hlt out (by omega) b1 b2),go,e,mrg,if_neg hn,if_pos hlt,put1_app (keep false true) y (mrg keep (x :: r) s),List.append_assoc]
 | case6 x r y s hn hn2 ih =>
   obtain rfl : x = y := by omega
   intro b1 b2 out h;simp only [List.length_cons] at h;have := pl (keep true true) x out;obtain ⟨c1,c2,e⟩ := ih false false (out ++ put1 (keep true true) x []) (by omega);refine ⟨c1,c2,?_⟩;rw [loop_next (mrg_eq f keep hk x r s out (by omega) b1 b2),go,e,mrg,if_neg hn,if_neg hn2,put1_app (keep true true) x (mrg keep r s),List.append_assoc]
theorem clone_nil : callL cfgS nQa6 [.list 1 []] [] = some (.list 1 [],[]) := callL_orc (by simp [orcA,oQa6,gClo])
theorem clone_cons (x : Int) (r : List Int) (hl : r.length + 1 <= 4294967296) : callL cfgS nQa6 [.list 1 (ints (x :: r))] [] = some (.own 1 (ints (x :: r)),[]) := by
 rw [callL_ofA (by simp [orcA,oQa6,gClo,ints_cons]) sQa6 (Nat.le_of_ble_eq_true rfl)];unfold qQa6 cQa6;simp [rQa6X0,rQa6X1,rQa6X2,rQa6X3,ints_cons,ints_length,hl,LIM,endL,finB,allLocal,local_,takeR,takeV,ints_take,List.take_take,Nat.min_self,List.take_length,AV.cells,AV.leaf]
theorem srtG_ints (l : List Int) (h : l.length <= 4294967296) : srtG 1 (ints l) [] = some (ints (isort l),none) := by
 have e : intsOf (ints l) = some l := intsOf_ints l;unfold srtG;simp only [ints_length,LIM,h,if_true,e];rfl
theorem cptG_ints (l : List Int) (h : l.length <= 4294967296) : cptG 1 (ints l) [] = some (ints (dd l ++ List.replicate (l.length - (dd l).length) 0),some (dd l).length) := by
 have e : intsOf (ints l) = some l := intsOf_ints l;unfold cptG;simp only [ints_length,LIM,h,if_true,e];rfl
theorem srtG_nil : srtG 1 [] [] = some ([],none) := srtG_ints [] (by simp)
theorem cptG_nil : cptG 1 [] [] = some ([],some 0) := cptG_ints [] (by simp)
def cMrgA : C := .seq (.reg rQ6X0 false [] [0,1,2]) (.seq (.reg rQ6X1 false [] [0,1,2]) (.seq (.reg rQ6X2 false [] [0,1,2]) (.seq (.reg rQ6X3 false [] [0,1,2]) (.seq (.reg rQ6X4 false [] [0,1,2]) (.reg rQ6X5 false [] [0,1,2,7])))))
theorem mrg_pre1 (f : Nat) : codeL cfgS 0 cMrgA ⟨[(0,.list 1 (ints [])),(1,.list 1 (ints [])),(2,.func (.func f) [] [])],[]⟩ = some (.normal,mst f false false [] [] [] []) := by
 unfold cMrgA;simp only [mst,sq_f,ints_nil];simp [rQ6X0,rQ6X1,rQ6X2,rQ6X3,rQ6X4,rQ6X5,rQ6X6,rQ6X7,rQ6X8,rQ6X9,rQ6X10,rQ6X11,rQ6X12,rQ6X13,rQ6X14,rQ6X15,rQ6X16,clone_nil,srtG_nil,cptG_nil,sQa6,iQa6,lQa6,iQa7,lQa7,iQa8,lQa8]
theorem mrg_pre2 (f : Nat) (y : Int) (s : List Int) (hl : s.length + 1 <= 4294967296) : codeL cfgS 0 cMrgA ⟨[(0,.list 1 (ints [])),(1,.list 1 (ints (y :: s))),(2,.func (.func f) [] [])],[]⟩ = some (.normal,mst f false true [] (setOf (y :: s)) [] []) := by
 have hc := clone_cons y s hl;have hl' : (y :: s).length <= 4294967296 := by simpa using hl
 have h1 := srtG_ints (y :: s) hl';have e2 : (isort (y :: s)).length = (y :: s).length := isort_length _;have h2 := cptG_ints (isort (y :: s)) (by omega);have e3 : dd (isort (y :: s)) = setOf (y :: s) := rfl;have e4 := setOf_len (y :: s);rw [e2,e3] at h2;generalize y :: s = b at *;by_cases hm : b.length <= (setOf b).length
 ·have hm2 : b.length - (setOf b).length = 0 := by omega
  have hm3 : (setOf b).length = b.length := by omega
  unfold cMrgA;simp only [mst,sq_f,sq_t,ints_nil];simp [rQ6X0,rQ6X1,rQ6X2,rQ6X3,rQ6X4,rQ6X5,rQ6X6,rQ6X7,rQ6X8,rQ6X9,rQ6X10,rQ6X11,rQ6X12,rQ6X13,rQ6X14,rQ6X15,rQ6X16,clone_nil,srtG_nil,cptG_nil,hc,h1,h2,e2,e4,hm,hm2,hm3,sQa6,iQa6,lQa6,iQa7,lQa7,iQa8,lQa8,ints_length,ints_take,List.take_length,List.length_append,List.length_replicate,List.drop_length,ints_drop,cleanL_ints0,List.take_append_of_le_length,Nat.le_refl]
 ·unfold cMrgA;have e5 : (setOf b).length + (b.length - (setOf b).length) = b.length := by omega
  simp only [mst,sq_f,sq_t,ints_nil];simp [rQ6X0,rQ6X1,rQ6X2,rQ6X3,rQ6X4,rQ6X5,rQ6X6,rQ6X7,rQ6X8,rQ6X9,rQ6X10,rQ6X11,rQ6X12,rQ6X13,rQ6X14,rQ6X15,rQ6X16,clone_nil,srtG_nil,cptG_nil,hc,h1,h2,e2,e4,e5,hm,sQa6,iQa6,lQa6,iQa7,lQa7,iQa8,lQa8,ints_length,ints_take,List.take_length,List.length_append,List.length_replicate,List.drop_length,ints_drop,cleanL_ints0,List.take_append_of_le_length,Nat.le_refl]
theorem mrg_pre3 (f : Nat) (y : Int) (s : List Int) (hl : s.length + 1 <= 4294967296) : codeL cfgS 0 cMrgA ⟨[(0,.list 1 (ints (y :: s))),(1,.list 1 (ints [])),(2,.func (.func f) [] [])],[]⟩ = some (.normal,mst f true false (setOf (y :: s)) [] [] []) := by
 have hc := clone_cons y s hl;have hl' : (y :: s).length <= 4294967296 := by simpa using hl
 have h1 := srtG_ints (y :: s) hl';have e2 : (isort (y :: s)).length = (y :: s).length := isort_length _;have h2 := cptG_ints (isort (y :: s)) (by omega);have e3 : dd (isort (y :: s)) = setOf (y :: s) := rfl;have e4 := setOf_len (y :: s);rw [e2,e3] at h2;generalize y :: s = b at *;by_cases hm : b.length <= (setOf b).length
 ·have hm2 : b.length - (setOf b).length = 0 := by omega
  have hm3 : (setOf b).length = b.length := by omega
  unfold cMrgA;simp only [mst,sq_f,sq_t,ints_nil];simp [rQ6X0,rQ6X1,rQ6X2,rQ6X3,rQ6X4,rQ6X5,rQ6X6,rQ6X7,rQ6X8,rQ6X9,rQ6X10,rQ6X11,rQ6X12,rQ6X13,rQ6X14,rQ6X15,rQ6X16,clone_nil,srtG_nil,cptG_nil,hc,h1,h2,e2,e4,hm,hm2,hm3,sQa6,iQa6,lQa6,iQa7,lQa7,iQa8,lQa8,ints_length,ints_take,List.take_length,List.length_append,List.length_replicate,List.drop_length,ints_drop,cleanL_ints0,List.take_append_of_le_length,Nat.le_refl]
 ·unfold cMrgA;have e5 : (setOf b).length + (b.length - (setOf b).length) = b.length := by omega
  simp only [mst,sq_f,sq_t,ints_nil];simp [rQ6X0,rQ6X1,rQ6X2,rQ6X3,rQ6X4,rQ6X5,rQ6X6,rQ6X7,rQ6X8,rQ6X9,rQ6X10,rQ6X11,rQ6X12,rQ6X13,rQ6X14,rQ6X15,rQ6X16,clone_nil,srtG_nil,cptG_nil,hc,h1,h2,e2,e4,e5,hm,sQa6,iQa6,lQa6,iQa7,lQa7,iQa8,lQa8,ints_length,ints_take,List.take_length,List.length_append,List.length_replicate,List.drop_length,ints_drop,cleanL_ints0,List.take_append_of_le_length,Nat.le_refl]
theorem mrg_pre4 (f : Nat) (x y : Int) (r s : List Int) (hl : r.length + 1 <= 4294967296) (kl : s.length + 1 <= 4294967296) : codeL cfgS 0 cMrgA ⟨[(0,.list 1 (ints (x :: r))),(1,.list 1 (ints (y :: s))),(2,.func (.func f) [] [])],[]⟩ = some (.normal,mst f true true (setOf (x :: r)) (setOf (y :: s)) [] []) := by
 have hca := clone_cons x r hl;have hla' : (x :: r).length <= 4294967296 := by simpa using hl
 have h1a := srtG_ints (x :: r) hla';have e2a : (isort (x :: r)).length = (x :: r).length := isort_length _;have h2a := cptG_ints (isort (x :: r)) (by omega);have e3a : dd (isort (x :: r)) = setOf (x :: r) := rfl;have e4a := setOf_len (x :: r);rw [e2a,e3a] at h2a;have hcb := clone_cons y s kl;have hlb' : (y :: s).length <= 4294967296 := by simpa using kl
 have h1b := srtG_ints (y :: s) hlb';have e2b : (isort (y :: s)).length = (y :: s).length := isort_length _;have h2b := cptG_ints (isort (y :: s)) (by omega);have e3b : dd (isort (y :: s)) = setOf (y :: s) := rfl;have e4b := setOf_len (y :: s);rw [e2b,e3b] at h2b;generalize x :: r = a at *;generalize y :: s = b at *;unfold cMrgA;simp only [mst,sq_f,sq_t,ints_nil];by_cases hma : a.length <= (setOf a).length
 ·have hma2 : a.length - (setOf a).length = 0 := by omega
  have hma3 : (setOf a).length = a.length := by omega
  by_cases hmb : b.length <= (setOf b).length
  ·have hmb2 : b.length - (setOf b).length = 0 := by omega
   have hmb3 : (setOf b).length = b.length := by omega
   simp [rQ6X0,rQ6X1,rQ6X2,rQ6X3,rQ6X4,rQ6X5,rQ6X6,rQ6X7,rQ6X8,rQ6X9,rQ6X10,rQ6X11,rQ6X12,rQ6X13,rQ6X14,rQ6X15,rQ6X16,clone_nil,srtG_nil,cptG_nil,hca,h1a,h2a,e2a,e4a,hma,hma2,hma3,hcb,h1b,h2b,e2b,e4b,hmb,hmb2,hmb3,sQa6,iQa6,lQa6,iQa7,lQa7,iQa8,lQa8,ints_length,ints_take,List.take_length,List.length_append,List.length_replicate,List.drop_length,ints_drop,cleanL_ints0,List.take_append_of_le_length,Nat.le_refl]
  ·have e5b : (setOf b).length + (b.length - (setOf b).length) = b.length := by omega
   simp [rQ6X0,rQ6X1,rQ6X2,rQ6X3,rQ6X4,rQ6X5,rQ6X6,rQ6X7,rQ6X8,rQ6X9,rQ6X10,rQ6X11,rQ6X12,rQ6X13,rQ6X14,rQ6X15,rQ6X16,clone_nil,srtG_nil,cptG_nil,hca,h1a,h2a,e2a,e4a,hma,hma2,hma3,hcb,h1b,h2b,e2b,e4b,hmb,e5b,sQa6,iQa6,lQa6,iQa7,lQa7,iQa8,lQa8,ints_length,ints_take,List.take_length,List.length_append,List.length_replicate,List.drop_length,ints_drop,cleanL_ints0,List.take_append_of_le_length,Nat.le_refl]
 ·have e5a : (setOf a).length + (a.length - (setOf a).length) = a.length := by omega
  by_cases hmb : b.length <= (setOf b).length
  ·have hmb2 : b.length - (setOf b).length = 0 := by omega
   have hmb3 : (setOf b).length = b.length := by omega
   simp [rQ6X0,rQ6X1,rQ6X2,rQ6X3,rQ6X4,rQ6X5,rQ6X6,rQ6X7,rQ6X8,rQ6X9,rQ6X10,rQ6X11,rQ6X12,rQ6X13,rQ6X14,rQ6X15,rQ6X16,clone_nil,srtG_nil,cptG_nil,hca,h1a,h2a,e2a,e4a,hma,e5a,hcb,h1b,h2b,e2b,e4b,hmb,hmb2,hmb3,sQa6,iQa6,lQa6,iQa7,lQa7,iQa8,lQa8,ints_length,ints_take,List.take_length,List.length_append,List.length_replicate,List.drop_length,ints_drop,cleanL_ints0,List.take_append_of_le_length,Nat.le_refl]
  ·have e5b : (setOf b).length + (b.length - (setOf b).length) = b.length := by omega
   simp [rQ6X0,rQ6X1,rQ6X2,rQ6X3,rQ6X4,rQ6X5,rQ6X6,rQ6X7,rQ6X8,rQ6X9,rQ6X10,rQ6X11,rQ6X12,rQ6X13,rQ6X14,rQ6X15,rQ6X16,clone_nil,srtG_nil,cptG_nil,hca,h1a,h2a,e2a,e4a,hma,e5a,hcb,h1b,h2b,e2b,e4b,hmb,e5b,sQa6,iQa6,lQa6,iQa7,lQa7,iQa8,lQa8,ints_length,ints_take,List.take_length,List.length_append,List.length_replicate,List.drop_length,ints_drop,cleanL_ints0,List.take_append_of_le_length,Nat.le_refl]
theorem mrg_pre (f : Nat) (a b : List Int) (ha : a.length <= 4294967296) (hb : b.length <= 4294967296) : ∃ b1 b2,codeL cfgS 0 cMrgA ⟨[(0,.list 1 (ints a)),(1,.list 1 (ints b)),(2,.func (.func f) [] [])],[]⟩ = some (.normal,mst f b1 b2 (setOf a) (setOf b) [] []) := by
 cases a with
 | nil => cases b with
   | nil => exact ⟨_,_,mrg_pre1 f⟩
   | cons y s => exact ⟨_,_,mrg_pre2 f y s (by simpa using hb)⟩
 | cons x r => cases b with
   | nil => exact ⟨_,_,mrg_pre3 f x r (by simpa using ha)⟩
   | cons y s => exact ⟨_,_,mrg_pre4 f x y r s (by simpa using ha) (by simpa using hb)⟩
theorem seq_assoc {c : Cfg} {b : Nat} {x y z : C} {s : St} : codeL c b (.seq (.seq x y) z) s = codeL c b (.seq x (.seq y z)) s := by
 rw [codeL_seq,codeL_seq,codeL_seq];cases e : codeL c b x s with
 | none => rfl
 | some w =>
   obtain ⟨ex,s'⟩ := w;cases ex with
   | normal => rw [thenL_n,thenL_n,codeL_seq]
   | exit i => rfl
   | ret => rfl
theorem seq_congr {c : Cfg} {b : Nat} {x y z : C} (h : ∀ s,codeL c b y s = codeL c b z s) (s : St) : codeL c b (.seq x y) s = codeL c b (.seq x z) s := by
 rw [codeL_seq,codeL_seq];cases e : codeL c b x s with
 | none => rfl
 | some w =>
   obtain ⟨ex,s'⟩ := w;cases ex with
   | normal => rw [thenL_n,thenL_n,h]
   | exit i => rfl
   | ret => rfl
theorem merged_run (f : Nat) (keep : Bool -> Bool -> Bool) (hk : KeepOK f keep) (a b : List Int) (hl : a.length + b.length <= 4294967296) : callL cfgS nQ6 [.list 1 (ints a),.list 1 (ints b),.func (.func f) [] []] [] = some (.list 1 (ints (mrg keep (setOf a) (setOf b))),[]) := by
 rw [callL_end oQ6 sQ6 (Nat.le_of_ble_eq_true rfl)];obtain ⟨b1,b2,h⟩ := mrg_pre f a b (by omega) (by omega);have la := setOf_len a;have lb := setOf_len b;obtain ⟨c1,c2,h'⟩ := mrg_loop f keep hk (setOf a) (setOf b) b1 b2 [] (by simp only [List.length_nil]; omega)
 have e : codeL cfgS ([] : Heap).length qQ6.body ⟨mkEnv 0 [.list 1 (ints a),.list 1 (ints b),.func (.func f) [] []],[]⟩ = codeL cfgS 0 (.seq cMrgA (.seq (.blk 0 (.loop lQ6X0)) (.seq (.reg rQ6X16 false [] [6]) .ret))) ⟨[(0,.list 1 (ints a)),(1,.list 1 (ints b)),(2,.func (.func f) [] [])],[]⟩ := by
  exact (seq_congr (fun s => (seq_congr (fun s => (seq_congr (fun s => (seq_congr (fun s => (seq_congr (fun s => rfl) s).trans seq_assoc.symm) s).trans seq_assoc.symm) s).trans seq_assoc.symm) s).trans seq_assoc.symm) _).trans seq_assoc.symm
 rw [e,codeL_seq,h,thenL_n,codeL_seq,codeL_blk,h',blkL_e,if_pos rfl,thenL_n,List.nil_append];cases c1 <;> cases c2 <;> (simp only [sq_t,sq_f]; simp [rQ6X0,rQ6X1,rQ6X2,rQ6X3,rQ6X4,rQ6X5,rQ6X6,rQ6X7,rQ6X8,rQ6X9,rQ6X10,rQ6X11,rQ6X12,rQ6X13,rQ6X14,rQ6X15,rQ6X16,qQ6,ints_nil,ints_length,ints_take,endL,finB])
theorem nuni_run (a b : List Int) (hl : a.length + b.length <= 4294967296) : callL cfgS nQS [.list 1 (ints a),.list 1 (ints b)] [] = some (.list 1 (ints (uni a b)),[]) := by
 rw [callL_end oQS sQS (Nat.le_of_ble_eq_true rfl)];have h := merged_run nQ7 (fun _ _ => true) union1_ok a b hl;have e : mrg (fun _ _ => true) (setOf a) (setOf b) = uni a b := rfl;rw [e] at h;unfold qQS cQS;simp [rQSX0,rQSX1,h,sQ6,iQ6,lQ6,ints_length,endL,finB]
theorem nof_run (a : List Int) (hl : a.length <= 4294967296) : callL cfgS nQw [.list 1 (ints a)] [] = some (.list 1 (ints (setOf a)),[]) := by
 rw [callL_end oQw sQw (Nat.le_of_ble_eq_true rfl)];have h := nuni_run a [] (by simpa using hl);have e : uni a [] = setOf a := up_ext (uni_spec _ _).1 (setOf_spec _).1 fun x => by rw [(uni_spec _ _).2,(setOf_spec _).2]; simp
 rw [e,ints_nil] at h;unfold qQw cQw;simp [rQwX0,rQwX1,h,sQS,iQS,lQS,ints_length,endL,finB]
end Go.BmP
