/- nodeset.merged: its loop and its answer. -/
import Derived.Test.YtppmiehidnpgbaaGreatDoorUseM
import Derived.Test.YtppmiehidnpgbaaGreatDoorR02d
set_option linter.unusedSimpArgs false
set_option linter.unusedVariables false
set_option maxRecDepth 100000
set_option maxHeartbeats 4000000
open Bool renaming false_eq_true → bn
open List renaming append_assoc → dj, append_nil → dF, drop_length → bU, drop_succ_cons → kF, drop_zero → cS, length_append → bN, length_cons → cj, length_nil → fP, length_replicate → bW, take_append_of_le_length → dp, take_length → dW, take_succ_cons → kD, take_zero → nh
open Nat renaming le_of_ble_eq_true → aD, le_refl → aT
namespace Go.BmP
open Go.Am Go.Bm
def sq (b : Bool) (l : List Int) : AV := if b then .own 1 (ints l) else .list 1 (ints l)
theorem yE (l : List Int) : sq true l = .own 1 (ints l) := rfl
theorem xv (l : List Int) : sq false l = .list 1 (ints l) := rfl
def vM (f : Nat) (keep : Bool -> Bool -> Bool) : Prop := (∃ q,au.fn f = some (⟨false,false,true⟩,q)) /\ ∀ p r,br au f [.bool p,.bool r] [] = some (.bool (keep p r),[])
theorem Vo : vM VR (fun _ _ => true) := by
 refine ⟨⟨_,sQa5⟩,fun p r => ?_⟩;rw [aV oQa5 sQa5 (aD rfl)];unfold qQa5 cQa5;simp [X1,X0,bu,bq]
def jk : Bool -> Int -> Env
 | true,_ => []
 | false,x => [(10,.int .i64 x),(80,.bool false)]
def uf (f : Nat) (b1 b2 : Bool) (A B out : List Int) (J : Env) : St := ⟨(0,sq b1 A) :: (1,sq b2 B) :: (2,.func (.func f) [] []) :: (7,.own 1 (ints out)) :: J,[]⟩
theorem abz (f : Nat) (b1 b2 : Bool) (out : List Int) : aW au 0 (.loop ja) (uf f b1 b2 [] [] out []) = some (.exit 0,⟨[(0,sq b1 []),(1,sq b2 []),(2,.func (.func f) [] []),(7,.own 1 (ints out)),(30,.bool false)],[]⟩) := by
 cases b1 <;> cases b2 <;> (simp only [uf,yE,xv]; exact bw (by unfold ja; simp [iY,iX,iW,iV,iU,iT,iJ,jo,jm,jl,gR,gQ,gP,gO,gN,gM,gh,cV]))
theorem aiq (f : Nat) (b1 b2 : Bool) (A B out : List Int) (k : Bool) (x : Int) : aW au 0 ja (uf f b1 b2 A B out (jk k x)) = aW au 0 ja (uf f b1 b2 A B out []) := by
 cases k
 case true => rfl
 unfold ja
 have e : aW au 0 (.aO iJ false [] [0,1,2,7,30]) (uf f b1 b2 A B out (jk false x)) = aW au 0 (.aO iJ false [] [0,1,2,7,30]) (uf f b1 b2 A B out []) := by
  cases A with
  | nil => cases b1 <;> cases b2 <;> (simp only [uf,yE,xv,jk]; simp [iY,iX,iW,iV,iU,iT,iJ,jo,jm,jl,gR,gQ,gP,gO,gN,gM,gh,cV,af])
  | cons a r =>
    have h0 : (0 : Int) < (r.length : Int) + 1 := by omega
    cases b1 <;> cases b2 <;> (simp only [uf,yE,xv,jk]; simp [iY,iX,iW,iV,iU,iT,iJ,jo,jm,jl,gR,gQ,gP,gO,gN,gM,gh,cV,af,h0])
 rw [cQ,cQ,e,<- cQ,<- cQ]
/- nodeset.merged: rounds of its loop. -/
theorem ais (f : Nat) (keep : Bool -> Bool -> Bool) (hk : vM f keep) (x : Int) (r : List Int) (out : List Int) (hL : out.length + 1 <= 4294967296) (b1 b2 : Bool) : aW au 0 ja (uf f b1 b2 (x :: r) [] out []) = some (.normal,uf f false b2 r [] (out ++ o8 (keep true false) x []) (jk (keep true false) x)) := by
 obtain ⟨⟨q,hf⟩,hc⟩ := hk;have h0 : (0 : Int) < (r.length : Int) + 1 := by omega
 have h1 : ¬ ((r.length : Int) + 1 = 0) := by omega
 have h2 : (1 : Int) <= (r.length : Int) + 1 := by omega
 have h3 : 1 + r.length <= r.length + 1 := by omega
 have sK := hc true false
 cases hkv : keep true false <;> rw [hkv] at sK <;> cases b1 <;> cases b2 <;>
  (simp only [uf,yE,xv,jk,o8,bn,if_true,if_false,dF]
   unfold ja;simp [iY,iX,iW,iV,iU,iT,iJ,jo,jm,jl,gR,gQ,gP,gO,gN,gM,gh,cV,jD,af,h0,h1,h2,h3,hf,sK,idx,lj,hL,bY,fo,eB,kF,cS,kD,nh])
/- nodeset.merged: rounds of its loop. -/
theorem air (f : Nat) (keep : Bool -> Bool -> Bool) (hk : vM f keep) (y : Int) (s : List Int) (out : List Int) (hL : out.length + 1 <= 4294967296) (b1 b2 : Bool) : aW au 0 ja (uf f b1 b2 [] (y :: s) out []) = some (.normal,uf f b1 false [] s (out ++ o8 (keep false true) y []) (jk (keep false true) y)) := by
 obtain ⟨⟨q,hf⟩,hc⟩ := hk;have k0 : (0 : Int) < (s.length : Int) + 1 := by omega
 have k1 : ¬ ((s.length : Int) + 1 = 0) := by omega
 have k2 : (1 : Int) <= (s.length : Int) + 1 := by omega
 have k3 : 1 + s.length <= s.length + 1 := by omega
 have sK := hc false true
 cases hkv : keep false true <;> rw [hkv] at sK <;> cases b1 <;> cases b2 <;>
  (simp only [uf,yE,xv,jk,o8,bn,if_true,if_false,dF]
   unfold ja;simp [iY,iX,iW,iV,iU,iT,iJ,jo,jm,jl,gR,gQ,gP,gO,gN,gM,gh,cV,jD,af,k0,k1,k2,k3,hf,sK,idx,lj,hL,bY,fo,eB,kF,cS,kD,nh])
/- nodeset.merged: rounds of its loop. -/
theorem agu (f : Nat) (keep : Bool -> Bool -> Bool) (hk : vM f keep) (x y : Int) (r s : List Int) (hxy : x < y) (out : List Int) (hL : out.length + 1 <= 4294967296) (b1 b2 : Bool) : aW au 0 ja (uf f b1 b2 (x :: r) (y :: s) out []) = some (.normal,uf f false b2 r (y :: s) (out ++ o8 (keep true false) x []) (jk (keep true false) x)) := by
 obtain ⟨⟨q,hf⟩,hc⟩ := hk;have h0 : (0 : Int) < (r.length : Int) + 1 := by omega
 have h1 : ¬ ((r.length : Int) + 1 = 0) := by omega
 have h2 : (1 : Int) <= (r.length : Int) + 1 := by omega
 have h3 : 1 + r.length <= r.length + 1 := by omega
 have k0 : (0 : Int) < (s.length : Int) + 1 := by omega
 have k1 : ¬ ((s.length : Int) + 1 = 0) := by omega
 have k2 : (1 : Int) <= (s.length : Int) + 1 := by omega
 have k3 : 1 + s.length <= s.length + 1 := by omega
 have c1 : x <= y := by omega
 have c2 : ¬ y <= x := by omega
 have sK := hc true false
 cases hkv : keep true false <;> rw [hkv] at sK <;> cases b1 <;> cases b2 <;>
  (simp only [uf,yE,xv,jk,o8,bn,if_true,if_false,dF]
   unfold ja;simp [iY,iX,iW,iV,iU,iT,iJ,jo,jm,jl,gR,gQ,gP,gO,gN,gM,gh,cV,jD,af,h0,h1,h2,h3,k0,k1,k2,k3,c1,c2,hf,sK,idx,lj,hL,bY,fo,eB,kF,cS,kD,nh])
/- nodeset.merged: rounds of its loop. -/
theorem agv (f : Nat) (keep : Bool -> Bool -> Bool) (hk : vM f keep) (x y : Int) (r s : List Int) (hxy : y < x) (out : List Int) (hL : out.length + 1 <= 4294967296) (b1 b2 : Bool) : aW au 0 ja (uf f b1 b2 (x :: r) (y :: s) out []) = some (.normal,uf f b1 false (x :: r) s (out ++ o8 (keep false true) y []) (jk (keep false true) y)) := by
 obtain ⟨⟨q,hf⟩,hc⟩ := hk;have h0 : (0 : Int) < (r.length : Int) + 1 := by omega
 have h1 : ¬ ((r.length : Int) + 1 = 0) := by omega
 have h2 : (1 : Int) <= (r.length : Int) + 1 := by omega
 have h3 : 1 + r.length <= r.length + 1 := by omega
 have k0 : (0 : Int) < (s.length : Int) + 1 := by omega
 have k1 : ¬ ((s.length : Int) + 1 = 0) := by omega
 have k2 : (1 : Int) <= (s.length : Int) + 1 := by omega
 have k3 : 1 + s.length <= s.length + 1 := by omega
 have c1 : y <= x := by omega
 have c2 : ¬ x <= y := by omega
 have sK := hc false true
 cases hkv : keep false true <;> rw [hkv] at sK <;> cases b1 <;> cases b2 <;>
  (simp only [uf,yE,xv,jk,o8,bn,if_true,if_false,dF]
   unfold ja;simp [iY,iX,iW,iV,iU,iT,iJ,jo,jm,jl,gR,gQ,gP,gO,gN,gM,gh,cV,jD,af,h0,h1,h2,h3,k0,k1,k2,k3,c1,c2,hf,sK,idx,lj,hL,bY,fo,eB,kF,cS,kD,nh])
/- nodeset.merged: rounds of its loop. -/
theorem agw (f : Nat) (keep : Bool -> Bool -> Bool) (hk : vM f keep) (x : Int) (r s : List Int) (out : List Int) (hL : out.length + 1 <= 4294967296) (b1 b2 : Bool) : aW au 0 ja (uf f b1 b2 (x :: r) (x :: s) out []) = some (.normal,uf f false false r s (out ++ o8 (keep true true) x []) (jk (keep true true) x)) := by
 obtain ⟨⟨q,hf⟩,hc⟩ := hk;have h0 : (0 : Int) < (r.length : Int) + 1 := by omega
 have h1 : ¬ ((r.length : Int) + 1 = 0) := by omega
 have h2 : (1 : Int) <= (r.length : Int) + 1 := by omega
 have h3 : 1 + r.length <= r.length + 1 := by omega
 have k0 : (0 : Int) < (s.length : Int) + 1 := by omega
 have k1 : ¬ ((s.length : Int) + 1 = 0) := by omega
 have k2 : (1 : Int) <= (s.length : Int) + 1 := by omega
 have k3 : 1 + s.length <= s.length + 1 := by omega
 have sK := hc true true
 cases hkv : keep true true <;> rw [hkv] at sK <;> cases b1 <;> cases b2 <;>
  (simp only [uf,yE,xv,jk,o8,bn,if_true,if_false,dF]
   unfold ja;simp [iY,iX,iW,iV,iU,iT,iJ,jo,jm,jl,gR,gQ,gP,gO,gN,gM,gh,cV,jD,af,h0,h1,h2,h3,k0,k1,k2,k3,hf,sK,idx,lj,hL,bY,fo,eB,kF,cS,kD,nh])
/- nodeset.merged as a whole; Union, Meet, Minus, Of, Within. -/
theorem iE (l : List Int) : fU (ints l) = true := by
 induction l with
 | nil => rfl
 | cons x r ih => simp only [ints,List.map_cons,fU,clean] at ih ⊢; rw [ih]; rfl
theorem uX (c : Bool) (x : Int) (m : List Int) : o8 c x m = o8 c x [] ++ m := by cases c <;> rfl
theorem YR (f : Nat) (keep : Bool -> Bool -> Bool) (hk : vM f keep) (A B : List Int) : ∀ (b1 b2 : Bool) (out : List Int),out.length + A.length + B.length <= 4294967296 -> ∃ b1' b2',aW au 0 (.loop ja) (uf f b1 b2 A B out []) = some (.exit 0,⟨[(0,sq b1' []),(1,sq b2' []),(2,.func (.func f) [] []),(7,.own 1 (ints (out ++ ug keep A B))),(30,.bool false)],[]⟩) := by
 have go : ∀ {k : Bool} {x : Int} {b1 b2 : Bool} {A B out : List Int},aW au 0 (.loop ja) (uf f b1 b2 A B out (jk k x)) = aW au 0 (.loop ja) (uf f b1 b2 A B out []) := by
  intro k x b1 b2 A B out;rw [qj,qj,aiq]
 have pl : ∀ (c : Bool) (x : Int) (o : List Int),(o ++ o8 c x []).length <= o.length + 1 := by
  intro c x o; cases c <;> simp [o8]
 induction A,B using ug.induct with
 | case1 => intro b1 b2 out h; exact ⟨b1,b2,by rw [ug,dF]; exact abz f b1 b2 out⟩
 | case2 x r ih =>
   intro b1 b2 out h;simp only [cj,fP] at h;have := pl (keep true false) x out;obtain ⟨c1,c2,e⟩ := ih false b2 (out ++ o8 (keep true false) x []) (by simp only [fP]; omega);refine ⟨c1,c2,?_⟩;rw [aY (ais f keep hk x r out (by omega) b1 b2),go,e,ug,uX (keep true false) x (ug keep r []),dj]
 | case3 y s ih =>
   intro b1 b2 out h;simp only [cj,fP] at h;have := pl (keep false true) y out;obtain ⟨c1,c2,e⟩ := ih b1 false (out ++ o8 (keep false true) y []) (by simp only [fP]; omega);refine ⟨c1,c2,?_⟩;rw [aY (air f keep hk y s out (by omega) b1 b2),go,e,ug,uX (keep false true) y (ug keep [] s),dj]
 | case4 x r y s bL ih =>
   intro b1 b2 out h;simp only [cj] at h;have := pl (keep true false) x out;obtain ⟨c1,c2,e⟩ := ih false b2 (out ++ o8 (keep true false) x []) (by simp only [cj]; omega);refine ⟨c1,c2,?_⟩;rw [aY (agu f keep hk x y r s bL out (by omega) b1 b2),go,e,ug,if_pos bL,uX (keep true false) x (ug keep r (y :: s)),dj]
 | case5 x r y s hn bL ih =>
   intro b1 b2 out h;simp only [cj] at h;have := pl (keep false true) y out;obtain ⟨c1,c2,e⟩ := ih b1 false (out ++ o8 (keep false true) y []) (by simp only [cj]; omega);refine ⟨c1,c2,?_⟩;rw [aY (agv f keep hk x y r s bL out (by omega) b1 b2),go,e,ug,if_neg hn,if_pos bL,uX (keep false true) y (ug keep (x :: r) s),dj]
 | case6 x r y s hn hn2 ih =>
   obtain rfl : x = y := by omega
   intro b1 b2 out h;simp only [cj] at h;have := pl (keep true true) x out;obtain ⟨c1,c2,e⟩ := ih false false (out ++ o8 (keep true true) x []) (by omega);refine ⟨c1,c2,?_⟩;rw [aY (agw f keep hk x r s out (by omega) b1 b2),go,e,ug,if_neg hn,if_neg hn2,uX (keep true true) x (ug keep r s),dj]
theorem kc : br au Hu [.list 1 []] [] = some (.list 1 [],[]) := Wz (by simp [KN,oQb8,Wg])
theorem s7 (x : Int) (r : List Int) (hl : r.length + 1 <= 4294967296) : br au Hu [.list 1 (ints (x :: r))] [] = some (.own 1 (ints (x :: r)),[]) := by
 rw [WA (by simp [KN,oQb8,Wg,jD]) Hm (aD rfl)];unfold qQb8 cQb8;simp [XT,XS,XR,XQ,jD,af,hl,lj,bu,bq,G3,YY,Xl,Xk,bY,List.take_take,Nat.min_self,dW,AV.cells,AV.leaf]
theorem pH (l : List Int) (h : l.length <= 4294967296) : Pn 1 (ints l) [] = some (ints (gY l),none) := by
 have e : jr (ints l) = some l := k8 l;unfold Pn;simp only [af,lj,h,if_true,e];rfl
theorem sk (l : List Int) (h : l.length <= 4294967296) : QJ 1 (ints l) [] = some (ints (dd l ++ List.replicate (l.length - (dd l).length) 0),some (dd l).length) := by
 have e : jr (ints l) = some l := k8 l;unfold QJ;simp only [af,lj,h,if_true,e];rfl
theorem lz : Pn 1 [] [] = some ([],none) := pH [] (by simp)
theorem lV : QJ 1 [] [] = some ([],some 0) := sk [] (by simp)
def ua : C := .seq (.aO iY false [] [0,1,2]) (.seq (.aO iX false [] [0,1,2]) (.seq (.aO iW false [] [0,1,2]) (.seq (.aO iV false [] [0,1,2]) (.seq (.aO iU false [] [0,1,2]) (.aO iT false [] [0,1,2,7])))))
theorem YQ (f : Nat) : aW au 0 ua ⟨[(0,.list 1 (ints [])),(1,.list 1 (ints [])),(2,.func (.func f) [] [])],[]⟩ = some (.normal,uf f false false [] [] [] []) := by
 unfold ua;simp only [uf,xv,cV];simp [iY,iX,iW,iV,iU,iT,iJ,jo,jm,jl,gR,gQ,gP,gO,gN,gM,gh,kc,lz,lV,Hm,Lj,K7,Li,K6,Lh,K5]
theorem YP (f : Nat) (y : Int) (s : List Int) (hl : s.length + 1 <= 4294967296) : aW au 0 ua ⟨[(0,.list 1 (ints [])),(1,.list 1 (ints (y :: s))),(2,.func (.func f) [] [])],[]⟩ = some (.normal,uf f false true [] (bZ (y :: s)) [] []) := by
 have hc := s7 y s hl;have Jg : (y :: s).length <= 4294967296 := by simpa using hl
 have h1 := pH (y :: s) Jg;have e2 : (gY (y :: s)).length = (y :: s).length := j9 _;have h2 := sk (gY (y :: s)) (by omega);have e3 : dd (gY (y :: s)) = bZ (y :: s) := rfl;have e4 := iu (y :: s);rw [e2,e3] at h2;generalize y :: s = b at *;by_cases hm : b.length <= (bZ b).length
 ·have hm2 : b.length - (bZ b).length = 0 := by omega
  have hm3 : (bZ b).length = b.length := by omega
  unfold ua;simp only [uf,xv,yE,cV];simp [iY,iX,iW,iV,iU,iT,iJ,jo,jm,jl,gR,gQ,gP,gO,gN,gM,gh,kc,lz,lV,hc,h1,h2,e2,e4,hm,hm2,hm3,Hm,Lj,K7,Li,K6,Lh,K5,af,bY,dW,bN,bW,bU,fo,iE,dp,aT]
 ·unfold ua;have e5 : (bZ b).length + (b.length - (bZ b).length) = b.length := by omega
  simp only [uf,xv,yE,cV];simp [iY,iX,iW,iV,iU,iT,iJ,jo,jm,jl,gR,gQ,gP,gO,gN,gM,gh,kc,lz,lV,hc,h1,h2,e2,e4,e5,hm,Hm,Lj,K7,Li,K6,Lh,K5,af,bY,dW,bN,bW,bU,fo,iE,dp,aT]
theorem YO (f : Nat) (y : Int) (s : List Int) (hl : s.length + 1 <= 4294967296) : aW au 0 ua ⟨[(0,.list 1 (ints (y :: s))),(1,.list 1 (ints [])),(2,.func (.func f) [] [])],[]⟩ = some (.normal,uf f true false (bZ (y :: s)) [] [] []) := by
 have hc := s7 y s hl;have Jg : (y :: s).length <= 4294967296 := by simpa using hl
 have h1 := pH (y :: s) Jg;have e2 : (gY (y :: s)).length = (y :: s).length := j9 _;have h2 := sk (gY (y :: s)) (by omega);have e3 : dd (gY (y :: s)) = bZ (y :: s) := rfl;have e4 := iu (y :: s);rw [e2,e3] at h2;generalize y :: s = b at *;by_cases hm : b.length <= (bZ b).length
 ·have hm2 : b.length - (bZ b).length = 0 := by omega
  have hm3 : (bZ b).length = b.length := by omega
  unfold ua;simp only [uf,xv,yE,cV];simp [iY,iX,iW,iV,iU,iT,iJ,jo,jm,jl,gR,gQ,gP,gO,gN,gM,gh,kc,lz,lV,hc,h1,h2,e2,e4,hm,hm2,hm3,Hm,Lj,K7,Li,K6,Lh,K5,af,bY,dW,bN,bW,bU,fo,iE,dp,aT]
 ·unfold ua;have e5 : (bZ b).length + (b.length - (bZ b).length) = b.length := by omega
  simp only [uf,xv,yE,cV];simp [iY,iX,iW,iV,iU,iT,iJ,jo,jm,jl,gR,gQ,gP,gO,gN,gM,gh,kc,lz,lV,hc,h1,h2,e2,e4,e5,hm,Hm,Lj,K7,Li,K6,Lh,K5,af,bY,dW,bN,bW,bU,fo,iE,dp,aT]
theorem YN (f : Nat) (x y : Int) (r s : List Int) (hl : r.length + 1 <= 4294967296) (kl : s.length + 1 <= 4294967296) : aW au 0 ua ⟨[(0,.list 1 (ints (x :: r))),(1,.list 1 (ints (y :: s))),(2,.func (.func f) [] [])],[]⟩ = some (.normal,uf f true true (bZ (x :: r)) (bZ (y :: s)) [] []) := by
 have Cb := s7 x r hl;have hla' : (x :: r).length <= 4294967296 := by simpa using hl
 have h1a := pH (x :: r) hla';have e2a : (gY (x :: r)).length = (x :: r).length := j9 _;have h2a := sk (gY (x :: r)) (by omega);have e3a : dd (gY (x :: r)) = bZ (x :: r) := rfl;have e4a := iu (x :: r);rw [e2a,e3a] at h2a;have hcb := s7 y s kl;have hlb' : (y :: s).length <= 4294967296 := by simpa using kl
 have h1b := pH (y :: s) hlb';have e2b : (gY (y :: s)).length = (y :: s).length := j9 _;have h2b := sk (gY (y :: s)) (by omega);have e3b : dd (gY (y :: s)) = bZ (y :: s) := rfl;have e4b := iu (y :: s);rw [e2b,e3b] at h2b;generalize x :: r = a at *;generalize y :: s = b at *;unfold ua;simp only [uf,xv,yE,cV];by_cases hma : a.length <= (bZ a).length
 ·have hma2 : a.length - (bZ a).length = 0 := by omega
  have hma3 : (bZ a).length = a.length := by omega
  by_cases hmb : b.length <= (bZ b).length
  ·have hmb2 : b.length - (bZ b).length = 0 := by omega
   have hmb3 : (bZ b).length = b.length := by omega
   simp [iY,iX,iW,iV,iU,iT,iJ,jo,jm,jl,gR,gQ,gP,gO,gN,gM,gh,kc,lz,lV,Cb,h1a,h2a,e2a,e4a,hma,hma2,hma3,hcb,h1b,h2b,e2b,e4b,hmb,hmb2,hmb3,Hm,Lj,K7,Li,K6,Lh,K5,af,bY,dW,bN,bW,bU,fo,iE,dp,aT]
  ·have e5b : (bZ b).length + (b.length - (bZ b).length) = b.length := by omega
   simp [iY,iX,iW,iV,iU,iT,iJ,jo,jm,jl,gR,gQ,gP,gO,gN,gM,gh,kc,lz,lV,Cb,h1a,h2a,e2a,e4a,hma,hma2,hma3,hcb,h1b,h2b,e2b,e4b,hmb,e5b,Hm,Lj,K7,Li,K6,Lh,K5,af,bY,dW,bN,bW,bU,fo,iE,dp,aT]
 ·have e5a : (bZ a).length + (a.length - (bZ a).length) = a.length := by omega
  by_cases hmb : b.length <= (bZ b).length
  ·have hmb2 : b.length - (bZ b).length = 0 := by omega
   have hmb3 : (bZ b).length = b.length := by omega
   simp [iY,iX,iW,iV,iU,iT,iJ,jo,jm,jl,gR,gQ,gP,gO,gN,gM,gh,kc,lz,lV,Cb,h1a,h2a,e2a,e4a,hma,e5a,hcb,h1b,h2b,e2b,e4b,hmb,hmb2,hmb3,Hm,Lj,K7,Li,K6,Lh,K5,af,bY,dW,bN,bW,bU,fo,iE,dp,aT]
  ·have e5b : (bZ b).length + (b.length - (bZ b).length) = b.length := by omega
   simp [iY,iX,iW,iV,iU,iT,iJ,jo,jm,jl,gR,gQ,gP,gO,gN,gM,gh,kc,lz,lV,Cb,h1a,h2a,e2a,e4a,hma,e5a,hcb,h1b,h2b,e2b,e4b,hmb,e5b,Hm,Lj,K7,Li,K6,Lh,K5,af,bY,dW,bN,bW,bU,fo,iE,dp,aT]
theorem aby (f : Nat) (a b : List Int) (ha : a.length <= 4294967296) (hb : b.length <= 4294967296) : ∃ b1 b2,aW au 0 ua ⟨[(0,.list 1 (ints a)),(1,.list 1 (ints b)),(2,.func (.func f) [] [])],[]⟩ = some (.normal,uf f b1 b2 (bZ a) (bZ b) [] []) := by
 cases a with
 | nil => cases b with
   | nil => exact ⟨_,_,YQ f⟩
   | cons y s => exact ⟨_,_,YP f y s (by simpa using hb)⟩
 | cons x r => cases b with
   | nil => exact ⟨_,_,YO f x r (by simpa using ha)⟩
   | cons y s => exact ⟨_,_,YN f x y r s (by simpa using ha) (by simpa using hb)⟩
theorem seq_assoc {c : eE} {b : Nat} {x y z : C} {s : St} : aW c b (.seq (.seq x y) z) s = aW c b (.seq x (.seq y z)) s := by
 rw [cQ,cQ,cQ];cases e : aW c b x s with
 | none => rfl
 | some w =>
   obtain ⟨ex,s'⟩ := w;cases ex with
   | normal => rw [e9,e9,cQ]
   | exit i => rfl
   | ret => rfl
theorem rD {c : eE} {b : Nat} {x y z : C} (h : ∀ s,aW c b y s = aW c b z s) (s : St) : aW c b (.seq x y) s = aW c b (.seq x z) s := by
 rw [cQ,cQ];cases e : aW c b x s with
 | none => rfl
 | some w =>
   obtain ⟨ex,s'⟩ := w;cases ex with
   | normal => rw [e9,e9,h]
   | exit i => rfl
   | ret => rfl
theorem P9 (f : Nat) (keep : Bool -> Bool -> Bool) (hk : vM f keep) (a b : List Int) (hl : a.length + b.length <= 4294967296) : br au P3 [.list 1 (ints a),.list 1 (ints b),.func (.func f) [] []] [] = some (.list 1 (ints (ug keep (bZ a) (bZ b))),[]) := by
 rw [aV oQa4 sQa4 (aD rfl)];obtain ⟨b1,b2,h⟩ := aby f a b (by omega) (by omega);have la := iu a;have lb := iu b;obtain ⟨c1,c2,h'⟩ := YR f keep hk (bZ a) (bZ b) b1 b2 [] (by simp only [fP]; omega)
 have e : aW au ([] : Heap).length X4.body ⟨ep 0 [.list 1 (ints a),.list 1 (ints b),.func (.func f) [] []],[]⟩ = aW au 0 (.seq ua (.seq (.aN 0 (.loop ja)) (.seq (.aO gh false [] [6]) .ret))) ⟨[(0,.list 1 (ints a)),(1,.list 1 (ints b)),(2,.func (.func f) [] [])],[]⟩ := by
  exact (rD (fun s => (rD (fun s => (rD (fun s => (rD (fun s => (rD (fun s => rfl) s).trans seq_assoc.symm) s).trans seq_assoc.symm) s).trans seq_assoc.symm) s).trans seq_assoc.symm) _).trans seq_assoc.symm
 rw [e,cQ,h,e9,cQ,sr,h',GQ,if_pos rfl,e9,List.nil_append];cases c1 <;> cases c2 <;> (simp only [yE,xv]; simp [iY,iX,iW,iV,iU,iT,iJ,jo,jm,jl,gR,gQ,gP,gO,gN,gM,gh,X4,cV,af,bY,bu,bq])
theorem YA (a b : List Int) (hl : a.length + b.length <= 4294967296) : br au nQX [.list 1 (ints a),.list 1 (ints b)] [] = some (.list 1 (ints (uni a b)),[]) := by
 rw [aV oQX sQX (aD rfl)];have h := P9 VR (fun _ _ => true) Vo a b hl;have e : ug (fun _ _ => true) (bZ a) (bZ b) = uni a b := rfl;rw [e] at h;unfold qQX cQX;simp [adI,adH,h,sQa4,iQa4,lQa4,af,bu,bq]
theorem TF (a : List Int) (hl : a.length <= 4294967296) : br au nQx [.list 1 (ints a)] [] = some (.list 1 (ints (bZ a)),[]) := by
 rw [aV oQx sQx (aD rfl)];have h := YA a [] (by simpa using hl);have e : uni a [] = bZ a := qW (L9 _ _).1 (dC _).1 fun x => by rw [(L9 _ _).2,(dC _).2]; simp
 rw [e,cV] at h;unfold qQx cQx;simp [adb,ada,h,sQX,iQX,lQX,af,bu,bq]
end Go.BmP
