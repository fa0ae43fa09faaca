/- nodeset.merged: its loop and its answer. -/
import Derived.Test.YteomjfokokneoaaDoorUseM
import Derived.Test.YteomjfokokneoaaDoorR02d
set_option linter.unusedSimpArgs false
set_option linter.unusedVariables false
set_option maxRecDepth 100000
set_option maxHeartbeats 4000000
open Bool renaming false_eq_true → aX
open List renaming append_assoc → du, append_nil → iv, drop_length → bz, drop_succ_cons → gn, drop_zero → bX, length_append → bu, length_cons → c8, length_nil → dP, length_replicate → dM, take_append_of_le_length → cV, take_length → dw, take_succ_cons → iN, take_zero → kn
open Nat renaming le_of_ble_eq_true → an, le_refl → aS
namespace Go.BmP
open Go.Am Go.Bm
def sq (b : Bool) (l : List Int) : AV := if b then .own 1 (ints l) else .list 1 (ints l)
theorem yn (l : List Int) : sq true l = .own 1 (ints l) := rfl
theorem xc (l : List Int) : sq false l = .list 1 (ints l) := rfl
def vm (f : Nat) (keep : Bool -> Bool -> Bool) : Prop := (∃ q,aA.fn f = some (⟨false,false,true⟩,q)) /\ ∀ p r,bk aA f [.bool p,.bool r] [] = some (.bool (keep p r),[])
theorem Uq : vm Ul (fun _ r => !r) := by
 refine ⟨⟨_,sJa7⟩,fun p r => ?_⟩;rw [aM oJa7 sJa7 (an rfl)];unfold ZX cJa7;simp [Wm,Wl,aP,aK]
def jk : Bool -> Int -> Env
 | true,_ => []
 | false,x => [(10,.int .i64 x),(80,.bool false)]
def tQ (f : Nat) (b1 b2 : Bool) (A B out : List Int) (J : Env) : St := ⟨(0,sq b1 A) :: (1,sq b2 B) :: (2,.func (.func f) [] []) :: (7,.own 1 (ints out)) :: J,[]⟩
theorem aas (f : Nat) (b1 b2 : Bool) (out : List Int) : aU aA 0 (.loop iq) (tQ f b1 b2 [] [] out []) = some (.exit 0,⟨[(0,sq b1 []),(1,sq b2 []),(2,.func (.func f) [] []),(7,.own 1 (ints out)),(30,.bool false)],[]⟩) := by
 cases b1 <;> cases b2 <;> (simp only [tQ,yn,xc]; exact bC (by unfold iq; simp [il,ik,ij,ig,ib,ia,gT,iI,iH,iF,fU,fT,fS,fR,fQ,fP,fJ,cD]))
theorem aeG (f : Nat) (b1 b2 : Bool) (A B out : List Int) (k : Bool) (x : Int) : aU aA 0 iq (tQ f b1 b2 A B out (jk k x)) = aU aA 0 iq (tQ f b1 b2 A B out []) := by
 cases k
 case true => rfl
 unfold iq
 have e : aU aA 0 (.aO gT false [] [0,1,2,7,30]) (tQ f b1 b2 A B out (jk false x)) = aU aA 0 (.aO gT false [] [0,1,2,7,30]) (tQ f b1 b2 A B out []) := by
  cases A with
  | nil => cases b1 <;> cases b2 <;> (simp only [tQ,yn,xc,jk]; simp [il,ik,ij,ig,ib,ia,gT,iI,iH,iF,fU,fT,fS,fR,fQ,fP,fJ,cD,aa])
  | cons a r =>
    have h0 : (0 : Int) < (r.length : Int) + 1 := by omega
    cases b1 <;> cases b2 <;> (simp only [tQ,yn,xc,jk]; simp [il,ik,ij,ig,ib,ia,gT,iI,iH,iF,fU,fT,fS,fR,fQ,fP,fJ,cD,aa,h0])
 rw [bp,bp,e,<- bp,<- bp]
/- nodeset.merged: rounds of its loop. -/
theorem aeI (f : Nat) (keep : Bool -> Bool -> Bool) (hk : vm f keep) (x : Int) (r : List Int) (out : List Int) (hL : out.length + 1 <= 4294967296) (b1 b2 : Bool) : aU aA 0 iq (tQ f b1 b2 (x :: r) [] out []) = some (.normal,tQ f false b2 r [] (out ++ ob (keep true false) x []) (jk (keep true false) x)) := by
 obtain ⟨⟨q,hf⟩,hc⟩ := hk;have h0 : (0 : Int) < (r.length : Int) + 1 := by omega
 have h1 : ¬ ((r.length : Int) + 1 = 0) := by omega
 have h2 : (1 : Int) <= (r.length : Int) + 1 := by omega
 have h3 : 1 + r.length <= r.length + 1 := by omega
 have sx := hc true false
 cases hkv : keep true false <;> rw [hkv] at sx <;> cases b1 <;> cases b2 <;>
  (simp only [tQ,yn,xc,jk,ob,aX,if_true,if_false,iv]
   unfold iq;simp [il,ik,ij,ig,ib,ia,gT,iI,iH,iF,fU,fT,fS,fR,fQ,fP,fJ,cD,kv,aa,h0,h1,h2,h3,hf,sx,idx,lz,hL,bR,fy,ez,gn,bX,iN,kn])
/- nodeset.merged: rounds of its loop. -/
theorem aeH (f : Nat) (keep : Bool -> Bool -> Bool) (hk : vm f keep) (y : Int) (s : List Int) (out : List Int) (hL : out.length + 1 <= 4294967296) (b1 b2 : Bool) : aU aA 0 iq (tQ f b1 b2 [] (y :: s) out []) = some (.normal,tQ f b1 false [] s (out ++ ob (keep false true) y []) (jk (keep false true) y)) := by
 obtain ⟨⟨q,hf⟩,hc⟩ := hk;have k0 : (0 : Int) < (s.length : Int) + 1 := by omega
 have k1 : ¬ ((s.length : Int) + 1 = 0) := by omega
 have k2 : (1 : Int) <= (s.length : Int) + 1 := by omega
 have k3 : 1 + s.length <= s.length + 1 := by omega
 have sx := hc false true
 cases hkv : keep false true <;> rw [hkv] at sx <;> cases b1 <;> cases b2 <;>
  (simp only [tQ,yn,xc,jk,ob,aX,if_true,if_false,iv]
   unfold iq;simp [il,ik,ij,ig,ib,ia,gT,iI,iH,iF,fU,fT,fS,fR,fQ,fP,fJ,cD,kv,aa,k0,k1,k2,k3,hf,sx,idx,lz,hL,bR,fy,ez,gn,bX,iN,kn])
/- nodeset.merged: rounds of its loop. -/
theorem adG (f : Nat) (keep : Bool -> Bool -> Bool) (hk : vm f keep) (x y : Int) (r s : List Int) (hxy : x < y) (out : List Int) (hL : out.length + 1 <= 4294967296) (b1 b2 : Bool) : aU aA 0 iq (tQ f b1 b2 (x :: r) (y :: s) out []) = some (.normal,tQ f false b2 r (y :: s) (out ++ ob (keep true false) x []) (jk (keep true false) x)) := by
 obtain ⟨⟨q,hf⟩,hc⟩ := hk;have h0 : (0 : Int) < (r.length : Int) + 1 := by omega
 have h1 : ¬ ((r.length : Int) + 1 = 0) := by omega
 have h2 : (1 : Int) <= (r.length : Int) + 1 := by omega
 have h3 : 1 + r.length <= r.length + 1 := by omega
 have k0 : (0 : Int) < (s.length : Int) + 1 := by omega
 have k1 : ¬ ((s.length : Int) + 1 = 0) := by omega
 have k2 : (1 : Int) <= (s.length : Int) + 1 := by omega
 have k3 : 1 + s.length <= s.length + 1 := by omega
 have c1 : x <= y := by omega
 have c2 : ¬ y <= x := by omega
 have sx := hc true false
 cases hkv : keep true false <;> rw [hkv] at sx <;> cases b1 <;> cases b2 <;>
  (simp only [tQ,yn,xc,jk,ob,aX,if_true,if_false,iv]
   unfold iq;simp [il,ik,ij,ig,ib,ia,gT,iI,iH,iF,fU,fT,fS,fR,fQ,fP,fJ,cD,kv,aa,h0,h1,h2,h3,k0,k1,k2,k3,c1,c2,hf,sx,idx,lz,hL,bR,fy,ez,gn,bX,iN,kn])
/- nodeset.merged: rounds of its loop. -/
theorem adH (f : Nat) (keep : Bool -> Bool -> Bool) (hk : vm f keep) (x y : Int) (r s : List Int) (hxy : y < x) (out : List Int) (hL : out.length + 1 <= 4294967296) (b1 b2 : Bool) : aU aA 0 iq (tQ f b1 b2 (x :: r) (y :: s) out []) = some (.normal,tQ f b1 false (x :: r) s (out ++ ob (keep false true) y []) (jk (keep false true) y)) := by
 obtain ⟨⟨q,hf⟩,hc⟩ := hk;have h0 : (0 : Int) < (r.length : Int) + 1 := by omega
 have h1 : ¬ ((r.length : Int) + 1 = 0) := by omega
 have h2 : (1 : Int) <= (r.length : Int) + 1 := by omega
 have h3 : 1 + r.length <= r.length + 1 := by omega
 have k0 : (0 : Int) < (s.length : Int) + 1 := by omega
 have k1 : ¬ ((s.length : Int) + 1 = 0) := by omega
 have k2 : (1 : Int) <= (s.length : Int) + 1 := by omega
 have k3 : 1 + s.length <= s.length + 1 := by omega
 have c1 : y <= x := by omega
 have c2 : ¬ x <= y := by omega
 have sx := hc false true
 cases hkv : keep false true <;> rw [hkv] at sx <;> cases b1 <;> cases b2 <;>
  (simp only [tQ,yn,xc,jk,ob,aX,if_true,if_false,iv]
   unfold iq;simp [il,ik,ij,ig,ib,ia,gT,iI,iH,iF,fU,fT,fS,fR,fQ,fP,fJ,cD,kv,aa,h0,h1,h2,h3,k0,k1,k2,k3,c1,c2,hf,sx,idx,lz,hL,bR,fy,ez,gn,bX,iN,kn])
/- nodeset.merged: rounds of its loop. -/
theorem adI (f : Nat) (keep : Bool -> Bool -> Bool) (hk : vm f keep) (x : Int) (r s : List Int) (out : List Int) (hL : out.length + 1 <= 4294967296) (b1 b2 : Bool) : aU aA 0 iq (tQ f b1 b2 (x :: r) (x :: s) out []) = some (.normal,tQ f false false r s (out ++ ob (keep true true) x []) (jk (keep true true) x)) := by
 obtain ⟨⟨q,hf⟩,hc⟩ := hk;have h0 : (0 : Int) < (r.length : Int) + 1 := by omega
 have h1 : ¬ ((r.length : Int) + 1 = 0) := by omega
 have h2 : (1 : Int) <= (r.length : Int) + 1 := by omega
 have h3 : 1 + r.length <= r.length + 1 := by omega
 have k0 : (0 : Int) < (s.length : Int) + 1 := by omega
 have k1 : ¬ ((s.length : Int) + 1 = 0) := by omega
 have k2 : (1 : Int) <= (s.length : Int) + 1 := by omega
 have k3 : 1 + s.length <= s.length + 1 := by omega
 have sx := hc true true
 cases hkv : keep true true <;> rw [hkv] at sx <;> cases b1 <;> cases b2 <;>
  (simp only [tQ,yn,xc,jk,ob,aX,if_true,if_false,iv]
   unfold iq;simp [il,ik,ij,ig,ib,ia,gT,iI,iH,iF,fU,fT,fS,fR,fQ,fP,fJ,cD,kv,aa,h0,h1,h2,h3,k0,k1,k2,k3,hf,sx,idx,lz,hL,bR,fy,ez,gn,bX,iN,kn])
/- nodeset.merged as a whole; Union, Meet, Minus, Of, Within. -/
theorem gK (l : List Int) : fj (ints l) = true := by
 induction l with
 | nil => rfl
 | cons x r ih => simp only [ints,List.map_cons,fj,clean] at ih ⊢; rw [ih]; rfl
theorem uu (c : Bool) (x : Int) (m : List Int) : ob c x m = ob c x [] ++ m := by cases c <;> rfl
theorem Xh (f : Nat) (keep : Bool -> Bool -> Bool) (hk : vm f keep) (A B : List Int) : ∀ (b1 b2 : Bool) (out : List Int),out.length + A.length + B.length <= 4294967296 -> ∃ b1' b2',aU aA 0 (.loop iq) (tQ f b1 b2 A B out []) = some (.exit 0,⟨[(0,sq b1' []),(1,sq b2' []),(2,.func (.func f) [] []),(7,.own 1 (ints (out ++ tR keep A B))),(30,.bool false)],[]⟩) := by
 have go : ∀ {k : Bool} {x : Int} {b1 b2 : Bool} {A B out : List Int},aU aA 0 (.loop iq) (tQ f b1 b2 A B out (jk k x)) = aU aA 0 (.loop iq) (tQ f b1 b2 A B out []) := by
  intro k x b1 b2 A B out;rw [pz,pz,aeG]
 have pl : ∀ (c : Bool) (x : Int) (o : List Int),(o ++ ob c x []).length <= o.length + 1 := by
  intro c x o; cases c <;> simp [ob]
 induction A,B using tR.induct with
 | case1 => intro b1 b2 out h; exact ⟨b1,b2,by rw [tR,iv]; exact aas f b1 b2 out⟩
 | case2 x r ih =>
   intro b1 b2 out h;simp only [c8,dP] at h;have := pl (keep true false) x out;obtain ⟨c1,c2,e⟩ := ih false b2 (out ++ ob (keep true false) x []) (by simp only [dP]; omega);refine ⟨c1,c2,?_⟩;rw [ba (aeI f keep hk x r out (by omega) b1 b2),go,e,tR,uu (keep true false) x (tR keep r []),du]
 | case3 y s ih =>
   intro b1 b2 out h;simp only [c8,dP] at h;have := pl (keep false true) y out;obtain ⟨c1,c2,e⟩ := ih b1 false (out ++ ob (keep false true) y []) (by simp only [dP]; omega);refine ⟨c1,c2,?_⟩;rw [ba (aeH f keep hk y s out (by omega) b1 b2),go,e,tR,uu (keep false true) y (tR keep [] s),du]
 | case4 x r y s bA ih =>
   intro b1 b2 out h;simp only [c8] at h;have := pl (keep true false) x out;obtain ⟨c1,c2,e⟩ := ih false b2 (out ++ ob (keep true false) x []) (by simp only [c8]; omega);refine ⟨c1,c2,?_⟩;rw [ba (adG f keep hk x y r s bA out (by omega) b1 b2),go,e,tR,if_pos bA,uu (keep true false) x (tR keep r (y :: s)),du]
 | case5 x r y s hn bA ih =>
   intro b1 b2 out h;simp only [c8] at h;have := pl (keep false true) y out;obtain ⟨c1,c2,e⟩ := ih b1 false (out ++ ob (keep false true) y []) (by simp only [c8]; omega);refine ⟨c1,c2,?_⟩;rw [ba (adH f keep hk x y r s bA out (by omega) b1 b2),go,e,tR,if_neg hn,if_pos bA,uu (keep false true) y (tR keep (x :: r) s),du]
 | case6 x r y s hn Zi ih =>
   obtain rfl : x = y := by omega
   intro b1 b2 out h;simp only [c8] at h;have := pl (keep true true) x out;obtain ⟨c1,c2,e⟩ := ih false false (out ++ ob (keep true true) x []) (by omega);refine ⟨c1,c2,?_⟩;rw [ba (adI f keep hk x r s out (by omega) b1 b2),go,e,tR,if_neg hn,if_neg Zi,uu (keep true true) x (tR keep r s),du]
theorem jG : bk aA Cq [.list 1 []] [] = some (.list 1 [],[]) := Vc (by simp [JD,oJa2,UT])
theorem pE (x : Int) (r : List Int) (hl : r.length + 1 <= 4294967296) : bk aA Cq [.list 1 (ints (x :: r))] [] = some (.own 1 (ints (x :: r)),[]) := by
 rw [Vd (by simp [JD,oJa2,UT,kv]) Ay (an rfl)];unfold Z4 cJa2;simp [Wq,Wp,Wo,Wn,kv,aa,hl,lz,aP,aK,Gu,Xl,VN,VM,bR,List.take_take,Nat.min_self,dw,AV.cells,AV.leaf]
theorem qL (l : List Int) (h : l.length <= 4294967296) : OI 1 (ints l) [] = some (ints (jg l),none) := by
 have e : ke (ints l) = some l := qe l;unfold OI;simp only [aa,lz,h,if_true,e];rfl
theorem rW (l : List Int) (h : l.length <= 4294967296) : PX 1 (ints l) [] = some (ints (dd l ++ List.replicate (l.length - (dd l).length) 0),some (dd l).length) := by
 have e : ke (ints l) = some l := qe l;unfold PX;simp only [aa,lz,h,if_true,e];rfl
theorem kJ : OI 1 [] [] = some ([],none) := qL [] (by simp)
theorem kW : PX 1 [] [] = some ([],some 0) := rW [] (by simp)
def tN : C := .seq (.aO il false [] [0,1,2]) (.seq (.aO ik false [] [0,1,2]) (.seq (.aO ij false [] [0,1,2]) (.seq (.aO ig false [] [0,1,2]) (.seq (.aO ib false [] [0,1,2]) (.aO ia false [] [0,1,2,7])))))
theorem Xg (f : Nat) : aU aA 0 tN ⟨[(0,.list 1 (ints [])),(1,.list 1 (ints [])),(2,.func (.func f) [] [])],[]⟩ = some (.normal,tQ f false false [] [] [] []) := by
 unfold tN;simp only [tQ,xc,cD];simp [il,ik,ij,ig,ib,ia,gT,iI,iH,iF,fU,fT,fS,fR,fQ,fP,fJ,jG,kJ,kW,Ay,Cu,Ct,JW,JR,JV,JQ]
theorem Xf (f : Nat) (y : Int) (s : List Int) (hl : s.length + 1 <= 4294967296) : aU aA 0 tN ⟨[(0,.list 1 (ints [])),(1,.list 1 (ints (y :: s))),(2,.func (.func f) [] [])],[]⟩ = some (.normal,tQ f false true [] (cZ (y :: s)) [] []) := by
 have hc := pE y s hl;have UL : (y :: s).length <= 4294967296 := by simpa using hl
 have h1 := qL (y :: s) UL;have e2 : (jg (y :: s)).length = (y :: s).length := jD _;have h2 := rW (jg (y :: s)) (by omega);have e3 : dd (jg (y :: s)) = cZ (y :: s) := rfl;have e4 := kr (y :: s);rw [e2,e3] at h2;generalize y :: s = b at *;by_cases hm : b.length <= (cZ b).length
 ·have Zj : b.length - (cZ b).length = 0 := by omega
  have hm3 : (cZ b).length = b.length := by omega
  unfold tN;simp only [tQ,xc,yn,cD];simp [il,ik,ij,ig,ib,ia,gT,iI,iH,iF,fU,fT,fS,fR,fQ,fP,fJ,jG,kJ,kW,hc,h1,h2,e2,e4,hm,Zj,hm3,Ay,Cu,Ct,JW,JR,JV,JQ,aa,bR,dw,bu,dM,bz,fy,gK,cV,aS]
 ·unfold tN;have e5 : (cZ b).length + (b.length - (cZ b).length) = b.length := by omega
  simp only [tQ,xc,yn,cD];simp [il,ik,ij,ig,ib,ia,gT,iI,iH,iF,fU,fT,fS,fR,fQ,fP,fJ,jG,kJ,kW,hc,h1,h2,e2,e4,e5,hm,Ay,Cu,Ct,JW,JR,JV,JQ,aa,bR,dw,bu,dM,bz,fy,gK,cV,aS]
theorem Xe (f : Nat) (y : Int) (s : List Int) (hl : s.length + 1 <= 4294967296) : aU aA 0 tN ⟨[(0,.list 1 (ints (y :: s))),(1,.list 1 (ints [])),(2,.func (.func f) [] [])],[]⟩ = some (.normal,tQ f true false (cZ (y :: s)) [] [] []) := by
 have hc := pE y s hl;have UL : (y :: s).length <= 4294967296 := by simpa using hl
 have h1 := qL (y :: s) UL;have e2 : (jg (y :: s)).length = (y :: s).length := jD _;have h2 := rW (jg (y :: s)) (by omega);have e3 : dd (jg (y :: s)) = cZ (y :: s) := rfl;have e4 := kr (y :: s);rw [e2,e3] at h2;generalize y :: s = b at *;by_cases hm : b.length <= (cZ b).length
 ·have Zj : b.length - (cZ b).length = 0 := by omega
  have hm3 : (cZ b).length = b.length := by omega
  unfold tN;simp only [tQ,xc,yn,cD];simp [il,ik,ij,ig,ib,ia,gT,iI,iH,iF,fU,fT,fS,fR,fQ,fP,fJ,jG,kJ,kW,hc,h1,h2,e2,e4,hm,Zj,hm3,Ay,Cu,Ct,JW,JR,JV,JQ,aa,bR,dw,bu,dM,bz,fy,gK,cV,aS]
 ·unfold tN;have e5 : (cZ b).length + (b.length - (cZ b).length) = b.length := by omega
  simp only [tQ,xc,yn,cD];simp [il,ik,ij,ig,ib,ia,gT,iI,iH,iF,fU,fT,fS,fR,fQ,fP,fJ,jG,kJ,kW,hc,h1,h2,e2,e4,e5,hm,Ay,Cu,Ct,JW,JR,JV,JQ,aa,bR,dw,bu,dM,bz,fy,gK,cV,aS]
theorem Xd (f : Nat) (x y : Int) (r s : List Int) (hl : r.length + 1 <= 4294967296) (kl : s.length + 1 <= 4294967296) : aU aA 0 tN ⟨[(0,.list 1 (ints (x :: r))),(1,.list 1 (ints (y :: s))),(2,.func (.func f) [] [])],[]⟩ = some (.normal,tQ f true true (cZ (x :: r)) (cZ (y :: s)) [] []) := by
 have B7 := pE x r hl;have hla' : (x :: r).length <= 4294967296 := by simpa using hl
 have h1a := qL (x :: r) hla';have e2a : (jg (x :: r)).length = (x :: r).length := jD _;have h2a := rW (jg (x :: r)) (by omega);have e3a : dd (jg (x :: r)) = cZ (x :: r) := rfl;have e4a := kr (x :: r);rw [e2a,e3a] at h2a;have hcb := pE y s kl;have hlb' : (y :: s).length <= 4294967296 := by simpa using kl
 have h1b := qL (y :: s) hlb';have e2b : (jg (y :: s)).length = (y :: s).length := jD _;have h2b := rW (jg (y :: s)) (by omega);have e3b : dd (jg (y :: s)) = cZ (y :: s) := rfl;have e4b := kr (y :: s);rw [e2b,e3b] at h2b;generalize x :: r = a at *;generalize y :: s = b at *;unfold tN;simp only [tQ,xc,yn,cD];by_cases hma : a.length <= (cZ a).length
 ·have hma2 : a.length - (cZ a).length = 0 := by omega
  have hma3 : (cZ a).length = a.length := by omega
  by_cases hmb : b.length <= (cZ b).length
  ·have hmb2 : b.length - (cZ b).length = 0 := by omega
   have hmb3 : (cZ b).length = b.length := by omega
   simp [il,ik,ij,ig,ib,ia,gT,iI,iH,iF,fU,fT,fS,fR,fQ,fP,fJ,jG,kJ,kW,B7,h1a,h2a,e2a,e4a,hma,hma2,hma3,hcb,h1b,h2b,e2b,e4b,hmb,hmb2,hmb3,Ay,Cu,Ct,JW,JR,JV,JQ,aa,bR,dw,bu,dM,bz,fy,gK,cV,aS]
  ·have e5b : (cZ b).length + (b.length - (cZ b).length) = b.length := by omega
   simp [il,ik,ij,ig,ib,ia,gT,iI,iH,iF,fU,fT,fS,fR,fQ,fP,fJ,jG,kJ,kW,B7,h1a,h2a,e2a,e4a,hma,hma2,hma3,hcb,h1b,h2b,e2b,e4b,hmb,e5b,Ay,Cu,Ct,JW,JR,JV,JQ,aa,bR,dw,bu,dM,bz,fy,gK,cV,aS]
 ·have e5a : (cZ a).length + (a.length - (cZ a).length) = a.length := by omega
  by_cases hmb : b.length <= (cZ b).length
  ·have hmb2 : b.length - (cZ b).length = 0 := by omega
   have hmb3 : (cZ b).length = b.length := by omega
   simp [il,ik,ij,ig,ib,ia,gT,iI,iH,iF,fU,fT,fS,fR,fQ,fP,fJ,jG,kJ,kW,B7,h1a,h2a,e2a,e4a,hma,e5a,hcb,h1b,h2b,e2b,e4b,hmb,hmb2,hmb3,Ay,Cu,Ct,JW,JR,JV,JQ,aa,bR,dw,bu,dM,bz,fy,gK,cV,aS]
  ·have e5b : (cZ b).length + (b.length - (cZ b).length) = b.length := by omega
   simp [il,ik,ij,ig,ib,ia,gT,iI,iH,iF,fU,fT,fS,fR,fQ,fP,fJ,jG,kJ,kW,B7,h1a,h2a,e2a,e4a,hma,e5a,hcb,h1b,h2b,e2b,e4b,hmb,e5b,Ay,Cu,Ct,JW,JR,JV,JQ,aa,bR,dw,bu,dM,bz,fy,gK,cV,aS]
theorem aar (f : Nat) (a b : List Int) (ha : a.length <= 4294967296) (hb : b.length <= 4294967296) : ∃ b1 b2,aU aA 0 tN ⟨[(0,.list 1 (ints a)),(1,.list 1 (ints b)),(2,.func (.func f) [] [])],[]⟩ = some (.normal,tQ f b1 b2 (cZ a) (cZ b) [] []) := by
 cases a with
 | nil => cases b with
   | nil => exact ⟨_,_,Xg f⟩
   | cons y s => exact ⟨_,_,Xf f y s (by simpa using hb)⟩
 | cons x r => cases b with
   | nil => exact ⟨_,_,Xe f x r (by simpa using ha)⟩
   | cons y s => exact ⟨_,_,Xd f x y r s (by simpa using ha) (by simpa using hb)⟩
theorem seq_assoc {c : dN} {b : Nat} {x y z : C} {s : St} : aU c b (.seq (.seq x y) z) s = aU c b (.seq x (.seq y z)) s := by
 rw [bp,bp,bp];cases e : aU c b x s with
 | none => rfl
 | some w =>
   obtain ⟨ex,s'⟩ := w;cases ex with
   | normal => rw [b9,b9,bp]
   | exit i => rfl
   | ret => rfl
theorem qO {c : dN} {b : Nat} {x y z : C} (h : ∀ s,aU c b y s = aU c b z s) (s : St) : aU c b (.seq x y) s = aU c b (.seq x z) s := by
 rw [bp,bp];cases e : aU c b x s with
 | none => rfl
 | some w =>
   obtain ⟨ex,s'⟩ := w;cases ex with
   | normal => rw [b9,b9,h]
   | exit i => rfl
   | ret => rfl
theorem Px (f : Nat) (keep : Bool -> Bool -> Bool) (hk : vm f keep) (a b : List Int) (hl : a.length + b.length <= 4294967296) : bk aA Ps [.list 1 (ints a),.list 1 (ints b),.func (.func f) [] []] [] = some (.list 1 (ints (tR keep (cZ a) (cZ b))),[]) := by
 rw [aM oJa6 sJa6 (an rfl)];obtain ⟨b1,b2,h⟩ := aar f a b (by omega) (by omega);have la := kr a;have lb := kr b;obtain ⟨c1,c2,h'⟩ := Xh f keep hk (cZ a) (cZ b) b1 b2 [] (by simp only [dP]; omega)
 have e : aU aA ([] : Heap).length Wy.body ⟨dH 0 [.list 1 (ints a),.list 1 (ints b),.func (.func f) [] []],[]⟩ = aU aA 0 (.seq tN (.seq (.aH 0 (.loop iq)) (.seq (.aO fJ false [] [6]) .ret))) ⟨[(0,.list 1 (ints a)),(1,.list 1 (ints b)),(2,.func (.func f) [] [])],[]⟩ := by
  exact (qO (fun s => (qO (fun s => (qO (fun s => (qO (fun s => (qO (fun s => rfl) s).trans seq_assoc.symm) s).trans seq_assoc.symm) s).trans seq_assoc.symm) s).trans seq_assoc.symm) _).trans seq_assoc.symm
 rw [e,bp,h,b9,bp,oN,h',Gg,if_pos rfl,b9,List.nil_append];cases c1 <;> cases c2 <;> (simp only [yn,xc]; simp [il,ik,ij,ig,ib,ia,gT,iI,iH,iF,fU,fT,fS,fR,fQ,fP,fJ,Wy,cD,aa,bR,aP,aK])
theorem Pl (a b : List Int) (hl : a.length + b.length <= 4294967296) : bk aA nJ5 [.list 1 (ints a),.list 1 (ints b)] [] = some (.list 1 (ints (minus a b)),[]) := by
 rw [aM oJ5 sJ5 (an rfl)];have h := Px Ul (fun _ r => !r) Uq a b hl;have e : tR (fun _ r => !r) (cZ a) (cZ b) = minus a b := rfl;rw [e] at h;unfold qJ5 cJ5;simp [ab9,ab8,h,sJa6,iJa6,lJa6,aa,aP,aK]
theorem BS (a b : List Int) (hl : a.length + b.length <= 4294967296) : bk aA nJM [.list 1 (ints a),.list 1 (ints b)] [] = some (.bool (a.all fun x => decide (x ∈ b)),[]) := by
 rw [aM oJM sJM (an rfl)];have h := Pl a b hl
 have e : ((minus a b).length : Int) = 0 ↔ (a.all fun x => decide (x ∈ b)) = true := by
  have h0 : ((minus a b).length : Int) = 0 ↔ minus a b = [] := by rw [<- List.length_eq_zero_iff]; omega
  rw [h0,List.eq_nil_iff_forall_not_mem,List.all_eq_true];simp only [(kc a b).2,decide_eq_true_eq,not_and,Decidable.not_not]
 unfold qJM cJM;cases hx : a.all fun x => decide (x ∈ b)
 ·rw [hx] at e;have e' : ¬ ((minus a b).length : Int) = 0 := fun k => absurd (e.1 k) (by simp);have e'' : ¬ minus a b = [] := fun k => e' (by rw [k]; rfl);simp [Ws,Wr,h,e',e'',sJ5,iJ5,lJ5,aa,aP,aK]
 ·have e' : ((minus a b).length : Int) = 0 := e.2 hx;simp [Ws,Wr,h,e',sJ5,iJ5,lJ5,aa,aP,aK]
end Go.BmP
