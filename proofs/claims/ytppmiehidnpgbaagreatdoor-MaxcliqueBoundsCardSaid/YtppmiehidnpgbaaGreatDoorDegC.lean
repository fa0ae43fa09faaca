/- The numbers that peeling writes are the core numbers. -/
import Derived.Test.YtppmiehidnpgbaaGreatDoorPeB
import Derived.Test.YtppmiehidnpgbaaGreatDoorCoV
import Derived.Test.YtppmiehidnpgbaaGreatDoorR02d
set_option linter.unusedSimpArgs false
set_option linter.unusedVariables false
open Bool renaming and_eq_true → ae
open List renaming countP_eq_length_filter → ph, foldl_cons → ib, foldl_nil → oV, getD_eq_getElem?_getD → aI, getElem?_eq_getElem → aB, getElem?_replicate → fv, getElem?_set → bm, getElem_mem → dN, getElem_of_mem → Af, length_cons → cj, length_erase_of_mem → LS, length_map → gF, length_range → nj, length_replicate → bW, length_set → cJ, mem_cons → aK, mem_cons_of_mem → fF, mem_cons_self → fm, mem_map → eZ, mem_range → di, nodup_cons → kf, pairwise_map → tj, range → cH, replicate → aF
open Nat renaming and_le_left → gU, le_refl → aT, lt_of_le_of_lt → gJ, testBit_and → bI, testBit_two_pow_sub_one → dm
open Option renaming getD_some → hF
namespace Go.BmP
open Go.Am Go.Bm
def WN (m' m : Nat) : Prop := ∀ j,m'.testBit j = true -> m.testBit j = true
theorem GA (A : List Nat) {m' m : Nat} (h : WN m' m) (v : Nat) : QG A m' v <= QG A m v := by
 unfold QG jQ;rw [<- ph,<- ph];refine List.countP_mono_left fun j _ hj => ?_;simp only [bI,ae] at hj ⊢;exact ⟨h j hj.1,hj.2⟩
def aaw (A : List Nat) (k m : Nat) : Prop := ∀ j,m.testBit j = true -> k <= QG A m j
def JN (A : List Nat) (m k v : Nat) : Prop := ∃ m',WN m' m /\ m'.testBit v = true /\ aaw A k m'
theorem Uk {A : List Nat} {m' m k v : Nat} (h : WN m' m) (c : JN A m' k v) : JN A m k v := by
 obtain ⟨x,a,b,d⟩ := c;exact ⟨x,fun j hj => h j (a j hj),b,d⟩
theorem Qe {A : List Nat} {m k l v : Nat} (h : l <= k) (c : JN A m k v) : JN A m l v := by
 obtain ⟨x,a,b,d⟩ := c;exact ⟨x,a,b,fun j hj => Nat.le_trans h (d j hj)⟩
theorem IF {A : List Nat} {m v d : Nat} (h : Pick A m v d) : aaw A d m := fun j hj => by
 rcases h.2.2.2 j hj with q | q
 ·omega
 ·omega
theorem Gn (L : List Int) (i j : Nat) (x : Int) (h : i < L.length) : (L.set i x).getD j 0 = if j = i then x else L.getD j 0 := by
 rw [aI,bm,aI];by_cases e : i = j
 ·subst e; rw [if_pos rfl,if_pos h,if_pos rfl]; rfl
 ·rw [if_neg e,if_neg fun q => e q.symm]
theorem IE {A : List Nat} : ∀ {m : Nat} {o ds : List Nat},m < 18446744073709551616 -> lh A m o ds -> ∀ (k : Nat) (L : List Int),(∀ v,m.testBit v = true -> v < L.length) ->
  (∀ v,m.testBit v = false -> (lk o ds k L).getD v 0 = L.getD v 0) /\ ∀ v,m.testBit v = true -> ∃ x : Nat,(lk o ds k L).getD v 0 = (x : Int) /\ k <= x /\ ∀ j,j <= x ↔ j <= k \/ JN A m j v
 | _,_,_,_,.nil,k,L,_ => ⟨fun v _ => by rw [lk]; simp,fun v hv => by simp at hv⟩
 | m,_,_,hm,.cons (v := v0) (d := d) (o := o) (ds := ds) hp hr,k,L,hL => by
   have NN := hp.1;have hb := hp.2.1;have wb := fun j => eU hm NN j;have hl0 := hL v0 hb
   obtain ⟨i1,i2⟩ := IE (m := wo m v0) (gJ gU hm) hr (max k d) (L.set v0 ((max k d : Nat) : Int)) (fun v hv => by
    rw [wb] at hv;simp only [ae] at hv;rw [cJ]; exact hL v hv.1)
   have gd := IF hp;rw [lk]
   have sub : WN (wo m v0) m := fun j hj => by
    rw [wb] at hj;simp only [ae] at hj;exact hj.1
   refine ⟨fun v hv => ?_,fun v hv => ?_⟩
   ·have mW : v ≠ v0 := fun e => by subst e; rw [hb] at hv; cases hv
    rw [i1 v (by rw [wb,hv]; rfl),Gn _ _ _ _ hl0,if_neg mW]
   ·by_cases e : v = v0
    ·subst e;refine ⟨max k d,?_,by omega,fun j => ?_⟩
     ·rw [i1 v (by rw [wb]; simp),Gn _ _ _ _ hl0,if_pos rfl]
     ·constructor
      ·intro hj;by_cases q : j <= k
       ·exact .inl q
       ·exact .inr (Qe (k := d) (by omega) ⟨m,fun _ h => h,hb,gd⟩)
      ·rintro (q | ⟨m',s,b,g⟩)
       ·omega
       ·have h1 := g v b;have h2 := GA A s v;have h3 := hp.2.2.1;omega
    ·obtain ⟨x,e1,e2,e3⟩ := i2 v (by rw [wb,hv]; simp [e]);refine ⟨x,e1,by omega,fun j => ?_⟩;rw [e3 j];constructor
     ·rintro (q | q)
      ·by_cases q2 : j <= k
       ·exact .inl q2
       ·exact .inr (Qe (k := d) (by omega) ⟨m,fun _ h => h,hv,gd⟩)
      ·exact .inr (Uk sub q)
     ·rintro (q | ⟨m',s,b,g⟩)
      ·exact .inl (by omega)
      ·by_cases q : m'.testBit v0 = true
       ·have h1 := g v0 q;have h2 := GA A s v0;have h3 := hp.2.2.1;exact .inl (by omega)
       ·refine .inr ⟨m',fun j hj => ?_,b,g⟩;rw [wb,s j hj];have : j ≠ v0 := fun e => by subst e; exact q hj
        simp [this]
theorem Yc {A : List Nat} {N : Nat} (hN : N <= 64) {o ds : List Nat} (h : lh A (2 ^ N - 1) o ds) {v : Nat} (hv : v < N) : ∃ x : Nat,(lk o ds 0 (aF N 0)).getD v 0 = (x : Int) /\ ∀ j,j <= x ↔ j = 0 \/ JN A (2 ^ N - 1) j v := by
 have hp : 2 ^ N <= 2 ^ 64 := Nat.pow_le_pow_right (by decide) hN
 obtain ⟨_,h2⟩ := IE (show 2 ^ N - 1 < 18446744073709551616 by omega) h 0 (aF N 0) (fun v hv => by
  rw [dm] at hv;rw [bW];exact of_decide_eq_true hv)
 obtain ⟨x,e,_,hx⟩ := h2 v (by rw [dm]; exact decide_eq_true hv);exact ⟨x,e,fun j => by rw [hx]; simp⟩
theorem MF {A : List Nat} : ∀ {m : Nat} {o ds o' ds' : List Nat},lh A m o ds -> lh A m o' ds' -> o = o' /\ ds = ds'
 | _,_,_,_,_,.nil,h => by
   cases h with
   | nil => exact ⟨rfl,rfl⟩
   | cons hp _ => simp [Pick] at hp
 | m,_,_,_,_,.cons (v := v) (d := d) hp hr,h => by
   cases h with
   | nil => simp [Pick] at hp
   | cons Jd uh =>
     rename_i v' d' o' ds'
     have e : v = v' /\ d = d' := by
      have h1 := hp.2.2.2 v' Jd.2.1;have h2 := Jd.2.2.2 v hp.2.1;have h3 := hp.2.2.1;have h4 := Jd.2.2.1;omega
     obtain ⟨rfl,rfl⟩ := e;obtain ⟨rfl,rfl⟩ := MF hr uh;exact ⟨rfl,rfl⟩
/- The degeneracy: the greatest core number; greedy colourings against the order of peeling; cliques. Plain. -/
theorem q7 {A B : List Int} (hA : A.Nodup) (hs : ∀ x ∈ A,x ∈ B) : A.length <= B.length := by
 induction A generalizing B with
 | nil => simp
 | cons a r ih =>
   have hc := kf.1 hA;have hm := hs a (by simp);have := ih (B := B.erase a) hc.2 fun x hx => (List.mem_erase_of_ne (fun e => hc.1 (by rw [<- e]; exact hx))).2 (hs x (by simp [hx]));rw [LS hm] at this;have := List.length_pos_of_mem hm;simp only [cj]; omega
theorem sE (m : Nat) : (eS m).length = jQ m := by unfold eS jQ; rw [gF]
theorem abv {C W : List Int} {a m : Nat} (hn : W.Nodup) (hw : ∀ w ∈ W,∃ j : Nat,w = j /\ j < 64 /\ a.testBit j = true) (hC : ∀ i,m.testBit i = false -> C.getD i (-1) = -1) : (yx C W).length <= jQ (m &&& a) := by
 unfold yx;rw [List.length_filterMap_eq_countP,ph,<- sE];refine q7 (hn.filter _) fun x hx => ?_;obtain ⟨h1,h2⟩ := List.mem_filter.1 hx;obtain ⟨j,rfl,j1,j2⟩ := hw x h1;refine eY.2 ⟨j,rfl,j1,?_⟩;rw [bI,j2,Bool.and_true];cases q : m.testBit j with
 | true => rfl
 | false =>
   have e := hC j q;rw [show ((j : Nat) : Int).toNat = j by omega] at h2;rw [e] at h2;simp at h2
theorem Jk (C : List Int) (i j : Nat) (x d : Int) : (C.set i x).getD j d = C.getD j d \/ (i = j /\ (C.set i x).getD j d = x) := by
 rw [aI,bm,aI];by_cases e : i = j
 ·subst e;by_cases q : i < C.length
  ·right; rw [if_pos rfl,if_pos q]; exact ⟨rfl,rfl⟩
  ·left; rw [if_pos rfl,if_neg q,List.getElem?_eq_none (by omega)]
 ·left; rw [if_neg e]
theorem ZH {A : List Nat} {nb : Nat -> List Int} {N K : Nat} (Je : ∀ v,v < N -> (nb v).Nodup /\ ∀ w ∈ nb v,∃ j : Nat,w = j /\ j < 64 /\ (A.getD v 0).testBit j = true) : ∀ {m : Nat} {o ds : List Nat},m < 18446744073709551616 -> (∀ j,m.testBit j = true -> j < N) -> lh A m o ds -> (∀ v j,JN A m j v -> j <= K) -> ∀ i,((o.map fun n => ((n : Nat) : Int)).reverse.foldl (Pl nb) (aF N (-1))).getD i (-1) <= K /\ (m.testBit i = false -> ((o.map fun n => ((n : Nat) : Int)).reverse.foldl (Pl nb) (aF N (-1))).getD i (-1) = -1)
 | _,_,_,_,_,.nil,_,i => by
   have e : (aF N (-1 : Int)).getD i (-1) = -1 := by
    rw [aI,fv];split <;> rfl
   simp only [List.map_nil,List.reverse_nil,oV];rw [e];exact ⟨by omega,fun _ => rfl⟩
 | m,_,_,hm,hmN,.cons (v := v) (d := d) (o := o) hp hr,hK,i => by
   have sub : WN (wo m v) m := fun j hj => by
    rw [eU hm hp.1] at hj;simp only [ae] at hj;exact hj.1
   have ih := ZH (N := N) (K := K) Je (m := wo m v) (gJ gU hm) (fun j hj => hmN j (sub j hj)) hr fun x j h => hK x j (Uk sub h);rw [List.map_cons,List.reverse_cons,List.foldl_append,ib,oV];generalize (o.map fun n => ((n : Nat) : Int)).reverse.foldl (Pl nb) (aF N (-1)) = C at *;obtain ⟨n1,n2⟩ := Je v (hmN v hp.2.1);have l1 := abv (C := C) n1 n2 fun j hj => (ih j).2 (by rw [eU hm hp.1,hj]; rfl);have e1 : jQ (m &&& A.getD v 0) = d := hp.2.2.1;have l2 := hK v d ⟨m,fun _ h => h,hp.2.1,IF hp⟩
   have l3 : d < 65 := by
    rw [<- e1];unfold jQ;have := List.length_filter_le (fun j => (m &&& A.getD v 0).testBit j) (cH 64);rw [nj] at this;omega
   have l4 := KZ (yx C (nb v)) (by omega);have ev : ((v : Nat) : Int).toNat = v := by omega
   unfold Pl;rw [ev];refine ⟨?_,fun hi => ?_⟩
   ·rcases Jk C v i (OT (yx C (nb v)) : Nat) (-1) with q | ⟨_,q⟩
    ·rw [q]; exact (ih i).1
    ·rw [q]; omega
   ·have mW : v ≠ i := fun e => by subst e; rw [hp.2.1] at hi; cases hi
    rcases Jk C v i (OT (yx C (nb v)) : Nat) (-1) with q | ⟨q,_⟩
    ·rw [q]; exact (ih i).2 (by rw [eU hm hp.1,hi]; rfl)
    ·exact absurd q mW
theorem aiV {A : List Nat} {N K : Nat} (hN : N <= 64) {S : List Nat} (hnd : S.Nodup) (hb : ∀ x ∈ S,x < N) (hS : ∀ x ∈ S,∀ y ∈ S,x ≠ y -> (A.getD x 0).testBit y = true) (hK : ∀ v j,JN A (2 ^ N - 1) j v -> j <= K) : S.length <= K + 1 := by
 cases S with
 | nil => simp
 | cons v r =>
   have hz : ∀ x ∈ (v :: r).map fun n => ((n : Nat) : Int),(0 : Int) <= x := fun x hx => by
    obtain ⟨y,_,rfl⟩ := eZ.1 hx; omega
   have mb : ∀ j : Nat,(W5 ((v :: r).map fun n => ((n : Nat) : Int))).testBit j = decide (j ∈ v :: r) := fun j => by
    rw [zC hz];congr 1;rw [eZ];apply propext;constructor
    ·rintro ⟨y,hy,e⟩
     rwa [show j = y by omega]
    ·intro h; exact ⟨j,h,rfl⟩
   generalize W5 ((v :: r).map fun n => ((n : Nat) : Int)) = M at *;have := hK v r.length ⟨M,fun j hj => ?_,by rw [mb]; simp,fun j hj => ?_⟩
   ·simp only [cj]; omega
   ·rw [mb] at hj;rw [dm];exact decide_eq_true (hb j (of_decide_eq_true hj))
   ·rw [mb] at hj;have hj := of_decide_eq_true hj;unfold QG;rw [<- sE];have l1 := LS hj;have := q7 (A := ((v :: r).erase j).map fun n => ((n : Nat) : Int)) (B := eS (M &&& A.getD j 0)) ?_ ?_
    ·rw [gF,l1] at this;simpa using this
    ·unfold List.Nodup;rw [tj];exact (hnd.erase j).imp fun {a b} h e => h (by omega)
    ·intro x hx;obtain ⟨y,hy,rfl⟩ := eZ.1 hx;obtain ⟨y1,y2⟩ := (List.Nodup.mem_erase_iff hnd).1 hy;have := hb y y2;refine eY.2 ⟨y,rfl,by omega,?_⟩;rw [bI,mb,decide_eq_true y2,hS j hj y y2 fun e => y1 e.symm]; rfl
theorem aci {C : List Int} {S : List Nat} (hb : ∀ x ∈ S,x < C.length) (hS : S.Pairwise fun a b => C.getD a (-1) ≠ C.getD b (-1)) : S.length <= (bZ C).length := by
 have := q7 (A := S.map fun a => C.getD a (-1)) (B := bZ C) (by unfold List.Nodup; rw [tj]; exact hS) fun x hx => by
  obtain ⟨y,hy,rfl⟩ := eZ.1 hx;have := hb y hy;rw [(dC C).2,aI,aB this];exact dN this
 rwa [gF] at this
theorem agU {C : List Int} {K : Nat} (h0 : ∀ x ∈ C,0 <= x) (h1 : ∀ i : Nat,C.getD i (-1) <= K) : (bZ C).length <= K + 1 := by
 have := q7 (A := bZ C) (B := (cH (K + 1)).map fun n => ((n : Nat) : Int)) ((dC C).1.imp fun {a b} h => by omega) fun x hx => by
  rw [(dC C).2] at hx;have a := h0 x hx;obtain ⟨i,hi,rfl⟩ := Af hx;have b := h1 i;rw [aI,aB hi] at b;simp only [hF] at b;exact eZ.2 ⟨(C[i]).toNat,di.2 (by omega),by omega⟩
 rwa [gF,nj] at this
def xm (A : List Nat) (N : Nat) (L : List Int) : Prop := L.length = N /\ ∀ v,v < N -> ∃ x : Nat,L.getD v 0 = (x : Int) /\ ∀ j,j <= x ↔ j = 0 \/ JN A (2 ^ N - 1) j v
def UH (L : List Int) : Int := L.foldl (fun k n => if k < n then n else k) 0
theorem Gb {A : List Nat} {N j v : Nat} (h : JN A (2 ^ N - 1) j v) : v < N := by
 obtain ⟨m',s,b,_⟩ := h;have := s v b;rw [dm] at this;exact of_decide_eq_true this
theorem Oi : ∀ (L : List Int) (k : Int),k <= L.foldl (fun k n => if k < n then n else k) k /\ (∀ x ∈ L,x <= L.foldl (fun k n => if k < n then n else k) k) /\ (L.foldl (fun k n => if k < n then n else k) k = k \/ L.foldl (fun k n => if k < n then n else k) k ∈ L)
 | [],k => ⟨by simp,by simp,.inl rfl⟩
 | x :: r,k => by
   obtain ⟨a,b,c⟩ := Oi r (if k < x then x else k);rw [ib];generalize r.foldl (fun k n => if k < n then n else k) (if k < x then x else k) = z at *;refine ⟨by split at a <;> omega,fun y hy => ?_,?_⟩
   ·rcases aK.1 hy with rfl | hy
    ·split at a <;> omega
    ·exact b y hy
   ·rcases c with c | c
    ·by_cases q : k < x
     ·rw [if_pos q] at c; right; rw [c]; exact fm
     ·rw [if_neg q] at c; left; exact c
    ·right; exact fF _ c
theorem Oj {A : List Nat} {N : Nat} {L : List Int} (h : xm A N L) : ∃ K : Nat,UH L = (K : Int) /\ (∀ v j,JN A (2 ^ N - 1) j v -> j <= K) /\ (K = 0 \/ ∃ v,JN A (2 ^ N - 1) K v) := by
 obtain ⟨hl,hx⟩ := h;obtain ⟨a,b,c⟩ := Oi L 0;change 0 <= UH L at a;change ∀ x ∈ L,x <= UH L at b;change UH L = 0 \/ UH L ∈ L at c;obtain ⟨K,hK⟩ : ∃ K : Nat,UH L = (K : Int) := ⟨(UH L).toNat,by omega⟩;rw [hK] at b c
 have gt : ∀ v (hv : v < N),L.getD v 0 ∈ L := fun v hv => by
  have : v < L.length := by omega
  rw [aI,aB this];exact dN this
 refine ⟨K,hK,fun v j hj => ?_,?_⟩
 ·have hv := Gb hj;obtain ⟨x,e,q⟩ := hx v hv;have h1 := (q j).2 (.inr hj);have h2 := b _ (gt v hv);omega
 ·rcases c with c | c
  ·left; omega
  ·obtain ⟨v,hv,e⟩ := Af c;obtain ⟨x,e2,q⟩ := hx v (by omega);rw [aI,aB hv] at e2;simp only [hF] at e2;rcases (q K).1 (by omega) with r | r
   ·exact .inl r
   ·exact .inr ⟨v,r⟩
theorem agp {A : List Nat} {N : Nat} {L M : List Int} (h : xm A N L) (k : xm A N M) : L = M := by
 apply List.ext_getElem (by rw [h.1,k.1]);intro i h1 h2;obtain ⟨x,e1,q1⟩ := h.2 i (by have := h.1; omega);obtain ⟨y,e2,q2⟩ := k.2 i (by have := h.1; omega);rw [aI,aB h1] at e1;rw [aI,aB h2] at e2;simp only [hF] at e1 e2;have a := (q1 x).1 (aT _);have b := (q2 y).1 (aT _);have a2 := (q2 x).2 a;have b2 := (q1 y).2 b;omega
theorem Yb {A : List Nat} {N : Nat} (hN : N <= 64) {o ds : List Nat} (h : lh A (2 ^ N - 1) o ds) (hl : (lk o ds 0 (aF N 0)).length = N) : xm A N (lk o ds 0 (aF N 0)) := ⟨hl,fun v hv => Yc hN h hv⟩
/- The reference's k-core and its core numbers. Plain. -/
set_option linter.unusedSectionVars false
def Jx (nb : Nat -> List Int) (k : Int) (s : List Int × Bool) (v : Int) : List Int × Bool := if ((meet (nb v.toNat) s.1).length : Int) < k then (minus s.1 [v],true) else s
structure Crs (A : List Nat) (N k : Nat) (l : List Int) : Prop where
 up : Up l
 bd : ∀ x ∈ l,0 <= x /\ x < (N : Int)
 keep : ∀ M,aaw A k M -> WN M (2 ^ N - 1) -> ∀ j : Nat,M.testBit j = true -> (j : Int) ∈ l
section
variable {A : List Nat} {nb : Nat -> List Int} {N k : Nat} (hN : N <= 64) (Je : ∀ v,v < N -> nb v = eS (A.getD v 0))
include hN Je
theorem UK {l : List Int} (h : Crs A N k l) {v : Nat} (hv : v < N) : (meet (nb v) l).length = QG A (W5 l) v := by
 obtain ⟨u,m⟩ := AO (nb v) l
 have e : meet (nb v) l = eS (W5 l &&& A.getD v 0) := qW u (kJ _) fun x => by
  rw [m,Je v hv,eY,eY];constructor
  ·rintro ⟨⟨j,rfl,j1,j2⟩,hx⟩;refine ⟨j,rfl,j1,?_⟩;rw [bI,j2,zC fun v hv => (h.bd v hv).1,decide_eq_true hx]; rfl
  ·rintro ⟨j,rfl,j1,j2⟩;rw [bI,zC fun v hv => (h.bd v hv).1] at j2;simp only [ae,decide_eq_true_eq] at j2;exact ⟨⟨j,rfl,j1,j2.2⟩,j2.1⟩
 rw [e,sE]; rfl
theorem Ol {l : List Int} (h : Crs A N k l) {v : Int} (hv : 0 <= v /\ v < (N : Int)) (hd : (meet (nb v.toNat) l).length < k) : Crs A N k (minus l [v]) := by
 obtain ⟨u,m⟩ := sU l [v];rw [UK hN Je h (by omega : v.toNat < N)] at hd;refine ⟨u,fun x hx => h.bd x ((m x).1 hx).1,fun M hM hs j hj => (m j).2 ⟨h.keep M hM hs j hj,fun q => ?_⟩⟩;have q : (j : Int) = v := by simpa using q
 have e : v.toNat = j := by omega
 rw [e] at hd;have h1 := hM j hj
 have h2 := GA A (m' := M) (m := W5 l) (fun i hi => by
  rw [zC fun v hv => (h.bd v hv).1];exact decide_eq_true (h.keep M hM hs i hi)) j
 omega
theorem GC : ∀ (W l : List Int) (b : Bool),Crs A N k l -> (∀ v ∈ W,v ∈ l) -> W.Nodup -> Crs A N k (W.foldl (Jx nb k) (l,b)).1 /\ (W.foldl (Jx nb k) (l,b)).1.length <= l.length /\ ((W.foldl (Jx nb k) (l,b)).2 = false -> b = false /\ (W.foldl (Jx nb k) (l,b)).1 = l /\ ∀ v ∈ W,k <= (meet (nb v.toNat) l).length) /\ ((W.foldl (Jx nb k) (l,b)).2 = true -> b = true \/ (W.foldl (Jx nb k) (l,b)).1.length < l.length)
 | [],l,b,h,_,_ => ⟨h,aT _,fun e => ⟨e,rfl,fun v hv => by cases hv⟩,fun e => .inl e⟩
 | v :: W,l,b,h,hW,hn => by
   obtain ⟨n1,n2⟩ := kf.1 hn;have hv := hW v fm;rw [ib];by_cases q : ((meet (nb v.toNat) l).length : Int) < k
   ·have e : Jx nb k (l,b) v = (minus l [v],true) := by unfold Jx; rw [if_pos q]
    rw [e];have h1 := Ol hN Je h (h.bd v hv) (by omega);obtain ⟨u,m⟩ := sU l [v]
    have sm : (minus l [v]).length < l.length := by
     have := q7 (A := v :: minus l [v]) (B := l) (kf.2 ⟨fun z => by have := ((m v).1 z).2; simp at this,u.imp fun {a b} h => by omega⟩) fun x hx => by
      rcases aK.1 hx with rfl | hx
      ·exact hv
      ·exact ((m x).1 hx).1
     simp only [cj] at this; omega
    obtain ⟨a,b',c,d⟩ := GC W (minus l [v]) true h1 (fun x hx => (m x).2 ⟨hW x (fF _ hx),fun z => by
     have : x = v := by simpa using z
     exact n1 (this ▸ hx)⟩) n2
    exact ⟨a,by omega,fun e => (by have := (c e).1; cases this),fun _ => .inr (by omega)⟩
   ·have e : Jx nb k (l,b) v = (l,b) := by unfold Jx; rw [if_neg q]
    rw [e];obtain ⟨a,b',c,d⟩ := GC W l b h (fun x hx => hW x (fF _ hx)) n2;refine ⟨a,b',fun e => ?_,d⟩;obtain ⟨c1,c2,c3⟩ := c e;refine ⟨c1,c2,fun x hx => ?_⟩;rcases aK.1 hx with rfl | hx
    ·omega
    ·exact c3 x hx
theorem UL {l : List Int} (h : Crs A N k l) (hd : ∀ v ∈ l,k <= (meet (nb v.toNat) l).length) (x : Int) : x ∈ l ↔ ∃ j : Nat,x = j /\ JN A (2 ^ N - 1) k j := by
 have mb : ∀ j : Nat,(W5 l).testBit j = decide ((j : Int) ∈ l) := fun j => zC fun v hv => (h.bd v hv).1;constructor
 ·intro hx;have b := h.bd x hx;refine ⟨x.toNat,by omega,W5 l,fun j hj => ?_,?_,fun j hj => ?_⟩
  ·rw [mb] at hj;have := h.bd _ (of_decide_eq_true hj);rw [dm];exact decide_eq_true (by omega)
  ·rw [mb];exact decide_eq_true (by rwa [show ((x.toNat : Nat) : Int) = x by omega])
  ·rw [mb] at hj;have hj := of_decide_eq_true hj;have b := h.bd _ hj;have := hd _ hj;rw [show ((j : Nat) : Int).toNat = j by omega] at this
   rwa [UK hN Je h (by omega)] at this
 ·rintro ⟨j,rfl,M,s,b,g⟩;exact h.keep M g s j b
end
theorem ZZ (A : List Nat) {N : Nat} (hN : N <= 64) (k : Nat) : Crs A N k (ik (N : Int)) := by
 have mem : ∀ x : Int,x ∈ ik (N : Int) ↔ 0 <= x /\ x < N := fun x => by
  unfold ik;rw [eZ];constructor
  ·rintro ⟨j,hj,rfl⟩;have := di.1 hj;omega
  ·rintro ⟨a,b⟩;exact ⟨x.toNat,di.2 (by omega),by omega⟩
 refine ⟨?_,fun x hx => (mem x).1 hx,fun M hM hs j hj => (mem j).2 ?_⟩
 ·unfold ik Up;rw [tj];exact List.pairwise_lt_range.imp fun h => by omega
 ·have := hs j hj;rw [dm] at this;have := of_decide_eq_true this;omega
def WO (A : List Nat) (N k : Nat) (L : List Int) : Prop := L.length = N /\ ∀ v,v < N -> ∃ x : Nat,L.getD v 0 = (x : Int) /\ ∀ j,j <= x ↔ j = 0 \/ (j <= k /\ JN A (2 ^ N - 1) j v)
def Vr (k : Int) (L : List Int) (v : Int) : List Int := L.set v.toNat k
theorem Rf (k : Int) : ∀ (C L : List Int),(C.foldl (Vr k) L).length = L.length
 | [],_ => rfl
 | v :: C,L => by rw [ib,Rf k C]; unfold Vr; rw [cJ]
theorem Rh (k : Int) : ∀ (C L : List Int),(∀ v ∈ C,0 <= v /\ v < (L.length : Int)) -> ∀ i : Nat,(C.foldl (Vr k) L).getD i 0 = if (i : Int) ∈ C then k else L.getD i 0
 | [],L,_,i => by simp
 | v :: C,L,h,i => by
   have hv := h v fm;rw [ib,Rh k C (Vr k L v) (fun x hx => by unfold Vr; rw [cJ]; exact h x (fF _ hx))];unfold Vr;rw [Gn _ _ _ _ (by omega)];by_cases q : (i : Int) ∈ C
   ·rw [if_pos q,if_pos (fF _ q)]
   ·rw [if_neg q];by_cases e : i = v.toNat
    ·rw [if_pos e,if_pos (by rw [show (i : Int) = v by omega]; exact fm)]
    ·rw [if_neg e,if_neg fun z => by
      rcases aK.1 z with z | z
      ·omega
      ·exact q z]
theorem VJ (A : List Nat) (N : Nat) : WO A N 0 (aF N 0) := by
 refine ⟨bW,fun v hv => ⟨0,?_,fun j => ?_⟩⟩
 ·rw [aI,fv,if_pos hv]; rfl
 ·constructor
  ·intro h; left; omega
  ·rintro (h | ⟨h,_⟩) <;> omega
theorem VK {A : List Nat} {N k : Nat} {L C : List Int} (h : WO A N k L) (hC : ∀ x,x ∈ C ↔ ∃ j : Nat,x = j /\ JN A (2 ^ N - 1) (k + 1) j) : WO A N (k + 1) (C.foldl (Vr ((k + 1 : Nat) : Int)) L) := by
 have hb : ∀ v ∈ C,0 <= v /\ v < (L.length : Int) := fun v hv => by
  obtain ⟨j,rfl,q⟩ := (hC v).1 hv;have := Gb q;have := h.1;omega
 refine ⟨by rw [Rf]; exact h.1,fun v hv => ?_⟩;rw [Rh _ _ _ hb];by_cases q : (v : Int) ∈ C
 ·rw [if_pos q];obtain ⟨j,e,hj⟩ := (hC v).1 q;obtain rfl : v = j := by omega
  refine ⟨k + 1,rfl,fun i => ⟨fun hi => ?_,?_⟩⟩
  ·right; exact ⟨hi,Qe hi hj⟩
  ·rintro (e | ⟨e,_⟩) <;> omega
 ·rw [if_neg q];obtain ⟨x,e,hx⟩ := h.2 v hv;refine ⟨x,e,fun i => ?_⟩;rw [hx];constructor
  ·rintro (a | ⟨a,b⟩)
   ·exact .inl a
   ·exact .inr ⟨by omega,b⟩
  ·rintro (a | ⟨a,b⟩)
   ·exact .inl a
   ·by_cases z : i = k + 1
    ·subst z;exact absurd ((hC v).2 ⟨v,rfl,b⟩) q
    ·exact .inr ⟨by omega,b⟩
theorem YB {A : List Nat} {N k : Nat} {L : List Int} (hN : N <= 64) (hI : ∀ a,(A.getD a 0).testBit a = false) (h : WO A N k L) (hk : N <= k + 1) : xm A N L := by
 refine ⟨h.1,fun v hv => ?_⟩;obtain ⟨x,e,hx⟩ := h.2 v hv;refine ⟨x,e,fun j => ?_⟩;rw [hx];constructor
 ·rintro (a | ⟨a,b⟩)
  ·exact .inl a
  ·exact .inr b
 ·rintro (a | b)
  ·exact .inl a
  ·refine .inr ⟨?_,b⟩;obtain ⟨m',s,b1,g⟩ := b;have g1 := g v b1;unfold QG at g1;rw [<- sE] at g1
   have := q7 (A := (v : Int) :: eS (m' &&& A.getD v 0)) (B := (cH N).map fun n => ((n : Nat) : Int)) (kf.2 ⟨fun z => by
    obtain ⟨i,i1,i2,i3⟩ := eY.1 z;obtain rfl : v = i := by omega
    rw [bI,hI v,Bool.and_false] at i3
    exact absurd i3 (by simp),(kJ _).imp fun {a b} h => by omega⟩) fun y hy => by
     rcases aK.1 hy with rfl | hy
     ·exact eZ.2 ⟨v,di.2 hv,rfl⟩
     ·obtain ⟨i, rfl, i2, i3⟩ := eY.1 hy
      rw [bI] at i3;simp only [ae] at i3;have := s i i3.1;rw [dm] at this;exact eZ.2 ⟨i,di.2 (of_decide_eq_true this),rfl⟩
   rw [gF,nj,cj] at this;omega
end Go.BmP
