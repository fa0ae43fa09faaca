/- Counting triangles: plain sums. -/
import Derived.Test.YtmoginoicilobabGreatT06
set_option linter.unusedSimpArgs false
set_option linter.unusedVariables false
open List renaming foldl_cons → de, getD_eq_getElem?_getD → aP, getElem?_eq_getElem → ai, length_cons → bY, map_congr_left → UF, map_cons → dR, mem_filter → IX, mem_range → Lm, nodup_cons → IW, range → kB, replicate → aO, sum_cons → iX
open List.Pairwise renaming imp → qb
open Nat renaming mul_assoc → iN, mul_comm → ff, mul_le_mul → PD
open Option renaming getD_some → gI
namespace Go.BmP
open Go.Am Go.Bm
def sm : Nat -> (Nat -> Nat) -> Nat
 | 0,_ => 0
 | n + 1,f => sm n f + f n
theorem ct {f g : Nat -> Nat} : ∀ {n : Nat},(∀ i,i < n -> f i = g i) -> sm n f = sm n g
 | 0,_ => rfl
 | n + 1,h => by rw [sm,sm,ct fun i hi => h i (by omega),h n (by omega)]
theorem fV (f g : Nat -> Nat) : ∀ n,sm n (fun i => f i + g i) = sm n f + sm n g
 | 0 => rfl
 | n + 1 => by simp only [sm,fV f g n]; omega
theorem pK (c : Nat) (f : Nat -> Nat) : ∀ n,sm n (fun i => c * f i) = c * sm n f
 | 0 => rfl
 | n + 1 => by simp only [sm,pK c f n,Nat.mul_add]
theorem ma : ∀ n,sm n (fun _ => 0) = 0
 | 0 => rfl
 | n + 1 => by simp [sm,ma n]
theorem Hg (g : Nat -> Nat -> Nat) (h : ∀ u,g u u = 0) : ∀ n,sm n (fun u => sm n fun v => g u v) = sm n fun v => sm v fun u => g u v + g v u
 | 0 => rfl
 | n + 1 => by
   have e : sm (n + 1) (fun u => sm (n + 1) fun v => g u v) = (sm n (fun u => sm n fun v => g u v) + sm n fun u => g u n) + (sm n (fun v => g n v) + g n n) := by
    simp only [sm];rw [fV (fun u => sm n fun v => g u v) (fun u => g u n) n]
   rw [e,Hg g h n,h n];simp only [sm];rw [fV (fun u => g u n) (fun u => g n u) n];omega
def sm3 (n : Nat) (f : Nat -> Nat -> Nat -> Nat) : Nat := sm n fun u => sm n fun v => sm n fun w => f u v w
def Di (n : Nat) (f : Nat -> Nat -> Nat -> Nat) : Nat := sm n fun w => sm w fun v => sm v fun u => f u v w
theorem W4 (c n : Nat) (f : Nat -> Nat -> Nat -> Nat) : Di n (fun u v w => c * f u v w) = c * Di n f := by
 unfold Di;rw [<- pK];refine ct fun w _ => ?_;rw [<- pK];exact ct fun v _ => pK _ _ _
theorem PL {n : Nat} {f g : Nat -> Nat -> Nat -> Nat} (h : ∀ u v w,u < v -> v < w -> w < n -> f u v w = g u v w) : Di n f = Di n g :=
 ct fun w hw => ct fun v hv => ct fun u hu => h u v w hu hv hw
theorem LI (f : Nat -> Nat -> Nat -> Nat) (h1 : ∀ u w,f u u w = 0) (h2 : ∀ u v,f u v u = 0) (h3 : ∀ u v,f u v v = 0) : ∀ n,sm3 n f = Di n fun u v w => f u v w + f u w v + f v u w + f v w u + f w u v + f w v u
 | 0 => rfl
 | n + 1 => by
   have ih := LI f h1 h2 h3 n
   have e : sm3 (n + 1) f = sm3 n f + (sm n (fun u => sm n fun v => f u v n) + sm n (fun u => sm n fun w => f u n w) + sm n (fun v => sm n fun w => f n v w)) := by
    unfold sm3;have a1 : ∀ u v,sm (n + 1) (fun w => f u v w) = sm n (fun w => f u v w) + f u v n := fun u v => rfl;simp only [a1]
    have a2 : ∀ u,sm (n + 1) (fun v => sm n (fun w => f u v w) + f u v n) = (sm n (fun v => sm n fun w => f u v w) + sm n (fun v => f u v n)) + (sm n (fun w => f u n w) + f u n n) := fun u => by
     rw [show sm (n + 1) (fun v => sm n (fun w => f u v w) + f u v n) = sm n (fun v => sm n (fun w => f u v w) + f u v n) + (sm n (fun w => f u n w) + f u n n) from rfl,fV]
    simp only [a2,h3,Nat.add_zero];rw [show sm (n + 1) (fun u => sm n (fun v => sm n fun w => f u v w) + sm n (fun v => f u v n) + sm n (fun w => f u n w)) = sm n (fun u => sm n (fun v => sm n fun w => f u v w) + sm n (fun v => f u v n) + sm n (fun w => f u n w)) + (sm n (fun v => sm n fun w => f n v w) + sm n (fun v => f n v n) + sm n (fun w => f n n w)) from rfl,fV,fV];have z1 : sm n (fun v => f n v n) = 0 := by rw [ct fun i _ => h2 n i,ma]
    have z2 : sm n (fun w => f n n w) = 0 := by rw [ct fun i _ => h1 n i,ma]
    rw [z1,z2];omega
   rw [e,ih,Hg (fun u v => f u v n) (fun u => h1 u n),Hg (fun u v => f u n v) (fun u => h2 u n),Hg (fun u v => f n u v) (fun u => h3 n u)];show _ = Di n _ + sm n fun v => sm v fun u => f u v n + f u n v + f v u n + f v n u + f n u v + f n v u;rw [<- fV,<- fV];congr 1;refine ct fun v _ => ?_;rw [<- fV,<- fV];exact ct fun u _ => by omega
theorem UO (A : Nat -> Nat -> Nat) (sy : ∀ u v,A u v = A v u) (ir : ∀ u,A u u = 0) (n : Nat) : (sm n fun v => sm v fun u => A u v * sm n fun w => A u w * A v w) = 3 * Di n fun u v w => A u v * A u w * A v w := by
 have h1 := Hg (fun u v => A u v * sm n fun w => A u w * A v w) (fun u => by simp [ir]) n
 have h2 : (sm n fun v => sm v fun u => A u v * (sm n fun w => A u w * A v w) + A v u * sm n fun w => A v w * A u w) = 2 * sm n fun v => sm v fun u => A u v * sm n fun w => A u w * A v w := by
  rw [<- pK];refine ct fun v _ => ?_;rw [<- pK];refine ct fun u _ => ?_;rw [sy v u,ct (f := fun w => A v w * A u w) (g := fun w => A u w * A v w) fun w _ => ff _ _];omega
 have h3 : (sm n fun u => sm n fun v => A u v * sm n fun w => A u w * A v w) = sm3 n fun u v w => A u v * A u w * A v w := by
  unfold sm3;refine ct fun u _ => ct fun v _ => ?_;rw [<- pK];exact ct fun w _ => (iN _ _ _).symm
 have h4 := LI (fun u v w => A u v * A u w * A v w) (fun u w => by simp [ir]) (fun u v => by simp [ir]) (fun u v => by simp [ir]) n
 have h5 : (Di n fun u v w => A u v * A u w * A v w + A u w * A u v * A w v + A v u * A v w * A u w + A v w * A v u * A w u + A w u * A w v * A u v + A w v * A w u * A v u) = 6 * Di n fun u v w => A u v * A u w * A v w := by
  rw [<- W4];refine PL fun u v w _ _ _ => ?_;rw [sy v u,sy w u,sy w v];generalize A u v = a;generalize A u w = b;generalize A v w = c;have e1 : b * a * c = a * b * c := by rw [ff b a]
  have e2 : a * c * b = a * b * c := by rw [iN,ff c b,iN]
  have e3 : c * a * b = a * b * c := by rw [ff c a,e2]
  have e4 : b * c * a = a * b * c := by rw [ff (b * c),iN]
  have e5 : c * b * a = a * b * c := by rw [ff c b,e4]
  rw [e1,e2,e3,e4,e5];omega
 omega
/- The numbers of triangles as sums over nodes: plain law. -/
instance jnD (E : List Ed) (a b : Int) : Decidable (jn E a b) := by unfold jn; infer_instance
def ad (Es : List Ed) (u v : Nat) : Nat := if jn Es u v then 1 else 0
theorem mh (Es : List Ed) (u v : Nat) : ad Es u v = ad Es v u := by
 unfold ad;have : jn Es u v ↔ jn Es v u := by unfold jn; exact Or.comm
 by_cases h : jn Es u v
 ·rw [if_pos h,if_pos (this.1 h)]
 ·rw [if_neg h,if_neg fun k => h (this.2 k)]
theorem Gt {N : Nat} {Es : List Ed} (hG : gK (N : Int) Es) (u : Nat) : ad Es u u = 0 := by
 unfold ad;rw [if_neg fun h => (oM hG h).2.2 rfl]
theorem Ir (p : Nat -> Bool) : ∀ n,((kB n).filter p).length = sm n fun i => if p i = true then 1 else 0
 | 0 => rfl
 | n + 1 => by
   rw [List.range_succ,List.filter_append,List.length_append,Ir p n,sm];congr 1;by_cases h : p n = true <;> simp [h]
theorem Lu {N : Nat} {l : List Int} (p : Nat -> Bool) (hu : Up l) (h : ∀ x,x ∈ l ↔ (0 <= x /\ x < (N : Int)) /\ p x.toNat = true) : l.length = sm N fun i => if p i = true then 1 else 0 := by
 have e : l = ((kB N).filter p).map fun i => ((i : Nat) : Int) := by
  refine wi hu ?_ fun x => ?_
  ·refine List.Pairwise.map _ (fun a b h => ?_) ((List.pairwise_lt_range (n := N)).filter p);show (a : Int) < b;omega
  ·rw [h,List.mem_map];constructor
   ·rintro ⟨h1,h2⟩;exact ⟨x.toNat,IX.2 ⟨Lm.2 (by omega),h2⟩,by omega⟩
   ·rintro ⟨i,hi,rfl⟩;obtain ⟨a,b⟩ := IX.1 hi;have := Lm.1 a;exact ⟨by omega,by rw [show ((i : Nat) : Int).toNat = i by omega]; exact b⟩
 rw [e,List.length_map,Ir]
theorem Vr {N : Nat} {Es : List Ed} (hG : gK (N : Int) Es) {u : Nat} (hu : u < N) : (fF N Es u).length = sm N fun w => ad Es u w := by
 rw [Lu (N := N) (fun w => decide (jn Es u w)) (tW hG (u := u) (by omega) (by omega)) fun x => ?_]
 ·refine ct fun w _ => ?_;unfold ad;by_cases h : jn Es u w <;> simp [h]
 ·rw [nt hG (by omega) (by omega)];constructor
  ·intro h;have := (oM hG h).2.1;refine ⟨this,?_⟩;rw [show ((x.toNat : Nat) : Int) = x by omega];exact decide_eq_true h
  ·rintro ⟨h1,h2⟩;rw [show ((x.toNat : Nat) : Int) = x by omega] at h2;exact of_decide_eq_true h2
theorem A5 {N : Nat} {Es : List Ed} (hG : gK (N : Int) Es) {u v : Nat} (hu : u < N) (hv : v < N) : (gF N Es ((u : Int),(v : Int))).length = sm N fun w => ad Es u w * ad Es v w := by
 rw [Lu (N := N) (fun w => decide (jn Es u w) && decide (jn Es v w)) (xZ hG (e := ((u : Int),(v : Int))) (by simp only; omega)) fun x => ?_]
 ·refine ct fun w _ => ?_;unfold ad;by_cases h : jn Es u w <;> by_cases k : jn Es v w <;> simp [h,k]
 ·rw [iV hG (by simp only; omega)];simp only [Bool.and_eq_true,decide_eq_true_eq];constructor
  ·rintro ⟨h,k⟩;have := (oM hG h).2.1;refine ⟨this,?_⟩;rw [show ((x.toNat : Nat) : Int) = x by omega];exact ⟨h,k⟩
  ·rintro ⟨h1,h2⟩;rw [show ((x.toNat : Nat) : Int) = x by omega] at h2;exact h2
theorem qQ (c : Nat -> Nat) (k : Nat) : ∀ n,sm n (fun i => if i = k then c i else 0) = if k < n then c k else 0
 | 0 => by simp [sm]
 | n + 1 => by
   rw [sm,qQ c k n];by_cases h : n = k
   ·subst h; simp
   ·rw [if_neg h];by_cases h2 : k < n
    ·rw [if_pos h2,if_pos (by omega)]; rfl
    ·rw [if_neg h2,if_neg (by omega)]
def inE (Es : List Ed) (u v : Nat) : Nat := if ((u : Int),(v : Int)) ∈ Es then 1 else 0
theorem zK (N : Nat) (F : Nat -> Nat -> Nat) : ∀ Es : List Ed,Es.Nodup -> (∀ e ∈ Es,0 <= e.1 /\ e.1 < e.2 /\ e.2 < (N : Int)) -> (Es.map fun e => F e.1.toNat e.2.toNat).sum = sm N fun v => sm v fun u => inE Es u v * F u v
 | [],_,_ => by
   rw [ct (g := fun _ => 0) fun v _ => by rw [ct (g := fun _ => 0) fun u _ => by simp [inE],ma],ma];rfl
 | e :: r,hn,h => by
   obtain ⟨n1,n2⟩ := IW.1 hn;obtain ⟨a,b,c⟩ := h e (by simp);rw [dR,iX,zK N F r n2 fun x hx => h x (by simp [hx])]
   have e1 : ∀ u v : Nat,inE (e :: r) u v * F u v = (if v = e.2.toNat then (if u = e.1.toNat then F u v else 0) else 0) + inE r u v * F u v := fun u v => by
    unfold inE;by_cases k : ((u : Int),(v : Int)) = e
    ·have k2 : ((u : Int),(v : Int)) ∉ r := by rw [k]; exact n1
     have k3 : u = e.1.toNat := by rw [<- k]; simp
     have k4 : v = e.2.toNat := by rw [<- k]; simp
     rw [if_pos (by rw [k]; simp),if_neg k2,if_pos k4,if_pos k3];omega
    ·have k3 : ¬ (v = e.2.toNat /\ u = e.1.toNat) := fun ⟨q1,q2⟩ => k (Prod.ext (by simp; omega) (by simp; omega))
     have k4 : (if v = e.2.toNat then (if u = e.1.toNat then F u v else 0) else 0) = 0 := by
      by_cases q1 : v = e.2.toNat
      ·rw [if_pos q1,if_neg fun q2 => k3 ⟨q1,q2⟩]
      ·rw [if_neg q1]
     rw [k4,Nat.zero_add];by_cases q : ((u : Int),(v : Int)) ∈ r
     ·rw [if_pos (by simp [q]),if_pos q]
     ·rw [if_neg (by simp [q,k]),if_neg q]
   have e2 : (sm N fun v => sm v fun u => inE (e :: r) u v * F u v) = (sm N fun v => if v = e.2.toNat then F e.1.toNat v else 0) + sm N fun v => sm v fun u => inE r u v * F u v := by
    rw [<- fV];refine ct fun v _ => ?_;rw [ct fun u _ => e1 u v,fV];congr 1;by_cases q : v = e.2.toNat
    ·simp only [q,if_true];rw [qQ (fun u => F u e.2.toNat) e.1.toNat,if_pos (by omega)]
    ·simp only [q,if_false,ma]
   rw [e2,qQ (fun v => F e.1.toNat v) e.2.toNat,if_pos (by omega)]
theorem aam {N : Nat} {Es : List Ed} (hG : gK (N : Int) Es) {u v : Nat} (h : u < v) : inE Es u v = ad Es u v := by
 unfold inE ad jn;have : ((v : Int),(u : Int)) ∉ Es := fun k => by have := (hG.2.2 _ k).2.1; simp only at this; omega
 by_cases k : ((u : Int),(v : Int)) ∈ Es <;> simp [k,this]
theorem zH {Es : List Ed} (h : CC Es) : Es.Nodup := qb (fun {a b} h e => by subst e; exact vl h) h
def j7 (N : Nat) (Es : List Ed) : Nat := Di N fun u v w => ad Es u v * ad Es u w * ad Es v w
theorem iO {N : Nat} {Es : List Ed} (hG : gK (N : Int) Es) : fw N Es = 3 * j7 N Es := by
 have h1 : fw N Es = (Es.map fun e => sm N fun w => ad Es e.1.toNat w * ad Es e.2.toNat w).sum := by
  unfold fw;congr 1;refine UF fun e he => ?_;have := hG.2.2 e he;have h2 := A5 hG (u := e.1.toNat) (v := e.2.toNat) (by omega) (by omega);rw [<- h2];congr 2;exact Prod.ext (by simp; omega) (by simp; omega)
 have h3 := zK N (fun u v => sm N fun w => ad Es u w * ad Es v w) Es (zH hG.2.1) hG.2.2;rw [h1];refine h3.trans ?_;rw [j7,<- UO (ad Es) (mh Es) (Gt hG) N];exact ct fun v _ => ct fun u hu => by rw [aam hG hu]
theorem pj {N : Nat} {Es : List Ed} (hG : gK (N : Int) Es) : (fw N Es : Int) / 3 = j7 N Es := by
 rw [iO hG]; omega
/- In how many triangles a node is: plain law. -/
def tn (N : Nat) (Es : List Ed) (v : Nat) : Nat := sm N fun w => sm w fun u => ad Es u w * (ad Es u v * ad Es w v)
theorem aa0 {n : List Int} {w v : Nat} (hv : v < n.length) : (ij n w).getD v 0 = n.getD v 0 + if v = w then 1 else 0 := by
 unfold ij;simp only [aP,show ((w : Int)).toNat = w by omega];by_cases e : v = w
 ·subst e; rw [List.getElem?_set_self hv,if_pos rfl]; rfl
 ·rw [List.getElem?_set_ne (Ne.symm e),if_neg e]; omega
theorem IH {v : Nat} : ∀ {S n : List Int},v < n.length -> (∀ x ∈ S,0 <= x) -> S.Nodup -> (S.foldl ij n).getD v 0 = n.getD v 0 + if (v : Int) ∈ S then 1 else 0
 | [],n,_,_,_ => by simp
 | x :: r,n,hv,h0,hn => by
   obtain ⟨n1,n2⟩ := IW.1 hn;have hx := h0 x (by simp);obtain ⟨w,rfl⟩ : ∃ w : Nat,x = w := ⟨x.toNat,by omega⟩;rw [de,IH (by rw [kK]; exact hv) (fun y hy => h0 y (by simp [hy])) n2,aa0 hv];by_cases e : v = w
   ·subst e; rw [if_pos rfl,if_neg n1,if_pos (by simp)]; omega
   ·have e2 : ¬ (v : Int) = (w : Int) := by omega
    rw [if_neg e];by_cases q : (v : Int) ∈ r
    ·rw [if_pos q,if_pos (by simp [q])]; omega
    ·rw [if_neg q,if_neg (by simp [q,e2])]; omega
theorem Lw {N : Nat} {Es : List Ed} (hG : gK (N : Int) Es) {v : Nat} : ∀ (l : List Ed) (n : List Int),(∀ e ∈ l,e ∈ Es) -> v < n.length -> (l.foldl (fun n e => (gF N Es e).foldl ij n) n).getD v 0 = n.getD v 0 + ((l.map fun e => if (v : Int) ∈ gF N Es e then 1 else 0).sum : Nat)
 | [],n,_,_ => by simp
 | e :: r,n,h,hv => by
   have he := hG.2.2 e (h e (by simp));have cu := xZ hG (e := e) (by omega);have cm := iV hG (e := e) (by omega);rw [de,Lw hG r _ (fun x hx => h x (by simp [hx])) (by rw [iW]; exact hv),IH hv (fun x hx => by have := (oM hG ((cm x).1 hx).1).2.1; omega) (qb (fun {a b} h => by omega) cu),dR,iX];split <;> omega
theorem qe {N : Nat} {Es : List Ed} (hG : gK (N : Int) Es) {v : Nat} (hv : v < N) : (du N Es).getD v 0 = (tn N Es v : Nat) := by
 have h := Lw hG (v := v) Es (aO N 0) (fun _ h => h) (by simpa using hv);have z : (aO N (0 : Int)).getD v 0 = 0 := by rw [aP,List.getElem?_replicate,if_pos hv]; rfl
 rw [z,Int.zero_add] at h;unfold du;rw [h];congr 1
 have h1 : (Es.map fun e => if (v : Int) ∈ gF N Es e then 1 else 0).sum = (Es.map fun e => ad Es e.1.toNat v * ad Es e.2.toNat v).sum := by
  congr 1;refine UF fun e he => ?_;have hb := hG.2.2 e he;have cm := iV hG (e := e) (by omega) (v : Int);unfold ad;rw [show ((e.1.toNat : Nat) : Int) = e.1 by omega,show ((e.2.toNat : Nat) : Int) = e.2 by omega];by_cases k1 : jn Es e.1 v
  ·by_cases k2 : jn Es e.2 v
   ·rw [if_pos (cm.2 ⟨k1,k2⟩),if_pos k1,if_pos k2]
   ·rw [if_neg fun q => k2 (cm.1 q).2,if_neg k2]; simp
  ·rw [if_neg fun q => k1 (cm.1 q).1,if_neg k1]; simp
 rw [h1];refine (zK N (fun u w => ad Es u v * ad Es w v) Es (zH hG.2.1) hG.2.2).trans ?_;exact ct fun w _ => ct fun u hu => by rw [aam hG hu]
theorem aaZ {n : List Int} {w : Int} (h0 : 0 <= w) (h1 : w < n.length) : (ij n w).sum = n.sum + 1 := by
 obtain ⟨k,rfl⟩ : ∃ k : Nat,w = k := ⟨w.toNat,by omega⟩;unfold ij;rw [show ((k : Int)).toNat = k by omega]
 have : ∀ (n : List Int) (k : Nat),k < n.length -> (n.set k (n.getD k 0 + 1)).sum = n.sum + 1 := by
  intro n
  induction n with
  | nil => intro k h; simp at h
  | cons a r ih =>
    intro k h;cases k with
    | zero => simp; omega
    | succ k => have := ih k (by simpa using h); simp at this ⊢; omega
 exact this n k (by omega)
theorem IG : ∀ {S n : List Int},(∀ x ∈ S,0 <= x /\ x < (n.length : Int)) -> (S.foldl ij n).sum = n.sum + S.length
 | [],n,_ => by simp
 | w :: r,n,h => by
   have hw := h w (by simp);rw [de,IG (fun x hx => by rw [kK]; exact h x (by simp [hx])),aaZ hw.1 hw.2];simp only [bY]; omega
theorem W6 {N : Nat} {Es : List Ed} (hG : gK (N : Int) Es) : (du N Es).sum = (fw N Es : Int) := by
 have : ∀ (l : List Ed) (n : List Int),(∀ e ∈ l,e ∈ Es) -> n.length = N -> (l.foldl (fun n e => (gF N Es e).foldl ij n) n).sum = n.sum + ((l.map fun e => (gF N Es e).length).sum : Nat) := by
  intro l
  induction l with
  | nil => intro n _ _; simp
  | cons e r ih =>
    intro n h hn;have he := hG.2.2 e (h e (by simp));have cm := iV hG (e := e) (by omega);rw [de,ih _ (fun x hx => h x (by simp [hx])) (by rw [iW]; exact hn),IG fun x hx => ?_,dR,iX]
    ·omega
    ·have := (oM hG ((cm x).1 hx).1).2.1; omega
 have h := this Es (aO N 0) (fun _ h => h) (by simp)
 have z : ∀ k,(aO k (0 : Int)).sum = 0 := by
  intro k
  induction k with
  | zero => rfl
  | succ j ihj => rw [List.replicate_succ,iX,ihj]; rfl
 rw [z N,Int.zero_add] at h;exact h
theorem pk {N : Nat} {Es : List Ed} (hG : gK (N : Int) Es) : fw N Es <= 64 * Es.length := by
 unfold fw;have hN := hG.1
 have : ∀ l : List Ed,(∀ e ∈ l,e ∈ Es) -> (l.map fun e => (gF N Es e).length).sum <= 64 * l.length := by
  intro l
  induction l with
  | nil => intro _; simp
  | cons e r ih =>
    intro h;have he := hG.2.2 e (h e (by simp));have := nx hG (e := e) (by omega);have := ih fun x hx => h x (by simp [hx]);simp only [dR,iX,bY];omega
 exact this Es fun e h => h
theorem I5 {N : Nat} {Es : List Ed} (hG : gK (N : Int) Es) : ∀ x ∈ du N Es,0 <= x /\ x <= (64 * Es.length : Nat) := by
 have hN := hG.1
 have : ∀ (l : List Ed) (n : List Int) (k : Nat),(∀ e ∈ l,e ∈ Es) -> (∀ x ∈ n,0 <= x /\ x <= (k : Int)) -> ∀ x ∈ l.foldl (fun n e => (gF N Es e).foldl ij n) n,0 <= x /\ x <= ((k + 64 * l.length : Nat) : Int) := by
  intro l
  induction l with
  | nil => intro n k _ h; simpa using h
  | cons e r ih =>
    intro n k h hn x hx;have he := hG.2.2 e (h e (by simp));have cl := nx hG (e := e) (by omega);rw [de] at hx;have := ih _ (k + 64) (fun y hy => h y (by simp [hy])) (fun y hy => by have := uH _ _ (k : Int) (by omega) hn y hy; omega) x hx;simp only [bY];omega
 intro x hx;have := this Es (aO N 0) 0 (fun _ h => h) (fun y hy => by rw [List.eq_of_mem_replicate hy]; omega) x hx;omega
theorem Xo (f : Nat -> Nat) (u : Nat) : ∀ n,u < n -> f u <= sm n f
 | 0,h => by omega
 | n + 1,h => by
   rw [sm];by_cases e : u = n
   ·subst e; omega
   ·have := Xo f u n (by omega); omega
theorem Xn (f : Nat -> Nat) (u w : Nat) (h : u < w) : ∀ n,w < n -> f u + f w <= sm n f
 | 0,k => by omega
 | n + 1,k => by
   rw [sm];by_cases e : w = n
   ·subst e; have := Xo f u w h; omega
   ·have := Xn f u w h n (by omega); omega
theorem RM {N : Nat} {Es : List Ed} (hG : gK (N : Int) Es) {v : Nat} (hv : v < N) (h : (fF N Es v).length < 2) : tn N Es v = 0 := by
 rw [Vr hG hv] at h;unfold tn;rw [ct (g := fun _ => 0) fun w hw => ?_,ma];rw [ct (g := fun _ => 0) fun u hu => ?_,ma];have h2 := Xn (fun w => ad Es v w) u w hu N hw;have a1 := mh Es u v;have a2 := mh Es w v;have b1 : ad Es v u <= 1 := by unfold ad; split <;> omega
 have b2 : ad Es v w <= 1 := by unfold ad; split <;> omega
 rw [a1,a2];rcases (show ad Es v u = 0 \/ ad Es v w = 0 by omega) with e | e <;> rw [e] <;> simp
def pr (n : Nat) : Nat := n * (n - 1) / 2
theorem EJ (n : Nat) : 2 * pr n = n * (n - 1) := by
 have h : n * (n - 1) % 2 = 0 := by
  rw [Nat.mul_mod];rcases (show n % 2 = 0 \/ (n - 1) % 2 = 0 \/ n = 0 by omega) with e | e | e
  ·rw [e,Nat.zero_mul]
  ·rw [e,Nat.mul_zero]
  ·subst e; rfl
 unfold pr; omega
theorem ags {n : Nat} (h : 2 <= n) : 1 <= pr n := by
 have h1 := EJ n;have : 2 * 1 <= n * (n - 1) := PD h (by omega);omega
theorem Tj {n : Nat} (h : pr n = 0) : n < 2 := by
 by_cases k : n < 2
 ·exact k
 ·have := ags (n := n) (by omega); omega
theorem yG {n : Nat} (h : n <= 64) : pr n <= 4096 := by
 have h1 := EJ n;have : n * (n - 1) <= 64 * 64 := PD h (by omega);omega
theorem LC (f : Nat -> Nat) : ∀ (i : Nat) (l : List Int),i <= l.length -> (∀ j,j < i -> l.getD j 0 = (f j : Int)) -> (l.take i).sum = (sm i f : Nat)
 | 0,l,_,_ => by simp [sm]
 | i + 1,l,h,hf => by
   have ih := LC f i l (by omega) fun j hj => hf j (by omega);have e := hf i (by omega);rw [aP,ai (by omega)] at e;simp only [gI] at e;rw [List.take_succ_eq_append_getElem (by omega),List.sum_append,ih,e];simp [sm]
theorem I8 {N : Nat} {Es : List Ed} (hG : gK (N : Int) Es) : sm N (tn N Es) = 3 * j7 N Es := by
 have h1 := W6 hG;have h2 := LC (tn N Es) N (du N Es) (by rw [cS]; omega) fun j hj => qe hG hj;rw [List.take_of_length_le (by rw [cS]; omega),h1,iO hG] at h2;omega
theorem adC {N : Nat} {Es : List Ed} (hG : gK (N : Int) Es) {v : Nat} (hv : v < N) : tn N Es v <= 64 * Es.length := by
 have h := qe hG hv;have ln := cS N Es;rw [aP,ai (by omega)] at h;simp only [gI] at h;have := I5 hG _ (List.getElem_mem (show v < (du N Es).length by omega));omega
theorem Zn {N : Nat} {Es : List Ed} (hG : gK (N : Int) Es) (h : sm N (fun v => pr (fF N Es v).length) = 0) : j7 N Es = 0 := by
 have e : sm N (tn N Es) = 0 := by
  rw [ct (g := fun _ => 0) fun v hv => ?_,ma];have := Xo (fun v => pr (fF N Es v).length) v N hv;exact RM hG hv (Tj (by omega))
 rw [I8 hG] at e;omega
end Go.BmP
