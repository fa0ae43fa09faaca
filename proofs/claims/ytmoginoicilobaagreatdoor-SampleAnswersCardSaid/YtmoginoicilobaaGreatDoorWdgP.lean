/- Counting triangles: plain sums. -/
import Derived.Test.YtmoginoicilobaaGreatDoorT06
set_option linter.unusedSimpArgs false
set_option linter.unusedVariables false
open List renaming length_append → cM, length_map → iM, range → wW
open Nat renaming mul_assoc → Ap, mul_comm → mT
namespace Go.BmP
open Go.Am Go.Bm
def sm : Nat -> (Nat -> Nat) -> Nat
 | 0,_ => 0
 | n + 1,f => sm n f + f n
theorem dP {f g : Nat -> Nat} : ∀ {n : Nat},(∀ i,i < n -> f i = g i) -> sm n f = sm n g
 | 0,_ => rfl
 | n + 1,h => by rw [sm,sm,dP fun i hi => h i (by omega),h n (by omega)]
theorem ob (f g : Nat -> Nat) : ∀ n,sm n (fun i => f i + g i) = sm n f + sm n g
 | 0 => rfl
 | n + 1 => by simp only [sm,ob f g n]; omega
theorem xw (c : Nat) (f : Nat -> Nat) : ∀ n,sm n (fun i => c * f i) = c * sm n f
 | 0 => rfl
 | n + 1 => by simp only [sm,xw c f n,Nat.mul_add]
theorem we : ∀ n,sm n (fun _ => 0) = 0
 | 0 => rfl
 | n + 1 => by simp [sm,we n]
theorem LN (g : Nat -> Nat -> Nat) (h : ∀ u,g u u = 0) : ∀ n,sm n (fun u => sm n fun v => g u v) = sm n fun v => sm v fun u => g u v + g v u
 | 0 => rfl
 | n + 1 => by
   have e : sm (n + 1) (fun u => sm (n + 1) fun v => g u v) = (sm n (fun u => sm n fun v => g u v) + sm n fun u => g u n) + (sm n (fun v => g n v) + g n n) := by
    simp only [sm];rw [ob (fun u => sm n fun v => g u v) (fun u => g u n) n]
   rw [e,LN g h n,h n];simp only [sm];rw [ob (fun u => g u n) (fun u => g n u) n];omega
def sm3 (n : Nat) (f : Nat -> Nat -> Nat -> Nat) : Nat := sm n fun u => sm n fun v => sm n fun w => f u v w
def DD (n : Nat) (f : Nat -> Nat -> Nat -> Nat) : Nat := sm n fun w => sm w fun v => sm v fun u => f u v w
theorem VW (c n : Nat) (f : Nat -> Nat -> Nat -> Nat) : DD n (fun u v w => c * f u v w) = c * DD n f := by
 unfold DD;rw [<- xw];refine dP fun w _ => ?_;rw [<- xw];exact dP fun v _ => xw _ _ _
theorem Ot {n : Nat} {f g : Nat -> Nat -> Nat -> Nat} (h : ∀ u v w,u < v -> v < w -> w < n -> f u v w = g u v w) : DD n f = DD n g :=
 dP fun w hw => dP fun v hv => dP fun u hu => h u v w hu hv hw
theorem LP (f : Nat -> Nat -> Nat -> Nat) (h1 : ∀ u w,f u u w = 0) (h2 : ∀ u v,f u v u = 0) (h3 : ∀ u v,f u v v = 0) : ∀ n,sm3 n f = DD n fun u v w => f u v w + f u w v + f v u w + f v w u + f w u v + f w v u
 | 0 => rfl
 | n + 1 => by
   have ih := LP f h1 h2 h3 n
   have e : sm3 (n + 1) f = sm3 n f + (sm n (fun u => sm n fun v => f u v n) + sm n (fun u => sm n fun w => f u n w) + sm n (fun v => sm n fun w => f n v w)) := by
    unfold sm3;have a1 : ∀ u v,sm (n + 1) (fun w => f u v w) = sm n (fun w => f u v w) + f u v n := fun u v => rfl;simp only [a1]
    have a2 : ∀ u,sm (n + 1) (fun v => sm n (fun w => f u v w) + f u v n) = (sm n (fun v => sm n fun w => f u v w) + sm n (fun v => f u v n)) + (sm n (fun w => f u n w) + f u n n) := fun u => by
     rw [show sm (n + 1) (fun v => sm n (fun w => f u v w) + f u v n) = sm n (fun v => sm n (fun w => f u v w) + f u v n) + (sm n (fun w => f u n w) + f u n n) from rfl,ob]
    simp only [a2,h3,Nat.add_zero];rw [show sm (n + 1) (fun u => sm n (fun v => sm n fun w => f u v w) + sm n (fun v => f u v n) + sm n (fun w => f u n w)) = sm n (fun u => sm n (fun v => sm n fun w => f u v w) + sm n (fun v => f u v n) + sm n (fun w => f u n w)) + (sm n (fun v => sm n fun w => f n v w) + sm n (fun v => f n v n) + sm n (fun w => f n n w)) from rfl,ob,ob];have z1 : sm n (fun v => f n v n) = 0 := by rw [dP fun i _ => h2 n i,we]
    have z2 : sm n (fun w => f n n w) = 0 := by rw [dP fun i _ => h1 n i,we]
    rw [z1,z2];omega
   rw [e,ih,LN (fun u v => f u v n) (fun u => h1 u n),LN (fun u v => f u n v) (fun u => h2 u n),LN (fun u v => f n u v) (fun u => h3 n u)];show _ = DD n _ + sm n fun v => sm v fun u => f u v n + f u n v + f v u n + f v n u + f n u v + f n v u;rw [<- ob,<- ob];congr 1;refine dP fun v _ => ?_;rw [<- ob,<- ob];exact dP fun u _ => by omega
theorem T7 (A : Nat -> Nat -> Nat) (sy : ∀ u v,A u v = A v u) (ir : ∀ u,A u u = 0) (n : Nat) : (sm n fun v => sm v fun u => A u v * sm n fun w => A u w * A v w) = 3 * DD n fun u v w => A u v * A u w * A v w := by
 have h1 := LN (fun u v => A u v * sm n fun w => A u w * A v w) (fun u => by simp [ir]) n
 have h2 : (sm n fun v => sm v fun u => A u v * (sm n fun w => A u w * A v w) + A v u * sm n fun w => A v w * A u w) = 2 * sm n fun v => sm v fun u => A u v * sm n fun w => A u w * A v w := by
  rw [<- xw];refine dP fun v _ => ?_;rw [<- xw];refine dP fun u _ => ?_;rw [sy v u,dP (f := fun w => A v w * A u w) (g := fun w => A u w * A v w) fun w _ => mT _ _];omega
 have h3 : (sm n fun u => sm n fun v => A u v * sm n fun w => A u w * A v w) = sm3 n fun u v w => A u v * A u w * A v w := by
  unfold sm3;refine dP fun u _ => dP fun v _ => ?_;rw [<- xw];exact dP fun w _ => (Ap _ _ _).symm
 have h4 := LP (fun u v w => A u v * A u w * A v w) (fun u w => by simp [ir]) (fun u v => by simp [ir]) (fun u v => by simp [ir]) n
 have h5 : (DD n fun u v w => A u v * A u w * A v w + A u w * A u v * A w v + A v u * A v w * A u w + A v w * A v u * A w u + A w u * A w v * A u v + A w v * A w u * A v u) = 6 * DD n fun u v w => A u v * A u w * A v w := by
  rw [<- VW];refine Ot fun u v w _ _ _ => ?_;rw [sy v u,sy w u,sy w v];generalize A u v = a;generalize A u w = b;generalize A v w = c;have e1 : b * a * c = a * b * c := by rw [mT b a]
  have e2 : a * c * b = a * b * c := by rw [Ap,mT c b,Ap]
  have e3 : c * a * b = a * b * c := by rw [mT c a,e2]
  have e4 : b * c * a = a * b * c := by rw [mT (b * c),Ap]
  have e5 : c * b * a = a * b * c := by rw [mT c b,e4]
  rw [e1,e2,e3,e4,e5];omega
 omega
/- The numbers of triangles as sums over nodes: plain law. -/
instance jnD (E : List Ed) (a b : Int) : Decidable (jn E a b) := by unfold jn; infer_instance
def ad (Es : List Ed) (u v : Nat) : Nat := if jn Es u v then 1 else 0
theorem acf (Es : List Ed) (u v : Nat) : ad Es u v = ad Es v u := by
 unfold ad;have : jn Es u v ↔ jn Es v u := by unfold jn; exact Or.comm
 by_cases h : jn Es u v
 ·rw [if_pos h,if_pos (this.1 h)]
 ·rw [if_neg h,if_neg fun k => h (this.2 k)]
theorem afO {N : Nat} {Es : List Ed} (hG : kC (N : Int) Es) (u : Nat) : ad Es u u = 0 := by
 unfold ad;rw [if_neg fun h => (zQ hG h).2.2 rfl]
theorem Ja (p : Nat -> Bool) : ∀ n,((wW n).filter p).length = sm n fun i => if p i = true then 1 else 0
 | 0 => rfl
 | n + 1 => by
   rw [List.range_succ,List.filter_append,cM,Ja p n,sm];congr 1;by_cases h : p n = true <;> simp [h]
theorem VU {N : Nat} {l : List Int} (p : Nat -> Bool) (hu : Up l) (h : ∀ x,x ∈ l ↔ (0 <= x /\ x < (N : Int)) /\ p x.toNat = true) : l.length = sm N fun i => if p i = true then 1 else 0 := by
 have e : l = ((wW N).filter p).map fun i => ((i : Nat) : Int) := by
  refine uf hu ?_ fun x => ?_
  ·refine List.Pairwise.map _ (fun a b h => ?_) ((List.pairwise_lt_range (n := N)).filter p);show (a : Int) < b;omega
  ·rw [h,List.mem_map];constructor
   ·rintro ⟨h1,h2⟩;exact ⟨x.toNat,List.mem_filter.2 ⟨List.mem_range.2 (by omega),h2⟩,by omega⟩
   ·rintro ⟨i,hi,rfl⟩;obtain ⟨a,b⟩ := List.mem_filter.1 hi;have := List.mem_range.1 a;exact ⟨by omega,by rw [show ((i : Nat) : Int).toNat = i by omega]; exact b⟩
 rw [e,iM,Ja]
theorem Vg {N : Nat} {Es : List Ed} (hG : kC (N : Int) Es) {u v : Nat} (hu : u < N) (hv : v < N) : (qW N Es ((u : Int),(v : Int))).length = sm N fun w => ad Es u w * ad Es v w := by
 rw [VU (N := N) (fun w => decide (jn Es u w) && decide (jn Es v w)) (ZI hG (e := ((u : Int),(v : Int))) (by simp only; omega)) fun x => ?_]
 ·refine dP fun w _ => ?_;unfold ad;by_cases h : jn Es u w <;> by_cases k : jn Es v w <;> simp [h,k]
 ·rw [Ac hG (by simp only; omega)];simp only [Bool.and_eq_true,decide_eq_true_eq];constructor
  ·rintro ⟨h,k⟩;have := (zQ hG h).2.1;refine ⟨this,?_⟩;rw [show ((x.toNat : Nat) : Int) = x by omega];exact ⟨h,k⟩
  ·rintro ⟨h1,h2⟩;rw [show ((x.toNat : Nat) : Int) = x by omega] at h2;exact h2
theorem Oz (c : Nat -> Nat) (k : Nat) : ∀ n,sm n (fun i => if i = k then c i else 0) = if k < n then c k else 0
 | 0 => by simp [sm]
 | n + 1 => by
   rw [sm,Oz c k n];by_cases h : n = k
   ·subst h; simp
   ·rw [if_neg h];by_cases h2 : k < n
    ·rw [if_pos h2,if_pos (by omega)]; rfl
    ·rw [if_neg h2,if_neg (by omega)]
def inE (Es : List Ed) (u v : Nat) : Nat := if ((u : Int),(v : Int)) ∈ Es then 1 else 0
theorem HI (N : Nat) (F : Nat -> Nat -> Nat) : ∀ Es : List Ed,Es.Nodup -> (∀ e ∈ Es,0 <= e.1 /\ e.1 < e.2 /\ e.2 < (N : Int)) -> (Es.map fun e => F e.1.toNat e.2.toNat).sum = sm N fun v => sm v fun u => inE Es u v * F u v
 | [],_,_ => by
   rw [dP (g := fun _ => 0) fun v _ => by rw [dP (g := fun _ => 0) fun u _ => by simp [inE],we],we];rfl
 | e :: r,hn,h => by
   obtain ⟨n1,n2⟩ := List.nodup_cons.1 hn;obtain ⟨a,b,c⟩ := h e (by simp);rw [List.map_cons,List.sum_cons,HI N F r n2 fun x hx => h x (by simp [hx])]
   have e1 : ∀ u v : Nat,inE (e :: r) u v * F u v = (if v = e.2.toNat then (if u = e.1.toNat then F u v else 0) else 0) + inE r u v * F u v := fun u v => by
    unfold inE;by_cases k : ((u : Int),(v : Int)) = e
    ·have k2 : ((u : Int),(v : Int)) ∉ r := by rw [k]; exact n1
     have k3 : u = e.1.toNat := by rw [<- k]; simp
     have k4 : v = e.2.toNat := by rw [<- k]; simp
     rw [if_pos (by rw [k]; simp),if_neg k2,if_pos k4,if_pos k3];omega
    ·have k3 : ¬ (v = e.2.toNat /\ u = e.1.toNat) := fun ⟨q1,q2⟩ => k (Prod.ext (by simp; omega) (by simp; omega))
     have k4 : (if v = e.2.toNat then (if u = e.1.toNat then F u v else 0) else 0) = 0 := by
      by_cases q1 : v = e.2.toNat
      ·rw [if_pos q1,if_neg fun q2 => k3 ⟨q1,q2⟩]
      ·rw [if_neg q1]
     rw [k4,Nat.zero_add];by_cases q : ((u : Int),(v : Int)) ∈ r
     ·rw [if_pos (by simp [q]),if_pos q]
     ·rw [if_neg (by simp [q,k]),if_neg q]
   have e2 : (sm N fun v => sm v fun u => inE (e :: r) u v * F u v) = (sm N fun v => if v = e.2.toNat then F e.1.toNat v else 0) + sm N fun v => sm v fun u => inE r u v * F u v := by
    rw [<- ob];refine dP fun v _ => ?_;rw [dP fun u _ => e1 u v,ob];congr 1;by_cases q : v = e.2.toNat
    ·simp only [q,if_true];rw [Oz (fun u => F u e.2.toNat) e.1.toNat,if_pos (by omega)]
    ·simp only [q,if_false,we]
   rw [e2,Oz (fun v => F e.1.toNat v) e.2.toNat,if_pos (by omega)]
theorem afj {N : Nat} {Es : List Ed} (hG : kC (N : Int) Es) {u v : Nat} (h : u < v) : inE Es u v = ad Es u v := by
 unfold inE ad jn;have : ((v : Int),(u : Int)) ∉ Es := fun k => by have := (hG.2.2 _ k).2.1; simp only at this; omega
 by_cases k : ((u : Int),(v : Int)) ∈ Es <;> simp [k,this]
theorem T6 {Es : List Ed} (h : Ql Es) : Es.Nodup := List.Pairwise.imp (fun {a b} h e => by subst e; exact KG h) h
def N5 (N : Nat) (Es : List Ed) : Nat := DD N fun u v w => ad Es u v * ad Es u w * ad Es v w
theorem Ou {N : Nat} {Es : List Ed} (hG : kC (N : Int) Es) : qM N Es = 3 * N5 N Es := by
 have h1 : qM N Es = (Es.map fun e => sm N fun w => ad Es e.1.toNat w * ad Es e.2.toNat w).sum := by
  unfold qM;congr 1;refine List.map_congr_left fun e he => ?_;have := hG.2.2 e he;have h2 := Vg hG (u := e.1.toNat) (v := e.2.toNat) (by omega) (by omega);rw [<- h2];congr 2;exact Prod.ext (by simp; omega) (by simp; omega)
 have h3 := HI N (fun u v => sm N fun w => ad Es u w * ad Es v w) Es (T6 hG.2.1) hG.2.2;rw [h1];refine h3.trans ?_;rw [N5,<- T7 (ad Es) (acf Es) (afO hG) N];exact dP fun v _ => dP fun u hu => by rw [afj hG hu]
theorem JF {N : Nat} {Es : List Ed} (hG : kC (N : Int) Es) : (qM N Es : Int) / 3 = N5 N Es := by
 rw [Ou hG]; omega
/- In how many triangles a node is: plain law. -/
def tn (N : Nat) (Es : List Ed) (v : Nat) : Nat := sm N fun w => sm w fun u => ad Es u w * (ad Es u v * ad Es w v)
def pr (n : Nat) : Nat := n * (n - 1) / 2
theorem O3 (n : Nat) : 2 * pr n = n * (n - 1) := by
 have h : n * (n - 1) % 2 = 0 := by
  rw [Nat.mul_mod];rcases (show n % 2 = 0 \/ (n - 1) % 2 = 0 \/ n = 0 by omega) with e | e | e
  ·rw [e,Nat.zero_mul]
  ·rw [e,Nat.mul_zero]
  ·subst e; rfl
 unfold pr; omega
theorem adf {n : Nat} (h : n <= 64) : pr n <= 4096 := by
 have h1 := O3 n;have : n * (n - 1) <= 64 * 64 := Nat.mul_le_mul h (by omega);omega
/- The wedges of a graph, plainly: how many there are, their order, and how many are closed. -/
abbrev Wd := Int × Int × Int
def tU (v : Int) : List Int -> List Wd
 | [] => []
 | a :: r => r.map (fun b => (a,v,b)) ++ tU v r
def dg (N : Nat) (Es : List Ed) : Nat -> List Wd
 | 0 => []
 | n + 1 => dg N Es n ++ tU n (ph N Es n)
theorem u5 (v : Int) : ∀ l : List Int,(tU v l).length = pr l.length
 | [] => rfl
 | a :: r => by
   have ih := u5 v r;have h1 := O3 r.length;have h2 := O3 (a :: r).length;simp only [tU,cM,iM,ih];rw [List.length_cons] at h2 ⊢;generalize r.length = m at *;cases m with
   | zero => exact (show 0 + pr 0 = pr 1 from rfl)
   | succ m =>
     simp only [Nat.add_sub_cancel] at h1 h2
     have : (m + 1 + 1) * (m + 1) = (m + 1) * m + 2 * (m + 1) := by
      rw [show m + 1 + 1 = m + 2 from rfl,Nat.add_mul,mT m (m + 1)]
     omega
def ltW (x y : Wd) : Prop := x.2.1 < y.2.1 \/ x.2.1 = y.2.1 /\ (x.1 < y.1 \/ x.1 = y.1 /\ x.2.2 < y.2.2)
def cls (Es : List Ed) (w : Wd) : Bool := decide (jn Es w.1 w.2.2)
end Go.BmP
