/- What two ascending lists have in common, as triangles.shared finds it. -/
import Derived.Test.YtoobjomjclombaaDoorR02d
import Derived.Test.YtoobjomjclombaaDoorRwP
import Derived.Test.YtoobjomjclombaaDoorUseM
set_option linter.unusedSimpArgs false
set_option linter.unusedVariables false
set_option maxRecDepth 100000
set_option maxHeartbeats 4000000
namespace Go.BmP
open Go.Am Go.Bm
def shr : List Int -> List Int -> List Int
 | [],_ => []
 | _ :: _,[] => []
 | x :: r,y :: s => if x < y then shr r (y :: s) else if y < x then shr (x :: r) s else x :: shr r s
termination_by a b => a.length + b.length
def sSt (a b o : List Int) (J : Env) : St := ⟨(0,.list 1 (ints a)) :: (1,.list 1 (ints b)) :: (5,.own 1 (ints o)) :: J,[]⟩
/- Slices that own each other's cells: the rows of triangles.lists, one step of it. -/
def Cels (C : List AV) : Prop := ∀ c ∈ C,(∃ xs,c = .own 1 xs) \/ c = .any
/- What triangles.lists returns: the neighbours of each node, ascending. -/
def llT (o : List (List Int)) : List AV := o.map fun S => .list 1 (ints S)
def rws (R : List (List Int)) : List AV := R.map fun r => .own 1 (ints r)
def lsF (R : List (List Int)) (e : Ed) : List (List Int) := (R.set e.1.toNat (R.getD e.1.toNat [] ++ [e.2])).set e.2.toNat (R.getD e.2.toNat [] ++ [e.1])
theorem lsF_length (R : List (List Int)) (e : Ed) : (lsF R e).length = R.length := by simp [lsF]
def liSt (N : Nat) (Es : List Ed) (R : List (List Int)) (i : Nat) (J : Env) : St := ⟨(3,.sl 1 1 0 N) :: (12,.list 2 (eds Es)) :: (13,.int .i64 Es.length) :: (14,.int .i64 i) :: J,[some [.int .i64 N,.list 2 (eds Es)],some (rws R)]⟩
def lsSt (N : Nat) (Es : List Ed) (R : List (List Int)) (i : Nat) (J : Env) : St := ⟨(3,.sl 1 1 0 N) :: (45,.sl 1 1 0 N) :: (46,.int .i64 N) :: (47,.int .i64 i) :: J,[some [.int .i64 N,.list 2 (eds Es)],some (rws R)]⟩
def lstE (N : Nat) (Es : List Ed) : List (List Int) := (Es.foldl lsF (List.replicate N [])).map isort
theorem foldl_len (Es : List Ed) : ∀ R : List (List Int),(Es.foldl lsF R).length = R.length := by
 induction Es with
 | nil => intro R; rfl
 | cons e r ih => intro R; rw [List.foldl_cons,ih,lsF_length]
/- The neighbours that triangles.lists computes: plain law. -/
def nbF (u : Int) (e : Ed) : Option Int := if e.1 = u then some e.2 else if e.2 = u then some e.1 else none
theorem lsF_get {R : List (List Int)} {e : Ed} {u : Nat} (hu : u < R.length) (h0 : 0 <= e.1) (h1 : e.1 < e.2) : (lsF R e).getD u [] = R.getD u [] ++ (nbF u e).toList := by
 unfold lsF nbF;simp only [List.getD_eq_getElem?_getD];by_cases k1 : e.1 = (u : Int)
 ·have k2 : ¬ e.2 = (u : Int) := by omega
  rw [if_pos k1,List.getElem?_set_ne (by omega),show e.1.toNat = u by omega,List.getElem?_set_self hu];rfl
 ·rw [if_neg k1];by_cases k2 : e.2 = (u : Int)
  ·rw [if_pos k2,show e.2.toNat = u by omega,List.getElem?_set_self (by simpa using hu)];rfl
  ·rw [if_neg k2,List.getElem?_set_ne (by omega),List.getElem?_set_ne (by omega)];simp
theorem foldl_get {N : Nat} {u : Nat} (hu : u < N) : ∀ (Es : List Ed) (R : List (List Int)),R.length = N -> (∀ e ∈ Es,0 <= e.1 /\ e.1 < e.2) -> (Es.foldl lsF R).getD u [] = R.getD u [] ++ Es.filterMap (nbF u)
 | [],R,_,_ => by simp
 | e :: r,R,hR,h => by
   have he := h e (by simp);rw [List.foldl_cons,foldl_get hu r (lsF R e) (by rw [lsF_length]; exact hR) (fun x hx => h x (by simp [hx])),lsF_get (by omega) he.1 he.2,List.filterMap_cons,List.append_assoc];congr 1;cases nbF u e <;> simp
def nbr (N : Nat) (Es : List Ed) (u : Int) : List Int := (lstE N Es).getD u.toNat []
theorem nbr_eq {N : Nat} {Es : List Ed} {u : Nat} (hu : u < N) (h : ∀ e ∈ Es,0 <= e.1 /\ e.1 < e.2) : nbr N Es u = isort (Es.filterMap (nbF u)) := by
 have := foldl_get hu Es (List.replicate N []) (by simp) h;have e0 : (List.replicate N ([] : List Int)).getD u [] = [] := by rw [List.getD_eq_getElem?_getD,List.getElem?_replicate,if_pos hu]; rfl
 rw [e0,List.nil_append] at this;unfold nbr lstE;have hl : u < (Es.foldl lsF (List.replicate N [])).length := by rw [foldl_len,List.length_replicate]; exact hu
 rw [show ((u : Int)).toNat = u by omega,List.getD_eq_getElem?_getD,List.getElem?_map];rw [List.getD_eq_getElem?_getD] at this;rw [List.getElem?_eq_getElem hl] at this ⊢;simp at this ⊢;rw [this]
theorem nbF_some {u x : Int} {e : Ed} : nbF u e = some x ↔ (e.1 = u /\ e.2 = x) \/ (e.1 ≠ u /\ e.2 = u /\ e.1 = x) := by
 unfold nbF;split
 ·rename_i h; simp [h]
 ·rename_i h;split
  ·rename_i h2; simp [h,h2]
  ·rename_i h2; simp [h,h2]
theorem nbr_mem {N : Nat} {Es : List Ed} (hG : GOK (N : Int) Es) {u : Int} (h0 : 0 <= u) (h1 : u < N) (x : Int) : x ∈ nbr N Es u ↔ jn Es u x := by
 obtain ⟨w,rfl⟩ : ∃ w : Nat,u = w := ⟨u.toNat,by omega⟩;rw [nbr_eq (by omega) fun e he => ⟨(hG.2.2 e he).1,(hG.2.2 e he).2.1⟩,(isort_perm _).mem_iff,List.mem_filterMap];unfold jn;constructor
 ·rintro ⟨e,he,h⟩;rcases nbF_some.1 h with ⟨a,b⟩ | ⟨a,b,c⟩
  ·left; rw [<- a,<- b]; exact he
  ·right; rw [<- b,<- c]; exact he
 ·rintro (h | h)
  ·exact ⟨_,h,nbF_some.2 (.inl ⟨rfl,rfl⟩)⟩
  ·have := (hG.2.2 _ h).2.1;exact ⟨_,h,nbF_some.2 (.inr ⟨by simp only at this ⊢; omega,rfl,rfl⟩)⟩
theorem nbr_up {N : Nat} {Es : List Ed} (hG : GOK (N : Int) Es) {u : Int} (h0 : 0 <= u) (h1 : u < N) : Up (nbr N Es u) := by
 obtain ⟨w,rfl⟩ : ∃ w : Nat,u = w := ⟨u.toNat,by omega⟩;rw [nbr_eq (by omega) fun e he => ⟨(hG.2.2 e he).1,(hG.2.2 e he).2.1⟩]
 have nd : (Es.filterMap (nbF w)).Nodup := by
  have hp : Es.Pairwise (fun a b => ltE a b /\ (a.1 < a.2 /\ b.1 < b.2)) := by
   refine List.Pairwise.imp_of_mem (fun {a b} ha hb h => ⟨h,(hG.2.2 a ha).2.1,(hG.2.2 b hb).2.1⟩) hG.2.1
  refine List.Pairwise.filterMap _ (fun a b h x hx y hy e => ?_) hp;subst e;obtain ⟨h1,h2,h3⟩ := h
  have : a = b := by
   rcases nbF_some.1 hx with ⟨p,q⟩ | ⟨p,q,r⟩ <;> rcases nbF_some.1 hy with ⟨p',q'⟩ | ⟨p',q',r'⟩
   ·exact Prod.ext (by omega) (by omega)
   ·exfalso; omega
   ·exfalso; omega
   ·exact Prod.ext (by omega) (by omega)
  subst this;exact ltE_irr h1
 have nd2 : (isort (Es.filterMap (nbF w))).Nodup := (isort_perm _).nodup_iff.2 nd;refine List.Pairwise.imp₂ (fun {a b} h1 h2 => ?_) (isort_asc _) nd2;omega
theorem jn_bd {N : Nat} {Es : List Ed} (hG : GOK (N : Int) Es) {u x : Int} (h : jn Es u x) : (0 <= u /\ u < N) /\ (0 <= x /\ x < N) /\ u ≠ x := by
 rcases h with h | h <;> (have := hG.2.2 _ h; simp only at this; omega)
theorem up_len {N : Nat} : ∀ {l : List Int} {a : Nat},Up l -> (∀ x ∈ l,(a : Int) <= x /\ x < N) -> l.length <= N - a
 | [],a,_,_ => by simp
 | x :: r,a,hu,h => by
   obtain ⟨h1,h2⟩ := List.pairwise_cons.1 hu;have hx := h x (by simp);have ih := up_len (l := r) (a := a + 1) h2 fun y hy => ⟨by have := h1 y hy; omega,(h y (by simp [hy])).2⟩;simp only [List.length_cons];omega
theorem nbr_len {N : Nat} {Es : List Ed} (hG : GOK (N : Int) Es) {u : Int} (h0 : 0 <= u) (h1 : u < N) : (nbr N Es u).length <= N := by
 have := up_len (a := 0) (N := N) (nbr_up hG h0 h1) fun x hx => ⟨by have := (jn_bd hG ((nbr_mem hG h0 h1 x).1 hx)).2.1; omega,(jn_bd hG ((nbr_mem hG h0 h1 x).1 hx)).2.1.2⟩;omega
def com (N : Nat) (Es : List Ed) (e : Ed) : List Int := shr (nbr N Es e.1) (nbr N Es e.2)
def bump (n : List Int) (w : Int) : List Int := n.set w.toNat (n.getD w.toNat 0 + 1)
def triN (N : Nat) (Es : List Ed) : List Int := Es.foldl (fun n e => (com N Es e).foldl bump n) (List.replicate N 0)
def triS (N : Nat) (Es : List Ed) : Nat := (Es.map fun e => (com N Es e).length).sum
/- What graph.Neighbours returns (X01's head, beside RwP, K07, T04). -/
theorem bit_nbr {N : Nat} {Es : List Ed} (hG : GOK (N : Int) Es) {v : Nat} (hv : v < N) : bitL ((adjE N Es).getD v 0) = nbr N Es v := by
 have hN := hG.1;obtain ⟨_,_,h3⟩ := adj_spec hG;refine up_ext (bitL_up _) (nbr_up hG (by omega) (by omega)) fun x => ?_;rw [bitL_mem,nbr_mem hG (by omega) (by omega)];constructor
 ·rintro ⟨j,rfl,_,hj⟩;rw [h3] at hj;unfold jn;simpa using hj
 ·intro hj;have hb := jn_bd hG hj;obtain ⟨j,rfl⟩ : ∃ j : Nat,x = j := ⟨x.toNat,by omega⟩;refine ⟨j,rfl,by omega,?_⟩;rw [h3];unfold jn at hj;simpa using hj
theorem row_run {N : Nat} {Es : List Ed} (hG : GOK (N : Int) Es) (hE : Es.length < 1000000) {v : Nat} (hv : v < N) : callL cfgS nQV [.agg [.int .i64 N,.list 2 (eds Es)],.int .i64 v] [] = some (.int .u64 ((adjE N Es).getD v 0 : Nat),[]) := by
 have hN := hG.1;have rr := rows_run hG (by omega);have cc := gchk_run (N : Int) Es (by omega);rw [chkG_zero.2 hG] at cc;obtain ⟨a1,a2,_⟩ := adj_spec hG;have v0 : ¬ (v : Int) < 0 := by omega
 have v1 : ¬ ((adjE N Es).length : Int) <= (v : Int) := by omega
 have v2 : (v : Int) < (adjE N Es).length := by omega
 have v3 : v < (adjE N Es).length := by omega
 have gv : (us (adjE N Es))[v]? = some (.int .u64 ((adjE N Es).getD v 0 : Nat)) := by
  rw [us_get,List.getElem?_eq_getElem v3,List.getD_eq_getElem?_getD,List.getElem?_eq_getElem v3]; rfl
 have gv' : ∀ h : v < (us (adjE N Es)).length,(us (adjE N Es))[v] = .int .u64 ((adjE N Es).getD v 0 : Nat) := fun h => by rw [List.getElem?_eq_getElem h] at gv; exact Option.some.inj gv
 rw [callL_end oQV sQV (Nat.le_of_ble_eq_true rfl)];unfold qQV cQV;generalize eds Es = Y at *;have gl := us_length (adjE N Es);generalize us (adjE N Es) = Z at *;generalize (adjE N Es).getD v 0 = q at *;rw [a1] at *;simp [rQVX0,rQVX1,rQVX2,rQVX3,rQVX4,rr,cc,v0,v1,v2,v3,gv,gv',gl,a1,idx,sQa0,iQa0,lQa0,sQu,iQu,lQu,blk,eds_length,eds_get,edsAt,edAV,allLeaf_eds,cleanL_eds,cleanL_ints,ints_length,ints_get,intsAt,endL,finB]
theorem gnb_run {N : Nat} {Es : List Ed} (hG : GOK (N : Int) Es) (hE : Es.length < 1000000) {v : Nat} (hv : v < N) : callL cfgS nQz [.agg [.int .i64 N,.list 2 (eds Es)],.int .i64 v] [] = some (.list 1 (ints (nbr N Es v)),[]) := by
 have rr := row_run hG hE hv;obtain ⟨a1,a2,_⟩ := adj_spec hG
 have sm : (adjE N Es).getD v 0 < 18446744073709551616 := by
  rw [List.getD_eq_getElem?_getD,List.getElem?_eq_getElem (by omega)];exact a2 _ (List.getElem_mem _)
 have ll := mlist_run _ sm;rw [bit_nbr hG hv] at ll;generalize (adjE N Es).getD v 0 = q at rr ll;rw [callL_end oQz sQz (Nat.le_of_ble_eq_true rfl)];unfold qQz cQz;generalize eds Es = Y at *;generalize ints (nbr N Es v) = Z at *;simp [rQzX0,rQzX1,rr,ll,sQV,iQV,lQV,sQU,iQU,lQU,blk,eds_length,eds_get,edsAt,edAV,allLeaf_eds,cleanL_eds,cleanL_ints,ints_length,ints_get,intsAt,endL,finB]
end Go.BmP
