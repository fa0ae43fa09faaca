/- Largest cliques and maximal ones: plain. -/
import Derived.Test.YtoobjomjclombaaDoorMxF
import Derived.Test.YtoobjomjclombaaDoorMxG
set_option linter.unusedSimpArgs false
set_option linter.unusedVariables false
namespace Go.BmP
open Go.Am Go.Bm
theorem nz_app (a b : List Nat) : nz (a ++ b) = nz a ++ nz b := by simp [nz]
theorem nz_toNat {X : List Int} (h : ∀ x ∈ X,0 <= x) : nz (X.map Int.toNat) = X := by
 induction X with
 | nil => rfl
 | cons x r ih =>
   have := h x (by simp)
   have ih := ih fun y hy => h y (by simp [hy])
   unfold nz at ih ⊢
   simp only [List.map_cons]
   rw [ih,show ((x.toNat : Nat) : Int) = x by omega]
theorem isC_qs {N : Nat} {E : List Ed} {X : List Int} (h : IsC N E X) : QS N E (X.map Int.toNat) /\ nz (X.map Int.toNat) = X := by
 have h0 : ∀ x ∈ X,0 <= x := fun x hx => (h.bd x hx).1
 refine ⟨⟨?_,fun x hx => ?_⟩,nz_toNat h0⟩
 ·rw [List.pairwise_map]
  refine List.Pairwise.imp_of_mem ?_ (h.up.and h.ad)
  intro a b ha hb k
  have a0 := h0 a ha
  have b0 := h0 b hb
  have := k.1
  refine ⟨by omega,?_⟩
  rw [show ((a.toNat : Nat) : Int) = a by omega,show ((b.toNat : Nat) : Int) = b by omega]
  exact k.2
 ·obtain ⟨y,hy,rfl⟩ := List.mem_map.1 hx
  have := h.bd y hy
  omega
theorem fst_cmp {N : Nat} {E : List Ed} {O : List Nat} (hF : Fst N E O) {X : List Int} (h : IsC N E X) (hl : X.length = O.length) : ¬ cmpL X (nz O) < 0 := by
 obtain ⟨h1,h2⟩ := isC_qs h
 rcases hF _ h1 (by simpa using hl) with k | ⟨P,a,b,T',O',e1,e2,e3⟩
 ·rw [<- h2,k,cmpL_zero.2 rfl]; decide
 ·rw [<- h2,e1,e2,nz_app,nz_app,cmpL_app]
  show ¬ cmpL ((a : Int) :: nz T') ((b : Int) :: nz O') < 0
  unfold cmpL
  rw [if_pos (by omega)]; decide
theorem filt_add (f : Int -> Bool) : ∀ l : List Int,l.length = (l.filter f).length + (l.filter fun x => !f x).length
 | [] => rfl
 | x :: r => by
   have := filt_add f r
   cases k : f x <;> simp [List.filter_cons,k] <;> omega
theorem sub_len {A B : List Int} (hA : A.Nodup) (hs : ∀ x ∈ A,x ∈ B) : A.length <= B.length := by
 induction A generalizing B with
 | nil => simp
 | cons a r ih =>
   have hc := List.nodup_cons.1 hA
   have hm := hs a (by simp)
   have := ih (B := B.erase a) hc.2 fun x hx => (List.mem_erase_of_ne (fun e => hc.1 (by rw [<- e]; exact hx))).2 (hs x (by simp [hx]))
   rw [List.length_erase_of_mem hm] at this
   have := List.length_pos_of_mem hm
   simp only [List.length_cons]; omega
section
variable {N : Nat} {E : List Ed} (h : GOK (N : Int) E)
include h
theorem ext_max {P : List Int} (hP : IsQ N E P) (hne : P ≠ []) : IsMax N E (extK N E P) /\ ∀ x ∈ P,x ∈ extK N E P := by
 obtain ⟨s1,s2,s3,s4⟩ := extK_spec h hP
 refine ⟨⟨s3,?_,fun x hx k => ?_⟩,fun x hx => (s2 x).2 (.inl hx)⟩
 ·obtain ⟨x,hx⟩ := List.exists_mem_of_ne_nil _ hne
  exact List.ne_nil_of_mem ((s2 x).2 (.inl hx))
 ·have m := (cnL_mem h (P := extK N E P) (fun y hy => (s3.bd y hy).1) x).2 ⟨hx,k⟩
  rw [s4] at m
  simp [bitL_mem] at m
theorem above_iff {s : List Int} (hs : IsC N E s) {r : Int} (hr : Rg (adjE N E) 0 (cn N E s) 0 r) (n : Int) : (n <= (s.length : Int) + r) ↔ (∃ X,IsMax N E X /\ (∀ x ∈ s,x ∈ X) /\ n <= (X.length : Int)) \/ n <= (s.length : Int) := by
 obtain ⟨r1,r2,r3⟩ := hr
 have s0 : ∀ x ∈ s,0 <= x := fun x hx => (hs.bd x hx).1
 constructor
 ·intro k
  rcases r3 with e | ⟨T,t1,t2,t3⟩
  ·right; omega
  ·by_cases hz : T.length = 0
   ·right; simp [hz] at t3; omega
   left
   have hi : Inb (2 ^ N - 1) T := fun x hx => by
    have := (cn_bit h s0 x).1 (t2 x hx)
    rw [ones_pow]; simp [this.1]
   have q := (kq_qs h T).1 ⟨t1,hi⟩
   have hQ : IsQ N E (s ++ nz T) := by
    refine ⟨fun x hx => ?_,?_⟩
    ·rcases List.mem_append.1 hx with u | u
     ·exact hs.bd x u
     ·unfold nz at u
      obtain ⟨y,hy,rfl⟩ := List.mem_map.1 u
      have := q.2 y hy
      omega
    ·rw [List.pairwise_append]
     refine ⟨hs.ad,?_,fun x hx y hy => ?_⟩
     ·unfold nz
      rw [List.pairwise_map]
      exact q.1.imp fun k => k.2
     ·unfold nz at hy
      obtain ⟨z,hz,rfl⟩ := List.mem_map.1 hy
      exact ((cn_bit h s0 z).1 (t2 z hz)).2 x hx
   have hne : s ++ nz T ≠ [] := by
    intro e
    have := congrArg List.length e
    simp [nz_length] at this
    exact hz (by simp [this.2])
   obtain ⟨m1,m2⟩ := ext_max h hQ hne
   refine ⟨_,m1,fun x hx => m2 x (by simp [hx]),?_⟩
   have := sub_len (isQ_nodup h hQ) m2
   rw [List.length_append,nz_length] at this
   omega
 ·rintro (⟨X,hX,hsub,hn⟩ | k)
  ·let T := (X.filter fun x => !decide (x ∈ s)).map Int.toNat
   have hx0 : ∀ x ∈ X,0 <= x := fun x hx => (hX.1.bd x hx).1
   have hXf : IsC N E (X.filter fun x => !decide (x ∈ s)) := ⟨hX.1.up.filter _,fun x hx => hX.1.bd x (List.mem_filter.1 hx).1,hX.1.ad.filter _⟩
   obtain ⟨q1,q2⟩ := isC_qs hXf
   obtain ⟨kq,_⟩ := (kq_qs h _).2 q1
   have hin : Inb (cn N E s) ((X.filter fun x => !decide (x ∈ s)).map Int.toNat) := by
    intro y hy
    obtain ⟨x,hx,rfl⟩ := List.mem_map.1 hy
    obtain ⟨hx1,hx2⟩ := List.mem_filter.1 hx
    have hx2 : x ∉ s := by simpa using hx2
    have b := hX.1.bd x hx1
    refine (cn_bit h s0 _).2 ⟨by omega,fun v hv => ?_⟩
    rw [show ((x.toNat : Nat) : Int) = x by omega]
    have hv2 := hsub v hv
    have hpw : ∀ {l : List Int},l.Pairwise (jn E) -> ∀ a ∈ l,∀ b ∈ l,a ≠ b -> jn E a b := by
     intro l hl
     induction hl with
     | nil => intro a ha; simp at ha
     | cons p _ ih =>
       intro a ha b hb hne
       rcases List.mem_cons.1 ha with e1 | h1 <;> rcases List.mem_cons.1 hb with e2 | h2
       ·exact absurd (e1.trans e2.symm) hne
       ·rw [e1]; exact p b h2
       ·rw [e2]; exact (p a h1).symm
       ·exact ih a h1 b h2 hne
    exact hpw hX.1.ad v hv2 x hx1 fun e => hx2 (e ▸ hv)
   have l1 := r2 _ kq hin
   rw [List.length_map] at l1
   have l2 := filt_add (fun x => decide (x ∈ s)) X
   have nd : X.Nodup := hX.1.up.imp fun {a b} k e => by omega
   have l3 := sub_len (A := X.filter fun x => decide (x ∈ s)) (B := s) (nd.filter _) fun x hx => by simpa using (List.mem_filter.1 hx).2
   omega
  ·omega
end
end Go.BmP
