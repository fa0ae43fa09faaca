/- The order in which a walk over the paths of a rising list hands out the closed ones: plain law. -/
import Derived.Test.YteomjfokokneoaaDoorGrfP
import Derived.Test.YteomjfokokneoaaDoorK11
open Bool renaming and_eq_true → ab, eq_iff_iff → gP, not_eq_true' → bt, or_eq_true → er
open List renaming all_eq_true → jc, filter_append → pZ, filter_eq_nil_iff → tZ, isEmpty_eq_false_iff → Jg, length_cons → c8, mem_append → aD, mem_cons → aJ, nil_sublist → CK, pairwise_append → ep, pairwise_cons → aN, sublist_cons_self → wh
open List.Pairwise renaming sublist → eh
open List.Sublist renaming append_left → eZ
open Nat renaming eq_of_testBit_eq → Ty, pow_le_pow_right → gz, testBit_and → xY, testBit_lt_two_pow → Ou, testBit_two_pow_sub_one → jO
namespace Go.BmP
open Go.Am Go.Bm Go.Bm
def wk : List Int -> List Int -> List (List Int)
 | [],_ => []
 | v :: C,P => (P ++ [v]) :: (wk C (P ++ [v]) ++ wk C P)
def qg (cl : List Int -> List Int) (ne : List Int -> Bool) (P : List Int) (v : Int) : Bool := ne (P ++ [v]) && (cl (P ++ [v])).all (fun x => decide (v <= x) || decide (x ∈ P))
def ti (cl : List Int -> List Int) (ne : List Int -> Bool) : List Int -> List Int -> List (List Int)
 | [],_ => []
 | v :: C,P => (if qg cl ne P v = true then (if cl (P ++ [v]) = P ++ [v] then [P ++ [v]] else []) ++ ti cl ne C (P ++ [v]) else []) ++ ti cl ne C P
theorem jt : ∀ {C P S : List Int},S ∈ wk C P ↔ ∃ T,T ≠ [] /\ T.Sublist C /\ S = P ++ T
 | [],P,S => by
   simp only [wk,List.not_mem_nil,false_iff];rintro ⟨T,h1,h2,_⟩;exact h1 (List.sublist_nil.1 h2)
 | v :: C,P,S => by
   simp only [wk,aJ,aD,jt (C := C)];constructor
   ·rintro (rfl | ⟨T,h1,h2,rfl⟩ | ⟨T,h1,h2,rfl⟩)
    ·exact ⟨[v],by simp,by simp,rfl⟩
    ·exact ⟨v :: T,by simp,h2.cons_cons v,by simp⟩
    ·exact ⟨T,h1,h2.cons v,rfl⟩
   ·rintro ⟨T,h1,h2,rfl⟩;cases h2 with
    | cons _ h => exact .inr (.inr ⟨T,h1,h,rfl⟩)
    | cons_cons _ h =>
      rename_i T;cases T with
      | nil => exact .inl rfl
      | cons t T => exact .inr (.inl ⟨t :: T,by simp,h,by simp⟩)
def Mono (L : List Int) (cl : List Int -> List Int) (ne : List Int -> Bool) : Prop := ∀ A B,Up A -> Up B -> (∀ x ∈ B,x ∈ L) -> (∀ x ∈ A,x ∈ B) -> (∀ x ∈ cl A,x ∈ cl B) /\ (ne B = true -> ne A = true)
theorem aaG {L : List Int} {cl : List Int -> List Int} {ne : List Int -> Bool} (h : Mono L cl ne) {P T : List Int} {v : Int} (hu : Up (P ++ v :: T)) (hL : ∀ x ∈ P ++ v :: T,x ∈ L) (h1 : ne (P ++ v :: T) = true) (h2 : cl (P ++ v :: T) = P ++ v :: T) : qg cl ne P v = true := by
 have hs : (P ++ [v]).Sublist (P ++ v :: T) := eZ ((CK T).cons_cons v) P;have hm := h (P ++ [v]) (P ++ v :: T) (eh hs hu) hu hL (fun x hx => hs.subset hx);simp only [qg,ab,jc,er,decide_eq_true_eq];refine ⟨hm.2 h1,fun x hx => ?_⟩;have := hm.1 x hx;rw [h2] at this;rcases aD.1 this with k | k
 ·exact .inr k
 ·rcases aJ.1 k with k | k
  ·exact .inl (by omega)
  ·have := (aN.1 (ep.1 hu).2.1).1 x k;exact .inl (by omega)
theorem Df {L : List Int} {cl : List Int -> List Int} {ne : List Int -> Bool} (h : Mono L cl ne) : ∀ (C P : List Int),Up (P ++ C) -> (∀ x ∈ P ++ C,x ∈ L) -> ti cl ne C P = (wk C P).filter (fun S => ne S && decide (cl S = S))
 | [],P,_,_ => rfl
 | v :: C,P,hu,hL => by
   have i1 := Df h C (P ++ [v]) (by simpa using hu) (by simpa using hL);have hs : (P ++ C).Sublist (P ++ v :: C) := eZ (wh v C) P;have i2 := Df h C P (eh hs hu) (fun x hx => hL x (hs.subset hx));simp only [ti,wk,List.filter_cons,pZ,i1,i2];by_cases g : qg cl ne P v = true
   ·have hn : ne (P ++ [v]) = true := by
     simp only [qg,ab] at g;exact g.1
    by_cases e : cl (P ++ [v]) = P ++ [v] <;> simp [g,hn,e]
   ·have none : ∀ T : List Int,T.Sublist C -> (ne (P ++ v :: T) && decide (cl (P ++ v :: T) = P ++ v :: T)) = false := by
     intro T hT;have ht : (P ++ v :: T).Sublist (P ++ v :: C) := eZ (hT.cons_cons v) P;cases hh : (ne (P ++ v :: T) && decide (cl (P ++ v :: T) = P ++ v :: T)) with
     | false => rfl
     | true =>
       simp only [ab,decide_eq_true_eq] at hh;exact absurd (aaG h (eh ht hu) (fun x hx => hL x (ht.subset hx)) hh.1 hh.2) g
    have e1 := none [] (CK C)
    have e2 : (wk C (P ++ [v])).filter (fun S => ne S && decide (cl S = S)) = [] := by
     rw [tZ];intro S hS;obtain ⟨T,_,hT,rfl⟩ := jt.1 hS;have := none T hT;simpa using this
    rw [e1,e2];simp [g]
theorem xb : ∀ {C P : List Int},Up (P ++ C) -> (wk C P).Nodup
 | [],P,_ => List.nodup_nil
 | v :: C,P,hu => by
   have hs : (P ++ C).Sublist (P ++ v :: C) := eZ (wh v C) P;have i1 := xb (C := C) (P := P ++ [v]) (by simpa using hu);have i2 := xb (C := C) (P := P) (eh hs hu)
   have hv : ∀ T : List Int,T.Sublist C -> v ∉ T := fun T hT hm => by
    have := (aN.1 (ep.1 hu).2.1).1 v (hT.subset hm);omega
   simp only [wk,List.nodup_cons,aD,not_or];refine ⟨⟨fun hm => ?_,fun hm => ?_⟩,List.nodup_append.2 ⟨i1,i2,fun a ha b hb e => ?_⟩⟩
   ·obtain ⟨T,h1,_,e⟩ := jt.1 hm;exact h1 (by simpa using e)
   ·obtain ⟨T,_,h2,e⟩ := jt.1 hm;have : [v] = T := by simpa using e
    exact hv T h2 (by rw [<- this]; simp)
   ·subst e;obtain ⟨T,_,_,e1⟩ := jt.1 ha;obtain ⟨U,_,h2,e2⟩ := jt.1 hb;rw [e1] at e2;have : v :: T = U := by simpa using e2
    exact hv U h2 (by rw [<- this]; simp)
end Go.BmP
/- The maximal pairs of a two-sided graph in the order of the walk: members, each once. -/
namespace Go.BmP
open Go.Am Go.Bm
theorem vA : ∀ {L S : List Int},Up S -> Up L -> (∀ x ∈ S,x ∈ L) -> S.Sublist L
 | [],S,_,_,h => by
   cases S with
   | nil => exact List.Sublist.slnil
   | cons x S => cases h x (by simp)
 | y :: L,[],_,_,_ => CK _
 | y :: L,x :: S,hS,hL,h => by
   have s1 := aN.1 hS;have l1 := aN.1 hL;by_cases e : x = y
   ·subst e;refine (vA s1.2 l1.2 fun z hz => ?_).cons_cons x;rcases aJ.1 (h z (by simp [hz])) with k | k
    ·have := s1.1 z hz; omega
    ·exact k
   ·have hx : x ∈ L := (aJ.1 (h x (by simp))).resolve_left e;have hy := l1.1 x hx;refine (vA hS l1.2 fun z hz => ?_).cons y;rcases aJ.1 (h z hz) with k | k
    ·rcases aJ.1 hz with j | j
     ·omega
     ·have := s1.1 z j; omega
    ·exact k
def kD (N : Nat) (Es : List Ed) (L S : List Int) : Bool := !(dO N Es L S).isEmpty
theorem aau {N : Nat} {Es : List Ed} {L : List Int} (h : kj N Es L) : Mono L (iL N Es L) (kD N Es L) := fun A B hA hB hL hAB => by
 have hAL : ∀ x ∈ A,x ∈ L := fun x hx => hL x (hAB x hx);refine ⟨YA h hA hAL hB hL hAB,fun hn => ?_⟩;have k := FW h hA hAL hB hL hAB;unfold kD at *;cases e : dO N Es L A with
 | cons _ _ => rfl
 | nil =>
   rw [e] at k;cases e2 : dO N Es L B with
   | nil => rw [e2] at hn; cases hn
   | cons z _ => cases k z (by rw [e2]; simp)
def dK (N : Nat) (Es : List Ed) (L : List Int) : List (List Int) := ti (iL N Es L) (kD N Es L) L []
theorem Da {N : Nat} {Es : List Ed} {L : List Int} (h : kj N Es L) : dK N Es L = (wk L []).filter (fun S => kD N Es L S && decide (iL N Es L S = S)) :=
 Df (aau h) L [] (by simpa using h.l.1) (by simp)
theorem iT {N : Nat} {Es : List Ed} {L : List Int} (h : kj N Es L) {S : List Int} : S ∈ dK N Es L ↔ (Up S /\ S ≠ [] /\ ∀ x ∈ S,x ∈ L) /\ dO N Es L S ≠ [] /\ iL N Es L S = S := by
 rw [Da h,List.mem_filter,jt];simp only [kD,ab,decide_eq_true_eq,bt,Jg];constructor
 ·rintro ⟨⟨T,h1,h2,e⟩,h3⟩;obtain rfl : S = T := by simpa using e
  exact ⟨⟨eh h2 h.l.1,h1,fun x hx => h2.subset hx⟩,h3⟩
 ·rintro ⟨⟨h1,h2,h3⟩,h4⟩;exact ⟨⟨S,h2,vA h1 h.l.1 h3,rfl⟩,h4⟩
theorem Qd {N : Nat} {Es : List Ed} {L : List Int} (h : kj N Es L) : (dK N Es L).Nodup := by
 rw [Da h];exact (xb (by simpa using h.l.1)).filter _
/- The walk behind a list, and what is done with each set: plain law. -/
set_option linter.unusedSimpArgs false
def kR (after P : List Int) (t : Bool) : Bool := t && decide (P.length < after.length)
def nY (after P : List Int) (t : Bool) (v : Int) : Bool := kR after P t && decide (v < after.getD P.length 0)
def Co (after P : List Int) (t : Bool) (v : Int) : Bool := kR after P t && decide (v = after.getD P.length 0)
def jd (cl : List Int -> List Int) (ne : List Int -> Bool) (after : List Int) : List Int -> List Int -> Bool -> List (List Int)
 | [],_,_ => []
 | v :: C,P,t => (if nY after P t v = false /\ qg cl ne P v = true then (if cl (P ++ [v]) = P ++ [v] /\ Co after P t v = false then [P ++ [v]] else []) ++ jd cl ne after C (P ++ [v]) (Co after P t v) else []) ++ jd cl ne after C P t
theorem pD : ∀ (P A B : List Int),dJ (P ++ A) (P ++ B) = dJ A B
 | [],_,_ => rfl
 | x :: P,A,B => by
   have ih := pD P A B;simp only [List.cons_append,dJ,Int.lt_irrefl,if_false];exact ih
theorem Ap {cl : List Int -> List Int} {ne : List Int -> Bool} : ∀ {C P S : List Int},S ∈ ti cl ne C P -> ∃ T,S = P ++ T
 | [],P,S,h => by simp [ti] at h
 | v :: C,P,S,h => by
   simp only [ti,aD] at h;rcases h with h | h
   ·split at h
    ·rcases aD.1 h with h | h
     ·split at h
      ·simp at h; exact ⟨[v],h⟩
      ·simp at h
     ·obtain ⟨T,rfl⟩ := Ap h;exact ⟨v :: T,by simp⟩
    ·simp at h
   ·exact Ap h
theorem yl {cl : List Int -> List Int} {ne : List Int -> Bool} {after : List Int} : ∀ (C P : List Int) (t : Bool),(t = true -> ∃ R,after = P ++ R) -> (t = false -> ∀ T,dJ (P ++ T) after = 1) -> jd cl ne after C P t = (ti cl ne C P).filter (fun S => decide (dJ S after = 1))
 | [],_,_,_,_ => rfl
 | v :: C,P,t,h1,h0 => by
   have i2 := yl (cl := cl) (ne := ne) C P t h1 h0;simp only [jd,ti,pZ,i2];congr 1;by_cases g : qg cl ne P v = true
   case neg => simp [g]
   -- all sets that begin with P and v come behind
   have big : nY after P t v = false -> Co after P t v = false -> (∀ T,dJ (P ++ v :: T) after = 1) -> (if nY after P t v = false /\ qg cl ne P v = true then (if cl (P ++ [v]) = P ++ [v] /\ Co after P t v = false then [P ++ [v]] else []) ++ jd cl ne after C (P ++ [v]) (Co after P t v) else []) = (if qg cl ne P v = true then (if cl (P ++ [v]) = P ++ [v] then [P ++ [v]] else []) ++ ti cl ne C (P ++ [v]) else []).filter (fun S => decide (dJ S after = 1)) := by
    intro s o k;have i1 := yl (cl := cl) (ne := ne) (after := after) C (P ++ [v]) false (fun e => by cases e) (fun _ T => by have := k T; simpa using this);rw [s,o,i1,if_pos ⟨rfl,g⟩,if_pos g,pZ];congr 1;by_cases e : cl (P ++ [v]) = P ++ [v]
    ·simp [e,k []]
    ·simp [e]
   cases t with
   | false =>
     exact big rfl rfl fun T => h0 rfl _
   | true =>
     obtain ⟨R,hR⟩ := h1 rfl;cases R with
     | nil =>
       have e : kR after P true = false := by rw [hR]; simp [kR]
       refine big (by simp [nY,e]) (by simp [Co,e]) fun T => ?_;rw [hR,pD];rfl
     | cons a R =>
       have e : kR after P true = true := by rw [hR]; simp [kR]
       have ea : after.getD P.length 0 = a := by rw [hR]; simp
       by_cases l : v < a
       ·have s : nY after P true v = true := by simp only [nY,e,ea]; simp [l]
        rw [if_neg (by rw [s]; simp),if_pos g]
        symm
        rw [tZ];intro S hS
        have : ∃ T,S = P ++ v :: T := by
         rcases aD.1 hS with h | h
         ·split at h
          ·simp at h; exact ⟨[],h⟩
          ·simp at h
         ·obtain ⟨T,rfl⟩ := Ap h;exact ⟨T,by simp⟩
        obtain ⟨T,rfl⟩ := this;rw [hR,pD];have : ¬ a < v := by omega
        simp [dJ,l,this]
       ·have s : nY after P true v = false := by simp only [nY,e,ea]; simp [l]
        by_cases q : v = a
        ·have o : Co after P true v = true := by simp only [Co,e,ea]; simp [q]
         have i1 := yl (cl := cl) (ne := ne) (after := after) C (P ++ [v]) true (fun _ => ⟨R,by rw [hR,q]; simp⟩) (fun e => by cases e);rw [s,o,i1,if_pos ⟨rfl,g⟩,if_pos g,pZ];congr 1;rw [if_neg (by simp)]
         symm
         rw [tZ];intro S hS;split at hS
         ·simp at hS;subst hS;rw [hR,pD,q];cases R <;> simp [dJ]
         ·simp at hS
        ·have o : Co after P true v = false := by simp only [Co,e,ea]; simp [q]
         refine big s o fun T => ?_;rw [hR,pD];have : a < v := by omega
         simp [dJ,this]
def ek {σ : Type} (tk : σ -> List Int -> σ × Bool) : List (List Int) -> σ -> σ × Bool
 | [],s => (s,true)
 | S :: r,s => if (tk s S).2 = true then ek tk r (tk s S).1 else ((tk s S).1,false)
theorem IL {σ : Type} {tk : σ -> List Int -> σ × Bool} : ∀ (a b : List (List Int)) (s : σ),ek tk (a ++ b) s = if (ek tk a s).2 = true then ek tk b (ek tk a s).1 else ((ek tk a s).1,false)
 | [],_,_ => by simp [ek]
 | S :: a,b,s => by
   have ih := IL (tk := tk) a b (tk s S).1;simp only [List.cons_append,ek];split
   ·exact ih
   ·rfl
def VJ (most : Int) (o : List (List Int)) (S : List Int) : List (List Int) × Bool := (o ++ [S],decide ((o.length : Int) + 1 <= most))
theorem aet {most : Int} {o : List (List Int)} (S : List Int) (h : (o.length : Int) + 1 <= most) : VJ most o S = (o ++ [S],true) := by unfold VJ; rw [decide_eq_true h]
theorem aeu {most : Int} {o : List (List Int)} (S : List Int) (h : ¬ (o.length : Int) + 1 <= most) : VJ most o S = (o ++ [S],false) := by unfold VJ; rw [decide_eq_false h]
theorem SZ {most : Int} {o : List (List Int)} (S : List Int) (r : List (List Int)) (h : (o.length : Int) + 1 <= most) : ek (VJ most) (S :: r) o = ek (VJ most) r (o ++ [S]) := by
 rw [ek,aet S h]; rfl
theorem aaH {most : Int} {o : List (List Int)} (S : List Int) (r : List (List Int)) (h : ¬ (o.length : Int) + 1 <= most) : ek (VJ most) (S :: r) o = (o ++ [S],false) := by
 rw [ek,aeu S h]; rfl
theorem IM {most : Int} : ∀ (l o : List (List Int)),(o.length : Int) + l.length <= most -> ek (VJ most) l o = (o ++ l,true)
 | [],o,_ => by simp [ek]
 | S :: l,o,h => by
   simp only [c8] at h;rw [SZ S l (by omega),IM l (o ++ [S]) (by simp; omega)];simp
/- The two sides of a two-sided graph swapped: the maximal pairs are the same, turned. -/
def Oa (N : Nat) (L M : List Int) : Prop := Up M /\ ∀ x,x ∈ M ↔ (0 <= x /\ x < (N : Int)) /\ x ∉ L
theorem AJ {N : Nat} {Es : List Ed} {L M : List Int} (h : kj N Es L) (hM : Oa N L M) : Oa N M L := ⟨h.l.1,fun x => by
 rw [hM.2];constructor
 ·intro k;exact ⟨h.l.2 x k,fun j => j.2 k⟩
 ·rintro ⟨k,j⟩;by_cases hx : x ∈ L
  ·exact hx
  ·exact absurd ⟨k,hx⟩ j⟩
theorem Qw {N : Nat} {Es : List Ed} {L M : List Int} (h : kj N Es L) (hM : Oa N L M) : kj N Es M := ⟨h.n,h.e,⟨hM.1,fun x hx => ((hM.2 x).1 hx).1⟩,fun e he => by
 have b := h.e.2 e he;have s := h.s e he;rw [hM.2,hM.2];constructor
 ·rintro ⟨_,k⟩ ⟨_,k2⟩;exact k (s.2 k2)
 ·intro k;exact ⟨⟨b.1,by omega⟩,fun k1 => k ⟨⟨by omega,b.2.2⟩,s.1 k1⟩⟩⟩
theorem P6 {N : Nat} {Es : List Ed} {L M S : List Int} (h : kj N Es L) (hM : Oa N L M) (hu : Up S) (hS : ∀ x ∈ S,x ∈ L) : ∀ x ∈ dO N Es L S,x ∈ M := fun x hx => by
 have := (jH h hu hS x).1 hx;exact (hM.2 x).2 ⟨this.1,this.2.1⟩
theorem NQ {N : Nat} {Es : List Ed} {L M S : List Int} (h : kj N Es L) (hM : Oa N L M) (hu : Up S) (hS : ∀ x ∈ S,x ∈ L) : dO N Es M (dO N Es L S) = iL N Es L S := by
 refine oR (u4 _ _ _ _) (s9 _ _ _ _) fun x => ?_;rw [jH (Qw h hM) (u4 N Es L S) (P6 h hM hu hS) x,oe h x,(AJ h hM).2 x];simp only [and_assoc]
theorem Dp {N : Nat} {Es : List Ed} {L M S : List Int} (h : kj N Es L) (hM : Oa N L M) (hS : S ∈ dK N Es L) : dO N Es L S ∈ dK N Es M /\ dO N Es M (dO N Es L S) = S := by
 obtain ⟨⟨k1,k2,k3⟩,k4,k5⟩ := (iT h).1 hS;have e : dO N Es M (dO N Es L S) = S := (NQ h hM k1 k3).trans k5;refine ⟨(iT (Qw h hM)).2 ⟨⟨u4 _ _ _ _,k4,P6 h hM k1 k3⟩,by rw [e]; exact k2,?_⟩,e⟩;have := NQ (Qw h hM) (AJ h hM) (u4 N Es L S) (P6 h hM k1 k3);rw [e] at this;exact this.symm
theorem Ii : ∀ {a b : List (List Int)},a.Nodup -> (∀ x ∈ a,x ∈ b) -> a.length <= b.length
 | [],_,_,_ => Nat.zero_le _
 | x :: a,b,hn,h => by
   have h1 := List.nodup_cons.1 hn;have hx : x ∈ b := h x (by simp);have ih := Ii (a := a) (b := b.erase x) h1.2 fun y hy => (List.mem_erase_of_ne (by rintro rfl; exact h1.1 hy)).2 (h y (by simp [hy]));rw [List.length_erase_of_mem hx] at ih;have := List.length_pos_of_mem hx;simp only [c8];omega
theorem Ts {N : Nat} {Es : List Ed} {L M : List Int} (h : kj N Es L) (hM : Oa N L M) : (dK N Es L).length <= (dK N Es M).length := by
 have hn : ((dK N Es L).map (dO N Es L)).Nodup := List.pairwise_map.2 (List.Pairwise.imp_of_mem (fun ha hb sZ e => sZ (by rw [<- (Dp h hM ha).2,e,(Dp h hM hb).2])) (Qd h))
 have := Ii hn fun x hx => by
  obtain ⟨S,hS,rfl⟩ := List.mem_map.1 hx;exact (Dp h hM hS).1
 simpa using this
theorem ae4 {N : Nat} {Es : List Ed} {L M : List Int} (h : kj N Es L) (hM : Oa N L M) : (dK N Es L).length = (dK N Es M).length :=
 Nat.le_antisymm (Ts h hM) (Ts (Qw h hM) (AJ h hM))
theorem ud : ∀ (C P : List Int),(wk C P).length + 1 = 2 ^ C.length
 | [],_ => rfl
 | v :: C,P => by
   have i1 := ud C (P ++ [v]);have i2 := ud C P;simp only [wk,c8,List.length_append,Nat.pow_succ];omega
theorem YY {N : Nat} {Es : List Ed} {L : List Int} (h : kj N Es L) : (dK N Es L).length < 2 ^ L.length := by
 have := ud L [];have h2 := List.length_filter_le (fun S => kD N Es L S && decide (iL N Es L S = S)) (wk L []);rw [Da h];omega
/- The bits that the walk of biclique compares: plain facts. -/
set_option linter.unusedVariables false
theorem NY {m : Nat} (h : m < 18446744073709551616) : gN m = [] ↔ m = 0 := by
 constructor
 ·intro e;by_cases h0 : m = 0
  ·exact h0
  ·rw [sg h0 h] at e; cases e
 ·rintro rfl; exact sd
theorem NZ {m n : Nat} (h : m < 18446744073709551616) (k : n < 18446744073709551616) (e : gN m = gN n) : m = n := by
 apply Ty;intro j;by_cases hj : j < 64
 ·have a : ∀ m : Nat,m.testBit j = decide ((j : Int) ∈ gN m) := fun m => by
   rw [gP,decide_eq_true_eq,gM];constructor
   ·intro h; exact ⟨j,rfl,hj,h⟩
   ·rintro ⟨i,e,_,h⟩
    rwa [show j = i by omega]
  rw [a,a,e]
 ·have p : 2 ^ 64 <= 2 ^ j := gz (by decide) (by omega);rw [Ou (by omega),Ou (by omega)]
theorem fN {N : Nat} {Es : List Ed} {L : List Int} (h : kj N Es L) {S : List Int} (hS : ∀ x ∈ S,x ∈ L) : ∀ v ∈ S,0 <= v /\ v < 64 := fun v hv => by
 have := h.l.2 v (hS v hv); have := h.n; omega
theorem lD {P : List Int} (hu : Up P) (hb : ∀ v ∈ P,0 <= v /\ v < 64) : P.length <= 64 := by
 have := fc (ei P)
 rwa [jZ hu hb] at this
theorem Xc (P : List Int) (v : Int) : ei (P ++ [v]) = ei P ||| 2 ^ v.toNat := by simp [ei,GP]
theorem abk {N : Nat} {Es : List Ed} {L P : List Int} {v : Int} (h : kj N Es L) (hu : Up (P ++ [v])) (hS : ∀ x ∈ P ++ [v],x ∈ L) : cR N Es L (P ++ [v]) = cR N Es L P &&& (cU N Es).getD v.toNat 0 := by
 have hP : Up P := (ep.1 hu).1;unfold cR;rw [jZ hu (fN h hS),jZ hP (fN h fun x hx => hS x (by simp [hx]))];simp [pW]
theorem aee (N : Nat) (Es : List Ed) (L : List Int) : cR N Es L [] = xf N L := by
 unfold cR;rw [show ei [] = 0 from rfl,sd];rfl
theorem W3 {N : Nat} {Es : List Ed} {L S : List Int} : kD N Es L S = true ↔ cR N Es L S ≠ 0 := by
 have := NY (Aa N Es L S);simp only [kD,bt,Jg,dO,ne_eq,this]
theorem Zz {N : Nat} {Es : List Ed} {L S : List Int} (h : kj N Es L) (hu : Up S) (hS : ∀ x ∈ S,x ∈ L) : ∀ x ∈ S,x ∈ iL N Es L S := fun x hx => J7 h hu hS x hx
theorem aay {w : Nat} {P : List Int} {v : Int} (hv : 0 <= v /\ v < 64) (hP : ∀ x ∈ P,0 <= x /\ x < 64) (hs : ∀ x ∈ P,x ∈ gN w) : w &&& (2 ^ v.toNat - 1) = ei (P ++ [v]) &&& (2 ^ v.toNat - 1) ↔ ((gN w).all fun x => decide (v <= x) || decide (x ∈ P)) = true := by
 have hb : ∀ x ∈ P ++ [v],0 <= x := fun x hx => by
  rcases aD.1 hx with k | k
  ·exact (hP x k).1
  ·simp at k; omega
 rw [jc];constructor
 ·intro e x hx;obtain ⟨j,rfl,h1,h2⟩ := gM.1 hx;rw [er,decide_eq_true_eq,decide_eq_true_eq];by_cases k : v <= (j : Int)
  ·exact .inl k
  ·right;have e2 := congrArg (fun n => n.testBit j) e;simp only [xY,h2,jO,show j < v.toNat by omega,decide_true,Bool.and_true] at e2;rw [fV hb] at e2;have e3 := of_decide_eq_true e2.symm;rcases aD.1 e3 with q | q
   ·exact q
   ·simp at q; omega
 ·intro k;apply Ty;intro j;simp only [xY,jO];by_cases hj : j < v.toNat
  ·simp only [hj,decide_true,Bool.and_true];rw [fV hb,gP,decide_eq_true_eq];constructor
   ·intro h2;have := k j (gM.2 ⟨j,rfl,by omega,h2⟩);rw [er,decide_eq_true_eq,decide_eq_true_eq] at this;rcases this with q | q
    ·omega
    ·simp [q]
   ·intro h2;rcases aD.1 h2 with q | q
    ·obtain ⟨i,e,_,h3⟩ := gM.1 (hs _ q)
     rwa [show j = i by omega]
    ·simp at q; omega
  ·simp [hj]
theorem UR {N : Nat} {Es : List Ed} {L P : List Int} {v : Int} (h : kj N Es L) (hu : Up (P ++ [v])) (hS : ∀ x ∈ P ++ [v],x ∈ L) : qg (iL N Es L) (kD N Es L) P v = (decide (cR N Es L (P ++ [v]) ≠ 0) && decide (cL N Es L (cR N Es L (P ++ [v])) &&& (2 ^ v.toNat - 1) = ei (P ++ [v]) &&& (2 ^ v.toNat - 1))) := by
 have hb := fN h hS;have l := aay (w := cL N Es L (cR N Es L (P ++ [v]))) (P := P) (v := v) (hb v (by simp)) (fun x hx => hb x (by simp [hx])) (fun x hx => Zz h hu hS x (by simp [hx]));unfold qg;rw [gP,ab,ab,decide_eq_true_eq,decide_eq_true_eq,l,W3];rfl
theorem uZ {N : Nat} {Es : List Ed} {L P : List Int} (h : kj N Es L) (hu : Up P) (hS : ∀ x ∈ P,x ∈ L) : iL N Es L P = P ↔ cL N Es L (cR N Es L P) = ei P := by
 have hb := fN h hS;constructor
 ·intro e;refine NZ (YI h _) (fM fun v hv => (hb v hv).2) ?_;rw [jZ hu hb];exact e
 ·intro e;unfold iL;rw [e,jZ hu hb]
def bh (P : List Int) : Nat := match P.getLast? with
 | none => 0
 | some v => 2 ^ (v.toNat + 1) - 1
theorem YT : bh [] = 0 := rfl
theorem abv (P : List Int) (v : Int) : bh (P ++ [v]) = 2 ^ (v.toNat + 1) - 1 := by simp [bh]
theorem ae3 {P : List Int} (h : ∀ v ∈ P,v < 64) : bh P < 18446744073709551616 := by
 unfold bh;split
 ·decide
 ·rename_i v hv;have := h v (List.mem_of_getLast? hv);have : 2 ^ (v.toNat + 1) <= 2 ^ 64 := gz (by decide) (by omega);omega
def cand (L P : List Int) : List Int := gN (ei L &&& (18446744073709551615 - bh P))
theorem Sh (b j : Nat) (h : b < 18446744073709551616) : (18446744073709551615 - b).testBit j = (decide (j < 64) && !b.testBit j) := by
 rw [show 18446744073709551615 - b = 2 ^ 64 - (b + 1) by omega,Nat.testBit_two_pow_sub_succ (by omega)]
theorem YF {L : List Int} (hu : Up L) (hb : ∀ v ∈ L,0 <= v /\ v < 64) : cand L [] = L := by
 have : ei L &&& 18446744073709551615 = ei L := by
  have h := fM fun v hv => (hb v hv).2;rw [show (18446744073709551615 : Nat) = 2 ^ 64 - 1 by decide,Nat.and_two_pow_sub_one_eq_mod];exact Nat.mod_eq_of_lt h
 unfold cand;rw [YT,Nat.sub_zero,this,jZ hu hb]
theorem Va {L pre C P : List Int} {v : Int} (hu : Up L) (hb : ∀ v ∈ L,0 <= v /\ v < 64) (e : L = pre ++ v :: C) : cand L (P ++ [v]) = C := by
 have hv := hb v (by simp [e]);have Ft : Up (pre ++ v :: C) := e ▸ hu;have hC : Up C := (aN.1 (ep.1 Ft).2.1).2
 have bA : 2 ^ (v.toNat + 1) - 1 < 18446744073709551616 := by
  have : 2 ^ (v.toNat + 1) <= 2 ^ 64 := gz (by decide) (by omega);omega
 unfold cand;rw [abv];refine oR (wg _) hC fun x => ?_;rw [gM];simp only [xY,Sh _ _ bA,jO,fV (fun x hx => (hb x hx).1),ab,decide_eq_true_eq,bt,decide_eq_false_iff_not];constructor
 ·rintro ⟨j,rfl,h1,h2,_,h3⟩;rw [e] at h2;rcases aD.1 h2 with k | k
  ·have := (ep.1 Ft).2.2 _ k v (by simp);omega
  ·rcases aJ.1 k with k | k
   ·omega
   ·exact k
 ·intro hx;have hxL : x ∈ L := by rw [e]; simp [hx]
  have b := hb x hxL;have := (aN.1 (ep.1 Ft).2.1).1 x hx;refine ⟨x.toNat,by omega,by omega,?_,by omega,by omega⟩
  rwa [show ((x.toNat : Nat) : Int) = x by omega]
end Go.BmP
