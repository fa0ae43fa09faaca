/- Walks in order: plain facts about lists in order, bits, and what is done with each. -/
import Derived.Test.YtppmiehidnpgbaaGreatDoorN01
import Derived.Test.YtppmiehidnpgbaaGreatDoorGrfP
set_option linter.unusedVariables false
set_option linter.unusedSimpArgs false
open Bool renaming and_eq_true → ae, eq_iff_iff → rj, not_eq_true' → bH, true_and → eh
open Int renaming lt_irrefl → Ve
open List renaming all_eq_true → lr, append_assoc → dj, append_nil → dF, concat_eq_append → ij, eq_nil_or_concat → ig, exists_mem_of_ne_nil → rh, length_cons → cj, length_eq_zero_iff → L5, mem_append → aG, mem_cons → aK, mem_flatMap → CL, mem_range → di, mem_singleton → cE, not_mem_nil → nS, pairwise_append → bP, pairwise_cons → aX, range → cH, replicate → aF
open List.Pairwise renaming nil → eI
open Nat renaming and_le_left → gU, eq_of_testBit_eq → Ad, lt_of_le_of_lt → gJ, pow_le_pow_right → jK, testBit_and → bI, testBit_lt_two_pow → py, testBit_two_pow_sub_one → dm, zero_testBit → ud
namespace Go.BmP
open Go.Am Go.Bm
def Me : List Int -> List Int -> List (List Int)
 | [],_ => []
 | v :: C,P => (P ++ [v]) :: (Me C (P ++ [v]) ++ Me C P)
theorem Mc : ∀ {C P S : List Int},S ∈ Me C P ↔ ∃ T,T ≠ [] /\ T.Sublist C /\ S = P ++ T
 | [],P,S => by
   simp only [Me,nS,false_iff];rintro ⟨T,h1,h2,_⟩;exact h1 (List.sublist_nil.1 h2)
 | v :: C,P,S => by
   simp only [Me,aK,aG,Mc (C := C)];constructor
   ·rintro (rfl | ⟨T,h1,h2,rfl⟩ | ⟨T,h1,h2,rfl⟩)
    ·exact ⟨[v],by simp,by simp,rfl⟩
    ·exact ⟨v :: T,by simp,h2.cons_cons v,by simp⟩
    ·exact ⟨T,h1,h2.cons v,rfl⟩
   ·rintro ⟨T,h1,h2,rfl⟩;cases h2 with
    | cons _ h => exact .inr (.inr ⟨T,h1,h,rfl⟩)
    | cons_cons _ h =>
      rename_i T;cases T with
      | nil => exact .inl rfl
      | cons t T => exact .inr (.inl ⟨t :: T,by simp,h,by simp⟩)
theorem vZ : ∀ {L S : List Int},Up S -> Up L -> (∀ x ∈ S,x ∈ L) -> S.Sublist L
 | [],S,_,_,h => by
   cases S with
   | nil => exact List.Sublist.slnil
   | cons x S => cases h x (by simp)
 | y :: L,[],_,_,_ => List.nil_sublist _
 | y :: L,x :: S,hS,hL,h => by
   have s1 := aX.1 hS;have l1 := aX.1 hL;by_cases e : x = y
   ·subst e;refine (vZ s1.2 l1.2 fun z hz => ?_).cons_cons x;rcases aK.1 (h z (by simp [hz])) with k | k
    ·have := s1.1 z hz; omega
    ·exact k
   ·have hx : x ∈ L := (aK.1 (h x (by simp))).resolve_left e;have hy := l1.1 x hx;refine (vZ hS l1.2 fun z hz => ?_).cons y;rcases aK.1 (h z hz) with k | k
    ·rcases aK.1 hz with j | j
     ·omega
     ·have := s1.1 z j; omega
    ·exact k
theorem IM : ∀ {a b : List (List Int)},a.Nodup -> (∀ x ∈ a,x ∈ b) -> a.length <= b.length
 | [],_,_,_ => Nat.zero_le _
 | x :: a,b,hn,h => by
   have h1 := List.nodup_cons.1 hn;have hx : x ∈ b := h x (by simp);have ih := IM (a := a) (b := b.erase x) h1.2 fun y hy => (List.mem_erase_of_ne (by rintro rfl; exact h1.1 hy)).2 (h y (by simp [hy]));rw [List.length_erase_of_mem hx] at ih;have := List.length_pos_of_mem hx;simp only [cj];omega
theorem uw : ∀ (C P : List Int),(Me C P).length + 1 = 2 ^ C.length
 | [],_ => rfl
 | v :: C,P => by
   have i1 := uw C (P ++ [v]);have i2 := uw C P;simp only [Me,cj,List.length_append,Nat.pow_succ];omega
def Jh (after P : List Int) (t : Bool) : Bool := t && decide (P.length < after.length)
def tl (after P : List Int) (t : Bool) (v : Int) : Bool := Jh after P t && decide (v < after.getD P.length 0)
def W3 (after P : List Int) (t : Bool) (v : Int) : Bool := Jh after P t && decide (v = after.getD P.length 0)
theorem ss : ∀ (P A B : List Int),sy (P ++ A) (P ++ B) = sy A B
 | [],_,_ => rfl
 | x :: P,A,B => by
   have ih := ss P A B;simp only [List.cons_append,sy,Ve,if_false];exact ih
def aiS {σ : Type} (tk : σ -> List Int -> σ × Bool) : List (List Int) -> σ -> σ × Bool
 | [],s => (s,true)
 | S :: r,s => if (tk s S).2 = true then aiS tk r (tk s S).1 else ((tk s S).1,false)
def tkA (most : Int) (o : List (List Int)) (S : List Int) : List (List Int) × Bool := (o ++ [S],decide ((o.length : Int) + 1 <= most))
theorem sF {m : Nat} (h : m < 18446744073709551616) : eS m = [] ↔ m = 0 := by
 constructor
 ·intro e;by_cases h0 : m = 0
  ·exact h0
  ·rw [wJ h0 h] at e; cases e
 ·rintro rfl; exact JJ
def bh (P : List Int) : Nat := match P.getLast? with
 | none => 0
 | some v => 2 ^ (v.toNat + 1) - 1
theorem ahc : bh [] = 0 := rfl
theorem acS (P : List Int) (v : Int) : bh (P ++ [v]) = 2 ^ (v.toNat + 1) - 1 := by simp [bh]
theorem aiY {P : List Int} (h : ∀ v ∈ P,v < 64) : bh P < 18446744073709551616 := by
 unfold bh;split
 ·decide
 ·rename_i v hv;have := h v (List.mem_of_getLast? hv);have : 2 ^ (v.toNat + 1) <= 2 ^ 64 := jK (by decide) (by omega);omega
theorem KV (b j : Nat) (h : b < 18446744073709551616) : (18446744073709551615 - b).testBit j = (decide (j < 64) && !b.testBit j) := by
 rw [show 18446744073709551615 - b = 2 ^ 64 - (b + 1) by omega,Nat.testBit_two_pow_sub_succ (by omega)]
/- Cliques as rising lists, and a walk that hands out the maximal ones in order: plain law. -/
section
variable {N : Nat} {E : List Ed} (h : ke (N : Int) E)
include h
theorem sa : N <= 64 := by have := h.1; omega
theorem Wf : (cU N E).length = N /\ Small (cU N E) /\ ∀ a b : Nat,((cU N E).getD a 0).testBit b = decide (jn E a b) := by
 obtain ⟨h1,h2,h3⟩ := yq N (sa h) E (aF N 0) (by simp) (fun x hx => by have := List.eq_of_mem_replicate hx; omega) h.2.2;refine ⟨h1,h2,fun a b => ?_⟩;unfold cU;rw [h3]
 have e : (aF N 0).getD a 0 = 0 := by
  rw [List.getD_eq_getElem?_getD,List.getElem?_replicate]; split <;> rfl
 rw [e,ud,Bool.false_or,rj,decide_eq_true_eq];simp [jn]
theorem Lb (a : Int) : ¬ jn E a a := by
 rintro (k | k) <;> exact absurd (h.2.2 _ k).2.1 (Ve _)
omit h in
theorem CZ {a b : Int} (k : jn E a b) : jn E b a := k.symm
def cn (N : Nat) (E : List Ed) (P : List Int) : Nat := Bf (cU N E) (2 ^ N - 1) P
theorem ye {P : List Int} (hP : ∀ x ∈ P,0 <= x) (j : Nat) : (cn N E P).testBit j = true ↔ j < N /\ ∀ v ∈ P,jn E v j := by
 unfold cn;rw [Oo,ae,dm,decide_eq_true_eq,lr];refine and_congr_right fun _ => ?_;constructor
 ·intro k v hv;have := k v hv;rw [(Wf h).2.2,decide_eq_true_eq,show ((v.toNat : Nat) : Int) = v by have := hP v hv; omega] at this;exact this
 ·intro k v hv;rw [(Wf h).2.2,decide_eq_true_eq,show ((v.toNat : Nat) : Int) = v by have := hP v hv; omega];exact k v hv
theorem Cl (P : List Int) : cn N E P < 18446744073709551616 := by
 have h1 := UM (cU N E) P (2 ^ N - 1);have h2 : 2 ^ N <= 2 ^ 64 := jK (by decide) (sa h);have h3 : 0 < 2 ^ N := Nat.two_pow_pos N;unfold cn;omega
omit h in
theorem acj (P : List Int) (v : Int) : cn N E (P ++ [v]) = cn N E P &&& (cU N E).getD v.toNat 0 := by simp [cn,Bf]
def mI (P : List Int) : Int := P.getLast?.getD (-1)
omit h in
theorem nE (P : List Int) (v : Int) : mI (P ++ [v]) = v := by simp [mI]
omit h in
theorem aaq {P : List Int} (hP : ∀ x ∈ P,0 <= x) (j : Nat) : (bh P).testBit j = true ↔ (j : Int) <= mI P := by
 rcases ig P with rfl | ⟨Q,v,rfl⟩
 ·rw [ahc,ud];simp [mI];omega
 ·rw [ij,acS,nE,dm,decide_eq_true_eq];have := hP v (by simp);omega
def mo (N : Nat) (E : List Ed) (P : List Int) : Nat := cn N E P &&& (18446744073709551615 - bh P)
def le (N : Nat) (E : List Ed) (P : List Int) : Nat := cn N E P &&& bh P
theorem aeo (P : List Int) : mo N E P < 18446744073709551616 := gJ gU (Cl h P)
theorem aer (P : List Int) : le N E P < 18446744073709551616 := gJ gU (Cl h P)
theorem P6 {P : List Int} (hP : ∀ x ∈ P,0 <= x /\ x < 64) (j : Nat) : (mo N E P).testBit j = true ↔ (j < N /\ ∀ v ∈ P,jn E v j) /\ mI P < (j : Int) := by
 have hn := sa h;have h0 : ∀ x ∈ P,0 <= x := fun x hx => (hP x hx).1;unfold mo;rw [bI,ae,ye h h0,KV _ _ (aiY fun v hv => (hP v hv).2),ae,decide_eq_true_eq];have e := aaq h0 j;constructor
 ·rintro ⟨k1,_,k2⟩;refine ⟨k1,?_⟩;by_cases q : (j : Int) <= mI P
  ·rw [e.2 q] at k2; cases k2
  ·omega
 ·rintro ⟨k1,k2⟩;refine ⟨k1,by omega,?_⟩;cases q : (bh P).testBit j with
  | false => rfl
  | true => have := e.1 q; omega
theorem Y3 {P : List Int} (hP : ∀ x ∈ P,0 <= x /\ x < 64) (j : Nat) : (le N E P).testBit j = true ↔ (j < N /\ ∀ v ∈ P,jn E v j) /\ (j : Int) <= mI P := by
 have h0 : ∀ x ∈ P,0 <= x := fun x hx => (hP x hx).1;unfold le;rw [bI,ae,ye h h0,aaq h0]
theorem wj {P : List Int} (hP : ∀ x ∈ P,0 <= x /\ x < 64) (y : Int) : y ∈ eS (mo N E P) ↔ (0 <= y /\ y < (N : Int)) /\ (∀ v ∈ P,jn E v y) /\ mI P < y := by
 have hn := sa h;rw [eY];constructor
 ·rintro ⟨j,rfl,_,k⟩;have := (P6 h hP j).1 k;exact ⟨by omega,this.1.2,this.2⟩
 ·rintro ⟨⟨k0,k1⟩,k2,k3⟩;have e : ((y.toNat : Nat) : Int) = y := by omega
  exact ⟨y.toNat,e.symm,by omega,(P6 h hP _).2 ⟨⟨by omega,by rw [e]; exact k2⟩,by rw [e]; exact k3⟩⟩
theorem CY {P : List Int} (hP : ∀ x ∈ P,0 <= x /\ x < 64) (y : Int) : y ∈ eS (le N E P) ↔ (0 <= y /\ y < (N : Int)) /\ (∀ v ∈ P,jn E v y) /\ y <= mI P := by
 have hn := sa h;rw [eY];constructor
 ·rintro ⟨j,rfl,_,k⟩;have := (Y3 h hP j).1 k;exact ⟨by omega,this.1.2,this.2⟩
 ·rintro ⟨⟨k0,k1⟩,k2,k3⟩;have e : ((y.toNat : Nat) : Int) = y := by omega
  exact ⟨y.toNat,e.symm,by omega,(Y3 h hP _).2 ⟨⟨by omega,by rw [e]; exact k2⟩,by rw [e]; exact k3⟩⟩
omit h in
theorem aao {a b : Nat} (ha : a < 18446744073709551616) (hb : b < 18446744073709551616) (k : ∀ j,j < 64 -> (a.testBit j = true ↔ b.testBit j = true)) : a = b := by
 apply Ad;intro j;by_cases hj : j < 64
 ·exact rj.2 (k j hj)
 ·have p : 2 ^ 64 <= 2 ^ j := jK (by decide) (by omega);rw [py (by omega),py (by omega)]
theorem LL {v : Int} (hv : 0 <= v) (j : Nat) : ((cU N E).getD v.toNat 0).testBit j = true ↔ jn E v j := by
 rw [(Wf h).2.2,decide_eq_true_eq,show ((v.toNat : Nat) : Int) = v by omega]
def prn (N : Nat) (E : List Ed) (P : List Int) : Bool := (eS (le N E P)).any fun x => decide (mo N E P &&& (18446744073709551615 - (cU N E).getD x.toNat 0) = 0)
theorem aa8 {P : List Int} (hP : ∀ x ∈ P,0 <= x /\ x < 64) : prn N E P = true ↔ ∃ x ∈ eS (le N E P),∀ y ∈ eS (mo N E P),jn E x y := by
 unfold prn;rw [List.any_eq_true];refine exists_congr fun x => and_congr_right fun hx => ?_;rw [decide_eq_true_eq];have x0 := ((CY h hP x).1 hx).1.1;have sm := iR (Wf h).2.1 x.toNat;constructor
 ·intro k y hy;obtain ⟨j,rfl,hj,q⟩ := eY.1 hy;have e := congrArg (fun n => n.testBit j) k;simp only [bI,q,eh,ud] at e;rw [KV _ _ sm] at e;simp only [hj,decide_true,eh,Bool.not_eq_false'] at e;exact (LL h x0 j).1 e
 ·intro k;apply Ad;intro j;rw [bI,KV _ _ sm,ud];cases q : (mo N E P).testBit j with
  | false => rfl
  | true =>
    have hj : j < 64 := by
     have := ((P6 h hP j).1 q).1.1;have := sa h;omega
    rw [(LL h x0 j).2 (k j (eY.2 ⟨j,rfl,hj,q⟩))];simp
end
structure OK (N : Nat) (E : List Ed) (P : List Int) : Prop where
 up : Up P
 bd : ∀ x ∈ P,0 <= x /\ x < (N : Int)
 ad : P.Pairwise (jn E)
def vO (N : Nat) (E : List Ed) (S : List Int) : Prop := OK N E S /\ S ≠ [] /\ ∀ x,(0 <= x /\ x < (N : Int)) -> ¬ ∀ v ∈ S,jn E v x
def wP (N : Nat) (E : List Ed) (after : List Int) : Nat -> List Int -> Bool -> List (List Int)
 | 0,_,_ => []
 | n + 1,P,t => if mo N E P = 0 then (if le N E P ≠ 0 \/ P = [] \/ (t = true /\ P.length <= after.length) then [] else [P]) else if prn N E P = true then [] else (eS (mo N E P)).flatMap fun v => if tl after P t v = true then [] else wP N E after n (P ++ [v]) (W3 after P t v)
section
variable {N : Nat} {E : List Ed} (h : ke (N : Int) E)
include h
theorem Zd {P : List Int} (k : OK N E P) : ∀ x ∈ P,0 <= x /\ x < 64 := fun x hx => by
 have := k.bd x hx; have := sa h; omega
theorem NG {P : List Int} (k : OK N E P) {v : Int} (hv : v ∈ eS (mo N E P)) : OK N E (P ++ [v]) /\ mI P < v := by
 obtain ⟨k1,k2,k3⟩ := (wj h (Zd h k) v).1 hv;refine ⟨⟨?_,fun x hx => ?_,?_⟩,k3⟩
 ·unfold Up;rw [bP];refine ⟨k.up,by simp,fun x hx y hy => ?_⟩;simp at hy;subst hy
  -- x is at most the last of P
  rcases ig P with e | ⟨Q,w,e⟩
  ·rw [e] at hx; simp at hx
  ·rw [ij] at e;have l1 : mI P = w := by rw [e,nE]
   rw [e] at hx;rcases aG.1 hx with q | q
   ·have := (bP.1 (e ▸ k.up)).2.2 x q w (by simp);omega
   ·simp at q; omega
 ·rcases aG.1 hx with q | q
  ·exact k.bd x q
  ·simp at q; rw [q]; exact k1
 ·rw [bP];refine ⟨k.ad,by simp,fun x hx y hy => ?_⟩;simp at hy;subst hy;exact k2 x hx
omit h in
theorem C0 (after : List Int) : ∀ (n : Nat) (P : List Int) (t : Bool),∀ S ∈ wP N E after n P t,∃ T,S = P ++ T
 | 0,P,t,S,hS => by simp [wP] at hS
 | n + 1,P,t,S,hS => by
   unfold wP at hS;split at hS
   ·split at hS
    ·simp at hS
    ·simp at hS; exact ⟨[],by simp [hS]⟩
   ·split at hS
    ·simp at hS
    ·obtain ⟨v,_,hv⟩ := CL.1 hS;split at hv
     ·simp at hv
     ·obtain ⟨T,rfl⟩ := C0 after n _ _ S hv;exact ⟨v :: T,by simp⟩
theorem Lg : ∀ (n : Nat) (P : List Int),OK N E P -> (N : Int) - mI P <= n -> ∀ S,S ∈ wP N E [] n P false ↔ vO N E S /\ ∃ T,S = P ++ T
 | 0,P,hP,hf,S => by
   have hn := sa h
   have : mI P < (N : Int) := by
    rcases ig P with e | ⟨Q,w,e⟩
    ·rw [e]; simp [mI]; omega
    ·rw [ij] at e;rw [e,nE];exact (hP.bd w (by rw [e]; simp)).2
   omega
 | n + 1,P,hP,hf,S => by
   have hn := sa h;have bd := Zd h hP;unfold wP;by_cases k1 : mo N E P = 0
   ·rw [if_pos k1];have noM : eS (mo N E P) = [] := (sF (aeo h P)).2 k1;by_cases k2 : le N E P ≠ 0 \/ P = [] \/ ((false : Bool) = true /\ P.length <= ([] : List Int).length)
    ·rw [if_pos k2];simp only [nS,false_iff,not_and];rintro ⟨m1,m2,m3⟩ ⟨T,rfl⟩
     -- nothing can be added
     have hT : T = [] := by
      cases T with
      | nil => rfl
      | cons v T =>
        have : v ∈ eS (mo N E P) := (wj h bd v).2 ⟨m1.bd v (by simp),fun w hw => (bP.1 m1.ad).2.2 w hw v (by simp),by
         rcases ig P with e | ⟨Q,w,e⟩
         ·rw [e]; have := m1.bd v (by simp); simp [mI]; omega
         ·rw [ij] at e;rw [e,nE];exact (bP.1 m1.up).2.2 w (by rw [e]; simp) v (by simp)⟩
        rw [noM] at this;cases this
     subst hT;rw [dF] at m2 m3;rcases k2 with q | q | q
     ·have : eS (le N E P) ≠ [] := fun e => q ((sF (aer h P)).1 e);obtain ⟨x,hx⟩ := rh _ this;obtain ⟨x1,x2,_⟩ := (CY h bd x).1 hx;exact m3 x x1 x2
     ·exact m2 q
     ·simp at q
    ·rw [if_neg k2];simp only [not_or,ne_eq,Decidable.not_not] at k2;obtain ⟨l0,p0,_⟩ := k2;rw [cE];constructor
     ·rintro rfl;refine ⟨⟨hP,p0,fun x hx hj => ?_⟩,[],by simp⟩;by_cases q : mI S < x
      ·have : x ∈ eS (mo N E S) := (wj h bd x).2 ⟨hx,hj,q⟩;rw [noM] at this; cases this
      ·have : x ∈ eS (le N E S) := (CY h bd x).2 ⟨hx,hj,by omega⟩;rw [(sF (aer h S)).2 l0] at this; cases this
     ·rintro ⟨⟨m1,m2,m3⟩,T,rfl⟩;cases T with
      | nil => simp
      | cons v T =>
        have : v ∈ eS (mo N E P) := (wj h bd v).2 ⟨m1.bd v (by simp),fun w hw => (bP.1 m1.ad).2.2 w hw v (by simp),by
         rcases ig P with e | ⟨Q,w,e⟩
         ·exact absurd e p0
         ·rw [ij] at e;rw [e,nE];exact (bP.1 m1.up).2.2 w (by rw [e]; simp) v (by simp)⟩
        rw [noM] at this;cases this
   ·rw [if_neg k1]
    -- the tail of what begins with P is among the greater ones
    have tail : ∀ v T,OK N E (P ++ v :: T) -> ∀ y ∈ v :: T,y ∈ eS (mo N E P) := fun v T m1 y hy => (wj h bd y).2 ⟨m1.bd y (aG.2 (.inr hy)),fun w hw => (bP.1 m1.ad).2.2 w hw y hy,by
     rcases ig P with e | ⟨Q,w,e⟩
     ·rw [e]; have := m1.bd y (aG.2 (.inr hy)); simp [mI]; omega
     ·rw [ij] at e;rw [e,nE];exact (bP.1 m1.up).2.2 w (by rw [e]; simp) y hy⟩
    have notP : ¬ vO N E P := by
     rintro ⟨_,_,m3⟩;have : eS (mo N E P) ≠ [] := fun e => k1 ((sF (aeo h P)).1 e);obtain ⟨x,hx⟩ := rh _ this;obtain ⟨x1,x2,_⟩ := (wj h bd x).1 hx;exact m3 x x1 x2
    by_cases k2 : prn N E P = true
    ·rw [if_pos k2];simp only [nS,false_iff,not_and];rintro ⟨m1,m2,m3⟩ ⟨T,rfl⟩;cases T with
     | nil => rw [dF] at m1 m2 m3; exact notP ⟨m1,m2,m3⟩
     | cons v T =>
       obtain ⟨x,hx,hj⟩ := (aa8 h bd).1 k2;obtain ⟨x1,x2,_⟩ := (CY h bd x).1 hx;refine m3 x x1 fun w hw => ?_;rcases aG.1 hw with q | q
       ·exact x2 w q
       ·exact CZ (hj w (tail v T m1 w q))
    ·rw [if_neg k2,CL];constructor
     ·rintro ⟨v,hv,hS⟩;obtain ⟨c1,c2⟩ := NG h hP hv;have s0 : tl [] P false v = false := rfl;have o0 : W3 [] P false v = false := rfl;rw [s0,o0,if_neg (by decide)] at hS;obtain ⟨m,T,e⟩ := (Lg n (P ++ [v]) c1 (by rw [nE]; omega) S).1 hS;exact ⟨m,v :: T,by rw [e]; simp⟩
     ·rintro ⟨m,T,rfl⟩;cases T with
      | nil => rw [dF] at m; exact absurd m notP
      | cons v T =>
        have hv := tail v T m.1 v (by simp);obtain ⟨c1,c2⟩ := NG h hP hv;have s0 : tl [] P false v = false := rfl;have o0 : W3 [] P false v = false := rfl;refine ⟨v,hv,?_⟩;rw [s0,o0,if_neg (by decide)];exact (Lg n (P ++ [v]) c1 (by rw [nE]; omega) _).2 ⟨m,T,by simp⟩
omit h in
theorem Ga : ∀ (n : Nat) (P : List Int),(wP N E [] n P false).Pairwise fun a b => sy b a = 1
 | 0,P => eI
 | n + 1,P => by
   unfold wP;split
   ·split
    ·exact eI
    ·simp
   ·split
    ·exact eI
    ·have up := kJ (mo N E P);generalize eS (mo N E P) = C at up
     induction C with
     | nil => exact eI
     | cons v C ih =>
       have up2 := aX.1 up;have s0 : tl [] P false v = false := rfl;have o0 : W3 [] P false v = false := rfl;rw [List.flatMap_cons,bP];refine ⟨?_,ih up2.2,fun a ha b hb => ?_⟩
       ·rw [s0,o0,if_neg (by decide)];exact Ga n _
       ·rw [s0,o0,if_neg (by decide)] at ha;obtain ⟨T,rfl⟩ := C0 [] n _ _ a ha;obtain ⟨w,hw,hb⟩ := CL.1 hb;split at hb
        ·simp at hb
        ·obtain ⟨U,rfl⟩ := C0 [] n _ _ b hb;have := up2.1 w hw;rw [dj,dj,ss];simp only [List.cons_append,List.nil_append,sy];rw [if_pos this]
end
def mcl (N : Nat) (E : List Ed) : List (List Int) := wP N E [] (N + 1) [] false
section
variable {N : Nat} {E : List Ed} (h : ke (N : Int) E)
include h
theorem abC {S : List Int} : S ∈ mcl N E ↔ vO N E S := by
 have c0 : OK N E [] := ⟨eI,by simp,eI⟩;have := Lg h (N + 1) [] c0 (by show (N : Int) - (-1) <= ((N + 1 : Nat) : Int); omega) S;unfold mcl;rw [this];exact ⟨fun k => k.1,fun k => ⟨k,S,by simp⟩⟩
omit h in
theorem Qa : (mcl N E).Pairwise fun a b => sy b a = 1 := Ga _ _
omit h in
theorem VV : (mcl N E).Nodup := (Qa (N := N) (E := E)).imp fun {a b} k e => by
 subst e;rw [JA.2 rfl] at k;cases k
omit h in
theorem Ja {after : List Int} : ∀ (n : Nat) (P : List Int) (t : Bool),(t = true -> ∃ R,after = P ++ R) -> (t = false -> ∀ T,sy (P ++ T) after = 1) -> wP N E after n P t = (wP N E [] n P false).filter fun S => decide (sy S after = 1)
 | 0,_,_,_,_ => rfl
 | n + 1,P,t,h1,h0 => by
   unfold wP;by_cases k1 : mo N E P = 0
   ·rw [if_pos k1,if_pos k1];by_cases k2 : le N E P ≠ 0
    ·rw [if_pos (.inl k2),if_pos (.inl k2)]; rfl
    ·by_cases k3 : P = []
     ·rw [if_pos (.inr (.inl k3)),if_pos (.inr (.inl k3))]; rfl
     ·have e2 : (if le N E P ≠ 0 \/ P = [] \/ ((false : Bool) = true /\ P.length <= ([] : List Int).length) then [] else [P]) = [P] := if_neg (by simp only [not_or]; exact ⟨k2,k3,by simp⟩);rw [e2];cases t with
      | false =>
        rw [if_neg (by simp only [not_or]; exact ⟨k2,k3,by simp⟩)];have := h0 rfl [];rw [dF] at this;simp [this]
      | true =>
        obtain ⟨R,hR⟩ := h1 rfl;rw [if_pos (.inr (.inr ⟨rfl,by rw [hR]; simp⟩))]
        have : sy P after ≠ 1 := by
         have := ss P [] R;rw [dF] at this;rw [hR,this];cases R <;> simp [sy]
        simp [this]
   ·rw [if_neg k1,if_neg k1];by_cases k2 : prn N E P = true
    ·rw [if_pos k2,if_pos k2]; rfl
    ·rw [if_neg k2,if_neg k2,List.filter_flatMap];refine congrArg (fun f => List.flatMap f (eS (mo N E P))) (funext fun v => ?_);have e0 : (if tl [] P false v = true then [] else wP N E [] n (P ++ [v]) (W3 [] P false v)) = wP N E [] n (P ++ [v]) false := rfl;rw [e0]
     have big : tl after P t v = false -> W3 after P t v = false -> (∀ T,sy (P ++ v :: T) after = 1) -> (if tl after P t v = true then [] else wP N E after n (P ++ [v]) (W3 after P t v)) = (wP N E [] n (P ++ [v]) false).filter fun S => decide (sy S after = 1) := by
      intro s o k;rw [s,o,if_neg (by decide)];exact Ja n (P ++ [v]) false (fun e => by cases e) (fun _ T => by simpa using k T)
     cases t with
     | false => exact big rfl rfl fun T => h0 rfl _
     | true =>
       obtain ⟨R,hR⟩ := h1 rfl;cases R with
       | nil =>
         have e : Jh after P true = false := by rw [hR]; simp [Jh]
         refine big (by simp [tl,e]) (by simp [W3,e]) fun T => ?_;rw [hR,ss];rfl
       | cons a R =>
         have e : Jh after P true = true := by rw [hR]; simp [Jh]
         have ea : after.getD P.length 0 = a := by rw [hR]; simp
         by_cases l : v < a
         ·have s : tl after P true v = true := by simp only [tl,e,ea]; simp [l]
          rw [s,if_pos rfl]
          symm
          rw [List.filter_eq_nil_iff];intro S hS;obtain ⟨T,rfl⟩ := C0 [] n _ _ S hS;rw [hR,dj,ss];have : ¬ a < v := by omega
          simp [sy,l,this]
         ·have s : tl after P true v = false := by simp only [tl,e,ea]; simp [l]
          by_cases q : v = a
          ·have o : W3 after P true v = true := by simp only [W3,e,ea]; simp [q]
           rw [s,o,if_neg (by decide)];exact Ja n (P ++ [v]) true (fun _ => ⟨R,by rw [hR,q]; simp⟩) (fun e => by cases e)
          ·have o : W3 after P true v = false := by simp only [W3,e,ea]; simp [q]
           refine big s o fun T => ?_;rw [hR,ss];have : a < v := by omega
           simp [sy,this]
theorem ai0 : (mcl N E).length < 2 ^ N := by
 have h1 := uw ((cH N).map fun i => ((i : Nat) : Int)) []
 have h2 := IM (a := mcl N E) (b := Me ((cH N).map fun i => ((i : Nat) : Int)) []) VV fun S hS => by
  have m := (abC h).1 hS;refine Mc.2 ⟨S,m.2.1,vZ m.1.up ?_ fun x hx => ?_,by simp⟩
  ·unfold Up;exact List.Pairwise.map _ (fun a b h => by omega) List.pairwise_lt_range
  ·have := m.1.bd x hx;rw [List.mem_map];exact ⟨x.toNat,di.2 (by omega),by omega⟩
 simp at h1;omega
end
/- The reference's walk through the cliques of a graph: its list holds just the maximal ones. -/
def uj (Es : List Ed) (S : List Int) (v : Int) : Bool := S.all fun u => !decide (u = v) && decide (oO u v ∈ Es)
def mxR (N : Nat) (Es : List Ed) (S : List Int) : Bool := (mf (N : Int) (-1) S && decide (S.Pairwise fun a b => oO a b ∈ Es)) && (!decide (S = []) && (cH N).all fun v => !uj Es S v)
def grw (N : Nat) (Es : List Ed) : Nat -> Nat -> List Int -> List (List Int)
 | 0,_,_ => []
 | k + 1,v,S => (if uj Es S v = true then (if mxR N Es (S ++ [(v : Int)]) = true then [S ++ [(v : Int)]] else grw N Es k (v + 1) (S ++ [(v : Int)])) else []) ++ grw N Es k (v + 1) S
theorem KT {N : Nat} {E : List Ed} (h : ke (N : Int) E) (a b : Int) : oO a b ∈ E ↔ jn E a b := by
 unfold jn oO;constructor
 ·intro k;rcases Int.lt_trichotomy a b with c | c | c
  ·rw [if_neg (by omega),if_pos c] at k; exact .inl k
  ·subst c; simp at k; exact .inl k
  ·rw [if_pos c,if_neg (by omega)] at k; exact .inr k
 ·rintro (k | k)
  ·have := h.2.2 _ k;simp only at this;rw [if_neg (by omega),if_pos (by omega)]; exact k
  ·have := h.2.2 _ k;simp only at this;rw [if_pos (by omega),if_neg (by omega)]; exact k
section
variable {N : Nat} {E : List Ed} (h : ke (N : Int) E)
include h
theorem zQ {S : List Int} {v : Int} : uj E S v = true ↔ ∀ u ∈ S,jn E u v := by
 unfold uj;rw [lr];constructor
 ·intro k u hu;have := k u hu;simp only [ae,decide_eq_true_eq] at this;exact (KT h u v).1 this.2
 ·intro k u hu;have := k u hu;simp only [ae,bH,decide_eq_false_iff_not,decide_eq_true_eq];exact ⟨fun e => Lb h v (e ▸ this),(KT h u v).2 this⟩
theorem KY {S : List Int} : mxR N E S = true ↔ vO N E S := by
 unfold mxR vO;simp only [ae,decide_eq_true_eq,bH,decide_eq_false_iff_not,lr,di,vT];have pw : (S.Pairwise fun a b => oO a b ∈ E) ↔ S.Pairwise (jn E) := ⟨fun k => k.imp fun q => (KT h _ _).1 q,fun k => k.imp fun q => (KT h _ _).2 q⟩;constructor
 ·rintro ⟨⟨⟨h1,h2⟩,h3⟩,h4,h5⟩;refine ⟨⟨h1,fun x hx => (h2 x hx).2,pw.1 h3⟩,h4,fun x hx k => ?_⟩;have e : ((x.toNat : Nat) : Int) = x := by omega
  have := h5 x.toNat (by omega);rw [e,(zQ h).2 k] at this;cases this
 ·rintro ⟨⟨h1,h2,h3⟩,h4,h5⟩;refine ⟨⟨⟨h1,fun x hx => by have := h2 x hx; omega⟩,pw.2 h3⟩,h4,fun v hv => ?_⟩;rw [<- Bool.not_eq_true];exact fun k => h5 v (by omega) ((zQ h).1 k)
theorem abQ {S : List Int} (hS : OK N E S) {v : Nat} (hv : v < N) (hl : ∀ x ∈ S,x < (v : Int)) (hf : uj E S v = true) : OK N E (S ++ [(v : Int)]) := by
 refine ⟨?_,fun x hx => ?_,?_⟩
 ·unfold Up;rw [bP];exact ⟨hS.up,by simp,fun x hx y hy => by simp at hy; subst hy; exact hl x hx⟩
 ·rcases aG.1 hx with q | q
  ·exact hS.bd x q
  ·simp at q; omega
 ·rw [bP];exact ⟨hS.ad,by simp,fun x hx y hy => by simp at hy; subst hy; exact (zQ h).1 hf x hx⟩
theorem Ls : ∀ (k v : Nat) (S : List Int),v + k = N -> OK N E S -> (∀ x ∈ S,x < (v : Int)) -> ∀ X,X ∈ grw N E k v S ↔ vO N E X /\ ∃ T,T ≠ [] /\ X = S ++ T /\ ∀ x ∈ T,(v : Int) <= x
 | 0,v,S,hv,hS,hl,X => by
   simp only [grw,nS,false_iff,not_and,not_exists];rintro hX T h1 rfl h3;obtain ⟨t,ht⟩ := rh T h1;have := h3 t ht;have := hX.1.bd t (aG.2 (.inr ht));omega
 | k + 1,v,S,hv,hS,hl,X => by
   have ih1 := Ls k (v + 1) S (by omega) hS (fun x hx => by have := hl x hx; omega) X;unfold grw;rw [aG,ih1]
   have aeZ : (vO N E X /\ ∃ T,T ≠ [] /\ X = S ++ T /\ ∀ x ∈ T,(v : Int) <= x) ↔ (vO N E X /\ ∃ T,X = (S ++ [(v : Int)]) ++ T /\ ∀ x ∈ T,((v + 1 : Nat) : Int) <= x) \/ (vO N E X /\ ∃ T,T ≠ [] /\ X = S ++ T /\ ∀ x ∈ T,((v + 1 : Nat) : Int) <= x) := by
    constructor
    ·rintro ⟨hX,T,h1,rfl,h3⟩
     match T,h1 with
     | t :: T',_ =>
       have hup : (t :: T').Pairwise (· < ·) := (bP.1 hX.1.up).2.1;have ht := h3 t (by simp);by_cases e : t = (v : Int)
       ·left;subst e;refine ⟨hX,T',by simp,fun x hx => ?_⟩;have := (aX.1 hup).1 x hx;omega
       ·right;refine ⟨hX,t :: T',by simp,rfl,fun x hx => ?_⟩;rcases aK.1 hx with rfl | q
        ·omega
        ·have := (aX.1 hup).1 x q;omega
    ·rintro (⟨hX,T,rfl,h3⟩ | ⟨hX,T,h1,rfl,h3⟩)
     ·refine ⟨hX,(v : Int) :: T,by simp,by simp,fun x hx => ?_⟩;rcases aK.1 hx with rfl | q
      ·omega
      ·have := h3 x q; omega
     ·exact ⟨hX,T,h1,rfl,fun x hx => by have := h3 x hx; omega⟩
   rw [aeZ];refine or_congr ?_ Iff.rfl;by_cases hf : uj E S v = true
   ·rw [if_pos hf];have hc := abQ h hS (by omega) hl hf;by_cases hm : mxR N E (S ++ [(v : Int)]) = true
    ·rw [if_pos hm,cE];have hM := (KY h).1 hm;constructor
     ·rintro rfl;exact ⟨hM,[],by simp,fun x hx => by simp at hx⟩
     ·rintro ⟨hX,T,rfl,h3⟩
      match T with
      | [] => simp
      | t :: T' =>
        exfalso;have hb := hX.1.bd t (by simp);refine hM.2.2 t hb fun u hu => ?_;exact (bP.1 hX.1.ad).2.2 u hu t (by simp)
    ·rw [if_neg hm]
     rw [Ls k (v + 1) (S ++ [(v : Int)]) (by omega) hc (fun x hx => by
      rcases aG.1 hx with q | q
      ·have := hl x q; omega
      ·simp at q; omega) X]
     constructor
     ·rintro ⟨hX,T,_,h2,h3⟩; exact ⟨hX,T,h2,h3⟩
     ·rintro ⟨hX,T,h2,h3⟩;refine ⟨hX,T,?_,h2,h3⟩;rintro rfl;rw [dF] at h2;subst h2;exact hm ((KY h).2 hX)
   ·rw [if_neg hf];simp only [nS,false_iff,not_and,not_exists];rintro hX T rfl h3;refine hf ((zQ h).2 fun u hu => ?_);exact (bP.1 (bP.1 hX.1.ad).1).2.2 u hu v (by simp)
theorem ai1 (X : List Int) : X ∈ grw N E N 0 [] ↔ vO N E X := by
 rw [Ls h N 0 [] (by omega) ⟨eI,by simp,eI⟩ (by simp) X];constructor
 ·exact fun k => k.1
 ·exact fun k => ⟨k,X,k.2.1,rfl,fun x hx => by have := k.1.bd x hx; omega⟩
end
/- A clique that is extended node by node: plain law. -/
def gr (A : List Nat) : Nat -> Nat -> List Int
 | 0,_ => []
 | n + 1,m => if m = 0 then [] else ((tz m : Nat) : Int) :: gr A n (m &&& A.getD (tz m) 0)
structure WQ (N : Nat) (E : List Ed) (P : List Int) : Prop where
 bd : ∀ x ∈ P,0 <= x /\ x < (N : Int)
 ad : P.Pairwise (jn E)
theorem OK.q {N : Nat} {E : List Ed} {P : List Int} (h : OK N E P) : WQ N E P := ⟨h.bd,h.ad⟩
section
variable {N : Nat} {E : List Ed} (h : ke (N : Int) E)
include h
theorem LC {P : List Int} (hP : ∀ x ∈ P,0 <= x) (y : Int) : y ∈ eS (cn N E P) ↔ (0 <= y /\ y < (N : Int)) /\ ∀ v ∈ P,jn E v y := by
 have hn := sa h;rw [eY];constructor
 ·rintro ⟨j,rfl,_,k⟩;have := (ye h hP j).1 k;exact ⟨by omega,this.2⟩
 ·rintro ⟨⟨k0,k1⟩,k2⟩;have e : ((y.toNat : Nat) : Int) = y := by omega
  exact ⟨y.toNat,e.symm,by omega,(ye h hP _).2 ⟨by omega,by rw [e]; exact k2⟩⟩
theorem Z9 {P Q : List Int} (hP : ∀ x ∈ P,0 <= x) (hQ : ∀ x ∈ Q,0 <= x) (e : ∀ x,x ∈ P ↔ x ∈ Q) : cn N E P = cn N E Q := by
 refine aao (Cl h P) (Cl h Q) fun j _ => ?_;rw [ye h hP,ye h hQ];refine and_congr_right fun _ => ⟨fun k v hv => k v ((e v).2 hv),fun k v hv => k v ((e v).1 hv)⟩
theorem Lt {P : List Int} (hP : WQ N E P) (h0 : cn N E P ≠ 0) : ∃ v : Int,v = ((tz (cn N E P) : Nat) : Int) /\ v ∈ eS (cn N E P) /\ WQ N E (P ++ [v]) /\ cn N E P &&& (cU N E).getD (tz (cn N E P)) 0 = cn N E (P ++ [v]) /\ (∀ x ∈ eS (cn N E (P ++ [v])),x ∈ eS (cn N E P) /\ v < x) /\ (eS (cn N E (P ++ [v]))).length < (eS (cn N E P)).length := by
 have nn : ∀ x ∈ P,0 <= x := fun x hx => (hP.bd x hx).1;have st := wJ h0 (Cl h P);have hv : ((tz (cn N E P) : Nat) : Int) ∈ eS (cn N E P) := by rw [st]; simp
 obtain ⟨b1,b2⟩ := (LC h nn _).1 hv
 have q : WQ N E (P ++ [((tz (cn N E P) : Nat) : Int)]) := ⟨fun x hx => by
  rcases aG.1 hx with k | k
  ·exact hP.bd x k
  ·simp at k; rw [k]; exact b1,by
  rw [bP];exact ⟨hP.ad,by simp,fun x hx y hy => by simp at hy; rw [hy]; exact b2 x hx⟩⟩
 have nq : ∀ x ∈ P ++ [((tz (cn N E P) : Nat) : Int)],0 <= x := fun x hx => (q.bd x hx).1
 have sub : ∀ x ∈ eS (cn N E (P ++ [((tz (cn N E P) : Nat) : Int)])),x ∈ eS (cn N E P) /\ ((tz (cn N E P) : Nat) : Int) < x := fun x hx => by
  obtain ⟨c1,c2⟩ := (LC h nq x).1 hx;have hxP : x ∈ eS (cn N E P) := (LC h nn x).2 ⟨c1,fun w hw => c2 w (by simp [hw])⟩;refine ⟨hxP,?_⟩
  have mW : x ≠ ((tz (cn N E P) : Nat) : Int) := by
   rintro rfl;exact Lb h _ (c2 _ (by simp))
  have up := kJ (cn N E P);rw [st] at hxP up;rcases aK.1 hxP with k | k
  ·exact absurd k mW
  ·exact (aX.1 up).1 x k
 refine ⟨_,rfl,hv,q,?_,sub,?_⟩
 ·rw [acj,show (((tz (cn N E P) : Nat) : Int)).toNat = tz (cn N E P) by omega]
 ·have hs := vZ (L := eS (cn N E P &&& (cn N E P - 1))) (kJ (cn N E (P ++ [((tz (cn N E P) : Nat) : Int)]))) (kJ _) fun x hx => by
   obtain ⟨k1,k2⟩ := sub x hx;rw [st] at k1;rcases aK.1 k1 with k | k
   ·omega
   ·exact k
  have := hs.length_le;rw [st];simp only [cj];omega
theorem Uw : ∀ (n : Nat) (P : List Int),WQ N E P -> (eS (cn N E P)).length <= n -> Up (gr (cU N E) n (cn N E P)) /\ (∀ x ∈ gr (cU N E) n (cn N E P),x ∈ eS (cn N E P)) /\ WQ N E (P ++ gr (cU N E) n (cn N E P)) /\ cn N E (P ++ gr (cU N E) n (cn N E P)) = 0
 | 0,P,hP,hl => by
   have : cn N E P = 0 := (sF (Cl h P)).1 (L5.1 (by omega));simp only [gr,dF];exact ⟨eI,by simp,hP,this⟩
 | n + 1,P,hP,hl => by
   by_cases h0 : cn N E P = 0
   ·unfold gr;rw [if_pos h0,dF];exact ⟨eI,by simp,hP,h0⟩
   ·obtain ⟨v,ev,hv,hq,he,hs,bL⟩ := Lt h hP h0;obtain ⟨i1,i2,i3,i4⟩ := Uw n (P ++ [v]) hq (by omega);unfold gr;rw [if_neg h0,he,<- ev];refine ⟨aX.2 ⟨fun x hx => (hs x (i2 x hx)).2,i1⟩,fun x hx => ?_,by simpa using i3,by simpa using i4⟩;rcases aK.1 hx with k | k
    ·rw [k]; exact hv
    ·exact (hs x (i2 x k)).1
theorem Ux : ∀ (n n' : Nat) (P : List Int),WQ N E P -> (eS (cn N E P)).length <= n -> (eS (cn N E P)).length <= n' -> gr (cU N E) n (cn N E P) = gr (cU N E) n' (cn N E P)
 | 0,n',P,hP,hl,Jg => by
   have : cn N E P = 0 := (sF (Cl h P)).1 (L5.1 (by omega));cases n' with
   | zero => rfl
   | succ n' => simp [gr,this]
 | n + 1,n',P,hP,hl,Jg => by
   by_cases h0 : cn N E P = 0
   ·cases n' with
    | zero => simp [gr,h0]
    | succ n' => simp [gr,h0]
   ·obtain ⟨v,ev,hv,hq,he,hs,bL⟩ := Lt h hP h0;cases n' with
    | zero => omega
    | succ n' =>
      unfold gr;rw [if_neg h0,if_neg h0,he,Ux n n' (P ++ [v]) hq (by omega) (by omega)]
end
def ZG (N : Nat) (E : List Ed) (P : List Int) : List Int := gr (cU N E) 64 (cn N E P)
def Qz (N : Nat) (E : List Ed) (P : List Int) : List Int := gY (P ++ ZG N E P)
section
variable {N : Nat} {E : List Ed} (h : ke (N : Int) E)
include h
theorem aiR {P : List Int} (hP : WQ N E P) (h0 : cn N E P ≠ 0) : ∃ v : Int,v ∈ eS (cn N E P) /\ WQ N E (P ++ [v]) /\ ZG N E P = v :: ZG N E (P ++ [v]) := by
 obtain ⟨v,ev,hv,hq,he,hs,bL⟩ := Lt h hP h0;refine ⟨v,hv,hq,?_⟩;have l1 := GR (cn N E P);unfold ZG
 conv => lhs; unfold gr
 rw [if_neg h0,he,<- ev,Ux h 63 64 (P ++ [v]) hq (by omega) (by omega)]
theorem ZF {P : List Int} (hP : WQ N E P) : Up (ZG N E P) /\ (∀ x ∈ ZG N E P,x ∈ eS (cn N E P)) /\ WQ N E (P ++ ZG N E P) /\ cn N E (P ++ ZG N E P) = 0 := Uw h 64 P hP (GR _)
theorem VZ {P : List Int} (hP : WQ N E P) : P.Nodup := hP.ad.imp fun {a b} k e => by subst e; exact Lb h _ k
omit h in
theorem Y8 {l : List Int} (hn : l.Nodup) : Up (gY l) /\ ∀ x,x ∈ gY l ↔ x ∈ l := by
 have hp := jT l;refine ⟨?_,fun x => hp.mem_iff⟩;have h1 := rV l;have h2 : (gY l).Nodup := hp.nodup_iff.2 hn
 exact (List.pairwise_and_iff.2 ⟨h1,h2⟩).imp fun {a b} k => by
  have := k.1; have := k.2; omega
theorem ahj {P : List Int} (hP : WQ N E P) : Up (Qz N E P) /\ (∀ x,x ∈ Qz N E P ↔ x ∈ P \/ x ∈ ZG N E P) /\ OK N E (Qz N E P) /\ cn N E (Qz N E P) = 0 := by
 obtain ⟨g1,g2,g3,g4⟩ := ZF h hP;obtain ⟨s1,s2⟩ := Y8 (VZ h g3)
 have mem : ∀ x,x ∈ Qz N E P ↔ x ∈ P \/ x ∈ ZG N E P := fun x => by
  unfold Qz;rw [s2,aG]
 have bd : ∀ x ∈ Qz N E P,0 <= x /\ x < (N : Int) := fun x hx => g3.bd x (aG.2 ((mem x).1 hx));refine ⟨s1,mem,⟨s1,bd,?_⟩,?_⟩
 ·have hp := jT (P ++ ZG N E P);exact (hp.pairwise_iff fun {a b} k => CZ k).2 g3.ad
 ·rw [<- g4];exact Z9 h (fun x hx => (bd x hx).1) (fun x hx => (g3.bd x hx).1) fun x => by rw [mem,aG]
end
end Go.BmP
