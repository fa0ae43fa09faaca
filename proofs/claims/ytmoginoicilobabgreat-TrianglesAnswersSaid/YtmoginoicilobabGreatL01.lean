/- What mk.Graph returns: a graph that is in order. -/
import Derived.Test.YtmoginoicilobabGreatUseM
import Derived.Test.YtmoginoicilobabGreatK05
set_option linter.unusedSimpArgs false
set_option linter.unusedVariables false
set_option maxRecDepth 100000
set_option maxHeartbeats 4000000
open List renaming mem_append → aC, take_length → GK
open Nat renaming le_of_ble_eq_true → ae
namespace Go.BmP
open Go.Am Go.Bm
theorem PN (l : List Ed) (x : Ed) : (l ++ [x]).take (l.length + 1) = l ++ [x] := List.take_of_length_le (by simp)
def WU (N : Nat) (o : List Ed) (u v : Nat) : Prop := CC o /\ (∀ e ∈ o,0 <= e.1 /\ e.1 < e.2 /\ e.2 < (N : Int)) /\ (∀ e ∈ o,e.1 < (u : Int) \/ e.1 = (u : Int) /\ e.2 < (v : Int)) /\ o.length <= u * 64 + v
theorem aah {N : Nat} {o : List Ed} {u v : Nat} (h : WU N o u v) : WU N o u (v + 1) :=
 ⟨h.1,h.2.1,fun e he => by have := h.2.2.1 e he; omega,by have := h.2.2.2; omega⟩
theorem acq {N : Nat} {o : List Ed} {u v : Nat} (h : WU N o u v) (B4 : u < v) (hv : v < N) : WU N (o ++ [((u : Int),(v : Int))]) u (v + 1) := by
 obtain ⟨h1,h2,h3,h4⟩ := h;refine ⟨?_,fun e he => ?_,fun e he => ?_,by simp; omega⟩
 ·unfold CC;rw [List.pairwise_append];refine ⟨h1,by simp,fun x hx y hy => ?_⟩;simp at hy;subst hy;have := h3 x hx;unfold vm;simp only;omega
 ·rcases aC.1 he with he | he
  ·exact h2 e he
  ·simp at he; subst he; exact ⟨by simp,by simpa using B4,by simpa using hv⟩
 ·rcases aC.1 he with he | he
  ·have := h3 e he; omega
  ·simp at he; subst he; simp; omega
def gZ : PB := some [.int .i64 0,.own 2 []]
def gB (N : Int) (o : List Ed) : PB := some [.int .i64 N,.own 2 (bm o)]
theorem Jf (N : Int) (o : List Ed) : Rest [gZ,gB N o] := ⟨fun _ => rfl,rfl,fun _ _ => rfl,fun _ => rfl,fun _ _ => rfl⟩
theorem afb : Rest [gZ] := ⟨fun _ => rfl,rfl,fun _ _ => rfl,fun _ => rfl,fun _ _ => rfl⟩
def G4 (l : List Int) (a N : Nat) (D : Int) (u v : Nat) (o : List Ed) (J : Env) : St := ⟨(0,.ptr 0 0) :: (4,.ptr 1 0) :: (5,.ptr 2 0) :: (6,.int .i64 D) :: (7,.int .i64 u) :: (8,.int .i64 v) :: J,[dk l a,gZ,gB N o]⟩
theorem acz (l : List Int) (hl : l.length <= 500) (N : Nat) (hN : N <= 64) (D : Int) (hD : 0 <= D /\ D <= 5) (u v a : Nat) (o : List Ed) (B4 : u < v) (hv : v < N) (ho : o.length <= 100000) : ∃ a',bL ak 1 Fe (G4 l a N D u v o []) = some (.normal,G4 l a' N D u (v + 1) o []) \/ bL ak 1 Fe (G4 l a N D u v o []) = some (.normal,G4 l a' N D u (v + 1) (o ++ [((u : Int),(v : Int))]) []) := by
 have h1 : (v : Int) < N := by omega
 have hw := fT (i := v) (by omega);have hL : o.length + 1 <= 4294967296 := by omega
 have hx := fU l hl a 5 (by omega) [gZ,gB N o] (Jf N o);have w5 : IntKind.i64.wrap (5 - D) = 5 - D := cM (by omega) (by omega);simp only [dk,gZ,gB] at hx;by_cases hd : 5 - D <= vO l a 5
 ·refine ⟨vh l a 5,.inr ?_⟩;unfold Fe G4 dk gZ gB;simp [BB,BA,Bz,Bx,Bw,Bv,Bu,Bt,Bs,Br,tx,tw,tv,tu,h1,hw,hd,hL,hx,w5,jQ,AZ,oO,PN,Hk,KA,Ks,KK,fG,dx,dz,bp,fi,bZ,bU,eT,bQ,dH,cO,aJ,av,aX,bV,dj,aD,aI,aG,aj,aM,bk,ba,aZ]
 ·refine ⟨vh l a 5,.inl ?_⟩;unfold Fe G4 dk gZ gB;simp [BB,BA,Bz,Bx,Bw,Bv,Bu,Bt,Bs,Br,tx,tw,tv,tu,h1,hw,hd,hx,w5,Hk,KA,Ks,KK,fG,dx,dz,bp,fi,bZ,bU,aJ,av,aX,bV,dj,aD,aI,aG,aj,aM,bk,ba,aZ]
theorem g_in (l : List Int) (hl : l.length <= 500) (N : Nat) (hN : N <= 64) (D : Int) (hD : 0 <= D /\ D <= 5) (u : Nat) : ∀ (k v a : Nat) (o : List Ed),v + k = N -> u < v -> WU N o u v -> ∃ a' o',bL ak 1 (.loop Fe) (G4 l a N D u v o []) = some (.exit 2,G4 l a' N D u N o' [(41,.bool false)]) /\ WU N o' u N
 | 0,v,a,o,hi,B4,hI => by
   obtain rfl : v = N := by omega
   refine ⟨a,o,cj ?_,hI⟩;unfold Fe G4 dk gZ gB;simp [BB,BA,Bz,Bx,Bw,Bv,Bu,Bt,Bs,Br,tx,tw,tv,tu,aJ,av,aX,bV,dj,aD,aI,aG,aj,aM,bk,ba,aZ]
 | k + 1,v,a,o,hi,B4,hI => by
   have hlen := hI.2.2.2;obtain ⟨a1,e | e⟩ := acz l hl N hN D hD u v a o B4 (by omega) (by omega)
   ·obtain ⟨a',o',e2,hI2⟩ := g_in l hl N hN D hD u k (v + 1) a1 o (by omega) (by omega) (aah hI);exact ⟨a',o',(bG e).trans e2,hI2⟩
   ·obtain ⟨a',o',e2,hI2⟩ := g_in l hl N hN D hD u k (v + 1) a1 _ (by omega) (by omega) (acq hI B4 (by omega));exact ⟨a',o',(bG e).trans e2,hI2⟩
def ON (l : List Int) (a N : Nat) (D : Int) (u : Nat) (o : List Ed) (J : Env) : St := ⟨(0,.ptr 0 0) :: (4,.ptr 1 0) :: (5,.ptr 2 0) :: (6,.int .i64 D) :: (7,.int .i64 u) :: J,[dk l a,gZ,gB N o]⟩
theorem aeN (l : List Int) (hl : l.length <= 500) (N : Nat) (hN : N <= 64) (D : Int) (hD : 0 <= D /\ D <= 5) : ∀ (k u a : Nat) (o : List Ed),u + k = N -> WU N o u 0 -> ∃ a' o',bL ak 1 (.loop Oh) (ON l a N D u o []) = some (.exit 0,ON l a' N D N o' [(33,.bool false)]) /\ WU N o' N 0
 | 0,u,a,o,hi,hI => by
   obtain rfl : u = N := by omega
   refine ⟨a,o,cj ?_,hI⟩;unfold Oh ON dk gZ gB;simp [BB,BA,Bz,Bx,Bw,Bv,Bu,Bt,Bs,Br,tx,tw,tv,tu,aJ,av,aX,bV,dj,aD,aI,aG,aj,aM,bk,ba,aZ]
 | k + 1,u,a,o,hi,hI => by
   have h1 : (u : Int) < N := by omega
   have hw := fT (i := u) (by omega);have hI1 : WU N o u (u + 1) := ⟨hI.1,hI.2.1,fun e he => by have := hI.2.2.1 e he; have := (hI.2.1 e he).1; omega,by have := hI.2.2.2; omega⟩;obtain ⟨a1,o1,e1,hI2⟩ := g_in l hl N hN D hD u (N - (u + 1)) (u + 1) a o (by omega) (by omega) hI1;have hI3 : WU N o1 (u + 1) 0 := ⟨hI2.1,hI2.2.1,fun e he => by have := hI2.2.2.1 e he; omega,by have := hI2.2.2.2; omega⟩;obtain ⟨a',o',e2,hI4⟩ := aeN l hl N hN D hD k (u + 1) a1 o1 (by omega) hI3;refine ⟨a',o',(bG ?_).trans e2,hI4⟩;unfold G4 dk gZ gB at e1;rw [show ((u + 1 : Nat) : Int) = (u : Int) + 1 from rfl] at e1;unfold Oh ON dk gZ gB;simp [BB,BA,Bz,Bx,Bw,Bv,Bu,Bt,Bs,Br,tx,tw,tv,tu,h1,hw,e1,aJ,av,aX,bV,dj,aD,aI,aG,aj,aM,bk,ba,aZ]
theorem VZ (l : List Int) (hl : l.length <= 500) (most : Nat) (hm : most <= 60) (a : Nat) : ∃ N Es a',aY ak nQf [.ptr 0 0,.int .i64 most] [dk l a] = some (.agg [.int .i64 (N : Nat),.list 2 (bm Es)],[dk l a']) /\ gK (N : Int) Es /\ N <= most /\ Es.length <= 10000 := by
 have n1 := fU l hl a ((most : Int) + 1) (by omega) [gZ] afb;obtain ⟨b0,b1⟩ := rn l a (n := (most : Int) + 1) (by omega);have wm := fT (i := most) (by omega)
 -- the number of nodes, drawn once or twice
 obtain ⟨n0,hn0⟩ : ∃ n0 : Nat,vO l a ((most : Int) + 1) = (n0 : Int) := ⟨(vO l a ((most : Int) + 1)).toNat,by omega⟩;rw [hn0] at n1 b1
 have key : ∀ (N a2 : Nat),N <= most -> ∃ Es a',(∃ D : Int,(0 <= D /\ D <= 5) /\ vO l a2 4 + 1 = D) /\ bL ak 1 (.loop Oh) (ON l (vh l a2 4) N (vO l a2 4 + 1) 0 [] []) = some (.exit 0,ON l a' N (vO l a2 4 + 1) N Es [(33,.bool false)]) /\ WU N Es N 0 := by
  intro N a2 hN;obtain ⟨c0,c1⟩ := rn l a2 (n := 4) (by omega);obtain ⟨a',Es,e,hI⟩ := aeN l hl N (by omega) (vO l a2 4 + 1) (by omega) N 0 (vh l a2 4) [] (by omega) ⟨by simp [CC],by simp,by simp,by simp⟩;exact ⟨Es,a',⟨_,by omega,rfl⟩,e,hI⟩
 have fin : ∀ (N : Nat) (Es : List Ed),N <= most -> WU N Es N 0 -> gK (N : Int) Es /\ N <= most /\ Es.length <= 10000 := fun N Es hN hI => ⟨⟨by omega,hI.1,hI.2.1⟩,hN,by have := hI.2.2.2; omega⟩;by_cases h4 : n0 < 4
 ·-- a second draw
  have h4' : (n0 : Int) < 4 := by omega
  have n2 := fU l hl (vh l a ((most : Int) + 1)) ((most : Int) + 1) (by omega) [gZ,gB n0 []] (Jf n0 []);obtain ⟨d0,d1⟩ := rn l (vh l a ((most : Int) + 1)) (n := (most : Int) + 1) (by omega);obtain ⟨m0,hm0⟩ : ∃ m0 : Nat,vO l (vh l a ((most : Int) + 1)) ((most : Int) + 1) = (m0 : Int) := ⟨(vO l (vh l a ((most : Int) + 1)) ((most : Int) + 1)).toNat,by omega⟩;rw [hm0] at n2 d1
  obtain ⟨N,hN,eN⟩ : ∃ N : Nat,N <= most /\ (if (n0 : Int) + m0 < most then (n0 : Int) + m0 else (most : Int)) = N := by
   by_cases q : (n0 : Int) + m0 < most
   ·exact ⟨n0 + m0,by omega,by rw [if_pos q]; omega⟩
   ·exact ⟨most,by omega,by rw [if_neg q]⟩
  have ws : IntKind.i64.wrap ((n0 : Int) + m0) = (n0 : Int) + m0 := cM (by omega) (by omega);have n3 := fU l hl (vh l (vh l a ((most : Int) + 1)) ((most : Int) + 1)) 4 (by omega) [gZ,gB N []] (Jf N []);obtain ⟨Es,a',⟨D,hD,eD⟩,e,hI⟩ := key N (vh l (vh l a ((most : Int) + 1)) ((most : Int) + 1)) hN;refine ⟨N,Es,a',?_,fin N Es hN hI⟩;have wD : IntKind.i64.wrap (1 + vO l (vh l (vh l a ((most : Int) + 1)) ((most : Int) + 1)) 4) = D := by rw [cM (by omega) (by omega)]; omega
  rw [eD] at e;rw [aB oQf sQf (ae rfl)];unfold ON at e;rw [iR] at e;unfold dk gZ gB at *;rw [show bm [] = [] from rfl] at *;generalize vO l (vh l (vh l a ((most : Int) + 1)) ((most : Int) + 1)) 4 = x4 at *;clear key hI;unfold qQf cQf;simp [BB,BA,Bz,Bx,Bw,Bv,Bu,Bt,Bs,Br,tx,tw,tv,tu,n1,n2,n3,e,wm,ws,h4',eN,wD,oO,GK,Hk,KA,Ks,KK,fG,dx,dz,bp,fi,fP,bZ,bU,ja,Ak,F5,Zm,oF,Rn,sS,pX,eB,eT,bQ,dH,cO,aJ,av,aX,bV,dj,aD,aI,aG,aj,aM,bk,ba,aZ]
 ·have h4' : ¬ (n0 : Int) < 4 := by omega
  have n3 := fU l hl (vh l a ((most : Int) + 1)) 4 (by omega) [gZ,gB n0 []] (Jf n0 []);obtain ⟨Es,a',⟨D,hD,eD⟩,e,hI⟩ := key n0 (vh l a ((most : Int) + 1)) (by omega);refine ⟨n0,Es,a',?_,fin n0 Es (by omega) hI⟩;have wD : IntKind.i64.wrap (1 + vO l (vh l a ((most : Int) + 1)) 4) = D := by rw [cM (by omega) (by omega)]; omega
  rw [eD] at e;rw [aB oQf sQf (ae rfl)];unfold ON at e;rw [iR] at e;unfold dk gZ gB at *;rw [show bm [] = [] from rfl] at *;generalize vO l (vh l a ((most : Int) + 1)) 4 = x4 at *;clear key hI;unfold qQf cQf;simp [BB,BA,Bz,Bx,Bw,Bv,Bu,Bt,Bs,Br,tx,tw,tv,tu,n1,n3,e,wm,h4',wD,oO,GK,Hk,KA,Ks,KK,fG,dx,dz,bp,fi,fP,bZ,bU,eB,eT,bQ,dH,cO,aJ,av,aX,bV,dj,aD,aI,aG,aj,aM,bk,ba,aZ]
end Go.BmP
