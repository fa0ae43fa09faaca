/- field.Sided makes a bipartite graph. -/
import Derived.Test.YteomjfokokneoaaDoorUseM
import Derived.Test.YteomjfokokneoaaDoorK06
import Derived.Test.YteomjfokokneoaaDoorK09
set_option linter.unusedSimpArgs false
set_option linter.unusedVariables false
set_option maxRecDepth 100000
set_option maxHeartbeats 8000000
open List renaming mem_append → aD, take_of_length_le → bL
open Nat renaming le_of_ble_eq_true → an
namespace Go.BmP
open Go.Am Go.Bm
theorem Dn (l : List Ed) (x : Ed) : (l ++ [x]).take (l.length + 1) = l ++ [x] := bL (by simp)
theorem YP (N : Nat) (T : List Int) : (I6 N T).take N = I6 N T := bL (by rw [en]; exact Nat.le_refl _)
def Zq (N : Nat) (S : List Int) (o : List Ed) (u v : Nat) : Prop := Kt o /\ (∀ e ∈ o,0 <= e.1 /\ e.1 < e.2 /\ e.2 < (N : Int) /\ (e.1 ∈ S ↔ ¬ e.2 ∈ S)) /\ (∀ e ∈ o,e.1 < (u : Int) \/ e.1 = (u : Int) /\ e.2 < (v : Int)) /\ o.length <= u * 64 + v
theorem Xy {N : Nat} {S : List Int} {o : List Ed} {u v : Nat} (h : Zq N S o u v) : Zq N S o u (v + 1) :=
 ⟨h.1,h.2.1,fun e he => by have := h.2.2.1 e he; omega,by have := h.2.2.2; omega⟩
theorem aaC {N : Nat} {S : List Int} {o : List Ed} {u v : Nat} (h : Zq N S o u v) (huv : u < v) (hv : v < N) (hs : (u : Int) ∈ S ↔ ¬ (v : Int) ∈ S) : Zq N S (o ++ [((u : Int),(v : Int))]) u (v + 1) := by
 obtain ⟨h1,h2,h3,h4⟩ := h;refine ⟨?_,fun e he => ?_,fun e he => ?_,by simp; omega⟩
 ·unfold Kt;rw [List.pairwise_append];refine ⟨h1,by simp,fun x hx y hy => ?_⟩;simp at hy;subst hy;have := h3 x hx;unfold BV;simp only;omega
 ·rcases aD.1 he with he | he
  ·exact h2 e he
  ·simp at he; subst he; exact ⟨by simp,by simpa using huv,by simpa using hv,hs⟩
 ·rcases aD.1 he with he | he
  ·have := h3 e he; omega
  ·simp at he; subst he; simp; omega
def sH (l : List Int) (a : Nat) (S : List Int) : Heap := [dk l a,CG,Ga S]
def Az (l : List Int) (a N : Nat) (S : List Int) (D : Int) (u v : Nat) (o : List Ed) : St := ⟨[(0,.ptr 0 0),(4,.ptr 1 0),(5,.int .i64 N),(6,.ptr 2 0),(7,.own 2 (dy o)),(8,.own 1 (I6 N S)),(10,.int .i64 D),(11,.int .i64 u),(12,.int .i64 v)],sH l a S⟩
def V2 (l : List Int) (a N : Nat) (S : List Int) (D : Int) (u : Nat) (o : List Ed) : St := ⟨[(0,.ptr 0 0),(4,.ptr 1 0),(5,.int .i64 N),(6,.ptr 2 0),(7,.own 2 (dy o)),(8,.own 1 (I6 N S)),(10,.int .i64 D),(11,.int .i64 u),(12,.int .i64 N),(49,.bool false)],sH l a S⟩
theorem XE (l : List Int) (hl : l.length <= 500) (N : Nat) (hN : N <= 64) (S : List Int) (D : Int) (u v a : Nat) (o : List Ed) (huv : u < v) (hv : v < N) (ho : o.length <= 100000) : ∃ a',aU aA 1 uM (Az l a N S D u v o) = some (.normal,Az l a' N S D u (v + 1) o) \/ (aU aA 1 uM (Az l a N S D u v o) = some (.normal,Az l a' N S D u (v + 1) (o ++ [((u : Int),(v : Int))])) /\ ((u : Int) ∈ S ↔ ¬ (v : Int) ∈ S)) := by
 have h1 : (v : Int) < N := by omega
 have h2 : (u : Int) < N := by omega
 have h3 : u < N := by omega
 have hw := fm (i := v) (by omega);have hL : o.length + 1 <= 4294967296 := by omega
 have hx := uF l hl a 5 (by omega) [CG,Ga S] (V6 S);by_cases hu : (u : Int) ∈ S
 ·by_cases XM : (v : Int) ∈ S
  ·refine ⟨a,.inl ?_⟩;unfold uM Az sH dk CG Ga;simp [rn,rl,rk,rj,rh,rf,re,rb,q9,q8,l9,l8,l7,l6,l5,lZ,lY,lX,lW,lV,h1,h2,h3,hv,hw,hu,XM,en,Br,idx,aH,ai,au,aG,aT,af,ah,ae,aa,ak,az,aP,aK]
  ·by_cases hd : Ug l a 5 < D
   ·refine ⟨Vt l a 5,.inr ⟨?_,by simp [hu,XM]⟩⟩;simp only [dk,CG,Ga] at hx;unfold uM Az sH dk CG Ga;simp [rn,rl,rk,rj,rh,rf,re,rb,q9,q8,l9,l8,l7,l6,l5,lZ,lY,lX,lW,lV,h1,h2,h3,hv,hw,hu,XM,hd,hL,hx,lz,IU,rV,Dn,FV,en,Br,idx,ZD,iJr,lJr,js,fx,gj,cz,jP,eC,dT,aH,ai,au,aG,aT,af,ah,ae,aa,ak,az,aP,aK]
   ·refine ⟨Vt l a 5,.inl ?_⟩;simp only [dk,CG,Ga] at hx;unfold uM Az sH dk CG Ga;simp [rn,rl,rk,rj,rh,rf,re,rb,q9,q8,l9,l8,l7,l6,l5,lZ,lY,lX,lW,lV,h1,h2,h3,hv,hw,hu,XM,hd,hx,en,Br,idx,ZD,iJr,lJr,js,fx,gj,cz,jP,eC,dT,aH,ai,au,aG,aT,af,ah,ae,aa,ak,az,aP,aK]
 ·by_cases XM : (v : Int) ∈ S
  ·by_cases hd : Ug l a 5 < D
   ·refine ⟨Vt l a 5,.inr ⟨?_,by simp [hu,XM]⟩⟩;simp only [dk,CG,Ga] at hx;unfold uM Az sH dk CG Ga;simp [rn,rl,rk,rj,rh,rf,re,rb,q9,q8,l9,l8,l7,l6,l5,lZ,lY,lX,lW,lV,h1,h2,h3,hv,hw,hu,XM,hd,hL,hx,lz,IU,rV,Dn,FV,en,Br,idx,ZD,iJr,lJr,js,fx,gj,cz,jP,eC,dT,aH,ai,au,aG,aT,af,ah,ae,aa,ak,az,aP,aK]
   ·refine ⟨Vt l a 5,.inl ?_⟩;simp only [dk,CG,Ga] at hx;unfold uM Az sH dk CG Ga;simp [rn,rl,rk,rj,rh,rf,re,rb,q9,q8,l9,l8,l7,l6,l5,lZ,lY,lX,lW,lV,h1,h2,h3,hv,hw,hu,XM,hd,hx,en,Br,idx,ZD,iJr,lJr,js,fx,gj,cz,jP,eC,dT,aH,ai,au,aG,aT,af,ah,ae,aa,ak,az,aP,aK]
  ·refine ⟨a,.inl ?_⟩;unfold uM Az sH dk CG Ga;simp [rn,rl,rk,rj,rh,rf,re,rb,q9,q8,l9,l8,l7,l6,l5,lZ,lY,lX,lW,lV,h1,h2,h3,hv,hw,hu,XM,en,Br,idx,aH,ai,au,aG,aT,af,ah,ae,aa,ak,az,aP,aK]
theorem JU (l : List Int) (hl : l.length <= 500) (N : Nat) (hN : N <= 64) (S : List Int) (D : Int) (u : Nat) : ∀ (k v a : Nat) (o : List Ed),v + k = N -> u < v -> Zq N S o u v -> ∃ a' o',aU aA 1 (.loop uM) (Az l a N S D u v o) = some (.exit 4,V2 l a' N S D u o') /\ Zq N S o' u N
 | 0,v,a,o,hi,huv,hI => by
   obtain rfl : v = N := by omega
   refine ⟨a,o,bC ?_,hI⟩;unfold uM Az V2 sH dk CG Ga;simp [rn,rl,rk,rj,rh,rf,re,rb,q9,q8,l9,l8,l7,l6,l5,lZ,lY,lX,lW,lV,en,aH,ai,au,aG,aT,af,ah,ae,aa,ak,az,aP,aK]
 | k + 1,v,a,o,hi,huv,hI => by
   have hlen := hI.2.2.2;obtain ⟨a1,e | ⟨e,hs⟩⟩ := XE l hl N hN S D u v a o huv (by omega) (by omega)
   ·obtain ⟨a',o',e2,hI2⟩ := JU l hl N hN S D u k (v + 1) a1 o (by omega) (by omega) (Xy hI);exact ⟨a',o',(ba e).trans e2,hI2⟩
   ·obtain ⟨a',o',e2,hI2⟩ := JU l hl N hN S D u k (v + 1) a1 _ (by omega) (by omega) (aaC hI huv (by omega) hs);exact ⟨a',o',(ba e).trans e2,hI2⟩
def VZ (l : List Int) (a N : Nat) (S : List Int) (D : Int) (u : Nat) (o : List Ed) (J : Env) : St := ⟨(0,.ptr 0 0) :: (4,.ptr 1 0) :: (5,.int .i64 N) :: (6,.ptr 2 0) :: (7,.own 2 (dy o)) :: (8,.own 1 (I6 N S)) :: (10,.int .i64 D) :: (11,.int .i64 u) :: J,sH l a S⟩
theorem Mh (l : List Int) (hl : l.length <= 500) (N : Nat) (hN : N <= 64) (S : List Int) (D : Int) : ∀ (k u a : Nat) (o : List Ed),u + k = N -> Zq N S o u 0 -> ∃ a' o',aU aA 1 (.loop SA) (VZ l a N S D u o []) = some (.exit 2,VZ l a' N S D N o' [(42,.bool false)]) /\ Zq N S o' N 0
 | 0,u,a,o,hi,hI => by
   obtain rfl : u = N := by omega
   refine ⟨a,o,bC ?_,hI⟩;unfold SA VZ sH dk CG Ga;simp [rn,rl,rk,rj,rh,rf,re,rb,q9,q8,l9,l8,l7,l6,l5,lZ,lY,lX,lW,lV,en,aH,ai,au,aG,aT,af,ah,ae,aa,ak,az,aP,aK]
 | k + 1,u,a,o,hi,hI => by
   have h1 : (u : Int) < N := by omega
   have hw := fm (i := u) (by omega);have hI1 : Zq N S o u (u + 1) := ⟨hI.1,hI.2.1,fun e he => by have := hI.2.2.1 e he; have := (hI.2.1 e he).1; omega,by have := hI.2.2.2; omega⟩;obtain ⟨a1,o1,e1,hI2⟩ := JU l hl N hN S D u (N - (u + 1)) (u + 1) a o (by omega) (by omega) hI1;have hI3 : Zq N S o1 (u + 1) 0 := ⟨hI2.1,hI2.2.1,fun e he => by have := hI2.2.2.1 e he; omega,by have := hI2.2.2.2; omega⟩;obtain ⟨a',o',e2,hI4⟩ := Mh l hl N hN S D k (u + 1) a1 o1 (by omega) hI3;refine ⟨a',o',(ba ?_).trans e2,hI4⟩;unfold Az V2 sH dk CG Ga at e1;rw [show ((u + 1 : Nat) : Int) = (u : Int) + 1 from rfl] at e1;unfold SA VZ sH dk CG Ga;simp [rn,rl,rk,rj,rh,rf,re,rb,q9,q8,l9,l8,l7,l6,l5,lZ,lY,lX,lW,lV,h1,hw,e1,en,aH,ai,au,aG,aT,af,ah,ae,aa,ak,az,aP,aK]
theorem adC {o : List Ed} (h : Kt o) (hv : ∀ e ∈ o,e.1 < e.2) : ofE o [] = o := by
 obtain ⟨h1,h2⟩ := Mo o [] (by simp [Kt]);refine Qs h1 h fun x => ?_;rw [h2]
 have hn : ∀ e ∈ o,kC e.1 e.2 = e := fun e he => by
  have := hv e he;unfold kC;rw [if_neg (by omega),if_pos this]
 constructor
 ·rintro (k | ⟨e,he,rfl⟩)
  ·simp at k
  ·rw [hn e he]; exact he
 ·intro k; exact .inr ⟨x,k,(hn x k).symm⟩
theorem TQ (l : List Int) (hl : l.length <= 500) (most : Nat) (hm : most <= 60) (a : Nat) : ∃ N Es L a',bk aA nJf [.ptr 0 0,.int .i64 most] [dk l a] = some (.agg [.int .i64 (N : Nat),.list 2 (dy Es),.list 1 (ints L)],[dk l a']) /\ kj N Es L /\ N <= most /\ Es.length <= 10000 /\ L.length <= 64 := by
 have hw : IntKind.i64.wrap ((most : Int) + 1) = (most : Int) + 1 := Dd (j := most + 1) rfl (by omega);have n1 := uF l hl a ((most : Int) + 1) (by omega) [CG] acN;obtain ⟨b1,b2⟩ := adD l a (n := (most : Int) + 1) (by omega);obtain ⟨N,hN⟩ : ∃ N : Nat,Ug l a ((most : Int) + 1) = N := ⟨(Ug l a ((most : Int) + 1)).toNat,by omega⟩;rw [hN] at n1 b1 b2;have hN64 : N <= 64 := by omega
 obtain ⟨S,a2,n2,hSl,hSu,hSb⟩ := CP l hl N hN64 [] ⟨fun _ => rfl,rfl,fun _ _ => rfl,fun _ => rfl,fun _ _ => rfl⟩ (Vt l a ((most : Int) + 1));have n3 := It l a2 N hN64 S hSb (by omega) S.length 0 (by omega);rw [jj,List.take_zero] at n3;have hr := abo N;have n4 := uF l hl a2 4 (by omega) [CG,Ga S] (V6 S);obtain ⟨a',o,n5,hI⟩ := Mh l hl N hN64 S (IntKind.i64.wrap (1 + Ug l a2 4)) N 0 (Vt l a2 4) [] (by omega) ⟨by simp [Kt],by simp,by simp,by simp⟩;have ho := hI.2.2.2;have bA : N * 64 <= 4096 := by omega
 have n6 := aam N o (by omega) (by omega) (fun e he => by have := hI.2.1 e he; omega);rw [adC hI.1 (fun e he => (hI.2.1 e he).2.1)] at n6;refine ⟨N,o,S,a',?_,⟨hN64,⟨hI.1,fun e he => ⟨(hI.2.1 e he).1,(hI.2.1 e he).2.1,(hI.2.1 e he).2.2.1⟩⟩,⟨hSu,hSb⟩,fun e he => (hI.2.1 e he).2.2.2⟩,by omega,by omega,by omega⟩;rw [aM oJf sJf (an rfl)];unfold VZ sH at n5;unfold dk CG Ga at *;rw [jj,zX] at n5;have nL : (N : Int) <= 4294967296 := by omega
 have nN : (0 : Int) <= N := by omega
 clear hI ho bA b1 b2 hN hSu hSb;unfold qJf cJf;simp [rn,rl,rk,rj,rh,rf,re,rb,q9,q8,l9,l8,l7,l6,l5,lZ,lY,lX,lW,lV,hw,n1,n2,n3,hr,n4,n5,n6,nL,nN,en,YP,lz,rV,ZD,iJr,lJr,sJg,iJg,lJg,sJx,iJx,lJx,js,fx,gj,cz,jP,oq,eC,dT,mS,aH,ai,au,aG,aT,af,ah,ae,aa,ak,az,aP,aK]
/- The law BicliqueCloses over the machine by value. -/
theorem abw : bk aA nJd [] [] = some (.bool true,[]) := kB.2 ⟨3000,by kernel_rfl⟩
theorem xd (a1 a2 b1 b2 : List Int) (h1 : a1.length <= 9223372036854775807) (h2 : a2.length <= 9223372036854775807) (h3 : b1.length <= 9223372036854775807) (h4 : b2.length <= 9223372036854775807) : bk aA Uj [.agg [.list 1 (ints a1),.list 1 (ints a2)],.agg [.list 1 (ints b1),.list 1 (ints b2)]] [] = some (.bool (decide (a1 = b1 /\ a2 = b2)),[]) := by
 rw [aM oJq sJq (an rfl)];have c1 := C8 a1 b1 (by omega) (by omega);have c2 := C8 a2 b2 (by omega) (by omega);have e1 : dJ a1 b1 = 0 ↔ a1 = b1 := rX;have e2 : dJ a2 b2 = 0 ↔ a2 = b2 := rX;unfold qJq cJq;by_cases k1 : dJ a1 b1 = 0
 ·by_cases k2 : dJ a2 b2 = 0
  ·have d : decide (a1 = b1 /\ a2 = b2) = true := by simp [e1.1 k1,e2.1 k2]
   rw [d];simp [Rb,Ra,c1,c2,k1,k2,sJy,iJy,lJy,aH,ai,au,aG,aT,af,ah,ae,aa,ak,az,aP,aK]
  ·have d : decide (a1 = b1 /\ a2 = b2) = false := by simp; intro _ h; exact k2 (e2.2 h)
   rw [d];simp [Rb,Ra,c1,c2,k1,k2,sJy,iJy,lJy,aH,ai,au,aG,aT,af,ah,ae,aa,ak,az,aP,aK]
 ·have d : decide (a1 = b1 /\ a2 = b2) = false := by simp; intro h; exact absurd (e1.2 h) k1
  rw [d];simp [Rb,Ra,c1,c2,k1,sJy,iJy,lJy,aH,ai,au,aG,aT,af,ah,ae,aa,ak,az,aP,aK]
def clH (l : List Int) (a N : Nat) (Es : List Ed) (L x1 x2 y1 y2 z1 z2 : List Int) : Heap := [dk l a,b0 N Es L,some [.list 1 (ints x1),.list 1 (ints x2)],some [.list 1 (ints y1),.list 1 (ints y2)],some [.list 1 (ints z1),.list 1 (ints z2)]]
theorem u4 (N : Nat) (Es : List Ed) (L S : List Int) : Up (dO N Es L S) := wg _
theorem s9 (N : Nat) (Es : List Ed) (L S : List Int) : Up (iL N Es L S) := wg _
theorem J7 {N : Nat} {Es : List Ed} {L S : List Int} (h : kj N Es L) (hu : Up S) (hS : ∀ x ∈ S,x ∈ L) : ∀ x ∈ S,x ∈ iL N Es L S := fun x hx => (oe h x).2 ⟨hS x hx,fun r hr => by
 have := ((jH h hu hS r).1 hr).2.2 x hx;unfold jn at *;exact this.symm⟩
theorem FW {N : Nat} {Es : List Ed} {L S T : List Int} (h : kj N Es L) (hu : Up S) (hS : ∀ x ∈ S,x ∈ L) (hv : Up T) (hT : ∀ x ∈ T,x ∈ L) (hST : ∀ x ∈ S,x ∈ T) : ∀ x ∈ dO N Es L T,x ∈ dO N Es L S := fun x hx => by
 obtain ⟨k1,k2,k3⟩ := (jH h hv hT x).1 hx;exact (jH h hu hS x).2 ⟨k1,k2,fun s hs => k3 s (hST s hs)⟩
theorem NR {N : Nat} {Es : List Ed} {L S : List Int} (h : kj N Es L) : ∀ x ∈ iL N Es L S,x ∈ L := fun x hx => ((oe h x).1 hx).1
theorem u5 {N : Nat} {Es : List Ed} {L S : List Int} (h : kj N Es L) (hu : Up S) (hS : ∀ x ∈ S,x ∈ L) : dO N Es L (iL N Es L S) = dO N Es L S := by
 refine oR (u4 _ _ _ _) (u4 _ _ _ _) fun x => ⟨FW h hu hS (s9 _ _ _ _) (NR h) (J7 h hu hS) x,fun hx => ?_⟩;obtain ⟨k1,k2,k3⟩ := (jH h hu hS x).1 hx
 exact (jH h (s9 _ _ _ _) (NR h) x).2 ⟨k1,k2,fun s hs => by
  have := ((oe h s).1 hs).2 x hx;unfold jn at *;exact this.symm⟩
theorem FX {N : Nat} {Es : List Ed} {L S : List Int} (h : kj N Es L) (hu : Up S) (hS : ∀ x ∈ S,x ∈ L) : iL N Es L (iL N Es L S) = iL N Es L S := by
 refine oR (s9 _ _ _ _) (s9 _ _ _ _) fun x => ?_;rw [oe h,oe h,u5 h hu hS]
theorem YA {N : Nat} {Es : List Ed} {L S T : List Int} (h : kj N Es L) (hu : Up S) (hS : ∀ x ∈ S,x ∈ L) (hv : Up T) (hT : ∀ x ∈ T,x ∈ L) (hST : ∀ x ∈ S,x ∈ T) : ∀ x ∈ iL N Es L S,x ∈ iL N Es L T := fun x hx => by
 obtain ⟨k1,k2⟩ := (oe h x).1 hx;exact (oe h x).2 ⟨k1,fun r hr => k2 r (FW h hu hS hv hT hST r hr)⟩
theorem Bs (l : List Int) : tV (ints l) (ints l) = true := by
 induction l with
 | nil => rfl
 | cons x r ih => simp only [ints] at ih; simp [ints,tV,vc,ih]
end Go.BmP
