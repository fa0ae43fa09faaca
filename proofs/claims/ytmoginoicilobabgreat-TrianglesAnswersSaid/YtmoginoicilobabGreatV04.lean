/- What slices.Equal, triangles.copied, Open, Valid return. -/
import Derived.Test.YtmoginoicilobabGreatUseM
import Derived.Test.YtmoginoicilobabGreatT06
import Derived.Test.YtmoginoicilobabGreatA02
import Derived.Test.YtmoginoicilobabGreatTnP
set_option linter.unusedSimpArgs false
set_option linter.unusedVariables false
set_option maxRecDepth 100000
set_option maxHeartbeats 4000000
open List renaming drop_eq_getElem_cons → bt, drop_length → dB, drop_zero → dN, foldl_cons → de, getD_eq_getElem?_getD → aP, getElem?_eq_getElem → ai, map_set → G8, take_of_length_le → aL
open Nat renaming le_of_ble_eq_true → ae
open Option.some renaming inj → cK
namespace Go.BmP
open Go.Am Go.Bm
theorem OV (a b : List Int) (hl : a.length = b.length) (ha : a.length < 4294967295) : ∀ (k i : Nat),i + k = a.length -> bL ak 0 (.loop Om) ⟨[(0,.list 1 (ints a)),(1,.list 1 (ints b)),(12,.int .i64 a.length),(13,.int .i64 i)],[]⟩ =
  if a.drop i = b.drop i then some (.exit 0,⟨[(0,.list 1 (ints a)),(1,.list 1 (ints b)),(12,.int .i64 a.length),(13,.int .i64 a.length),(14,.bool false)],[]⟩) else some (.ret,⟨[(4,.bool false)],[]⟩)
 | 0,i,hi => by
   obtain rfl : i = a.length := by omega
   rw [dB,hl,dB,if_pos rfl];exact cj (by unfold Om; simp [EF,EE,ED,EC,EB,EA,Ez,Ey,Ew,Eu,aJ,av,aX,bV,dj,aD,aI,aG,aj,aM,bk,ba,aZ])
 | k + 1,i,hi => by
   have bO : i < a.length := by omega
   have Fm : i < b.length := by omega
   have h1 : (i : Int) < a.length := by omega
   have h1b : (i : Int) < b.length := by omega
   have hw := fT (i := i) (by omega);have ih := OV a b hl ha k (i + 1) (by omega);have i1 := Kz (k := .i64) (i := (i : Int)) (n := a.length) (by omega) h1;have i2 := Kz (k := .i64) (i := (i : Int)) (n := b.length) (by omega) h1b;rw [bt bO,bt Fm];simp only [List.cons.injEq];by_cases e : a[i] = b[i]
   ·have : (a[i] = b[i] /\ a.drop (i + 1) = b.drop (i + 1)) = (a.drop (i + 1) = b.drop (i + 1)) := by simp [e]
    simp only [this];rw [<- ih];exact bG (by unfold Om; simp [EF,EE,ED,EC,EB,EA,Ez,Ey,Ew,Eu,h1,h1b,bO,Fm,hw,i1,i2,e,aJ,av,aX,bV,dj,aD,aI,aG,aj,aM,bk,ba,aZ])
   ·rw [if_neg (fun k => e k.1)];exact gr (by unfold Om; simp [EF,EE,ED,EC,EB,EA,Ez,Ey,Ew,Eu,h1,h1b,bO,Fm,hw,i1,i2,e,aJ,av,aX,bV,dj,aD,aI,aG,aj,aM,bk,ba,aZ])
theorem acJ (a b : List Int) (ha : a.length < 4294967295) : aY ak nQN [.list 1 (ints a),.list 1 (ints b)] [] = some (.bool (decide (a = b)),[]) := by
 rw [aB oQN sQN (ae rfl)];unfold qQN cQN;by_cases hl : a.length = b.length
 ·have lp := OV a b hl ha a.length 0 (by omega);rw [dN,dN,iR] at lp;have AO : (a.length : Int) = b.length := by omega
  by_cases e : a = b
  ·rw [if_pos e] at lp;subst e;simp [EF,EE,ED,EC,EB,EA,Ez,Ey,Ew,Eu,lp,aJ,av,aX,bV,dj,aD,aI,aG,aj,aM,bk,ba,aZ]
  ·rw [if_neg e] at lp;rw [decide_eq_false e];rw [AO] at lp;simp [EF,EE,ED,EC,EB,EA,Ez,Ey,Ew,Eu,lp,AO,aJ,av,aX,bV,dj,aD,aI,aG,aj,aM,bk,ba,aZ]
 ·have AO : ¬ (a.length : Int) = b.length := by omega
  have e : ¬ a = b := fun k => hl (by rw [k]);rw [decide_eq_false e];simp [EF,EE,ED,EC,EB,EA,Ez,Ey,Ew,Eu,AO,aJ,av,aX,bV,dj,aD,aI,aG,aj,aM,bk,ba,aZ]
def fh (N : Nat) (Es : List Ed) (C : Int) (Ns : List Int) : AV := .agg [.int .i64 N,.list 2 (bm Es),.int .i64 C,.list 1 (ints Ns)]
theorem Ra (N : Int) (Es : List Ed) (hE : Es.length < 1000000) : aY ak nQL [.agg [.int .i64 N,.list 2 (bm Es)]] [] = some (.agg [.int .i64 N,.list 2 (bm Es)],[]) := by
 have cl := x8 Es hE;have cE := aI Es;have g5 := av Es;have tk : (bm Es).take Es.length = bm Es := aL (by omega);rw [aB oQL sQL (ae rfl)];unfold qQL cQL;generalize bm Es = Y at *;simp [ad3,ad0,adZ,cl,cE,g5,tk,sQ6,iQ6,lQ6,eQ6,aJ,fG,dx,dz,bp,fi,fP,bZ,bU,dK,pl,eT,bQ,dH,cO,ba,aZ,eB]
theorem US {N : Nat} {Es : List Ed} (hG : gK (N : Int) Es) (hE : Es.length < 1000000) : aY ak nQp [.agg [.int .i64 N,.list 2 (bm Es)]] [] = some (.dD [fh N Es ((fw N Es : Int) / 3) (du N Es),.int .i64 0],[]) := by
 have g := gz N Es (by omega);rw [eK.2 hG] at g;have cr := l8 hG hE;have cp := Ra N Es hE;rw [aB oQp sQp (ae rfl)];unfold qQp cQp fh;generalize bm Es = Y at *;generalize ints (du N Es) = tN at *;generalize (fw N Es : Int) / 3 = tS at *;simp [X9,X8,X7,X6,X5,X4,g,cr,cp,Jc,K9,K8,Lj,sQD,iQD,lQD,eQD,sQL,iQL,lQL,eQL,aJ,fG,dx,dz,bp,fi,fP,bZ,bU,dK,pl,eT,bQ,dH,cO,ba,aZ,eB]
theorem wj {N : Nat} {Es : List Ed} (hG : gK (N : Int) Es) (hE : Es.length < 1000000) (C : Int) (Ns : List Int) (hN : Ns.length < 1000000) : aY ak TI [fh N Es C Ns] [] = some (.bool (decide (C = (fw N Es : Int) / 3) && decide (Ns = du N Es)),[]) := by
 have g := gz N Es (by omega);rw [eK.2 hG] at g;have cr := l8 hG hE;have el := acJ Ns (du N Es) (by omega);rw [aB oQs Xu (ae rfl)];unfold qQs cQs fh;generalize decide (Ns = du N Es) = q at *;generalize bm Es = Y at *;generalize ints (du N Es) = tN at *;generalize ints Ns = nN at *;generalize (fw N Es : Int) / 3 = tS at *;by_cases k : C = tS
 ·subst k;simp [Si,Sh,Sg,Sf,Se,g,cr,el,Jc,K9,K8,Lj,sQD,iQD,lQD,eQD,sQN,iQN,lQN,eQN,aJ,fG,dx,dz,bp,fi,fP,bZ,bU,dK,pl,eT,bQ,dH,cO,ba,aZ,eB]
 ·simp [Si,Sh,Sg,Sf,Se,g,cr,el,k,Jc,K9,K8,Lj,sQD,iQD,lQD,eQD,sQN,iQN,lQN,eQN,aJ,fG,dx,dz,bp,fi,fP,bZ,bU,dK,pl,eT,bQ,dH,cO,ba,aZ,eB]
/- What triangles.changed returns. -/
theorem Ri (L : List Int) (hl : L.length < 1000000) : aY ak Kj [.list 1 (ints L)] [] = some (.own 1 (ints L),[]) := by
 cases L with
 | nil => exact IE (by unfold EN; rw [oQa4]; rfl)
 | cons x r =>
   have AO : r.length + 1 <= 4294967296 := by simp at hl; omega
   rw [IF (by unfold EN; rw [oQa4]; rfl) sQa4 (ae rfl)];unfold qQa4 cQa4;simp [Zb,Za,Y9,Y8,lX,aj,AO,jQ,ba,aZ,zt,QL,RP,RO,gQ,List.take_take,Nat.min_self,List.take_length,AV.cells,AV.leaf]
def gH (n : List Int) (w b : Int) : List Int := n.set w.toNat (n.getD w.toNat 0 + b)
theorem fW (n : List Int) (w b : Int) : (gH n w b).length = n.length := by simp [gH]
theorem KH {n : List Int} {B : Int} (h : ∀ x ∈ n,-B <= x /\ x <= B) (hB : 0 <= B) (i : Nat) : -B <= n.getD i 0 /\ n.getD i 0 <= B := by
 rw [aP];cases e : n[i]? with
 | none => simp; omega
 | some y => exact h y (List.mem_of_getElem? e)
theorem Gs {n : List Int} {B w b c : Int} (h : ∀ x ∈ n,-B <= x /\ x <= B) (hB : 0 <= B) (hb : -c <= b /\ b <= c) : ∀ x ∈ gH n w b,-(B + c) <= x /\ x <= B + c := by
 intro x hx;have g := KH h hB w.toNat;rcases List.mem_or_eq_of_mem_set hx with e | e
 ·have := h x e; omega
 ·subst e; omega
theorem kh (b : Int) : ∀ (T n : List Int),(T.foldl (fun n w => gH n w b) n).length = n.length
 | [],n => rfl
 | w :: r,n => by rw [de,kh b r,fW]
def chSt (N : Nat) (Y1 Y2 : List AV) (C C2 : Int) (N1 : List AV) (u v : Nat) (b : Int) (T n : List Int) (j : Nat) (J : Env) : St := ⟨(2,.int .i64 u) :: (3,.int .i64 v) :: (4,.int .i64 b) :: (10,.ptr 2 0) :: (14,.list 1 (ints T)) :: (15,.ptr 3 0) :: (42,.list 1 (ints T)) :: (43,.int .i64 T.length) :: (44,.int .i64 j) :: J,[some [.int .i64 N,.list 2 Y1,.int .i64 C,.list 1 N1],some [.int .i64 N,.list 2 Y2],some [.int .i64 0,.own 2 [],.int .i64 0,.own 1 []],some [.int .i64 N,.list 2 Y2,.int .i64 C2,.own 1 (ints n)]]⟩
theorem Ux (N : Nat) (Y1 Y2 : List AV) (C C2 : Int) (N1 : List AV) (u v : Nat) (b : Int) (hb : -1 <= b /\ b <= 1) (T : List Int) (hT : T.length < 1000) (hw : ∀ w ∈ T,0 <= w /\ w < (N : Int)) : ∀ (k j : Nat) (n : List Int) (B : Int),j + k = T.length -> n.length = N -> (∀ x ∈ n,-B <= x /\ x <= B) -> 0 <= B -> B + k < 1000000000 ->
  bL ak 0 (.loop T0) (chSt N Y1 Y2 C C2 N1 u v b T n j []) = some (.exit 0,chSt N Y1 Y2 C C2 N1 u v b T ((T.drop j).foldl (fun n w => gH n w b) n) T.length [(45,.bool false)])
 | 0,j,n,B,hj,hn,hx,hB,hk => by
   obtain rfl : j = T.length := by omega
   rw [dB,List.foldl_nil];refine cj ?_;unfold chSt T0;generalize ints n = NN at *;generalize ints T = TT at *;simp [SW,SV,SU,SR,SQ,SP,SO,SN,SM,SL,JV,JU,aJ,fG,dx,dz,bp,fi,fP,bZ,bU]
 | k + 1,j,n,B,hj,hn,hx,hB,hk => by
   have bO : j < T.length := by omega
   have k1 : (j : Int) < T.length := by omega
   have hw1 := fT (i := j) (by omega);obtain ⟨w0,w1⟩ := hw _ (List.getElem_mem bO);have ih := Ux N Y1 Y2 C C2 N1 u v b hb T hT hw k (j + 1) (gH n T[j] b) (B + 1) (by omega) (by rw [fW]; exact hn) (Gs (c := 1) hx hB hb) (by omega) (by omega);rw [bt bO,de];refine (bG ?_).trans ih;clear ih;have g3 : (ints T)[j]? = some (.int .i64 T[j]) := by rw [aM,ai bO]; rfl
   have g4 : ∀ h,(ints T)[j]'h = .int .i64 T[j] := fun h => bk ..;have g5 := aj T;obtain ⟨w,ew⟩ : ∃ w : Nat,T[j] = w := ⟨T[j].toNat,by omega⟩;rw [ew] at w0 w1 g3 g4 ⊢;have wn : w < n.length := by omega
   have gb := KH hx hB w;have g6 : (ints n)[w]? = some (.int .i64 (n.getD w 0)) := by rw [aM,ai wn]; simp [aP,ai wn]
   have g7 : ∀ h,(ints n)[w]'h = .int .i64 (n.getD w 0) := fun h => by
    have := ai (l := ints n) h;rw [g6] at this;exact (cK this).symm
   have g8 : (ints n).length = N := by rw [aj,hn]
   have q1 : IntKind.i64.wrap (n.getD w 0 + b) = n.getD w 0 + b := cM (by omega) (by omega)
   have b1 : (ints n).set w (.int .i64 (n.getD w 0 + b)) = ints (gH n w b) := by
    unfold gH;rw [show ((w : Nat) : Int).toNat = w by omega];simp [ints,G8]
   have tk : (ints n).take N = ints n := aL (by omega);have wN : w < N := by omega
   unfold chSt T0;generalize gH n (w : Int) b = n2 at *;generalize n.getD w 0 = z at *;generalize ints n2 = N2 at *;generalize ints n = NN at *;generalize ints T = TT at *;clear ew;simp [SW,SV,SU,SR,SQ,SP,SO,SN,SM,SL,JV,JU,k1,bO,hw1,w0,w1,wN,g3,g4,g5,g6,g7,g8,q1,b1,tk,idx,aJ,fG,dx,dz,bp,fi,fP,bZ,bU,eT,bQ,dH,cO]
/- What triangles.changed returns: the whole. -/
def WS (Ns T : List Int) (u v : Nat) (b : Int) : List Int := gH (gH (T.foldl (fun n w => gH n w b) Ns) u (b * T.length)) v (b * T.length)
theorem FV (Ns T : List Int) (u v : Nat) (b : Int) : (WS Ns T u v b).length = Ns.length := by rw [WS,fW,fW,kh]
theorem IM {b : Int} (hb : -1 <= b /\ b <= 1) : ∀ (T n : List Int) (B : Int),0 <= B -> (∀ x ∈ n,-B <= x /\ x <= B) -> ∀ x ∈ T.foldl (fun n w => gH n w b) n,-(B + T.length) <= x /\ x <= B + T.length
 | [],n,B,hB,h => by simpa using h
 | w :: r,n,B,hB,h => by
   intro x hx;rw [de] at hx;have := IM hb r (gH n w b) (B + 1) (by omega) (Gs (c := 1) h hB hb) x hx;simp only [List.length_cons];omega
theorem Ch {N : Nat} {Es : List Ed} (hG : gK (N : Int) Es) (hE : Es.length < 1000000) (Fs : List Ed) (C : Int) (hC : -1000000000 < C /\ C < 1000000000) (Ns : List Int) (hN : Ns.length = N) (hb : ∀ x ∈ Ns,-100000000 <= x /\ x <= 100000000) (u v : Nat) (hu : u < N) (hv : v < N) (b : Int) (pg : b = 1 \/ b = -1) :
  aY ak nQQ [fh N Es C Ns,.agg [.int .i64 N,.list 2 (bm Fs)],.int .i64 u,.int .i64 v,.int .i64 b] [] = some (.dD [fh N Fs (C + b * (gF N Es ((u : Int),(v : Int))).length) (WS Ns (gF N Es ((u : Int),(v : Int))) u v b),.int .i64 ((gF N Es ((u : Int),(v : Int))).length : Nat),.int .i64 0],[]) := by
 have hN64 := hG.1;have lr := Av N Es (by omega) (by omega) hG.2.2;have a1 := E9 (N := N) (Es := Es) hu;have a2 := E9 (N := N) (Es := Es) hv
 have at' : ∀ {i : Nat} {x : AV},(ub (jM N Es))[i]? = some x -> ∀ h,(ub (jM N Es))[i]'h = x := fun {i x} e h => by
  have := ai (l := ub (jM N Es)) h;rw [e] at this;exact (cK this).symm
 have a1' := at' a1;have a2' := at' a2;have ll : (ub (jM N Es)).length = N := by rw [ub,List.length_map,mu]
 have n1 := jq hG (u := u) (by omega) (by omega);have n2 := jq hG (u := v) (by omega) (by omega);have sh := Du (fF N Es u) (fF N Es v) (by omega) (by omega);have cl := Ri Ns (by omega);have cN := aG Ns;have eC : shr (fF N Es u) (fF N Es v) = gF N Es ((u : Int),(v : Int)) := rfl;rw [eC] at sh;have cm := iV hG (e := ((u : Int),(v : Int))) (by simp only; omega);have cln := nx hG (e := ((u : Int),(v : Int))) (by simp only; omega);have cw : ∀ w ∈ gF N Es ((u : Int),(v : Int)),0 <= w /\ w < (N : Int) := fun w hw => (oM hG ((cm w).1 hw).1).2.1;generalize gF N Es ((u : Int),(v : Int)) = T at *;clear eC cm;obtain ⟨p,hp⟩ : ∃ p,b * (T.length : Int) = p := ⟨_,rfl⟩;have pb : -64 <= p /\ p <= 64 := by rcases pg with rfl | rfl <;> omega
 have q0 : IntKind.i64.wrap p = p := cM (by omega) (by omega);have q1 : IntKind.i64.wrap (C + p) = C + p := cM (by omega) (by omega);have lp := Ux N (bm Es) (bm Fs) C (C + p) (ints Ns) u v b (by rcases pg with rfl | rfl <;> omega) T (by omega) cw T.length 0 Ns 100000000 (by omega) hN hb (by omega) (by omega);rw [dN] at lp;have fb := IM (b := b) (by rcases pg with rfl | rfl <;> omega) T Ns 100000000 (by omega) hb;have fl := kh b T Ns;unfold WS;rw [hp];generalize T.foldl (fun n w => gH n w b) Ns = F at *;have fb' : ∀ x ∈ F,-100000064 <= x /\ x <= 100000064 := fun x hx => by have := fb x hx; omega
 have sb := Gs (w := (u : Int)) (b := p) (c := 64) fb' (by omega) pb;have sl := fW F (u : Int) p
 have stp : ∀ (n : List Int) (w : Nat),n.length = N -> w < N -> (∀ x ∈ n,-100000200 <= x /\ x <= 100000200) -> (ints n)[w]? = some (.int .i64 (n.getD w 0)) /\ (∀ h,(ints n)[w]'h = .int .i64 (n.getD w 0)) /\ IntKind.i64.wrap (n.getD w 0 + p) = n.getD w 0 + p /\ (ints n).set w (.int .i64 (n.getD w 0 + p)) = ints (gH n w p) /\ (ints n).length = N /\ (ints n).take N = ints n := by
  intro n w hl hw hx;have g6 : (ints n)[w]? = some (.int .i64 (n.getD w 0)) := by rw [aM,ai (by omega)]; simp [aP,ai (show w < n.length by omega)]
  have gb := KH hx (by omega) w;refine ⟨g6,fun h => ?_,cM (by omega) (by omega),?_,by rw [aj,hl],aL (by rw [aj]; omega)⟩
  ·have := ai (l := ints n) h;rw [g6] at this;exact (cK this).symm
  ·unfold gH;rw [show ((w : Nat) : Int).toNat = w by omega];simp [ints,G8]
 obtain ⟨s1,s2,s3,s4,s5,s6⟩ := stp F u (by omega) hu fun x hx => by have := fb' x hx; omega
 obtain ⟨r1,r2,r3,r4,r5,r6⟩ := stp (gH F (u : Int) p) v (by omega) hv fun x hx => by have := sb x hx; omega
 have z5 : (ints (gH (gH F (u : Int) p) (v : Int) p)).length = N := by rw [aj,fW,fW]; omega
 have z6 : (ints (gH (gH F (u : Int) p) (v : Int) p)).take N = ints (gH (gH F (u : Int) p) (v : Int) p) := aL (by omega);have gT := aj T;have gN : (ints Ns).length = N := by rw [aj,hN]
 have tkN : (ints Ns).take N = ints Ns := aL (by omega);have ui : (u : Int) < N := by omega
 have vi : (v : Int) < N := by omega
 unfold chSt at lp;rw [iR] at lp;rw [aB oQQ sQQ (ae rfl)];unfold qQQ cQQ fh;clear fb fb' sb stp at' cw hb pg;generalize gH (gH F (u : Int) p) (v : Int) p = F3 at *;generalize (gH F (u : Int) p).getD v 0 = zv at *;generalize gH F (u : Int) p = F2 at *;generalize F.getD u 0 = zu at *;generalize ints F3 = I3 at *;generalize ints F2 = I2 at *;generalize ints F = I1 at *;generalize ints Ns = I0 at *;generalize ints T = TT at *;generalize ints (fF N Es u) = NU at *;generalize ints (fF N Es v) = NV at *;generalize ub (jM N Es) = LL at *;generalize bm Fs = Y2 at *;generalize bm Es = Y at *;simp [SW,SV,SU,SR,SQ,SP,SO,SN,SM,SL,JV,JU,lr,a1,a2,a1',a2',ll,sh,cl,cN,hp,q0,q1,lp,s1,s2,s3,s4,s5,s6,r1,r2,r3,r4,r5,r6,z5,z6,gT,gN,tkN,ui,vi,hu,hv,idx,sQG,iQG,lQG,eQG,sQY,iQY,lQY,eQY,sQa4,iQa4,lQa4,eQa4,aJ,fG,dx,dz,bp,fi,fP,bZ,bU,dK,pl,eT,bQ,dH,cO,ba,aZ,eB]
/- What triangles.Insert returns for a graph with its triangles. -/
def jW : AV := .agg [.int .i64 0,.list 2 [],.int .i64 0,.list 1 []]
theorem RI {N : Nat} {Es : List Ed} (hG : gK (N : Int) Es) (hE : Es.length < 1000000) : (0 <= (fw N Es : Int) / 3 /\ (fw N Es : Int) / 3 < 100000000) /\ (du N Es).length = N /\ ∀ x ∈ du N Es,-100000000 <= x /\ x <= 100000000 := by
 have b1 := pk hG;have b2 := I5 hG;refine ⟨⟨by omega,by omega⟩,cS N Es,fun x hx => ?_⟩;have := b2 x hx;omega
theorem Lx {N : Nat} {Es : List Ed} (hG : gK (N : Int) Es) (hE : Es.length < 1000000) (u v : Int) : aY ak ZP [fh N Es ((fw N Es : Int) / 3) (du N Es),.int .i64 u,.int .i64 v] [] =
  some (if eM N u v then (if bw u v ∈ Es then .dD [jW,.int .i64 0,.int .i64 15] else .dD [fh N (fE (bw u v) Es) ((fw N Es : Int) / 3 + (gF N Es (u,v)).length) (WS (du N Es) (gF N Es (u,v)) u.toNat v.toNat 1),.int .i64 ((gF N Es (u,v)).length : Nat),.int .i64 0]) else .dD [jW,.int .i64 0,.int .i64 6],[]) := by
 obtain ⟨cb,nl,nb⟩ := RI hG hE;have hN := hG.1;have va := wj hG hE ((fw N Es : Int) / 3) (du N Es) (by omega);rw [decide_eq_true rfl,decide_eq_true rfl] at va;have ad := adt N Es hG hE u v;unfold WC at ad;by_cases q : eM N u v
 ·rw [if_pos q] at ad ⊢;by_cases m : bw u v ∈ Es
  ·rw [if_pos m] at ad ⊢;rw [aB oQw sQw (ae rfl)];unfold qQw cQw jW;unfold fh at va ⊢;generalize ints (du N Es) = tN at *;generalize (fw N Es : Int) / 3 = tS at *;generalize bm Es = Y at *;simp [Mt,Ms,Mr,Mq,Mp,Mo,Mn,va,ad,Xu,iQs,lQs,eQs,sQP,iQP,lQP,eQP,aJ,fG,dx,dz,bp,fi,fP,bZ,bU,dK,pl,eT,bQ,dH,cO,ba,aZ,eB]
  ·rw [if_neg m] at ad ⊢;have ch := Ch hG hE (fE (bw u v) Es) ((fw N Es : Int) / 3) (by omega) (du N Es) nl nb u.toNat v.toNat (by have := q.2.1; omega) (by have := q.2.2; omega) 1 (.inl rfl);rw [show ((u.toNat : Nat) : Int) = u by have := q.2.1; omega,show ((v.toNat : Nat) : Int) = v by have := q.2.2; omega,Int.one_mul] at ch;rw [aB oQw sQw (ae rfl)];unfold qQw cQw;unfold fh at va ch ⊢;generalize ints (WS (du N Es) (gF N Es (u,v)) u.toNat v.toNat 1) = tM at *;generalize ints (du N Es) = tN at *;generalize (fw N Es : Int) / 3 = tS at *;generalize bm (fE (bw u v) Es) = Y2 at *;generalize bm Es = Y at *;generalize (gF N Es (u,v)).length = n at *;simp [Mt,Ms,Mr,Mq,Mp,Mo,Mn,va,ad,ch,Xu,iQs,lQs,eQs,sQP,iQP,lQP,eQP,sQQ,iQQ,lQQ,eQQ,aJ,fG,dx,dz,bp,fi,fP,bZ,bU,dK,pl,eT,bQ,dH,cO,ba,aZ,eB]
 ·rw [if_neg q] at ad ⊢;rw [aB oQw sQw (ae rfl)];unfold qQw cQw jW;unfold fh at va ⊢;generalize ints (du N Es) = tN at *;generalize (fw N Es : Int) / 3 = tS at *;generalize bm Es = Y at *;simp [Mt,Ms,Mr,Mq,Mp,Mo,Mn,va,ad,Xu,iQs,lQs,eQs,sQP,iQP,lQP,eQP,aJ,fG,dx,dz,bp,fi,fP,bZ,bU,dK,pl,eT,bQ,dH,cO,ba,aZ,eB]
end Go.BmP
