/- What the functions of sample and of ref33 return where the graph is refused. -/
import Derived.Test.YtmoginoicilobaaGreatDoorUseM
import Derived.Test.YtmoginoicilobaaGreatDoorS05
import Derived.Test.YtmoginoicilobaaGreatDoorK05
import Derived.Test.YtmoginoicilobaaGreatDoorS11
set_option linter.unusedSimpArgs false
set_option linter.unusedVariables false
set_option maxRecDepth 100000
set_option maxHeartbeats 8000000
open Int renaming toNat_natCast → k7
open List renaming append_nil → ft, drop_eq_getElem_cons → aP, drop_length → cz, drop_zero → b9, getD_eq_getElem?_getD → bk, getElem?_eq_getElem → af, mem_cons → aX, mem_cons_self → VA, nil_append → ei, take_length → cX, take_of_length_le → aL
open Nat renaming le_of_ble_eq_true → ab, lt_of_le_of_lt → dM
open Option.some renaming inj → bU
namespace Go.BmP
open Go.Am Go.Bm
theorem aco (n : Int) (Fs : List Ed) (hE : Fs.length < 1000000) (e : Int) (he : sV n Fs = e) (h0 : e ≠ 0) (cs : List Int) (c : Int) : bf aj VH [.agg [.int .i64 n,.list 2 (bc Fs)],.list 1 (ints cs),.int .i64 c] [] = some (.dp [.agg [.int .i64 0,.list 2 []],.int .i64 e],[]) := by
 rw [aB oQk Ws (ab rfl)];have ck := fH n Fs (by omega);rw [he] at ck;unfold qQk cQk;generalize bc Fs = Y at *;generalize ints cs = CC at *;simp [En,Em,El,Ek,Ej,Ei,Eh,Eg,Ef,ck,G9,IM,IJ,h0,aJ,eO,cI,cO,bh,eC,fo,bL,bH,df,pl,eH,bV,du,cE,dy,jb,kM,sO,iH,qZ,oN,kH,aY,aV,eh]
theorem af0 (n : Int) (Fs : List Ed) (hE : Fs.length < 1000000) (e : Int) (he : sV n Fs = e) (h0 : e ≠ 0) (cs : List Int) (c : Int) : bf aj VG [.agg [.int .i64 n,.list 2 (bc Fs)],.list 1 (ints cs),.int .i64 c] [] = some (.dp [.int .i64 0,.int .i64 e],[]) := by
 rw [aB oQm sQm (ab rfl)];have ck := aco n Fs hE e he h0 cs c;unfold qQm cQm;generalize bc Fs = Y at *;generalize ints cs = CC at *;simp [RB,RA,Rx,Rw,Rs,Rr,ck,Ws,iQk,lQk,h0,aJ,eO,cI,cO,bh,eC,fo,bL,bH,df,pl,eH,bV,du,cE,dy,jb,kM,sO,iH,qZ,oN,kH,aY,aV,eh]
theorem acp (n : Int) (Fs : List Ed) (hE : Fs.length < 1000000) (e : Int) (he : sV n Fs = e) (h0 : e ≠ 0) (bs : List Bool) : bf aj Yg [.agg [.int .i64 n,.list 2 (bc Fs)],.list 1 (fK bs)] [] = some (.dp [.agg [.int .i64 0,.list 2 []],.int .i64 e],[]) := by
 rw [aB oQo sQo (ab rfl)];have ck := fH n Fs (by omega);rw [he] at ck;unfold qQo cQo;generalize bc Fs = Y at *;generalize fK bs = CC at *;simp [Rk,Rj,Ri,Rh,Rg,Rf,Re,ck,G9,IM,IJ,h0,aJ,eO,cI,cO,bh,eC,fo,bL,bH,df,pl,eH,bV,du,cE,dy,jb,kM,sO,iH,qZ,oN,kH,aY,aV,eh]
theorem afZ (n : Int) (Fs : List Ed) (hE : Fs.length < 1000000) (e : Int) (he : sV n Fs = e) (h0 : e ≠ 0) (bs : List Bool) : bf aj nQq [.agg [.int .i64 n,.list 2 (bc Fs)],.list 1 (fK bs)] [] = some (.dp [.int .i64 0,.int .i64 e],[]) := by
 rw [aB oQq sQq (ab rfl)];have ck := acp n Fs hE e he h0 bs;unfold qQq cQq;generalize bc Fs = Y at *;generalize fK bs = CC at *;simp [Rc,Rb,Ra,Q9,Q8,Q7,ck,sQo,iQo,lQo,h0,aJ,eO,cI,cO,bh,eC,fo,bL,bH,df,pl,eH,bV,du,cE,dy,jb,kM,sO,iH,qZ,oN,kH,aY,aV,eh]
theorem afW (n : Int) (Fs : List Ed) (hE : Fs.length < 1000000) (e : Int) (he : sV n Fs = e) (h0 : e ≠ 0) (c : Int) : bf aj nQv [.agg [.int .i64 n,.list 2 (bc Fs)],.int .i64 c] [] = some (.dp [.list 1 [],.bool false,.int .i64 e],[]) := by
 rw [aB oQv sQv (ab rfl)];have ck := fH n Fs (by omega);rw [he] at ck;unfold qQv cQv;generalize bc Fs = Y at *;simp [Mn,Mm,Ml,Mk,Mj,Mi,Mh,Mg,ck,G9,IM,IJ,h0,aJ,eO,cI,cO,bh,eC,fo,bL,bH,df,pl,eH,bV,du,cE,dy,jb,kM,sO,iH,qZ,oN,kH,aY,aV,eh]
theorem afY (n : Int) (Fs : List Ed) (hE : Fs.length < 1000000) (e : Int) (he : sV n Fs = e) (h0 : e ≠ 0) (cs : List Int) : bf aj nQt [.agg [.int .i64 n,.list 2 (bc Fs)],.list 1 (ints cs)] [] = some (.dp [.agg [.int .i64 0,.int .i64 0],.int .i64 e],[]) := by
 rw [aB oQt sQt (ab rfl)];have ck := fH n Fs (by omega);rw [he] at ck;unfold qQt cQt;generalize bc Fs = Y at *;generalize ints cs = CC at *;simp [zj,zi,zh,zg,zf,ze,zd,zc,zb,za,sA,sx,ss,sq,sk,ck,G9,IM,IJ,h0,aJ,eO,cI,cO,bh,eC,fo,bL,bH,df,pl,eH,bV,du,cE,dy,jb,kM,sO,iH,qZ,oN,kH,aY,aV,eh]
theorem acr (n : Int) (Fs : List Ed) (hE : Fs.length < 1000000) (e : Int) (he : sV n Fs = e) (h0 : e ≠ 0) (cs : List Int) (c : Int) : bf aj Yh [.agg [.int .i64 n,.list 2 (bc Fs)],.list 1 (ints cs),.int .i64 c] [] = some (.dp [.agg [.int .i64 0,.list 2 []],.int .i64 e],[]) := by
 rw [aB oQl sQl (ab rfl)];have ck := j5 n Fs (by omega);rw [he] at ck;unfold qQl cQl;generalize bc Fs = Y at *;generalize ints cs = CC at *;simp [qz,qy,qx,qw,qv,qu,qt,qp,qo,qm,mi,mh,mg,mf,me,mc,mb,ma,l9,l8,ck,G8,IL,II,h0,aJ,eO,cI,cO,bh,eC,fo,bL,bH,df,pl,eH,bV,du,cE,dy,jb,kM,sO,iH,qZ,oN,kH,aY,aV,eh]
theorem agb (n : Int) (Fs : List Ed) (hE : Fs.length < 1000000) (e : Int) (he : sV n Fs = e) (h0 : e ≠ 0) (cs : List Int) (c : Int) : bf aj nQn [.agg [.int .i64 n,.list 2 (bc Fs)],.list 1 (ints cs),.int .i64 c] [] = some (.dp [.int .i64 0,.int .i64 e],[]) := by
 rw [aB oQn sQn (ab rfl)];have ck := acr n Fs hE e he h0 cs c;unfold qQn cQn;generalize bc Fs = Y at *;generalize ints cs = CC at *;simp [Rq,Rp,Ro,Rn,Rm,Rl,ck,sQl,iQl,lQl,h0,aJ,eO,cI,cO,bh,eC,fo,bL,bH,df,pl,eH,bV,du,cE,dy,jb,kM,sO,iH,qZ,oN,kH,aY,aV,eh]
theorem acs (n : Int) (Fs : List Ed) (hE : Fs.length < 1000000) (e : Int) (he : sV n Fs = e) (h0 : e ≠ 0) (bs : List Bool) : bf aj nQp [.agg [.int .i64 n,.list 2 (bc Fs)],.list 1 (fK bs)] [] = some (.dp [.agg [.int .i64 0,.list 2 []],.int .i64 e],[]) := by
 rw [aB oQp sQp (ab rfl)];have ck := j5 n Fs (by omega);rw [he] at ck;unfold qQp cQp;generalize bc Fs = Y at *;generalize fK bs = CC at *;simp [Ee,Ec,Eb,Ea,D9,D8,D7,D6,D5,D4,xA,xz,xy,ck,G8,IL,II,h0,aJ,eO,cI,cO,bh,eC,fo,bL,bH,df,pl,eH,bV,du,cE,dy,jb,kM,sO,iH,qZ,oN,kH,aY,aV,eh]
theorem aga (n : Int) (Fs : List Ed) (hE : Fs.length < 1000000) (e : Int) (he : sV n Fs = e) (h0 : e ≠ 0) (bs : List Bool) : bf aj nQr [.agg [.int .i64 n,.list 2 (bc Fs)],.list 1 (fK bs)] [] = some (.dp [.int .i64 0,.int .i64 e],[]) := by
 rw [aB oQr sQr (ab rfl)];have ck := acs n Fs hE e he h0 bs;unfold qQr cQr;generalize bc Fs = Y at *;generalize fK bs = CC at *;simp [Q6,Q5,Q4,Q2,Q1,Q0,ck,sQp,iQp,lQp,h0,aJ,eO,cI,cO,bh,eC,fo,bL,bH,df,pl,eH,bV,du,cE,dy,jb,kM,sO,iH,qZ,oN,kH,aY,aV,eh]
theorem af8 (n : Int) (Fs : List Ed) (hE : Fs.length < 1000000) (e : Int) (he : sV n Fs = e) (h0 : e ≠ 0) (c : Int) : bf aj Yf [.agg [.int .i64 n,.list 2 (bc Fs)],.int .i64 c] [] = some (.dp [.list 1 [],.bool false,.int .i64 e],[]) := by
 rw [aB oQw sQw (ab rfl)];have ck := j5 n Fs (by omega);rw [he] at ck;unfold qQw cQw;generalize bc Fs = Y at *;simp [rI,rH,rG,rF,rE,rD,rC,rB,rA,rz,nf,m9,m8,m7,m6,m5,m4,mZ,mY,ck,G8,IL,II,h0,aJ,eO,cI,cO,bh,eC,fo,bL,bH,df,pl,eH,bV,du,cE,dy,jb,kM,sO,iH,qZ,oN,kH,aY,aV,eh]
theorem af9 (n : Int) (Fs : List Ed) (hE : Fs.length < 1000000) (e : Int) (he : sV n Fs = e) (h0 : e ≠ 0) (cs : List Int) : bf aj nQu [.agg [.int .i64 n,.list 2 (bc Fs)],.list 1 (ints cs)] [] = some (.dp [.agg [.int .i64 0,.int .i64 0],.int .i64 e],[]) := by
 rw [aB oQu sQu (ab rfl)];have ck := j5 n Fs (by omega);rw [he] at ck;unfold qQu cQu;generalize bc Fs = Y at *;generalize ints cs = CC at *;simp [BR,BQ,BP,BO,BN,BM,BL,BK,BJ,BI,uB,uA,uz,uy,ck,G8,IL,II,h0,aJ,eO,cI,cO,bh,eC,fo,bL,bH,df,pl,eH,bV,du,cE,dy,jb,kM,sO,iH,qZ,oN,kH,aY,aV,eh]
/- What Mono and ByColours of sample and ref33 return of a graph that is in order, for any colours: the same. -/
theorem UH (N : Nat) (Y CS : List AV) (c x : Int) (h : x < 0 \/ c <= x) : bf aj UD [.int .i64 x,.ptr 2 0] (h4 N Y CS c) = some (.bool true,h4 N Y CS c) := by
 rw [aB oQD sQD (ab rfl)];unfold qQD cQD h4;by_cases h1 : x < 0
 ·simp [Sj,Si,h1,aJ,eO,cI,cO,bh,eC,fo,bL,bH,eh,aY,aV]
 ·have h2 : c <= x := by omega
  simp [Sj,Si,h1,h2,aJ,eO,cI,cO,bh,eC,fo,bL,bH,eh,aY,aV]
theorem YK (N : Nat) (Y : List AV) (cs : List Int) (hl : cs.length < 4294967295) (c : Int) : ∀ (k i : Nat),i + k = cs.length -> (∃ x ∈ cs.drop i,x < 0 \/ c <= x) -> ∃ r : Nat,bj aj 4 (.loop FO) (KS N Y cs c i []) = some (.ret,⟨[(4,.int .i64 r)],h4 N Y (ints cs) c⟩)
 | 0,i,hi,hx => by
   rw [List.drop_of_length_le (by omega)] at hx;obtain ⟨x,hx,_⟩ := hx;cases hx
 | k + 1,i,hi,hx => by
   have bz : i < cs.length := by omega
   have k1 : (i : Int) < cs.length := by omega
   have hw := dw (i := i) (by omega);have g3 : (ints cs)[i]? = some (.int .i64 cs[i]) := by rw [aI,af bz]; rfl
   have g4 : ∀ h,(ints cs)[i]'h = .int .i64 cs[i] := fun h => aT ..;have g5 := ae cs;by_cases q : cs[i] < 0 \/ c <= cs[i]
   ·refine ⟨i,dj ?_⟩;have m := UH N Y (ints cs) c cs[i] q;generalize cs[i] = x at *;unfold h4 at m;unfold KS FO h4;generalize ints cs = C at *;simp [ER,EP,EN,EM,EL,EK,EJ,EI,k1,bz,hw,m,g3,g4,g5,idx,sQD,iQD,lQD,eO,cI,cO,bh,eC,fo,bL,bH,aJ]
   ·have Ds : ∃ x ∈ cs.drop (i + 1),x < 0 \/ c <= x := by
     obtain ⟨x,hm,hb⟩ := hx;rw [aP bz] at hm;rcases aX.1 hm with rfl | hm
     ·exact absurd hb q
     ·exact ⟨x,hm,hb⟩
    obtain ⟨r,e⟩ := YK N Y cs hl c k (i + 1) (by omega) Ds;refine ⟨r,(aR ?_).trans e⟩;have m := Ix N Y (ints cs) c cs[i] (by omega);clear e hx Ds;generalize cs[i] = x at *;unfold h4 at m;unfold KS FO h4;generalize ints cs = C at *;simp [ER,EP,EN,EM,EL,EK,EJ,EI,k1,bz,hw,m,g3,g4,g5,idx,sQD,iQD,lQD,eO,cI,cO,bh,eC,fo,bL,bH,aJ]
theorem Ho (N : Nat) (Y : List AV) (cs : List Int) (hl : cs.length < 4294967295) (c : Int) (h : ∃ x ∈ cs,x < 0 \/ c <= x) : bf aj nQC [.list 1 (ints cs),.func (.func UD) [] [.ptr 2 0]] (h4 N Y (ints cs) c) = some (.bool true,h4 N Y (ints cs) c) := by
 obtain ⟨r,lp⟩ := YK N Y cs hl c cs.length 0 (by omega) (by rwa [b9])
 have ix : bf aj nQU [.list 1 (ints cs),.func (.func UD) [] [.ptr 2 0]] (h4 N Y (ints cs) c) = some (.int .i64 r,h4 N Y (ints cs) c) := by
  rw [aB oQU sQU (ab rfl)];unfold KS h4 at lp;rw [iB] at lp;unfold qQU cQU h4;have g5 := ae cs;generalize ints cs = C at *;simp [ER,EP,EN,EM,EL,EK,EJ,EI,lp,g5,aJ,eO,cI,cO,bh,eC,fo,bL,bH,eh,aY,aV]
 rw [aB oQC sQC (ab rfl)];unfold h4 at ix;unfold qQC cQC h4;have r0 : (0 : Int) <= (r : Int) := by omega
 generalize (r : Int) = z at *;generalize ints cs = C at *;simp [XK,XJ,ix,r0,aJ,sQU,iQU,lQU,eO,cI,cO,bh,eC,fo,bL,bH,eh,aY,aV]
def I0 : AV := .agg [.int .i64 0,.list 2 []]
def Fy (N : Nat) (Es : List Ed) (cs : List Int) (c : Int) : AV :=
 if cs.length ≠ N then .dp [I0,.int .i64 4] else if c < 1 \/ 64 < c then .dp [I0,.int .i64 1]
 else if ∃ x ∈ cs,x < 0 \/ c <= x then .dp [I0,.int .i64 1] else .dp [.agg [.int .i64 N,.list 2 (bc (eY cs Es))],.int .i64 0]
theorem LM {N : Nat} {Es : List Ed} (hG : kC (N : Int) Es) (hE : Es.length < 1000000) (cs : List Int) (c : Int) :
  bf aj VH [.agg [.int .i64 N,.list 2 (bc Es)],.list 1 (ints cs),.int .i64 c] [] = some (Fy N Es cs c,[]) := by
 have hN := hG.1;have g := fH N Es (by omega);rw [dW.2 hG] at g;have g5 := ae cs;unfold Fy;by_cases hc : cs.length = N
 case neg =>
  have G4 : ¬ (cs.length : Int) = N := by omega
  rw [if_pos hc];rw [aB oQk Ws (ab rfl)];unfold qQk cQk I0;generalize ints cs = C at *;generalize bc Es = Y at *;simp [En,Em,El,Ek,Ej,Ei,Eh,Eg,Ef,g,g5,hc,G4,aJ,G9,IM,IJ,eO,cI,cO,bh,eC,fo,bL,bH,df,pl,eH,bV,du,cE,aY,aV,eh]
 rw [if_neg (by simpa using hc)];by_cases c1 : c < 1
 ·rw [if_pos (.inl c1)];rw [hc] at g5;rw [aB oQk Ws (ab rfl)];unfold qQk cQk I0;generalize ints cs = C at *;generalize bc Es = Y at *;simp [En,Em,El,Ek,Ej,Ei,Eh,Eg,Ef,g,g5,c1,aJ,G9,IM,IJ,eO,cI,cO,bh,eC,fo,bL,bH,df,pl,eH,bV,du,cE,aY,aV,eh]
 by_cases c2 : 64 < c
 ·rw [if_pos (.inr c2)];rw [hc] at g5;rw [aB oQk Ws (ab rfl)];unfold qQk cQk I0;generalize ints cs = C at *;generalize bc Es = Y at *;simp [En,Em,El,Ek,Ej,Ei,Eh,Eg,Ef,g,g5,c1,c2,aJ,G9,IM,IJ,eO,cI,cO,bh,eC,fo,bL,bH,df,pl,eH,bV,du,cE,aY,aV,eh]
 rw [if_neg (by omega)];by_cases hb : ∃ x ∈ cs,x < 0 \/ c <= x
 ·rw [if_pos hb];have ct := Ho N (bc Es) cs (by omega) c hb;rw [hc] at g5;unfold h4 at ct;rw [aB oQk Ws (ab rfl)];unfold qQk cQk I0;generalize ints cs = C at *;generalize bc Es = Y at *;simp [En,Em,El,Ek,Ej,Ei,Eh,Eg,Ef,g,g5,c1,c2,ct,aJ,G9,IM,IJ,sQC,iQC,lQC,eO,cI,cO,bh,eC,fo,bL,bH,df,pl,eH,bV,du,cE,dy,jb,kM,sO,iH,qZ,oN,kH,aY,aV,eh]
 ·rw [if_neg hb]
  exact Iw hG hE cs hc c (by omega) fun x hx => by
   have : ¬ (x < 0 \/ c <= x) := fun k => hb ⟨x,hx,k⟩;omega
/-! The reference -/
def rmG (N : Nat) (Y : List AV) : Heap := [some [.int .i64 N,.list 2 Y],some [.int .i64 0,.own 2 []]]
theorem L8 (N : Nat) (Y : List AV) (cs : List Int) (hl : cs.length < 4294967295) (c : Int) : ∀ (k i : Nat),i + k = cs.length -> bj aj 0 (.loop IG) ⟨[(1,.list 1 (ints cs)),(2,.int .i64 c),(3,.ptr 0 0),(6,.ptr 1 0),(9,.int .i64 i)],rmG N Y⟩ =
  if ∃ x ∈ cs.drop i,x < 0 \/ c <= x then some (.ret,⟨[(6,.ptr 1 0),(7,.int .i64 1)],rmG N Y⟩) else some (.exit 0,⟨[(1,.list 1 (ints cs)),(2,.int .i64 c),(3,.ptr 0 0),(6,.ptr 1 0),(9,.int .i64 cs.length),(34,.bool false)],rmG N Y⟩)
 | 0,i,hi => by
   obtain rfl : i = cs.length := by omega
   rw [cz,if_neg (by simp)];refine bm ?_;have g5 := ae cs;unfold rmG;generalize ints cs = C at *;unfold IG;simp [qz,qy,qx,qw,qv,qu,qt,qp,qo,qm,mi,mh,mg,mf,me,mc,mb,ma,l9,l8,g5,aJ]
 | k + 1,i,hi => by
   have bz : i < cs.length := by omega
   have k1 : (i : Int) < cs.length := by omega
   have hw := dw (i := i) (by omega);have g3 : (ints cs)[i]? = some (.int .i64 cs[i]) := by rw [aI,af bz]; rfl
   have g4 : ∀ h,(ints cs)[i]'h = .int .i64 cs[i] := fun h => aT ..;have g5 := ae cs;have ih := L8 N Y cs hl c k (i + 1) (by omega);have dr := aP bz;by_cases q0 : cs[i] < 0
   ·rw [if_pos ⟨cs[i],by rw [dr]; exact VA,.inl q0⟩];refine dj ?_;clear ih dr;generalize cs[i] = x at *;unfold rmG;generalize ints cs = C at *;unfold IG;simp [qz,qy,qx,qw,qv,qu,qt,qp,qo,qm,mi,mh,mg,mf,me,mc,mb,ma,l9,l8,k1,bz,hw,g3,g4,g5,q0,idx,aJ]
   by_cases q1 : c <= cs[i]
   ·rw [if_pos ⟨cs[i],by rw [dr]; exact VA,.inr q1⟩];refine dj ?_;clear ih dr;generalize cs[i] = x at *;unfold rmG;generalize ints cs = C at *;unfold IG;simp [qz,qy,qx,qw,qv,qu,qt,qp,qo,qm,mi,mh,mg,mf,me,mc,mb,ma,l9,l8,k1,bz,hw,g3,g4,g5,q0,q1,idx,aJ]
   have eq : (∃ x ∈ cs.drop i,x < 0 \/ c <= x) ↔ ∃ x ∈ cs.drop (i + 1),x < 0 \/ c <= x := by
    rw [dr];constructor
    ·rintro ⟨x,hm,hb⟩;rcases aX.1 hm with rfl | hm
     ·omega
     ·exact ⟨x,hm,hb⟩
    ·rintro ⟨x,hm,hb⟩;exact ⟨x,List.mem_cons_of_mem _ hm,hb⟩
   simp only [eq];rw [<- ih];refine aR ?_;clear ih dr eq;generalize cs[i] = x at *;unfold rmG;generalize ints cs = C at *;unfold IG;simp [qz,qy,qx,qw,qv,qu,qt,qp,qo,qm,mi,mh,mg,mf,me,mc,mb,ma,l9,l8,k1,bz,hw,g3,g4,g5,q0,q1,idx,aJ]
def rmS (N : Nat) (Es : List Ed) (cs : List Int) (o : List Ed) (i : Nat) (J : Env) : St := ⟨(1,.list 1 (ints cs)) :: (3,.ptr 0 0) :: (6,.ptr 1 0) :: (10,.ptr 2 0) :: (11,.int .i64 i) :: J,[some [.int .i64 N,.list 2 (bc Es)],some [.int .i64 0,.own 2 []],some [.int .i64 N,.own 2 (bc o)]]⟩
theorem Un (N : Nat) (Es : List Ed) (hE : Es.length < 1000000) (cs : List Int) (hc : cs.length = N) (hN : N <= 64) (o : List Ed) (ho : o.length < 1000000) (i : Nat) (hi : i < Es.length) (he : 0 <= Es[i].1 /\ Es[i].1 < Es[i].2 /\ Es[i].2 < (N : Int)) :
  bj aj 0 IF (rmS N Es cs o i []) = some (.normal,rmS N Es cs (if ud cs Es[i].1 = ud cs Es[i].2 then o ++ [Es[i]] else o) (i + 1) []) := by
 obtain ⟨u,hu⟩ : ∃ u : Nat,Es[i].1 = u := ⟨Es[i].1.toNat,by omega⟩;obtain ⟨v,hv⟩ : ∃ v : Nat,Es[i].2 = v := ⟨Es[i].2.toNat,by omega⟩;have k1 : (i : Int) < Es.length := by omega
 have hw := dw (i := i) (by omega);have ku : (u : Int) < N := by omega
 have kv : (v : Int) < N := by omega
 have lu : u < cs.length := by omega
 have lv : v < cs.length := by omega
 have ku2 : u < N := by omega
 have kv2 : v < N := by omega
 have g3 : (bc Es)[i]? = some (.agg [.int .i64 u,.int .i64 v]) := by rw [aO,af hi]; simp [cB,hu,hv]
 have g4 : ∀ h,(bc Es)[i]'h = .agg [.int .i64 u,.int .i64 v] := fun h => by
  have := af (l := bc Es) h;rw [g3] at this;exact (bU this).symm
 have g5 := au Es;have gc := ae cs;rw [hc] at gc;have cu : ud cs u = cs[u] := by unfold ud; rw [k7,bk,af lu]; rfl
 have cv : ud cs v = cs[v] := by unfold ud; rw [k7,bk,af lv]; rfl
 have gu : ∀ h,(ints cs)[u]'h = .int .i64 cs[u] := fun h => aT ..;have gv : ∀ h,(ints cs)[v]'h = .int .i64 cs[v] := fun h => aT ..;have gu1 : (ints cs)[u]? = some (.int .i64 cs[u]) := by rw [aI,af lu]; rfl
 have gv1 : (ints cs)[v]? = some (.int .i64 cs[v]) := by rw [aI,af lv]; rfl
 have hL : o.length + 1 <= 4294967296 := by omega
 have e0 : Es[i] = ((u : Int),(v : Int)) := Prod.ext hu hv;have sn := pn o (u : Int) (v : Int)
 have tk : (bc (o ++ [((u : Int),(v : Int))])).take (o.length + 1) = bc (o ++ [((u : Int),(v : Int))]) := by
  rw [fI,aL (by simp)]
 have V3 : (bc o).take o.length = bc o := by rw [fI,cX]
 have lo1 := au o;have l3 : (bc o).length <= 4294967295 := by omega
 have V4 : (bc (o ++ [((u : Int),(v : Int))])).take ((bc o).length + 1) = bc (o ++ [((u : Int),(v : Int))]) := by rw [lo1]; exact tk
 rw [e0];simp only;rw [cu,cv];generalize cs[u] = x at *;generalize cs[v] = y at *;clear cu cv hc lu lv;by_cases q : x = y
 ·rw [if_pos q];subst q;unfold rmS;generalize bc (o ++ [((u : Int),(v : Int))]) = Z at *;generalize ints cs = C at *;generalize bc Es = Y at *;unfold IF;simp [qz,qy,qx,qw,qv,qu,qt,qp,qo,qm,mi,mh,mg,mf,me,mc,mb,ma,l9,l8,k1,hi,hw,ku,kv,ku2,kv2,g3,g4,g5,gc,gu,gv,gu1,gv1,hL,l3,sn,tk,V4,V3,lo1,kR,idx,aJ,eO,cI,df,pl,cO,bh,eC,fo,bL,bH,eH,bV,du,cE]
 ·rw [if_neg q];unfold rmS;generalize bc o = Z at *;generalize ints cs = C at *;generalize bc Es = Y at *;unfold IF;simp [qz,qy,qx,qw,qv,qu,qt,qp,qo,qm,mi,mh,mg,mf,me,mc,mb,ma,l9,l8,k1,hi,hw,ku,kv,ku2,kv2,g3,g4,g5,gc,gu,gv,gu1,gv1,q,idx,aJ,eO,cI,df,pl]
theorem L7 (N : Nat) (Es : List Ed) (hE : Es.length < 1000000) (cs : List Int) (hc : cs.length = N) (hN : N <= 64) (he : ∀ e ∈ Es,0 <= e.1 /\ e.1 < e.2 /\ e.2 < (N : Int)) : ∀ (k i : Nat) (o : List Ed),i + k = Es.length -> o.length <= i -> bj aj 0 (.loop IF) (rmS N Es cs o i []) = some (.exit 2,rmS N Es cs (o ++ eY cs (Es.drop i)) Es.length [(58,.bool false)])
 | 0,i,o,hi,ho => by
   obtain rfl : i = Es.length := by omega
   rw [cz,show eY cs [] = [] from rfl,ft];refine bm ?_;have g5 := au Es;unfold rmS;generalize ints cs = C at *;generalize bc o = Z at *;generalize bc Es = Y at *;unfold IF;simp [qz,qy,qx,qw,qv,qu,qt,qp,qo,qm,mi,mh,mg,mf,me,mc,mb,ma,l9,l8,g5,aJ]
 | k + 1,i,o,hi,ho => by
   have bz : i < Es.length := by omega
   have r := Un N Es hE cs hc hN o (by omega) i bz (he _ (List.getElem_mem bz));have ih := L7 N Es hE cs hc hN he k (i + 1) (if ud cs Es[i].1 = ud cs Es[i].2 then o ++ [Es[i]] else o) (by omega) (by split <;> (try simp) <;> omega)
   have e0 : o ++ eY cs (Es.drop i) = (if ud cs Es[i].1 = ud cs Es[i].2 then o ++ [Es[i]] else o) ++ eY cs (Es.drop (i + 1)) := by
    rw [aP bz];unfold eY;rw [List.filter_cons];by_cases q : ud cs Es[i].1 = ud cs Es[i].2
    ·simp [q]
    ·simp [q]
   rw [e0];exact (aR r).trans ih
theorem L6 {N : Nat} {Es : List Ed} (hG : kC (N : Int) Es) (hE : Es.length < 1000000) (cs : List Int) (Lt : cs.length < 1000000) (c : Int) :
  bf aj Yh [.agg [.int .i64 N,.list 2 (bc Es)],.list 1 (ints cs),.int .i64 c] [] = some (Fy N Es cs c,[]) := by
 have hN := hG.1;have g := j5 N Es (by omega);rw [dW.2 hG] at g;have g5 := ae cs;rw [aB oQl sQl (ab rfl)];unfold Fy;by_cases hc : cs.length = N
 case neg =>
  have G4 : ¬ (cs.length : Int) = N := by omega
  rw [if_pos hc];unfold qQl cQl I0;generalize ints cs = C at *;generalize bc Es = Y at *;simp [qz,qy,qx,qw,qv,qu,qt,qp,qo,qm,mi,mh,mg,mf,me,mc,mb,ma,l9,l8,g,g5,hc,G4,aJ,G8,IL,II,eO,cI,cO,bh,eC,fo,bL,bH,df,pl,eH,bV,du,cE,aY,aV,eh]
 rw [if_neg (by simpa using hc)];by_cases c1 : c < 1
 ·rw [if_pos (.inl c1)];rw [hc] at g5;unfold qQl cQl I0;generalize ints cs = C at *;generalize bc Es = Y at *;simp [qz,qy,qx,qw,qv,qu,qt,qp,qo,qm,mi,mh,mg,mf,me,mc,mb,ma,l9,l8,g,g5,c1,aJ,G8,IL,II,eO,cI,cO,bh,eC,fo,bL,bH,df,pl,eH,bV,du,cE,aY,aV,eh]
 by_cases c2 : 64 < c
 ·rw [if_pos (.inr c2)];rw [hc] at g5;unfold qQl cQl I0;generalize ints cs = C at *;generalize bc Es = Y at *;simp [qz,qy,qx,qw,qv,qu,qt,qp,qo,qm,mi,mh,mg,mf,me,mc,mb,ma,l9,l8,g,g5,c1,c2,aJ,G8,IL,II,eO,cI,cO,bh,eC,fo,bL,bH,df,pl,eH,bV,du,cE,aY,aV,eh]
 rw [if_neg (by omega)];have lp := L8 N (bc Es) cs (by omega) c cs.length 0 (by omega);rw [b9,iB] at lp;unfold rmG at lp;by_cases hb : ∃ x ∈ cs,x < 0 \/ c <= x
 ·rw [if_pos hb] at lp ⊢;rw [hc] at g5;unfold qQl cQl I0;generalize ints cs = C at *;generalize bc Es = Y at *;simp [qz,qy,qx,qw,qv,qu,qt,qp,qo,qm,mi,mh,mg,mf,me,mc,mb,ma,l9,l8,g,g5,c1,c2,lp,aJ,G8,IL,II,eO,cI,cO,bh,eC,fo,bL,bH,df,pl,eH,bV,du,cE,aY,aV,eh]
 ·rw [if_neg hb] at lp ⊢;have l2 := L7 N Es hE cs hc (by omega) hG.2.2 Es.length 0 [] (by omega) (by simp);rw [b9,ei] at l2;unfold rmS at l2;rw [iB,show bc [] = [] from rfl] at l2;rw [hc] at g5 lp;have tk : (bc (eY cs Es)).take (eY cs Es).length = bc (eY cs Es) := by rw [fI,cX]
  have g6 := au (eY cs Es);have V4 : (bc (eY cs Es)).take (bc (eY cs Es)).length = bc (eY cs Es) := cX;generalize eY cs Es = M at *;unfold qQl cQl;generalize ints cs = C at *;generalize bc Es = Y at *;generalize bc M = YM at *;simp [qz,qy,qx,qw,qv,qu,qt,qp,qo,qm,mi,mh,mg,mf,me,mc,mb,ma,l9,l8,g,g5,g6,tk,V4,c1,c2,lp,l2,aJ,G8,IL,II,eO,cI,cO,bh,eC,fo,bL,bH,df,pl,eH,bV,du,cE,aY,aV,eh]
/- What ByColours, Keep and ByEdges of sample and ref33 return of a graph that is in order: the same. -/
def ZX (N : Nat) (Es : List Ed) (cs : List Int) (c : Int) : AV :=
 if cs.length ≠ N then .dp [.int .i64 0,.int .i64 4] else if c < 1 \/ 64 < c then .dp [.int .i64 0,.int .i64 1]
 else if ∃ x ∈ cs,x < 0 \/ c <= x then .dp [.int .i64 0,.int .i64 1] else .dp [.int .i64 (IntKind.i64.wrap (c * c * (N5 N (eY cs Es)))),.int .i64 0]
theorem Wp {N : Nat} {Es : List Ed} (hG : kC (N : Int) Es) (hE : Es.length < 1000000) (cs : List Int) (c : Int) :
  bf aj VG [.agg [.int .i64 N,.list 2 (bc Es)],.list 1 (ints cs),.int .i64 c] [] = some (ZX N Es cs c,[]) := by
 have mr := LM hG hE cs c;unfold Fy at mr;unfold ZX
 have bad : ∀ e : Int,e ≠ 0 -> bf aj VH [.agg [.int .i64 N,.list 2 (bc Es)],.list 1 (ints cs),.int .i64 c] [] = some (.dp [I0,.int .i64 e],[]) -> bf aj VG [.agg [.int .i64 N,.list 2 (bc Es)],.list 1 (ints cs),.int .i64 c] [] = some (.dp [.int .i64 0,.int .i64 e],[]) := by
  intro e e0 m;unfold I0 at m;rw [aB oQm sQm (ab rfl)];unfold qQm cQm;generalize ints cs = C at *;generalize bc Es = Y at *;simp [RB,RA,Rx,Rw,Rs,Rr,m,e0,aJ,Ws,iQk,lQk,df,pl,aY,aV]
 by_cases hc : cs.length = N
 case neg =>
  rw [if_pos hc] at mr ⊢;exact bad 4 (by decide) mr
 rw [if_neg (by simpa using hc)] at mr ⊢;by_cases c1 : c < 1 \/ 64 < c
 ·rw [if_pos c1] at mr ⊢;exact bad 1 (by decide) mr
 rw [if_neg c1] at mr ⊢;by_cases hb : ∃ x ∈ cs,x < 0 \/ c <= x
 ·rw [if_pos hb] at mr ⊢;exact bad 1 (by decide) mr
 ·rw [if_neg hb]
  exact Hv hG hE cs hc c (by omega) fun x hx => by
   have : ¬ (x < 0 \/ c <= x) := fun k => hb ⟨x,hx,k⟩;omega
theorem WU {N : Nat} {Es : List Ed} (hG : kC (N : Int) Es) (hE : Es.length < 1000000) (cs : List Int) (Lt : cs.length < 1000000) (c : Int) :
  bf aj nQn [.agg [.int .i64 N,.list 2 (bc Es)],.list 1 (ints cs),.int .i64 c] [] = some (ZX N Es cs c,[]) := by
 have mr := L6 hG hE cs Lt c;unfold Fy at mr;unfold ZX
 have bad : ∀ e : Int,e ≠ 0 -> bf aj Yh [.agg [.int .i64 N,.list 2 (bc Es)],.list 1 (ints cs),.int .i64 c] [] = some (.dp [I0,.int .i64 e],[]) -> bf aj nQn [.agg [.int .i64 N,.list 2 (bc Es)],.list 1 (ints cs),.int .i64 c] [] = some (.dp [.int .i64 0,.int .i64 e],[]) := by
  intro e e0 m;unfold I0 at m;rw [aB oQn sQn (ab rfl)];unfold qQn cQn;generalize ints cs = C at *;generalize bc Es = Y at *;simp [Rq,Rp,Ro,Rn,Rm,Rl,m,e0,aJ,sQl,iQl,lQl,df,pl,aY,aV]
 by_cases hc : cs.length = N
 case neg =>
  rw [if_pos hc] at mr ⊢;exact bad 4 (by decide) mr
 rw [if_neg (by simpa using hc)] at mr ⊢;by_cases c1 : c < 1 \/ 64 < c
 ·rw [if_pos c1] at mr ⊢;exact bad 1 (by decide) mr
 rw [if_neg c1] at mr ⊢;by_cases hb : ∃ x ∈ cs,x < 0 \/ c <= x
 ·rw [if_pos hb] at mr ⊢;exact bad 1 (by decide) mr
 ·rw [if_neg hb] at mr ⊢;have hM := F4 (fun e => decide (ud cs e.1 = ud cs e.2)) hG;have ml : (eY cs Es).length < 1000000 := dM (List.length_filter_le _ _) hE;have cr := CP (Es := eY cs Es) hM ml
  have wc : IntKind.i64.wrap (c * c) = c * c := by
   have h1 : c * c <= 64 * 64 := Int.mul_le_mul (by omega) (by omega) (by omega) (by omega);have h2 : 0 <= c * c := Int.mul_nonneg (by omega) (by omega);exact cS (by omega) (by omega)
  rw [aB oQn sQn (ab rfl)];unfold qQn cQn;generalize eY cs Es = M at *;generalize (N5 N M : Int) = t at *;generalize ints cs = C at *;generalize bc Es = Y at *;generalize bc M = YM at *;simp [Rq,Rp,Ro,Rn,Rm,Rl,mr,cr,wc,aJ,sQl,iQl,lQl,sQI,iQI,lQI,df,pl,aY,aV]
def FQ (N : Nat) (Es : List Ed) (bs : List Bool) : AV :=
 if bs.length ≠ Es.length then .dp [I0,.int .i64 4] else .dp [.agg [.int .i64 N,.list 2 (bc (fv bs Es))],.int .i64 0]
theorem LR {N : Nat} {Es : List Ed} (hG : kC (N : Int) Es) (hE : Es.length < 1000000) (bs : List Bool) :
  bf aj Yg [.agg [.int .i64 N,.list 2 (bc Es)],.list 1 (fK bs)] [] = some (FQ N Es bs,[]) := by
 unfold FQ;by_cases hb : bs.length = Es.length
 ·rw [if_neg (by simpa using hb)];exact Na hG hE bs hb
 ·rw [if_pos hb];have g := fH N Es (by omega);rw [dW.2 hG] at g;have g5 := iU bs;have g6 := au Es;have qU : ¬ (bs.length : Int) = Es.length := by omega
  rw [aB oQo sQo (ab rfl)];unfold qQo cQo I0;generalize fK bs = C at *;generalize bc Es = Y at *;simp [Rk,Rj,Ri,Rh,Rg,Rf,Re,g,g5,g6,hb,qU,aJ,G9,IM,IJ,eO,cI,cO,bh,eC,fo,bL,bH,df,pl,eH,bV,du,cE,aY,aV,eh]
def rkS (N : Nat) (Es : List Ed) (bs : List Bool) (o : List Ed) (i : Nat) (J : Env) : St := ⟨(1,.list 1 (fK bs)) :: (2,.ptr 0 0) :: (4,.ptr 1 0) :: (7,.ptr 2 0) :: (8,.int .i64 i) :: J,[some [.int .i64 N,.list 2 (bc Es)],some [.int .i64 0,.own 2 []],some [.int .i64 N,.own 2 (bc o)]]⟩
theorem WC (N : Nat) (Es : List Ed) (hE : Es.length < 1000000) (bs : List Bool) (hb : bs.length = Es.length) (o : List Ed) (ho : o.length < 1000000) (i : Nat) (hi : i < Es.length) :
  bj aj 0 IE (rkS N Es bs o i []) = some (.normal,rkS N Es bs (if bs[i]'(by omega) = true then o ++ [Es[i]] else o) (i + 1) []) := by
 have ib : i < bs.length := by omega
 have k1 : (i : Int) < Es.length := by omega
 have k2 : (i : Int) < bs.length := by omega
 have hw := dw (i := i) (by omega);obtain ⟨u,v,e0⟩ : ∃ u v : Int,Es[i] = (u,v) := ⟨_,_,rfl⟩;have g3 : (bc Es)[i]? = some (.agg [.int .i64 u,.int .i64 v]) := by rw [aO,af hi,e0]; rfl
 have g4 : ∀ h,(bc Es)[i]'h = .agg [.int .i64 u,.int .i64 v] := fun h => by
  have := af (l := bc Es) h;rw [g3] at this;exact (bU this).symm
 have g5 := au Es;have gb := iU bs;have b3 : (fK bs)[i]? = some (.bool bs[i]) := by rw [TL,af ib]; rfl
 have b4 : ∀ h,(fK bs)[i]'h = .bool bs[i] := fun h => by
  have := af (l := fK bs) h;rw [b3] at this;exact (bU this).symm
 have hL : o.length + 1 <= 4294967296 := by omega
 have sn := pn o u v
 have tk : (bc (o ++ [(u,v)])).take (o.length + 1) = bc (o ++ [(u,v)]) := by
  rw [fI,aL (by simp)]
 have V3 : (bc o).take o.length = bc o := by rw [fI,cX]
 have lo1 := au o;have l3 : (bc o).length <= 4294967295 := by omega
 have V4 : (bc (o ++ [(u,v)])).take ((bc o).length + 1) = bc (o ++ [(u,v)]) := by rw [lo1]; exact tk
 rw [e0];generalize bs[i] = b at *;clear hb e0;cases b with
 | true =>
   rw [if_pos rfl];unfold rkS;generalize bc (o ++ [(u,v)]) = Z at *;generalize fK bs = C at *;generalize bc Es = Y at *;unfold IE;simp [Ee,Ec,Eb,Ea,D9,D8,D7,D6,D5,D4,xA,xz,xy,k1,k2,hi,ib,hw,g3,g4,g5,gb,b3,b4,hL,l3,sn,tk,V4,V3,lo1,kR,idx,aJ,eO,cI,df,pl,cO,bh,eC,fo,bL,bH,eH,bV,du,cE]
 | false =>
   rw [if_neg (by decide)];unfold rkS;generalize bc o = Z at *;generalize fK bs = C at *;generalize bc Es = Y at *;unfold IE;simp [Ee,Ec,Eb,Ea,D9,D8,D7,D6,D5,D4,xA,xz,xy,k1,k2,hi,ib,hw,g3,g4,g5,gb,b3,b4,idx,aJ,eO,cI,df,pl]
theorem QS (N : Nat) (Es : List Ed) (hE : Es.length < 1000000) (bs : List Bool) (hb : bs.length = Es.length) : ∀ (k i : Nat) (o : List Ed),i + k = Es.length -> o.length <= i -> bj aj 0 (.loop IE) (rkS N Es bs o i []) = some (.exit 0,rkS N Es bs (o ++ fv (bs.drop i) (Es.drop i)) Es.length [(28,.bool false)])
 | 0,i,o,hi,ho => by
   obtain rfl : i = Es.length := by omega
   rw [cz,Be,ft];refine bm ?_;have g5 := au Es;have gb := iU bs;rw [hb] at gb;unfold rkS;generalize fK bs = C at *;generalize bc o = Z at *;generalize bc Es = Y at *;unfold IE;simp [Ee,Ec,Eb,Ea,D9,D8,D7,D6,D5,D4,xA,xz,xy,g5,gb,aJ]
 | k + 1,i,o,hi,ho => by
   have bz : i < Es.length := by omega
   have ib : i < bs.length := by omega
   have r := WC N Es hE bs hb o (by omega) i bz;have ih := QS N Es hE bs hb k (i + 1) (if bs[i] = true then o ++ [Es[i]] else o) (by omega) (by split <;> (try simp) <;> omega)
   have e0 : o ++ fv (bs.drop i) (Es.drop i) = (if bs[i] = true then o ++ [Es[i]] else o) ++ fv (bs.drop (i + 1)) (Es.drop (i + 1)) := by
    rw [aP bz,aP ib,FR];by_cases q : bs[i] = true
    ·simp [q]
    ·simp [q]
   rw [e0];exact (aR r).trans ih
theorem L9 {N : Nat} {Es : List Ed} (hG : kC (N : Int) Es) (hE : Es.length < 1000000) (bs : List Bool) :
  bf aj nQp [.agg [.int .i64 N,.list 2 (bc Es)],.list 1 (fK bs)] [] = some (FQ N Es bs,[]) := by
 have g := j5 N Es (by omega);rw [dW.2 hG] at g;have g5 := iU bs;have g6 := au Es;rw [aB oQp sQp (ab rfl)];unfold FQ;by_cases hb : bs.length = Es.length
 ·rw [if_neg (by simpa using hb)];have l2 := QS N Es hE bs hb Es.length 0 [] (by omega) (by simp);rw [b9,b9,ei] at l2;unfold rkS at l2;rw [iB,show bc [] = [] from rfl] at l2;rw [hb] at g5;have tk : (bc (fv bs Es)).take (fv bs Es).length = bc (fv bs Es) := by rw [fI,cX]
  have g7 := au (fv bs Es);have V4 : (bc (fv bs Es)).take (bc (fv bs Es)).length = bc (fv bs Es) := cX;generalize fv bs Es = M at *;unfold qQp cQp;generalize fK bs = C at *;generalize bc Es = Y at *;generalize bc M = YM at *;simp [Ee,Ec,Eb,Ea,D9,D8,D7,D6,D5,D4,xA,xz,xy,g,g5,g6,g7,tk,V4,l2,aJ,G8,IL,II,eO,cI,cO,bh,eC,fo,bL,bH,df,pl,eH,bV,du,cE,aY,aV,eh]
 ·rw [if_pos hb];have qU : ¬ (bs.length : Int) = Es.length := by omega
  unfold qQp cQp I0;generalize fK bs = C at *;generalize bc Es = Y at *;simp [Ee,Ec,Eb,Ea,D9,D8,D7,D6,D5,D4,xA,xz,xy,g,g5,g6,hb,qU,aJ,G8,IL,II,eO,cI,cO,bh,eC,fo,bL,bH,df,pl,eH,bV,du,cE,aY,aV,eh]
def ZW (N : Nat) (Es : List Ed) (bs : List Bool) : AV :=
 if bs.length ≠ Es.length then .dp [.int .i64 0,.int .i64 4] else .dp [.int .i64 (IntKind.i64.wrap (8 * (N5 N (fv bs Es)))),.int .i64 0]
theorem Wo {N : Nat} {Es : List Ed} (hG : kC (N : Int) Es) (hE : Es.length < 1000000) (bs : List Bool) :
  bf aj nQq [.agg [.int .i64 N,.list 2 (bc Es)],.list 1 (fK bs)] [] = some (ZW N Es bs,[]) := by
 unfold ZW;by_cases hb : bs.length = Es.length
 ·rw [if_neg (by simpa using hb)];exact NQ hG hE bs hb
 ·rw [if_pos hb];have mr := LR hG hE bs;unfold FQ I0 at mr;rw [if_pos hb] at mr;rw [aB oQq sQq (ab rfl)];unfold qQq cQq;generalize fK bs = C at *;generalize bc Es = Y at *;simp [Rc,Rb,Ra,Q9,Q8,Q7,mr,aJ,sQo,iQo,lQo,df,pl,aY,aV]
theorem WT {N : Nat} {Es : List Ed} (hG : kC (N : Int) Es) (hE : Es.length < 1000000) (bs : List Bool) :
  bf aj nQr [.agg [.int .i64 N,.list 2 (bc Es)],.list 1 (fK bs)] [] = some (ZW N Es bs,[]) := by
 unfold ZW;have mr := L9 hG hE bs;unfold FQ I0 at mr;rw [aB oQr sQr (ab rfl)];by_cases hb : bs.length = Es.length
 ·rw [if_neg (by simpa using hb)] at mr ⊢;have hM := Tx hG (nt bs Es);have ml : (fv bs Es).length < 1000000 := dM (nt bs Es).length_le hE;have cr := CP hM ml;unfold qQr cQr;generalize fv bs Es = M at *;generalize (N5 N M : Int) = t at *;generalize fK bs = C at *;generalize bc Es = Y at *;generalize bc M = YM at *;simp [Q6,Q5,Q4,Q2,Q1,Q0,mr,cr,aJ,sQp,iQp,lQp,sQI,iQI,lQI,df,pl,aY,aV]
 ·rw [if_pos hb] at mr ⊢;unfold qQr cQr;generalize fK bs = C at *;generalize bc Es = Y at *;simp [Q6,Q5,Q4,Q2,Q1,Q0,mr,aJ,sQp,iQp,lQp,df,pl,aY,aV]
end Go.BmP
