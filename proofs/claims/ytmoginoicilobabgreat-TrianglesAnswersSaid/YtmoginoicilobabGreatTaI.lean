/- What the functions of triangles and of ref29 return where the graph is refused. -/
import Derived.Test.YtmoginoicilobabGreatUseM
import Derived.Test.YtmoginoicilobabGreatV04
import Derived.Test.YtmoginoicilobabGreatK05
import Derived.Test.YtmoginoicilobabGreatTaD
import Derived.Test.YtmoginoicilobabGreatS11
import Derived.Test.YtmoginoicilobabGreatTaS
import Derived.Test.YtmoginoicilobabGreatTaW
import Derived.Test.YtmoginoicilobabGreatTaG
set_option linter.unusedSimpArgs false
set_option linter.unusedVariables false
set_option maxRecDepth 100000
set_option maxHeartbeats 8000000
open Bool renaming and_eq_false_iff → wh
open Int renaming natCast_mul → yh
open List renaming getElem?_eq_getElem → ai
open Nat renaming add_sub_cancel → Dd, gcd → cG, le_of_ble_eq_true → ae, le_refl → aT
open Option.some renaming inj → cK
namespace Go.BmP
open Go.Am Go.Bm
theorem ahO (n : Int) (Fs : List Ed) (hE : Fs.length < 1000000) (e : Int) (he : rI n Fs = e) (h0 : e ≠ 0) : aY ak ZU [.agg [.int .i64 n,.list 2 (bm Fs)]] [] = some (.dD [.int .i64 0,.int .i64 e],[]) := by
 rw [aB oQj sQj (ae rfl)];have ck := gz n Fs (by omega);rw [he] at ck;unfold qQj cQj;generalize bm Fs = Y at *;simp [Yl,Yk,Yj,Yi,Yh,Yg,ck,Jc,K9,K8,Lj,h0,aJ,fG,dx,dz,bp,fi,fP,bZ,bU,dK,pl,eT,bQ,dH,cO,ba,aZ,eB]
theorem ahL (n : Int) (Fs : List Ed) (hE : Fs.length < 1000000) (e : Int) (he : rI n Fs = e) (h0 : e ≠ 0) : aY ak nQl [.agg [.int .i64 n,.list 2 (bm Fs)]] [] = some (.dD [.list 1 [],.int .i64 e],[]) := by
 rw [aB oQl sQl (ae rfl)];have ck := gz n Fs (by omega);rw [he] at ck;unfold qQl cQl;generalize bm Fs = Y at *;simp [Yf,Ye,Yd,Yc,Yb,Ya,ck,Jc,K9,K8,Lj,h0,aJ,fG,dx,dz,bp,fi,fP,bZ,bU,dK,pl,eT,bQ,dH,cO,ba,aZ,eB]
theorem ahH (n : Int) (Fs : List Ed) (hE : Fs.length < 1000000) (e : Int) (he : rI n Fs = e) (h0 : e ≠ 0) : aY ak ZT [.agg [.int .i64 n,.list 2 (bm Fs)]] [] = some (.dD [.agg [.int .i64 0,.int .i64 0],.int .i64 e],[]) := by
 rw [aB oQn sQn (ae rfl)];have ck := gz n Fs (by omega);rw [he] at ck;unfold qQn cQn;generalize bm Fs = Y at *;simp [M3,M1,M0,MZ,MY,MX,MW,MV,MU,MT,DN,DM,ck,Jc,K9,K8,Lj,h0,aJ,fG,dx,dz,bp,fi,fP,bZ,bU,dK,pl,eT,bQ,dH,cO,ba,aZ,eB]
theorem ahK (n : Int) (Fs : List Ed) (hE : Fs.length < 1000000) (e : Int) (he : rI n Fs = e) (h0 : e ≠ 0) : aY ak nQp [.agg [.int .i64 n,.list 2 (bm Fs)]] [] = some (.dD [jW,.int .i64 e],[]) := by
 rw [aB oQp sQp (ae rfl)];have ck := gz n Fs (by omega);rw [he] at ck;unfold qQp cQp jW;generalize bm Fs = Y at *;simp [X9,X8,X7,X6,X5,X4,ck,Jc,K9,K8,Lj,h0,aJ,fG,dx,dz,bp,fi,fP,bZ,bU,dK,pl,eT,bQ,dH,cO,ba,aZ,eB]
theorem ahN (n : Int) (Fs : List Ed) (hE : Fs.length < 1000000) (e : Int) (he : rI n Fs = e) (h0 : e ≠ 0) (v : Int) : aY ak ZR [.agg [.int .i64 n,.list 2 (bm Fs)],.int .i64 v] [] = some (.dD [.agg [.int .i64 0,.int .i64 0],.int .i64 e],[]) := by
 rw [aB oQu sQu (ae rfl)];have ck := gz n Fs (by omega);rw [he] at ck;unfold qQu cQu;generalize bm Fs = Y at *;simp [MI,MH,MG,MF,ME,MD,MC,MB,ck,Jc,K9,K8,Lj,h0,aJ,fG,dx,dz,bp,fi,fP,bZ,bU,dK,pl,eT,bQ,dH,cO,ba,aZ,eB]
theorem ahI (n : Int) (Fs : List Ed) (hE : Fs.length < 1000000) (e : Int) (he : rI n Fs = e) (h0 : e ≠ 0) (C : Int) (Ns : List Int) : aY ak TI [.agg [.int .i64 n,.list 2 (bm Fs),.int .i64 C,.list 1 (ints Ns)]] [] = some (.bool false,[]) := by
 rw [aB oQs Xu (ae rfl)];have ck := gz n Fs (by omega);rw [he] at ck;unfold qQs cQs;generalize bm Fs = Y at *;simp [Si,Sh,Sg,Sf,Se,ck,Jc,K9,K8,Lj,h0,aJ,fG,dx,dz,bp,fi,fP,bZ,bU,dK,pl,eT,bQ,dH,cO,ba,aZ,eB]
theorem R5 (n : Int) (Fs : List Ed) (hE : Fs.length < 1000000) (e : Int) (he : rI n Fs = e) (h0 : e ≠ 0) : aY ak Vs [.agg [.int .i64 n,.list 2 (bm Fs)]] [] = some (.dD [.list 1 [],.int .i64 e],[]) := by
 rw [aB oQm Xv (ae rfl)];have ck := kb n Fs (by omega);rw [he] at ck;unfold qQm cQm;generalize bm Fs = Y at *;simp [DX,DW,DV,DU,DT,DS,DR,DQ,DP,DO,wE,wC,wB,wA,ck,U7,WO,WN,WR,h0,aJ,fG,dx,dz,bp,fi,fP,bZ,bU,dK,pl,eT,bQ,dH,cO,ba,aZ,eB]
theorem adM (n : Int) (Fs : List Ed) (hE : Fs.length < 1000000) (e : Int) (he : rI n Fs = e) (h0 : e ≠ 0) : aY ak WL [.agg [.int .i64 n,.list 2 (bm Fs)]] [] = some (.dD [.int .i64 0,.int .i64 e],[]) := by
 rw [aB oQk sQk (ae rfl)];have ck := R5 n Fs hE e he h0;have lp := Jl [] (by simp) e (by simp) 0 0 0 rfl;unfold Vd at lp;rw [iR,gW] at lp;unfold qQk cQk;generalize bm Fs = Y at *;simp [Nc,Na,M9,M8,M7,M6,M5,M4,ck,lp,Xv,iQm,lQm,eQm,h0,aJ,fG,dx,dz,bp,fi,fP,bZ,bU,dK,pl,eT,bQ,dH,cO,ba,aZ,eB]
theorem ahR (n : Int) (Fs : List Ed) (hE : Fs.length < 1000000) (e : Int) (he : rI n Fs = e) (h0 : e ≠ 0) : aY ak nQo [.agg [.int .i64 n,.list 2 (bm Fs)]] [] = some (.dD [.agg [.int .i64 0,.int .i64 0],.int .i64 e],[]) := by
 rw [aB oQo sQo (ae rfl)];have ck := adM n Fs hE e he h0;unfold qQo cQo;generalize bm Fs = Y at *;simp [MS,MR,MQ,MP,MO,MN,MM,ML,MK,MJ,ck,sQk,iQk,lQk,eQk,h0,aJ,fG,dx,dz,bp,fi,fP,bZ,bU,dK,pl,eT,bQ,dH,cO,ba,aZ,eB]
theorem adI (n : Int) (Fs : List Ed) (hE : Fs.length < 1000000) (e : Int) (he : rI n Fs = e) (h0 : e ≠ 0) : aY ak TJ [.agg [.int .i64 n,.list 2 (bm Fs)]] [] = some (.dD [jW,.int .i64 e],[]) := by
 rw [aB oQg sQg (ae rfl)];have ck := R5 n Fs hE e he h0;unfold qQg cQg jW;generalize bm Fs = Y at *;simp [Yr,Yq,Yp,Yo,Yn,Ym,ck,Xv,iQm,lQm,eQm,h0,aJ,fG,dx,dz,bp,fi,fP,bZ,bU,dK,pl,eT,bQ,dH,cO,ba,aZ,eB]
theorem ahT (n : Int) (Fs : List Ed) (hE : Fs.length < 1000000) (e : Int) (he : rI n Fs = e) (h0 : e ≠ 0) (v : Int) : aY ak ZQ [.agg [.int .i64 n,.list 2 (bm Fs)],.int .i64 v] [] = some (.dD [.agg [.int .i64 0,.int .i64 0],.int .i64 e],[]) := by
 rw [aB oQv sQv (ae rfl)];have ck := R5 n Fs hE e he h0;unfold qQv cQv;generalize bm Fs = Y at *;simp [MA,Mz,My,Mx,Mw,Mv,Mu,ck,Xv,iQm,lQm,eQm,h0,aJ,fG,dx,dz,bp,fi,fP,bZ,bU,dK,pl,eT,bQ,dH,cO,ba,aZ,eB]
theorem ahS (n : Int) (Fs : List Ed) (hE : Fs.length < 1000000) (e : Int) (he : rI n Fs = e) (h0 : e ≠ 0) (C : Int) (Ns : List Int) : aY ak TH [.agg [.int .i64 n,.list 2 (bm Fs),.int .i64 C,.list 1 (ints Ns)]] [] = some (.bool false,[]) := by
 rw [aB oQt Xt (ae rfl)];have ck := adI n Fs hE e he h0;unfold jW at ck;unfold qQt cQt;generalize bm Fs = Y at *;simp [X3,X2,X0,ck,sQg,iQg,lQg,eQg,h0,aJ,fG,dx,dz,bp,fi,fP,bZ,bU,dK,pl,eT,bQ,dH,cO,ba,aZ,eB]
theorem adD (n : Int) (Fs : List Ed) (C : Int) (Ns : List Int) (u v : Int) (va : aY ak TI [.agg [.int .i64 n,.list 2 (bm Fs),.int .i64 C,.list 1 (ints Ns)]] [] = some (.bool false,[])) : aY ak ZP [.agg [.int .i64 n,.list 2 (bm Fs),.int .i64 C,.list 1 (ints Ns)],.int .i64 u,.int .i64 v] [] = some (.dD [jW,.int .i64 0,.int .i64 35],[]) := by
 rw [aB oQw sQw (ae rfl)];unfold qQw cQw jW;generalize bm Fs = Y at *;generalize ints Ns = Z at *;simp [Mt,Ms,Mr,Mq,Mp,Mo,Mn,va,Xu,iQs,lQs,eQs,aJ,fG,dx,dz,bp,fi,fP,bZ,bU,dK,pl,eT,bQ,dH,cO,ba,aZ,eB]
theorem adG (n : Int) (Fs : List Ed) (C : Int) (Ns : List Int) (u v : Int) (va : aY ak TI [.agg [.int .i64 n,.list 2 (bm Fs),.int .i64 C,.list 1 (ints Ns)]] [] = some (.bool false,[])) : aY ak ZO [.agg [.int .i64 n,.list 2 (bm Fs),.int .i64 C,.list 1 (ints Ns)],.int .i64 u,.int .i64 v] [] = some (.dD [jW,.int .i64 0,.int .i64 35],[]) := by
 rw [aB oQy sQy (ae rfl)];unfold qQy cQy jW;generalize bm Fs = Y at *;generalize ints Ns = Z at *;simp [Me,Mc,Mb,Ma,L9,L8,L7,va,Xu,iQs,lQs,eQs,aJ,fG,dx,dz,bp,fi,fP,bZ,bU,dK,pl,eT,bQ,dH,cO,ba,aZ,eB]
theorem adJ (n : Int) (Fs : List Ed) (C : Int) (Ns : List Int) (u v : Int) (va : aY ak TH [.agg [.int .i64 n,.list 2 (bm Fs),.int .i64 C,.list 1 (ints Ns)]] [] = some (.bool false,[])) : aY ak nQx [.agg [.int .i64 n,.list 2 (bm Fs),.int .i64 C,.list 1 (ints Ns)],.int .i64 u,.int .i64 v] [] = some (.dD [jW,.int .i64 0,.int .i64 35],[]) := by
 rw [aB oQx sQx (ae rfl)];unfold qQx cQx jW;generalize bm Fs = Y at *;generalize ints Ns = Z at *;simp [Mm,Ml,Mk,Mj,Mi,Mh,Mg,Mf,va,Xt,iQt,lQt,eQt,aJ,fG,dx,dz,bp,fi,fP,bZ,bU,dK,pl,eT,bQ,dH,cO,ba,aZ,eB]
theorem adL (n : Int) (Fs : List Ed) (C : Int) (Ns : List Int) (u v : Int) (va : aY ak TH [.agg [.int .i64 n,.list 2 (bm Fs),.int .i64 C,.list 1 (ints Ns)]] [] = some (.bool false,[])) : aY ak nQz [.agg [.int .i64 n,.list 2 (bm Fs),.int .i64 C,.list 1 (ints Ns)],.int .i64 u,.int .i64 v] [] = some (.dD [jW,.int .i64 0,.int .i64 35],[]) := by
 rw [aB oQz sQz (ae rfl)];unfold qQz cQz jW;generalize bm Fs = Y at *;generalize ints Ns = Z at *;simp [L6,L5,L4,L3,L2,L0,LZ,LY,va,Xt,iQt,lQt,eQt,aJ,fG,dx,dz,bp,fi,fP,bZ,bU,dK,pl,eT,bQ,dH,cO,ba,aZ,eB]
/- What ref29.Open, Valid, Insert and Delete return of a graph that is in order. -/
theorem qj {N : Nat} {Es : List Ed} (hG : gK (N : Int) Es) (hE : Es.length < 1000000) : aY ak TJ [.agg [.int .i64 N,.list 2 (bm Es)]] [] = some (.dD [fh N Es (j7 N Es : Nat) (du N Es),.int .i64 0],[]) := by
 have nr := mr hG hE;have cr := uB hG hE;rw [aB oQg sQg (ae rfl)];unfold qQg cQg fh;generalize ints (du N Es) = tN at *;generalize (j7 N Es : Int) = tS at *;generalize bm Es = Y at *;simp [Yr,Yq,Yp,Yo,Yn,Ym,nr,cr,Xv,iQm,lQm,eQm,sQk,iQk,lQk,eQk,aJ,fG,dx,dz,bp,fi,fP,bZ,bU,dK,pl,eT,bQ,dH,cO,ba,aZ,eB]
theorem wy {N : Nat} {Es : List Ed} (hG : gK (N : Int) Es) (hE : Es.length < 1000000) (C : Int) (Ns : List Int) (hN : Ns.length < 1000000) : aY ak TH [fh N Es C Ns] [] = some (.bool (decide (C = (fw N Es : Int) / 3) && decide (Ns = du N Es)),[]) := by
 have op := qj hG hE;have hl := cS N Es;have hN' := hG.1;have sm := qR (N : Int) Es hE (j7 N Es : Nat) C (du N Es) Ns (by omega) hN
 have e1 : (decide (((j7 N Es : Nat) : Int) = C) && decide (du N Es = Ns)) = (decide (C = (fw N Es : Int) / 3) && decide (Ns = du N Es)) := by
  rw [pj hG];congr 1
  ·exact decide_eq_decide.2 ⟨Eq.symm,Eq.symm⟩
  ·exact decide_eq_decide.2 ⟨Eq.symm,Eq.symm⟩
 rw [e1] at sm;generalize (decide (C = (fw N Es : Int) / 3) && decide (Ns = du N Es)) = q at *;rw [aB oQt Xt (ae rfl)];unfold qQt cQt;unfold fh at *;unfold UP at sm;generalize ints (du N Es) = tN at *;generalize ints Ns = nN at *;generalize (j7 N Es : Int) = tS at *;generalize bm Es = Y at *;simp [X3,X2,X0,op,sm,sQg,iQg,lQg,eQg,sQr,iQr,lQr,eQr,aJ,fG,dx,dz,bp,fi,fP,bZ,bU,dK,pl,eT,bQ,dH,cO,ba,aZ,eB]
theorem LQ {N : Nat} {Es : List Ed} (hG : gK (N : Int) Es) (hE : Es.length < 900000) (u v : Int) : aY ak nQx [fh N Es (j7 N Es : Nat) (du N Es),.int .i64 u,.int .i64 v] [] =
  some (if eM N u v then (if bw u v ∈ Es then .dD [jW,.int .i64 0,.int .i64 15] else .dD [fh N (fE (bw u v) Es) (j7 N (fE (bw u v) Es) : Nat) (du N (fE (bw u v) Es)),.int .i64 ((gF N Es (u,v)).length : Nat),.int .i64 0]) else .dD [jW,.int .i64 0,.int .i64 6],[]) := by
 have hN := hG.1;have nl := cS N Es;have va := wy hG (by omega) (j7 N Es : Nat) (du N Es) (by omega);rw [pj hG,decide_eq_true rfl,decide_eq_true rfl] at va;have ad := XZ N Es hG (by omega) u v;unfold WC at ad;have tb0 := pk hG;have t30 := iO hG;by_cases q : eM N u v
 ·rw [if_pos q] at ad ⊢;by_cases m : bw u v ∈ Es
  ·rw [if_pos m] at ad ⊢;rw [aB oQx sQx (ae rfl)];unfold qQx cQx jW;unfold fh at va ⊢;generalize ints (du N Es) = tN at *;generalize (j7 N Es : Int) = tS at *;generalize bm Es = Y at *;simp [Mm,Ml,Mk,Mj,Mi,Mh,Mg,Mf,va,ad,Xt,iQt,lQt,eQt,sQR,iQR,lQR,eQR,aJ,fG,dx,dz,bp,fi,fP,bZ,bU,dK,pl,eT,bQ,dH,cO,ba,aZ,eB]
  ·rw [if_neg m] at ad ⊢;have hG2 := xC hG q;have CW : (fE (bw u v) Es).length < 1000000 := by have := yF (bw u v) Es; omega
   have op := qj hG2 CW;have pt := JW hG q m;have tb2 := pk hG2;have t32 := iO hG2
   have w : IntKind.i64.wrap (((j7 N (fE (bw u v) Es) : Nat) : Int) - (j7 N Es : Nat)) = ((gF N Es (u,v)).length : Nat) := by
    rw [show ((j7 N (fE (bw u v) Es) : Nat) : Int) - (j7 N Es : Nat) = ((gF N Es (u,v)).length : Int) by omega];exact cM (by omega) (by omega)
   clear pt tb0 t30 tb2 t32;rw [aB oQx sQx (ae rfl)];unfold qQx cQx;unfold fh at va op ⊢;generalize ints (du N (fE (bw u v) Es)) = tM at *;generalize ints (du N Es) = tN at *;generalize (j7 N (fE (bw u v) Es) : Int) = tS2 at *;generalize (j7 N Es : Int) = tS at *;generalize bm (fE (bw u v) Es) = Y2 at *;generalize bm Es = Y at *;generalize (gF N Es (u,v)).length = n at *;simp [Mm,Ml,Mk,Mj,Mi,Mh,Mg,Mf,va,ad,op,w,Xt,iQt,lQt,eQt,sQR,iQR,lQR,eQR,sQg,iQg,lQg,eQg,aJ,fG,dx,dz,bp,fi,fP,bZ,bU,dK,pl,eT,bQ,dH,cO,ba,aZ,eB]
 ·rw [if_neg q] at ad ⊢;rw [aB oQx sQx (ae rfl)];unfold qQx cQx jW;unfold fh at va ⊢;generalize ints (du N Es) = tN at *;generalize (j7 N Es : Int) = tS at *;generalize bm Es = Y at *;simp [Mm,Ml,Mk,Mj,Mi,Mh,Mg,Mf,va,ad,Xt,iQt,lQt,eQt,sQR,iQR,lQR,eQR,aJ,fG,dx,dz,bp,fi,fP,bZ,bU,dK,pl,eT,bQ,dH,cO,ba,aZ,eB]
theorem LV {N : Nat} {Es : List Ed} (hG : gK (N : Int) Es) (hE : Es.length < 900000) (u v : Int) : aY ak nQz [fh N Es (j7 N Es : Nat) (du N Es),.int .i64 u,.int .i64 v] [] =
  some (if eM N u v then (if bw u v ∈ Es then .dD [fh N (kL (bw u v) Es) (j7 N (kL (bw u v) Es) : Nat) (du N (kL (bw u v) Es)),.int .i64 ((gF N Es (u,v)).length : Nat),.int .i64 0] else .dD [jW,.int .i64 0,.int .i64 7]) else .dD [jW,.int .i64 0,.int .i64 6],[]) := by
 have hN := hG.1;have nl := cS N Es;have va := wy hG (by omega) (j7 N Es : Nat) (du N Es) (by omega);rw [pj hG,decide_eq_true rfl,decide_eq_true rfl] at va;have ad := XB N Es hG (by omega) u v;unfold Vb at ad;have tb0 := pk hG;have t30 := iO hG;by_cases q : eM N u v
 ·rw [if_pos q] at ad ⊢;by_cases m : bw u v ∈ Es
  ·rw [if_pos m] at ad ⊢;have hG2 := Jh hG m;have CW : (kL (bw u v) Es).length < 1000000 := by have := (Dz (bw u v) Es).length_le; omega
   have op := qj hG2 CW;have pt := Sa hG q m;have tb2 := pk hG2;have t32 := iO hG2
   have w : IntKind.i64.wrap (((j7 N Es : Nat) : Int) - (j7 N (kL (bw u v) Es) : Nat)) = ((gF N Es (u,v)).length : Nat) := by
    rw [show ((j7 N Es : Nat) : Int) - (j7 N (kL (bw u v) Es) : Nat) = ((gF N Es (u,v)).length : Int) by omega];exact cM (by omega) (by omega)
   clear pt tb0 t30 tb2 t32;rw [aB oQz sQz (ae rfl)];unfold qQz cQz;unfold fh at va op ⊢;generalize ints (du N (kL (bw u v) Es)) = tM at *;generalize ints (du N Es) = tN at *;generalize (j7 N (kL (bw u v) Es) : Int) = tS2 at *;generalize (j7 N Es : Int) = tS at *;generalize bm (kL (bw u v) Es) = Y2 at *;generalize bm Es = Y at *;generalize (gF N Es (u,v)).length = n at *;simp [L6,L5,L4,L3,L2,L0,LZ,LY,va,ad,op,w,Xt,iQt,lQt,eQt,sQT,iQT,lQT,eQT,sQg,iQg,lQg,eQg,aJ,fG,dx,dz,bp,fi,fP,bZ,bU,dK,pl,eT,bQ,dH,cO,ba,aZ,eB]
  ·rw [if_neg m] at ad ⊢;rw [aB oQz sQz (ae rfl)];unfold qQz cQz jW;unfold fh at va ⊢;generalize ints (du N Es) = tN at *;generalize (j7 N Es : Int) = tS at *;generalize bm Es = Y at *;simp [L6,L5,L4,L3,L2,L0,LZ,LY,va,ad,Xt,iQt,lQt,eQt,sQT,iQT,lQT,eQT,aJ,fG,dx,dz,bp,fi,fP,bZ,bU,dK,pl,eT,bQ,dH,cO,ba,aZ,eB]
 ·rw [if_neg q] at ad ⊢;rw [aB oQz sQz (ae rfl)];unfold qQz cQz jW;unfold fh at va ⊢;generalize ints (du N Es) = tN at *;generalize (j7 N Es : Int) = tS at *;generalize bm Es = Y at *;simp [L6,L5,L4,L3,L2,L0,LZ,LY,va,ad,Xt,iQt,lQt,eQt,sQT,iQT,lQT,eQT,aJ,fG,dx,dz,bp,fi,fP,bZ,bU,dK,pl,eT,bQ,dH,cO,ba,aZ,eB]
/- What ref29.Whole and Local return of a graph that is in order. -/
theorem aib (n : Nat) : ((n : Int) * ((n : Int) - 1)).tdiv 2 = (pr n : Nat) := by
 have h := EJ n;cases n with
 | zero => rfl
 | succ m =>
   rw [show ((m + 1 : Nat) : Int) - 1 = (m : Int) by omega,<- yh,show (2 : Int) = ((2 : Nat) : Int) from rfl,<- Int.ofNat_tdiv];rw [Dd] at h;omega
theorem ag0 {n : Nat} (h : n <= 64) : 0 <= (n : Int) * ((n : Int) - 1) /\ (n : Int) * ((n : Int) - 1) <= 8192 := by
 have h2 := EJ n;have hb := yG h;cases n with
 | zero => simp
 | succ m =>
   rw [show ((m + 1 : Nat) : Int) - 1 = (m : Int) by omega,<- yh];rw [Dd] at h2;omega
theorem Qs {N : Nat} {Es : List Ed} (hG : gK (N : Int) Es) : ∀ n,n <= N -> sm n (fun v => pr (fF N Es v).length) <= n * 4096 := by
 have hN := hG.1;intro n
 induction n with
 | zero => intro _; simp [sm]
 | succ j ih =>
   intro hj;have := ih (by omega);have b2 := jq hG (u := j) (by omega) (by omega);have b1 := yG (n := (fF N Es j).length) (by omega);rw [sm]; omega
theorem BZ {N : Nat} {Es : List Ed} (hG : gK (N : Int) Es) (hE : Es.length < 1000000) {v : Nat} (hv : v < N) : aY ak nQJ [.agg [.int .i64 N,.list 2 (bm Es)],.int .i64 v] [] = some (.int .i64 (pr (fF N Es v).length : Nat),[]) := by
 have hN := hG.1;have dg := Q8 hG hE (v := (v : Int)) (by omega) (by omega);have hl := jq hG (u := (v : Int)) (by omega) (by omega);have pe := aib (fF N Es v).length;have pb := yG (n := (fF N Es v).length) (by omega);have mb := ag0 (n := (fF N Es v).length) (by omega);generalize (fF N Es v).length = d at *;have s1 : IntKind.i64.wrap ((d : Int) - 1) = (d : Int) - 1 := cM (by omega) (by omega);have s2 : IntKind.i64.wrap ((d : Int) * ((d : Int) - 1)) = (d : Int) * ((d : Int) - 1) := cM (by omega) (by omega);have s3 : IntKind.i64.wrap (pr d : Int) = (pr d : Int) := cM (by omega) (by omega);rw [aB oQJ sQJ (ae rfl)];unfold qQJ cQJ;generalize bm Es = Y at *;simp [ad6,ad5,ad4,dg,s1,s2,s3,pe,sQ4,iQ4,lQ4,eQ4,aJ,av,aX,bV,dj,aD,aI,aG,aj,aM,bk,ba,aZ]
theorem Be {a b : Nat} (ha : a < 1000000000) (hb : b < 1000000000) (h : b = 0 -> a = 0) : aY ak nQK [.int .i64 a,.int .i64 b] [] = some (fr a (max b 1),[]) := by
 rw [aB oQK sQK (ae rfl)];unfold qQK cQK;by_cases b0 : b = 0
 ·subst b0;obtain rfl : a = 0 := h rfl;rw [acA (by omega)];simp [Zh,Zg,Zf,Ze,aJ,dK,pl,ba,aZ]
 ·have o := aav (a := a) (b := b) (by omega) (by omega) (by omega);rw [show max b 1 = b by omega];have n0 : ¬ (b : Int) = 0 := by omega
  have n1 : ((b : Int) == 0) = false := by simpa using b0
  unfold fr at *;generalize a / cG a b = x at *;generalize b / cG a b = y at *;simp [Zh,Zg,Zf,Ze,o,n0,n1,b0,aJ,sQ5,iQ5,lQ5,eQ5,dK,pl,ba,aZ]
def UN (N : Nat) (Y : List AV) (t : Int) (n : Nat) (v : Nat) (J : Env) : St := ⟨(1,.ptr 0 0) :: (2,.ptr 1 0) :: (4,.int .i64 t) :: (6,.int .i64 n) :: (7,.int .i64 v) :: J,[some [.int .i64 N,.list 2 Y],some [.int .i64 0,.int .i64 0]]⟩
theorem Ls {N : Nat} {Es : List Ed} (hG : gK (N : Int) Es) (hE : Es.length < 1000000) (t : Int) : ∀ n v : Nat,v + n = N ->
  bL ak 0 (.loop TW) (UN N (bm Es) t (sm v fun v => pr (fF N Es v).length) v []) = some (.exit 0,UN N (bm Es) t (sm N fun v => pr (fF N Es v).length) N [(20,.bool false)])
 | 0,v,e => by
   obtain rfl : v = N := by omega
   exact cj (by unfold TW UN; simp [MS,MR,MQ,MP,MO,MN,MM,ML,MK,MJ,aJ,av,aX,bV,dj,aD,aI,aG,aj,aM,bk,ba,aZ])
 | n + 1,v,e => by
   have hN := hG.1;have h2 : (v : Int) < N := by omega
   have hw := fT (i := v) (by omega);have pp := BZ hG hE (v := v) (by omega);have hl := jq hG (u := (v : Int)) (by omega) (by omega);have wb := Qs hG v (by omega);have ih := Ls hG hE t n (v + 1) (by omega);have el : sm (v + 1) (fun v => pr (fF N Es v).length) = sm v (fun v => pr (fF N Es v).length) + pr (fF N Es v).length := rfl;have pb := yG (n := (fF N Es v).length) (by omega);rw [el] at ih;refine (bG (s' := UN N (bm Es) t ((sm v fun v => pr (fF N Es v).length) + pr (fF N Es v).length) (v + 1) []) ?_).trans ih;generalize (sm v fun v => pr (fF N Es v).length) = W1 at *;generalize pr (fF N Es v).length = d at *;have s4 : IntKind.i64.wrap ((W1 : Int) + (d : Int)) = ((W1 + d : Nat) : Int) := by rw [cM (by omega) (by omega)]; omega
   generalize bm Es = Y at *;unfold TW UN;simp [MS,MR,MQ,MP,MO,MN,MM,ML,MK,MJ,h2,hw,pp,s4,sQJ,iQJ,lQJ,eQJ,aJ,av,aX,bV,dj,aD,aI,aG,aj,aM,bk,ba,aZ]
theorem Lr {N : Nat} {Es : List Ed} (hG : gK (N : Int) Es) (hE : Es.length < 1000000) : aY ak nQo [.agg [.int .i64 N,.list 2 (bm Es)]] [] = some (.dD [fr (3 * j7 N Es) (max (sm N fun v => pr (fF N Es v).length) 1),.int .i64 0],[]) := by
 have wb := Qs hG N (aT _);have tq := I8 hG;have tz : (sm N fun v => pr (fF N Es v).length) = 0 -> 3 * j7 N Es = 0 := fun h => by rw [Zn hG h]
 have tb := pk hG;have t3 := iO hG;have hN := hG.1;have lp := Ls hG hE (j7 N Es) N 0 (by omega);have cr := uB hG hE;have sh := Be (a := 3 * j7 N Es) (b := sm N fun v => pr (fF N Es v).length) (by omega) (by omega) tz
 have w : IntKind.i64.wrap (3 * (j7 N Es : Int)) = ((3 * j7 N Es : Nat) : Int) := by
  rw [yh]; exact cM (by omega) (by omega)
 unfold UN at lp;rw [show (sm 0 fun v => pr (fF N Es v).length) = 0 from rfl,iR] at lp;unfold fr at *;generalize (sm N fun v => pr (fF N Es v).length) = P at *;clear t3;generalize 3 * j7 N Es = t3 at *;generalize t3 / cG t3 (max P 1) = x at *;generalize max P 1 / cG t3 (max P 1) = y at *;generalize (j7 N Es : Int) = t at *;generalize bm Es = Y at *;rw [aB oQo sQo (ae rfl)];unfold qQo cQo;simp [MS,MR,MQ,MP,MO,MN,MM,ML,MK,MJ,lp,cr,sh,w,aJ,sQk,iQk,lQk,eQk,sQK,iQK,lQK,eQK,dK,pl,ba,aZ]
theorem Va {N : Nat} {Es : List Ed} (hG : gK (N : Int) Es) (hE : Es.length < 1000000) {u : Nat} (hu : u < N) : aY ak ZQ [.agg [.int .i64 N,.list 2 (bm Es)],.int .i64 u] [] = some (.dD [fr (tn N Es u) (max (pr (fF N Es u).length) 1),.int .i64 0],[]) := by
 have hN := hG.1;have nr := mr hG hE;have b := adC hG hu;have nl := jq hG (u := u) (by omega) (by omega);have pb := yG (n := (fF N Es u).length) (by omega);have p := BZ hG hE hu;have z : pr (fF N Es u).length = 0 -> tn N Es u = 0 := fun h => RM hG hu (Tj h);have s := Be (a := tn N Es u) (b := pr (fF N Es u).length) (by omega) (by omega) z;have ln := cS N Es;have gt := qe hG hu;rw [List.getD_eq_getElem?_getD,ai (by omega)] at gt;simp only [Option.getD_some] at gt;have gu : (ints (du N Es))[u]? = some (.int .i64 (tn N Es u : Nat)) := by rw [aM,ai (by omega),<- gt]; rfl
 have gu' : ∀ h : u < (ints (du N Es)).length,(ints (du N Es))[u] = .int .i64 (tn N Es u : Nat) := fun h => by rw [ai h] at gu; exact cK gu
 have g5 : (ints (du N Es)).length = N := by rw [aj,ln]
 have k1 : (u : Int) < N := by omega
 have k2 : ¬ (u : Int) < 0 := by omega
 have k3 : ¬ (N : Int) <= u := by omega
 have k4 : ¬ N <= u := by omega
 clear z;unfold fr at *;generalize tn N Es u / cG (tn N Es u) (max (pr (fF N Es u).length) 1) = x at *;generalize max (pr (fF N Es u).length) 1 / cG (tn N Es u) (max (pr (fF N Es u).length) 1) = y at *;generalize tn N Es u = t at *;generalize pr (fF N Es u).length = q at *;generalize ints (du N Es) = tN at *;generalize bm Es = Y at *;rw [aB oQv sQv (ae rfl)];unfold qQv cQv;simp [MA,Mz,My,Mx,Mw,Mv,Mu,nr,p,s,gu,gu',g5,k1,k2,k3,k4,hu,idx,aJ,Xv,iQm,lQm,eQm,sQJ,iQJ,lQJ,eQJ,sQK,iQK,lQK,eQK,dK,pl,ba,aZ]
theorem U9 {N : Nat} {Es : List Ed} (hG : gK (N : Int) Es) (hE : Es.length < 1000000) {u : Int} (hu : ¬ (0 <= u /\ u < N)) : aY ak ZQ [.agg [.int .i64 N,.list 2 (bm Es)],.int .i64 u] [] = some (.dD [.agg [.int .i64 0,.int .i64 0],.int .i64 6],[]) := by
 have nr := mr hG hE;generalize ints (du N Es) = tN at *;generalize bm Es = Y at *;rw [aB oQv sQv (ae rfl)];unfold qQv cQv;by_cases k1 : u < 0
 ·simp [MA,Mz,My,Mx,Mw,Mv,Mu,nr,k1,aJ,Xv,iQm,lQm,eQm,dK,pl,ba,aZ]
 ·have k2 : (N : Int) <= u := by omega
  simp [MA,Mz,My,Mx,Mw,Mv,Mu,nr,k1,k2,aJ,Xv,iQm,lQm,eQm,dK,pl,ba,aZ]
theorem UT {N : Nat} {Es : List Ed} (hG : gK (N : Int) Es) (hE : Es.length < 1000000) {u : Int} (hu : ¬ (0 <= u /\ u < N)) : aY ak ZR [.agg [.int .i64 N,.list 2 (bm Es)],.int .i64 u] [] = some (.dD [.agg [.int .i64 0,.int .i64 0],.int .i64 6],[]) := by
 have g := gz N Es (by omega);rw [eK.2 hG] at g;generalize bm Es = Y at *;rw [aB oQu sQu (ae rfl)];unfold qQu cQu;by_cases k1 : u < 0
 ·simp [MI,MH,MG,MF,ME,MD,MC,MB,g,k1,aJ,Jc,K9,K8,Lj,dK,pl,ba,aZ]
 ·have k2 : (N : Int) <= u := by omega
  simp [MI,MH,MG,MF,ME,MD,MC,MB,g,k1,k2,aJ,Jc,K9,K8,Lj,dK,pl,ba,aZ]
/- Both sides say the same of any graph with any numbers. -/
def WQ (n : Int) (F : List Ed) : AV := .agg [.int .i64 n,.list 2 (bm F)]
def sW (n : Int) (F : List Ed) (C : Int) (Ns : List Int) : AV := .agg [.int .i64 n,.list 2 (bm F),.int .i64 C,.list 1 (ints Ns)]
def fcA (x y : Int) : AV := .agg [.int .i64 x,.int .i64 y]
structure TAg (n : Int) (F : List Ed) (C : Int) (Ns : List Int) : Prop where
 cnt : ∃ c e : Int,aY ak ZU [WQ n F] [] = some (.dD [.int .i64 c,.int .i64 e],[]) /\ aY ak WL [WQ n F] [] = some (.dD [.int .i64 c,.int .i64 e],[])
 nod : ∃ (P : List Int) (e : Int),P.length < 1000000 /\ aY ak nQl [WQ n F] [] = some (.dD [.list 1 (ints P),.int .i64 e],[]) /\ aY ak Vs [WQ n F] [] = some (.dD [.list 1 (ints P),.int .i64 e],[])
 who : ∃ x y e : Int,aY ak ZT [WQ n F] [] = some (.dD [fcA x y,.int .i64 e],[]) /\ aY ak nQo [WQ n F] [] = some (.dD [fcA x y,.int .i64 e],[])
 opn : ∃ (m : Int) (G : List Ed) (c : Int) (P : List Int) (e : Int),G.length < 1000000 /\ P.length < 1000000 /\ aY ak nQp [WQ n F] [] = some (.dD [sW m G c P,.int .i64 e],[]) /\ aY ak TJ [WQ n F] [] = some (.dD [sW m G c P,.int .i64 e],[])
 val : ∃ b : Bool,aY ak TI [sW n F C Ns] [] = some (.bool b,[]) /\ aY ak TH [sW n F C Ns] [] = some (.bool b,[])
 loc : ∀ v : Int,∃ x y e : Int,aY ak ZR [WQ n F,.int .i64 v] [] = some (.dD [fcA x y,.int .i64 e],[]) /\ aY ak ZQ [WQ n F,.int .i64 v] [] = some (.dD [fcA x y,.int .i64 e],[])
 ins : ∀ u v : Int,∃ (m : Int) (G : List Ed) (c : Int) (P : List Int) (d e : Int),G.length < 1000000 /\ P.length < 1000000 /\ aY ak ZP [sW n F C Ns,.int .i64 u,.int .i64 v] [] = some (.dD [sW m G c P,.int .i64 d,.int .i64 e],[]) /\ aY ak nQx [sW n F C Ns,.int .i64 u,.int .i64 v] [] = some (.dD [sW m G c P,.int .i64 d,.int .i64 e],[])
 del : ∀ u v : Int,∃ (m : Int) (G : List Ed) (c : Int) (P : List Int) (d e : Int),G.length < 1000000 /\ P.length < 1000000 /\ aY ak ZO [sW n F C Ns,.int .i64 u,.int .i64 v] [] = some (.dD [sW m G c P,.int .i64 d,.int .i64 e],[]) /\ aY ak nQz [sW n F C Ns,.int .i64 u,.int .i64 v] [] = some (.dD [sW m G c P,.int .i64 d,.int .i64 e],[])
theorem CF (n : Int) (F : List Ed) (C : Int) (Ns : List Int) (hF : F.length < 900000) (hN : Ns.length < 1000000) : TAg n F C Ns := by
 by_cases h0 : rI n F = 0
 ·have hG := eK.1 h0;obtain ⟨N,rfl⟩ : ∃ N : Nat,n = (N : Int) := ⟨n.toNat,by have := hG.1; omega⟩;have b64 := hG.1;have hE : F.length < 1000000 := by omega
  have tq := pj hG;have nl := cS N F;have cr := Wi hG hE;have nr := Vo hG hE;have op := US hG hE;rw [tq] at cr op;have pb := Qs hG N (aT _);have tb := pk hG;have t3 := iO hG;have va := wj hG hE C Ns hN;have rv := wy hG hE C Ns hN;refine ⟨⟨_,_,cr,uB hG hE⟩,⟨_,_,by omega,nr,mr hG hE⟩,⟨_,_,_,Lv hG hE (by omega) (by omega),Lr hG hE⟩,⟨_,_,_,_,_,hE,(by rw [nl]; omega),op,qj hG hE⟩,⟨_,va,rv⟩,fun v => ?_,fun u v => ?_,fun u v => ?_⟩
  ·by_cases hv : 0 <= v /\ v < N
   ·obtain ⟨w,rfl⟩ : ∃ w : Nat,v = (w : Int) := ⟨v.toNat,by omega⟩;exact ⟨_,_,_,UU hG hE (by omega),Va hG hE (by omega)⟩
   ·exact ⟨_,_,_,UT hG hE hv,U9 hG hE hv⟩
  ·by_cases k : C = (fw N F : Int) / 3 /\ Ns = du N F
   ·obtain ⟨rfl,rfl⟩ := k;have t1 := Xb hG hE u v;have t2 := LQ hG hF u v;rw [tq];by_cases q : eM N u v
    ·rw [if_pos q] at t1 t2;by_cases m : bw u v ∈ F
     ·rw [if_pos m] at t1 t2;exact ⟨0,[],0,[],_,_,(by decide),(by decide),t1,t2⟩
     ·rw [if_neg m] at t1 t2;exact ⟨_,_,_,_,_,_,(by have := yF (bw u v) F; omega),(by rw [cS]; omega),t1,t2⟩
    ·rw [if_neg q] at t1 t2;exact ⟨0,[],0,[],_,_,(by decide),(by decide),t1,t2⟩
   ·have z : (decide (C = (fw N F : Int) / 3) && decide (Ns = du N F)) = false := by
     rw [wh,decide_eq_false_iff_not,decide_eq_false_iff_not];by_cases k1 : C = (fw N F : Int) / 3
     ·exact .inr fun k2 => k ⟨k1,k2⟩
     ·exact .inl k1
    rw [z] at va rv;exact ⟨0,[],0,[],_,_,(by decide),(by decide),adD _ _ _ _ u v va,adJ _ _ _ _ u v rv⟩
  ·by_cases k : C = (fw N F : Int) / 3 /\ Ns = du N F
   ·obtain ⟨rfl,rfl⟩ := k;have t1 := Xc hG hE u v;have t2 := LV hG hF u v;rw [tq];by_cases q : eM N u v
    ·rw [if_pos q] at t1 t2;by_cases m : bw u v ∈ F
     ·rw [if_pos m] at t1 t2;exact ⟨_,_,_,_,_,_,(by have := (Dz (bw u v) F).length_le; omega),(by rw [cS]; omega),t1,t2⟩
     ·rw [if_neg m] at t1 t2;exact ⟨0,[],0,[],_,_,(by decide),(by decide),t1,t2⟩
    ·rw [if_neg q] at t1 t2;exact ⟨0,[],0,[],_,_,(by decide),(by decide),t1,t2⟩
   ·have z : (decide (C = (fw N F : Int) / 3) && decide (Ns = du N F)) = false := by
     rw [wh,decide_eq_false_iff_not,decide_eq_false_iff_not];by_cases k1 : C = (fw N F : Int) / 3
     ·exact .inr fun k2 => k ⟨k1,k2⟩
     ·exact .inl k1
    rw [z] at va rv;exact ⟨0,[],0,[],_,_,(by decide),(by decide),adG _ _ _ _ u v va,adL _ _ _ _ u v rv⟩
 ·have hE : F.length < 1000000 := by omega
  have va := ahI n F hE _ rfl h0 C Ns;have rv := ahS n F hE _ rfl h0 C Ns;exact ⟨⟨_,_,ahO n F hE _ rfl h0,adM n F hE _ rfl h0⟩,⟨[],_,(by decide),ahL n F hE _ rfl h0,R5 n F hE _ rfl h0⟩,⟨_,_,_,ahH n F hE _ rfl h0,ahR n F hE _ rfl h0⟩,⟨0,[],0,[],_,(by decide),(by decide),ahK n F hE _ rfl h0,adI n F hE _ rfl h0⟩,⟨_,va,rv⟩,fun v => ⟨_,_,_,ahN n F hE _ rfl h0 v,ahT n F hE _ rfl h0 v⟩,fun u v => ⟨0,[],0,[],_,_,(by decide),(by decide),adD n F C Ns u v va,adJ n F C Ns u v rv⟩,fun u v => ⟨0,[],0,[],_,_,(by decide),(by decide),adG n F C Ns u v va,adL n F C Ns u v rv⟩⟩
end Go.BmP
