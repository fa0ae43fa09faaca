/- What graph.Add returns for a graph that is in order: the search for the place. -/
import Derived.Test.YtmoginoicilobabGreatUseM
import Derived.Test.YtmoginoicilobabGreatK05
set_option linter.unusedSimpArgs false
set_option linter.unusedVariables false
set_option maxRecDepth 100000
set_option maxHeartbeats 4000000
open Int renaming natCast_add → lz
open List renaming getElem?_eq_getElem → ai, pairwise_iff_getElem → pZ, take_of_length_le → aL
open Nat renaming le_of_ble_eq_true → ae, le_refl → aT
open Option.some renaming injEq → ah
namespace Go.BmP
open Go.Am Go.Bm
theorem Ih (u v : Int) : aY ak Kk [.int .i64 u,.int .i64 v] [] = some (.agg [.int .i64 (bw u v).1,.int .i64 (bw u v).2],[]) := by
 rw [aB oQa3 U6 (ae rfl)];unfold bw;simp only;obtain ⟨a,ha⟩ : ∃ a,(if v < u then v else u) = a := ⟨_,rfl⟩;obtain ⟨b,hb⟩ : ∃ b,(if u < v then v else u) = b := ⟨_,rfl⟩;rw [ha,hb];unfold qQa3 cQa3;simp [Zd,Zc,ha,hb,aJ,fG,dx,dz,bp,fi,fP,bZ,bU,dK,pl,ba,aZ,eB]
theorem JZ (x : Ed) : ∀ (l : List Ed) (k : Nat),k <= l.length -> (∀ (t : Nat) (h : t < l.length),t < k -> vm l[t] x) -> (∀ (h : k < l.length),¬ vm l[k] x) -> dP x l = k
 | [],k,hk,_,_ => by simp at hk; subst hk; rfl
 | y :: r,0,hk,h1,h2 => by
   unfold dP;have k0 : ¬ vm y x := h2 (by simp);rw [if_neg k0]
 | y :: r,k + 1,hk,h1,h2 => by
   unfold dP;have k0 : vm y x := h1 0 (by simp) (by omega);rw [if_pos k0,JZ x r k (by simpa using hk) (fun t h ht => h1 (t + 1) (by simpa using h) (by omega)) (fun h => h2 (by simpa using h))]
def Pe (x : Ed) (Es : List Ed) (i j : Nat) (J : Env) : St := ⟨(0,.list 2 (bm Es)) :: (2,.func (.func ZX) [] []) :: (4,.ptr 0 0) :: (8,.int .i64 Es.length) :: (9,.int .i64 i) :: (10,.int .i64 j) :: J,[some [.int .i64 x.1,.int .i64 x.2]]⟩
theorem adm (x : Ed) (Es : List Ed) (hE : Es.length < 1000000) (hU : CC Es) : ∀ (m i j : Nat),j - i <= m -> i <= j -> j <= Es.length -> (∀ (t : Nat) (h : t < Es.length),t < i -> vm Es[t] x) -> (∀ (t : Nat) (h : t < Es.length),j <= t -> ¬ vm Es[t] x) ->
  bL ak 0 (.loop Fg) (Pe x Es i j []) = some (.exit 0,Pe x Es (dP x Es) (dP x Es) [(17,.bool false)]) := by
 intro m
 induction m with
 | zero =>
   intro i j hm B7 hj h1 h2;obtain rfl : i = j := by omega
   rw [JZ x Es i hj h1 (fun h => h2 i h (aT _))];refine cj ?_;unfold Pe Fg;generalize bm Es = Y at *;simp [wW,wV,wU,wT,wS,wR,wQ,wP,wO,aJ,fG,dx,dz,bp,fi,fP,bZ,bU]
 | succ m ih =>
   intro i j hm B7 hj h1 h2;by_cases bO : i < j
   case neg =>
    obtain rfl : i = j := by omega
    exact ih i i (by omega) (aT _) hj h1 h2
   have k1 : (i : Int) < j := by omega
   obtain ⟨h,hh⟩ : ∃ h,(i + j) / 2 = h := ⟨_,rfl⟩;have hl : h < Es.length := by omega
   have hln : (h : Int) < Es.length := by omega
   have w1 : IntKind.i64.wrap ((i : Int) + j) = (i : Int) + j := cM (by omega) (by omega)
   have w2 : IntKind.u64.wrap ((i : Int) + j) = (i : Int) + j := by
    have : IntKind.u64.wrap ((i + j : Nat) : Int) = ((i + j : Nat) : Int) := by
     rw [IntKind.wrap_u64]; omega
    rwa [lz] at this
   have w3 : ((i : Int) + j).fdiv 2 = (h : Int) := by
    rw [<- lz,Int.fdiv_eq_ediv_of_nonneg _ (by omega)]; omega
   have w4 : IntKind.i64.wrap (h : Int) = h := RG (by omega);have w5 : IntKind.i64.wrap ((h : Int) + 1) = ((h + 1 : Nat) : Int) := fT (by omega);have w6 : IntKind.u64.wrap (h : Int) = h := by rw [IntKind.wrap_u64]; omega
   have w7 : ((i : Int) + j) / 2 = (h : Int) := by omega
   have g1 : (bm Es)[h]? = some (.agg [.int .i64 Es[h].1,.int .i64 Es[h].2]) := by rw [aX,ai hl]; rfl
   have g2 : ∀ p,(bm Es)[h]'p = .agg [.int .i64 Es[h].1,.int .i64 Es[h].2] := fun p => bV ..;have g5 := av Es;have o := Ai Es[h] x;have og := J2 Es[h] x;obtain ⟨xa,xb⟩ := x;by_cases q : vm Es[h] (xa,xb)
   ·have on : Co Es[h] (xa,xb) < 0 := by
     have : ¬ 0 <= Co Es[h] (xa,xb) := fun z => og.1 z q;omega
    refine (bG (s' := Pe (xa,xb) Es (h + 1) j []) ?_).trans (ih (h + 1) j (by omega) (by omega) hj (fun t ht htt => ?_) h2)
    ·clear ih h1 h2 og hU q;generalize Co Es[h] (xa,xb) = z at *;generalize Es[h] = e at *;unfold Pe Fg;simp only at o;generalize bm Es = Y at *;simp [wW,wV,wU,wT,wS,wR,wQ,wP,wO,k1,bO,hl,hln,w1,w2,w3,w4,w5,w6,w7,g1,g2,g5,o,on,idx,IntKind.bits,sQX,iQX,lQX,eQX,aJ,fG,dx,dz,bp,fi,fP,bZ,bU]
    ·by_cases e : t = h
     ·subst e; exact q
     ·exact qB (pZ.1 hU t h ht hl (by omega)) q
   ·have on : ¬ Co Es[h] (xa,xb) < 0 := by
     have := og.2 q;omega
    refine (bG (s' := Pe (xa,xb) Es i h []) ?_).trans (ih i h (by omega) (by omega) (by omega) h1 (fun t ht htt => ?_))
    ·clear ih h1 h2 og hU q;generalize Co Es[h] (xa,xb) = z at *;generalize Es[h] = e at *;unfold Pe Fg;simp only at o;generalize bm Es = Y at *;simp [wW,wV,wU,wT,wS,wR,wQ,wP,wO,k1,bO,hl,hln,w1,w2,w3,w4,w5,w6,w7,g1,g2,g5,o,on,idx,IntKind.bits,sQX,iQX,lQX,eQX,aJ,fG,dx,dz,bp,fi,fP,bZ,bU]
    ·intro z;by_cases e : t = h
     ·subst e; exact q z
     ·exact q (qB (pZ.1 hU h t hl ht (by omega)) z)
/- What graph.Add returns for a graph that is in order. -/
theorem CL {x : Ed} {Es : List Ed} (hU : CC Es) : x ∈ Es ↔ Es[dP x Es]? = some x := by
 constructor
 ·intro hx;obtain ⟨t,ht,e⟩ := List.getElem_of_mem hx;have h1 : dP x Es = t := JZ x Es t (by omega) (fun s hs yk => by rw [<- e]; exact pZ.1 hU s t hs ht yk) (fun _ => by rw [e]; exact vl);rw [h1,ai ht,e]
 ·exact fun h => List.mem_of_getElem? h
theorem ahv (x : Ed) (Es : List Ed) (hE : Es.length < 1000000) (hU : CC Es) : ∃ b,aY ak NM [.list 2 (bm Es),.agg [.int .i64 x.1,.int .i64 x.2],.func (.func ZX) [] []] [] = some (.dD [.int .i64 (dP x Es),.bool b],[]) := by
 have lp := adm x Es hE hU Es.length 0 Es.length (by omega) (by omega) (aT _) (fun t h ht => by omega) (fun t h ht => by omega);unfold Pe at lp;rw [iR] at lp;have g5 := av Es;have pl := yI x Es;rw [aB oQb9 Xw (ae rfl)];unfold qQb9 cQb9;by_cases q : dP x Es < Es.length
 ·have qn : (dP x Es : Int) < Es.length := by omega
  have g1 : (bm Es)[dP x Es]? = some (.agg [.int .i64 Es[dP x Es].1,.int .i64 Es[dP x Es].2]) := by rw [aX,ai q]; rfl
  have g2 : ∀ p,(bm Es)[dP x Es]'p = .agg [.int .i64 Es[dP x Es].1,.int .i64 Es[dP x Es].2] := fun p => bV ..;have o := Ai Es[dP x Es] x;refine ⟨decide (Co Es[dP x Es] x = 0),?_⟩;generalize Co Es[dP x Es] x = z at *;generalize Es[dP x Es] = e at *;obtain ⟨xa,xb⟩ := x;simp only at o lp;generalize dP (xa,xb) Es = k at *;generalize bm Es = Y at *;by_cases z0 : z = 0
  ·simp [wW,wV,wU,wT,wS,wR,wQ,wP,wO,lp,q,qn,g1,g2,g5,o,z0,idx,sQX,iQX,lQX,eQX,aJ,fG,dx,dz,bp,fi,fP,bZ,bU,dK,pl,ba,aZ,eB]
  ·simp [wW,wV,wU,wT,wS,wR,wQ,wP,wO,lp,q,qn,g1,g2,g5,o,z0,idx,sQX,iQX,lQX,eQX,aJ,fG,dx,dz,bp,fi,fP,bZ,bU,dK,pl,ba,aZ,eB]
 ·have qn : ¬ (dP x Es : Int) < Es.length := by omega
  refine ⟨false,?_⟩;obtain ⟨xa,xb⟩ := x;simp only at lp;generalize dP (xa,xb) Es = k at *;generalize bm Es = Y at *;simp [wW,wV,wU,wT,wS,wR,wQ,wP,wO,lp,q,qn,g5,idx,sQX,iQX,lQX,eQX,aJ,fG,dx,dz,bp,fi,fP,bZ,bU,dK,pl,ba,aZ,eB]
theorem HN (N : Int) (Es : List Ed) (hE : Es.length < 1000000) (hU : CC Es) (u v : Int) : aY ak Kl [.agg [.int .i64 N,.list 2 (bm Es)],.int .i64 u,.int .i64 v] [] = some (.dD [.int .i64 (dP (bw u v) Es),.bool (decide (bw u v ∈ Es))],[]) := by
 have ge := Ih u v;have pm := CL (x := bw u v) hU;generalize bw u v = x at *;obtain ⟨b,bs⟩ := ahv x Es hE hU;have g5 := av Es;rw [aB oQa1 Xy (ae rfl)];unfold qQa1 cQa1;by_cases q : dP x Es < Es.length
 ·have qn : (dP x Es : Int) < Es.length := by omega
  have g1 : (bm Es)[dP x Es]? = some (.agg [.int .i64 Es[dP x Es].1,.int .i64 Es[dP x Es].2]) := by rw [aX,ai q]; rfl
  have g2 : ∀ p,(bm Es)[dP x Es]'p = .agg [.int .i64 Es[dP x Es].1,.int .i64 Es[dP x Es].2] := fun p => bV ..;rw [ai q] at pm;have pm2 : (x ∈ Es) ↔ Es[dP x Es].1 = x.1 /\ Es[dP x Es].2 = x.2 := by rw [pm,ah,Prod.ext_iff]
  clear pm;have pm3 : decide (x ∈ Es) = decide (Es[dP x Es].1 = x.1 /\ Es[dP x Es].2 = x.2) := decide_eq_decide.2 pm2;rw [pm3];clear pm2 pm3;generalize Es[dP x Es] = e at *;obtain ⟨xa,xb⟩ := x;simp only at bs ge ⊢;generalize dP (xa,xb) Es = k at *;generalize bm Es = Y at *;obtain ⟨ea,eb⟩ := e;simp only at g1 g2 ⊢;by_cases z0 : ea = xa
  ·by_cases z1 : eb = xb
   ·simp [D3,D2,DZ,DY,bs,ge,q,qn,g1,g2,g5,z0,z1,FC,sQ,idx,U6,iQa3,lQa3,eQa3,Xw,iQb9,lQb9,eQb9,aJ,fG,dx,dz,bp,fi,fP,bZ,bU,dK,pl,ba,aZ,eB]
   ·simp [D3,D2,DZ,DY,bs,ge,q,qn,g1,g2,g5,z0,z1,FC,sQ,idx,U6,iQa3,lQa3,eQa3,Xw,iQb9,lQb9,eQb9,aJ,fG,dx,dz,bp,fi,fP,bZ,bU,dK,pl,ba,aZ,eB]
  ·simp [D3,D2,DZ,DY,bs,ge,q,qn,g1,g2,g5,z0,FC,sQ,idx,U6,iQa3,lQa3,eQa3,Xw,iQb9,lQb9,eQb9,aJ,fG,dx,dz,bp,fi,fP,bZ,bU,dK,pl,ba,aZ,eB]
 ·have qn : ¬ (dP x Es : Int) < Es.length := by omega
  rw [List.getElem?_eq_none (by omega)] at pm;have pm2 : ¬ x ∈ Es := fun h => by have := pm.1 h; cases this
  rw [decide_eq_false pm2];clear pm pm2;obtain ⟨xa,xb⟩ := x;simp only at bs ge ⊢;generalize dP (xa,xb) Es = k at *;generalize bm Es = Y at *;simp [D3,D2,DZ,DY,bs,ge,q,qn,g5,FC,sQ,idx,U6,iQa3,lQa3,eQa3,Xw,iQb9,lQb9,eQb9,aJ,fG,dx,dz,bp,fi,fP,bZ,bU,dK,pl,ba,aZ,eB]
def eM (N u v : Int) : Prop := u ≠ v /\ (0 <= u /\ u < N) /\ 0 <= v /\ v < N
instance (N u v : Int) : Decidable (eM N u v) := by unfold eM; infer_instance
theorem V5 (N u v : Int) : aY ak NO [.int .i64 N,.int .i64 u,.int .i64 v] [] = some (.bool (decide (eM N u v)),[]) := by
 rw [aB oQb8 sQb8 (ae rfl)];unfold qQb8 cQb8
 have e : eM N u v ↔ (¬ u = v /\ 0 <= (if v < u then v else u)) /\ (if u < v then v else u) < N := by
  unfold eM;constructor
  ·intro h; refine ⟨⟨h.1,?_⟩,?_⟩ <;> split <;> omega
  ·rintro ⟨⟨h1,h2⟩,h3⟩;split at h2 <;> split at h3 <;> refine ⟨h1,?_⟩ <;> omega
 have e3 : decide (eM N u v) = decide ((¬ u = v /\ 0 <= (if v < u then v else u)) /\ (if u < v then v else u) < N) := decide_eq_decide.2 e;rw [e3];clear e e3;obtain ⟨a,ha⟩ : ∃ a,(if v < u then v else u) = a := ⟨_,rfl⟩;obtain ⟨b,hb⟩ : ∃ b,(if u < v then v else u) = b := ⟨_,rfl⟩;rw [ha,hb];by_cases k1 : u = v
 ·simp [Jz,Jy,ha,hb,k1,aJ,ba,aZ]
 ·by_cases k2 : 0 <= a
  ·simp [Jz,Jy,ha,hb,k1,k2,aJ,ba,aZ]
  ·simp [Jz,Jy,ha,hb,k1,k2,aJ,ba,aZ]
theorem FU (N : Nat) (Es : List Ed) (hG : gK (N : Int) Es) (hE : Es.length < 1000000) (u v : Int) : aY ak Km [.agg [.int .i64 N,.list 2 (bm Es)],.int .i64 u,.int .i64 v] [] = some (.int .i64 (if eM N u v then 0 else 6),[]) := by
 have gc := gz (N : Int) Es (by omega);rw [eK.2 hG] at gc;have en := V5 (N : Int) u v;rw [aB oQa0 PY (ae rfl)];unfold qQa0 cQa0;generalize bm Es = Y at *;by_cases q : eM N u v
 ·rw [decide_eq_true q] at en;rw [if_pos q];simp [Qq,Qp,Qo,Qn,Qm,Ql,Qk,gc,en,Jc,K9,K8,Lj,sQb8,iQb8,lQb8,eQb8,aJ,fG,dx,dz,bp,fi,fP,bZ,bU,dK,pl,ba,aZ,eB]
 ·rw [decide_eq_false q] at en;rw [if_neg q];simp [Qq,Qp,Qo,Qn,Qm,Ql,Qk,gc,en,Jc,K9,K8,Lj,sQb8,iQb8,lQb8,eQb8,aJ,fG,dx,dz,bp,fi,fP,bZ,bU,dK,pl,ba,aZ,eB]
def WC (N : Nat) (Es : List Ed) (u v : Int) : AV := if eM N u v then (if bw u v ∈ Es then .dD [.agg [.int .i64 0,.list 2 []],.int .i64 15] else .dD [.agg [.int .i64 N,.list 2 (bm (fE (bw u v) Es))],.int .i64 0]) else .dD [.agg [.int .i64 0,.list 2 []],.int .i64 6]
theorem x8 (Es : List Ed) (hl : Es.length < 1000000) : aY ak Z1 [.list 2 (bm Es)] [] = some (.own 2 (bm Es),[]) := by
 cases Es with
 | nil => exact IE (by unfold EN; rw [oQ6]; rfl)
 | cons x r =>
   rw [IF (by unfold EN; rw [oQ6]; rfl) sQ6 (ae rfl)];unfold qQ6 cQ6;have AO : r.length + 1 <= 4294967296 := by simp at hl; omega
   have tk : (bm r).take r.length = bm r := aL (by rw [av]; omega);simp [aer,aeq,aep,aeo,OX,av,AO,tk,aD,jQ,aJ,ba,aZ,zt,QL,RP,RO,oO,List.take_take,Nat.min_self,List.take_length,AV.cells,AV.leaf]
theorem adt (N : Nat) (Es : List Ed) (hG : gK (N : Int) Es) (hE : Es.length < 1000000) (u v : Int) : aY ak nQP [.agg [.int .i64 N,.list 2 (bm Es)],.int .i64 u,.int .i64 v] [] = some (WC N Es u v,[]) := by
 have ch := FU N Es hG hE u v;have pr := HN (N : Int) Es hE hG.2.1 u v;have ge := Ih u v;have pm := CL (x := bw u v) hG.2.1;have pp := EH (bw u v) Es;have pl := yI (bw u v) Es;unfold WC;rw [aB oQP sQP (ae rfl)];unfold qQP cQP;by_cases q : eM N u v
 ·rw [if_pos q] at ch ⊢;by_cases m : bw u v ∈ Es
  ·rw [decide_eq_true m] at pr;rw [if_pos m];clear pm pp;generalize dP (bw u v) Es = k at *;generalize bm Es = Y at *;simp [S4,S3,S2,S1,S0,SZ,SY,SX,ch,pr,PY,VM,VD,We,Xy,iQa1,lQa1,eQa1,aJ,fG,dx,dz,bp,fi,fP,bZ,bU,dK,pl,ba,aZ,eB]
  ·rw [decide_eq_false m] at pr;rw [if_neg m];rw [if_neg fun h => m (pm.2 h)] at pp;rw [pp];clear pm pp;have cl := x8 Es hE;obtain ⟨xa,xb⟩ : ∃ xa xb,bw u v = (xa,xb) := ⟨_,_,rfl⟩;have hk : dP (bw u v) Es = dP (bw u v) Es := rfl
   have ig : Oy 2 (bm Es) [.int .i64 (dP (bw u v) Es),.list 2 [.agg [.int .i64 (bw u v).1,.int .i64 (bw u v).2]]] = some (bm (Es.take (dP (bw u v) Es) ++ bw u v :: Es.drop (dP (bw u v) Es))) := by
    unfold Oy;simp only;have l5 := av Es;have e1 : ((dP (bw u v) Es : Nat) : Int).toNat = dP (bw u v) Es := by omega
    rw [if_pos ⟨trivial,by omega,by rw [e1,l5]; exact pl,by rw [l5]; show Es.length + 1 <= 4294967296; omega,rfl,rfl,rfl⟩,e1];simp [bm,dj]
   have cE := aI Es;have g5 := av Es;generalize dP (bw u v) Es = k at *;have gk := av (Es.take k ++ bw u v :: Es.drop k);have tkE : (bm Es).take Es.length = bm Es := aL (by omega);have tk2 : (bm (Es.take k ++ bw u v :: Es.drop k)).take (Es.take k ++ bw u v :: Es.drop k).length = bm (Es.take k ++ bw u v :: Es.drop k) := aL (by omega);generalize Es.take k ++ bw u v :: Es.drop k = Fs at *;generalize bm Fs = Y2 at *;generalize bm Es = Y at *;generalize (bw u v).1 = a at *;generalize (bw u v).2 = b at *;simp [S4,S3,S2,S1,S0,SZ,SY,SX,ch,pr,ge,cl,ig,cE,g5,gk,tkE,tk2,G5,Cz,OY,fK,clean,jQ,PY,VM,VD,We,Xy,iQa1,lQa1,eQa1,U6,iQa3,lQa3,eQa3,sQ6,iQ6,lQ6,eQ6,sQa2,iQa2,lQa2,eQa2,aJ,fG,dx,dz,bp,fi,fP,bZ,bU,dK,pl,eT,bQ,dH,cO,ba,aZ,eB]
 ·rw [if_neg q] at ch ⊢;generalize bm Es = Y at *;simp [S4,S3,S2,S1,S0,SZ,SY,SX,ch,PY,VM,VD,We,aJ,fG,dx,dz,bp,fi,fP,bZ,bU,dK,pl,ba,aZ,eB]
end Go.BmP
