/- What graph.Add returns for a graph that is in order: the search for the place. -/
import Derived.Test.YtmoginoicilobaaGreatDoorUseM
import Derived.Test.YtmoginoicilobaaGreatDoorK05
set_option linter.unusedSimpArgs false
set_option linter.unusedVariables false
set_option maxRecDepth 100000
set_option maxHeartbeats 4000000
open List renaming getElem?_eq_getElem → af, pairwise_iff_getElem → q6
open Nat renaming le_of_ble_eq_true → ab, le_refl → ba
open Option.some renaming injEq → ai
namespace Go.BmP
open Go.Am Go.Bm
theorem U8 (u v : Int) : bf aj Pu [.int .i64 u,.int .i64 v] [] = some (.agg [.int .i64 (lq u v).1,.int .i64 (lq u v).2],[]) := by
 rw [aB oQb7 Wu (ab rfl)];unfold lq;simp only;obtain ⟨a,ha⟩ : ∃ a,(if v < u then v else u) = a := ⟨_,rfl⟩;obtain ⟨b,hb⟩ : ∃ b,(if u < v then v else u) = b := ⟨_,rfl⟩;rw [ha,hb];unfold qQb7 cQb7;simp [Xe,Xd,ha,hb,aJ,eO,cI,cO,bh,eC,fo,bL,bH,df,pl,aY,aV,eh]
theorem Ks (x : Ed) : ∀ (l : List Ed) (k : Nat),k <= l.length -> (∀ (t : Nat) (h : t < l.length),t < k -> yj l[t] x) -> (∀ (h : k < l.length),¬ yj l[k] x) -> fD x l = k
 | [],k,hk,_,_ => by simp at hk; subst hk; rfl
 | y :: r,0,hk,h1,h2 => by
   unfold fD;have k0 : ¬ yj y x := h2 (by simp);rw [if_neg k0]
 | y :: r,k + 1,hk,h1,h2 => by
   unfold fD;have k0 : yj y x := h1 0 (by simp) (by omega);rw [if_pos k0,Ks x r k (by simpa using hk) (fun t h ht => h1 (t + 1) (by simpa using h) (by omega)) (fun h => h2 (by simpa using h))]
def NR (x : Ed) (Es : List Ed) (i j : Nat) (J : Env) : St := ⟨(0,.list 2 (bc Es)) :: (2,.func (.func nQT) [] []) :: (4,.ptr 0 0) :: (8,.int .i64 Es.length) :: (9,.int .i64 i) :: (10,.int .i64 j) :: J,[some [.int .i64 x.1,.int .i64 x.2]]⟩
theorem ab3 (x : Ed) (Es : List Ed) (hE : Es.length < 1000000) (hU : Ql Es) : ∀ (m i j : Nat),j - i <= m -> i <= j -> j <= Es.length -> (∀ (t : Nat) (h : t < Es.length),t < i -> yj Es[t] x) -> (∀ (t : Nat) (h : t < Es.length),j <= t -> ¬ yj Es[t] x) ->
  bj aj 0 (.loop FK) (NR x Es i j []) = some (.exit 0,NR x Es (fD x Es) (fD x Es) [(17,.bool false)]) := by
 intro m
 induction m with
 | zero =>
   intro i j hm zW hj h1 h2;obtain rfl : i = j := by omega
   rw [Ks x Es i hj h1 (fun h => h2 i h (ba _))];refine bm ?_;unfold NR FK;generalize bc Es = Y at *;simp [xJ,xI,xH,xG,xF,xE,xD,xC,xB,aJ,eO,cI,cO,bh,eC,fo,bL,bH]
 | succ m ih =>
   intro i j hm zW hj h1 h2;by_cases bz : i < j
   case neg =>
    obtain rfl : i = j := by omega
    exact ih i i (by omega) (ba _) hj h1 h2
   have k1 : (i : Int) < j := by omega
   obtain ⟨h,hh⟩ : ∃ h,(i + j) / 2 = h := ⟨_,rfl⟩;have hl : h < Es.length := by omega
   have hln : (h : Int) < Es.length := by omega
   have w1 : IntKind.i64.wrap ((i : Int) + j) = (i : Int) + j := cS (by omega) (by omega)
   have w2 : IntKind.u64.wrap ((i : Int) + j) = (i : Int) + j := by
    have : IntKind.u64.wrap ((i + j : Nat) : Int) = ((i + j : Nat) : Int) := by
     rw [IntKind.wrap_u64]; omega
    rwa [Int.natCast_add] at this
   have w3 : ((i : Int) + j).fdiv 2 = (h : Int) := by
    rw [<- Int.natCast_add,Int.fdiv_eq_ediv_of_nonneg _ (by omega)]; omega
   have w4 : IntKind.i64.wrap (h : Int) = h := HB (by omega);have w5 : IntKind.i64.wrap ((h : Int) + 1) = ((h + 1 : Nat) : Int) := dw (by omega);have w6 : IntKind.u64.wrap (h : Int) = h := by rw [IntKind.wrap_u64]; omega
   have w7 : ((i : Int) + j) / 2 = (h : Int) := by omega
   have g1 : (bc Es)[h]? = some (.agg [.int .i64 Es[h].1,.int .i64 Es[h].2]) := by rw [aO,af hl]; rfl
   have g2 : ∀ p,(bc Es)[h]'p = .agg [.int .i64 Es[h].1,.int .i64 Es[h].2] := fun p => bF ..;have g5 := au Es;have o := AZ Es[h] x;have og := Kw Es[h] x;obtain ⟨xa,xb⟩ := x;by_cases q : yj Es[h] (xa,xb)
   ·have on : CX Es[h] (xa,xb) < 0 := by
     have : ¬ 0 <= CX Es[h] (xa,xb) := fun z => og.1 z q;omega
    refine (aR (s' := NR (xa,xb) Es (h + 1) j []) ?_).trans (ih (h + 1) j (by omega) (by omega) hj (fun t ht htt => ?_) h2)
    ·clear ih h1 h2 og hU q;generalize CX Es[h] (xa,xb) = z at *;generalize Es[h] = e at *;unfold NR FK;simp only at o;generalize bc Es = Y at *;simp [xJ,xI,xH,xG,xF,xE,xD,xC,xB,k1,bz,hl,hln,w1,w2,w3,w4,w5,w6,w7,g1,g2,g5,o,on,idx,IntKind.bits,sQT,iQT,lQT,aJ,eO,cI,cO,bh,eC,fo,bL,bH]
    ·by_cases e : t = h
     ·subst e; exact q
     ·exact A8 (q6.1 hU t h ht hl (by omega)) q
   ·have on : ¬ CX Es[h] (xa,xb) < 0 := by
     have := og.2 q;omega
    refine (aR (s' := NR (xa,xb) Es i h []) ?_).trans (ih i h (by omega) (by omega) (by omega) h1 (fun t ht htt => ?_))
    ·clear ih h1 h2 og hU q;generalize CX Es[h] (xa,xb) = z at *;generalize Es[h] = e at *;unfold NR FK;simp only at o;generalize bc Es = Y at *;simp [xJ,xI,xH,xG,xF,xE,xD,xC,xB,k1,bz,hl,hln,w1,w2,w3,w4,w5,w6,w7,g1,g2,g5,o,on,idx,IntKind.bits,sQT,iQT,lQT,aJ,eO,cI,cO,bh,eC,fo,bL,bH]
    ·intro z;by_cases e : t = h
     ·subst e; exact q z
     ·exact q (A8 (q6.1 hU h t hl ht (by omega)) z)
/- Where an edge stands in a graph that is in order. -/
theorem aaX {x : Ed} {Es : List Ed} (hU : Ql Es) : x ∈ Es ↔ Es[fD x Es]? = some x := by
 constructor
 ·intro hx;obtain ⟨t,ht,e⟩ := List.getElem_of_mem hx;have h1 : fD x Es = t := Ks x Es t (by omega) (fun s hs sa => by rw [<- e]; exact q6.1 hU s t hs ht sa) (fun _ => by rw [e]; exact KG);rw [h1,af ht,e]
 ·exact fun h => List.mem_of_getElem? h
theorem afG (x : Ed) (Es : List Ed) (hE : Es.length < 1000000) (hU : Ql Es) : ∃ b,bf aj Pt [.list 2 (bc Es),.agg [.int .i64 x.1,.int .i64 x.2],.func (.func nQT) [] []] [] = some (.dp [.int .i64 (fD x Es),.bool b],[]) := by
 have lp := ab3 x Es hE hU Es.length 0 Es.length (by omega) (by omega) (ba _) (fun t h ht => by omega) (fun t h ht => by omega);unfold NR at lp;rw [iB] at lp;have g5 := au Es;have pl := SA x Es;rw [aB oQb8 Wt (ab rfl)];unfold qQb8 cQb8;by_cases q : fD x Es < Es.length
 ·have qn : (fD x Es : Int) < Es.length := by omega
  have g1 : (bc Es)[fD x Es]? = some (.agg [.int .i64 Es[fD x Es].1,.int .i64 Es[fD x Es].2]) := by rw [aO,af q]; rfl
  have g2 : ∀ p,(bc Es)[fD x Es]'p = .agg [.int .i64 Es[fD x Es].1,.int .i64 Es[fD x Es].2] := fun p => bF ..;have o := AZ Es[fD x Es] x;refine ⟨decide (CX Es[fD x Es] x = 0),?_⟩;generalize CX Es[fD x Es] x = z at *;generalize Es[fD x Es] = e at *;obtain ⟨xa,xb⟩ := x;simp only at o lp;generalize fD (xa,xb) Es = k at *;generalize bc Es = Y at *;by_cases z0 : z = 0
  ·simp [xJ,xI,xH,xG,xF,xE,xD,xC,xB,lp,q,qn,g1,g2,g5,o,z0,idx,sQT,iQT,lQT,aJ,eO,cI,cO,bh,eC,fo,bL,bH,df,pl,aY,aV,eh]
  ·simp [xJ,xI,xH,xG,xF,xE,xD,xC,xB,lp,q,qn,g1,g2,g5,o,z0,idx,sQT,iQT,lQT,aJ,eO,cI,cO,bh,eC,fo,bL,bH,df,pl,aY,aV,eh]
 ·have qn : ¬ (fD x Es : Int) < Es.length := by omega
  refine ⟨false,?_⟩;obtain ⟨xa,xb⟩ := x;simp only at lp;generalize fD (xa,xb) Es = k at *;generalize bc Es = Y at *;simp [xJ,xI,xH,xG,xF,xE,xD,xC,xB,lp,q,qn,g5,idx,sQT,iQT,lQT,aJ,eO,cI,cO,bh,eC,fo,bL,bH,df,pl,aY,aV,eh]
theorem Uu (N : Int) (Es : List Ed) (hE : Es.length < 1000000) (hU : Ql Es) (u v : Int) : bf aj PB [.agg [.int .i64 N,.list 2 (bc Es)],.int .i64 u,.int .i64 v] [] = some (.dp [.int .i64 (fD (lq u v) Es),.bool (decide (lq u v ∈ Es))],[]) := by
 have ge := U8 u v;have pm := aaX (x := lq u v) hU;generalize lq u v = x at *;obtain ⟨b,bs⟩ := afG x Es hE hU;have g5 := au Es;rw [aB oQa4 sQa4 (ab rfl)];unfold qQa4 cQa4;by_cases q : fD x Es < Es.length
 ·have qn : (fD x Es : Int) < Es.length := by omega
  have g1 : (bc Es)[fD x Es]? = some (.agg [.int .i64 Es[fD x Es].1,.int .i64 Es[fD x Es].2]) := by rw [aO,af q]; rfl
  have g2 : ∀ p,(bc Es)[fD x Es]'p = .agg [.int .i64 Es[fD x Es].1,.int .i64 Es[fD x Es].2] := fun p => bF ..;rw [af q] at pm;have pm2 : (x ∈ Es) ↔ Es[fD x Es].1 = x.1 /\ Es[fD x Es].2 = x.2 := by rw [pm,ai,Prod.ext_iff]
  clear pm;have pm3 : decide (x ∈ Es) = decide (Es[fD x Es].1 = x.1 /\ Es[fD x Es].2 = x.2) := decide_eq_decide.2 pm2;rw [pm3];clear pm2 pm3;generalize Es[fD x Es] = e at *;obtain ⟨xa,xb⟩ := x;simp only at bs ge ⊢;generalize fD (xa,xb) Es = k at *;generalize bc Es = Y at *;obtain ⟨ea,eb⟩ := e;simp only at g1 g2 ⊢;by_cases z0 : ea = xa
  ·by_cases z1 : eb = xb
   ·simp [EH,EG,EF,EE,bs,ge,q,qn,g1,g2,g5,z0,z1,Gd,tO,idx,Wu,iQb7,lQb7,Wt,iQb8,lQb8,aJ,eO,cI,cO,bh,eC,fo,bL,bH,df,pl,aY,aV,eh]
   ·simp [EH,EG,EF,EE,bs,ge,q,qn,g1,g2,g5,z0,z1,Gd,tO,idx,Wu,iQb7,lQb7,Wt,iQb8,lQb8,aJ,eO,cI,cO,bh,eC,fo,bL,bH,df,pl,aY,aV,eh]
  ·simp [EH,EG,EF,EE,bs,ge,q,qn,g1,g2,g5,z0,Gd,tO,idx,Wu,iQb7,lQb7,Wt,iQb8,lQb8,aJ,eO,cI,cO,bh,eC,fo,bL,bH,df,pl,aY,aV,eh]
 ·have qn : ¬ (fD x Es : Int) < Es.length := by omega
  rw [List.getElem?_eq_none (by omega)] at pm;have pm2 : ¬ x ∈ Es := fun h => by have := pm.1 h; cases this
  rw [decide_eq_false pm2];clear pm pm2;obtain ⟨xa,xb⟩ := x;simp only at bs ge ⊢;generalize fD (xa,xb) Es = k at *;generalize bc Es = Y at *;simp [EH,EG,EF,EE,bs,ge,q,qn,g5,Gd,tO,idx,Wu,iQb7,lQb7,Wt,iQb8,lQb8,aJ,eO,cI,cO,bh,eC,fo,bL,bH,df,pl,aY,aV,eh]
def aad (N u v : Int) : Prop := u ≠ v /\ (0 <= u /\ u < N) /\ 0 <= v /\ v < N
instance (N u v : Int) : Decidable (aad N u v) := by unfold aad; infer_instance
end Go.BmP
