/- The machine by value: operations, calls, code. -/
import Derived.Test.YtmoginoicilobaaGreatDoorMc
import Derived.Scope
import Derived.Sort.Grow
import Derived.Deep.Draws
/- Operations that write: append, clear, stores. -/
set_option linter.unusedSimpArgs false
set_option linter.unusedVariables false
open Array renaming getD_eq_getD_getElem? → aZ, getElem?_append_left → qL, getElem?_append_right → GX, getElem?_eq_some_iff → dX, getElem?_replicate → kS, getElem?_setIfInBounds_ne → iX, replicate → pq
open Bool renaming and_eq_false_iff → Oi, and_eq_true → aa, false_eq_true → bO, not_eq_true → G6, not_eq_true' → bD, or_eq_false_iff → eM, or_eq_true → eX, true_and → Oh
open Go renaming undef → VC
open List renaming append_assoc → dI, append_nil → ft, drop_eq_nil_of_le → N3, eq_nil_of_length_eq_zero → di, ext_getElem? → dA, getElem?_append_left → ak, getElem?_append_right → aN, getElem?_cons_succ → mK, getElem?_drop → aS, getElem?_eq_getElem → af, getElem?_eq_none → dz, getElem?_map → cU, getElem?_of_mem → bA, getElem?_replicate → jf, getElem?_set → bn, getElem?_take → bB, isEmpty_iff → eG, length_append → cM, length_cons → b7, length_nil → mH, length_set → dc, length_take → bu, mem_append → aD, mem_cons → aX, mem_of_getElem? → aW, mem_of_mem_drop → cQ, mem_of_mem_take → cP, mem_or_eq_of_mem_set → bP, pairwise_append → Qt, rel_of_pairwise_cons → JA, replicate → aM, set_set → wQ, take_append_drop → Of
open Nat renaming add_mul → bX, le_refl → ba, lt_of_lt_of_le → fw, mul_le_mul_right → bG, zero_add → dL, zero_le → Lo, zero_mul → q8
open Option renaming bind_some → Vy, getD_some → kD, isSome_iff_exists → aU, map_some → cT
open Option.some renaming inj → bU, injEq → ai
open Prod.mk renaming injEq → aF
namespace Go.Bm
open Go.Am
section
variable {P : Program} {X : Nat -> Prop} {φ φ' : dq} {w w' : World} {N N' : Names} {s s1 : St} {Ha Ha' : Heap} {t : Nat -> Value} {B : Nat -> Nat} {base : Nat} {v va : AV} {v' : Value} {c : dR} {o : Oper} {a : Act} {kd : Kd}
theorem s7 {l : List AV} (h : ∀ x ∈ l,x.leaf = true) : bq l = true := by
 induction l with
 | nil => rfl
 | cons y r ih => simp only [bq,aa]; exact ⟨h y (by simp),ih fun x hx => h x (by simp [hx])⟩
theorem vQ {l : List AV} (h : bq l = true) : ∀ x ∈ l,x.leaf = true := by
 induction l with
 | nil => intro x hx; simp at hx
 | cons y r ih =>
   intro x hx;simp only [bq,aa] at h;rcases aX.1 hx with e | e
   ·subst e; exact h.1
   ·exact ih h.2 x e
theorem wJ {k : Nat} {xs : List AV} (h : ∀ x ∈ xs,x.cells.length = k) (n : Nat) : aG (xs.take n) = (aG xs).take (n * k) := by
 induction xs generalizing n with
 | nil => simp [aG]
 | cons x r ih =>
   cases n with
   | zero => simp [aG]
   | succ n =>
     have hx := h x (by simp);simp only [List.take_succ_cons,aG,ih (fun y hy => h y (by simp [hy])) n];rw [List.take_append,hx,bX,Nat.one_mul,List.take_of_length_le (by omega : x.cells.length <= n * k + k),Nat.add_sub_cancel]
theorem I8 {k : Nat} {xs : List AV} (h : ∀ x ∈ xs,x.cells.length = k) (n : Nat) : aG (xs.drop n) = (aG xs).drop (n * k) := by
 induction xs generalizing n with
 | nil => simp [aG]
 | cons x r ih =>
   cases n with
   | zero => simp
   | succ n =>
     have hx := h x (by simp);simp only [List.drop_succ_cons,aG,ih (fun y hy => h y (by simp [hy])) n];rw [List.drop_append,hx,bX,Nat.one_mul,N3 (by omega : x.cells.length <= n * k + k),List.nil_append,Nat.add_sub_cancel]
theorem j9 {k : Nat} {xs : List AV} (h : ∀ x ∈ xs,x.cells.length = k) : (aG xs).length = xs.length * k := (iR h).1
theorem Dz (h : eF X φ w N s Ha (tm a)) (hg : Am.dH (iW c) X φ w) {k : Nat} {x : E} {o' : Operand} (ho : cZ o' (mC x) = true) {ys : List AV} (hc : cont s k (bp c s.env x) = some ys) (wE : bq (aG ys) = true) :
  ∃ news,jo Ha k (Am.ev (iW c) (yF N s.env) (mC x)) = some (news,ys.length) /\ news.length = ys.length * k /\ (∀ y ∈ ys,y.cells.length = k) /\ bq news = true /\
   ∀ (i : Nat) (d : AV),(aG ys)[i]? = some d -> fz d = true /\ ∃ e,news[i]? = some e /\ e.leaf = true /\ Le d e := by
 have hx := cj (c := c) (cA := iW c) h rfl ho;have c6 := hx.ok;have r := bQ (c := iW c) (env := yF N s.env) (a := a) (fun i => by rw [mz]; exact h.env i) hg ho;rw [hx.ev] at r ⊢;cases e : bp c s.env x <;> rw [e] at hc c6 r <;> try (simp [cont] at hc; done)
 ·rename_i k' xs;simp only [cont] at hc;split at hc
  case isFalse => cases hc
  rename_i C7;subst C7;simp at hc;subst hc;simp only [fB,cF,jo,if_true] at r ⊢
  have kA : (∀ y ∈ xs,y.cells.length = k') /\ ∀ y ∈ xs,∀ d ∈ y.cells,pl d = true := by
   generalize a.eval o' = z at r;cases r with
   | ub _ _ _ ad n cap u hn jW hk hu h =>
     refine ⟨hk,fun y hy d hd => ?_⟩;obtain ⟨i,hi⟩ := bA hy;obtain ⟨j,hj⟩ := bA hd;exact WI (h i j y d hi hj) rfl
   | kL => exact ⟨fun y hy => by simp at hy,fun y hy => by simp at hy⟩
  refine ⟨aG xs,rfl,j9 kA.1,kA.1,wE,fun i d hd => ?_⟩;obtain ⟨i',y,j,h1,h2,_⟩ := (iR kA.1).2 i d hd;have hdl := vQ wE d (aW hd);refine ⟨?_,d,hd,hdl,Le.refl _⟩;unfold fz;rw [hdl,kA.2 y (aW h1) d (aW h2)];rfl
 ·rename_i k' xs;have := hx.eo k' xs e;subst this;simp [cont] at hc;subst hc;exact ⟨[],by simp [fB,jo],by simp,fun y hy => by simp at hy,rfl,fun i d hd => by simp [aG] at hd⟩
 ·rename_i k' p off len;simp only [cont] at hc;split at hc
  case h_2 => cases hc
  rename_i wA xs hp;split at hc
  case isFalse => cases hc
  rename_i hcc;obtain ⟨rfl,rfl,hle⟩ := hcc;simp at hc;subst hc;have eW := h.own p wA xs hp;simp only [fB];rcases qY h c6 with ⟨n,hn,e2⟩ | ⟨hn,h0,h1,e2⟩
  ·rw [e2];rw [hn] at eW;obtain ⟨cs,c1,c2,c3,c4⟩ := eW
   have hb : off * wA + len * wA <= cs.length := by
    have : (off + len) * wA <= xs.length * wA := bG wA hle;rw [bX] at this;omega
   have hys : ∀ y ∈ (xs.drop off).take len,y.cells.length = wA := fun y hy => c3 y (cQ (cP hy));have hl : ((xs.drop off).take len).length = len := by simp; omega
   have idx : ∀ (i : Nat) (d : AV),(aG ((xs.drop off).take len))[i]? = some d -> fz d = true /\ ∃ e,((cs.drop (off * wA)).take (len * wA))[i]? = some e /\ e.leaf = true /\ Le d e := by
    intro i d hd;rw [wJ (fun y hy => c3 y (cQ hy)),I8 c3,bB] at hd;split at hd
    case isFalse => cases hd
    rename_i hi;rw [aS] at hd;obtain ⟨f1,e,f2,f3,f4⟩ := c4 _ d hd;exact ⟨f1,e,by rw [bB,if_pos hi,aS]; exact f2,f3,f4⟩
   refine ⟨(cs.drop (off * wA)).take (len * wA),by simp only [jo,c1,hl]; rw [if_pos ⟨trivial,hb⟩],by rw [hl]; simp; omega,hys,s7 fun x hx => ?_,idx⟩;obtain ⟨i,hi⟩ := bA hx;have bz := aq hi;have : i < (aG ((xs.drop off).take len)).length := by rw [j9 hys,hl]; simp at bz; omega
   obtain ⟨d,hd⟩ := bg this;obtain ⟨_,e,g2,g3,_⟩ := idx i d hd;rw [hi] at g2;cases g2;exact g3
  ·rw [e2];subst h1;exact ⟨[],by simp [jo],by simp,fun y hy => by simp at hy,rfl,fun i d hd => by simp [aG] at hd⟩
theorem aa9 (hm : P.follows .mixedOrders = true) (h : SB X φ w B base s (tm a)) (hg : Am.dH (iW c) X φ w) {k k' : Nat} {x y : E} (hk : cN P o.op (mB (.app k x y)) = true) (CZ : bp c s.env x = .own k' []) {ys : List AV} (hy : cont s k (bp c s.env y) = some ys) (wE : bq (aG ys) = true) (hl : ys.length <= kR) :
  mF P X φ w B base s (.own k ys) o a := by
 obtain ⟨N,Ha,h,hb⟩ := h;obtain ⟨⟨o1,h1⟩,o2,h2⟩ := TI hk;have hx := cj (c := c) (cA := iW c) h rfl h1;obtain ⟨news,n1,n2,n3,n4,n5⟩ := Dz h hg h2 hy wE;by_cases h0 : ys.length = 0
 ·have : ys = [] := di h0;subst this;refine mF.of (mS (va := .dn) (Ha' := Ha) hm h hg hk (by simp only [mB,fc,n1,hx.ev,CZ,fB,mH,if_true]; rfl)) fun v' w' φ' r hh ad => ?_;exact dS.quiet (h.nI ad hh h.own (fun _ _ => rfl)) hb trivial (by simp [EO]) r
 ·refine mF.of (mS (va := .sl k Ha.length 0 ys.length) (Ha' := Ha ++ [some news]) hm h hg hk (by simp only [mB,fc,n1,hx.ev,CZ,fB,if_neg h0,if_pos (⟨hl,n4⟩ : ys.length <= kR /\ bq news = true)]; rfl)) fun v' w' φ' r hh ad => ?_;exact zY h hb ad hh (by omega) n3 n5 r
theorem aa8 (hm : P.follows .mixedOrders = true) (h : SB X φ w B base s (tm a)) (hg : Am.dH (iW c) X φ w) {k len : Nat} {x y : E} (hk : cN P o.op (mB (.app k x y)) = true) {p : Rt} {xs : List AV} (CZ : bp c s.env x = .c8 k p 0 len) (hp : av s p = some (k,xs)) (hle : len <= xs.length) {ys : List AV} (hy : cont s k (bp c s.env y) = some ys) (wE : bq (aG ys) = true) (hl : len + ys.length <= kR) :
  mF P X φ w B base (setAt (bY (sw p) s) p .any) (.own k (xs.take len ++ ys)) o a := by
 obtain ⟨N,Ha,h,hb⟩ := h;obtain ⟨⟨o1,h1⟩,o2,h2⟩ := TI hk;have hx := cj (c := c) (cA := iW c) h rfl h1;have c6 := hx.ok;rw [CZ] at c6;obtain ⟨news,n1,n2,n3,n4,n5⟩ := Dz h hg h2 hy wE;obtain ⟨d1,d2,d3⟩ := h.drop hp;have zX : (∀ b,b < base -> N.β b = B b) /\ base <= (setAt (bY (sw p) s) p .any).H.length := ⟨hb.1,by rw [d3.len]; exact hb.2⟩;have eW := h.own p k xs hp;rcases qY h c6 with ⟨n,hn,e2⟩ | ⟨hn,_,Ng,e2⟩
 ·rw [hn] at eW;obtain ⟨cs,c1,c2,c3,c4⟩ := eW;have hlk : len * k <= cs.length := Nat.le_trans (bG k hle) c2;have hnlt := dY c1;refine mF.of (mS (va := .sl k Ha.length 0 (len + ys.length)) (Ha' := Ha.set n none ++ [some (cs.take (len * k) ++ news)]) hm h hg hk (by simp only [mB,fc,n1,hx.ev,CZ,fB,e2,q8,c1,if_pos (⟨trivial,hlk,hl,n4⟩ : True /\ len * k <= cs.length /\ len + ys.length <= kR /\ bq news = true)]; rfl)) fun v' w' φ' r hh ad => ?_;have YR : ∀ m,m ≠ n -> aJ (Ha.set n none) m = aJ Ha m := fun m Dt => by unfold aJ; rw [List.getElem?_set_ne (Ne.symm Dt)]
  have kG : ∀ m,m ≠ n -> m < Ha.length -> aJ (Ha.set n none ++ [some (cs.take (len * k) ++ news)]) m = aJ Ha m := fun m Dt bz => by
   rw [ka,if_neg (by simp; omega),YR m Dt]
  have iE : eF X φ' w' N (setAt (bY (sw p) s) p .any) (Ha.set n none ++ [some (cs.take (len * k) ++ news)]) (tm a) := by
   refine d1.nI ad hh (fun q k' zs e => ?_) (fun b Hm => ?_)
   ·have e' := e;rw [d2] at e';split at e'
    ·cases e'
    rename_i nS;refine (d1.own q k' zs e).same fun m hmq => kG m ?_ ?_
    ·rintro rfl;exact nS (h.inj q p m (by rw [e']; rfl) (by rw [hp]; rfl) hmq hn)
    ·exact h.iO (by rw [e']; rfl) hmq
   ·have KX : (aJ s.H b).isSome := by
     cases e : aJ s.H b with
     | none => rw [d3.CY b e] at Hm; cases Hm
     | some _ => rfl
    refine kG _ ?_ (h.qX KX);intro e;exact h.bx b p KX (by rw [hp]; rfl) (by rw [hn,e])
  have Nh : (xs.take len ++ ys).length = len + ys.length := by simp; omega
  have htk : ∀ z ∈ xs.take len,z.cells.length = k := fun z hz => c3 z (cP hz);refine dS.fresh iE zX (n := Ha.length) ⟨cs.take (len * k) ++ news,by rw [ka,if_pos (by simp)],?_,?_,?_⟩ (fun q hq e => ?_) (fun b Hm e => ?_) (by rw [Nh]; exact r)
  ·rw [Nh,bX,cM,bu,n2]; omega
  ·intro z hz;rcases aD.1 hz with hz | hz
   ·exact htk z hz
   ·exact n3 z hz
  ·intro i d hd;rw [kg,wJ c3] at hd
   have hlt1 : ((aG xs).take (len * k)).length = len * k := by
    have := j9 c3;have : len * k <= xs.length * k := bG k hle;rw [bu]; omega
   rw [List.getElem?_append] at hd;rw [hlt1] at hd;split at hd
   ·rename_i hi;rw [bB,if_pos hi] at hd;obtain ⟨f1,e,f2,f3,f4⟩ := c4 i d hd;exact ⟨f1,e,by rw [ak (by simp; omega),bB,if_pos hi]; exact f2,f3,f4⟩
   ·rename_i hi;obtain ⟨f1,e,f2,f3,f4⟩ := n5 _ d hd;refine ⟨f1,e,?_,f3,f4⟩;rw [aN (by simp; omega)];rw [bu,Nat.min_eq_left hlk];exact f2
  ·have hq' : (av s q).isSome := by
    rw [d2] at hq;split at hq
    ·cases hq
    ·exact hq
   have := h.iO hq' e;omega
  ·have KX : (aJ s.H b).isSome := by
    cases e : aJ s.H b with
    | none => rw [d3.CY b e] at Hm; cases Hm
    | some _ => rfl
   have := h.qX KX;omega
 ·rw [hn] at eW;have hxs : xs = [] := eW;subst hxs;subst Ng
  have simq : ∀ {φ' w' Ha'},eZ φ w φ' w' -> b8 X φ' w' Ha' -> (∀ m,m < Ha.length -> aJ Ha' m = aJ Ha m) -> eF X φ' w' N (setAt (bY (sw p) s) p .any) Ha' (tm a) := by
   intro φ' w' Ha' ad hh kG;refine d1.nI ad hh (fun q k' zs e => ?_) (fun b Hm => ?_)
   ·exact (d1.own q k' zs e).same fun m hmq => kG m (d1.iO (by rw [e]; rfl) hmq)
   ·exact kG _ (d1.qX Hm)
  by_cases h0 : ys.length = 0
  ·have : ys = [] := di h0;subst this;refine mF.of (mS (va := .dn) (Ha' := Ha) hm h hg hk (by simp only [mB,fc,n1,hx.ev,CZ,fB,e2,mH,if_true]; rfl)) fun v' w' φ' r hh ad => ?_;exact dS.quiet (simq ad hh fun _ _ => rfl) zX trivial (by simp [EO]) r
  ·have hl' : ys.length <= kR := by omega
   refine mF.of (mS (va := .sl k Ha.length 0 ys.length) (Ha' := Ha ++ [some news]) hm h hg hk (by simp only [mB,fc,n1,hx.ev,CZ,fB,e2,if_neg h0,if_pos (⟨hl',n4⟩ : ys.length <= kR /\ bq news = true)]; rfl)) fun v' w' φ' r hh ad => ?_;have iE := simq ad hh fun m bz => by rw [ka,if_neg (by omega)]
   refine dS.fresh iE zX (n := Ha.length) ⟨news,GC _ _,by simp; omega,by simpa using n3,by simpa using n5⟩ (fun q hq e => ?_) (fun b Hm e => ?_) (by simpa using r)
   ·have := d1.iO hq e; omega
   ·have := d1.qX Hm; omega
end
end Go.Bm

/- Stores and clearing. -/
namespace Go.Bm
open Go.Am
mutual
theorem SO {o o' : Rt -> Option (Nat × List AV)} {nb : Nat} (ho : ∀ p k xs,o p = some (k,xs) -> ∃ ys,o' p = some (k,ys) /\ xs.length <= ys.length) : ∀ x,cD o nb x -> cD o' nb x
 | .c8 k p off len,h => by simp only [cD] at h ⊢; obtain ⟨xs,e,h2⟩ := h; obtain ⟨ys,e2,h3⟩ := ho p k xs e; exact ⟨ys,e2,by omega⟩
 | .ez k p i off,h => by simp only [cD] at h ⊢; obtain ⟨xs,e,h2⟩ := h; obtain ⟨ys,e2,h3⟩ := ho p k xs e; exact ⟨ys,e2,by omega⟩
 | .ptr b off,h => h
 | .agg cs,h => by simp only [cD] at h ⊢; exact zD ho cs h
 | .dp cs,h => by simp only [cD] at h ⊢; exact zD ho cs h
 | .func f a b,h => by simp only [cD] at h ⊢; exact ⟨zD ho a h.1,zD ho b h.2⟩
 | .any,_ => trivial
 | .undef,_ => trivial
 | .eP,_ => trivial
 | .eT,_ => trivial
 | .dn,_ => trivial
 | .int _ _,_ => trivial
 | .bool _,_ => trivial
 | .str _,_ => trivial
 | .list _ _,_ => trivial
 | .dh _,_ => trivial
 | .own _ _,_ => trivial
 | .sl _ _ _ _,h => h
theorem zD {o o' : Rt -> Option (Nat × List AV)} {nb : Nat} (ho : ∀ p k xs,o p = some (k,xs) -> ∃ ys,o' p = some (k,ys) /\ xs.length <= ys.length) : ∀ cs,kF o nb cs -> kF o' nb cs
 | [],_ => trivial
 | x :: r,h => ⟨SO ho x h.1,zD ho r h.2⟩
end
theorem kP {l vs : List AV} {off : Nat} (h : off + vs.length <= l.length) (m : Nat) : (jK l off vs)[m]? = if m < off then l[m]? else if m < off + vs.length then vs[m - off]? else l[m]? := by
 unfold jK;have h1 : (l.take off).length = off := by simp; omega
 by_cases a : m < off
 ·rw [if_pos a,dI,ak (by omega),bB,if_pos a]
 ·rw [if_neg a];by_cases b : m < off + vs.length
  ·rw [if_pos b,dI,aN (by omega),h1,ak (by omega)]
  ·rw [if_neg b,aN (by simp; omega),aS];congr 1;simp; omega
section
variable {P : Program} {X : Nat -> Prop} {φ φ' : dq} {w w' : World} {N N' : Names} {s s1 : St} {Ha Ha' : Heap} {t : Nat -> Value} {B : Nat -> Nat} {base : Nat} {v va : AV} {v' : Value} {c : dR} {o : Oper} {a : Act} {kd : Kd}
theorem aal {p : Rt} {k : Nat} {xs xs' : List AV} (hp : av s p = some (k,xs)) (hl : xs'.length = xs.length) (i : Nat) : kJ N i (get (setAt s p (.own k xs')).env i) = kJ N i (get s.env i) := by
 have uc := bZ.1 hp;cases p with
 | s j =>
   simp only [at_,ai] at uc;simp only [setAt,bw];by_cases e : i = j
   ·subst e; rw [if_pos rfl,uc]; simp only [kJ,jR,hl]
   ·rw [if_neg e]
 | sc j l =>
   simp only [at_] at uc;cases hg : get s.env j <;> rw [hg] at uc <;> simp at uc
   rename_i ds;have hs : setAt s (.sc j l) (.own k xs') = ⟨put s.env j (.agg (ds.set l (.own k xs'))),s.H⟩ := by simp [setAt,hg]
   rw [hs];simp only [bw];by_cases e : i = j
   ·subst e;rw [if_pos rfl,hg];simp only [kJ];congr 1;apply dA;intro m;rw [fg,fg,bn];by_cases hm : l = m
    ·subst hm;rw [if_pos rfl,if_pos (aq uc),uc];simp only [cT,jR,hl]
    ·rw [if_neg hm]
   ·rw [if_neg e]
 | c b l =>
   simp only [at_] at uc;cases hg : aJ s.H b <;> rw [hg] at uc <;> simp at uc
   simp [setAt,hg]
theorem eF.upd (h : eF X φ w N s Ha t) {p : Rt} {k n : Nat} {xs xs' : List AV} (hp : av s p = some (k,xs)) (hn : N.ν p = some n) (hl : xs'.length = xs.length) (ad : eZ φ w φ' w') (hh : b8 X φ' w' Ha') (ho : p7 Ha' (some n) k xs') (hb : ∀ m,m ≠ n -> aJ Ha' m = aJ Ha m) :
  eF X φ' w' N (setAt s p (.own k xs')) Ha' t /\ Shape s (setAt s p (.own k xs')) := by
 have uc := bZ.1 hp;have nT : Fits s p (.own k xs') := ⟨(fun cs e => by cases e),_,uc,(fun cs e => by cases e)⟩;have jV := Shape.set nT;generalize hs' : setAt s p (.own k xs') = s' at jV ⊢
 have own : ∀ q,av s' q = if q = p then some (k,xs') else av s q := by
  refine wq jV (fun q hq => ?_) (fun q hq => ?_)
  ·have e : at_ s' q = if q = p then some (.own k xs') else at_ s q := by rw [<- hs']; exact BD nT hq
   by_cases nS : q = p
   ·rw [if_pos nS] at e ⊢; exact bZ.2 e
   ·rw [if_neg nS] at e ⊢; exact jh e
  ·rw [if_neg (by rintro rfl; exact hq (Ff (by rw [hp]; rfl)))];exact rL hq
 have hlen : ∀ q k' ys,av s q = some (k',ys) -> ∃ zs,av s' q = some (k',zs) /\ ys.length <= zs.length := by
  intro q k' ys e;rw [own];by_cases nS : q = p
  ·subst nS;rw [hp] at e;cases e;exact ⟨xs',by rw [if_pos rfl],by omega⟩
  ·exact ⟨ys,by rw [if_neg nS]; exact e,ba _⟩
 have oiff : ∀ {q},(av s' q).isSome -> (av s q).isSome := by
  intro q hq;rw [own] at hq;by_cases nS : q = p
  ·subst nS; rw [hp]; rfl
  ·rw [if_neg nS] at hq; exact hq
 have biff : ∀ {b},(aJ s'.H b).isSome -> (aJ s.H b).isSome := by
  intro b hb;cases e : aJ s.H b with
  | none => rw [jV.CY b e] at hb; cases hb
  | some _ => rfl
 have okk : ∀ r y,Lf s' r -> at_ s' r = some y -> cD (av s') s'.H.length y := by
  intro r y hr hy;obtain ⟨xf,x,hx⟩ := jV.back hr hy;have e : at_ s' r = if r = p then some (.own k xs') else at_ s r := by rw [<- hs']; exact BD nT xf
  rw [e] at hy;by_cases C3 : r = p
  ·rw [if_pos C3] at hy; cases hy; trivial
  ·rw [if_neg C3] at hy;rw [jV.len];exact SO hlen y (h.zC hy)
 obtain ⟨hk,hkc⟩ := Fk okk;refine ⟨⟨fun i => ?_,hk,hh,fun q k' ys e => ?_,fun b cs e => ?_,fun q r m e1 e2 e3 e4 => h.inj q r m (oiff e1) (oiff e2) e3 e4,fun b q e1 e2 e3 => h.bx b q (biff e1) (oiff e2) e3,fun b d e1 e2 e3 => h.bi b d (biff e1) (biff e2) e3⟩,jV⟩
 ·rw [<- hs',aal hp hl]; exact ad.rep (h.env i)
 ·rw [own] at e;by_cases nS : q = p
  ·subst nS;rw [if_pos rfl] at e;cases e;rw [hn];exact ho
  ·rw [if_neg nS] at e;refine (h.own q k' ys e).same fun m hm => hb m ?_;rintro rfl;exact nS (h.inj q p m (by rw [e]; rfl) (by rw [hp]; rfl) hm hn)
 ·cases KX : aJ s.H b with
  | none => rw [jV.CY b KX] at e; cases e
  | some VL =>
    obtain ⟨ds,q1,q2⟩ := jV.box b VL KX;rw [e] at q1; cases q1;obtain ⟨as,g1,g2,g3⟩ := h.box b VL KX;refine ⟨as,?_,by omega,fun j d hd => ⟨hkc b cs e j d hd,?_⟩⟩
    ·rw [hb]
     ·exact g1
     ·intro e3; exact h.bx b p (by rw [KX]; rfl) (by rw [hp]; rfl) (by rw [hn,e3])
    ·obtain ⟨d0,hd0⟩ := bg (l := VL) (i := j) (by have := aq hd; omega);obtain ⟨_,a',a1,a2⟩ := g3 j d0 hd0;refine ⟨a',a1,?_⟩;have e3 : at_ s' (.c b j) = if Rt.c b j = p then some (.own k xs') else at_ s (.c b j) := by rw [<- hs']; exact BD nT (fun i e => by cases e)
     rw [vL e,vL KX,hd,hd0] at e3;by_cases C3 : Rt.c b j = p
     ·rw [if_pos C3] at e3;cases e3
      have hat' : d0 = .own k xs := by
       rw [<- C3,vL KX,hd0] at uc;exact bU uc
      subst hat';simp only [jR,hl] at a2 ⊢;exact a2
     ·rw [if_neg C3] at e3;cases e3;exact a2
theorem Oo {k off : Nat} {x : AV} {vs : List AV} (hx : x.cells.length = k) (hf : off + vs.length <= k) : (LD k x off vs).cells = jK x.cells off vs := by
 unfold LD;split
 ·rename_i h;rw [rW];obtain ⟨rfl,hl⟩ := h;unfold jK;rw [N3 (by omega)];simp
 ·rw [rW]
theorem QD : ∀ {cs : List AV},U9 cs = true -> iD N cs = cs
 | [],_ => rfl
 | x :: r,h => by
   simp only [U9,aa] at h;simp only [iD];rw [QD h.2];have := (mO h.1).1;congr 1;cases x <;> first | exact lC N _ this | (simp [pl] at this; done)
theorem aeJ (hm : P.follows .mixedOrders = true) (h : SB X φ w B base s (tm a)) (hg : Am.dH (iW c) X φ w) {k k' i off : Nat} {x y : E} {p : Rt} {xs : List AV} {u : AV} (hk : cN P o.op (mB (.st k x y)) = true) (CZ : bp c s.env x = .ez k' p i off) (hp : av s p = some (k',xs)) (hu : xs[i]? = some u)
  (h1 : (bp c s.env y).cells.length = k) (h2 : off + k <= k') (h3 : U9 (bp c s.env y).cells = true) : mF P X φ w B base (setAt s p (.own k' (xs.set i (LD k' u off (bp c s.env y).cells)))) .undef o a := by
 obtain ⟨N,Ha,h,hb⟩ := h;obtain ⟨⟨o1,c1⟩,o2,c2⟩ := afv hk;have hx := cj (c := c) (cA := iW c) h rfl c1;have hy := cj (c := c) (cA := iW c) h rfl c2;have c6 := hx.ok;rw [CZ] at c6;obtain ⟨n,hn,e2⟩ := Fc h c6;have eW := h.own p k' xs hp;rw [hn] at eW;obtain ⟨cs,q1,q2,q3,q4⟩ := eW;generalize Lq : (bp c s.env y).cells = vs at h1 h3 ⊢;have kA : (Am.ev (iW c) (yF N s.env) (mC y)).cells = vs := by rw [hy.ev,Gw N hy.na,Lq,QD h3]
 have wE : bq vs = true := s7 fun z hz => (mO (nF h3 z hz)).2;have huk : u.cells.length = k' := q3 u (aW hu);have hilt := aq hu;have wF : (i + 1) * k' <= xs.length * k' := bG k' hilt;rw [bX] at wF;have nT : i * k' + off + k <= cs.length := by omega
 refine mF.of (mS (va := .undef) (Ha' := Ha.set n (some (jK cs (i * k' + off) vs))) hm h hg hk (by simp only [mB,fc,hx.ev,CZ,fB,e2,q1,kA,if_pos (⟨h1,nT,wE⟩ : vs.length = k /\ i * k' + off + k <= cs.length /\ bq vs = true)]; rfl)) fun v' w' φ' r hh ad => ?_;have PR := Oo (k := k') (off := off) (vs := vs) huk (by omega)
 have YX : p7 (Ha.set n (some (jK cs (i * k' + off) vs))) (some n) k' (xs.set i (LD k' u off vs)) := by
  refine ⟨jK cs (i * k' + off) vs,by rw [dD,if_pos ⟨rfl,dY q1⟩],?_,?_,?_⟩
  ·rw [dc,fk (by omega)]; exact q2
  ·intro z hz;rcases bP hz with hz | rfl
   ·exact q3 z hz
   ·rw [PR,fk (by omega),huk]
  ·have adn : ∀ z ∈ xs.set i (LD k' u off vs),z.cells.length = k' := by
    intro z hz;rcases bP hz with hz | rfl
    ·exact q3 z hz
    ·rw [PR,fk (by omega),huk]
   intro m d hd;obtain ⟨i',z,j,z1,z2,z3⟩ := (iR adn).2 m d hd;have hj : j < k' := by rw [<- adn z (aW z1)]; exact aq z2
   rw [bn] at z1;by_cases hii : i = i'
   ·subst hii;rw [if_pos rfl,if_pos hilt] at z1;cases z1;rw [PR,kP (by omega)] at z2
    have Is : u.cells[j]? = some d -> j < off \/ ¬ j < off + vs.length -> fz d = true /\ ∃ e,(jK cs (i * k' + off) vs)[m]? = some e /\ e.leaf = true /\ Le d e := by
     intro e hc;obtain ⟨f1,e',f2,f3,f4⟩ := q4 _ d (zZ q3 hu e);refine ⟨f1,e',?_,f3,f4⟩;rw [z3,kP (by omega)];rcases hc with hc | hc
     ·rw [if_pos (by omega)]; exact f2
     ·rw [if_neg (by omega),if_neg (by omega)]; exact f2
    split at z2
    ·rename_i hc; exact Is z2 (.inl hc)
    ·split at z2
     ·rename_i Tv G4;have hz := nF h3 d (aW z2);refine ⟨hz,d,?_,(mO hz).2,Le.refl _⟩;rw [z3,kP (by omega),if_neg (by omega),if_pos (by omega),show i * k' + j - (i * k' + off) = j - off by omega];exact z2
     ·rename_i Tv G4; exact Is z2 (.inr G4)
   ·rw [if_neg hii] at z1;obtain ⟨f1,e',f2,f3,f4⟩ := q4 _ d (zZ q3 z1 z2);refine ⟨f1,e',?_,f3,f4⟩;rw [z3,kP (by omega)];rcases Nat.lt_or_gt_of_ne hii with bz | hgt
    ·have : (i + 1) * k' <= i' * k' := bG k' bz;rw [bX] at this;rw [if_neg (by omega),if_neg (by omega)];exact f2
    ·have : (i' + 1) * k' <= i * k' := bG k' hgt;rw [bX] at this;rw [if_pos (by omega)];exact f2
 obtain ⟨iE,jV⟩ := h.upd (xs' := xs.set i (LD k' u off vs)) hp hn (by simp) ad hh YX (fun m Dt => by rw [dD,if_neg (fun e => Dt e.1)]);exact dS.quiet iE ⟨hb.1,by rw [jV.len]; exact hb.2⟩ trivial trivial r
end
end Go.Bm

/- Stores into boxes. -/
namespace Go.Bm
open Go.Am
section
variable {P : Program} {X : Nat -> Prop} {φ φ' : dq} {w w' : World} {N N' : Names} {s s' s1 : St} {Ha Ha' : Heap} {t t' : Nat -> Value} {B : Nat -> Nat} {base : Nat} {v va : AV} {v' : Value} {c : dR} {o : Oper} {a : Act} {kd : Kd}
theorem rO (i b off : Nat) : ∀ k p x l,du i b off (.c8 k p x l) = .c8 k (cE i b off p) x l /\ du i b off (.ez k p x l) = .ez k (cE i b off p) x l := fun _ _ _ _ => ⟨rfl,rfl⟩
theorem vZ (N : Names) (i : Nat) (v : AV) : (kJ N i v).cells.length = v.cells.length /\ ∀ (j : Nat) (d : AV),v.cells[j]? = some d -> (kJ N i v).cells[j]? = some (jR N (match v with
  | .agg _ => .sc i j
  | _ => .s i) d) := by
 by_cases ha : ∃ cs,v = .agg cs
 ·obtain ⟨cs,rfl⟩ := ha;simp only [kJ,AV.cells];exact ⟨iN _ _ _ _,fun j d hd => by rw [fg,hd]; simp⟩
 ·have hn : jX v := fun cs e => ha ⟨cs,e⟩;have e1 : kJ N i v = jR N (.s i) v := by cases v <;> first | rfl | exact absurd rfl (hn _)
  have e2 : v.cells = [v] := by cases v <;> first | rfl | exact absurd rfl (hn _)
  have e3 : (jR N (.s i) v).cells = [jR N (.s i) v] := by
   cases v <;> first
    | rfl
    | exact absurd rfl (hn _)
    | (rename_i k xs; simp only [jR,qP]; cases N.ν (.s i) <;> rfl)
    | (rename_i k p x l; simp only [jR,cF]; cases N.ν p <;> rfl)
  rw [e1,e2,e3];refine ⟨rfl,fun j d hd => ?_⟩;cases j with
  | zero =>
    simp at hd;subst hd;cases v <;> first | rfl | exact absurd rfl (hn _)
  | succ j => simp at hd
theorem FB {g : AV -> AV} (hg : kc g) (v : AV) : (cn g v).cells = cV g v.cells := by
 by_cases ha : ∃ cs,v = .agg cs
 ·obtain ⟨cs,rfl⟩ := ha;simp [cn,AV.cells]
 ·have hn : jX v := fun cs e => ha ⟨cs,e⟩;have hn2 := lg hg hn;have e2 : v.cells = [v] := by cases v <;> first | rfl | exact absurd rfl (hn _)
  rw [e2];simp only [cV];generalize cn g v = y at hn2;cases y <;> first | rfl | exact absurd rfl (hn2 _)
def pR (i : Nat) (v : AV) (j : Nat) : Rt :=
 match v with
 | .agg _ => .sc i j
 | _ => .s i
theorem Vv {i : Nat} {j : Nat} {d : AV} (h : (get s.env i).cells[j]? = some d) : at_ s (pR i (get s.env i) j) = some d := by
 by_cases ha : ∃ cs,get s.env i = .agg cs
 ·obtain ⟨cs,e⟩ := ha;rw [e] at h ⊢;simp only [pR];rw [GG e];exact h
 ·have hn : jX (get s.env i) := fun cs e => ha ⟨cs,e⟩
  have e2 : (get s.env i).cells = [get s.env i] := by
   generalize get s.env i = v at hn;cases v <;> first | rfl | exact absurd rfl (hn _)
  have e3 : pR i (get s.env i) j = .s i := by
   generalize get s.env i = v at hn;cases v <;> first | rfl | exact absurd rfl (hn _)
  rw [e2] at h;rw [e3];cases j with
  | zero => simp at h; rw [<- h]; rfl
  | succ j => simp at h
theorem eF.acm (h : eF X φ w N s Ha t) {i b off k : Nat} {cs as : List AV} (hb : aJ s.H b = some cs) (has : aJ Ha (N.β b) = some as) (hk : (get s.env i).cells.length = k) (nT : off + k <= cs.length)
  (hC : ∀ r x,at_ s r = some x -> ∀ p ∈ aK x,cJ b off k p = false)
  (ad : eZ φ w φ' w') (hh : b8 X φ' w' (Ha.set (N.β b) (some (jK as off (kJ N i (get s.env i)).cells))))
  (he : ∀ j,get s'.env j = if j = i then .any else cn (du i b off) (get s.env j)) (hH : s'.H = (fL (du i b off) s.H).set b (some (jK (cV (du i b off) cs) off (cn (du i b off) (get s.env i)).cells))) (ht : ∀ j,j ≠ i -> t' j = t j) :
  ∃ N',N'.β = N.β /\ eF X φ' w' N' s' (Ha.set (N.β b) (some (jK as off (kJ N i (get s.env i)).cells))) t' := by
 have hg := rO i b off;have hL := Ta i b off;generalize hv : get s.env i = v at *;obtain ⟨tc1,tc2⟩ := vZ N i v;have hblt := dY hb;have halt := dY has
 have hasl : as.length = cs.length := by
  obtain ⟨as',g1,g2,_⟩ := h.box b cs hb;rw [has] at g1; cases g1; exact g2
 have Lt : (cn (du i b off) v).cells = cV (du i b off) v.cells := FB hL v
 -- where a place of the new state comes from
 obtain ⟨u,hu1,YP⟩ : ∃ u : Rt -> Rt,(∀ j,off <= j -> j < off + k -> u (.c b j) = pR i v (j - off)) /\ ∀ q,cJ b off k q = false -> u q = q :=
  ⟨fun q => match q with
   | .c d j => if d = b /\ off <= j /\ j < off + k then pR i v (j - off) else .c d j
   | q => q,fun j h1 h2 => by simp [h1,h2],fun q hq => by
     cases q with
     | s j => rfl
     | sc j l => rfl
     | c d j =>
       simp only [cJ,Oi,decide_eq_false_iff_not] at hq;have : ¬ (d = b /\ off <= j /\ j < off + k) := by omega
       simp [this]⟩
 have blkH : ∀ d,aJ s'.H d = if d = b then some (jK (cV (du i b off) cs) off (cV (du i b off) v.cells)) else (aJ s.H d).map (cV (du i b off)) := by
  intro d;rw [hH,dD,eV,Lt,fA];by_cases e : d = b
  ·subst e; simp [hblt]
  ·simp [e]
 have atq : ∀ q,bt i q = false -> cJ b off k q = false -> at_ s' q = (at_ s q).map (cn (du i b off)) := by
  intro q h1 h2;cases q with
  | s j => simp only [bt,decide_eq_false_iff_not] at h1; simp [at_,he,h1]
  | sc j l =>
    simp only [bt,decide_eq_false_iff_not] at h1;have := jM hL s (.sc j l);simp only [at_,bY,de] at this;simp only [at_,he,if_neg h1];exact this
  | c d j =>
    simp only [at_,blkH];by_cases e : d = b
    ·subst e;simp only [if_true,hb];simp only [cJ,decide_true,Oh,Oi,decide_eq_false_iff_not] at h2;rw [kP (by rw [b6,b6,hk]; exact nT),b6,hk];by_cases c1 : j < off
     ·rw [if_pos c1,dU]
     ·rw [if_neg c1,if_neg (by omega),dU]
    ·simp only [if_neg e];cases aJ s.H d with
     | none => rfl
     | some ds => simp [dU]
 have atb : ∀ j,off <= j -> j < off + k -> at_ s' (.c b j) = (v.cells[j - off]?).map (cn (du i b off)) := by
  intro j h1 h2;simp only [at_,blkH,if_true];rw [kP (by rw [b6,b6,hk]; exact nT),b6,hk,if_neg (by omega),if_pos h2,dU]
 have ati : ∀ q,bt i q = true -> av s' q = none := by
  intro q hq;cases q with
  | s j => simp only [bt,decide_eq_true_eq] at hq; subst hq; unfold av; simp [at_,he]
  | sc j l => simp only [bt,decide_eq_true_eq] at hq; subst hq; unfold av; simp [at_,he]
  | c d j => simp [bt] at hq
 have cellAt : ∀ j d,v.cells[j]? = some d -> at_ s (pR i v j) = some d := fun j d hd => by
  have := Vv (s := s) (i := i) (j := j) (d := d) (by rw [hv]; exact hd)
  rwa [hv] at this
 have own : ∀ q k' xs,av s' q = some (k',xs) -> av s (u q) = some (k',xs) := by
  intro q k' xs e
  have hqi : bt i q = false := by
   cases e2 : bt i q with
   | true => rw [ati q e2] at e; cases e
   | false => rfl
  have e' := bZ.1 e;cases hq : cJ b off k q with
  | false =>
    rw [YP q hq];rw [atq q hqi hq] at e';cases ha : at_ s q with
    | none => rw [ha] at e'; cases e'
    | some x =>
      rw [ha] at e';simp only [cT,ai] at e';rw [vk hL] at e';subst e';exact bZ.2 ha
  | true =>
    cases q with
    | s j => simp [cJ] at hq
    | sc j l => simp [cJ] at hq
    | c d j =>
      simp only [cJ,aa,decide_eq_true_eq] at hq;obtain ⟨rfl,h1,h2⟩ := hq;rw [hu1 j h1 h2];rw [atb j h1 h2] at e';cases ha : v.cells[j - off]? with
      | none => rw [ha] at e'; cases e'
      | some x =>
        rw [ha] at e';simp only [cT,ai] at e';rw [vk hL] at e';subst e';exact bZ.2 (cellAt _ _ ha)
 have afN : (∃ ds,v = .agg ds) \/ (jX v /\ v.cells = [v] /\ ∀ j,pR i v j = .s i) := by
  by_cases ha : ∃ ds,v = .agg ds
  ·exact .inl ha
  ·have hn : jX v := fun ds e => ha ⟨ds,e⟩;refine .inr ⟨hn,?_,fun j => ?_⟩
   ·cases v <;> first | rfl | exact absurd rfl (hn _)
   ·cases v <;> first | rfl | exact absurd rfl (hn _)
 -- an owner that was, where it is now
 have Uw : ∀ p,(av s p).isSome -> cJ b off k p = false -> av s' (cE i b off p) = av s p /\ u (cE i b off p) = p := by
  intro p hp hc;obtain ⟨⟨k',xs⟩,e⟩ := aU.1 hp;have e' := bZ.1 e;cases YU : bt i p with
  | false =>
    have hm : cE i b off p = p := by
     cases p with
     | s j => simp only [bt,decide_eq_false_iff_not] at YU; simp [cE,YU]
     | sc j l => simp only [bt,decide_eq_false_iff_not] at YU; simp [cE,YU]
     | c d j => rfl
    rw [hm];refine ⟨?_,YP p hc⟩;rw [<- ji hL s p];exact jh (by rw [atq p YU hc,jM hL])
  | true =>
    cases p with
    | s j =>
      simp only [bt,decide_eq_true_eq] at YU;subst YU;simp only [at_,ai] at e';rw [hv] at e';subst e';have hk1 : k = 1 := by rw [<- hk]; rfl
      subst hk1;have hm : cE j b off (.s j) = .c b off := by simp [cE]
      rw [hm,hu1 off (ba _) (by omega)];refine ⟨?_,rfl⟩;rw [e];exact bZ.2 (by rw [atb off (ba _) (by omega)]; simp [AV.cells,cn])
    | sc j l =>
      simp only [bt,decide_eq_true_eq] at YU;subst YU;simp only [at_,hv] at e';split at e'
      case h_2 => cases e'
      rename_i ds;have hl : l < k := by rw [<- hk]; exact aq e'
      have hm : cE j b off (.sc j l) = .c b (off + l) := by simp [cE]
      rw [hm,hu1 (off + l) (by omega) (by omega)];refine ⟨?_,by simp [pR]⟩;rw [e];exact bZ.2 (by rw [atb (off + l) (by omega) (by omega)]; simp [AV.cells,e',cn])
    | c d j => simp [bt] at YU
 have back : ∀ q,(av s' q).isSome -> cE i b off (u q) = q := by
  intro q hq
  have hqi : bt i q = false := by
   cases e2 : bt i q with
   | true => rw [ati q e2] at hq; cases hq
   | false => rfl
  cases hc : cJ b off k q with
  | false =>
    rw [YP q hc];cases q with
    | s j => simp only [bt,decide_eq_false_iff_not] at hqi; simp [cE,hqi]
    | sc j l => simp only [bt,decide_eq_false_iff_not] at hqi; simp [cE,hqi]
    | c d j => rfl
  | true =>
    cases q with
    | s j => simp [cJ] at hc
    | sc j l => simp [cJ] at hc
    | c d j =>
      simp only [cJ,aa,decide_eq_true_eq] at hc;obtain ⟨rfl,h1,h2⟩ := hc;rw [hu1 j h1 h2];rcases afN with ⟨ds,rfl⟩ | ⟨_,Tv,hp1⟩
      ·simp only [pR,cE,if_true];rw [show off + (j - off) = j by omega]
      ·rw [hp1];have : k = 1 := by rw [<- hk,Tv]; rfl
       simp only [cE,if_true];rw [show off = j by omega]
 have hlen : s'.H.length = s.H.length := by rw [hH,dc,fA]
 obtain ⟨N',eE,hN⟩ : ∃ N' : Names,N'.β = N.β /\ ∀ q,N'.ν q = N.ν (u q) := ⟨⟨N.β,fun q => N.ν (u q)⟩,rfl,fun _ => rfl⟩;have mI : ∀ p,(av s p).isSome -> cJ b off k p = false -> N'.ν (cE i b off p) = N.ν p := fun p hp hc => by rw [hN,(Uw p hp hc).2]
 have ZZ : ∀ {r x},at_ s r = some x -> (∀ p ∈ aK x,N'.ν (cE i b off p) = N.ν p) /\ cD (av s') s'.H.length (cn (du i b off) x) := by
  intro r x hx;refine ⟨fun p hp => mI p (h.c8 hx p hp) (hC r x hx p hp),?_⟩;rw [hlen];exact Mw hg x (fun p hp => (Uw p (h.c8 hx p hp) (hC r x hx p hp)).1) (h.zC hx)
 have so : ∀ {q},(av s' q).isSome -> (av s (u q)).isSome := by
  intro q hq;obtain ⟨⟨k',xs⟩,e⟩ := aU.1 hq;rw [own q k' xs e]; rfl
 have sb : ∀ {d},(aJ s'.H d).isSome -> (aJ s.H d).isSome := by
  intro d hd;rw [blkH] at hd;by_cases e : d = b
  ·subst e; rw [hb]; rfl
  ·rw [if_neg e] at hd;cases e2 : aJ s.H d with
   | none => rw [e2] at hd; cases hd
   | some _ => rfl
 refine ⟨N',eE,⟨fun j => ?_,fun j => ?_,hh,fun q k' xs e => ?_,fun d ds e => ?_,fun p q n e1 e2 e3 e4 => ?_,fun d q e1 e2 e3 => ?_,fun d e e1 e2 e3 => ?_⟩⟩
 ·rw [he];by_cases Hh : j = i
  ·rw [if_pos Hh]; exact .any _ _
  ·rw [if_neg Hh,ht j Hh];rw [JG (N := N) (i := j) eE hg (by rw [hN,YP _ rfl]) (fun l => by rw [hN,YP _ rfl]) (ZZ (r := .s j) rfl).1];exact ad.rep (h.env j)
 ·rw [he];by_cases Hh : j = i
  ·rw [if_pos Hh]; trivial
  ·rw [if_neg Hh]; exact (ZZ (r := .s j) rfl).2
 ·have e2 := own q k' xs e;rw [hN];refine (h.own _ k' xs e2).same fun n hn => ?_;rw [dD,if_neg];rintro ⟨e3,_⟩;exact h.bx b (u q) (by rw [hb]; rfl) (by rw [e2]; rfl) (by rw [hn,e3])
 ·rw [blkH] at e;by_cases hd : d = b
  ·subst hd;rw [if_pos rfl] at e;cases e;refine ⟨jK as off (kJ N i v).cells,by rw [eE,dD,if_pos ⟨rfl,halt⟩],?_,fun j x hx => ?_⟩
   ·rw [fk (by rw [tc1,hk]; omega),fk (by rw [b6,b6,hk]; omega),b6,hasl]
   ·rw [kP (by rw [b6,b6,hk]; exact nT),b6,hk] at hx
    have outside : (cV (du i d off) cs)[j]? = some x -> cJ d off k (.c d j) = false -> (∀ hj : True,(jK as off (kJ N i v).cells)[j]? = as[j]?) -> cD (av s') s'.H.length x /\ ∃ a',(jK as off (kJ N i v).cells)[j]? = some a' /\ Le (jR N' (.c d j) x) a' := by
     intro hx hc hov;rw [dU] at hx;cases FW : cs[j]? with
     | none => rw [FW] at hx; cases hx
     | some x0 =>
       rw [FW] at hx;simp at hx;subst hx;obtain ⟨as2,g1,g2,g3⟩ := h.box d cs hb;rw [has] at g1; cases g1;obtain ⟨_,a',a1,a2⟩ := g3 j x0 FW;have qU := ZZ (r := .c d j) (x := x0) (by rw [vL hb]; exact FW);refine ⟨qU.2,a',by rw [hov trivial]; exact a1,?_⟩;rw [xt (N := N) (r := .c d j) eE hg (fun _ _ _ => by rw [hN,YP _ hc]) qU.1];exact a2
    split at hx
    ·rename_i c1;exact outside hx (by simp [cJ]; omega) (fun _ => by rw [kP (by rw [tc1,hk]; omega),if_pos c1])
    ·split at hx
     ·rename_i c1 c2;rw [dU] at hx;cases FW : v.cells[j - off]? with
      | none => rw [FW] at hx; cases hx
      | some x0 =>
        rw [FW] at hx;simp at hx;subst hx;have qU := ZZ (cellAt _ _ FW);refine ⟨qU.2,jR N (pR i v (j - off)) x0,?_,?_⟩
        ·rw [kP (by rw [tc1,hk]; omega),if_neg c1,if_pos (by rw [tc1,hk]; exact c2),tc2 _ _ FW];cases v <;> rfl
        ·rw [xt (N := N) (r := pR i v (j - off)) eE hg (fun _ _ _ => by rw [hN,hu1 j (by omega) c2]) qU.1];exact Le.refl _
     ·rename_i c1 c2;exact outside hx (by simp [cJ]; omega) (fun _ => by rw [kP (by rw [tc1,hk]; omega),if_neg c1,if_neg (by rw [tc1,hk]; exact c2)])
  ·rw [if_neg hd] at e;cases wG : aJ s.H d with
   | none => rw [wG] at e; cases e
   | some ds0 =>
     rw [wG] at e;simp at e;subst e;obtain ⟨as2,g1,g2,g3⟩ := h.box d ds0 wG;refine ⟨as2,?_,by rw [b6]; exact g2,fun j x hx => ?_⟩
     ·rw [eE,dD,if_neg]
      ·exact g1
      ·rintro ⟨e3,_⟩;exact hd (h.bi d b (by rw [wG]; rfl) (by rw [hb]; rfl) e3)
     ·rw [dU] at hx;cases FW : ds0[j]? with
      | none => rw [FW] at hx; cases hx
      | some x0 =>
        rw [FW] at hx;simp at hx;subst hx;obtain ⟨_,a',a1,a2⟩ := g3 j x0 FW;have qU := ZZ (r := .c d j) (x := x0) (by rw [vL wG]; exact FW);refine ⟨qU.2,a',a1,?_⟩;rw [xt (N := N) (r := .c d j) eE hg (fun _ _ _ => by rw [hN,YP _ (by simp [cJ,hd])]) qU.1];exact a2
 ·rw [hN] at e3 e4;have := h.inj _ _ n (so e1) (so e2) e3 e4;rw [<- back p e1,this,back q e2]
 ·rw [hN,eE] at e3;exact h.bx d _ (sb e1) (so e2) e3
 ·rw [eE] at e3;exact h.bi d e (sb e1) (sb e2) e3
end
end Go.Bm

/- Stores. -/
namespace Go.Bm
open Go.Am
section
variable {P : Program} {X : Nat -> Prop} {φ φ' : dq} {w w' : World} {N N' : Names} {s s' s1 : St} {Ha Ha' : Heap} {t t' : Nat -> Value} {B : Nat -> Nat} {base : Nat} {v va : AV} {v' : Value} {c : dR} {o : Oper} {a : Act} {kd : Kd}
theorem abI {op : Op} {k : Nat} {x y : E} (h : cN P op (.st k x y) = true) : ∃ ty xo yo,op = .store ty xo yo /\ mV P ty k = true /\ cZ xo x = true /\ cZ yo y = true := by
 unfold cN at h;split at h <;> simp_all
 exact ⟨_,_,_,⟨rfl,rfl,rfl⟩,h.1.1,h.1.2,h.2⟩
theorem HJ (h : eF X φ w N s Ha t) {i : Nat} (hl : bq (get s.env i).cells = true) : bq (kJ N i (get s.env i)).cells = true := by
 obtain ⟨h1,h2⟩ := vZ N i (get s.env i);refine s7 fun d hd => ?_;obtain ⟨j,hj⟩ := bA hd;obtain ⟨x,hx⟩ := bg (l := (get s.env i).cells) (i := j) (by have := aq hj; omega);rw [h2 j x hx] at hj;cases hj;have hxl := vQ hl x (aW hx);have c6 := Dm (vc (h.Hd i)) x (aW hx);by_cases ho : ∃ k xs,x = .own k xs
 ·obtain ⟨k,xs,rfl⟩ := ho;simp only [jR,qP];split <;> rfl
 ·have := KJ h hxl c6;cases x <;> first | exact this | exact absurd ⟨_,_,rfl⟩ ho
theorem CI : ∀ {ds : List AV},bI ds = false -> ∀ x ∈ ds,∀ k xs,x ≠ .own k xs
 | [],_,x,hx => by simp at hx
 | y :: r,h,x,hx => by
   intro k xs e;subst e;obtain ⟨j,hj⟩ := bA hx;exact yq h j k xs hj
theorem D3 {b off k : Nat} {cs : List AV} (hb : aJ s.H b = some cs) (ho : bI ((cs.drop off).take k) = false) {p : Rt} (hp : (av s p).isSome) : cJ b off k p = false := by
 cases p with
 | s j => rfl
 | sc j l => rfl
 | c d j =>
   cases e : cJ b off k (.c d j) with
   | false => rfl
   | true =>
     simp only [cJ,aa,decide_eq_true_eq] at e;obtain ⟨rfl,h1,h2⟩ := e;obtain ⟨⟨k',xs⟩,e2⟩ := aU.1 hp;have e3 := bZ.1 e2;rw [vL hb] at e3;refine absurd rfl (CI ho (.own k' xs) ?_ k' xs);refine aW (i := j - off) ?_;rw [bB,if_pos (by omega),aS,show off + (j - off) = j by omega];exact e3
theorem Mv (hm : P.follows .mixedOrders = true) (h : SB X φ w B base s (tm a)) (hg : Am.dH (iW c) X φ w) {k b off : Nat} {x y : E} {f : Fq} (hk : cN P o.op (mB (.st k x y)) = true) (CZ : bp c s.env x = .ptr b off) (hs : wX s b off k (bp c s.env y) = some (s',f)) : mF P X φ w B base s' .undef o a := by
 obtain ⟨N,Ha,h,hbB,Zh⟩ := h;obtain ⟨ty,xo,yo,eK,oS,c1,c2⟩ := abI hk;have hx := cj (c := c) (cA := iW c) h rfl c1;have hy := cj (c := c) (cA := iW c) h rfl c2;have he : n7 X φ w (yF N s.env) a.tmps := fun i => by rw [mz]; exact h.env i
 have rx := bQ (a := a) he hg c1;have ry := bQ (a := a) he hg c2;rw [hx.ev,CZ] at rx;rw [hy.evQ] at ry;simp only [fB,cF] at rx;have hpo : dS X φ w N.β s.H.length s (bp c s.env y) (tm a) (a.eval yo) := dS.quiet h ⟨fun _ _ => rfl,ba _⟩ hy.ok hy.EO ry;generalize bp c s.env y = v at *;unfold wX at hs;split at hs
 case h_2 => cases hs
 rename_i cs dx;split at hs
 case isFalse => cases hs
 rename_i agN;obtain ⟨q1,q2,q3⟩ := agN;have hblt := dY dx;split at hs
 ·split at hs
  case h_2 => cases hs
  rename_i Np;split at hs
  case h_2 => cases hs
  rename_i s2 hh;simp at hs;obtain ⟨rfl,_⟩ := hs;obtain ⟨n8,IQ,ad1⟩ := SB.eH b k off (hpo.put eL Np);generalize eH b off k ⟨put s.env eL v,s.H⟩ = s1 at hh IQ;obtain ⟨N1,Ha1,iE,zX,hl1⟩ := IQ;have hL := Ta eL b off;unfold bV at hh;split at hh
  case h_2 => cases hh
  rename_i cs2 Nj;split at hh
  case isFalse => cases hh
  rename_i G4;obtain ⟨r1,r2,r3,r4⟩ := G4;simp at hh;subst hh;simp only [bY,eV,de] at Nj r1 r2 r3 r4 ⊢;cases Zf : aJ s1.H b with
  | none => rw [Zf] at Nj; cases Nj
  | some cs1 =>
    rw [Zf] at Nj;simp at Nj;subst Nj;rw [FB hL] at r1 r4;rw [b6] at r1 r2
    have wE : bq (get s1.env eL).cells = true := by
     refine s7 fun d hd => ?_;obtain ⟨j,hj⟩ := bA hd;have := vQ r4 (cn (du eL b off) d) (aW (i := j) (by rw [dU,hj]; rfl));cases d <;> first | rfl | exact this
    have jH : bI ((cs1.drop off).take k) = false := by
     have key : ∀ {l : List AV},bI (cV (du eL b off) l) = false -> bI l = false := by
      intro l
      induction l with
      | nil => intro _; rfl
      | cons z r ih =>
        intro h;simp only [cV] at h;cases z <;> simp [cn,du,bI] at h ⊢ <;> exact ih h
     apply key
     have : (cV (du eL b off) cs1).drop off = cV (du eL b off) (cs1.drop off) := by
      apply dA; intro j; rw [aS,dU,dU,aS]
     rw [this] at r3
     have h2 : (cV (du eL b off) (cs1.drop off)).take k = cV (du eL b off) ((cs1.drop off).take k) := by
      apply dA; intro j; rw [bB,dU,dU,bB]; split <;> rfl
     rw [h2] at r3;exact r3
    obtain ⟨as,g1,g2,g3⟩ := iE.box b cs1 Zf;have hβ1 : N1.β b = N.β b := zX b hblt;refine mF.ghost ad1 ?_;have c6 := XX (P := P) eK iE.heap g1 oS (by rw [hβ1]; exact ad1.rep rx) (by have := iE.env eL; simp only [if_true] at this; exact this) (by rw [(vZ N1 eL _).1]; exact r1) (by omega) (HJ iE wE);refine mF.of c6 fun v' w' φ' r hh ad => ?_
    obtain ⟨N',e1,OA⟩ := iE.acm (i := eL) (b := b) (off := off) (k := k) (s' := ⟨put (kf (du eL b off) s1.env) eL .any,(fL (du eL b off) s1.H).set b (some (jK (cV (du eL b off) cs1) off (cn (du eL b off) (get s1.env eL)).cells))⟩) (t' := tm a)
     Zf g1 r1 r2 (fun rr z hz p hp => D3 Zf jH (iE.c8 hz p hp)) ad hh (fun j => by simp only [bw,de]) rfl (fun j hj => by simp [hj])
    refine dS.quiet OA ⟨fun d hd => ?_,?_⟩ trivial trivial r
    ·rw [e1,zX d (by omega)]; exact hbB d hd
    ·simp only [dc,fA]; omega
 ·rename_i adl;simp at hs;obtain ⟨rfl,_⟩ := hs;obtain ⟨i,hi,_⟩ := IX s.env [];obtain ⟨N1,Ha1,iE,zX,hl1⟩ := hpo.put i hi;have hio : bJ (get s.env i) = false := by rw [hi]; rfl
  obtain ⟨as,g1,g2,g3⟩ := iE.box b cs dx;have hβ1 : N1.β b = N.β b := zX b hblt;have gi : get (put s.env i v) i = v := by rw [bw,if_pos rfl]
  have wE : bq (get (put s.env i v) i).cells = true := by rw [gi]; exact q3
  have MH : ∀ {p},(av s p).isSome -> cE i b off p = p := by
   intro p hp;have := sZ hio hp;cases p with
   | s j => simp only [bt,decide_eq_false_iff_not] at this; simp [cE,this]
   | sc j l => simp only [bt,decide_eq_false_iff_not] at this; simp [cE,this]
   | c d j => rfl
  have c6 := XX (P := P) eK iE.heap g1 oS (by rw [hβ1]; exact rx) (by have := iE.env i; simp only [if_true] at this; exact this) (by rw [(vZ N1 i _).1,gi]; exact q1) (by omega) (HJ iE wE);refine mF.of c6 fun v' w' φ' r hh ad => ?_
  have hnoC : ∀ r z,at_ ⟨put s.env i v,s.H⟩ r = some z -> ∀ p ∈ aK z,cJ b off k p = false := by
   intro r z hz p hp;simp only [aa,not_and,G6] at adl;cases hod : bI ((cs.drop off).take k) with
   | false => exact D3 (s := ⟨put s.env i v,s.H⟩) dx hod (iE.c8 hz p hp)
   | true =>
     have hn := adl hod;simp only [GL,eM] at hn;cases r with
     | s j =>
       simp only [at_,bw,ai] at hz;subst hz;split at hp
       ·exact kb hn.1 p hp
       ·exact pW hn.2.1 j p hp
     | sc j l =>
       simp only [at_,bw] at hz;split at hz
       ·rename_i ds nE;split at nE
        ·subst nE;exact kb hn.1 p (by simp only [aK]; exact kO hz hp)
        ·exact pW hn.2.1 j p (by rw [nE]; simp only [aK]; exact kO hz hp)
       ·cases hz
     | c d l =>
       simp only [at_] at hz;split at hz
       ·rename_i ds nE;exact s5 hn.2.2 d ds nE p (kO hz hp)
       ·cases hz
  obtain ⟨N',e1,OA⟩ := iE.acm (i := i) (b := b) (off := off) (k := k) (s' := ⟨s.env,s.H.set b (some (jK cs off v.cells))⟩) (t' := tm a) dx g1 (by rw [gi]; exact q1) q2 hnoC ad hh
   (fun j => by
    simp only [bw];by_cases hj : j = i
    ·rw [if_pos hj,hj]; exact hi
    ·rw [if_neg hj,if_neg hj,qB (rO i b off) _ (fun p hp => MH (h.c8 (r := .s j) rfl p hp))])
   (by
    simp only [gi]
    rw [Dn (rO i b off) s.H (fun d ds hd p hp => MH (by
     obtain ⟨j,z,h1,h2⟩ := K8 hp;exact h.c8 (r := .c d j) (by rw [vL hd]; exact h1) p h2)),
     pH (rO i b off) cs (fun p hp => MH (by
     obtain ⟨j,z,h1,h2⟩ := K8 hp;exact h.c8 (r := .c b j) (by rw [vL dx]; exact h1) p h2)),
     qB (rO i b off) v (fun p hp => MH (A0 v hpo.ok p hp))])
   (fun j hj => by simp [hj])
  refine dS.quiet OA ⟨fun d hd => ?_,?_⟩ trivial trivial r
  ·rw [e1,zX d (by omega)]; exact hbB d hd
  ·simp only [dc]; omega
end
end Go.Bm

/- Every operation that calls nothing. -/
namespace Go.Bm
open Go.Am
def mw : Kd -> Bool
 | .call _ _ => true
 | .jm _ _ => true
 | _ => false
section
variable {P : Program} {X : Nat -> Prop} {φ φ' : dq} {w w' : World} {N N' : Names} {s s' s1 : St} {Ha Ha' : Heap} {t t' : Nat -> Value} {B : Nat -> Nat} {base : Nat} {v va : AV} {v' : Value} {c : dR} {o : Oper} {a : Act} {kd : Kd} {call : Nat -> List AV -> Heap -> Option (AV × Heap)}
theorem SN (hm : P.follows .mixedOrders = true) (h : SB X φ w B base s (tm a)) (hg : Am.dH (iW c) X φ w) {k : Nat} {zs : List AV} {x : E} (hk : cN P o.op (mB (.Vh k zs x)) = true) (CZ : (∃ k',bp c s.env x = .own k' []) \/ ∃ k',bp c s.env x = .list k' []) : mF P X φ w B base s .undef o a := by
 obtain ⟨N,Ha,h,hb⟩ := h;obtain ⟨_,o1,h1⟩ := abW hk;have hx := cj (c := c) (cA := iW c) h rfl h1;refine mF.of (mS (va := .undef) (Ha' := Ha) hm h hg hk (fl := .wr Ha.length []) ?_) fun v' w' φ' r hh ad => ?_
 ·rcases CZ with ⟨k',e⟩ | ⟨k',e⟩ <;> simp only [mB,fc,hx.ev,e,fB,cF]
 ·exact dS.quiet (h.nI ad hh h.own (fun _ _ => rfl)) hb trivial trivial r
theorem aa7 (hm : P.follows .mixedOrders = true) (h : SB X φ w B base s (tm a)) (hg : Am.dH (iW c) X φ w) {n m b off : Nat} {x : E} {hi : Option E} {cs : List AV} (hk : cN P o.op (mB (.Hw n x hi)) = true) (e1 : bp c s.env x = .ptr b off) (wG : yC c s.env n n hi = some m) (hbk : aJ s.H b = some cs) (hl : off + n <= cs.length) : mF P X φ w B base s (.sl 1 b off m) o a := by
 obtain ⟨N,Ha,h,hb⟩ := h;obtain ⟨⟨o1,h1⟩,h2⟩ := TH hk;have hx := cj (c := c) (cA := iW c) h rfl h1;have g2 := Qi (cA := iW c) h rfl h2 wG;obtain ⟨as,a1,a2,_⟩ := h.box b cs hbk;refine mF.of (mS (va := .sl 1 (N.β b) off m) (Ha' := Ha) hm h hg hk (fl := .rd (N.β b)) ?_) fun v' w' φ' r hh ad => ?_
 ·simp only [mB,fc,hx.ev,e1,fB,cF,g2,a1,a2];rw [if_pos hl]
 ·exact dS.quiet (h.nI ad hh h.own (fun _ _ => rfl)) hb (dY hbk) trivial r
theorem Zt {k off : Nat} {xs ys : List AV} (h1 : ∀ x ∈ xs,x.cells.length = k) (h2 : ∀ y ∈ ys,y.cells.length = k) : aG (jK xs off ys) = jK (aG xs) (off * k) (aG ys) := by
 unfold jK;rw [kg,kg,wJ h1,I8 h1,j9 h2,bX]
theorem X2 (hm : P.follows .mixedOrders = true) (h : SB X φ w B base s (tm a)) (hg : Am.dH (iW c) X φ w) {k off n : Nat} {x y : E} (hk : cN P o.op (mB (.copy k x y)) = true) {p : Rt} {xs ys : List AV} (CZ : bp c s.env x = .c8 k p off n) (hp : av s p = some (k,xs)) (hle : off + n <= xs.length) (hn0 : n ≠ 0) (hy : cont s k (bp c s.env y) = some ys) (wE : bq (aG ys) = true) : mF P X φ w B base (setAt s p (.own k (jK xs off (ys.take (min ys.length n))))) (.int .i64 (min ys.length n : Nat)) o a := by
 obtain ⟨N,Ha,h,hb⟩ := h;obtain ⟨⟨o1,h1⟩,o2,h2⟩ := NL hk;have hx := cj (c := c) (cA := iW c) h rfl h1;have c6 := hx.ok;rw [CZ] at c6;obtain ⟨news,n1,n2,n3,n4,n5⟩ := Dz h hg h2 hy wE;have eW := h.own p k xs hp;rcases qY h c6 with ⟨b,hn,e2⟩ | ⟨_,_,Ng,_⟩
 case inr => exact absurd Ng hn0
 rw [hn] at eW;obtain ⟨cs,q1,q2,q3,q4⟩ := eW
 have hlk : off * k + n * k <= cs.length := by
  have := bG k hle;rw [bX] at this; omega
 generalize hm2 : min ys.length n = m;have hm3 : m <= n /\ m <= ys.length := by omega
 have hmk : m * k <= n * k := bG k hm3.1
 have hml : (news.take (m * k)).length = m * k := by
  rw [bu,n2];have := bG k hm3.2;omega
 have Lr : ∀ z ∈ ys.take m,z.cells.length = k := fun z hz => n3 z (cP hz);have hfl : aG (ys.take m) = (aG ys).take (m * k) := wJ n3 m;have hyl : (ys.take m).length = m := by rw [bu]; omega
 have hfl2 : (aG (ys.take m)).length = m * k := by rw [j9 Lr,hyl]
 have hxk : off * k + m * k <= (aG xs).length := by
  rw [j9 q3];have := bG k hle;rw [bX] at this; omega
 refine mF.of (mS (va := .int .i64 (m : Nat)) (Ha' := Ha.set b (some (jK cs (off * k) (news.take (m * k))))) hm h hg hk (fl := .wr Ha.length [b]) ?_) fun v' w' φ' r hh ad => ?_
 ·simp only [mB,fc,n1,hx.ev,CZ,fB,e2,q1,hm2];rw [if_pos ⟨trivial,hlk,n4⟩]
 have YX : p7 (Ha.set b (some (jK cs (off * k) (news.take (m * k))))) (some b) k (jK xs off (ys.take m)) := by
  refine ⟨jK cs (off * k) (news.take (m * k)),by rw [dD,if_pos ⟨rfl,dY q1⟩],?_,?_,?_⟩
  ·rw [fk (by rw [hyl]; omega),fk (by rw [hml]; omega)]; exact q2
  ·intro z hz;unfold jK at hz;simp only [aD] at hz;rcases hz with (hz | hz) | hz
   ·exact q3 z (cP hz)
   ·exact Lr z hz
   ·exact q3 z (cQ hz)
  ·intro i d hd;rw [Zt q3 Lr,kP (by rw [hfl2]; exact hxk),hfl2] at hd;rw [kP (by rw [hml]; omega),hml];split
   ·rename_i hc; rw [if_pos hc] at hd; exact q4 i d hd
   ·rename_i hc;rw [if_neg hc] at hd;split
    ·rename_i G4;rw [if_pos G4,hfl,bB,if_pos (by omega)] at hd;obtain ⟨f1,e,f2,f3,f4⟩ := n5 _ d hd;exact ⟨f1,e,by rw [bB,if_pos (by omega)]; exact f2,f3,f4⟩
    ·rename_i G4; rw [if_neg G4] at hd; exact q4 i d hd
 obtain ⟨iE,jV⟩ := h.upd (xs' := jK xs off (ys.take m)) hp hn (fk (by rw [hyl]; omega)) ad hh YX (fun m' Dt => by rw [dD,if_neg (fun e => Dt e.1)]);exact dS.quiet iE ⟨hb.1,by rw [jV.len]; exact hb.2⟩ trivial trivial r
theorem X3 (hm : P.follows .mixedOrders = true) (h : SB X φ w B base s (tm a)) (hg : Am.dH (iW c) X φ w) {k off : Nat} {x y : E} (hk : cN P o.op (mB (.copy k x y)) = true) {p : Rt} {ys : List AV} (CZ : bp c s.env x = .c8 k p off 0) (hy : cont s k (bp c s.env y) = some ys) (wE : bq (aG ys) = true) : mF P X φ w B base s (.int .i64 0) o a := by
 obtain ⟨N,Ha,h,hb⟩ := h;obtain ⟨⟨o1,h1⟩,o2,h2⟩ := NL hk;have hx := cj (c := c) (cA := iW c) h rfl h1;have c6 := hx.ok;rw [CZ] at c6;obtain ⟨news,n1,n2,n3,n4,n5⟩ := Dz h hg h2 hy wE;rcases qY h c6 with ⟨b,hn,e2⟩ | ⟨_,_,_,e2⟩
 ·simp only [cD] at c6;obtain ⟨xs,hp,hle⟩ := c6;have eW := h.own p k xs hp;rw [hn] at eW;obtain ⟨cs,q1,q2,q3,q4⟩ := eW
  have hlk : off * k + 0 * k <= cs.length := by
   have := bG k hle;rw [bX] at this; omega
  refine mF.of (mS (va := .int .i64 0) (Ha' := Ha) hm h hg hk (fl := .wr Ha.length [b]) ?_) fun v' w' φ' r hh ad => dS.quiet (h.nI ad hh h.own (fun _ _ => rfl)) hb trivial trivial r;have he : jK cs (off * k) [] = cs := by unfold jK; simp
  have YR : Ha.set b (some cs) = Ha := by
   apply dA;intro i;rw [bn];split
   ·rename_i hbi; subst hbi; rw [if_pos (dY q1)]; exact (vK q1).symm
   ·rfl
  simp only [mB,fc,n1,hx.ev,CZ,fB,e2,q1];rw [if_pos ⟨trivial,hlk,n4⟩];simp [he,YR]
 ·refine mF.of (mS (va := .int .i64 0) (Ha' := Ha) hm h hg hk (fl := .wr Ha.length []) ?_) fun v' w' φ' r hh ad => dS.quiet (h.nI ad hh h.own (fun _ _ => rfl)) hb trivial trivial r;simp only [mB,fc,n1,hx.ev,CZ,fB,e2]
theorem aaW {f : Fq} (h1 : mw kd = false) (h2 : eR c call s kd = some (v,s',f)) : (Pc c s.env kd = some v /\ s' = s) \/ (∃ zs,kd = .new zs) \/ (∃ x,kd = .box x) \/ (∃ k n zs ps,kd = .c5 k n zs ps) \/ (∃ k zs l cp,kd = .KF k zs l cp) \/ (∃ ag x,kd = .ld ag x) \/ (∃ k x y,kd = .st k x y) \/ (∃ k zs x,kd = .Vh k zs x) \/ (∃ k x y,kd = .app k x y) \/ (∃ n x hi,kd = .Hw n x hi) \/ (∃ k x y,kd = .copy k x y) := by
 cases kd <;> simp only [eR] at h2 <;> first
  | (left
     split at h2
     ·rename_i u hu;simp only [ai,aF] at h2;obtain ⟨rfl,rfl,_⟩ := h2;exact ⟨hu,rfl⟩
     ·cases h2)
  | (right; simp; done)
  | (simp [mw] at h1; done)
theorem aeG (hm : P.follows .mixedOrders = true) (h : SB X φ w B base s (tm a)) (hg : Am.dH (iW c) X φ w) {f : Fq} (hk : cN P o.op (mB kd) = true) (hnc : mw kd = false) (hs : eR c call s kd = some (v,s',f)) : mF P X φ w B base s' v o a := by
 rcases aaW hnc hs with ⟨h1,rfl⟩ | ⟨zs,rfl⟩ | ⟨x,rfl⟩ | ⟨k,n,zs,ps,rfl⟩ | ⟨k,zs,l,cp,rfl⟩ | ⟨ag,x,rfl⟩ | ⟨k,x,y,rfl⟩ | ⟨k,zs,x,rfl⟩ | ⟨k,x,y,rfl⟩ | ⟨n,x,hi,rfl⟩ | ⟨k,x,y,rfl⟩
 ·exact SK hm h hg hk h1
 ·simp only [eR,ai,aF] at hs;obtain ⟨rfl,rfl,_⟩ := hs;exact Pd hm h hg hk
 ·simp only [eR] at hs;split at hs
  case isFalse => cases hs
  rename_i hl;simp only [ai,aF] at hs;obtain ⟨rfl,rfl,_⟩ := hs;exact aa6 hm h hg hk hl
 ·simp only [eR] at hs;split at hs
  case h_2 => cases hs
  rename_i cs hf;split at hs
  case isFalse => cases hs
  rename_i hz;simp only [ai,aF] at hs;obtain ⟨rfl,rfl,_⟩ := hs;obtain ⟨n8,h1,a1⟩ := SB.dC (fF c s.env ps) h;exact mF.ghost a1 (Pg hm h1 (hg.nI a1) hk hf hz)
 ·simp only [eR] at hs;split at hs
  case h_2 => cases hs
  rename_i k1 l' k2 cp' e1 e2;split at hs
  case isFalse => cases hs
  rename_i hc;split at hs
  ·rename_i z hz;simp only [ai,aF] at hs;obtain ⟨rfl,rfl,_⟩ := hs;exact aa1 hm h hg hk hz e1 e2 hc
  ·simp only [ai,aF] at hs;obtain ⟨rfl,rfl,_⟩ := hs;exact aa2 hm h hg hk e1 e2 hc
 ·simp only [eR] at hs;split at hs
  case h_2 => cases hs
  rename_i u ps hp;split at hs
  case isFalse => cases hs
  simp only [ai,aF] at hs;obtain ⟨rfl,rfl,_⟩ := hs;exact aeR hm h hg hk hp
 ·simp only [eR] at hs;split at hs
  ·rename_i k' p i off e0;split at hs
   case h_2 => cases hs
   rename_i s2 f2 h2;simp only [ai,aF] at hs;obtain ⟨rfl,rfl,_⟩ := hs;obtain ⟨n8,h1,a1⟩ := SB.dC (aK (bp c s.env y)) h;refine mF.ghost a1 ?_;generalize dC (aK (bp c s.env y)) s = s3 at h1 h2;unfold N6 at h2;split at h2
   ·rename_i b off' e1;exact Mv hm h1 (hg.nI a1) hk e1 h2
   ·rename_i k2 p2 i2 off2 e1;split at h2
    case h_2 => cases h2
    rename_i k3 xs hp;split at h2
    case isFalse => cases h2
    rename_i C7;subst C7;split at h2
    case h_2 => cases h2
    rename_i u hu;split at h2
    case isFalse => cases h2
    rename_i hc;simp only [ai,aF] at h2;obtain ⟨rfl,_⟩ := h2;exact aeJ hm h1 (hg.nI a1) hk e1 hp hu hc.1 hc.2.1 hc.2.2
   ·cases h2
  ·rename_i hnp;split at hs
   case h_2 => cases hs
   rename_i s2 f2 h2;simp only [ai,aF] at hs;obtain ⟨rfl,rfl,_⟩ := hs;unfold N6 at h2;split at h2
   ·rename_i b off' e1;exact Mv hm h hg hk e1 h2
   ·rename_i k2 p2 i2 off2 e1;exact absurd e1 (hnp k2 p2 i2 off2)
   ·cases h2
 ·simp only [eR] at hs;split at hs
  ·rename_i k' e1;simp only [ai,aF] at hs;obtain ⟨rfl,rfl,_⟩ := hs;exact SN hm h hg hk (.inl ⟨k',e1⟩)
  ·rename_i k' e1;simp only [ai,aF] at hs;obtain ⟨rfl,rfl,_⟩ := hs;exact SN hm h hg hk (.inr ⟨k',e1⟩)
  ·cases hs
 ·simp only [eR] at hs;split at hs
  case h_2 => cases hs
  rename_i ys hy;split at hs
  case isFalse => cases hs
  rename_i wE;split at hs
  ·rename_i k' e1;split at hs
   case isFalse => cases hs
   rename_i hl;simp only [ai,aF] at hs;obtain ⟨rfl,rfl,_⟩ := hs;exact aa9 hm h hg hk e1 hy wE hl
  ·rename_i k' p len e1;split at hs
   case h_2 => cases hs
   rename_i wA xs hp;split at hs
   case isFalse => cases hs
   rename_i hc;obtain ⟨rfl,rfl,hle,hl⟩ := hc;simp only [ai,aF] at hs;obtain ⟨rfl,rfl,_⟩ := hs;exact aa8 hm h hg hk e1 hp hle hy wE hl
  ·cases hs
 ·simp only [eR] at hs;split at hs
  ·rename_i b off e1;split at hs
   case h_2 => cases hs
   rename_i m cs wG hbk;split at hs
   case isFalse => cases hs
   rename_i hl;simp only [ai,aF] at hs;obtain ⟨rfl,rfl,_⟩ := hs;exact aa7 hm h hg hk e1 wG hbk hl
  ·split at hs
   case h_2 => cases hs
   rename_i u hu;simp only [ai,aF] at hs;obtain ⟨rfl,rfl,_⟩ := hs;exact SK hm h hg hk hu
 ·simp only [eR] at hs;split at hs
  case h_2 => cases hs
  rename_i k' p off n e1;split at hs
  ·rename_i hn;subst hn;split at hs
   case h_2 => cases hs
   rename_i ys hy;split at hs
   case isFalse => cases hs
   rename_i hc;obtain ⟨rfl,hl⟩ := hc;simp only [ai,aF] at hs;obtain ⟨rfl,rfl,_⟩ := hs;exact X3 hm h hg hk e1 hy hl
  ·rename_i hn;split at hs
   case h_2 => cases hs
   rename_i wA xs ys hp hy;split at hs
   case isFalse => cases hs
   rename_i hc;obtain ⟨rfl,rfl,hle,hl⟩ := hc;simp only [ai,aF] at hs;obtain ⟨rfl,rfl,_⟩ := hs;exact X2 hm h hg hk e1 hp hle hn hy hl
end
end Go.Bm

/- Calls: arguments by value. -/
namespace Go.Bm
open Go.Am
section
variable {P : Program} {X : Nat -> Prop} {φ φ' : dq} {w w' : World} {N N' : Names} {s s' s1 : St} {Ha Ha' : Heap} {t t' : Nat -> Value} {B : Nat -> Nat} {base : Nat} {v va : AV} {v' : Value} {c : dR} {o : Oper} {a : Act} {kd : Kd} {call : Nat -> List AV -> Heap -> Option (AV × Heap)}
theorem CT (h : b8 X φ w Ha) {n k : Nat} {xs : List AV} (ho : p7 Ha (some n) k xs) {off len : Nat} (hle : off + len <= xs.length) {v : Value} (r : bR (Rd X φ w) φ (.sl k n (off * k) len) v) :
  bR (Rd X [] w) [] (.list k ((xs.drop off).take len)) v := by
 obtain ⟨g,sz,lA,hX,hc⟩ := wo h ho;have Bn : ∀ a u,Rd X φ w a u -> Rd X [] w a u := fun a u ⟨h1,_,h3⟩ => ⟨h1,bN.nil _,h3⟩;cases r with
 | sl _ _ _ _ _ a cap hb jW hh =>
   obtain ⟨h1,h2⟩ := hh g sz lA;by_cases h0 : len = 0
   ·subst h0;simp only [List.take_zero];exact .ub _ _ _ _ _ _ (fun _ _ => undef) rfl jW (fun x hx => by simp at hx) (fun i j x c hx => by simp at hx) (fun i j x c hx => by simp at hx)
   ·have ha := h1 (by omega);subst ha
    have hx : ∀ (i : Nat) (x : AV),((xs.drop off).take len)[i]? = some x -> xs[off + i]? = some x /\ i < len := by
     intro i x hx;rw [bB] at hx;split at hx
     ·rw [aS] at hx; exact ⟨hx,‹_›⟩
     ·cases hx
    obtain ⟨cs,q1,q2,hk,q4⟩ := ho;refine .ub _ _ _ _ _ _ (fun i j => (w.cell? ⟨g,(off + i) * k + j,none⟩).getD undef) (by simp; omega) jW (fun x hm => ?_) (fun i j x c hi hj => ?_) (fun i j x c hi hj => ?_)
    ·exact hk x (cQ (cP hm))
    ·obtain ⟨u,u1,_,_⟩ := hc _ j x c (hx i x hi).1 hj;rw [u1,Addr.jd,show off * k + (i * k + j) = (off + i) * k + j by rw [bX]; omega];exact ⟨hX,bN.nil _,u1⟩
    ·obtain ⟨u,u1,_,u3⟩ := hc _ j x c (hx i x hi).1 hj;rw [u1];exact u3.mono Bn (.refl _)
mutual
theorem eU (h : eF X φ w N s Ha t) : ∀ (x y : AV),kY false s x = some y -> cD (av s) s.H.length x -> (pl y = true /\ ∀ v,bR (Rd X φ w) φ (cF N x) v -> bR (Rd X [] w) [] y v)
 | .c8 k p off len,y,hf,hk => by
   simp only [kY] at hf;split at hf
   case h_2 => cases hf
   rename_i k' xs hp;split at hf
   case isFalse => cases hf
   rename_i hc;obtain ⟨rfl,hle⟩ := hc;simp at hf;subst hf;refine ⟨rfl,fun v r => ?_⟩;have eW := h.own p k' xs hp;rcases qY h hk with ⟨n,hn,e2⟩ | ⟨hn,h0,h1,e2⟩
   ·rw [e2] at r;rw [hn] at eW;exact CT h.heap eW hle r
   ·rw [e2] at r;subst h1;simp only [List.take_zero];cases r;exact .kL _ _
 | .agg cs,y,hf,hk => by
   simp only [kY] at hf;split at hf
   case h_2 => cases hf
   rename_i ds hd;simp at hf;subst hf;simp only [cD] at hk;obtain ⟨h1,h2,h3⟩ := vB h cs ds hd hk;refine ⟨h1,fun v r => ?_⟩;simp only [cF] at r;cases r with
   | agg _ _ vs hl hh => exact .agg _ _ _ (by rw [h2,<- dO N cs]; exact hl) (fun i d u CH hu => h3 i d u CH (fun z hz => hh i z u hz hu))
 | .dp cs,y,hf,hk => by
   simp only [kY] at hf;split at hf
   case h_2 => cases hf
   rename_i ds hd;simp at hf;subst hf;simp only [cD] at hk;obtain ⟨h1,h2,h3⟩ := vB h cs ds hd hk;refine ⟨h1,fun v r => ?_⟩;simp only [cF] at r;cases r with
   | dp _ _ vs hl hh => exact .dp _ _ _ (by rw [h2,<- dO N cs]; exact hl) (fun i d u CH hu => h3 i d u CH (fun z hz => hh i z u hz hu))
 | .func f a b,y,hf,hk => by
   simp only [kY] at hf;split at hf
   case h_2 => cases hf
   rename_i a' b' ha hb;simp at hf;subst hf;simp only [cD] at hk;obtain ⟨h1,h2,h3⟩ := vB h a a' ha hk.1;obtain ⟨k1,k2,k3⟩ := vB h b b' hb hk.2;refine ⟨by simp only [pl,aa]; exact ⟨h1,k1⟩,fun v r => ?_⟩;simp only [cF] at r;cases r with
   | func _ _ _ va _ vb CG CF hra hrb => exact .func _ _ _ _ _ _ (by rw [h2,<- dO N a]; exact CG) (by rw [k2,<- dO N b]; exact CF) (fun i d u CH hu => h3 i d u CH (fun z hz => hra i z u hz hu)) (fun i d u CH hu => k3 i d u CH (fun z hz => hrb i z u hz hu))
 | .own _ _,y,hf,hk => by simp [kY] at hf
 | .ez _ _ _ _,y,hf,hk => by simp [kY] at hf
 | .ptr _ _,y,hf,hk => by simp [kY] at hf
 | .sl _ _ _ _,y,hf,hk => by simp [kY] at hf
 | .any,y,hf,hk => by simp [kY] at hf
 | .undef,y,hf,hk => by simp [kY] at hf; subst hf; exact ⟨rfl,fun v r => (r.dB rfl []).mono (fun a u ⟨h1,_,h3⟩ => ⟨h1,bN.nil _,h3⟩) (.refl _)⟩
 | .eP,y,hf,hk => by simp [kY] at hf; subst hf; exact ⟨rfl,fun v r => (r.dB rfl []).mono (fun a u ⟨h1,_,h3⟩ => ⟨h1,bN.nil _,h3⟩) (.refl _)⟩
 | .eT,y,hf,hk => by simp [kY] at hf; subst hf; exact ⟨rfl,fun v r => (r.dB rfl []).mono (fun a u ⟨h1,_,h3⟩ => ⟨h1,bN.nil _,h3⟩) (.refl _)⟩
 | .dn,y,hf,hk => by simp [kY] at hf; subst hf; exact ⟨rfl,fun v r => (r.dB rfl []).mono (fun a u ⟨h1,_,h3⟩ => ⟨h1,bN.nil _,h3⟩) (.refl _)⟩
 | .int _ _,y,hf,hk => by simp [kY] at hf; subst hf; exact ⟨rfl,fun v r => (r.dB rfl []).mono (fun a u ⟨h1,_,h3⟩ => ⟨h1,bN.nil _,h3⟩) (.refl _)⟩
 | .bool _,y,hf,hk => by simp [kY] at hf; subst hf; exact ⟨rfl,fun v r => (r.dB rfl []).mono (fun a u ⟨h1,_,h3⟩ => ⟨h1,bN.nil _,h3⟩) (.refl _)⟩
 | .str _,y,hf,hk => by simp [kY] at hf; subst hf; exact ⟨rfl,fun v r => (r.dB rfl []).mono (fun a u ⟨h1,_,h3⟩ => ⟨h1,bN.nil _,h3⟩) (.refl _)⟩
 | .list _ _,y,hf,hk => by simp [kY] at hf; subst hf; exact ⟨rfl,fun v r => (r.dB rfl []).mono (fun a u ⟨h1,_,h3⟩ => ⟨h1,bN.nil _,h3⟩) (.refl _)⟩
 | .dh _,y,hf,hk => by simp [kY] at hf; subst hf; exact ⟨rfl,fun v r => (r.dB rfl []).mono (fun a u ⟨h1,_,h3⟩ => ⟨h1,bN.nil _,h3⟩) (.refl _)⟩
theorem vB (h : eF X φ w N s Ha t) : ∀ (xs ys : List AV),Dc false s xs = some ys -> kF (av s) s.H.length xs -> (df ys = true /\ ys.length = xs.length /\ ∀ (i : Nat) (y : AV) (v : Value),ys[i]? = some y -> (∀ z,(k8 N xs)[i]? = some z -> bR (Rd X φ w) φ z v) -> bR (Rd X [] w) [] y v)
 | [],ys,hf,_ => by simp [Dc] at hf; subst hf; exact ⟨rfl,rfl,fun i y v hy => by simp at hy⟩
 | x :: r,ys,hf,hk => by
   simp only [Dc] at hf;split at hf
   case h_2 => cases hf
   rename_i y Qx h1 h2;simp at hf;subst hf;obtain ⟨a1,a2⟩ := eU h x y h1 hk.1;obtain ⟨b1,b2,b3⟩ := vB h r Qx h2 hk.2;refine ⟨by simp only [df,aa]; exact ⟨a1,b1⟩,by simp [b2],fun i z v hz hv => ?_⟩;cases i with
   | zero => simp [k8] at hz hv; subst hz; exact a2 v hv
   | succ i => simp [k8] at hz hv; exact b3 i z v hz hv
end
theorem Zq (h : eF X φ w N s Ha t) {r : Rt} {x y : AV} (hx : at_ s r = some x) (hf : Va x = some y) : (pl y = true /\ y.cells = [y]) /\ ∀ v,bR (Rd X φ w) φ (jR N r x) v -> bR (Rd X [] w) [] y v := by
 unfold Va at hf;split at hf
 ·rename_i k xs;simp at hf;subst hf;refine ⟨⟨rfl,rfl⟩,fun v rv => ?_⟩;have eW := h.own r k xs (bZ.2 hx);simp only [jR,qP] at rv;cases hn : N.ν r with
  | none =>
    rw [hn] at eW rv;have : xs = [] := eW;subst this;simp only at rv;cases rv;exact .kL _ _
  | some n =>
    rw [hn] at eW rv;have := CT (off := 0) (len := xs.length) h.heap eW (by omega) (v := v) (by simpa using rv);simpa using this
 ·rename_i jH;split at hf
  case isFalse => cases hf
  rename_i hz;simp at hf;subst hf;obtain ⟨h1,h2⟩ := mO hz;refine ⟨⟨h1,by cases x <;> first | rfl | (simp [AV.leaf] at h2; done)⟩,fun v rv => ?_⟩;have e : jR N r x = cF N x := by cases x <;> first | rfl | exact (jH _ _ rfl).elim
  rw [e,lC N x h1] at rv;exact (rv.dB (iI _ h1) []).mono (fun a u ⟨h1,_,h3⟩ => ⟨h1,bN.nil _,h3⟩) (.refl _)
theorem I3 : ∀ {cs ys : List AV},CN cs = some ys -> ys.length = cs.length /\ ∀ (i : Nat) (y : AV),ys[i]? = some y -> ∃ x,cs[i]? = some x /\ Va x = some y
 | [],ys,h => by simp [CN] at h; subst h; exact ⟨rfl,fun i y hy => by simp at hy⟩
 | x :: r,ys,h => by
   simp only [CN] at h;split at h
   case h_2 => cases h
   rename_i y Qx h1 h2;simp at h;subst h;obtain ⟨k1,k2⟩ := I3 h2;refine ⟨by simp [k1],fun i z hz => ?_⟩;cases i with
   | zero => simp at hz; subst hz; exact ⟨x,rfl,h1⟩
   | succ i => simp at hz; obtain ⟨u,u1,u2⟩ := k2 i z hz; exact ⟨u,by simpa using u1,u2⟩
theorem Nu (h : eF X φ w N s Ha t) {k b off len : Nat} {y : AV} (hf : Nv s k b off len = some y) : pl y = true /\ ∀ v,bR (Rd X φ w) φ (cF N (.sl k b off len)) v -> bR (Rd X [] w) [] y v := by
 unfold Nv at hf;split at hf
 case h_2 => cases hf
 rename_i cs hb;split at hf
 case isFalse => cases hf
 rename_i hc;obtain ⟨rfl,hle⟩ := hc;split at hf
 case h_2 => cases hf
 rename_i ys hy;simp at hf;subst hf;refine ⟨rfl,fun v r => ?_⟩;obtain ⟨as,a1,a2,a3⟩ := h.box b cs hb;obtain ⟨g,sz,arr,e,g1,g2,g3,g4,g5,g6⟩ := h.heap.at a1;obtain ⟨k1,k2⟩ := I3 hy;have hyl : ys.length = len := by rw [k1,bu,List.length_drop]; omega
 simp only [cF] at r;cases r with
 | sl _ _ _ _ _ a cap je jW hh =>
   obtain ⟨h1,h2⟩ := hh g sz g1;by_cases h0 : len = 0
   ·subst h0;have : ys = [] := di hyl;subst this;exact .ub _ _ _ _ _ _ (fun _ _ => undef) rfl jW (fun x hx => by simp at hx) (fun i j x c hx => by simp at hx) (fun i j x c hx => by simp at hx)
   ·have ha := h1 (by omega);subst ha
    have cell : ∀ (i : Nat) (y : AV),ys[i]? = some y -> (pl y = true /\ y.cells = [y]) /\ ∃ u,w.cell? ⟨g,off + i,none⟩ = some u /\ bR (Rd X [] w) [] y u := by
     intro i y hi;obtain ⟨x,x1,x2⟩ := k2 i y hi
     have x3 : cs[off + i]? = some x := by
      rw [bB] at x1;split at x1
      ·rw [aS] at x1; exact x1
      ·cases x1
     obtain ⟨_,a',b1,b2⟩ := a3 _ x x3;obtain ⟨u,u1,u2⟩ := g6 _ a' b1;obtain ⟨c1,c2⟩ := Zq h (r := .c b (off + i)) (x := x) (by simp only [at_,hb]; exact x3) x2;exact ⟨c1,u,by rw [iK g2]; exact u1,c2 u (b2 _ _ _ u2)⟩
    refine .ub _ _ _ _ _ _ (fun i j => (w.cell? ⟨g,off + i,none⟩).getD undef) hyl.symm jW (fun x hm => ?_) (fun i j x c hi hj => ?_) (fun i j x c hi hj => ?_)
    ·obtain ⟨i,hi⟩ := bA hm;rw [(cell i x hi).1.2]; rfl
    ·obtain ⟨⟨q1,q2⟩,u,u1,u2⟩ := cell i x hi;rw [q2] at hj;have hj0 : j = 0 := by have := aq hj; simp at this; exact this
     subst hj0;rw [u1,Addr.jd,show off + (i * 1 + 0) = off + i by omega];exact ⟨g5,bN.nil _,u1⟩
    ·obtain ⟨⟨q1,q2⟩,u,u1,u2⟩ := cell i x hi;rw [q2] at hj;have hj0 : j = 0 := by have := aq hj; simp at this; exact this
     subst hj0;simp at hj;subst hj;rw [u1];exact u2
mutual
theorem Nw (h : eF X φ w N s Ha t) : ∀ (x y : AV),PX s x = some y -> cD (av s) s.H.length x -> (pl y = true /\ ∀ v,bR (Rd X φ w) φ (cF N x) v -> bR (Rd X [] w) [] y v)
 | .sl k b off len,y,hf,_ => by simp only [PX] at hf; exact Nu h hf
 | .dp cs,y,hf,hk => by
   simp only [PX] at hf;split at hf
   case h_2 => cases hf
   rename_i ds hd;simp at hf;subst hf;simp only [cD] at hk;obtain ⟨h1,h2,h3⟩ := I1 h cs ds hd hk;refine ⟨h1,fun v r => ?_⟩;simp only [cF] at r;cases r with
   | dp _ _ vs hl hh => exact .dp _ _ _ (by rw [h2,<- dO N cs]; exact hl) (fun i d u CH hu => h3 i d u CH (fun z hz => hh i z u hz hu))
 | .any,y,hf,hk => eU h _ y hf hk
 | .undef,y,hf,hk => eU h _ y hf hk
 | .eP,y,hf,hk => eU h _ y hf hk
 | .eT,y,hf,hk => eU h _ y hf hk
 | .dn,y,hf,hk => eU h _ y hf hk
 | .int _ _,y,hf,hk => eU h _ y hf hk
 | .bool _,y,hf,hk => eU h _ y hf hk
 | .str _,y,hf,hk => eU h _ y hf hk
 | .agg _,y,hf,hk => eU h _ y hf hk
 | .list _ _,y,hf,hk => eU h _ y hf hk
 | .dh _,y,hf,hk => eU h _ y hf hk
 | .ptr _ _,y,hf,hk => eU h _ y hf hk
 | .func _ _ _,y,hf,hk => eU h _ y hf hk
 | .own _ _,y,hf,hk => eU h _ y hf hk
 | .c8 _ _ _ _,y,hf,hk => eU h _ y hf hk
 | .ez _ _ _ _,y,hf,hk => eU h _ y hf hk
theorem I1 (h : eF X φ w N s Ha t) : ∀ (xs ys : List AV),I2 s xs = some ys -> kF (av s) s.H.length xs -> (df ys = true /\ ys.length = xs.length /\ ∀ (i : Nat) (y : AV) (v : Value),ys[i]? = some y -> (∀ z,(k8 N xs)[i]? = some z -> bR (Rd X φ w) φ z v) -> bR (Rd X [] w) [] y v)
 | [],ys,hf,_ => by simp [I2] at hf; subst hf; exact ⟨rfl,rfl,fun i y v hy => by simp at hy⟩
 | x :: r,ys,hf,hk => by
   simp only [I2] at hf;split at hf
   case h_2 => cases hf
   rename_i y Qx h1 h2;simp at hf;subst hf;obtain ⟨a1,a2⟩ := Nw h x y h1 hk.1;obtain ⟨b1,b2,b3⟩ := I1 h r Qx h2 hk.2;refine ⟨by simp only [df,aa]; exact ⟨a1,b1⟩,by simp [b2],fun i z v hz hv => ?_⟩;cases i with
   | zero => simp [k8] at hz hv; subst hz; exact a2 v hv
   | succ i => simp [k8] at hz hv; exact b3 i z v hz hv
end
theorem F8 (h : eF X φ w N s Ha t) : ∀ (xs ys : List AV),sT s xs = some ys -> kF (av s) s.H.length xs -> (df ys = true /\ ys.length = xs.length /\ ∀ (i : Nat) (y : AV) (v : Value),ys[i]? = some y -> (∀ z,(iD N xs)[i]? = some z -> bR (Rd X φ w) φ z v) -> bR (Rd X [] w) [] y v)
 | [],ys,hf,_ => by simp [sT] at hf; subst hf; exact ⟨rfl,rfl,fun i y v hy => by simp at hy⟩
 | x :: r,ys,hf,hk => by
   have gen : ∀ {y Qx},(pl y = true /\ ∀ v,bR (Rd X φ w) φ (cF N x) v -> bR (Rd X [] w) [] y v) -> sT s r = some Qx -> (∀ k l,x ≠ .own k l) -> ys = y :: Qx -> (df ys = true /\ ys.length = (x :: r).length /\ ∀ (i : Nat) (y : AV) (v : Value),ys[i]? = some y -> (∀ z,(iD N (x :: r))[i]? = some z -> bR (Rd X φ w) φ z v) -> bR (Rd X [] w) [] y v) := by
    intro y Qx h1 h2 hn e;subst e;obtain ⟨a1,a2⟩ := h1;obtain ⟨b1,b2,b3⟩ := F8 h r Qx h2 hk.2;have ex : fB N x = cF N x := by cases x <;> first | rfl | exact absurd rfl (hn _ _)
    refine ⟨by simp only [df,aa]; exact ⟨a1,b1⟩,by simp [b2],fun i z v hz hv => ?_⟩;cases i with
    | zero => simp [iD] at hz hv; subst hz; rw [ex] at hv; exact a2 v hv
    | succ i => simp [iD] at hz hv; exact b3 i z v hz hv
   by_cases ho : ∃ k,x = .own k []
   ·obtain ⟨k,rfl⟩ := ho;simp only [sT] at hf;split at hf
    case h_2 => cases hf
    rename_i Qx h2;simp at hf;subst hf;obtain ⟨b1,b2,b3⟩ := F8 h r Qx h2 hk.2;refine ⟨by simp only [df,pl,Oh]; exact b1,by simp [b2],fun i z v hz hv => ?_⟩;cases i with
    | zero =>
      simp [iD,fB] at hz hv;subst hz;cases hv;exact .kL _ _
    | succ i => simp [iD] at hz hv; exact b3 i z v hz hv
   ·have hn : ∀ k l,x ≠ .own k l := by
     rintro k l rfl;cases l with
     | nil => exact ho ⟨k,rfl⟩
     | cons z l => simp [sT,kY] at hf
    by_cases hsl : ∃ k b off len,x = .sl k b off len
    ·obtain ⟨k,b,off,len,rfl⟩ := hsl;simp only [sT] at hf;split at hf
     case h_2 => cases hf
     rename_i y Qx h1 h2;simp at hf;exact gen (Nu h h1) h2 hn hf.symm
    rw [sT] at hf
    ·split at hf
     case h_2 => cases hf
     rename_i y Qx h1 h2;simp at hf;exact gen (eU h x y h1 hk.1) h2 hn hf.symm
    ·exact fun k e => ho ⟨k,e⟩
    ·exact fun k b off len e => hsl ⟨k,b,off,len,e⟩
end
end Go.Bm

/- Calls of functions that see no boxes. -/
namespace Go.Bm
open Go.Am
section
variable {P : Program} {X : Nat -> Prop} {φ φ' : dq} {w w' : World} {N N' : Names} {s s' s1 : St} {Ha Ha' : Heap} {t t' : Nat -> Value} {B : Nat -> Nat} {base : Nat} {v va : AV} {v' : Value} {c : dR} {o : Oper} {a : Act} {kd : Kd} {call : Nat -> List AV -> Heap -> Option (AV × Heap)}
def Lk (X : Nat -> Prop) (φ : dq) (w : World) (B : Nat -> Nat) (base : Nat) (r : AV) (H' : Heap) (e : Ending) (w' : World) : Prop :=
 ∃ v' φ',e = .returned v' /\ SB X φ' w' B base ⟨[(0,r)],H'⟩ (fun i => if i = 0 then v' else undef) /\ eZ φ w φ' w'
def iL (P : Program) (c : dR) (call : Nat -> List AV -> Heap -> Option (AV × Heap)) : Prop :=
 ∀ f md q,c.fn f = some (md,q) -> ∀ args H r H',(md.sh = true \/ H = []) -> call f args H = some (r,H') -> (md.sh = true -> cO H' = true) -> ∀ X φ w B (vargs : Array Value),args.length = vargs.size -> SB X φ w B H.length ⟨dJ 0 args,H⟩ (fun i => vargs.getD i undef) -> Am.dH (iW c) X φ w -> Calls P f vargs w (Lk X φ w B H.length r H')
theorem w8 (c6 : eQ P c) {f : Nat} {m : Md} {q : eB} (hf : c.fn f = some (m,q)) (vargs : Array Value) : (callFunc f vargs).run P w = .ok (.enter f vargs) w := by
 obtain ⟨fn,h1,h2⟩ := c6.fn f m q hf;simp only [bK,aa,bD] at h2;obtain ⟨⟨⟨_,IU⟩,_⟩,rU⟩ := h2
 have hb : fn.body.isNone = false := by
  cases hfb : fn.body with
  | none => rw [hfb] at rU; cases rU
  | some b => rfl
 simp only [callFunc,Sem.run_bind,run_program,Result.andThen_ok,h1,IU,hb,bO,if_false,Sem.run_pure]
def Ln (R : Addr -> Value -> Prop) (φ : dq) (N : Names) (xs : List AV) (vs : Array Value) : Prop := xs.length = vs.size /\ ∀ (i : Nat) (x : AV) (v : Value),xs[i]? = some x -> vs[i]? = some v -> bR R φ (fB N x) v
theorem Ln.append {R : Addr -> Value -> Prop} {xs ys : List AV} {vs us : Array Value} (h : Ln R φ N xs vs) (k : Ln R φ N ys us) : Ln R φ N (xs ++ ys) (vs ++ us) := by
 refine ⟨by simp [h.1,k.1],fun i x v hx hv => ?_⟩;by_cases hi : i < xs.length
 ·rw [ak hi] at hx;rw [qL (by have := h.1; omega)] at hv;exact h.2 i x v hx hv
 ·rw [aN (by omega)] at hx;rw [GX (by have := h.1; omega),<- h.1] at hv;exact k.2 _ x v hx hv
theorem ZP {op : Op} {f : Nat} {ys : List E} (h : cN P op (.call f ys) = true) : ∃ ca : Call,op = .call ca /\ ca.callee = .value (.func f) /\ jk ca.args.toList ys = true := by
 unfold cN at h;split at h <;> simp_all
theorem Vl {op : Op} {y : E} {ys : List E} (h : cN P op (.jm y ys) = true) : ∃ (ca : Call) (x : Operand),op = .call ca /\ ca.callee = .value x /\ cZ x y = true /\ jk ca.args.toList ys = true := by
 unfold cN at h;split at h <;> simp_all
theorem nX (c6 : eQ P c) (h : eF X φ w N s Ha (tm a)) (hg : Am.dH (iW c) X φ w) (hk : cN P o.op (mB kd) = true) {f : Nat} {args : List AV} (ha : nV c s.env kd = some (f,args)) {md : Md} {q : eB} (hf : c.fn f = some (md,q)) :
  ∃ vargs : Array Value,(execOp a.eval o).run P w = .ok (.enter f vargs) w /\ Ln (Rd X φ w) φ N args vargs /\ kF (av s) s.H.length args := by
 have he : n7 X φ w (yF N s.env) a.tmps := fun i => by rw [mz]; exact h.env i
 have Zx : ∀ {os : Array Operand} {xs : List E},jk os.toList (Bx xs) = true -> Ln (Rd X φ w) φ N (dt c s.env xs) (os.map a.eval) /\ kF (av s) s.H.length (dt c s.env xs) := by
  intro os xs hk;obtain ⟨e1,e2⟩ := rM (cA := iW c) h rfl hk;obtain ⟨hl,hr⟩ := nz (a := a) he hg hk;rw [e1,jg] at hl;refine ⟨⟨by simpa using hl,fun i x v hx hv => ?_⟩,e2⟩;refine hr i (fB N x) v (by rw [e1,nK,hx]; rfl) (by simpa using hv)
 cases kd <;> simp only [nV,reduceCtorEq] at ha
 case call f' ys =>
  simp only [ai,aF] at ha;obtain ⟨rfl,rfl⟩ := ha;obtain ⟨ca,eK,Hk,my⟩ := ZP hk;obtain ⟨e1,e2⟩ := Zx my;refine ⟨ca.args.map a.eval,?_,e1,e2⟩;simp only [execOp,eK,resolve,Hk,Act.eval,Deferred.ofValue,invoke,Sem.run_bind,Sem.run_pure,Result.andThen_ok,Array.empty_append,Array.append_empty];exact w8 c6 hf _
 case jm y ys =>
  obtain ⟨ca,x,eK,Hk,hx,my⟩ := Vl hk;have ho := cj (c := c) (cA := iW c) h rfl hx;have rx := bQ (a := a) he hg hx;rw [ho.ev] at rx;have Hg := ho.ok;cases e : bp c s.env y <;> rw [e] at ha rx Hg <;> try (simp at ha; done)
  rename_i fn as bs;cases fn <;> simp only [reduceCtorEq] at ha
  rename_i f';split at ha
  ·cases ha
  rename_i jH;simp only [eX,not_or,G6] at jH;simp only [ai,aF] at ha;obtain ⟨rfl,rfl⟩ := ha;obtain ⟨e1,e2⟩ := Zx my;simp only [fB,cF] at rx;simp only [cD] at Hg;generalize Ob : a.eval x = ax at rx;cases rx with
  | func _ _ _ va _ vb CG CF hra hrb =>
    rw [dO] at CG CF;have c1 : Ln (Rd X φ w) φ N as va := ⟨CG,fun i x v hx hv => hra i _ v (by rw [<- kK N jH.1,nK,hx]; rfl) hv⟩;have c3 : Ln (Rd X φ w) φ N bs vb := ⟨CF,fun i x v hx hv => hrb i _ v (by rw [<- kK N jH.2,nK,hx]; rfl) hv⟩;refine ⟨va ++ ca.args.map a.eval ++ vb,?_,(c1.append e1).append c3,pE (pE Hg.1 e2) Hg.2⟩;simp only [execOp,eK,resolve,Hk,Ob,Deferred.ofValue,invoke,Sem.run_bind,Sem.run_pure,Result.andThen_ok];exact w8 c6 hf _
mutual
theorem SV {R : Addr -> Value -> Prop} {φ : dq} (N : Names) : ∀ (x : AV) {v : Value},bR R φ (cF N x) v -> bR R φ (cF N (SW x)) v
 | .c8 k p off n,v,r => by
   unfold SW;split
   ·rename_i h; subst h;simp only [cF] at r ⊢;split at r
    ·cases r with
     | sl _ _ _ _ _ a cap hb hc h => exact .ub _ _ _ _ _ _ (fun _ _ => undef) rfl hc (fun x hx => by simp at hx) (fun i j x c hx => by simp at hx) (fun i j x c hx => by simp at hx)
    ·cases r; exact .kL _ _
   ·exact r
 | .agg cs,v,r => by
   simp only [SW,cF] at r ⊢;cases r with
   | agg _ _ vs hl h =>
     obtain ⟨l1,l2⟩ := Fv (R := R) (φ := φ) N cs;refine .agg _ _ _ (by rw [dO,l1,<- dO N cs]; exact hl) fun i c u hc hu => ?_;rw [v8] at hc;cases e : (zI cs)[i]? with
     | none => rw [e] at hc; cases hc
     | some y =>
       rw [e] at hc;simp only [cT,ai] at hc;subst hc;obtain ⟨x,hx⟩ := bg (l := cs) (i := i) (by have := aq e; omega);exact l2 i x y u hx e (h i _ u (by rw [v8,hx]; rfl) hu)
 | .any,v,r => r | .undef,v,r => r | .eP,v,r => r | .eT,v,r => r | .dn,v,r => r
 | .int _ _,v,r => r | .bool _,v,r => r | .str _,v,r => r | .dp _,v,r => r
 | .list _ _,v,r => r | .dh _,v,r => r | .ptr _ _,v,r => r | .sl _ _ _ _,v,r => r
 | .func _ _ _,v,r => r | .own _ _,v,r => r | .ez _ _ _ _,v,r => r
theorem Fv {R : Addr -> Value -> Prop} {φ : dq} (N : Names) : ∀ (cs : List AV),(zI cs).length = cs.length /\ ∀ (i : Nat) (x y : AV) (v : Value),cs[i]? = some x -> (zI cs)[i]? = some y -> bR R φ (cF N x) v -> bR R φ (cF N y) v
 | [] => ⟨rfl,fun i x y v hx => by simp at hx⟩
 | c :: r => by
   obtain ⟨l1,l2⟩ := Fv (R := R) (φ := φ) N r;refine ⟨by simp [zI,l1],fun i x y v hx hy rr => ?_⟩;cases i with
   | zero => simp [zI] at hx hy; subst hx; subst hy; exact SV N c rr
   | succ i => exact l2 i x y v (by simpa using hx) (by simpa [zI] using hy) rr
end
theorem Yb {R : Addr -> Value -> Prop} {φ : dq} (N : Names) (x : AV) {v : Value} (r : bR R φ (fB N x) v) : bR R φ (fB N (SW x)) v := by
 by_cases h : ∃ k xs,x = .own k xs
 ·obtain ⟨k,xs,rfl⟩ := h;simpa [SW] using r
 ·have e1 : fB N x = cF N x := by cases x <;> first | rfl | exact absurd ⟨_,_,rfl⟩ h
  have e2 : fB N (SW x) = cF N (SW x) := by
   cases x <;> simp only [SW] <;> first | rfl | exact absurd ⟨_,_,rfl⟩ h | (split <;> rfl)
  rw [e2];rw [e1] at r;exact SV N x r
mutual
theorem ae7 {o : Rt -> Option (Nat × List AV)} {nb : Nat} : ∀ (x : AV),cD o nb x -> cD o nb (SW x)
 | .c8 k p off n,h => by
   unfold SW;split
   ·trivial
   ·exact h
 | .agg cs,h => by
   simp only [SW,cD] at h ⊢;exact KC cs h
 | .any,h => h | .undef,h => h | .eP,h => h | .eT,h => h | .dn,h => h
 | .int _ _,h => h | .bool _,h => h | .str _,h => h | .dp _,h => h
 | .list _ _,h => h | .dh _,h => h | .ptr _ _,h => h | .sl _ _ _ _,h => h
 | .func _ _ _,h => h | .own _ _,h => h | .ez _ _ _ _,h => h
theorem KC {o : Rt -> Option (Nat × List AV)} {nb : Nat} : ∀ (cs : List AV),kF o nb cs -> kF o nb (zI cs)
 | [],_ => trivial
 | x :: r,h => ⟨ae7 x h.1,KC r h.2⟩
end
theorem MA : ∀ (cs : List AV) (i : Nat),(zI cs)[i]? = (cs[i]?).map SW
 | [],i => by simp [zI]
 | x :: r,i => by cases i <;> simp [zI,MA r]
theorem yt (c6 : eQ P c) (h : eF X φ w N s Ha (tm a)) (hg : Am.dH (iW c) X φ w) (hk : cN P o.op (mB kd) = true) {f : Nat} {args : List AV} (ha : getArgs c s.env kd = some (f,args)) {md : Md} {q : eB} (hf : c.fn f = some (md,q)) :
  ∃ vargs : Array Value,(execOp a.eval o).run P w = .ok (.enter f vargs) w /\ Ln (Rd X φ w) φ N args vargs /\ kF (av s) s.H.length args := by
 unfold getArgs at ha;cases h0 : nV c s.env kd with
 | none => rw [h0] at ha; cases ha
 | some z =>
   obtain ⟨f0,adx⟩ := z;rw [h0] at ha;simp only [ai,aF] at ha;obtain ⟨rfl,rfl⟩ := ha;obtain ⟨vargs,h1,h2,h3⟩ := nX c6 h hg hk h0 hf;refine ⟨vargs,h1,?_⟩;split
   ·refine ⟨⟨?_,fun i x v hx hv => ?_⟩,KC _ h3⟩
    ·have l1 := (Fv (R := Rd X φ w) (φ := φ) N adx).1;rw [l1]; exact h2.1
    ·rw [MA] at hx;cases e : adx[i]? with
     | none => rw [e] at hx; cases hx
     | some y =>
       rw [e] at hx;simp only [cT,ai] at hx;subst hx;exact Yb N y (h2.2 i y v e hv)
   ·exact ⟨h2,h3⟩
theorem Ar (N : Names) (i : Nat) {x : AV} (h : pl x = true) : kJ N i x = x := by
 by_cases ha : ∃ cs,x = .agg cs
 ·obtain ⟨cs,rfl⟩ := ha;simp only [kJ];simp only [pl] at h;congr 1;apply dA;intro j;rw [fg];cases hc : cs[j]? with
  | none => rfl
  | some d =>
    simp only [cT]
    have hd : pl d = true := by
     have : ∀ {l : List AV},df l = true -> ∀ z ∈ l,pl z = true := by
      intro l
      induction l with
      | nil => intro _ z hz; simp at hz
      | cons y r ih =>
        intro h z hz;simp only [df,aa] at h;rcases aX.1 hz with e | e
        ·subst e; exact h.1
        ·exact ih h.2 z e
     exact this h d (aW hc)
    congr 1;cases d <;> first | exact lC N _ hd | (simp [pl] at hd; done)
 ·have hn : jX x := fun cs e => ha ⟨cs,e⟩;cases x <;> first | exact lC N _ h | exact absurd rfl (hn _) | (simp [pl] at h; done)
theorem x9 {x : AV} (h : pl x = true) : bJ x = false := by
 cases x <;> first | rfl | (simp [pl] at h; done) | skip
 rename_i cs;simp only [pl] at h;simp only [bJ]
 induction cs with
 | nil => rfl
 | cons y r ih =>
   simp only [df,aa] at h;have h1 := h.1;cases y <;> first | exact ih h.2 | (simp [pl] at h1; done)
theorem fE : ∀ {l : List AV},df l = true -> ∀ (i : Nat) (z : AV),l[i]? = some z -> pl z = true
 | [],_,i,z,hz => by simp at hz
 | y :: r,h,i,z,hz => by
   simp only [df,aa] at h;cases i with
   | zero => simp at hz; subst hz; exact h.1
   | succ i => exact fE h.2 i z (by simpa using hz)
theorem SB.start {args : List AV} {vargs : Array Value} (hx : ∀ g,X g -> g < w.heap.size) (hp : df args = true) (hl : args.length = vargs.size) (hr : ∀ (i : Nat) (x : AV) (v : Value),args[i]? = some x -> vargs[i]? = some v -> bR (Rd X [] w) [] x v) (B : Nat -> Nat) :
  SB X [] w B 0 ⟨dJ 0 args,[]⟩ (fun i => vargs.getD i undef) := by
 have Du : ∀ i,get (dJ 0 args) i = args[i]?.getD .any := fun i => by rw [rV]; simp
 have sd : ∀ i,pl (get (dJ 0 args) i) = true := fun i => by
  rw [Du];cases e : args[i]? with
  | none => rfl
  | some x => exact fE hp i x e
 have jH : ∀ p,av ⟨dJ 0 args,[]⟩ p = none := by
  intro p;cases p with
  | s i => exact (dV (s := ⟨dJ 0 args,[]⟩) (x9 (sd i))).1
  | sc i j => exact (dV (s := ⟨dJ 0 args,[]⟩) (x9 (sd i))).2 j
  | c b j => unfold av; simp [at_,aJ]
 refine ⟨⟨fun _ => 0,fun _ => none⟩,[],⟨fun i => ?_,fun i => xd _ (sd i),⟨rfl,hx,fun b cs hb => by simp at hb,fun b hb => by simp at hb,fun b b' g sz nC h1 => by simp at h1⟩,fun p k xs e => ?_,fun b cs e => ?_,fun p q n e1 => ?_,fun b p e1 => ?_,fun b d e1 => ?_⟩,fun b hb => by omega,Lo _⟩
 ·rw [Ar _ _ (sd i),Du];cases e : args[i]? with
  | none => exact .any _ _
  | some x =>
    obtain ⟨v,hv⟩ := c7 (l := vargs) (i := i) (by have := aq e; omega);simp only [kD];rw [aZ,hv];exact hr i x v e hv
 ·rw [jH] at e; cases e
 ·simp [aJ] at e
 ·rw [jH] at e1; cases e1
 ·simp [aJ] at e1
 ·simp [aJ] at e1
end
end Go.Bm

/- Calls of functions that see no boxes: what comes back. -/
namespace Go.Bm
open Go.Am
mutual
theorem Bz {R R' : Addr -> Value -> Prop} {φ φ' : dq} {N N' : Names} : ∀ x,clean x = true -> ∀ v,bR R φ (cF N x) v -> bR R' φ' (cF N' x) v
 | .list k xs,h,v,r => by
   simp only [clean,eG] at h;subst h;simp only [cF] at r ⊢;cases r with
   | ub _ _ _ a n cap u hn jW hk hu hh => subst hn; exact .ub _ _ _ _ _ _ u rfl jW hk (fun i j x c hx => by simp at hx) (fun i j x c hx => by simp at hx)
   | kL => exact .kL _ _
 | .agg cs,h,v,r => by
   simp only [clean] at h;simp only [cF] at r ⊢;cases r with
   | agg _ _ vs hl hh => exact .agg _ _ _ (by rw [dO] at hl ⊢; exact hl) (fun i d u hd hu => yy cs h i d u hd (fun z hz => hh i z u hz hu))
 | .dp cs,h,v,r => by
   simp only [clean] at h;simp only [cF] at r ⊢;cases r with
   | dp _ _ vs hl hh => exact .dp _ _ _ (by rw [dO] at hl ⊢; exact hl) (fun i d u hd hu => yy cs h i d u hd (fun z hz => hh i z u hz hu))
 | .own _ _,_,v,_ => .any _ _
 | .dh _,h,_,_ => by simp [clean] at h
 | .any,h,_,_ => by simp [clean] at h
 | .func _ _ _,h,_,_ => by simp [clean] at h
 | .c8 _ _ _ _,h,_,_ => by simp [clean] at h
 | .ez _ _ _ _,h,_,_ => by simp [clean] at h
 | .ptr _ _,h,_,_ => by simp [clean] at h
 | .sl _ _ _ _,h,_,_ => by simp [clean] at h
 | .undef,_,v,r => by simp only [cF] at r ⊢; cases r; exact .undef _
 | .eP,_,v,r => by simp only [cF] at r ⊢; cases r; exact .eP _
 | .eT,_,v,r => by simp only [cF] at r ⊢; cases r; exact .eT _
 | .dn,_,v,r => by simp only [cF] at r ⊢; cases r; exact .dn _
 | .int _ _,_,v,r => by simp only [cF] at r ⊢; cases r; exact .int _ _ _
 | .bool _,_,v,r => by simp only [cF] at r ⊢; cases r; exact .bool _ _
 | .str _,_,v,r => by simp only [cF] at r ⊢; cases r; exact .str _ _
theorem yy {R R' : Addr -> Value -> Prop} {φ φ' : dq} {N N' : Names} : ∀ cs,fm cs = true -> ∀ (i : Nat) (d : AV) (u : Value),(k8 N' cs)[i]? = some d -> (∀ z,(k8 N cs)[i]? = some z -> bR R φ z u) -> bR R' φ' d u
 | [],_,i,d,u,h,_ => by simp [k8] at h
 | x :: r,hc,i,d,u,h,hz => by
   simp only [fm,aa] at hc;cases i with
   | zero => simp [k8] at h hz; subst h; exact Bz x hc.1 u hz
   | succ i => simp [k8] at h hz; exact yy r hc.2 i d u h hz
end
mutual
theorem NJ {o : Rt -> Option (Nat × List AV)} {nb : Nat} : ∀ x,clean x = true -> cD o nb x
 | .list _ _,_ => trivial
 | .agg cs,h => by simp only [clean] at h; exact BA cs h
 | .dp cs,h => by simp only [clean] at h; exact BA cs h
 | .own _ _,_ => trivial
 | .dh _,h => by simp [clean] at h
 | .any,h => by simp [clean] at h
 | .func _ _ _,h => by simp [clean] at h
 | .c8 _ _ _ _,h => by simp [clean] at h
 | .ez _ _ _ _,h => by simp [clean] at h
 | .ptr _ _,h => by simp [clean] at h
 | .sl _ _ _ _,h => by simp [clean] at h
 | .undef,_ => trivial
 | .eP,_ => trivial
 | .eT,_ => trivial
 | .dn,_ => trivial
 | .int _ _,_ => trivial
 | .bool _,_ => trivial
 | .str _,_ => trivial
theorem BA {o : Rt -> Option (Nat × List AV)} {nb : Nat} : ∀ cs,fm cs = true -> kF o nb cs
 | [],_ => trivial
 | x :: r,h => by simp only [fm,aa] at h; exact ⟨NJ x h.1,BA r h.2⟩
end
theorem NK {x : AV} (h : clean x = true) : ∀ d ∈ x.cells,clean d = true := by
 have all : ∀ {l : List AV},fm l = true -> ∀ z ∈ l,clean z = true := by
  intro l
  induction l with
  | nil => intro _ z hz; simp at hz
  | cons y r ih =>
    intro h z hz;simp only [fm,aa] at h;rcases aX.1 hz with e | e
    ·subst e; exact h.1
    ·exact ih h.2 z e
 intro d hd;by_cases ha : ∃ cs,x = .agg cs
 ·obtain ⟨cs,rfl⟩ := ha;simp only [clean] at h;exact all h d hd
 ·have : x.cells = [x] := by cases x <;> first | rfl | exact absurd ⟨_,rfl⟩ ha
  rw [this] at hd;simp at hd;subst hd;exact h
theorem Qd {l : List AV} (h : fm l = true) : ∀ z ∈ l,clean z = true := by
 induction l with
 | nil => intro z hz; simp at hz
 | cons y r ih =>
   intro z hz;simp only [fm,aa] at h;rcases aX.1 hz with e | e
   ·subst e; exact h.1
   ·exact ih h.2 z e
theorem vY (N : Names) (i : Nat) {x : AV} (h : bJ x = false) : kJ N i x = cF N x := by
 by_cases ha : ∃ cs,x = .agg cs
 ·obtain ⟨cs,rfl⟩ := ha;simp only [bJ] at h;simp only [kJ,cF];congr 1;apply dA;intro j;rw [fg,v8];cases hc : cs[j]? with
  | none => rfl
  | some d =>
    simp only [cT];congr 1;have := CI h d (aW hc);cases d <;> first | rfl | exact absurd rfl (this _ _)
 ·cases x <;> first | rfl | exact absurd ⟨_,rfl⟩ ha | (simp [bJ] at h; done)
section
variable {P : Program} {X : Nat -> Prop} {φ n8 φ' : dq} {w w1 w' : World} {N N1 N' : Names} {s s' s1 : St} {Ha H1 Ha' : Heap} {t t1 t' : Nat -> Value} {B : Nat -> Nat} {base : Nat} {v va : AV} {v' : Value} {c : dR} {o : Oper} {a : Act} {kd : Kd} {call : Nat -> List AV -> Heap -> Option (AV × Heap)}
theorem Z9 (h : eF X φ w N s Ha t) (hb : (∀ b,b < base -> N.β b = B b) /\ base <= s.H.length) (ad : eZ [] w n8 w1) {k : Nat} {xs : List AV} {H' : Heap} (h1 : eF X n8 w1 N1 ⟨[(0,.own k xs)],H'⟩ H1 t1) (hc : fm xs = true) :
  ∃ φ',dS X φ' w1 B base s (.own k xs) t (t1 0) /\ eZ φ w φ' w1 := by
 have ho1 : av ⟨[(0,.own k xs)],H'⟩ (.s 0) = some (k,xs) := rfl;have eW := h1.own (.s 0) k xs ho1;have hr := h1.env 0;simp only [Am.get,if_true,kJ,jR,qP] at hr;cases hn : N1.ν (.s 0) with
 | none =>
   rw [hn] at eW hr;have hx : xs = [] := eW;subst hx;refine ⟨φ,dS.quiet (h.nI (.of_same ad) (h.heap.of_same ad) h.own (fun _ _ => rfl)) hb trivial (by simp [EO]) ?_,.of_same ad⟩;simp only at hr;simp only [v7];generalize t1 0 = z at hr ⊢;cases hr;exact .dn _
 | some n1 =>
   rw [hn] at eW hr;simp only at hr;obtain ⟨g,sz,lA,hX,kA⟩ := wo h1.heap eW;obtain ⟨cs,c1,c2,c3,c4⟩ := eW;obtain ⟨g',nC,arr,e,f1,f2,f3,f4,f5,f6⟩ := h1.heap.at c1;rw [lA] at f1;cases f1;have hgs : w.heap.size <= g := Nat.le_of_not_lt fun bz => (ad.keep g bz (bN.nil g)).2 ⟨n1,sz,lA⟩;have hfl := j9 c3
   have nI : eZ φ w (φ ++ [some (g,sz)]) w1 := by
    refine ⟨ad.os,ad.tape,ad.output,ad.drawn,ad.size,fun g0 bz jH => ⟨(ad.keep g0 bz (bN.nil g0)).1,fun ho => ?_⟩,⟨by simp,fun b p hb hp => by rwa [ak hb] at hp⟩⟩;rcases zx ho with h2 | h2
    ·exact jH h2
    ·simp at h2; omega
   have hh : b8 X (φ ++ [some (g,sz)]) w1 (Ha ++ [some (aG xs)]) := by
    refine ⟨by simp [h.heap.len],fun g0 hg0 => fw (h.heap.G7 g0 hg0) ad.size,fun b ds wG => ?_,fun b wG => ?_,fun b b' g0 VF sz1 e1 e2 => ?_⟩
    ·by_cases bz : b < Ha.length
     ·rw [ak bz] at wG;obtain ⟨g0,VF,arr0,e0,p1,p2,p3,p4,p5,p6⟩ := h.heap.live b ds wG;refine ⟨g0,VF,arr0,e0,by rw [ak (by rw [h.heap.len]; exact bz)]; exact p1,?_,p3,p4,p5,fun i d hd => ?_⟩
      ·rw [(ad.keep g0 (dX.1 p2).1 (bN.nil g0)).1]; exact p2
      ·obtain ⟨u,u1,u2⟩ := p6 i d hd;exact ⟨u,u1,nI.rep u2⟩
     ·have Db : b = Ha.length := by have := aq wG; simp at this; omega
      subst Db;simp at wG;subst wG;refine ⟨g,sz,arr,e,by rw [<- h.heap.len]; simp,f2,f3,by omega,hX,fun i d hd => ?_⟩;obtain ⟨i',z,j,z1,z2,z3⟩ := (iR c3).2 i d hd;obtain ⟨u,u1,u2,u3⟩ := kA i' j z d z1 z2;refine ⟨u,by rw [iK f2] at u1; rw [z3]; exact u1,?_⟩;have Lt := NK (Qd hc z (aW z1)) d (aW z2);have sd := (mO u2).1;have := Bz (N := N) (N' := N) (R' := Rd X (φ ++ [some (g,sz)]) w1) (φ' := φ ++ [some (g,sz)]) d Lt u (by rw [lC N _ sd]; exact u3)
      rwa [lC N _ sd] at this
    ·by_cases bz : b < Ha.length
     ·rw [ak bz] at wG;rw [ak (by rw [h.heap.len]; exact bz)];exact h.heap.dead b wG
     ·have Db : b = Ha.length := by have := aq wG; simp at this; omega
      subst Db;simp at wG
    ·have new : ∀ (b g0 VF : Nat),(φ ++ [some (g,sz)])[b]? = some (some (g0,VF)) -> (b < φ.length /\ φ[b]? = some (some (g0,VF)) /\ g0 < w.heap.size) \/ (b = φ.length /\ g0 = g) := by
      intro b g0 VF hb;by_cases bz : b < φ.length
      ·rw [ak bz] at hb;exact .inl ⟨bz,hb,(h.heap.iO ⟨b,VF,hb⟩).1⟩
      ·have je := aq hb;simp at je;have Db : b = φ.length := by omega
       subst Db;simp at hb;exact .inr ⟨rfl,hb.1.symm⟩
     rcases new b g0 VF e1 with ⟨l1,q1,g1⟩ | ⟨l1,g1⟩ <;> rcases new b' g0 sz1 e2 with ⟨l2,q2,g2⟩ | ⟨l2,g2⟩
     ·exact h.heap.inj b b' g0 VF sz1 q1 q2
     ·omega
     ·omega
     ·omega
   refine ⟨φ ++ [some (g,sz)],zY h hb nI hh (by omega) c3 (fun i d hd => ?_) ?_,nI⟩
   ·obtain ⟨i',z,j,z1,z2,z3⟩ := (iR c3).2 i d hd;obtain ⟨u,u1,u2,u3⟩ := kA i' j z d z1 z2;exact ⟨u2,d,hd,(mO u2).2,Le.refl _⟩
   ·generalize t1 0 = z at hr;cases hr with
    | sl _ _ _ _ _ ad' cap je jW hh' =>
      refine .sl _ _ _ _ _ _ _ (by simp [h.heap.len]) jW fun g0 VF e0 => ?_;rw [<- h.heap.len] at e0;simp at e0;obtain ⟨rfl,rfl⟩ := e0;exact hh' g sz lA
theorem Zk {X' : Nat -> Prop} (hg : Am.dH (iW c) X φ w) (hx : ∀ g,X' g -> X g \/ bN φ g) : Am.dH (iW c) X' [] w := fun g => (hg g).mono (fun a u ⟨h1,h2,h3⟩ => ⟨fun h => (hx _ h).elim h1 h2,bN.nil _,h3⟩) (.refl _)
theorem Pf (c6 : eQ P c) (ed : iL P c call) (h : SB X φ w B base s (tm a)) (hg : Am.dH (iW c) X φ w) (hk : cN P o.op (mB kd) = true) {f : Nat} {args qJ : List AV} (ha : getArgs c s.env kd = some (f,args)) {md : Md} {q : eB} (hf : c.fn f = some (md,q)) (jV : md.sh = false) (hz : sT s args = some qJ) {r : AV} {H' : Heap} (hc : call f qJ [] = some (r,H')) (hr : Mx r = true) : mF P X φ w B base s r o a := by
 obtain ⟨N,Ha,h,hb⟩ := h;obtain ⟨vargs,nQ,hA,zV⟩ := yt c6 h hg hk ha hf;obtain ⟨z1,z2,z3⟩ := F8 h args qJ hz zV
 have IQ := SB.start (X := X) (w := w) (args := qJ) (vargs := vargs) h.heap.G7 z1 (by rw [z2]; exact hA.1) (fun i x v hx hv => z3 i x v hx (fun z hz => by
  rw [nK] at hz;cases Nq : args[i]? with
  | none => rw [Nq] at hz; cases hz
  | some y => rw [Nq] at hz; simp at hz; subst hz; exact hA.2 i y v Nq hv)) (fun _ => 0)
 have kX := ed f md q hf qJ [] r H' (.inr rfl) hc (fun e => by rw [jV] at e; cases e) X [] w (fun _ => 0) vargs (by rw [z2]; exact hA.1) IQ (Zk hg fun g h => .inl h);intro K Q hK;unfold Oper.wp;rw [nQ,Oper.upon_enter];refine kX.mono ?_;rintro e w1 ⟨v',n8,rfl,⟨N1,H1,iE,_⟩,ad⟩;unfold Mx at hr;simp only [aa] at hr;by_cases ho : ∃ k xs,r = .own k xs
 ·obtain ⟨k,xs,rfl⟩ := ho;obtain ⟨φ',hp,ad'⟩ := Z9 h hb ad iE (by simpa [clean] using hr.1);exact hK v' w1 φ' (by simpa using hp) ad'
 ·have jH : bJ r = false := by
   have := hr.2;cases r <;> first | exact absurd ⟨_,_,rfl⟩ ho | simpa using this
  refine hK v' w1 φ (dS.quiet (h.nI (.of_same ad) (h.heap.of_same ad) h.own (fun _ _ => rfl)) hb (NJ r hr.1) (nx jH) ?_) (.of_same ad);have r0 := iE.env 0;simp only [Am.get,if_true] at r0;rw [vY N1 0 jH] at r0;rw [lD N jH];exact Bz r hr.1 v' r0
theorem Pe (c6 : eQ P c) (ed : iL P c call) (h : SB X φ w B base s (tm a)) (hg : Am.dH (iW c) X φ w) (hk : cN P o.op (mB kd) = true) {f : Nat} {args : List AV} (ha : getArgs c s.env kd = some (f,args)) {md : Md} {q : eB} (hf : c.fn f = some (md,q)) (jV : md.sh = false) (hz : df (args.map iP) = true) {r : AV} {H' : Heap} (hc : call f (args.map iP) [] = some (r,H')) (hr : pl r = true) : mF P X φ w B base s r o a := by
 obtain ⟨N,Ha,h,hb⟩ := h;obtain ⟨vargs,nQ,hA,zV⟩ := yt c6 h hg hk ha hf;have Bn : ∀ a u,Rd X φ w a u -> Rd (fun g => X g \/ bN φ g) [] w a u := fun a u ⟨h1,h2,h3⟩ => ⟨fun h => h.elim h1 h2,bN.nil _,h3⟩
 have IQ := SB.start (X := fun g => X g \/ bN φ g) (w := w) (args := args.map iP) (vargs := vargs) (fun g hg => hg.elim (h.heap.G7 g) (fun ho => (h.heap.iO ho).1)) hz (by simpa using hA.1) (fun i x v hx hv => by
  rw [cU] at hx;cases Nq : args[i]? with
  | none => rw [Nq] at hx; cases hx
  | some y =>
    rw [Nq] at hx;simp at hx;subst hx;have r0 := hA.2 i y v Nq hv;have hpy := fE hz i (iP y) (by rw [cU,Nq]; rfl);by_cases ho : ∃ k,y = .own k []
    ·obtain ⟨k,rfl⟩ := ho;simp only [fB] at r0;cases r0;exact .kL _ _
    ·have hn : iP y = y := by
      unfold iP;split
      ·rename_i k; exact absurd ⟨k,rfl⟩ ho
      ·rfl
     rw [hn] at hpy ⊢;have hy : fB N y = y := by cases y <;> first | exact lC N _ hpy | (simp [pl] at hpy; done)
     rw [hy] at r0;exact (r0.dB (iI _ hpy) []).mono Bn (.refl _)) (fun _ => 0)
 have kX := ed f md q hf (args.map iP) [] r H' (.inr rfl) hc (fun e => by rw [jV] at e; cases e) (fun g => X g \/ bN φ g) [] w (fun _ => 0) vargs (by simpa using hA.1) IQ (Zk hg fun g h => h);intro K Q hK;unfold Oper.wp;rw [nQ,Oper.upon_enter];refine kX.mono ?_;rintro e w1 ⟨v',n8,rfl,⟨N1,H1,iE,_⟩,ad⟩;have jH := x9 hr;refine hK v' w1 φ (dS.quiet (h.nI (.of_same ad) (h.heap.of_same ad) h.own (fun _ _ => rfl)) hb (xd r hr) (nx jH) ?_) (.of_same ad);have r0 := iE.env 0;simp only [Am.get,if_true] at r0;rw [Ar N1 0 hr] at r0;rw [lD N jH,lC N _ hr];exact ((r0.dB (iI _ hr) []).mono (fun a u ⟨h1,_,h3⟩ => ⟨fun h => h1 (.inl h),fun h => h1 (.inr h),h3⟩) (.refl _)).Iy φ
end
end Go.Bm

/- Regions in the order of the text; their ends. -/
namespace Go.Bm
open Go.Am
section
variable {P : Program} {X : Nat -> Prop} {φ n8 φ' : dq} {w w1 w' : World} {N1 N' : Names} {s s' s1 : St} {B : Nat -> Nat} {base : Nat} {v va : AV} {v' : Value} {c : dR} {o : Oper} {a : Act} {kd : Kd} {call : Nat -> List AV -> Heap -> Option (AV × Heap)}
structure An (X : Nat -> Prop) (φ : dq) (w : World) (B : Nat -> Nat) (base : Nat) (s : St) (a : Act) (N : Nat) : Prop where
 sb : SB X φ w B base s (tm a)
 defers : a.defers = []
 size : a.tmps.size = N
theorem adL {a : Act} {d : Option Nat} {v' : Value} (hd : ∀ i,d = some i -> i < a.tmps.size) (j : Nat) : tm (a.put d v') j = if some j = d then v' else tm a j := by
 cases d with
 | none => simp [tm,Act.put]
 | some i =>
   have hi := hd i rfl;simp only [tm,Act.put,aZ];by_cases e : j = i
   ·subst e; simp [hi]
   ·simp [iX (Ne.symm e),e]
theorem An.put {N : Nat} (h : An X φ w B base s a N) (hN : N <= eL) {d : Option Nat} (hd : ∀ i,d = some i -> i < N) (hp : dS X φ' w' B base s1 v (tm a) v') (hs : w9 s1 d v = some s') : ∃ n9,An X n9 w' B base s' (a.put d v') N /\ eZ φ' w' n9 w' := by
 obtain ⟨n9,h1,a1⟩ := aaV (t' := tm (a.put d v')) hp hs (fun e => by have := hd eL e; omega) (fun j => adL (fun i hi => by rw [h.size]; exact hd i hi) j);obtain ⟨h2,h3⟩ := XM a d v';exact ⟨n9,⟨h1,by rw [h3]; exact h.defers,by rw [h2]; exact h.size⟩,a1⟩
theorem dS.undef (h : SB X φ w B base s (tm a)) : dS X φ w B base s .undef (tm a) VC := by
 obtain ⟨N,Ha,h,hb⟩ := h;exact dS.quiet h hb trivial trivial (.undef _)
theorem LH {N : Nat} {ops : Array Oper} {q : O} {fl : Fq} (eK : ∀ v s1 f,eR c call s q.kd = some (v,s1,f) -> mF P X φ w B base s1 v o a) (hc : K4 P N ops o (NG q) = true) (hN : N <= eL)
  (hs : p9 c call s q = some (s',fl)) (hr : An X φ w B base s a N) {K : Act -> World -> Prop} {Q : Exit -> Act -> World -> Prop} (hK : ∀ a' w' φ',An X φ' w' B base s' a' N -> eZ φ w φ' w' -> K a' w') :
  if Region.wanted o (yielded ops a.tmps) then o.wp P a w K Q \/ (o.asks P a w /\ LetsOut Q) else K (a.put o.dst VC) w := by
 simp only [K4,NG,aa,decide_eq_true_eq] at hc;obtain ⟨⟨⟨agM,hd⟩,hgd⟩,_⟩ := hc;have hdst : o.dst = q.dst := of_decide_eq_true agM
 have hd' : ∀ i,o.dst = some i -> i < N := by
  intro i hi;rw [<- hdst,hi] at hd;simpa using hd
 have run : ∀ {v s1 f fl'},eR c call s q.kd = some (v,s1,f) -> z7 s.env q.dst v s1 f = some (s',fl') -> o.wp P a w K Q := by
  intro v s1 f fl' hv hf;unfold z7 at hf;split at hf
  case h_2 => cases hf
  rename_i s2 hp;simp only [ai,aF] at hf;obtain ⟨rfl,_⟩ := hf;refine eK v s1 f hv K Q fun v' w' φ' FV ad => ?_;rw [<- hdst] at hp;obtain ⟨n9,h1,a1⟩ := hr.put hN hd' FV hp;exact hK _ _ n9 h1 (ad.trans a1)
 have no : ∀ {fl'},z7 s.env q.dst .undef s .no = some (s',fl') -> K (a.put o.dst VC) w := by
  intro fl' hf;unfold z7 at hf;split at hf
  case h_2 => cases hf
  rename_i s2 hp;simp only [ai,aF] at hf;obtain ⟨rfl,_⟩ := hf;rw [<- hdst] at hp;obtain ⟨n9,h1,a1⟩ := hr.put hN hd' (dS.undef hr.sb) hp;exact hK _ _ n9 h1 a1
 have agE : ∀ (g : Nat),∃ N1 Ha,bR (Rd X φ w) φ (kJ N1 g (get s.env g)) (tm a g) /\ eF X φ w N1 s Ha (tm a) := fun g => by
  obtain ⟨N1,Ha,h,_⟩ := hr.sb;exact ⟨N1,Ha,h.env g,h⟩
 unfold p9 at hs;split at hs
 ·rename_i hgn;rw [hgn] at hgd;split at hgd
  ·rename_i h1 _;rw [if_pos (by simp [Region.wanted,h1])];split at hs
   ·rename_i v s1 f hv;exact .inl (run hv hs)
   ·cases hs
  ·rename_i h2; simp at h2
  ·cases hgd
 ·rename_i g want hgn;rw [hgn] at hgd;split at hgd
  ·rename_i h2; simp at h2
  ·rename_i j ack g' agX h1 h2;simp only [aa,decide_eq_true_eq] at hgd;obtain ⟨hj,rfl⟩ := hgd;simp at h2;obtain ⟨rfl,rfl⟩ := h2;obtain ⟨N1,Ha,C4,_⟩ := agE g;split at hs
   ·rename_i b hb;rw [hb] at C4;simp only [kJ,jR,cF] at C4;have hv := nM C4;have hy : yielded ops a.tmps j = some b := by unfold yielded; rw [hj]; simp only [Vy]; rw [U7 hv]
    by_cases PT : b = want
    ·subst PT;rw [if_pos (by simp [Region.wanted,h1,hy])];simp only [if_true] at hs;split at hs
     ·rename_i v s1 f hv;exact .inl (run hv hs)
     ·cases hs
    ·rw [if_neg (by simp [Region.wanted,h1,hy,PT])];rw [if_neg PT] at hs;exact no hs
   ·rename_i hb;rw [hb] at C4;simp only [kJ,jR,cF] at C4;generalize hv : tm a g = vg at C4;cases C4
    have hy : yielded ops a.tmps j = none := by
     unfold yielded;rw [hj];simp only [Vy];rcases PV hv with h | h <;> rw [h]
    rw [if_neg (by simp [Region.wanted,h1,hy])];exact no hs
   ·cases hs
  ·cases hgd
def Jx (P : Program) (c : dR) (call : Nat -> List AV -> Heap -> Option (AV × Heap)) : Prop :=
 ∀ X φ w B base s o a kd v s1 f,cN P o.op (mB kd) = true -> eR c call s kd = some (v,s1,f) -> SB X φ w B base s (tm a) -> Am.dH (iW c) X φ w -> mF P X φ w B base s1 v o a
theorem SI (Bp : Jx P c call) {N : Nat} (hN : N <= eL) {ops : Array Oper} {Q : Exit -> Act -> World -> Prop} : ∀ (l : List Oper) (qs : List O) (k : Nat) (s s' : St) (oL : List Fq) (a : Act) (w : World) (φ : dq),
  (∀ j,l[j]? = ops[k + j]?) -> pP P N ops l qs = true -> mn c call qs s = some (s',oL) -> An X φ w B base s a N -> Am.dH (iW c) X φ w -> (∀ a' w' φ',An X φ' w' B base s' a' N -> eZ φ w φ' w' -> Q .normal a' w') ->
  wpOps P ops Q (List.range' k l.length) a w
 | [],qs,k,s,s',oL,a,w,φ,_,hc,hs,hr,hg,hQ => by
   cases qs with
   | nil =>
     simp [mn] at hs;obtain ⟨rfl,rfl⟩ := hs;exact hQ a w φ hr (.refl _ _)
   | cons q r => simp [pP] at hc
 | o :: l,qs,k,s,s',oL,a,w,φ,hl,hc,hs,hr,hg,hQ => by
   cases qs with
   | nil => simp [pP] at hc
   | cons q r =>
     simp only [pP,aa] at hc;simp only [mn] at hs;split at hs
     case h_2 => cases hs
     rename_i s1 fl1 h1;split at hs
     case h_2 => cases hs
     rename_i s2 fl2 h2;simp at hs;obtain ⟨rfl,rfl⟩ := hs;have h0 : ops[k]? = some o := by simpa using (hl 0).symm
     rw [b7,List.range'_succ,wpOps_cons];unfold wpOp;rw [h0]
     have hck : cN P o.op (mB q.kd) = true := by
      have := hc.1;simp only [K4,NG,aa] at this;exact this.2
     refine LH (fun v s1 f hv => Bp X φ w B base s o a q.kd v s1 f hck hv hr.sb hg) hc.1 hN h1 hr fun a' w' φ' xf k' => ?_;exact SI Bp hN l r (k + 1) s1 s2 fl2 a' w' φ' (fun j => by have := hl (j + 1); simpa [Nat.add_assoc,Nat.add_comm 1 j] using this) hc.2 h2 xf (hg.nI k') fun a'' VE n9 h'' wA => hQ a'' VE n9 h'' (k'.trans wA)
theorem CJ {keep : List Nat} : ∀ {e : Env},qD keep e = false -> ∀ i,mem i keep = false -> bJ (get e i) = false
 | [],_,i,_ => rfl
 | (j,v) :: r,h,i,hi => by
   simp only [qD,eM] at h;simp only [Am.get];split
   ·rename_i e;subst e;rw [hi] at h;simpa using h.1
   ·exact CJ h.2 i hi
theorem CK (keep : List Nat) : ∀ (env : Env) (i : Nat),get (pI keep env) i = if mem i keep = true then get env i else .any
 | [],i => by simp [pI,Am.get]
 | (j,u) :: r,i => by
   have ih := CK keep r i;unfold pI;split
   ·rename_i hm;simp only [Am.get];by_cases e : i = j
    ·subst e; simp [hm]
    ·rw [if_neg e,if_neg e]; exact ih
   ·rename_i hm;rw [ih];simp only [Am.get];by_cases e : i = j
    ·subst e; simp [hm]
    ·rw [if_neg e]
theorem TB {t : Nat -> Value} (h : SB X φ w B base s t) {keep : List Nat} (ho : qD keep s.env = false) : SB X φ w B base (ZA base keep s) t := by
 obtain ⟨N,Ha,h,hb,hl⟩ := h
 have h1 : eF X φ w N ⟨pI keep s.env,s.H⟩ Ha t := h.keep (fun i => by
  rw [CK];cases hm : mem i keep with
  | true => exact .inl (by simp)
  | false => exact .inr ⟨by simp,CJ ho i hm⟩) rfl
 refine ⟨N,Ha,h1.trim (base0 := base) s.H.length,hb,?_⟩
 have len : ∀ (n : Nat) (H : Heap),base <= H.length -> base <= (trim base (pI keep s.env) n H).length := by
  intro n
  induction n with
  | zero => intro H h; exact h
  | succ n ih =>
    intro H h;simp only [trim];split
    ·rename_i hc;exact ih _ (by simp; omega)
    ·exact h
 exact len _ _ hl
theorem abx {t : Nat -> Value} (h : SB X φ w B base s t) {keep : List Nat} (he : PZ base keep s = some s') : ∃ φ',SB X φ' w B base s' t /\ eZ φ w φ' w := by
 unfold PZ at he;split at he
 ·split at he
  ·cases he
  rename_i ho;simp at he ho;subst he;obtain ⟨n8,h1,a1⟩ := SB.nG keep s.env h;exact ⟨n8,TB h1 ho,a1⟩
 ·rename_i ho;simp at he ho;subst he;exact ⟨φ,TB h ho,.refl _ _⟩
end
end Go.Bm

/- A run of the compact code by value is a run of the dump's code. -/
namespace Go.Bm
open Go.Am
section
variable {P : Program} {c : dR}
def GV (P : Program) (c : dR) (call : Nat -> List AV -> Heap -> Option (AV × Heap)) : Prop :=
 ∀ X φ w B base s s' oL a N id ops os un (Q : Exit -> Act -> World -> Prop),N <= eL -> pP P N ops ops.toList os = true -> nA un [] [] ops.toList os = true -> mn c call os s = some (s',oL) -> Jc os oL un = true -> An X φ w B base s a N -> Am.dH (iW c) X φ w ->
  (∀ a' w' φ',An X φ' w' B base s' a' N -> eZ φ w φ' w' -> Q .normal a' w') -> (Code.region id ops true).wp P Q a w
def NV (P : Program) (c : dR) (n : Nat) : Prop := ∀ (N base : Nat) (code : Code) (cd : C) (s s' : St) (e : Ex),N <= eL -> Hs P N code cd = true -> cC c n base cd s = some (e,s') -> ∀ X φ w B a,An X φ w B base s a N -> Am.dH (iW c) X φ w ->
 ∀ Q : Exit -> Act -> World -> Prop,(∀ a' w' φ',An X φ' w' B base s' a' N -> eZ φ w φ' w' -> Q e.to a' w') -> code.wp P Q a w
theorem DM (H1 : ∀ call,iL P c call -> Jx P c call) (H2 : ∀ call,iL P c call -> GV P c call) (H3 : ∀ n,NV P c n -> iL P c (mQ c (cC c n))) : ∀ n,NV P c n
 | 0 => fun N base code cd s s' e _ _ h => by simp [cC] at h
 | n + 1 => by
   have ih := DM H1 H2 H3 n;have ed := H3 n ih;intro N base code cd s s' e hN hc h X φ w B a hr hg Q hQ;unfold Hs at hc;split at hc
   case h_1 => simp [cC] at h; obtain ⟨rfl,rfl⟩ := h; exact wp_skip (hQ a w φ hr (.refl _ _))
   case h_2 => simp [cC] at h; obtain ⟨rfl,rfl⟩ := h; exact wp_ret (hQ a w φ hr (.refl _ _))
   case h_3 =>
    simp only [decide_eq_true_eq] at hc;subst hc;simp [cC] at h; obtain ⟨rfl,rfl⟩ := h; exact wp_exit (hQ a w φ hr (.refl _ _))
   case h_4 =>
    rename_i id ops d os dr un keep;simp only [aa,decide_eq_true_eq] at hc;obtain ⟨⟨rfl,dx⟩,ho⟩ := hc;simp only [cC] at h;split at h
    case h_2 => cases h
    rename_i s1 oL hs;split at h
    case isFalse => cases h
    rename_i hd;split at h
    case h_2 => cases h
    rename_i s2 he;simp at h;obtain ⟨rfl,rfl⟩ := h
    have hQ' : ∀ a' w' φ',An X φ' w' B base s1 a' N -> eZ φ w φ' w' -> Q .normal a' w' := fun a' w' φ' h k => by
     obtain ⟨n9,h2,a2⟩ := abx h.sb he;exact hQ a' w' n9 ⟨h2,h.defers,h.size⟩ (k.trans a2)
    cases d with
    | false =>
      refine wp_region ?_;rw [List.range_eq_range',<- Array.length_toList];exact SI (H1 _ ed) hN ops.toList os 0 s s1 oL a w φ (fun j => by simp) dx hs hr hg hQ'
    | true =>
      simp at ho;exact H2 _ ed X φ w B base s s1 oL a N id ops os un Q hN dx ho hs (by simpa using hd) hr hg hQ'
   case h_5 =>
    rename_i x y cx cy;simp only [aa] at hc;simp only [cC] at h;refine wp_seq ?_;cases h1 : cC c n base cx s with
    | none => rw [h1] at h; cases h
    | some p =>
      obtain ⟨e1,s1⟩ := p;rw [h1] at h;cases e1 with
      | normal =>
        simp only at h;exact ih N base x cx s s1 .normal hN hc.1 h1 X φ w B a hr hg _ fun a' w' φ' xf k => ih N base y cy s1 s' e hN hc.2 h X φ' w' B a' xf (hg.nI k) Q fun a'' VE n9 YT wA => hQ a'' VE n9 YT (k.trans wA)
      | exit id => simp at h; obtain ⟨rfl,rfl⟩ := h; exact ih N base x cx s s1 _ hN hc.1 h1 X φ w B a hr hg _ fun a' w' φ' xf k => hQ a' w' φ' xf k
      | ret => simp at h; obtain ⟨rfl,rfl⟩ := h; exact ih N base x cx s s1 _ hN hc.1 h1 X φ w B a hr hg _ fun a' w' φ' xf k => hQ a' w' φ' xf k
   case h_6 =>
    rename_i x ca cb y da db;simp only [aa] at hc;simp only [cC] at h;split at h
    case h_2 => cases h
    rename_i t ht
    have r : a.eval x = .bool t := by
     obtain ⟨N1,Ha,hsim,_⟩ := hr.sb;have ho := cj (c := c) (cA := iW c) hsim rfl hc.1.1;have := bQ (c := iW c) (env := yF N1 s.env) (a := a) (fun i => by rw [mz]; exact hsim.env i) hg hc.1.1;rw [ho.ev,ht] at this;exact nM this
    refine wp_cond (t := t) r ?_;cases t with
    | true => simp at h ⊢; exact ih N base ca da s s' e hN hc.1.2 h X φ w B a hr hg Q hQ
    | false => simp at h ⊢; exact ih N base cb db s s' e hN hc.2 h X φ w B a hr hg Q hQ
   case h_7 =>
    rename_i i b j x;simp only [aa,decide_eq_true_eq] at hc;obtain ⟨rfl,hc⟩ := hc;simp only [cC] at h;refine wp_block ?_;cases h1 : cC c n base x s with
    | none => rw [h1] at h; cases h
    | some p =>
      obtain ⟨e1,s1⟩ := p;rw [h1] at h;refine ih N base b x s s1 e1 hN hc h1 X φ w B a hr hg _ fun a' w' φ' xf k => ?_;cases e1 with
      | normal => simp at h; obtain ⟨rfl,rfl⟩ := h; exact hQ a' w' φ' xf k
      | ret => simp at h; obtain ⟨rfl,rfl⟩ := h; exact hQ a' w' φ' xf k
      | exit id =>
        simp only at h;split at h
        ·rename_i pZ;simp at h; obtain ⟨rfl,rfl⟩ := h;simp only [Ex.to,Exit.inBlock,pZ,if_true];exact hQ a' w' φ' xf k
        ·rename_i pZ;simp at h; obtain ⟨rfl,rfl⟩ := h;simp only [Ex.to,Exit.inBlock,pZ,if_false];exact hQ a' w' φ' xf k
   case h_8 =>
    rename_i b x;simp only [cC] at h
    have key : ∀ m,m <= n -> ∀ s a w φ,cC c m base (.loop x) s = some (e,s') -> An X φ w B base s a N -> Am.dH (iW c) X φ w -> (∀ a' w' φ',An X φ' w' B base s' a' N -> eZ φ w φ' w' -> Q e.to a' w') -> LW P b Q a w := by
     intro m
     induction m with
     | zero => intro _ s a w φ h; simp [cC] at h
     | succ m ihm =>
       intro hm s a w φ h hr hg hQ;simp only [cC] at h;refine LW.step ?_;have UT : NV P c m := DM H1 H2 H3 m;cases h1 : cC c m base x s with
       | none => rw [h1] at h; cases h
       | some p =>
         obtain ⟨e1,s1⟩ := p;rw [h1] at h;refine UT N base b x s s1 e1 hN hc h1 X φ w B a hr hg _ fun a' w' φ' xf k => ?_;cases e1 with
         | normal => simp only at h; exact ihm (by omega) s1 a' w' φ' h xf (hg.nI k) fun a'' VE n9 YT wA => hQ a'' VE n9 YT (k.trans wA)
         | exit id => simp at h; obtain ⟨rfl,rfl⟩ := h; exact hQ a' w' φ' xf k
         | ret => simp at h; obtain ⟨rfl,rfl⟩ := h; exact hQ a' w' φ' xf k
    refine LW.loop (LW.step ?_);cases h1 : cC c n base x s with
    | none => rw [h1] at h; cases h
    | some p =>
      obtain ⟨e1,s1⟩ := p;rw [h1] at h;refine ih N base b x s s1 e1 hN hc h1 X φ w B a hr hg _ fun a' w' φ' xf k => ?_;cases e1 with
      | normal => simp only at h; exact key n (ba _) s1 a' w' φ' h xf (hg.nI k) fun a'' VE n9 YT wA => hQ a'' VE n9 YT (k.trans wA)
      | exit id => simp at h; obtain ⟨rfl,rfl⟩ := h; exact hQ a' w' φ' xf k
      | ret => simp at h; obtain ⟨rfl,rfl⟩ := h; exact hQ a' w' φ' xf k
   case h_9 => simp [cC] at h; obtain ⟨rfl,rfl⟩ := h; exact wp_label (hQ a w φ hr (.refl _ _))
   case h_10 =>
    rename_i b x;simp only [cC] at h;cases n with
    | zero => simp [cC] at h
    | succ n' =>
      rw [show cC c (n' + 1) base .skip s = some (.normal,s) from rfl] at h;simp only at h;refine wp_scope_straight (ih N base b x s s' e hN hc h X φ w B a hr hg _ fun a' w' φ' xf k => ?_);have hq := hQ a' w' φ' xf k;cases e <;> exact hq
   case h_11 => cases hc
end
end Go.Bm

/- What a function returns. -/
namespace Go.Bm
open Go.Am
section
variable {P : Program} {X : Nat -> Prop} {φ n8 φ' : dq} {w w1 w' : World} {N N1 N' : Names} {s s' s1 : St} {Ha : Heap} {B : Nat -> Nat} {base : Nat} {v va : AV} {v' : Value} {c : dR} {a : Act} {call : Nat -> List AV -> Heap -> Option (AV × Heap)}
theorem adU (h : eF X φ w N s Ha (tm a)) (hg : Am.dH (iW c) X φ w) {rv : Rv} {x : AV} (hx : Uo c s rv = some x) : ∃ xa,WH Ha (yF N s.env) rv = some xa /\ Le (cF N x) xa /\ cD (av s) s.H.length x /\ bJ x = false := by
 cases rv with
 | t i =>
   simp only [Uo,ai] at hx;subst hx;refine ⟨_,rfl,?_,SM h i,MS _ _⟩;rw [mz,<- QC];exact Le.refl _
 | c i ag =>
   simp only [Uo] at hx;split at hx
   case h_2 => cases hx
   rename_i u ps hp;simp at hx;subst hx;obtain ⟨va,fl,e,hle,h2,h3⟩ := adj (a := a) h hg (x := .t i) (o' := .tmp i) (by simp [mC,cZ]) hp
   have jH : bJ u = false := by
    have rd : ∀ {cs : List AV},JV ag cs = some u -> bJ u = false := by
     intro cs hu;unfold JV at hu;split at hu
     case h_2 => cases hu
     split at hu
     ·cases hu
     rename_i jH;simp at hu jH;subst hu;exact jH
    unfold ya at hp;split at hp
    ·split at hp
     ·rename_i hu; simp at hp; obtain ⟨rfl,_⟩ := hp; exact rd hu
     ·cases hp
    ·split at hp
     ·split at hp
      ·rename_i hu; simp at hp; obtain ⟨rfl,_⟩ := hp; exact rd hu
      ·cases hp
     ·cases hp
    ·split at hp
     ·split at hp
      ·split at hp
       ·split at hp
        ·rename_i hu; simp at hp; obtain ⟨rfl,_⟩ := hp; exact rd hu
        ·cases hp
       ·cases hp
      ·cases hp
     ·cases hp
    ·cases hp
   rw [lD N jH] at hle;refine ⟨va,?_,hle,h2,jH⟩;simp only [mB,mC,fc,Am.ev] at e;simp only [WH];split at e
   ·rename_i cs dx;rw [dx];split at e
    ·rename_i u' KU; simp at e; obtain ⟨rfl,_⟩ := e; exact KU
    ·cases e
   ·rename_i b off dx;rw [dx];split at e
    ·rename_i cs hb;simp only [hb];split at e
     ·rename_i u' KU; simp at e; obtain ⟨rfl,_⟩ := e; exact KU
     ·cases e
    ·cases e
   ·cases e
theorem QV (h : eF X φ w N s Ha (tm a)) (hg : Am.dH (iW c) X φ w) : ∀ {rvs : List Rv} {xs : List AV},oR c s rvs = some xs -> ∃ TZ,Mb Ha (yF N s.env) rvs = some TZ /\ TZ.length = xs.length /\ (∀ (i : Nat) (x y : AV),xs[i]? = some x -> TZ[i]? = some y -> Le (cF N x) y) /\ kF (av s) s.H.length xs /\ ∀ x ∈ xs,bJ x = false
 | [],xs,hx => by simp [oR] at hx; subst hx; exact ⟨[],rfl,rfl,fun i x y h => by simp at h,trivial,fun x hx => by simp at hx⟩
 | r :: rs,xs,hx => by
   simp only [oR] at hx;split at hx
   case h_2 => cases hx
   rename_i u us h1 h2;simp at hx;subst hx;obtain ⟨xa,a1,a2,a3,a4⟩ := adU h hg h1;obtain ⟨TZ,b1,b2,b3,b4,b5⟩ := QV h hg h2;refine ⟨xa :: TZ,by simp only [Mb,a1,b1],by simp [b2],fun i x y hx hy => ?_,⟨a3,b4⟩,fun x hx => ?_⟩
   ·cases i with
    | zero => simp at hx hy; subst hx hy; exact a2
    | succ i => simp at hx hy; exact b3 i x y hx hy
   ·rcases aX.1 hx with e | e
    ·subst e; exact a4
    ·exact b5 x e
theorem VV (h : eF X φ w N s Ha (tm a)) (hg : Am.dH (iW c) X φ w) {rvs : List Rv} {xs : List AV} (hx : oR c s rvs = some xs) : ∃ TZ,Mb Ha (yF N s.env) rvs = some TZ /\ Le (cF N (nJ xs)) (nJ TZ) /\ cD (av s) s.H.length (nJ xs) /\ bJ (nJ xs) = false := by
 obtain ⟨TZ,b1,b2,b3,b4,b5⟩ := QV h hg hx;refine ⟨TZ,b1,?_⟩
 match xs,TZ,b2 with
 | [],[],_ => exact ⟨Le.refl _,trivial,rfl⟩
 | [x],[y],_ => exact ⟨b3 0 x y rfl rfl,b4.1,b5 x (by simp)⟩
 | x :: x2 :: xs,y :: y2 :: ys,hl =>
   refine ⟨fun R φ v r => ?_,b4,rfl⟩;simp only [nJ,cF] at r ⊢;cases r with
   | dp _ _ vs IV hh => exact .dp _ _ _ (by rw [dO,<- hl]; exact IV) (fun i d u hd hu => by
     rw [v8] at hd;cases hc : (x :: x2 :: xs)[i]? with
     | none => rw [hc] at hd; cases hd
     | some z =>
       rw [hc] at hd;simp at hd;subst hd;obtain ⟨y',IP⟩ := bg (l := y :: y2 :: ys) (i := i) (by have := aq hc; omega);exact b3 i z y' hc IP _ _ _ (hh i y' u IP hu))
theorem SB.val (h : SB X φ w B base s (tm a)) {r : AV} (hp : pl r = true) {v' : Value} (hr : bR (Rd X [] w) [] r v') (B' : Nat -> Nat) : ∃ φ',SB X φ' w B' 0 ⟨[(0,r)],[]⟩ (fun i => if i = 0 then v' else undef) /\ eZ φ w φ' w := by
 obtain ⟨N,Ha,h,hb⟩ := h
 have jH : ∀ g,¬ bN (aM φ.length none) g := fun g ⟨b,sz,e⟩ => by
  rw [jf] at e;split at e <;> simp at e
 refine ⟨aM φ.length none,?_,⟨rfl,rfl,rfl,ba _,ba _,fun g hg ho => ⟨rfl,jH g⟩,⟨by simp,fun b p hb e => by rw [jf] at e; split at e <;> simp at e⟩⟩⟩;have Du : ∀ i,get [(0,r)] i = if i = 0 then r else .any := fun i => by simp only [Am.get]
 have sd : ∀ i,pl (get [(0,r)] i) = true := fun i => by rw [Du]; split; exact hp; rfl
 have hnoo : ∀ p,av ⟨[(0,r)],[]⟩ p = none := by
  intro p;cases p with
  | s i => exact (dV (s := ⟨[(0,r)],[]⟩) (x9 (sd i))).1
  | sc i j => exact (dV (s := ⟨[(0,r)],[]⟩) (x9 (sd i))).2 j
  | c b j => unfold av; simp [at_,aJ]
 refine ⟨⟨fun _ => 0,fun _ => none⟩,aM φ.length none,⟨fun i => ?_,fun i => xd _ (sd i),⟨by simp,h.heap.G7,fun b cs hb => ?_,fun b hb => ?_,fun b b' g sz nC h1 => ?_⟩,fun p k xs e => ?_,fun b cs e => ?_,fun p q n e1 => ?_,fun b p e1 => ?_,fun b d e1 => ?_⟩,fun b hb => by omega,Lo _⟩
 ·have hr2 : bR (Rd X (aM φ.length none) w) (aM φ.length none) r v' := (hr.mono (R' := Rd X (aM φ.length none) w) (fun a u h => ⟨h.1,jH _,h.2.2⟩) (.refl _)).Iy _;show bR _ _ (kJ _ i (get [(0,r)] i)) (if i = 0 then v' else undef);rw [Ar _ _ (sd i),Du];by_cases e : i = 0
  ·rw [if_pos e,if_pos e]; exact hr2
  ·rw [if_neg e,if_neg e]; exact .any _ _
 ·rw [jf] at hb; split at hb <;> simp at hb
 ·have := aq hb;rw [jf];simp at this;rw [if_pos this]
 ·rw [jf] at h1; split at h1 <;> simp at h1
 ·rw [hnoo] at e; cases e
 ·simp [aJ] at e
 ·rw [hnoo] at e1; cases e1
 ·simp [aJ] at e1
 ·simp [aJ] at e1
end
end Go.Bm

/- The end of a function that sees no boxes of others. -/
namespace Go.Bm
open Go.Am
section
variable {P : Program} {X : Nat -> Prop} {φ n8 φ' : dq} {w w1 w' : World} {N N1 N' : Names} {s s' s1 : St} {Ha : Heap} {B : Nat -> Nat} {base : Nat} {v va : AV} {v' : Value} {c : dR} {a : Act} {call : Nat -> List AV -> Heap -> Option (AV × Heap)}
theorem SB.own1 (h : eF X φ w N s Ha (tm a)) {p : Rt} {k len : Nat} {xs : List AV} (hp : av s p = some (k,xs)) (hle : len <= xs.length) (hr : bR (Rd X φ w) φ (cF N (.c8 k p 0 len)) v') (B' : Nat -> Nat) : SB X φ w B' 0 ⟨[(0,.own k (xs.take len))],[]⟩ (fun i => if i = 0 then v' else undef) := by
 have Du : ∀ i,get [(0,AV.own k (xs.take len))] i = if i = 0 then .own k (xs.take len) else .any := fun i => by simp only [Am.get]
 have hlen : (xs.take len).length = len := by simp; omega
 have eW : ∀ q k' ys,av ⟨[(0,.own k (xs.take len))],[]⟩ q = some (k',ys) -> q = .s 0 /\ k' = k /\ ys = xs.take len := by
  intro q k' ys e;have e' := bZ.1 e;cases q with
  | s i =>
    simp only [at_,Du,ai] at e';by_cases hi : i = 0
    ·subst hi; simp at e'; exact ⟨rfl,e'.1.symm,e'.2.symm⟩
    ·rw [if_neg hi] at e'; cases e'
  | sc i j =>
    simp only [at_,Du] at e';by_cases hi : i = 0
    ·subst hi; simp at e'
    ·rw [if_neg hi] at e'; cases e'
  | c b j => simp [at_,aJ] at e'
 have one : ∀ {q},(av ⟨[(0,.own k (xs.take len))],[]⟩ q).isSome -> q = .s 0 := by
  intro q hq;obtain ⟨⟨k',ys⟩,e⟩ := aU.1 hq;exact (eW q k' ys e).1
 refine ⟨⟨N.β,fun q => N.ν p⟩,Ha,⟨fun i => ?_,fun i => ?_,h.heap,fun q k' ys e => ?_,fun b cs e => ?_,fun q r n e1 e2 _ _ => ?_,fun b q e1 => ?_,fun b d e1 => ?_⟩,fun b hb => by omega,Lo _⟩
 ·show bR _ _ (kJ _ i (get [(0,AV.own k (xs.take len))] i)) (if i = 0 then v' else undef);rw [Du];by_cases e : i = 0
  ·rw [if_pos e,if_pos e];simp only [kJ,jR,qP,hlen];simp only [cF,q8] at hr;exact hr
  ·rw [if_neg e,if_neg e]; exact .any _ _
 ·show cD _ _ (get [(0,AV.own k (xs.take len))] i);rw [Du];split <;> trivial
 ·obtain ⟨rfl,rfl,rfl⟩ := eW q k' ys e;exact (h.own p k' xs hp).take
 ·simp [aJ] at e
 ·rw [one e1,one e2]
 ·simp [aJ] at e1
 ·simp [aJ] at e1
theorem abr (h : eF X φ w N s Ha (tm a)) (hb : (∀ b,b < base -> N.β b = B b) /\ base <= s.H.length) (hv : bR (Rd X φ w) φ (cF N v) v') (hk : cD (av s) s.H.length v) (jH : bJ v = false) {md : Md} {r : AV} {H' : Heap} (jV : md.sh = false) (hf : aV md base s v = some (r,H')) (B' : Nat -> Nat) :
  H' = [] /\ ∃ φ',SB X φ' w B' 0 ⟨[(0,r)],[]⟩ (fun i => if i = 0 then v' else undef) /\ eZ φ w φ' w := by
 have Bn : ∀ a u,Rd X φ w a u -> Rd X [] w a u := fun a u ⟨h1,_,h3⟩ => ⟨h1,bN.nil _,h3⟩;unfold aV at hf;rw [jV] at hf;simp only [bO,if_false] at hf;split at hf
 ·split at hf
  case isFalse => cases hf
  split at hf
  case h_2 => cases hf
  rename_i r' hr;simp at hf;obtain ⟨rfl,rfl⟩ := hf;refine ⟨rfl,?_⟩;unfold V6 V5 at hr;split at hr
  ·rename_i k p len;split at hr
   case h_2 => cases hr
   rename_i k' xs hp;split at hr
   case isFalse => cases hr
   rename_i hc;obtain ⟨rfl,hle⟩ := hc;simp at hr;subst hr;exact ⟨φ,SB.own1 h hp hle hv B',.refl _ _⟩
  ·simp [bJ] at jH
  ·rename_i h1 h2;split at hr
   case isFalse => cases hr
   rename_i sd;simp at hr;subst hr;rw [lC N _ sd] at hv;exact SB.val (base := base) (B := B) ⟨N,Ha,h,hb⟩ sd ((hv.dB (iI _ sd) []).mono Bn (.refl _)) B'
 ·split at hf
  case h_2 => cases hf
  rename_i r' hr;simp at hf;obtain ⟨rfl,rfl⟩ := hf;obtain ⟨p1,p2⟩ := Nw h v r' hr hk;exact ⟨rfl,SB.val (base := base) (B := B) ⟨N,Ha,h,hb⟩ p1 (p2 _ hv) B'⟩
def vT (P : Program) (c : dR) : Prop := ∀ f g md q,c.orc f = some g -> c.fn f = some (md,q) -> ∀ args H r H',(md.sh = true \/ H = []) -> g args H = some (r,H') -> (md.sh = true -> cO H' = true) -> ∀ X φ w B (vargs : Array Value),args.length = vargs.size -> SB X φ w B H.length ⟨dJ 0 args,H⟩ (fun i => vargs.getD i undef) -> Am.dH (iW c) X φ w -> Calls P f vargs w (Lk X φ w B H.length r H')
def ShOK (P : Program) (c : dR) (n : Nat) : Prop := ∀ f md q,c.fn f = some (md,q) -> md.sh = true -> ∀ args H r H',mQ c (cC c n) f args H = some (r,H') -> cO H' = true -> ∀ X φ w B (vargs : Array Value),args.length = vargs.size -> SB X φ w B H.length ⟨dJ 0 args,H⟩ (fun i => vargs.getD i undef) -> Am.dH (iW c) X φ w -> Calls P f vargs w (Lk X φ w B H.length r H')
theorem Jq (c6 : eQ P c) (vA : vT P c) {n : Nat} (hs : NV P c n) (jV : ShOK P c n) : iL P c (mQ c (cC c n)) := by
 intro f md q hf args H r H' hH h kG X φ w B vargs hl IQ hg;by_cases hm : md.sh = true
 ·exact jV f md q hf hm args H r H' h (kG hm) X φ w B vargs hl IQ hg
 have U1 : md.sh = false := by simpa using hm
 have hH' : H = [] := hH.elim (fun e => absurd e hm) id;subst hH';unfold mQ at h;split at h
 ·rename_i x C8;unfold O8 at C8;split at C8
  case h_2 => cases C8
  rename_i g Ls;rw [h] at C8;replace h := C8;exact vA f g md q Ls hf args [] r H' (.inr rfl) h kG X φ w B vargs hl IQ hg
 ·rw [hf] at h;simp only at h;split at h
  case isFalse => cases h
  rename_i hle;obtain ⟨fn,h1,h2⟩ := c6.fn f md q hf;simp only [bK,aa,decide_eq_true_eq] at h2;obtain ⟨⟨⟨⟨hn,agI⟩,_⟩,hres⟩,rU⟩ := h2;split at rU
  case h_2 => cases rU
  rename_i code hb;have zU : (vargs ++ pq (fn.ntmps - vargs.size) undef).size = q.n := by simp; omega
  have htm : tm { tmps := vargs ++ pq (fn.ntmps - vargs.size) undef,defers := [] } = fun i => vargs.getD i undef := by
   funext i;simp only [tm,aZ];by_cases hi : i < vargs.size
   ·rw [qL hi]
   ·rw [GX (by omega),kS];rw [Array.getElem?_eq_none (by omega)];split <;> rfl
  have hS : An X φ w B 0 ⟨dJ 0 args,[]⟩ { tmps := vargs ++ pq (fn.ntmps - vargs.size) undef,defers := [] } q.n := ⟨by rw [htm]; exact IQ,rfl,zU⟩
  have fin : ∀ {e : Ex} {s : St} {vs : List AV},cC c n 0 q.body ⟨dJ 0 args,[]⟩ = some (e,s) -> (e = .ret \/ e = .normal) -> oR c s q.res = some vs -> aV md 0 s (nJ vs) = some (r,H') -> Calls P f vargs w (Lk X φ w B 0 r H') := by
   intro e s vs he hre Lq PO;refine calls_of_wp h1 hb (hs q.n 0 code q.body _ s e (by omega) rU he X φ w B _ hS hg _ fun a' w' φ' hS' sS => ?_);obtain ⟨N,Ha,wg,hbB⟩ := hS'.sb;obtain ⟨TZ,x1,x2,x3,x4⟩ := VV wg (hg.nI sS) Lq;obtain ⟨v,k1,k2⟩ := BG (P := P) (s := ⟨yF N s.env,Ha⟩) (ts := a'.tmps) (fun i => by rw [mz]; exact wg.env i) wg.heap hres x1;obtain ⟨rfl,kT,s2,a2⟩ := abr wg hbB (x2 _ _ _ k2) x3 x4 U1 PO B;have : bodyPost P fn (Lk X φ w B 0 r []) .ret a' w' := ⟨hS'.defers,v,k1,v,kT,rfl,s2,sS.trans a2⟩;rcases hre with rfl | rfl
   ·exact this
   ·exact this
  split at h
  ·rename_i s he;split at h
   ·rename_i vs Lq;exact fin he (.inl rfl) Lq h
   ·cases h
  ·rename_i s he;split at h
   ·rename_i vs Lq;exact fin he (.inr rfl) Lq h
   ·cases h
  ·cases h
end
end Go.Bm

/- Every operation, given the calls that share boxes. -/
namespace Go.Bm
open Go.Am
section
variable {P : Program} {c : dR} {call : Nat -> List AV -> Heap -> Option (AV × Heap)}
def GU (P : Program) (c : dR) (call : Nat -> List AV -> Heap -> Option (AV × Heap)) : Prop :=
 ∀ X φ w B base s (o : Oper) (a : Act) kd f args md q r H',cN P o.op (mB kd) = true -> SB X φ w B base s (tm a) -> Am.dH (iW c) X φ w -> getArgs c s.env kd = some (f,args) -> c.fn f = some (md,q) -> md.sh = true -> cI (args.map iP) = true -> cO s.H = true -> aK r = [] -> bJ r = false -> cO H' = true -> call f (args.map iP) s.H = some (r,H') -> mF P X φ w B base ⟨kf eC s.env,H'⟩ r o a
theorem Ux (c6 : eQ P c) (ed : iL P c call) (jV : GU P c call) {X : Nat -> Prop} {φ : dq} {w : World} {B : Nat -> Nat} {base : Nat} {s s1 : St} {o : Oper} {a : Act} {kd : Kd} {v : AV} {fq : Fq} (hk : cN P o.op (mB kd) = true) (h : SB X φ w B base s (tm a)) (hg : Am.dH (iW c) X φ w) (hs : dG c call kd s = some (v,s1,fq)) : mF P X φ w B base s1 v o a := by
 unfold dG at hs;split at hs
 ·cases hs
 rename_i f args ha;split at hs
 ·cases hs
 rename_i md q hf;split at hs
 ·rename_i hmd;simp only [aa,bD] at hmd;split at hs
  ·cases hs
  rename_i qJ hz;split at hs
  case h_2 => cases hs
  rename_i r H' hc;split at hs
  case isFalse => cases hs
  rename_i hr;simp only [ai,aF] at hs;obtain ⟨rfl,rfl,_⟩ := hs;exact Pf c6 ed h hg hk ha hf hmd.2 hz hc hr
 ·obtain ⟨n8,h1,a1⟩ := SB.dC (cY args) h;refine mF.ghost a1 ?_;split at hs
  ·cases hs
  rename_i f1 nY Ns;split at hs
  case isFalse => cases hs
  rename_i Zb;subst Zb;split at hs
  ·rename_i hm;split at hs
   case isFalse => cases hs
   rename_i hp;split at hs
   case h_2 => cases hs
   rename_i r H' hc;split at hs
   case isFalse => cases hs
   rename_i hr;simp only [ai,aF] at hs;obtain ⟨rfl,rfl,_⟩ := hs;simp only [aa,bD] at hp hr;exact jV X n8 w B base _ o a kd f1 nY md q r H' hk h1 (hg.nI a1) Ns hf hm hp.1 hp.2 (eG.1 hr.1.1) hr.1.2 hr.2 hc
  ·rename_i hm;split at hs
   case isFalse => cases hs
   rename_i hp;split at hs
   case h_2 => cases hs
   rename_i r H' hc;split at hs
   case isFalse => cases hs
   rename_i hr;simp only [ai,aF] at hs;obtain ⟨rfl,rfl,_⟩ := hs;exact Pe c6 ed h1 (hg.nI a1) hk Ns hf (by simpa using hm) hp hc hr
def Lm (w : World) (og : Option Nat) (k : Nat) (ys : List AV) (e : Ending) (w' : World) : Prop :=
 ∃ (g' Hu : Nat) (arr' : Array Value) (e' : TypeId),e = .returned (.slice (some ⟨g',0,none⟩) ys.length Hu) /\ ys.length <= Hu /\ Hu * k <= arr'.size /\ w'.heap[g']? = some (.cells arr' e' (0,0)) /\
  (∀ (i : Nat) (d : AV),(aG ys)[i]? = some d -> ∃ u,arr'[i]? = some u /\ bR (fun _ _ => False) [] d u) /\ (og = some g' \/ w.heap.size <= g') /\
  (∀ h,h < w.heap.size -> og ≠ some h -> w'.heap[h]? = w.heap[h]?) /\ w'.os = w.os /\ w'.tape = w.tape /\ w'.output = w.output /\ w.drawn <= w'.drawn /\ w.heap.size <= w'.heap.size
abbrev ach (T : Nat -> Nat -> Addr -> Value -> Prop) (w : World) (og : Option Nat) (k : Nat) (ys : List AV) (e : Ending) (w' : World) : Prop :=
 ∃ (g' Hu : Nat) (arr' : Array Value) (e' : TypeId) (a' : Addr),e = .returned (.slice (some a') ys.length Hu) /\ (0 < Hu -> a' = ⟨g',0,none⟩) /\ ys.length <= Hu /\ Hu * k <= arr'.size /\ w'.heap[g']? = some (.cells arr' e' (0,0)) /\
  (∀ (i : Nat) (d : AV),(aG ys)[i]? = some d -> ∃ u,arr'[i]? = some u /\ bR (T g' arr'.size) [] d u) /\ (og = some g' \/ w.heap.size <= g') /\
  (∀ h,h < w.heap.size -> og ≠ some h -> w'.heap[h]? = w.heap[h]?) /\ w'.os = w.os /\ w'.tape = w.tape /\ w'.output = w.output /\ w.drawn <= w'.drawn /\ w.heap.size <= w'.heap.size
def NW (w : World) (og : Option Nat) (k : Nat) (ys : List AV) (e : Ending) (w' : World) : Prop :=
 ach (fun _ _ _ _ => False) w og k ys e w' \/
 (og = none /\ ys = [] /\ e = .returned (.slice none 0 0) /\ eZ [] w [] w')
theorem Lm.n {w : World} {og : Option Nat} {k : Nat} {ys : List AV} {e : Ending} {w' : World} (h : Lm w og k ys e w') : NW w og k ys e w' := by
 obtain ⟨g',Hu,arr',e',h1,h2⟩ := h;exact .inl ⟨g',Hu,arr',e',_,h1,fun _ => rfl,h2⟩
def Qr (w : World) (og : Option Nat) (a : Addr) (u : Value) : Prop := og ≠ some a.block /\ w.cell? a = some u /\ ∃ arr te,w.heap[a.block]? = some (.cells arr te (0,0))
def TR (w : World) (og : Option Nat) (a : Addr) (u : Value) : Prop := og ≠ some a.block /\ w.cell? a = some u
def BesE : AV -> World -> Option Nat -> Addr -> Value -> Prop
 | .func _ _ _ => TR
 | _ => Qr
def Qn (P : Program) (f : Nat) (g : Nat -> List AV -> List AV -> Option (List AV)) (Q : World -> Option Nat -> Nat -> List AV -> Ending -> World -> Prop) : Prop := ∀ k xs es ys,g k xs es = some ys -> (∀ x ∈ xs,x.cells.length = k) -> (∀ x ∈ xs,∀ d ∈ x.cells,fz d = true) ->
 ((∀ y ∈ ys,y.cells.length = k) /\ ∀ y ∈ ys,∀ d ∈ y.cells,fz d = true) /\
 (xs = [] -> ∀ w (vargs : Array Value),es.length + 1 = vargs.size -> vargs[0]? = some (.slice none 0 0) -> (∀ (i : Nat) (e : AV) (v : Value),es[i]? = some e -> vargs[i + 1]? = some v -> bR (BesE e w none) [] e v) -> Calls P f vargs w (Q w none k ys)) /\
 ∀ w (vargs : Array Value) g0 arr te a cap,w.heap[g0]? = some (.cells arr te (0,0)) -> (∀ (i : Nat) (d : AV),(aG xs)[i]? = some d -> ∃ u,arr[i]? = some u /\ bR (fun _ _ => False) [] d u) -> es.length + 1 = vargs.size -> vargs[0]? = some (.slice (some a) xs.length cap) -> (0 < cap -> a = ⟨g0,0,none⟩) -> xs.length <= cap -> cap * k <= arr.size ->
  (∀ (i : Nat) (e : AV) (v : Value),es[i]? = some e -> vargs[i + 1]? = some v -> bR (BesE e w (some g0)) [] e v) -> Calls P f vargs w (Q w (some g0) k ys)
theorem Qn.weak {P : Program} {f : Nat} {g : Nat -> List AV -> List AV -> Option (List AV)} (h : Qn P f g Lm) : Qn P f g NW := by
 intro k xs es ys hg h1 h2;obtain ⟨p,q,r⟩ := h k xs es ys hg h1 h2;exact ⟨p,fun a b c d e f => (q a b c d e f).mono fun _ _ z => z.n,fun a b c d e f g h i j k l m n o => (r a b c d e f g h i j k l m n o).mono fun _ _ z => z.n⟩
def Jy (P : Program) (c : dR) : Prop := True
def aac (P : Program) (c : dR) : Prop := ∀ f g,c.inp f = some g -> (∃ md q,c.fn f = some (md,q)) /\ ∀ k xs es ys res,g k xs es = some (ys,res) -> (∀ x ∈ xs,x.cells.length = k) -> (∀ x ∈ xs,∀ d ∈ x.cells,fz d = true) ->
 ((ys.length = xs.length /\ (∀ y ∈ ys,y.cells.length = k)) /\ ((∀ y ∈ ys,∀ d ∈ y.cells,fz d = true) /\ ∀ m,res = some m -> m <= xs.length)) /\
 (xs = [] -> ∀ X φ w (vargs : Array Value) v0 y,(y = .dn \/ y = .list k []) -> es.length + 1 = vargs.size -> vargs[0]? = some v0 -> bR (Rd X φ w) φ y v0 -> (∀ (i : Nat) (e : AV) (v : Value),es[i]? = some e -> vargs[i + 1]? = some v -> bR (Rd X φ w) [] e v) ->
  Calls P f vargs w (fun e w' => ∃ v',e = .returned v' /\ bR (Rd X φ w') φ (match res with
   | none => .dp []
   | some _ => y) v' /\ eZ [] w [] w')) /\
 ∀ X φ w Ha n rest (vargs : Array Value) v0,b8 X φ w Ha -> aJ Ha n = some (aG (xs ++ rest)) -> es.length + 1 = vargs.size -> vargs[0]? = some v0 -> bR (Rd X φ w) φ (.sl k n 0 xs.length) v0 -> (∀ (i : Nat) (e : AV) (v : Value),es[i]? = some e -> vargs[i + 1]? = some v -> bR (Rd X φ w) [] e v) ->
  Calls P f vargs w (fun e w' => ∃ v' φ',e = .returned v' /\ bR (Rd X φ' w') φ' (match res with
   | none => .dp []
   | some m => .sl k n 0 m) v' /\ b8 X φ' w' (Ha.set n (some (aG (ys ++ rest)))) /\ eZ φ w φ' w')
def vU (P : Program) (c : dR) : Prop := aac P c /\ Jy P c
theorem Jy.none {P : Program} {c : dR} (h : ∀ f,c.eat f = none) : Jy P c := trivial
theorem vU.none {P : Program} {c : dR} (h : ∀ f,c.inp f = none) (h2 : ∀ f,c.eat f = none := by intro _; rfl) : vU P c := ⟨(fun f g hf => by rw [h f] at hf; cases hf),Jy.none h2⟩
theorem less {X : Nat -> Prop} {φ : dq} {w : World} {Ha : Heap} (h : b8 X φ w Ha) {n : Nat} {cs cs' : List AV} (hb : aJ Ha n = some cs) (hl : cs'.length <= cs.length) (hc : ∀ (i : Nat) (d : AV),cs'[i]? = some d -> ∃ a,cs[i]? = some a /\ Le d a) : b8 X φ w (Ha.set n (some cs')) := by
 refine ⟨by simp [h.len],h.G7,fun b ds wG => ?_,fun b wG => ?_,h.inj⟩
 ·rw [bn] at wG;split at wG
  ·rename_i e;subst e;split at wG
   ·simp at wG;subst wG;obtain ⟨g,sz,arr,e,g1,g2,g3,g4,g5,g6⟩ := h.at hb;refine ⟨g,sz,arr,e,g1,g2,g3,by omega,g5,fun i d hd => ?_⟩;obtain ⟨a,ha,hle⟩ := hc i d hd;obtain ⟨u,u1,u2⟩ := g6 i a ha;exact ⟨u,u1,hle _ _ _ u2⟩
   ·cases wG
  ·exact h.live b ds wG
 ·rw [bn] at wG;split at wG
  ·split at wG <;> simp at wG
  ·exact h.dead b wG
theorem OC {s : St} {p : Rt} {v : AV} (h : at_ s p = some v) : (∀ i,get (setAt s p v).env i = get s.env i) /\ (setAt s p v).H = s.H := by
 cases p with
 | s i =>
   simp only [at_,ai] at h;refine ⟨fun j => ?_,rfl⟩;simp only [setAt,bw];split
   ·rename_i e; subst e; exact h.symm
   ·rfl
 | sc i l =>
   simp only [at_] at h;split at h
   ·rename_i cs hc
    have e : cs.set l v = cs := by
     apply dA;intro j;rw [bn];split
     ·rename_i e; subst e; split
      ·exact h.symm
      ·rename_i bz; rw [dz (by omega)] at h; cases h
     ·rfl
    have hs : setAt s (.sc i l) v = ⟨put s.env i (.agg cs),s.H⟩ := by simp only [setAt,hc,e]
    rw [hs];refine ⟨fun j => ?_,rfl⟩;show get (put s.env i (.agg cs)) j = _;rw [bw];split
    ·rename_i e2; subst e2; exact hc.symm
    ·rfl
   ·cases h
 | c b l =>
   simp only [at_] at h;split at h
   ·rename_i cs hc
    have e : cs.set l v = cs := by
     apply dA;intro j;rw [bn];split
     ·rename_i e; subst e; split
      ·exact h.symm
      ·rename_i bz; rw [dz (by omega)] at h; cases h
     ·rfl
    have hs : setAt s (.c b l) v = ⟨s.env,s.H.set b (some cs)⟩ := by simp only [setAt,hc,e]
    rw [hs];refine ⟨fun j => rfl,?_⟩;show s.H.set b (some cs) = s.H;apply dA;intro j;rw [bn];split
    ·rename_i e2;subst e2;rw [if_pos (dY hc),sX.1 hc]
    ·rfl
   ·cases h
theorem qV (xs ys : List AV) : aG (xs ++ ys) = aG xs ++ aG ys := by
 induction xs with
 | nil => rfl
 | cons x r ih => simp [aG,ih,dI]
theorem xj {xs : List AV} {d : AV} (h : d ∈ aG xs) : ∃ x ∈ xs,d ∈ x.cells := by
 induction xs with
 | nil => simp [aG] at h
 | cons x r ih =>
   simp only [aG,aD] at h;rcases h with h | h
   ·exact ⟨x,by simp,h⟩
   ·obtain ⟨y,hy,hd⟩ := ih h;exact ⟨y,by simp [hy],hd⟩
theorem Qr.weak {w : World} {og : Option Nat} {a : Addr} {u : Value} (h : Qr w og a u) : TR w og a u := ⟨h.1,h.2.1⟩
theorem eF.NS {X : Nat -> Prop} {φ n8 : dq} {w w1 : World} {N : Names} {s : St} {Ha Ha' : Heap} {t : Nat -> Value} (h : eF X φ w N s Ha t) {p : Rt} {kp : Nat} {xs : List AV} (hp : av s p = some (kp,xs)) (ad : eZ φ w n8 w1) (hh : b8 X n8 w1 Ha') {n : Nat} (hn : N.ν p = some n \/ φ.length <= n) (kG : ∀ m,m ≠ n -> m < Ha.length -> aJ Ha' m = aJ Ha m) : eF X n8 w1 N (setAt (bY (sw p) s) p .any) Ha' t := by
 have hpo : (av s p).isSome := by rw [hp]; rfl
 obtain ⟨d1,d2,d3⟩ := h.drop hp;have hlen := h.heap.len;refine d1.nI ad hh (fun q k' zs e => ?_) (fun b Hm => ?_)
 ·have e' := e;rw [d2] at e';split at e'
  ·cases e'
  rename_i nS;refine (d1.own q k' zs e).same fun m hmq => ?_;have hml := h.iO (by rw [e']; rfl) hmq;refine kG m ?_ hml;rintro rfl;rcases hn with hn | hn
  ·exact nS (h.inj q p m (by rw [e']; rfl) hpo hmq hn)
  ·omega
 ·have KX : (aJ s.H b).isSome := by
   cases e : aJ s.H b with
   | none => rw [d3.CY b e] at Hm; cases Hm
   | some _ => rfl
  have hml := h.qX KX;refine kG _ ?_ hml;intro e;rcases hn with hn | hn
  ·exact h.bx b p KX hpo (by rw [hn,e])
  ·omega
theorem aeZ (c6 : eQ P c) (heat : Jy P c) {X : Nat -> Prop} {φ : dq} {w : World} {B : Nat -> Nat} {base : Nat} {s s1 : St} {o : Oper} {a : Act} {f : Nat} {x : E} {es : List E} {v : AV} {fq : Fq} (hk : cN P o.op (mB (.call f (x :: es))) = true) (h : SB X φ w B base s (tm a)) (hg : Am.dH (iW c) X φ w) {g : Nat -> List AV -> List AV -> Option (List AV)} (Ls : c.eat f = some g) (hs : P3 s g (bp c s.env x) (dt c s.env es) = some (v,s1,fq)) : mF P X φ w B base s1 v o a := by unfold P3 at hs;cases hs
mutual
theorem O4 : ∀ x,pl x = true -> aK x = []
 | .c8 _ _ _ _,h => by simp [pl] at h
 | .ez _ _ _ _,h => by simp [pl] at h
 | .agg cs,h => by simp only [pl] at h; simp only [aK]; exact wk cs h
 | .dp cs,h => by simp only [pl] at h; simp only [aK]; exact wk cs h
 | .func _ a b,h => by simp only [pl,aa] at h; simp only [aK,wk a h.1,wk b h.2,ft]
 | .any,_ => rfl | .undef,_ => rfl | .eP,_ => rfl | .eT,_ => rfl | .dn,_ => rfl
 | .int _ _,_ => rfl | .bool _,_ => rfl | .str _,_ => rfl | .list _ _,_ => rfl | .dh _,_ => rfl | .ptr _ _,_ => rfl | .sl _ _ _ _,_ => rfl | .own _ _,_ => rfl
theorem wk : ∀ xs,df xs = true -> cY xs = []
 | [],_ => rfl
 | x :: r,h => by simp only [df,aa] at h; simp only [cY,O4 x h.1,wk r h.2,ft]
end
theorem Ys {s s1 : St} {f : Nat} {x : AV} {es : List AV} {v : AV} {fl : Fq} (h : UI c call s f es x = some (v,s1,fl)) : ∃ b md q cs cs',x = .ptr b 0 /\ c.fn f = some (md,q) /\ aJ s.H b = some cs /\ (md.sh = true /\ df es = true /\ df cs = true) /\ call f (.ptr 0 0 :: es) [some cs] = some (v,[some cs']) /\ (pl v = true /\ df cs' = true) /\ s1 = ⟨s.env,s.H.set b (some cs')⟩ /\ fl = .lw b := by
 unfold UI at h;split at h
 case h_2 => cases h
 rename_i b;split at h
 case h_2 => cases h
 rename_i md q cs hf hb;split at h
 case isFalse => cases h
 rename_i hp;split at h
 case h_2 => cases h
 rename_i r cs' hc;split at h
 case isFalse => cases h
 rename_i hr;simp only [ai,aF] at h;obtain ⟨rfl,rfl,rfl⟩ := h;exact ⟨b,md,q,cs,cs',rfl,hf,hb,hp,hc,hr,rfl,rfl⟩
theorem vl {s s1 : St} {kd : Kd} {v : AV} {fl : Fq} (h : mJ c call s kd = some (some (v,s1,fl))) : ∃ f x es b md q cs cs',kd = .call f (x :: es) /\ c.loc f = true /\ bp c s.env x = .ptr b 0 /\ c.fn f = some (md,q) /\ aJ s.H b = some cs /\ (md.sh = true /\ df (dt c s.env es) = true /\ df cs = true) /\ call f (.ptr 0 0 :: dt c s.env es) [some cs] = some (v,[some cs']) /\ (pl v = true /\ df cs' = true) /\ s1 = ⟨s.env,s.H.set b (some cs')⟩ /\ fl = .lw b := by
 unfold mJ at h;split at h
 case h_2 => cases h
 rename_i f x es;split at h
 case isFalse => cases h
 rename_i hl;simp only [ai] at h;obtain ⟨b,md,q,cs,cs',h1,h2,h3,h4,h5,h6,h7,h8⟩ := Ys h;exact ⟨f,x,es,b,md,q,cs,cs',rfl,hl,h1,h2,h3,h4,h5,h6,h7,h8⟩
theorem Dq {s s1 : St} {kd : Kd} {v : AV} {f : Fq} (h : mJ c call s kd = some (some (v,s1,f))) : ∃ b,f = .lw b := by
 obtain ⟨_,_,_,b,_,_,_,_,_,_,_,_,_,_,_,_,_,e⟩ := vl h;exact ⟨b,e⟩
theorem AY {e : Env} {H : Heap} {d j : Nat} (hp : ∀ cs,aJ H d = some cs -> df cs = true) : av ⟨e,H⟩ (.c d j) = none := by
 cases ho : av ⟨e,H⟩ (.c d j) with
 | none => rfl
 | some y =>
   obtain ⟨k,xs⟩ := y;have h1 := bZ.1 ho;simp only [at_] at h1;split at h1
   ·rename_i ds hd;have := fE (hp ds hd) j _ h1;simp [pl] at this
   ·cases h1
theorem rh (N : Names) (p : Rt) {z : AV} (hz : pl z = true) : jR N p z = z := by
 cases z <;> first | exact lC N _ hz | (simp [pl] at hz; done)
theorem T9 (N : Names) {z : AV} (hz : pl z = true) : fB N z = z := by
 cases z <;> first | exact lC N _ hz | (simp [pl] at hz; done)
theorem eF.Wl {X : Nat -> Prop} {φ n8 : dq} {w w1 : World} {N : Names} {s : St} {Ha Ha' : Heap} {t : Nat -> Value} (h : eF X φ w N s Ha t) {b : Nat} {cs cs' : List AV} (hb : aJ s.H b = some cs) (Tp : df cs = true) (PL : df cs' = true) (ad : eZ φ w n8 w1) (hh : b8 X n8 w1 Ha') (YR : aJ Ha' (N.β b) = some cs') (Bo : ∀ m,m ≠ N.β b -> aJ Ha' m = aJ Ha m) : eF X n8 w1 N ⟨s.env,s.H.set b (some cs')⟩ Ha' t := by
 have hoa : ∀ p,av ⟨s.env,s.H.set b (some cs')⟩ p = av s p := by
  intro p;cases p with
  | s i => rfl
  | sc i j => rfl
  | c d j =>
    by_cases e : d = b
    ·subst e;rw [AY (e := s.env) (H := s.H.set d (some cs')) (d := d) (j := j) fun ds hd => by rw [dD,if_pos ⟨rfl,dY hb⟩] at hd; cases hd; exact PL];exact (AY (e := s.env) (H := s.H) (d := d) (j := j) fun ds hd => by rw [hb] at hd; cases hd; exact Tp).symm
    ·simp only [av,at_];rw [dD,if_neg (fun h => e h.1)]
 have hfe : av ⟨s.env,s.H.set b (some cs')⟩ = av s := funext hoa;have hlen : (s.H.set b (some cs')).length = s.H.length := by simp
 have hblk : ∀ d ds,aJ (s.H.set b (some cs')) d = some ds -> (d = b /\ ds = cs') \/ (d ≠ b /\ aJ s.H d = some ds) := by
  intro d ds e;by_cases e2 : d = b
  ·subst e2;rw [dD,if_pos ⟨rfl,dY hb⟩] at e;cases e;exact .inl ⟨rfl,rfl⟩
  ·rw [dD,if_neg (fun h => e2 h.1)] at e;exact .inr ⟨e2,e⟩
 have YQ : ∀ d,(aJ (s.H.set b (some cs')) d).isSome -> (aJ s.H d).isSome := by
  intro d e;obtain ⟨ds,hd⟩ := aU.1 e;rcases hblk d ds hd with ⟨rfl,_⟩ | ⟨_,h2⟩
  ·rw [hb]; rfl
  ·rw [h2]; rfl
 have KX : (aJ s.H b).isSome := by rw [hb]; rfl
 refine ⟨fun i => ad.rep (h.env i),fun i => ?_,hh,fun p k xs e => ?_,fun d ds e => ?_,fun p q n e1 e2 => ?_,fun d p e1 e2 => ?_,fun d e0 e1 e2 e3 => ?_⟩
 ·rw [hfe];show cD _ (s.H.set b (some cs')).length _;rw [hlen]; exact h.Hd i
 ·rw [hoa] at e;have ho := h.own p k xs e;cases hn : N.ν p with
  | none => rw [hn] at ho; exact ho
  | some m =>
    rw [hn] at ho;obtain ⟨ds,d1,d2⟩ := ho;have Bq : m ≠ N.β b := fun e2 => h.bx b p KX (by rw [e]; rfl) (by rw [hn,e2]);exact ⟨ds,by rw [Bo _ Bq]; exact d1,d2⟩
 ·rcases hblk d ds e with ⟨rfl,rfl⟩ | ⟨hd,CH⟩
  ·exact ⟨_,YR,rfl,fun j d hd => ⟨xd _ (fE PL j d hd),d,hd,by rw [rh _ _ (fE PL j d hd)]; exact Le.refl _⟩⟩
  ·obtain ⟨as2,x1,x2,x3⟩ := h.box d ds CH;have Bq : N.β d ≠ N.β b := fun h2 => hd (h.bi d b (by rw [CH]; rfl) KX h2);refine ⟨as2,by rw [Bo _ Bq]; exact x1,x2,fun j d' hd' => ?_⟩;obtain ⟨y1,y2⟩ := x3 j d' hd';refine ⟨?_,y2⟩;rw [hfe];show cD _ (s.H.set b (some cs')).length _;rw [hlen]; exact y1
 ·rw [hoa] at e1 e2; exact h.inj p q n e1 e2
 ·rw [hoa] at e2; exact h.bx d p (YQ d e1) e2
 ·exact h.bi d e0 (YQ d e1) (YQ e0 e2) e3
theorem O5 : ∀ {l : List AV},(∀ y ∈ l,pl y = true) -> df l = true
 | [],_ => rfl
 | x :: r,h => by simp only [df,aa]; exact ⟨h x (by simp),O5 fun y hy => h y (by simp [hy])⟩
theorem K0 : ∀ {l : List AV},(∀ y ∈ l,y.cells = [y]) -> aG l = l
 | [],_ => rfl
 | x :: r,h => by
   simp only [aG];rw [h x (by simp),K0 fun y hy => h y (by simp [hy])];rfl
theorem Zp {x : AV} (h : fz x = true) : x.cells = [x] := by
 have := (mO h).2;cases x <;> first | rfl | (simp [AV.leaf] at this; done)
theorem aa3 (c6 : eQ P c) (oK : aac P c) {X : Nat -> Prop} {φ : dq} {w : World} {B : Nat -> Nat} {base : Nat} {s : St} {o : Oper} {a : Act} {f : Nat} {x : E} {es : List E} {g : Nat -> List AV -> List AV -> Option (List AV × Option Nat)} (hk : cN P o.op (mB (.call f (x :: es))) = true) (h : SB X φ w B base s (tm a)) (hg : Am.dH (iW c) X φ w) (Ls : c.inp f = some g) {k b len : Nat} {cs ys : List AV} {res : Option Nat} (hx : bp c s.env x = .sl k b 0 len) (hb : aJ s.H b = some cs) (hc : k = 1 /\ len <= cs.length /\ U9 cs = true /\ df (dt c s.env es) = true) (Hi : g k (cs.take len) (dt c s.env es) = some (ys,res)) : mF P X φ w B base ⟨s.env,s.H.set b (some (aG ys ++ cs.drop len))⟩ (KR k b res) o a := by
 obtain ⟨rfl,hle,C9,sd⟩ := hc;obtain ⟨⟨md,q,hf⟩,hI⟩ := oK f g Ls;obtain ⟨N,Ha,h,Hm⟩ := h;obtain ⟨vargs,nQ,hA,zV⟩ := nX (kd := .call f (x :: es)) (args := bp c s.env x :: dt c s.env es) c6 h hg hk rfl hf;rw [hx] at hA zV;have hl : (dt c s.env es).length + 1 = vargs.size := by have := hA.1; simpa using this
 obtain ⟨v0,UX⟩ := c7 (l := vargs) (i := 0) (by omega);have r0 := hA.2 0 _ v0 rfl UX
 have hes : ∀ (i : Nat) (e : AV) (u : Value),(dt c s.env es)[i]? = some e -> vargs[i + 1]? = some u -> bR (Rd X φ w) [] e u := fun i e u he hu => by
  have r1 := hA.2 (i + 1) e u (by simpa using he) hu;have G3 := fE sd i e he;have ht : fB N e = e := by cases e <;> first | exact lC N _ G3 | (simp [pl] at G3; done)
  rw [ht] at r1;exact r1.dB (iI _ G3) []
 simp only [fB,cF] at r0;obtain ⟨as,b1,b2,b3⟩ := h.box b cs hb;have hce : ∀ y ∈ cs,y.cells = [y] := fun y hy => Zp (nF C9 y hy);have Tp : df cs = true := O5 fun y hy => (mO (nF C9 y hy)).1
 have hH1 : b8 X φ w (Ha.set (N.β b) (some cs)) := less h.heap b1 (by omega) fun i d hd => by
  obtain ⟨_,a',a1,a2⟩ := b3 i d hd;rw [rh N _ (fE Tp i d hd)] at a2;exact ⟨a',a1,a2⟩
 have htd : aG (cs.take len ++ cs.drop len) = cs := by rw [Of]; exact K0 hce
 have bz : (cs.take len).length = len := by rw [bu]; omega
 obtain ⟨⟨⟨j1,j2⟩,j3,j4⟩,_,j6⟩ := hI 1 _ _ ys res Hi (fun y hy => by rw [hce y (cP hy)]; rfl) (fun y hy d hd => by
  have IP := cP hy;rw [hce y IP] at hd;simp at hd;subst hd;exact nF C9 d IP)
 have kX := j6 X φ w (Ha.set (N.β b) (some cs)) (N.β b) (cs.drop len) vargs v0 hH1 (by rw [htd,dD,if_pos ⟨rfl,dY b1⟩]) hl UX (by rw [bz]; exact r0) hes;intro K Q hK;unfold Oper.wp;rw [nQ,Oper.upon_enter];refine kX.mono ?_;rintro e w1 ⟨v',n8,rfl,rv,hh,ad⟩;rw [wQ,qV,K0 (l := cs.drop len) fun y hy => hce y (cQ hy)] at hh
 have hpn : df (aG ys ++ cs.drop len) = true := O5 fun y hy => by
  rcases aD.1 hy with hy | hy
  ·obtain ⟨z,hz,hd⟩ := xj hy;exact (mO (j3 z hz y hd)).1
  ·exact (mO (nF C9 y (cQ hy))).1
 have iE := h.Wl (cs' := aG ys ++ cs.drop len) hb Tp hpn ad hh (by rw [dD,if_pos ⟨rfl,dY b1⟩]) fun m hm => by rw [dD,if_neg (fun h => hm h.1)]
 refine hK v' w1 n8 (dS.quiet iE ⟨Hm.1,by simpa using Hm.2⟩ ?_ ?_ ?_) ad
 ·cases res with
  | none => trivial
  | some m =>
    show b < (s.H.set b _).length;rw [dc]; exact dY hb
 ·cases res <;> trivial
 ·cases res with
  | none => simpa [KR,v7,cF,k8] using rv
  | some m => simpa [KR,v7,cF] using rv
theorem aeV (c6 : eQ P c) (oK : vU P c) {X : Nat -> Prop} {φ : dq} {w : World} {B : Nat -> Nat} {base : Nat} {s s1 : St} {o : Oper} {a : Act} {kd : Kd} {v : AV} {fq : Fq} (hk : cN P o.op (mB kd) = true) (h : SB X φ w B base s (tm a)) (hg : Am.dH (iW c) X φ w) (hs : oJ c s kd = some (some (v,s1,fq))) : mF P X φ w B base s1 v o a := by
 unfold oJ at hs;split at hs
 case h_2 => cases hs
 rename_i f x es;split at hs
 case h_1 =>
  split at hs
  ·cases hs
  ·rename_i g Ls;simp only [ai] at hs;exact aeZ c6 oK.2 hk h hg Ls hs
 replace oK := oK.1;rename_i g Ls;simp only [ai] at hs;split at hs
 case h_4 => cases hs
 case h_3 =>
  rename_i k b len hx;split at hs
  case h_2 => cases hs
  rename_i cs hb;split at hs
  case isFalse => cases hs
  rename_i hc;split at hs
  case h_2 => cases hs
  rename_i ys res Hi;simp only [ai,aF] at hs;obtain ⟨rfl,rfl,_⟩ := hs;exact aa3 c6 oK hk h hg Ls hx hb hc Hi
 ·rename_i k hx;split at hs
  case isFalse => cases hs
  rename_i sd;split at hs
  case h_2 => cases hs
  rename_i ys res Hi;simp only [ai,aF] at hs;obtain ⟨rfl,rfl,_⟩ := hs;obtain ⟨⟨md,q,hf⟩,hI⟩ := oK f g Ls;obtain ⟨N,Ha,h,hb⟩ := h;obtain ⟨vargs,nQ,hA,zV⟩ := nX (kd := .call f (x :: es)) (args := bp c s.env x :: dt c s.env es) c6 h hg hk rfl hf;rw [hx] at hA zV;have hl : (dt c s.env es).length + 1 = vargs.size := by have := hA.1; simpa using this
  obtain ⟨v0,UX⟩ := c7 (l := vargs) (i := 0) (by omega);have r0 := hA.2 0 _ v0 rfl UX
  have hes : ∀ (i : Nat) (e : AV) (u : Value),(dt c s.env es)[i]? = some e -> vargs[i + 1]? = some u -> bR (Rd X φ w) [] e u := fun i e u he hu => by
   have r1 := hA.2 (i + 1) e u (by simpa using he) hu;have G3 := fE sd i e he;have ht : fB N e = e := by cases e <;> first | exact lC N _ G3 | (simp [pl] at G3; done)
   rw [ht] at r1;exact r1.dB (iI _ G3) []
  obtain ⟨_,j3,_⟩ := hI k _ _ ys res Hi (fun y hy => by simp at hy) (fun y hy => by simp at hy);simp only [fB,cF] at r0;have kX := j3 rfl X φ w vargs v0 _ (.inr rfl) hl UX r0 hes;intro K Q hK;unfold Oper.wp;rw [nQ,Oper.upon_enter];refine kX.mono ?_;rintro e w1 ⟨v',rfl,rv,ad⟩;have iE : eF X φ w1 N s Ha (tm a) := h.nI (.of_same ad) (h.heap.of_same ad) h.own (fun _ _ => rfl);refine hK v' w1 φ (dS.quiet iE hb ?_ ?_ ?_) (.of_same ad)
  ·cases res <;> trivial
  ·cases res <;> trivial
  ·cases res with
   | none => simpa [inpL,v7,cF,k8] using rv
   | some m => simpa [inpL,v7,cF] using rv
 rename_i k p len hx;split at hs
 case h_2 => cases hs
 rename_i k' xs hp;split at hs
 case isFalse => cases hs
 rename_i hc;obtain ⟨rfl,hle,sd⟩ := hc;split at hs
 case h_2 => cases hs
 rename_i ys res Hi;simp only [ai,aF] at hs;obtain ⟨rfl,rfl,_⟩ := hs;obtain ⟨⟨md,q,hf⟩,hI⟩ := oK f g Ls;obtain ⟨N,Ha,h,hb⟩ := h;obtain ⟨vargs,nQ,hA,zV⟩ := nX (kd := .call f (x :: es)) (args := bp c s.env x :: dt c s.env es) c6 h hg hk rfl hf;rw [hx] at hA zV;have hl : (dt c s.env es).length + 1 = vargs.size := by have := hA.1; simpa using this
 obtain ⟨v0,UX⟩ := c7 (l := vargs) (i := 0) (by omega);have r0 := hA.2 0 _ v0 rfl UX
 have hes : ∀ (i : Nat) (e : AV) (u : Value),(dt c s.env es)[i]? = some e -> vargs[i + 1]? = some u -> bR (Rd X φ w) [] e u := fun i e u he hu => by
  have r1 := hA.2 (i + 1) e u (by simpa using he) hu;have G3 := fE sd i e he;have ht : fB N e = e := by cases e <;> first | exact lC N _ G3 | (simp [pl] at G3; done)
  rw [ht] at r1;exact r1.dB (iI _ G3) []
 have eW := h.own p k' xs hp;cases hn : N.ν p with
 | none =>
   rw [hn] at eW;have hxs : xs = [] := eW;subst hxs;have h0 : len = 0 := by simpa using hle
   subst h0;obtain ⟨⟨⟨j1,_⟩,_,j2⟩,j3,_⟩ := hI k' _ _ ys res Hi (fun y hy => by simp at hy) (fun y hy => by simp at hy);have hys : ys = [] := by simpa using j1
   subst hys;simp only [fB,cF,hn] at r0;have kX := j3 (by simp) X φ w vargs v0 _ (.inl rfl) hl UX r0 hes;intro K Q hK;unfold Oper.wp;rw [nQ,Oper.upon_enter];refine kX.mono ?_;rintro e w1 ⟨v',rfl,rv,ad⟩;obtain ⟨se,sH⟩ := OC (s := s) (p := p) (v := .own k' []) (bZ.1 hp);have iE : eF X φ w1 N (setAt s p (.own k' ([] ++ ([] : List AV).drop 0))) Ha (tm a) := (h.nI (.of_same ad) (h.heap.of_same ad) h.own (fun _ _ => rfl)).ext se sH;refine hK v' w1 φ (dS.quiet iE ⟨hb.1,by show base <= (setAt s p (.own k' [])).H.length; rw [sH]; exact hb.2⟩ ?_ ?_ ?_) (.of_same ad)
   ·cases res with
    | none => trivial
    | some m =>
      have := j2 m rfl;simp at this;subst this
      exact ⟨[],by
       show av (setAt s p (.own k' [])) p = _;rw [Ip se sH]; exact hp,by simp⟩
   ·cases res <;> trivial
   ·cases res with
    | none => simpa [US,v7,cF,k8] using rv
    | some m => simpa [US,v7,cF,hn] using rv
 | some n =>
   rw [hn] at eW;obtain ⟨cs,c1,c2,c3,c4⟩ := eW;have hxs : xs.take len ++ xs.drop len = xs := Of len xs
   have C9 : ∀ y ∈ xs,∀ d ∈ y.cells,fz d = true := by
    intro y hy d hd
    have : d ∈ aG xs := by
     clear c1 c2 c3 c4 Hi hp hle hxs hA r0 zV hx UX hes
     induction xs with
     | nil => simp at hy
     | cons z r ih =>
       simp only [aG,aD];rcases aX.1 hy with e | e
       ·subst e; exact .inl hd
       ·exact .inr (ih e)
    obtain ⟨i,hi⟩ := bA this;exact (c4 i d hi).1
   obtain ⟨⟨⟨j1,j2⟩,j3,j4⟩,_,j6⟩ := hI k' _ _ ys res Hi (fun y hy => c3 y (cP hy)) (fun y hy => C9 y (cP hy));have bz : (xs.take len).length = len := by simp; omega
   rw [bz] at j1
   have hH1 : b8 X φ w (Ha.set n (some (aG xs))) := less h.heap c1 (by rw [j9 c3]; exact c2) fun i d hd => by
    obtain ⟨_,a',b1,_,b2⟩ := c4 i d hd;exact ⟨a',b1,b2⟩
   simp only [fB,cF,hn,q8] at r0;have kX := j6 X φ w (Ha.set n (some (aG xs))) n (xs.drop len) vargs v0 hH1 (by rw [hxs,dD,if_pos ⟨rfl,dY c1⟩]) hl UX (by rw [bz]; exact r0) hes;intro K Q hK;unfold Oper.wp;rw [nQ,Oper.upon_enter];refine kX.mono ?_;rintro e w1 ⟨v',n8,rfl,rv,hh,ad⟩;rw [wQ] at hh
   have Nh : ∀ y ∈ ys ++ xs.drop len,y.cells.length = k' := fun y hy => by
    rcases aD.1 hy with hy | hy
    ·exact j2 y hy
    ·exact c3 y (cQ hy)
   have YX : p7 (Ha.set n (some (aG (ys ++ xs.drop len)))) (some n) k' (ys ++ xs.drop len) := by
    refine ⟨aG (ys ++ xs.drop len),by rw [dD,if_pos ⟨rfl,dY c1⟩],by rw [j9 Nh]; exact ba _,Nh,fun i d hd => ?_⟩;have hm := xj (aW hd);obtain ⟨y,hy,hdy⟩ := hm
    have hfd : fz d = true := by
     rcases aD.1 hy with hy | hy
     ·exact j3 y hy d hdy
     ·exact C9 y (cQ hy) d hdy
    exact ⟨hfd,d,hd,(mO hfd).2,Le.refl _⟩
   obtain ⟨iE,jV⟩ := h.upd (xs' := ys ++ xs.drop len) hp hn (by simp; omega) ad hh YX (fun m Dt => by rw [dD,if_neg (fun e => Dt e.1)])
   have eK : av (setAt s p (.own k' (ys ++ xs.drop len))) p = some (k',ys ++ xs.drop len) := by
    have uc := bZ.1 hp;refine bZ.2 ?_;rw [BD ⟨(fun cs e => by cases e),_,uc,(fun cs e => by cases e)⟩ (Ff (by rw [hp]; rfl)),if_pos rfl]
   refine hK v' w1 n8 (dS.quiet iE ⟨hb.1,by rw [jV.len]; exact hb.2⟩ ?_ ?_ ?_) ad
   ·cases res with
    | none => trivial
    | some m =>
      have := j4 m rfl;refine ⟨_,eK,?_⟩;rw [cM];omega
   ·cases res <;> trivial
   ·cases res with
    | none => simpa [US,v7,cF,k8] using rv
    | some m => simpa [US,v7,cF,hn] using rv
theorem aeP (c6 : eQ P c) (ed : iL P c call) {X : Nat -> Prop} {φ : dq} {w : World} {B : Nat -> Nat} {base : Nat} {s s1 : St} {o : Oper} {a : Act} {kd : Kd} {v : AV} {fq : Fq} (hk : cN P o.op (mB kd) = true) (h : SB X φ w B base s (tm a)) (hg : Am.dH (iW c) X φ w) (hs : mJ c call s kd = some (some (v,s1,fq))) : mF P X φ w B base s1 v o a := by
 obtain ⟨f,x,es,b,md,q,cs,cs',rfl,hl,hx,hf,hb,⟨jV,sd,Tp⟩,hc,⟨hpr,PL⟩,rfl,rfl⟩ := vl hs;obtain ⟨N,Ha,h,Hm⟩ := h;obtain ⟨vargs,nQ,hA,zV⟩ := nX (kd := .call f (x :: es)) (args := bp c s.env x :: dt c s.env es) c6 h hg hk rfl hf;rw [hx] at hA zV;generalize dt c s.env es = as at sd hc hA zV;obtain ⟨bs,b1,b2,b3⟩ := h.box b cs hb;obtain ⟨g,sz,arr,te,g1,g2,g3,g4,g5,g6⟩ := h.heap.at b1;have og : bN φ g := ⟨_,sz,g1⟩
 have ow : ∀ g0,bN [some (g,sz)] g0 -> g0 = g := by
  rintro g0 ⟨i,z,hi⟩;cases i with
  | zero => simp at hi; exact hi.1.symm
  | succ i => simp at hi
 have rdin : ∀ a u,Rd X φ w a u -> Rd (fun g0 => X g0 \/ (bN φ g0 /\ g0 ≠ g)) [some (g,sz)] w a u := fun a u ⟨h1,h2,h3⟩ => ⟨fun h => h.elim h1 (fun h => h2 h.1),fun ho => h2 (by rw [ow _ ho]; exact og),h3⟩
 have hh : b8 (fun g0 => X g0 \/ (bN φ g0 /\ g0 ≠ g)) [some (g,sz)] w [some cs] := by
  refine ⟨rfl,fun g0 h0 => h0.elim (h.heap.G7 g0) (fun ho => (h.heap.iO ho.1).1),fun i ds hi => ?_,fun i hi => ?_,fun i i' g0 z z' e1 e2 => ?_⟩
  ·cases i with
   | succ i => simp at hi
   | zero =>
     simp at hi;subst hi;refine ⟨g,sz,arr,te,rfl,g2,g3,by omega,fun h0 => h0.elim g5 (fun h1 => h1.2 rfl),fun j d hd => ?_⟩;obtain ⟨_,a',VK,hle⟩ := b3 j d hd;obtain ⟨u,u1,u2⟩ := g6 j a' VK;have hpd := fE Tp j d hd;rw [rh N _ hpd] at hle;exact ⟨u,u1,((hle _ _ _ u2).dB (iI _ hpd) _).mono rdin (.refl _)⟩
  ·cases i with
   | zero => simp at hi
   | succ i => simp at hi
  ·cases i with
   | succ i => simp at e1
   | zero => cases i' with
     | zero => rfl
     | succ i' => simp at e2
 have Du : ∀ i,get (dJ 0 (AV.ptr 0 0 :: as)) i = (AV.ptr 0 0 :: as)[i]?.getD .any := fun i => by rw [rV]; simp
 have Zg : ∀ i,(get (dJ 0 (AV.ptr 0 0 :: as)) i = .ptr 0 0 /\ i = 0) \/ pl (get (dJ 0 (AV.ptr 0 0 :: as)) i) = true := fun i => by
  rw [Du];cases i with
  | zero => exact .inl ⟨rfl,rfl⟩
  | succ i =>
    refine .inr ?_;simp only [mK];cases e : as[i]? with
    | none => rfl
    | some x => exact fE sd i x e
 have jH : ∀ p,av ⟨dJ 0 (AV.ptr 0 0 :: as),[some cs]⟩ p = none := by
  have hw : ∀ i,bJ (get (dJ 0 (AV.ptr 0 0 :: as)) i) = false := fun i => (Zg i).elim (fun e => by rw [e.1]; rfl) x9;intro p;cases p with
  | s i => exact (dV (s := ⟨dJ 0 (AV.ptr 0 0 :: as),[some cs]⟩) (hw i)).1
  | sc i j => exact (dV (s := ⟨dJ 0 (AV.ptr 0 0 :: as),[some cs]⟩) (hw i)).2 j
  | c d j =>
    refine AY fun ds hd => ?_;cases d with
    | zero => simp [aJ] at hd; subst hd; exact Tp
    | succ d => simp [aJ] at hd
 have oS : as.length + 1 = vargs.size := by simpa using hA.1
 have IQ : SB (fun g0 => X g0 \/ (bN φ g0 /\ g0 ≠ g)) [some (g,sz)] w (fun _ => 0) 1 ⟨dJ 0 (AV.ptr 0 0 :: as),[some cs]⟩ (fun i => vargs.getD i undef) := by
  refine ⟨⟨fun _ => 0,fun _ => none⟩,[some cs],⟨fun i => ?_,fun i => ?_,hh,fun p k xs e => ?_,fun d ds e => ?_,fun p q n e1 => ?_,fun d p _ e1 => ?_,fun d e0 e1 e2 _ => ?_⟩,fun b hb => rfl,by simp⟩
  ·show bR _ _ (kJ _ i (get (dJ 0 (AV.ptr 0 0 :: as)) i)) _;rcases Zg i with ⟨e,rfl⟩ | hp
   ·rw [e];obtain ⟨v0,UX⟩ := c7 (l := vargs) (i := 0) (by omega);have r0 := hA.2 0 _ v0 rfl UX;rw [aZ,UX];simp only [fB,cF] at r0;cases r0 with
    | ptr _ _ _ ad je h' =>
      refine .ptr _ _ _ _ (by simp) fun g0 z e => ?_;simp at e;obtain ⟨rfl,rfl⟩ := e;exact h' g sz g1
   ·rw [Ar _ _ hp];cases i with
    | zero => rw [Du] at hp; simp [pl] at hp
    | succ i =>
      rw [Du] at hp ⊢;simp only [mK] at hp ⊢;cases e : as[i]? with
      | none => exact .any _ _
      | some y =>
        rw [e] at hp;simp only [kD] at hp ⊢;obtain ⟨v,hv⟩ := c7 (l := vargs) (i := i + 1) (by have := aq e; omega);have r0 := hA.2 (i + 1) y v (by simpa using e) hv;rw [T9 N hp] at r0;rw [aZ,hv];exact (r0.dB (iI _ hp) _).mono rdin (.refl _)
  ·show cD _ _ (get (dJ 0 (AV.ptr 0 0 :: as)) i);rcases Zg i with ⟨e,_⟩ | hp
   ·rw [e]; simp [cD]
   ·exact xd _ hp
  ·rw [jH] at e; cases e
  ·cases d with
   | succ d => simp [aJ] at e
   | zero =>
     simp [aJ] at e;subst e;exact ⟨cs,rfl,rfl,fun j d hd => ⟨xd _ (fE Tp j d hd),d,hd,by rw [rh _ _ (fE Tp j d hd)]; exact Le.refl _⟩⟩
  ·rw [jH] at e1; cases e1
  ·rw [jH] at e1; cases e1
  ·cases d with
   | succ d => simp [aJ] at e1
   | zero => cases e0 with
     | succ d => simp [aJ] at e2
     | zero => rfl
 have kX := ed f md q hf (AV.ptr 0 0 :: as) [some cs] v [some cs'] (.inl jV) hc (fun _ => by simp [cO,wk _ PL,vO]) _ _ w (fun _ => 0) vargs (by simpa using hA.1) IQ (fun g0 => (hg g0).mono rdin (.refl _));intro K Q hK;unfold Oper.wp;rw [nQ,Oper.upon_enter];refine kX.mono ?_;rintro e w1 ⟨v',n8,rfl,⟨N1,H1,iE,zX,_⟩,ad⟩;obtain ⟨as1,c1,c2,c3⟩ := iE.box 0 cs' rfl;rw [zX 0 (by simp)] at c1;obtain ⟨g',nC,arr1,te1,k1,k2,k3,k4,k5,k6⟩ := iE.heap.at c1;have hgg := ad.SC.Is 0 _ (by simp) k1;simp at hgg;obtain ⟨rfl,rfl⟩ := hgg;have ow2 : bN n8 g := ⟨0,sz,k1⟩;have acu : ∀ a u,Rd (fun g0 => X g0 \/ (bN φ g0 /\ g0 ≠ g)) n8 w1 a u -> Rd X φ w1 a u := fun a u ⟨h1,h2,h3⟩ => ⟨fun h => h1 (.inl h),fun ho => h1 (.inr ⟨ho,fun e => h2 (by rw [e]; exact ow2)⟩),h3⟩;have nI : eZ φ w φ w1 := ⟨ad.os,ad.tape,ad.output,ad.drawn,ad.size,fun g0 bz hno' => ⟨(ad.keep g0 bz (fun ho => hno' (by rw [ow _ ho]; exact og))).1,hno'⟩,.refl _⟩
 have hh2 : b8 X φ w1 (Ha.set (N.β b) (some cs')) := by
  refine ⟨by simp [h.heap.len],fun g0 h0 => fw (h.heap.G7 g0 h0) ad.size,fun m ds hm => ?_,fun m hm => ?_,h.heap.inj⟩
  ·rw [bn] at hm;split at hm
   ·rename_i e;subst e;split at hm
    ·simp at hm;subst hm;refine ⟨g,sz,arr1,te1,g1,k2,k3,by omega,g5,fun j d hd => ?_⟩;obtain ⟨_,a',VK,hle⟩ := c3 j d hd;obtain ⟨u,u1,u2⟩ := k6 j a' VK;have hpd := fE PL j d hd;rw [rh N1 _ hpd] at hle;exact ⟨u,u1,((hle _ _ _ u2).dB (iI _ hpd) _).mono acu (.refl _)⟩
    ·cases hm
   ·rename_i Bq;obtain ⟨g0,VF,arr0,e0,p1,p2,p3,p4,p5,p6⟩ := h.heap.live m ds hm;have hg0 : g0 ≠ g := fun e => Bq (h.heap.inj _ _ _ _ _ g1 (e ▸ p1));refine ⟨g0,VF,arr0,e0,p1,?_,p3,p4,p5,fun j d hd => ?_⟩
    ·rw [(ad.keep g0 (dX.1 p2).1 (fun ho => hg0 (ow _ ho))).1]; exact p2
    ·obtain ⟨u,u1,u2⟩ := p6 j d hd;exact ⟨u,u1,nI.rep u2⟩
  ·rw [bn] at hm;split at hm
   ·split at hm <;> simp at hm
   ·exact h.heap.dead m hm
 have hlen : (s.H.set b (some cs')).length = s.H.length := by simp
 have OA : eF X φ w1 N ⟨s.env,s.H.set b (some cs')⟩ (Ha.set (N.β b) (some cs')) (tm a) := h.Wl hb Tp PL nI hh2 (by rw [dD,if_pos ⟨rfl,dY b1⟩]) fun m hm => by rw [dD,if_neg (fun h => hm h.1)]
 have hno2 := x9 hpr;have r0 := iE.env 0;simp only [Am.get,if_true] at r0;rw [Ar N1 0 hpr] at r0;refine hK v' w1 φ (dS.quiet OA ⟨Hm.1,by show base <= (s.H.set b (some cs')).length; rw [hlen]; exact Hm.2⟩ (xd v hpr) (nx hno2) ?_) nI;rw [lD N hno2,lC N _ hpr];exact (r0.dB (iI _ hpr) _).mono acu (.refl _)
theorem aeM (c6 : eQ P c) (ed : iL P c call) {X : Nat -> Prop} {φ : dq} {w : World} {B : Nat -> Nat} {base : Nat} {s s1 : St} {o : Oper} {a : Act} {v : AV} {fq : Fq} {f i : Nat} {es : List E} (hk : cN P o.op (mB (.call f es)) = true) (h : SB X φ w B base s (tm a)) (hg : Am.dH (iW c) X φ w) (hs : MJ c call f i s (dt c s.env es) = some (v,s1,fq)) : mF P X φ w B base s1 v o a := by unfold MJ at hs;cases hs
theorem wa {s s1 : St} {kd : Kd} {v : AV} {f : Fq} (h : As c call s kd = some (v,s1,f)) : f = .all /\ aK v = [] := by unfold As at h;cases h
theorem QF {s : St} {kd : Kd} {x : AV × St × Fq} (h : As c call s kd = some x) : ∃ n args H r H',call n args H = some (r,H') /\ ∀ g : Nat -> List AV -> Heap -> Option (AV × Heap),g n args H = some (r,H') -> As c g s kd = some x := by unfold As at h;cases h
theorem Wg {s : St} {kd : Kd} {x : AV × St × Fq} (h : As c call s kd = some x) (g : Nat -> List AV -> Heap -> Option (AV × Heap)) : dG c g kd s = none := by unfold As at h;cases h
theorem jI {s s1 : St} {kd : Kd} {v : AV} {f : Fq} (h : qH c call kd s = some (v,s1,f)) : dG c call kd s = some (v,s1,f) \/ As c call s kd = some (v,s1,f) := by
 unfold qH at h;split at h
 ·rename_i x hx;rw [hx];exact .inl h
 ·exact .inr h
theorem pL {s : St} {kd : Kd} {x : AV × St × Fq} (h : dG c call kd s = some x) : qH c call kd s = some x := by
 unfold qH;rw [h]
theorem Gh {s : St} {kd : Kd} {x : AV × St × Fq} (h : As c call s kd = some x) : qH c call kd s = some x := by
 unfold qH;rw [Wg h];exact h
theorem aeK (c6 : eQ P c) (ed : iL P c call) {X : Nat -> Prop} {φ : dq} {w : World} {B : Nat -> Nat} {base : Nat} {s s1 : St} {o : Oper} {a : Act} {kd : Kd} {v : AV} {fq : Fq} (hk : cN P o.op (mB kd) = true) (h : SB X φ w B base s (tm a)) (hg : Am.dH (iW c) X φ w) (hs : As c call s kd = some (v,s1,fq)) : mF P X φ w B base s1 v o a := by unfold As at hs;cases hs
theorem Fm (c6 : eQ P c) (oK : vU P c) (ed : iL P c call) (jV : GU P c call) {X : Nat -> Prop} {φ : dq} {w : World} {B : Nat -> Nat} {base : Nat} {s s1 : St} {o : Oper} {a : Act} {kd : Kd} {v : AV} {fq : Fq} (hk : cN P o.op (mB kd) = true) (h : SB X φ w B base s (tm a)) (hg : Am.dH (iW c) X φ w) (hs : dm c call kd s = some (v,s1,fq)) : mF P X φ w B base s1 v o a := by
 unfold dm at hs;cases hi : oJ c s kd with
 | none =>
   rw [hi] at hs;cases hl : mJ c call s kd with
   | none =>
     rw [hl] at hs;simp only [fj] at hs;cases hm : qQ c call s kd with
     | none =>
       rw [hm] at hs;rcases jI hs with hs | hs
       ·exact Ux c6 ed jV hk h hg hs
       ·exact aeK c6 ed hk h hg hs
     | some r =>
       rw [hm] at hs;simp only at hs;subst hs;unfold qQ at hm;split at hm
       case h_2 => cases hm
       rename_i f es;split at hm
       case h_2 => cases hm
       rename_i i hi;simp only [ai] at hm;obtain ⟨n8,h1,a1⟩ := SB.dC (cY ((dt c s.env es).set i .undef)) h;exact mF.ghost a1 (aeM c6 ed hk h1 (hg.nI a1) hm)
   | some r =>
     rw [hl] at hs;simp only at hs;subst hs;exact aeP c6 ed hk h hg hl
 | some r =>
   rw [hi] at hs;simp only at hs;subst hs;exact aeV c6 oK hk h hg hi
theorem adg (c6 : eQ P c) (oK : vU P c) (ed : iL P c call) (jV : GU P c call) : Jx P c call := by
 intro X φ w B base s o a kd v s1 f hk hs h hg;cases hc : mw kd with
 | false => exact aeG c6.mixed h hg hk hc hs
 | true =>
   cases kd <;> simp [mw] at hc
   ·simp only [eR] at hs; exact Fm c6 oK ed jV hk h hg hs
   ·simp only [eR] at hs; exact Fm c6 oK ed jV hk h hg hs
end
end Go.Bm

/- A call of a function of the program, from a world of which nothing is known but how the arguments read; given what is still to be shown. -/
namespace Go.Bm
open Go.Am
section
variable {P : Program} {c : dR}
theorem Oy (c6 : eQ P c) (oK : vU P c) (vA : vT P c) (hshc : ∀ call,iL P c call -> GU P c call) (hdr : ∀ call,iL P c call -> GV P c call) (jV : ∀ n,NV P c n -> ShOK P c n) (n : Nat) : NV P c n :=
 DM (fun call hc => adg c6 oK hc (hshc call hc)) hdr (fun n hs => Jq c6 vA hs (jV n hs)) n
theorem Vp (c6 : eQ P c) {call : Nat -> List AV -> Heap -> Option (AV × Heap)} (ed : iL P c call) {f : Nat} {md : Md} {q : eB} (hf : c.fn f = some (md,q)) (jV : md.sh = false) {args : List AV} (hz : df args = true) {r : AV} {H' : Heap} (h : call f args [] = some (r,H')) (hr : pl r = true) {w : World} {vargs : Array Value}
  (ha : pY (fun _ => False) [] w args vargs) (hg : Am.dH (iW c) (fun _ => False) [] w) : Calls P f vargs w (fun e w' => ∃ v,e = .returned v /\ bR (Rd (fun _ => False) [] w') [] r v /\ RowKit.Below w.heap.size w w') := by
 have IQ := SB.start (X := fun _ => False) (w := w) (args := args) (vargs := vargs) (fun g hg => hg.elim) hz ha.1 ha.2 (fun _ => 0);refine (ed f md q hf args [] r H' (.inr rfl) h (fun e => by rw [jV] at e; cases e) (fun _ => False) [] w (fun _ => 0) vargs ha.1 IQ hg).mono ?_;rintro e w1 ⟨v',n8,rfl,⟨N1,H1,iE,_⟩,a1⟩;have r0 := iE.env 0;simp only [Am.get,if_true] at r0;rw [Ar N1 0 hr] at r0;refine ⟨v',rfl,(r0.dB (iI _ hr) []).mono (fun a u ⟨h1,_,h3⟩ => ⟨h1,bN.nil _,h3⟩) (.refl _),a1.os,a1.tape,a1.output,a1.size,fun k hk => (a1.keep k hk (bN.nil k)).1⟩
end
end Go.Bm

/- Regions that draw their order: it makes no difference, given that two steps whose order is open commute. -/
namespace Go.Bm
open Go.Am
section
variable {P : Program} {c : dR} {call : Nat -> List AV -> Heap -> Option (AV × Heap)} {T : St -> O -> Fq -> St -> Prop}
abbrev Vx := Nat × Oper × O × Fq
def Qm (P : Program) (c : dR) (T : St -> O -> Fq -> St -> Prop) : Prop :=
 ∀ X φ w B base N ops s s' (o : Oper) a q f,N <= eL -> K4 P N ops o (NG q) = true -> T s q f s' -> An X φ w B base s a N -> Am.dH (iW c) X φ w -> ∀ (K : Act -> World -> Prop) (Q : Exit -> Act -> World -> Prop),(∀ a' w' φ',An X φ' w' B base s' a' N -> eZ φ w φ' w' -> K a' w') ->
  if Region.wanted o (yielded ops a.tmps) then o.wp P a w K Q \/ (o.asks P a w /\ LetsOut Q) else K (a.put o.dst VC) w
def NX (T : St -> O -> Fq -> St -> Prop) : Prop :=
 ∀ s x f s1 y g s2,T s x f s1 -> T s1 y g s2 -> jQ x y = true -> ja x f y g = true -> ∃ JK,T s y g JK /\ T JK x f s2
def Lj (T : St -> O -> Fq -> St -> Prop) : List Vx -> St -> St -> Prop
 | [],s,sf => s = sf
 | p :: r,s,sf => ∃ s1,T s p.2.2.1 p.2.2.2 s1 /\ Lj T r s1 sf
theorem Lj.K7 (hC : NX T) {x : Vx} : ∀ {R1 R2 : List Vx} {s sf : St},(∀ p ∈ R1,jQ p.2.2.1 x.2.2.1 = true /\ ja p.2.2.1 p.2.2.2 x.2.2.1 x.2.2.2 = true) -> Lj T (R1 ++ x :: R2) s sf -> Lj T (x :: (R1 ++ R2)) s sf
 | [],R2,s,sf,_,hr => hr
 | p :: R1,R2,s,sf,h,⟨s1,h1,h2⟩ => by
   obtain ⟨s2,h3,h4⟩ := Lj.K7 hC (fun q hq => h q (by simp [hq])) h2;obtain ⟨Br,hf⟩ := h p (by simp);obtain ⟨JK,k1,k2⟩ := hC _ _ _ _ _ _ _ h1 h3 Br hf;exact ⟨JK,k1,s2,k2,h4⟩
theorem acd (hT : Qm P c T) (hC : NX T) {X : Nat -> Prop} {B : Nat -> Nat} {base N : Nat} (hN : N <= eL) {ops : Array Oper} {Q : Exit -> Act -> World -> Prop} {sf : St} :
  ∀ (fuel : Nat) (R : List Vx) (listed : Array Bool) (a : Act) (w : World) (φ : dq) (s : St),R.length = fuel -> (∀ i,listed.getD i true = false ↔ ∃ p ∈ R,p.1 = i) -> listed.size = ops.size ->
   Qp ops listed -> (∀ p ∈ R,ops[p.1]? = some p.2.1 /\ K4 P N ops p.2.1 (NG p.2.2.1) = true /\ ∀ e ∈ p.2.1.after,Region.binds .any e = true -> e.on < p.1) ->
   R.Pairwise (fun p q => p.1 < q.1 /\ (Anc ops p.1 q.1 \/ (jQ p.2.2.1 q.2.2.1 = true /\ ja p.2.2.1 p.2.2.2 q.2.2.1 q.2.2.2 = true))) -> Lj T R s sf -> An X φ w B base s a N -> Am.dH (iW c) X φ w ->
   (∀ a' w' φ',An X φ' w' B base sf a' N -> eZ φ w φ' w' -> Q .normal a' w') -> wpAny P .any ops Q fuel listed a w := by
 have fin : ∀ {a : Act} {w : World} {φ : dq} {s : St},Lj T [] s sf -> An X φ w B base s a N -> (∀ a' w' φ',An X φ' w' B base sf a' N -> eZ φ w φ' w' -> Q .normal a' w') -> Q .normal a w := by
  intro a w φ s hr hs hQ;obtain rfl : s = sf := hr;exact hQ a w φ hs (.refl _ _)
 intro fuel
 induction fuel with
 | zero =>
   intro R listed a w φ s hl hls _ _ _ _ hr hs hg hQ;have hR : R = [] := di hl;subst hR;refine ⟨?_,fin hr hs hQ⟩;rw [List.eq_nil_iff_forall_not_mem];intro i hi;obtain ⟨h1,_⟩ := mem_ready.1 hi;obtain ⟨p,hp,_⟩ := (hls i).1 h1;cases hp
 | succ fuel ih =>
   intro R listed a w φ s hl hls oS Lt Bp hpw hr hs hg hQ;refine ⟨fun hnil => ?_,fun i hi => ?_⟩
   ·cases R with
    | nil => simp at hl
    | cons p r =>
      exfalso;obtain ⟨h1,h2,h3⟩ := Bp p (by simp)
      have : p.1 ∈ Region.ready .any ops listed := by
       refine mem_ready.2 ⟨(hls p.1).2 ⟨p,by simp,rfl⟩,p.2.1,h1,fun e he hb => ?_⟩;have bz := h3 e he hb;cases hv : listed.getD e.on false with
       | true => rfl
       | false =>
         exfalso
         have hlt2 : e.on < listed.size := by
          rw [oS];have := kQ h1;omega
         have hv2 : listed.getD e.on true = false := by
          simp [aZ,hlt2] at hv ⊢;exact hv
         obtain ⟨q,hq,hq1⟩ := (hls e.on).1 hv2;rcases aX.1 hq with hq | hq
         ·subst hq; omega
         ·have := (JA hpw hq).1;omega
      rw [hnil] at this;cases this
   ·obtain ⟨hun,o,ho,kG⟩ := mem_ready.1 hi;obtain ⟨x,hx,YN⟩ := (hls i).1 hun;subst YN;obtain ⟨R1,R2,rfl⟩ := List.append_of_mem hx;obtain ⟨h1,h2,h3⟩ := Bp x (by simp);rw [h1] at ho;simp at ho;subst ho;have UZ := Qt.1 hpw
    have agO : ∀ p ∈ R1,jQ p.2.2.1 x.2.2.1 = true /\ ja p.2.2.1 p.2.2.2 x.2.2.1 x.2.2.2 = true := by
     intro p hp;obtain ⟨_,UY⟩ := UZ.2.2 p hp x (by simp);rcases UY with hw | hw
     ·exfalso
      have := Lt.Ai hw x.2.1 h1 fun k hk => by
       obtain ⟨e,he,hb,heq⟩ := yh.1 hk;rw [<- heq]; exact kG e he hb
      have hf := (hls p.1).2 ⟨p,by simp [hp],rfl⟩
      have bz : p.1 < listed.size := by
       rw [oS];exact kQ (Bp p (by simp [hp])).1
      simp [aZ,bz] at this hf;rw [this] at hf;cases hf
     ·exact hw
    obtain ⟨s1,k1,k2⟩ := Lj.K7 hC agO hr;unfold wpOp;rw [h1];refine hT X φ w B base N ops s s1 x.2.1 a x.2.2.1 x.2.2.2 hN h2 k1 hs hg _ _ fun a' w' φ' hs' sS => ?_
    refine ih (R1 ++ R2) _ a' w' φ' _ (by simp at hl ⊢; omega) (fun j => ?_) (by simpa using oS) (fun j oj hj hlj i hi => ?_) (fun p hp => Bp p (by rcases aD.1 hp with h | h <;> simp [h])) ?_ k2 hs' (hg.nI sS)
     fun a'' VE n9 h'' wA => hQ a'' VE n9 h'' (sS.trans wA)
    ·have hxlt : x.1 < listed.size := by rw [oS]; exact kQ h1
     by_cases hj : j = x.1
     ·subst hj;simp only [aZ,Array.getElem?_setIfInBounds_self_of_lt hxlt,kD];refine ⟨(fun h => by cases h),fun ⟨p,hp,hpx⟩ => ?_⟩;exfalso;rcases aD.1 hp with h | h
      ·have := (UZ.2.2 p h x (by simp)).1; omega
      ·have := (JA UZ.2.1 h).1; omega
     ·have Bq : x.1 ≠ j := fun e => hj e.symm;rw [aZ,iX Bq,<- aZ,hls j];constructor
      ·rintro ⟨p,hp,hpj⟩;refine ⟨p,?_,hpj⟩;simp at hp ⊢;rcases hp with h | h | h
       ·exact .inl h
       ·subst h; exact absurd hpj.symm hj
       ·exact .inr h
      ·rintro ⟨p,hp,hpj⟩;refine ⟨p,?_,hpj⟩;simp at hp ⊢;rcases hp with h | h
       ·exact .inl h
       ·exact .inr (.inr h)
    ·have mono : ∀ k,listed.getD k false = true -> (listed.setIfInBounds x.1 true).getD k false = true := by
      intro k hk;by_cases hkx : x.1 = k
      ·subst hkx;have bz : x.1 < listed.size := by rw [oS]; exact kQ h1
       simp [aZ,bz]
      ·rw [aZ,iX hkx,<- aZ]; exact hk
     by_cases hjx : x.1 = j
     ·subst hjx;rw [h1] at hj;cases hj;obtain ⟨e,he,hb,heq⟩ := yh.1 hi;exact mono i (by rw [<- heq]; exact kG e he hb)
     ·refine mono i (Lt j oj hj ?_ i hi);rw [aZ,iX hjx,<- aZ] at hlj;exact hlj
    ·refine Qt.2 ⟨UZ.1,(List.pairwise_cons.1 UZ.2.1).2,fun p hp q hq => UZ.2.2 p hp q (by simp [hq])⟩

end
end Go.Bm

/- Regions that draw their order, from the machine's own check. -/
namespace Go.Bm
open Go.Am
section
variable {P : Program} {c : dR} {call : Nat -> List AV -> Heap -> Option (AV × Heap)} {T : St -> O -> Fq -> St -> Prop}
def Fz : Nat -> List Oper -> List O -> List Fq -> List Vx
 | k,o :: r,q :: s,f :: t => (k,o,q,f) :: Fz (k + 1) r s t
 | _,_,_,_ => []
theorem rP : ∀ (k : Nat) (os : List Oper) (qs : List O) (fs : List Fq) (j : Nat) (p : Vx),(Fz k os qs fs)[j]? = some p -> p.1 = k + j /\ os[j]? = some p.2.1 /\ qs[j]? = some p.2.2.1 /\ fs[j]? = some p.2.2.2
 | k,[],qs,fs,j,p,h => by simp [Fz] at h
 | k,_ :: _,[],fs,j,p,h => by simp [Fz] at h
 | k,_ :: _,_ :: _,[],j,p,h => by simp [Fz] at h
 | k,o :: r,q :: s,f :: t,j,p,h => by
   simp only [Fz] at h;cases j with
   | zero => simp at h; subst h; exact ⟨rfl,rfl,rfl,rfl⟩
   | succ j =>
     simp at h;obtain ⟨h1,h2,h3,h4⟩ := rP (k + 1) r s t j p h;exact ⟨by omega,by simpa using h2,by simpa using h3,by simpa using h4⟩
theorem Cx : ∀ (k : Nat) (os : List Oper) (qs : List O) (fs : List Fq),os.length = qs.length -> qs.length = fs.length -> (Fz k os qs fs).length = os.length
 | k,[],[],[],_,_ => rfl
 | k,o :: r,q :: s,f :: t,h1,h2 => by simp [Fz]; exact Cx (k + 1) r s t (by simpa using h1) (by simpa using h2)
 | _,[],_ :: _,_,h,_ => by simp at h
 | _,_ :: _,[],_,h,_ => by simp at h
 | _,[],[],_ :: _,_,h => by simp at h
 | _,_ :: _,_ :: _,[],_,h => by simp at h
def aab (c : dR) (call : Nat -> List AV -> Heap -> Option (AV × Heap)) (T : St -> O -> Fq -> St -> Prop) : Prop := ∀ s q f s',xe q.kd = true -> p9 c call s q = some (s',f) -> (nH f = true -> T s q f s') /\ T s q .all s'
def FE (un : List (Nat × Nat)) : Nat -> List Fq -> List Fq
 | _,[] => []
 | k,f :: r => (if j7 k k un then .all else f) :: FE un (k + 1) r
theorem Cz (un : List (Nat × Nat)) : ∀ (k : Nat) (fs : List Fq),(FE un k fs).length = fs.length
 | _,[] => rfl
 | k,f :: r => by simp [FE,Cz un (k + 1) r]
theorem MU (un : List (Nat × Nat)) : ∀ (k : Nat) (fs : List Fq) (j : Nat),(FE un k fs)[j]? = (fs[j]?).map fun f => if j7 (k + j) (k + j) un then .all else f
 | _,[],j => by simp [FE]
 | k,f :: r,j => by
   cases j with
   | zero => simp [FE]
   | succ j => simp only [FE,mK,MU un (k + 1) r]; rw [show k + 1 + j = k + (j + 1) by omega]
theorem Mt (hS : aab c call T) (un : List (Nat × Nat)) : ∀ (k : Nat) (os : List Oper) (qs : List O) (s s' : St) (oL : List Fq),os.length = qs.length -> (∀ q ∈ qs,xe q.kd = true) -> mn c call qs s = some (s',oL) -> GO un k oL = true -> qs.length = oL.length /\ Lj T (Fz k os qs (FE un k oL)) s s'
 | k,[],[],s,s',oL,_,_,h,_ => by simp [mn] at h; obtain ⟨rfl,rfl⟩ := h; exact ⟨rfl,rfl⟩
 | k,[],_ :: _,_,_,_,hl,_,_,_ => by simp at hl
 | k,_ :: _,[],_,_,_,hl,_,_,_ => by simp at hl
 | k,o :: r,q :: qs,s,s',oL,hl,hk,h,hn => by
   simp only [mn] at h;split at h
   case h_2 => cases h
   rename_i s1 fl1 h1;split at h
   case h_2 => cases h
   rename_i s2 fl2 h2;simp at h;obtain ⟨rfl,rfl⟩ := h;simp only [GO,aa,eX] at hn;obtain ⟨YY,hn2⟩ := hn;obtain ⟨h4,h5⟩ := Mt hS un (k + 1) r qs _ s2 fl2 (by simpa using hl) (fun q hq => hk q (by simp [hq])) h2 hn2;refine ⟨by simp [h4],s1,?_,h5⟩;have := hS _ _ _ _ (hk q (by simp)) h1;show T s q (if j7 k k un then .all else fl1) s1;split
   ·exact this.2
   ·rename_i hp;exact this.1 (YY.resolve_right hp)
theorem Ir {s s1 : St} {kd : Kd} {v : AV} {f : Fq} (h : eR c call s kd = some (v,s1,f)) (hp : still kd = true) : f = .no := by
 cases kd <;> simp [still] at hp <;> simp only [eR] at h
 all_goals try rw [hp] at h
 all_goals
  (repeat' split at h)
  all_goals first
   | (cases h; done)
   | (rename_i hq; cases hq; done)
   | (simp at h; obtain ⟨rfl,rfl,rfl⟩ := h; rfl)
theorem z6 {e : Env} {d : Option Nat} {v : AV} {s s' : St} {f g : Fq} (h : z7 e d v s f = some (s',g)) : g = bM e d f := by
 unfold z7 at h;split at h
 ·simp at h;exact h.2.symm
 ·cases h
theorem yU {e : Env} {d : Option Nat} : bM e d .no = .no \/ bM e d .no = .bo [] \/ bM e d .no = .sp := by
 unfold bM;split
 ·exact .inl rfl
 ·split
  ·exact .inr (.inr rfl)
  ·split
   ·exact .inl rfl
   ·exact .inr (.inl rfl)
theorem LJ {s s' : St} {q : O} {f : Fq} (h : p9 c call s q = some (s',f)) (hp : still q.kd = true) : f = .no \/ f = .bo [] \/ f = .sp := by
 unfold p9 at h;split at h
 ·split at h
  ·rename_i v s1 fl ho;rw [Ir ho hp] at h;rw [z6 h]; exact yU
  ·cases h
 ·split at h
  ·split at h
   ·split at h
    ·rename_i v s1 fl ho;rw [Ir ho hp] at h;rw [z6 h]; exact yU
    ·cases h
   ·rw [z6 h]; exact yU
  ·rw [z6 h]; exact yU
  ·cases h
theorem yb {un : List (Nat × Nat)} : ∀ {qs : List O} {k : Nat} {s s' : St} {oL : List Fq},mn c call qs s = some (s',oL) -> GO un k oL = true -> ∀ (j : Nat) (q : O) (f : Fq),qs[j]? = some q -> oL[j]? = some f -> still q.kd = true -> j7 (k + j) (k + j) un = false -> f = .no \/ f = .bo []
 | [],_,_,_,_,_,_,j,q,f,hq,_,_,_ => by simp at hq
 | x :: r,k,s,s',oL,h,hn,j,q,f,hq,hf,hp,hb => by
   simp only [mn] at h;split at h
   case h_2 => cases h
   rename_i s1 fl1 h1;split at h
   case h_2 => cases h
   rename_i s2 fl2 h2;simp at h;obtain ⟨rfl,rfl⟩ := h;simp only [GO,aa,eX] at hn;obtain ⟨YY,hn2⟩ := hn;cases j with
   | zero =>
     simp at hq hf hb;subst hq; subst hf;rw [hb] at YY;rcases LJ h1 hp with e | e | e
     ·exact .inl e
     ·exact .inr e
     ·subst e; simp [nH] at YY
   | succ j => simp at hq hf; exact yb h2 hn2 j q f hq hf hp (by rw [show k + 1 + j = k + (j + 1) by omega]; exact hb)
theorem Gr {N : Nat} {ops : Array Oper} : ∀ {l : List Oper} {qs : List O},pP P N ops l qs = true -> l.length = qs.length /\ ∀ (j : Nat) (o : Oper) (q : O),l[j]? = some o -> qs[j]? = some q -> K4 P N ops o (NG q) = true
 | [],[],_ => ⟨rfl,fun j o q h => by simp at h⟩
 | [],_ :: _,h => by simp [pP] at h
 | _ :: _,[],h => by simp [pP] at h
 | o :: r,q :: s,h => by
   simp only [pP,aa] at h;obtain ⟨hl,hm⟩ := Gr h.2;refine ⟨by simp [hl],fun j o' q' h1 h2 => ?_⟩;cases j with
   | zero => simp at h1 h2; subst h1; subst h2; exact h.1
   | succ j => simp at h1 h2; exact hm j o' q' h1 h2
theorem vH {un : List (Nat × Nat)} {j : Nat} {ys : List Nat} {q : O} : ∀ {k : Nat} {l : List O},sW un j ys q k l = true -> ∀ (i : Nat) (x : O),l[i]? = some x -> Gq un (k + i) j x ys q = true
 | k,[],_,i,x,h => by simp at h
 | k,z :: r,hc,i,x,h => by
   simp only [sW,aa] at hc;cases i with
   | zero => simp at h; subst h; exact hc.1
   | succ i => simp at h; have := vH hc.2 i x h; rwa [show k + 1 + i = k + (i + 1) by omega] at this
theorem xk {un : List (Nat × Nat)} {ops : Array Oper} : ∀ {ys : List Oper} {qs seen : List O} {Ai : List (List Nat)},nA un Ai seen ys qs = true -> aae ops Ai -> Ai.length = seen.length -> (∀ j,ys[j]? = ops[seen.length + j]?) -> ∀ (j : Nat) (y : Oper) (q : O),ys[j]? = some y -> qs[j]? = some q ->
  (∀ e ∈ y.after,Region.binds .any e = true -> e.on < seen.length + j) /\ ∀ (i : Nat) (x : O),(seen ++ qs)[i]? = some x -> i < seen.length + j -> Anc ops i (seen.length + j) \/ ((j7 i i un = false /\ j7 (seen.length + j) (seen.length + j) un = false) /\ jQ x q = true /\ ((still x.kd = true /\ still q.kd = true) \/ j7 i (seen.length + j) un = true))
 | [],_,_,_,_,_,_,_,j,y,q,h,_ => by simp at h
 | _ :: _,[],_,_,_,_,_,_,j,y,q,_,h => by simp at h
 | z :: r,p :: s,seen,Ai,hc,hanc,hal,hys,j,y,q,h1,h2 => by
   simp only [nA,aa] at hc;obtain ⟨⟨⟨_,c1⟩,c2⟩,c3⟩ := hc;have hz : ops[seen.length]? = some z := by simpa using (hys 0).symm
   cases j with
   | zero =>
     simp at h1 h2;subst h1; subst h2;refine ⟨fun e he hb => ?_,fun i x hx hi => ?_⟩
     ·have := List.all_eq_true.1 c1 e.on (yh.2 ⟨e,he,hb,rfl⟩);simpa using this
     ·rw [ak (by omega)] at hx;have := vH c2 i x hx;simp only [Gq,dL,eX,aa,bD] at this;rcases this with h | h
      ·exact .inl (NU hanc hz i (mem_iff.1 h))
      ·right;exact h
   | succ j =>
     simp at h1 h2
     have agR : aae ops (Ai ++ [GM Ai z]) := by
      intro k l hl i hi;by_cases hk : k < Ai.length
      ·rw [ak hk] at hl; exact hanc k l hl i hi
      ·have hk2 := aq hl;simp at hk2;have hke : k = Ai.length := by omega
       subst hke;simp at hl;subst hl;rw [hal];exact NU hanc hz i hi
     obtain ⟨k1,k2⟩ := xk c3 agR (by simp [hal]) (fun m => by have := hys (m + 1); simp at this ⊢; rw [this]; congr 1; omega) j y q h1 h2;simp only [cM,b7,mH] at k1 k2;refine ⟨fun e he hb => by have := k1 e he hb; omega,fun i x hx hi => ?_⟩;have := k2 i x (by simpa using hx) (by omega)
     rwa [show seen.length + (0 + 1) + j = seen.length + (j + 1) by omega] at this
theorem tP {un : List (Nat × Nat)} : ∀ {ys : List Oper} {qs seen : List O} {Ai : List (List Nat)},nA un Ai seen ys qs = true -> ys.length = qs.length -> ∀ q ∈ qs,xe q.kd = true
 | [],[],_,_,_,_,q,hq => by simp at hq
 | [],_ :: _,_,_,_,hl,_,_ => by simp at hl
 | _ :: _,[],_,_,_,hl,_,_ => by simp at hl
 | z :: r,p :: s,seen,Ai,hc,hl,q,hq => by
   simp only [nA,aa] at hc;rcases aX.1 hq with e | e
   ·subst e; exact hc.1.1.1
   ·exact tP hc.2 (by simpa using hl) q e
theorem Cv {os : List O} {oL : List Fq} : ∀ {un : List (Nat × Nat)},zG os oL un = true -> ∀ i j,i ≠ j -> j7 i j un = true -> ja (os.getD i ⟨none,none,.min []⟩) (oL.getD i .all) (os.getD j ⟨none,none,.min []⟩) (oL.getD j .all) = true
 | [],_,i,j,_,h => by simp [j7] at h
 | p :: r,hk,i,j,Bq,h => by
   obtain ⟨x,y⟩ := p;simp only [zG,aa,eX,decide_eq_true_eq] at hk;simp only [j7,eX,aa,decide_eq_true_eq] at h;rcases h with ⟨rfl,rfl⟩ | h
   ·exact hk.1.resolve_left Bq
   ·exact Cv hk.2 i j Bq h
theorem Kz (x y : O) {f g : Fq} (hf : f = .no \/ f = .bo []) (hg : g = .no \/ g = .bo []) : ja x f y g = true := by
 have d : ∀ d,yu d (.bo []) = true := fun d => by cases d <;> rfl
 have d' : ∀ d,yu d .no = true := fun d => by cases d <;> rfl
 rcases hf with rfl | rfl <;> rcases hg with rfl | rfl <;> simp [ja,Fq.ok,HF,d,d']
theorem An.drew {X : Nat -> Prop} {φ : dq} {w : World} {B : Nat -> Nat} {base : Nat} {s : St} {a : Act} {N : Nat} (h : An X φ w B base s a N) : An X φ w.drew B base s a N := by
 obtain ⟨N1,Ha,wg,hb⟩ := h.sb;exact ⟨⟨N1,Ha,wg.nI (.drew _ _) (wg.heap.of_same (ψ := []) ⟨rfl,rfl,rfl,Nat.le_succ _,ba _,fun g _ h => ⟨rfl,h⟩,.refl _⟩) wg.own (fun _ _ => rfl),hb⟩,h.defers,h.size⟩
theorem ZE (c6 : eQ P c) (hS : aab c call T) (hT : Qm P c T) (hC : NX T) : GV P c call := by
 intro X φ w B base s s' oL a N id ops os un Q hN hc ho hs hd hr hg hQ;simp only [Jc,aa] at hd;obtain ⟨hn,hd⟩ := hd;obtain ⟨hl,hm⟩ := Gr hc;obtain ⟨wE,nQ⟩ := Mt hS un 0 ops.toList os s s' oL hl (tP ho hl) hs hn;have hlen := Cx 0 ops.toList os (FE un 0 oL) hl (by rw [Cz]; exact wE);have sS : eZ φ w φ w.drew := .drew _ _;have hord := xk (ops := ops) ho (fun j l hl => by simp at hl) rfl (fun j => by simp);have xf : An X φ w.drew B base s a N := hr.drew
 refine wp_region_any c6.mixed (acd hT hC (X := X) (B := B) (base := base) hN (sf := s') ops.size (Fz 0 ops.toList os (FE un 0 oL)) _ a w.drew φ s (by simpa using hlen) (fun i => ?_) (by simp) (fun j o _ hl => by simp [aZ,kS] at hl; split at hl <;> simp at hl) (fun p hp => ?_) ?_ nQ xf (hg.nI sS)
  fun a' w' φ' h k => hQ a' w' φ' h (sS.trans k))
 ·by_cases hi : i < ops.size
  ·simp only [aZ,kS,hi,if_true,kD,true_iff];obtain ⟨p,hp⟩ := bg (l := Fz 0 ops.toList os (FE un 0 oL)) (i := i) (by rw [hlen]; simpa using hi);exact ⟨p,aW hp,by have := (rP 0 _ _ _ i p hp).1; omega⟩
  ·simp only [aZ,kS,hi,if_false,Option.getD_none];refine ⟨(fun h => by cases h),fun ⟨p,hp,YU⟩ => ?_⟩;exfalso;obtain ⟨j,hj⟩ := bA hp;have h1 := (rP 0 _ _ _ j p hj).1;have h2 := aq hj;rw [hlen] at h2;simp at h2;omega
 ·obtain ⟨j,hj⟩ := bA hp;obtain ⟨h1,h2,h3,h4⟩ := rP 0 _ _ _ j p hj;have h1' : p.1 = j := by omega
  obtain ⟨k1,_⟩ := hord j p.2.1 p.2.2.1 h2 h3;refine ⟨by rw [h1']; simpa using h2,hm j _ _ h2 h3,fun e he hb => ?_⟩;have := k1 e he hb;simp at this;omega
 ·rw [List.pairwise_iff_getElem];intro i j hi hj zW;obtain ⟨h1,h2,h3,h4⟩ := rP 0 _ _ _ i _ (af hi);obtain ⟨k1,k2,k3,k4⟩ := rP 0 _ _ _ j _ (af hj);refine ⟨by omega,?_⟩;obtain ⟨_,agF⟩ := hord j _ _ k2 k3;have := agF i _ (by simpa using h3) (by simpa using zW);simp only [mH,dL] at this;rcases this with h | h
  ·left; rw [h1,k1]; simpa using h
  ·right;obtain ⟨⟨zX,qU⟩,Br,h⟩ := h;refine ⟨Br,?_⟩;rw [MU] at h4 k4;simp only [dL,zX,qU,bO,if_false,Option.map_id'] at h4 k4;rcases h with ⟨h5,h6⟩ | h5
   ·exact Kz _ _ (yb hs hn i _ _ h3 h4 h5 (by simpa using zX)) (yb hs hn j _ _ k3 k4 h6 (by simpa using qU))
   ·have := Cv hd i j (by omega) h5;simp only [List.getD_eq_getElem?_getD,h3,k3,h4,k4,kD] at this;exact this
end
end Go.Bm

/- A step up to what can be seen of a state: StepT and SoundT. -/
namespace Go.Bm
open Go.Am
section
variable {P : Program} {c : dR} {call : Nat -> List AV -> Heap -> Option (AV × Heap)}
def dv (s t : St) : Prop := (∀ i,get s.env i = get t.env i) /\ s.H = t.H
theorem dv.rfl' {s : St} : dv s s := ⟨fun _ => rfl,rfl⟩
theorem dv.symm {s t : St} (h : dv s t) : dv t s := ⟨fun i => (h.1 i).symm,h.2.symm⟩
theorem dv.trans {s t u : St} (h : dv s t) (k : dv t u) : dv s u := ⟨fun i => (h.1 i).trans (k.1 i),h.2.trans k.2⟩
theorem An.same {X : Nat -> Prop} {φ : dq} {w : World} {B : Nat -> Nat} {base : Nat} {s t : St} {a : Act} {N : Nat} (h : An X φ w B base s a N) (e : dv s t) : An X φ w B base t a N := by
 obtain ⟨N1,Ha,wg,zX,qU⟩ := h.sb;exact ⟨⟨N1,Ha,wg.ext (fun i => (e.1 i).symm) e.2.symm,zX,by rw [<- e.2]; exact qU⟩,h.defers,h.size⟩
def yH : Fq -> Fq -> Prop
 | _,.all => True
 | .wr sl bs,.wr sl' bs' => (∀ i ∈ sl,i ∈ sl') /\ (match bs,bs' with
   | none,none => True
   | some l,some l' => ∀ b ∈ l,b ∈ l'
   | _,_ => False)
 | f,g => f = g
theorem yH.refl (f : Fq) : yH f f := by
 cases f <;> try exact rfl
 case wr sl bs => cases bs <;> simp [yH]
 case all => trivial
def TS (c : dR) (call : Nat -> List AV -> Heap -> Option (AV × Heap)) (s : St) (q : O) (f : Fq) (s' : St) : Prop :=
 xe q.kd = true /\ ∃ s0 s1 f0,dv s s0 /\ p9 c call s0 q = some (s1,f0) /\ yH f0 f /\ dv s1 s'
theorem adN : aab c call (TS c call) := fun s q f s' hk h => ⟨fun hf => ⟨hk,s,s',f,dv.rfl',h,.refl f,dv.rfl'⟩,⟨hk,s,s',f,dv.rfl',h,by cases f <;> trivial,dv.rfl'⟩⟩
theorem aar (Bp : Jx P c call) : Qm P c (TS c call) := by
 intro X φ w B base N ops s s' o a q f hN hc ⟨_,s0,s1,f0,e0,h,_,e1⟩ hr hg K Q hK;have hr0 := hr.same e0
 have hck : cN P o.op (mB q.kd) = true := by
  have := hc;simp only [K4,NG,aa] at this;exact this.2
 exact LH (fun v s2 f hv => Bp X φ w B base s0 o a q.kd v s2 f hck hv hr0.sb hg) hc hN h hr0 fun a' w' φ' xf k' => hK a' w' φ' (xf.same e1) k'
theorem Vd (c6 : eQ P c) (Bp : Jx P c call) (hC : NX (TS c call)) : GV P c call := ZE c6 adN (aar Bp) hC
end
end Go.Bm
