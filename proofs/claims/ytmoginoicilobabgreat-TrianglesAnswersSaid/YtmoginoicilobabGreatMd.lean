/- The machine by value: operations, calls, code. -/
import Derived.Test.YtmoginoicilobabGreatMc
import Derived.Scope
import Derived.Sort.Grow
import Derived.Deep.Draws
/- Operations that write: append, clear, stores. -/
set_option linter.unusedSimpArgs false
set_option linter.unusedVariables false
open Array renaming getD_eq_getD_getElem? → a8, getElem?_append_left → pJ, getElem?_append_right → Gz, getElem?_eq_some_iff → dG, getElem?_replicate → kr, getElem?_setIfInBounds_ne → iu, replicate → nG
open Bool renaming and_eq_false_iff → wh, and_eq_true → aa, false_eq_true → bW, not_eq_true' → bH, or_eq_false_iff → eO, or_eq_true → e9, true_and → uU
open Go renaming undef → WI
open List renaming append_assoc → bK, append_nil → jS, drop_eq_nil_of_le → Pr, eq_nil_of_length_eq_zero → dn, ext_getElem? → dS, getElem?_append_left → aq, getElem?_append_right → aK, getElem?_cons_succ → jm, getElem?_drop → aQ, getElem?_eq_getElem → ai, getElem?_eq_none → eF, getElem?_map → dQ, getElem?_of_mem → br, getElem?_replicate → iG, getElem?_set → bg, getElem?_set_ne → cP, getElem?_take → bf, isEmpty_iff → fa, length_append → bX, length_cons → bY, length_nil → iF, length_set → dw, length_take → bh, mem_append → aC, mem_cons → aU, mem_of_getElem? → aR, mem_of_mem_drop → cF, mem_of_mem_take → cD, mem_or_eq_of_mem_set → cz, pairwise_append → RC, rel_of_pairwise_cons → IV, replicate → aO, set_set → vK, take_append_drop → PF, take_zero → qa
open Nat renaming add_mul → cq, add_sub_cancel → Dd, le_refl → aT, le_trans → GI, lt_of_lt_of_le → fj, mul_le_mul_right → bD, zero_add → dM, zero_le → zG, zero_mul → fY
open Ne renaming symm → kj
open Option renaming bind_some → WG, getD_some → gI, isSome_iff_exists → aW, map_some → cX
open Option.some renaming inj → cK, injEq → ah
open Prod.mk renaming injEq → aF
namespace Go.Bm
open Go.Am
section
variable {P : Program} {X : Nat -> Prop} {φ φ' : dF} {w w' : World} {N N' : Names} {s s1 : St} {Ha Ha' : Heap} {t : Nat -> Value} {B : Nat -> Nat} {base : Nat} {v va : AV} {v' : Value} {c : eG} {o : Oper} {a : Act} {kd : Kd}
theorem rQ {l : List AV} (h : ∀ x ∈ l,x.leaf = true) : bq l = true := by
 induction l with
 | nil => rfl
 | cons y r ih => simp only [bq,aa]; exact ⟨h y (by simp),ih fun x hx => h x (by simp [hx])⟩
theorem uO {l : List AV} (h : bq l = true) : ∀ x ∈ l,x.leaf = true := by
 induction l with
 | nil => intro x hx; simp at hx
 | cons y r ih =>
   intro x hx;simp only [bq,aa] at h;rcases aU.1 hx with e | e
   ·subst e; exact h.1
   ·exact ih h.2 x e
theorem nE {k : Nat} {xs : List AV} (h : ∀ x ∈ xs,x.cells.length = k) (n : Nat) : aA (xs.take n) = (aA xs).take (n * k) := by
 induction xs generalizing n with
 | nil => simp [aA]
 | cons x r ih =>
   cases n with
   | zero => simp [aA]
   | succ n =>
     have hx := h x (by simp);simp only [List.take_succ_cons,aA,ih (fun y hy => h y (by simp [hy])) n];rw [List.take_append,hx,cq,Nat.one_mul,List.take_of_length_le (by omega : x.cells.length <= n * k + k),Dd]
theorem vC {k : Nat} {xs : List AV} (h : ∀ x ∈ xs,x.cells.length = k) (n : Nat) : aA (xs.drop n) = (aA xs).drop (n * k) := by
 induction xs generalizing n with
 | nil => simp [aA]
 | cons x r ih =>
   cases n with
   | zero => simp
   | succ n =>
     have hx := h x (by simp);simp only [List.drop_succ_cons,aA,ih (fun y hy => h y (by simp [hy])) n];rw [List.drop_append,hx,cq,Nat.one_mul,Pr (by omega : x.cells.length <= n * k + k),List.nil_append,Dd]
theorem gC {k : Nat} {xs : List AV} (h : ∀ x ∈ xs,x.cells.length = k) : (aA xs).length = xs.length * k := (ia h).1
theorem Da (h : eV X φ w N s Ha (tm a)) (hg : Am.ek (iq c) X φ w) {k : Nat} {x : E} {o' : Operand} (ho : dv o' (kZ x) = true) {ys : List AV} (hc : cont s k (bn c s.env x) = some ys) (vw : bq (aA ys) = true) :
  ∃ news,iP Ha k (Am.ev (iq c) (yj N s.env) (kZ x)) = some (news,ys.length) /\ news.length = ys.length * k /\ (∀ y ∈ ys,y.cells.length = k) /\ bq news = true /\
   ∀ (i : Nat) (d : AV),(aA ys)[i]? = some d -> fz d = true /\ ∃ e,news[i]? = some e /\ e.leaf = true /\ Le d e := by
 have hx := cQ (c := c) (cA := iq c) h rfl ho;have dy := hx.ok;have r := b7 (c := iq c) (env := yj N s.env) (a := a) (fun i => by rw [kW]; exact h.env i) hg ho;rw [hx.ev] at r ⊢;cases e : bn c s.env x <;> rw [e] at hc dy r <;> try (simp [cont] at hc; done)
 ·rename_i k' xs;simp only [cont] at hc;split at hc
  case isFalse => cases hc
  rename_i zF;subst zF;simp at hc;subst hc;simp only [fM,cW,iP,if_true] at r ⊢
  have fQ : (∀ y ∈ xs,y.cells.length = k') /\ ∀ y ∈ xs,∀ d ∈ y.cells,pl d = true := by
   generalize a.eval o' = z at r;cases r with
   | qC _ _ _ ad n cap u hn fD hk hu h =>
     refine ⟨hk,fun y hy d hd => ?_⟩;obtain ⟨i,hi⟩ := br hy;obtain ⟨j,hj⟩ := br hd;exact XM (h i j y d hi hj) rfl
   | jC => exact ⟨fun y hy => by simp at hy,fun y hy => by simp at hy⟩
  refine ⟨aA xs,rfl,gC fQ.1,fQ.1,vw,fun i d hd => ?_⟩;obtain ⟨i',y,j,h1,h2,_⟩ := (ia fQ.1).2 i d hd;have hdl := uO vw d (aR hd);refine ⟨?_,d,hd,hdl,Le.refl _⟩;unfold fz;rw [hdl,fQ.2 y (aR h1) d (aR h2)];rfl
 ·rename_i k' xs;have := hx.eo k' xs e;subst this;simp [cont] at hc;subst hc;exact ⟨[],by simp [fM,iP],by simp,fun y hy => by simp at hy,rfl,fun i d hd => by simp [aA] at hd⟩
 ·rename_i k' p off len;simp only [cont] at hc;split at hc
  case h_2 => cases hc
  rename_i vp xs hp;split at hc
  case isFalse => cases hc
  rename_i hcc;obtain ⟨rfl,rfl,hle⟩ := hcc;simp at hc;subst hc;have eQ := h.own p vp xs hp;simp only [fM];rcases oY h dy with ⟨n,hn,e2⟩ | ⟨hn,h0,h1,e2⟩
  ·rw [e2];rw [hn] at eQ;obtain ⟨cs,c1,c2,c3,c4⟩ := eQ
   have hb : off * vp + len * vp <= cs.length := by
    have : (off + len) * vp <= xs.length * vp := bD vp hle;rw [cq] at this;omega
   have La : ∀ y ∈ (xs.drop off).take len,y.cells.length = vp := fun y hy => c3 y (cF (cD hy));have hl : ((xs.drop off).take len).length = len := by simp; omega
   have idx : ∀ (i : Nat) (d : AV),(aA ((xs.drop off).take len))[i]? = some d -> fz d = true /\ ∃ e,((cs.drop (off * vp)).take (len * vp))[i]? = some e /\ e.leaf = true /\ Le d e := by
    intro i d hd;rw [nE (fun y hy => c3 y (cF hy)),vC c3,bf] at hd;split at hd
    case isFalse => cases hd
    rename_i hi;rw [aQ] at hd;obtain ⟨f1,e,f2,f3,f4⟩ := c4 _ d hd;exact ⟨f1,e,by rw [bf,if_pos hi,aQ]; exact f2,f3,f4⟩
   refine ⟨(cs.drop (off * vp)).take (len * vp),by simp only [iP,c1,hl]; rw [if_pos ⟨trivial,hb⟩],by rw [hl]; simp; omega,La,rQ fun x hx => ?_,idx⟩;obtain ⟨i,hi⟩ := br hx;have bO := au hi;have : i < (aA ((xs.drop off).take len)).length := by rw [gC La,hl]; simp at bO; omega
   obtain ⟨d,hd⟩ := aV this;obtain ⟨_,e,g2,g3,_⟩ := idx i d hd;rw [hi] at g2;cases g2;exact g3
  ·rw [e2];subst h1;exact ⟨[],by simp [iP],by simp,fun y hy => by simp at hy,rfl,fun i d hd => by simp [aA] at hd⟩
theorem acg (hm : P.follows .mixedOrders = true) (h : SB X φ w B base s (tm a)) (hg : Am.ek (iq c) X φ w) {k k' : Nat} {x y : E} (hk : dm P o.op (kY (.app k x y)) = true) (Cp : bn c s.env x = .own k' []) {ys : List AV} (hy : cont s k (bn c s.env y) = some ys) (vw : bq (aA ys) = true) (hl : ys.length <= jQ) :
  k8 P X φ w B base s (.own k ys) o a := by
 obtain ⟨N,Ha,h,hb⟩ := h;obtain ⟨⟨o1,h1⟩,o2,h2⟩ := Uv hk;have hx := cQ (c := c) (cA := iq c) h rfl h1;obtain ⟨news,n1,n2,n3,n4,n5⟩ := Da h hg h2 hy vw;by_cases h0 : ys.length = 0
 ·have : ys = [] := dn h0;subst this;refine k8.of (lH (va := .dJ) (Ha' := Ha) hm h hg hk (by simp only [kY,fL,n1,hx.ev,Cp,fM,iF,if_true]; rfl)) fun v' w' φ' r hh ad => ?_;exact dY.quiet (h.lj ad hh h.own (fun _ _ => rfl)) hb trivial (by simp [EO]) r
 ·refine k8.of (lH (va := .sl k Ha.length 0 ys.length) (Ha' := Ha ++ [some news]) hm h hg hk (by simp only [kY,fL,n1,hx.ev,Cp,fM,if_neg h0,if_pos (⟨hl,n4⟩ : ys.length <= jQ /\ bq news = true)]; rfl)) fun v' w' φ' r hh ad => ?_;exact zf h hb ad hh (by omega) n3 n5 r
theorem acf (hm : P.follows .mixedOrders = true) (h : SB X φ w B base s (tm a)) (hg : Am.ek (iq c) X φ w) {k len : Nat} {x y : E} (hk : dm P o.op (kY (.app k x y)) = true) {p : Rt} {xs : List AV} (Cp : bn c s.env x = .dA k p 0 len) (hp : az s p = some (k,xs)) (hle : len <= xs.length) {ys : List AV} (hy : cont s k (bn c s.env y) = some ys) (vw : bq (aA ys) = true) (hl : len + ys.length <= jQ) :
  k8 P X φ w B base (setAt (bP (sw p) s) p .any) (.own k (xs.take len ++ ys)) o a := by
 obtain ⟨N,Ha,h,hb⟩ := h;obtain ⟨⟨o1,h1⟩,o2,h2⟩ := Uv hk;have hx := cQ (c := c) (cA := iq c) h rfl h1;have dy := hx.ok;rw [Cp] at dy;obtain ⟨news,n1,n2,n3,n4,n5⟩ := Da h hg h2 hy vw;obtain ⟨d1,d2,d3⟩ := h.drop hp;have pg : (∀ b,b < base -> N.β b = B b) /\ base <= (setAt (bP (sw p) s) p .any).H.length := ⟨hb.1,by rw [d3.len]; exact hb.2⟩;have eQ := h.own p k xs hp;rcases oY h dy with ⟨n,hn,e2⟩ | ⟨hn,_,OA,e2⟩
 ·rw [hn] at eQ;obtain ⟨cs,c1,c2,c3,c4⟩ := eQ;have hlk : len * k <= cs.length := GI (bD k hle) c2;have hnlt := eL c1;refine k8.of (lH (va := .sl k Ha.length 0 (len + ys.length)) (Ha' := Ha.set n none ++ [some (cs.take (len * k) ++ news)]) hm h hg hk (by simp only [kY,fL,n1,hx.ev,Cp,fM,e2,fY,c1,if_pos (⟨trivial,hlk,hl,n4⟩ : True /\ len * k <= cs.length /\ len + ys.length <= jQ /\ bq news = true)]; rfl)) fun v' w' φ' r hh ad => ?_;have hset : ∀ m,m ≠ n -> aJ (Ha.set n none) m = aJ Ha m := fun m B6 => by unfold aJ; rw [cP (kj B6)]
  have jD : ∀ m,m ≠ n -> m < Ha.length -> aJ (Ha.set n none ++ [some (cs.take (len * k) ++ news)]) m = aJ Ha m := fun m B6 bO => by
   rw [iE,if_neg (by simp; omega),hset m B6]
  have fZ : eV X φ' w' N (setAt (bP (sw p) s) p .any) (Ha.set n none ++ [some (cs.take (len * k) ++ news)]) (tm a) := by
   refine d1.lj ad hh (fun q k' zs e => ?_) (fun b CZ => ?_)
   ·have e' := e;rw [d2] at e';split at e'
    ·cases e'
    rename_i lY;refine (d1.own q k' zs e).same fun m hmq => jD m ?_ ?_
    ·rintro rfl;exact lY (h.inj q p m (by rw [e']; rfl) (by rw [hp]; rfl) hmq hn)
    ·exact h.gn (by rw [e']; rfl) hmq
   ·have G3 : (aJ s.H b).isSome := by
     cases e : aJ s.H b with
     | none => rw [d3.An b e] at CZ; cases CZ
     | some _ => rfl
    refine jD _ ?_ (h.oX G3);intro e;exact h.bx b p G3 (by rw [hp]; rfl) (by rw [hn,e])
  have OB : (xs.take len ++ ys).length = len + ys.length := by simp; omega
  have htk : ∀ z ∈ xs.take len,z.cells.length = k := fun z hz => c3 z (cD hz);refine dY.fresh fZ pg (n := Ha.length) ⟨cs.take (len * k) ++ news,by rw [iE,if_pos (by simp)],?_,?_,?_⟩ (fun q hq e => ?_) (fun b CZ e => ?_) (by rw [OB]; exact r)
  ·rw [OB,cq,bX,bh,n2]; omega
  ·intro z hz;rcases aC.1 hz with hz | hz
   ·exact htk z hz
   ·exact n3 z hz
  ·intro i d hd;rw [aiO,nE c3] at hd
   have hlt1 : ((aA xs).take (len * k)).length = len * k := by
    have := gC c3;have : len * k <= xs.length * k := bD k hle;rw [bh]; omega
   rw [List.getElem?_append] at hd;rw [hlt1] at hd;split at hd
   ·rename_i hi;rw [bf,if_pos hi] at hd;obtain ⟨f1,e,f2,f3,f4⟩ := c4 i d hd;exact ⟨f1,e,by rw [aq (by simp; omega),bf,if_pos hi]; exact f2,f3,f4⟩
   ·rename_i hi;obtain ⟨f1,e,f2,f3,f4⟩ := n5 _ d hd;refine ⟨f1,e,?_,f3,f4⟩;rw [aK (by simp; omega)];rw [bh,Nat.min_eq_left hlk];exact f2
  ·have hq' : (az s q).isSome := by
    rw [d2] at hq;split at hq
    ·cases hq
    ·exact hq
   have := h.gn hq' e;omega
  ·have G3 : (aJ s.H b).isSome := by
    cases e : aJ s.H b with
    | none => rw [d3.An b e] at CZ; cases CZ
    | some _ => rfl
   have := h.oX G3;omega
 ·rw [hn] at eQ;have hxs : xs = [] := eQ;subst hxs;subst OA
  have simq : ∀ {φ' w' Ha'},fo φ w φ' w' -> cJ X φ' w' Ha' -> (∀ m,m < Ha.length -> aJ Ha' m = aJ Ha m) -> eV X φ' w' N (setAt (bP (sw p) s) p .any) Ha' (tm a) := by
   intro φ' w' Ha' ad hh jD;refine d1.lj ad hh (fun q k' zs e => ?_) (fun b CZ => ?_)
   ·exact (d1.own q k' zs e).same fun m hmq => jD m (d1.gn (by rw [e]; rfl) hmq)
   ·exact jD _ (d1.oX CZ)
  by_cases h0 : ys.length = 0
  ·have : ys = [] := dn h0;subst this;refine k8.of (lH (va := .dJ) (Ha' := Ha) hm h hg hk (by simp only [kY,fL,n1,hx.ev,Cp,fM,e2,iF,if_true]; rfl)) fun v' w' φ' r hh ad => ?_;exact dY.quiet (simq ad hh fun _ _ => rfl) pg trivial (by simp [EO]) r
  ·have AO : ys.length <= jQ := by omega
   refine k8.of (lH (va := .sl k Ha.length 0 ys.length) (Ha' := Ha ++ [some news]) hm h hg hk (by simp only [kY,fL,n1,hx.ev,Cp,fM,e2,if_neg h0,if_pos (⟨AO,n4⟩ : ys.length <= jQ /\ bq news = true)]; rfl)) fun v' w' φ' r hh ad => ?_;have fZ := simq ad hh fun m bO => by rw [iE,if_neg (by omega)]
   refine dY.fresh fZ pg (n := Ha.length) ⟨news,Ga _ _,by simp; omega,by simpa using n3,by simpa using n5⟩ (fun q hq e => ?_) (fun b CZ e => ?_) (by simpa using r)
   ·have := d1.gn hq e; omega
   ·have := d1.oX CZ; omega
end
end Go.Bm

/- Stores and clearing. -/
namespace Go.Bm
open Go.Am
mutual
theorem Tw {o o' : Rt -> Option (Nat × List AV)} {nb : Nat} (ho : ∀ p k xs,o p = some (k,xs) -> ∃ ys,o' p = some (k,ys) /\ xs.length <= ys.length) : ∀ x,cZ o nb x -> cZ o' nb x
 | .dA k p off len,h => by simp only [cZ] at h ⊢; obtain ⟨xs,e,h2⟩ := h; obtain ⟨ys,e2,h3⟩ := ho p k xs e; exact ⟨ys,e2,by omega⟩
 | .eW k p i off,h => by simp only [cZ] at h ⊢; obtain ⟨xs,e,h2⟩ := h; obtain ⟨ys,e2,h3⟩ := ho p k xs e; exact ⟨ys,e2,by omega⟩
 | .ptr b off,h => h
 | .agg cs,h => by simp only [cZ] at h ⊢; exact yQ ho cs h
 | .dD cs,h => by simp only [cZ] at h ⊢; exact yQ ho cs h
 | .func f a b,h => by simp only [cZ] at h ⊢; exact ⟨yQ ho a h.1,yQ ho b h.2⟩
 | .any,_ => trivial
 | .undef,_ => trivial
 | .fk,_ => trivial
 | .fu,_ => trivial
 | .dJ,_ => trivial
 | .int _ _,_ => trivial
 | .bool _,_ => trivial
 | .str _,_ => trivial
 | .list _ _,_ => trivial
 | .dI _,_ => trivial
 | .own _ _,_ => trivial
 | .sl _ _ _ _,h => h
theorem yQ {o o' : Rt -> Option (Nat × List AV)} {nb : Nat} (ho : ∀ p k xs,o p = some (k,xs) -> ∃ ys,o' p = some (k,ys) /\ xs.length <= ys.length) : ∀ cs,jU o nb cs -> jU o' nb cs
 | [],_ => trivial
 | x :: r,h => ⟨Tw ho x h.1,yQ ho r h.2⟩
end
theorem km {l vs : List AV} {off : Nat} (h : off + vs.length <= l.length) (m : Nat) : (iZ l off vs)[m]? = if m < off then l[m]? else if m < off + vs.length then vs[m - off]? else l[m]? := by
 unfold iZ;have h1 : (l.take off).length = off := by simp; omega
 by_cases a : m < off
 ·rw [if_pos a,bK,aq (by omega),bf,if_pos a]
 ·rw [if_neg a];by_cases b : m < off + vs.length
  ·rw [if_pos b,bK,aK (by omega),h1,aq (by omega)]
  ·rw [if_neg b,aK (by simp; omega),aQ];congr 1;simp; omega
section
variable {P : Program} {X : Nat -> Prop} {φ φ' : dF} {w w' : World} {N N' : Names} {s s1 : St} {Ha Ha' : Heap} {t : Nat -> Value} {B : Nat -> Nat} {base : Nat} {v va : AV} {v' : Value} {c : eG} {o : Oper} {a : Act} {kd : Kd}
theorem abj {p : Rt} {k : Nat} {xs xs' : List AV} (hp : az s p = some (k,xs)) (hl : xs'.length = xs.length) (i : Nat) : j9 N i (get (setAt s p (.own k xs')).env i) = j9 N i (get s.env i) := by
 have s9 := cH.1 hp;cases p with
 | s j =>
   simp only [at_,ah] at s9;simp only [setAt,bu];by_cases e : i = j
   ·subst e; rw [if_pos rfl,s9]; simp only [j9,iH,hl]
   ·rw [if_neg e]
 | sc j l =>
   simp only [at_] at s9;cases hg : get s.env j <;> rw [hg] at s9 <;> simp at s9
   rename_i ds;have hs : setAt s (.sc j l) (.own k xs') = ⟨put s.env j (.agg (ds.set l (.own k xs'))),s.H⟩ := by simp [setAt,hg]
   rw [hs];simp only [bu];by_cases e : i = j
   ·subst e;rw [if_pos rfl,hg];simp only [j9];congr 1;apply dS;intro m;rw [fO,fO,bg];by_cases hm : l = m
    ·subst hm;rw [if_pos rfl,if_pos (au s9),s9];simp only [cX,iH,hl]
    ·rw [if_neg hm]
   ·rw [if_neg e]
 | c b l =>
   simp only [at_] at s9;cases hg : aJ s.H b <;> rw [hg] at s9 <;> simp at s9
   simp [setAt,hg]
theorem eV.upd (h : eV X φ w N s Ha t) {p : Rt} {k n : Nat} {xs xs' : List AV} (hp : az s p = some (k,xs)) (hn : N.ν p = some n) (hl : xs'.length = xs.length) (ad : fo φ w φ' w') (hh : cJ X φ' w' Ha') (ho : ph Ha' (some n) k xs') (hb : ∀ m,m ≠ n -> aJ Ha' m = aJ Ha m) :
  eV X φ' w' N (setAt s p (.own k xs')) Ha' t /\ Shape s (setAt s p (.own k xs')) := by
 have s9 := cH.1 hp;have jX : Fits s p (.own k xs') := ⟨(fun cs e => by cases e),_,s9,(fun cs e => by cases e)⟩;have jv := Shape.set jX;generalize hs' : setAt s p (.own k xs') = s' at jv ⊢
 have own : ∀ q,az s' q = if q = p then some (k,xs') else az s q := by
  refine ve jv (fun q hq => ?_) (fun q hq => ?_)
  ·have e : at_ s' q = if q = p then some (.own k xs') else at_ s q := by rw [<- hs']; exact A9 jX hq
   by_cases lY : q = p
   ·rw [if_pos lY] at e ⊢; exact cH.2 e
   ·rw [if_neg lY] at e ⊢; exact iJ e
  ·rw [if_neg (by rintro rfl; exact hq (EM (by rw [hp]; rfl)))];exact qu hq
 have hlen : ∀ q k' ys,az s q = some (k',ys) -> ∃ zs,az s' q = some (k',zs) /\ ys.length <= zs.length := by
  intro q k' ys e;rw [own];by_cases lY : q = p
  ·subst lY;rw [hp] at e;cases e;exact ⟨xs',by rw [if_pos rfl],by omega⟩
  ·exact ⟨ys,by rw [if_neg lY]; exact e,aT _⟩
 have oiff : ∀ {q},(az s' q).isSome -> (az s q).isSome := by
  intro q hq;rw [own] at hq;by_cases lY : q = p
  ·subst lY; rw [hp]; rfl
  ·rw [if_neg lY] at hq; exact hq
 have biff : ∀ {b},(aJ s'.H b).isSome -> (aJ s.H b).isSome := by
  intro b hb;cases e : aJ s.H b with
  | none => rw [jv.An b e] at hb; cases hb
  | some _ => rfl
 have okk : ∀ r y,Lf s' r -> at_ s' r = some y -> cZ (az s') s'.H.length y := by
  intro r y hr hy;obtain ⟨vZ,x,hx⟩ := jv.back hr hy;have e : at_ s' r = if r = p then some (.own k xs') else at_ s r := by rw [<- hs']; exact A9 jX vZ
  rw [e] at hy;by_cases Cq : r = p
  ·rw [if_pos Cq] at hy; cases hy; trivial
  ·rw [if_neg Cq] at hy;rw [jv.len];exact Tw hlen y (h.yP hy)
 obtain ⟨hk,hkc⟩ := EU okk;refine ⟨⟨fun i => ?_,hk,hh,fun q k' ys e => ?_,fun b cs e => ?_,fun q r m e1 e2 e3 e4 => h.inj q r m (oiff e1) (oiff e2) e3 e4,fun b q e1 e2 e3 => h.bx b q (biff e1) (oiff e2) e3,fun b d e1 e2 e3 => h.bi b d (biff e1) (biff e2) e3⟩,jv⟩
 ·rw [<- hs',abj hp hl]; exact ad.rep (h.env i)
 ·rw [own] at e;by_cases lY : q = p
  ·subst lY;rw [if_pos rfl] at e;cases e;rw [hn];exact ho
  ·rw [if_neg lY] at e;refine (h.own q k' ys e).same fun m hm => hb m ?_;rintro rfl;exact lY (h.inj q p m (by rw [e]; rfl) (by rw [hp]; rfl) hm hn)
 ·cases G3 : aJ s.H b with
  | none => rw [jv.An b G3] at e; cases e
  | some Un =>
    obtain ⟨ds,q1,q2⟩ := jv.box b Un G3;rw [e] at q1; cases q1;obtain ⟨as,g1,g2,g3⟩ := h.box b Un G3;refine ⟨as,?_,by omega,fun j d hd => ⟨hkc b cs e j d hd,?_⟩⟩
    ·rw [hb]
     ·exact g1
     ·intro e3; exact h.bx b p (by rw [G3]; rfl) (by rw [hp]; rfl) (by rw [hn,e3])
    ·obtain ⟨d0,hd0⟩ := aV (l := Un) (i := j) (by have := au hd; omega);obtain ⟨_,a',a1,a2⟩ := g3 j d0 hd0;refine ⟨a',a1,?_⟩;have e3 : at_ s' (.c b j) = if Rt.c b j = p then some (.own k xs') else at_ s (.c b j) := by rw [<- hs']; exact A9 jX (fun i e => by cases e)
     rw [uJ e,uJ G3,hd,hd0] at e3;by_cases Cq : Rt.c b j = p
     ·rw [if_pos Cq] at e3;cases e3
      have hat' : d0 = .own k xs := by
       rw [<- Cq,uJ G3,hd0] at s9;exact cK s9
      subst hat';simp only [iH,hl] at a2 ⊢;exact a2
     ·rw [if_neg Cq] at e3;cases e3;exact a2
theorem PK {k off : Nat} {x : AV} {vs : List AV} (hx : x.cells.length = k) (hf : off + vs.length <= k) : (Lt k x off vs).cells = iZ x.cells off vs := by
 unfold Lt;split
 ·rename_i h;rw [qI];obtain ⟨rfl,hl⟩ := h;unfold iZ;rw [Pr (by omega)];simp
 ·rw [qI]
theorem RK : ∀ {cs : List AV},Q1 cs = true -> gR N cs = cs
 | [],_ => rfl
 | x :: r,h => by
   simp only [Q1,aa] at h;simp only [gR];rw [RK h.2];have := (iC h.1).1;congr 1;cases x <;> first | exact j8 N _ this | (simp [pl] at this; done)
theorem agz (hm : P.follows .mixedOrders = true) (h : SB X φ w B base s (tm a)) (hg : Am.ek (iq c) X φ w) {k k' i off : Nat} {x y : E} {p : Rt} {xs : List AV} {u : AV} (hk : dm P o.op (kY (.st k x y)) = true) (Cp : bn c s.env x = .eW k' p i off) (hp : az s p = some (k',xs)) (hu : xs[i]? = some u)
  (h1 : (bn c s.env y).cells.length = k) (h2 : off + k <= k') (h3 : Q1 (bn c s.env y).cells = true) : k8 P X φ w B base (setAt s p (.own k' (xs.set i (Lt k' u off (bn c s.env y).cells)))) .undef o a := by
 obtain ⟨N,Ha,h,hb⟩ := h;obtain ⟨⟨o1,c1⟩,o2,c2⟩ := ahl hk;have hx := cQ (c := c) (cA := iq c) h rfl c1;have hy := cQ (c := c) (cA := iq c) h rfl c2;have dy := hx.ok;rw [Cp] at dy;obtain ⟨n,hn,e2⟩ := EI h dy;have eQ := h.own p k' xs hp;rw [hn] at eQ;obtain ⟨cs,q1,q2,q3,q4⟩ := eQ;generalize um : (bn c s.env y).cells = vs at h1 h3 ⊢;have fQ : (Am.ev (iq c) (yj N s.env) (kZ y)).cells = vs := by rw [hy.ev,FY N hy.na,um,RK h3]
 have vw : bq vs = true := rQ fun z hz => (iC (jO h3 z hz)).2;have huk : u.cells.length = k' := q3 u (aR hu);have hilt := au hu;have sP : (i + 1) * k' <= xs.length * k' := bD k' hilt;rw [cq] at sP;have jX : i * k' + off + k <= cs.length := by omega
 refine k8.of (lH (va := .undef) (Ha' := Ha.set n (some (iZ cs (i * k' + off) vs))) hm h hg hk (by simp only [kY,fL,hx.ev,Cp,fM,e2,q1,fQ,if_pos (⟨h1,jX,vw⟩ : vs.length = k /\ i * k' + off + k <= cs.length /\ bq vs = true)]; rfl)) fun v' w' φ' r hh ad => ?_;have QX := PK (k := k') (off := off) (vs := vs) huk (by omega)
 have KB : ph (Ha.set n (some (iZ cs (i * k' + off) vs))) (some n) k' (xs.set i (Lt k' u off vs)) := by
  refine ⟨iZ cs (i * k' + off) vs,by rw [dO,if_pos ⟨rfl,eL q1⟩],?_,?_,?_⟩
  ·rw [dw,fS (by omega)]; exact q2
  ·intro z hz;rcases cz hz with hz | rfl
   ·exact q3 z hz
   ·rw [QX,fS (by omega),huk]
  ·have aeL : ∀ z ∈ xs.set i (Lt k' u off vs),z.cells.length = k' := by
    intro z hz;rcases cz hz with hz | rfl
    ·exact q3 z hz
    ·rw [QX,fS (by omega),huk]
   intro m d hd;obtain ⟨i',z,j,z1,z2,z3⟩ := (ia aeL).2 m d hd;have hj : j < k' := by rw [<- aeL z (aR z1)]; exact au z2
   rw [bg] at z1;by_cases hii : i = i'
   ·subst hii;rw [if_pos rfl,if_pos hilt] at z1;cases z1;rw [QX,km (by omega)] at z2
    have HT : u.cells[j]? = some d -> j < off \/ ¬ j < off + vs.length -> fz d = true /\ ∃ e,(iZ cs (i * k' + off) vs)[m]? = some e /\ e.leaf = true /\ Le d e := by
     intro e hc;obtain ⟨f1,e',f2,f3,f4⟩ := q4 _ d (zg q3 hu e);refine ⟨f1,e',?_,f3,f4⟩;rw [z3,km (by omega)];rcases hc with hc | hc
     ·rw [if_pos (by omega)]; exact f2
     ·rw [if_neg (by omega),if_neg (by omega)]; exact f2
    split at z2
    ·rename_i hc; exact HT z2 (.inl hc)
    ·split at z2
     ·rename_i Lg Ic;have hz := jO h3 d (aR z2);refine ⟨hz,d,?_,(iC hz).2,Le.refl _⟩;rw [z3,km (by omega),if_neg (by omega),if_pos (by omega),show i * k' + j - (i * k' + off) = j - off by omega];exact z2
     ·rename_i Lg Ic; exact HT z2 (.inr Ic)
   ·rw [if_neg hii] at z1;obtain ⟨f1,e',f2,f3,f4⟩ := q4 _ d (zg q3 z1 z2);refine ⟨f1,e',?_,f3,f4⟩;rw [z3,km (by omega)];rcases Nat.lt_or_gt_of_ne hii with bO | hgt
    ·have : (i + 1) * k' <= i' * k' := bD k' bO;rw [cq] at this;rw [if_neg (by omega),if_neg (by omega)];exact f2
    ·have : (i' + 1) * k' <= i * k' := bD k' hgt;rw [cq] at this;rw [if_pos (by omega)];exact f2
 obtain ⟨fZ,jv⟩ := h.upd (xs' := xs.set i (Lt k' u off vs)) hp hn (by simp) ad hh KB (fun m B6 => by rw [dO,if_neg (fun e => B6 e.1)]);exact dY.quiet fZ ⟨hb.1,by rw [jv.len]; exact hb.2⟩ trivial trivial r
end
end Go.Bm

/- Stores into boxes. -/
namespace Go.Bm
open Go.Am
section
variable {P : Program} {X : Nat -> Prop} {φ φ' : dF} {w w' : World} {N N' : Names} {s s' s1 : St} {Ha Ha' : Heap} {t t' : Nat -> Value} {B : Nat -> Nat} {base : Nat} {v va : AV} {v' : Value} {c : eG} {o : Oper} {a : Act} {kd : Kd}
theorem qx (i b off : Nat) : ∀ k p x l,dH i b off (.dA k p x l) = .dA k (cO i b off p) x l /\ dH i b off (.eW k p x l) = .eW k (cO i b off p) x l := fun _ _ _ _ => ⟨rfl,rfl⟩
theorem uX (N : Names) (i : Nat) (v : AV) : (j9 N i v).cells.length = v.cells.length /\ ∀ (j : Nat) (d : AV),v.cells[j]? = some d -> (j9 N i v).cells[j]? = some (iH N (match v with
  | .agg _ => .sc i j
  | _ => .s i) d) := by
 by_cases ha : ∃ cs,v = .agg cs
 ·obtain ⟨cs,rfl⟩ := ha;simp only [j9,AV.cells];exact ⟨hM _ _ _ _,fun j d hd => by rw [fO,hd]; simp⟩
 ·have hn : jx v := fun cs e => ha ⟨cs,e⟩;have e1 : j9 N i v = iH N (.s i) v := by cases v <;> first | rfl | exact absurd rfl (hn _)
  have e2 : v.cells = [v] := by cases v <;> first | rfl | exact absurd rfl (hn _)
  have e3 : (iH N (.s i) v).cells = [iH N (.s i) v] := by
   cases v <;> first
    | rfl
    | exact absurd rfl (hn _)
    | (rename_i k xs; simp only [iH,pd]; cases N.ν (.s i) <;> rfl)
    | (rename_i k p x l; simp only [iH,cW]; cases N.ν p <;> rfl)
  rw [e1,e2,e3];refine ⟨rfl,fun j d hd => ?_⟩;cases j with
  | zero =>
    simp at hd;subst hd;cases v <;> first | rfl | exact absurd rfl (hn _)
  | succ j => simp at hd
theorem E7 {g : AV -> AV} (hg : jI g) (v : AV) : (cU g v).cells = dp g v.cells := by
 by_cases ha : ∃ cs,v = .agg cs
 ·obtain ⟨cs,rfl⟩ := ha;simp [cU,AV.cells]
 ·have hn : jx v := fun cs e => ha ⟨cs,e⟩;have hn2 := kD hg hn;have e2 : v.cells = [v] := by cases v <;> first | rfl | exact absurd rfl (hn _)
  rw [e2];simp only [dp];generalize cU g v = y at hn2;cases y <;> first | rfl | exact absurd rfl (hn2 _)
def oW (i : Nat) (v : AV) (j : Nat) : Rt :=
 match v with
 | .agg _ => .sc i j
 | _ => .s i
theorem WA {i : Nat} {j : Nat} {d : AV} (h : (get s.env i).cells[j]? = some d) : at_ s (oW i (get s.env i) j) = some d := by
 by_cases ha : ∃ cs,get s.env i = .agg cs
 ·obtain ⟨cs,e⟩ := ha;rw [e] at h ⊢;simp only [oW];rw [Gg e];exact h
 ·have hn : jx (get s.env i) := fun cs e => ha ⟨cs,e⟩
  have e2 : (get s.env i).cells = [get s.env i] := by
   generalize get s.env i = v at hn;cases v <;> first | rfl | exact absurd rfl (hn _)
  have e3 : oW i (get s.env i) j = .s i := by
   generalize get s.env i = v at hn;cases v <;> first | rfl | exact absurd rfl (hn _)
  rw [e2] at h;rw [e3];cases j with
  | zero => simp at h; rw [<- h]; rfl
  | succ j => simp at h
theorem eV.adB (h : eV X φ w N s Ha t) {i b off k : Nat} {cs as : List AV} (hb : aJ s.H b = some cs) (has : aJ Ha (N.β b) = some as) (hk : (get s.env i).cells.length = k) (jX : off + k <= cs.length)
  (hC : ∀ r x,at_ s r = some x -> ∀ p ∈ aN x,dh b off k p = false)
  (ad : fo φ w φ' w') (hh : cJ X φ' w' (Ha.set (N.β b) (some (iZ as off (j9 N i (get s.env i)).cells))))
  (he : ∀ j,get s'.env j = if j = i then .any else cU (dH i b off) (get s.env j)) (hH : s'.H = (fy (dH i b off) s.H).set b (some (iZ (dp (dH i b off) cs) off (cU (dH i b off) (get s.env i)).cells))) (ht : ∀ j,j ≠ i -> t' j = t j) :
  ∃ N',N'.β = N.β /\ eV X φ' w' N' s' (Ha.set (N.β b) (some (iZ as off (j9 N i (get s.env i)).cells))) t' := by
 have hg := qx i b off;have hL := TU i b off;generalize hv : get s.env i = v at *;obtain ⟨tc1,tc2⟩ := uX N i v;have hblt := eL hb;have halt := eL has
 have hasl : as.length = cs.length := by
  obtain ⟨as',g1,g2,_⟩ := h.box b cs hb;rw [has] at g1; cases g1; exact g2
 have xT : (cU (dH i b off) v).cells = dp (dH i b off) v.cells := E7 hL v
 -- where a place of the new state comes from
 obtain ⟨u,hu1,hu2⟩ : ∃ u : Rt -> Rt,(∀ j,off <= j -> j < off + k -> u (.c b j) = oW i v (j - off)) /\ ∀ q,dh b off k q = false -> u q = q :=
  ⟨fun q => match q with
   | .c d j => if d = b /\ off <= j /\ j < off + k then oW i v (j - off) else .c d j
   | q => q,fun j h1 h2 => by simp [h1,h2],fun q hq => by
     cases q with
     | s j => rfl
     | sc j l => rfl
     | c d j =>
       simp only [dh,wh,decide_eq_false_iff_not] at hq;have : ¬ (d = b /\ off <= j /\ j < off + k) := by omega
       simp [this]⟩
 have blkH : ∀ d,aJ s'.H d = if d = b then some (iZ (dp (dH i b off) cs) off (dp (dH i b off) v.cells)) else (aJ s.H d).map (dp (dH i b off)) := by
  intro d;rw [hH,dO,dW,xT,fX];by_cases e : d = b
  ·subst e; simp [hblt]
  ·simp [e]
 have atq : ∀ q,bz i q = false -> dh b off k q = false -> at_ s' q = (at_ s q).map (cU (dH i b off)) := by
  intro q h1 h2;cases q with
  | s j => simp only [bz,decide_eq_false_iff_not] at h1; simp [at_,he,h1]
  | sc j l =>
    simp only [bz,decide_eq_false_iff_not] at h1;have := jc hL s (.sc j l);simp only [at_,bP,dt] at this;simp only [at_,he,if_neg h1];exact this
  | c d j =>
    simp only [at_,blkH];by_cases e : d = b
    ·subst e;simp only [if_true,hb];simp only [dh,decide_true,uU,wh,decide_eq_false_iff_not] at h2;rw [km (by rw [cI,cI,hk]; exact jX),cI,hk];by_cases c1 : j < off
     ·rw [if_pos c1,eI]
     ·rw [if_neg c1,if_neg (by omega),eI]
    ·simp only [if_neg e];cases aJ s.H d with
     | none => rfl
     | some ds => simp [eI]
 have atb : ∀ j,off <= j -> j < off + k -> at_ s' (.c b j) = (v.cells[j - off]?).map (cU (dH i b off)) := by
  intro j h1 h2;simp only [at_,blkH,if_true];rw [km (by rw [cI,cI,hk]; exact jX),cI,hk,if_neg (by omega),if_pos h2,eI]
 have ati : ∀ q,bz i q = true -> az s' q = none := by
  intro q hq;cases q with
  | s j => simp only [bz,decide_eq_true_eq] at hq; subst hq; unfold az; simp [at_,he]
  | sc j l => simp only [bz,decide_eq_true_eq] at hq; subst hq; unfold az; simp [at_,he]
  | c d j => simp [bz] at hq
 have cellAt : ∀ j d,v.cells[j]? = some d -> at_ s (oW i v j) = some d := fun j d hd => by
  have := WA (s := s) (i := i) (j := j) (d := d) (by rw [hv]; exact hd)
  rwa [hv] at this
 have own : ∀ q k' xs,az s' q = some (k',xs) -> az s (u q) = some (k',xs) := by
  intro q k' xs e
  have hqi : bz i q = false := by
   cases e2 : bz i q with
   | true => rw [ati q e2] at e; cases e
   | false => rfl
  have e' := cH.1 e;cases hq : dh b off k q with
  | false =>
    rw [hu2 q hq];rw [atq q hqi hq] at e';cases ha : at_ s q with
    | none => rw [ha] at e'; cases e'
    | some x =>
      rw [ha] at e';simp only [cX,ah] at e';rw [tZ hL] at e';subst e';exact cH.2 ha
  | true =>
    cases q with
    | s j => simp [dh] at hq
    | sc j l => simp [dh] at hq
    | c d j =>
      simp only [dh,aa,decide_eq_true_eq] at hq;obtain ⟨rfl,h1,h2⟩ := hq;rw [hu1 j h1 h2];rw [atb j h1 h2] at e';cases ha : v.cells[j - off]? with
      | none => rw [ha] at e'; cases e'
      | some x =>
        rw [ha] at e';simp only [cX,ah] at e';rw [tZ hL] at e';subst e';exact cH.2 (cellAt _ _ ha)
 have ahB : (∃ ds,v = .agg ds) \/ (jx v /\ v.cells = [v] /\ ∀ j,oW i v j = .s i) := by
  by_cases ha : ∃ ds,v = .agg ds
  ·exact .inl ha
  ·have hn : jx v := fun ds e => ha ⟨ds,e⟩;refine .inr ⟨hn,?_,fun j => ?_⟩
   ·cases v <;> first | rfl | exact absurd rfl (hn _)
   ·cases v <;> first | rfl | exact absurd rfl (hn _)
 -- an owner that was, where it is now
 have Vj : ∀ p,(az s p).isSome -> dh b off k p = false -> az s' (cO i b off p) = az s p /\ u (cO i b off p) = p := by
  intro p hp hc;obtain ⟨⟨k',xs⟩,e⟩ := aW.1 hp;have e' := cH.1 e;cases hpi : bz i p with
  | false =>
    have hm : cO i b off p = p := by
     cases p with
     | s j => simp only [bz,decide_eq_false_iff_not] at hpi; simp [cO,hpi]
     | sc j l => simp only [bz,decide_eq_false_iff_not] at hpi; simp [cO,hpi]
     | c d j => rfl
    rw [hm];refine ⟨?_,hu2 p hc⟩;rw [<- iK hL s p];exact iJ (by rw [atq p hpi hc,jc hL])
  | true =>
    cases p with
    | s j =>
      simp only [bz,decide_eq_true_eq] at hpi;subst hpi;simp only [at_,ah] at e';rw [hv] at e';subst e';have hk1 : k = 1 := by rw [<- hk]; rfl
      subst hk1;have hm : cO j b off (.s j) = .c b off := by simp [cO]
      rw [hm,hu1 off (aT _) (by omega)];refine ⟨?_,rfl⟩;rw [e];exact cH.2 (by rw [atb off (aT _) (by omega)]; simp [AV.cells,cU])
    | sc j l =>
      simp only [bz,decide_eq_true_eq] at hpi;subst hpi;simp only [at_,hv] at e';split at e'
      case h_2 => cases e'
      rename_i ds;have hl : l < k := by rw [<- hk]; exact au e'
      have hm : cO j b off (.sc j l) = .c b (off + l) := by simp [cO]
      rw [hm,hu1 (off + l) (by omega) (by omega)];refine ⟨?_,by simp [oW]⟩;rw [e];exact cH.2 (by rw [atb (off + l) (by omega) (by omega)]; simp [AV.cells,e',cU])
    | c d j => simp [bz] at hpi
 have back : ∀ q,(az s' q).isSome -> cO i b off (u q) = q := by
  intro q hq
  have hqi : bz i q = false := by
   cases e2 : bz i q with
   | true => rw [ati q e2] at hq; cases hq
   | false => rfl
  cases hc : dh b off k q with
  | false =>
    rw [hu2 q hc];cases q with
    | s j => simp only [bz,decide_eq_false_iff_not] at hqi; simp [cO,hqi]
    | sc j l => simp only [bz,decide_eq_false_iff_not] at hqi; simp [cO,hqi]
    | c d j => rfl
  | true =>
    cases q with
    | s j => simp [dh] at hc
    | sc j l => simp [dh] at hc
    | c d j =>
      simp only [dh,aa,decide_eq_true_eq] at hc;obtain ⟨rfl,h1,h2⟩ := hc;rw [hu1 j h1 h2];rcases ahB with ⟨ds,rfl⟩ | ⟨_,Lg,hp1⟩
      ·simp only [oW,cO,if_true];rw [show off + (j - off) = j by omega]
      ·rw [hp1];have : k = 1 := by rw [<- hk,Lg]; rfl
       simp only [cO,if_true];rw [show off = j by omega]
 have hlen : s'.H.length = s.H.length := by rw [hH,dw,fX]
 obtain ⟨N',eZ,hN⟩ : ∃ N' : Names,N'.β = N.β /\ ∀ q,N'.ν q = N.ν (u q) := ⟨⟨N.β,fun q => N.ν (u q)⟩,rfl,fun _ => rfl⟩;have lh : ∀ p,(az s p).isSome -> dh b off k p = false -> N'.ν (cO i b off p) = N.ν p := fun p hp hc => by rw [hN,(Vj p hp hc).2]
 have bor1 : ∀ {r x},at_ s r = some x -> (∀ p ∈ aN x,N'.ν (cO i b off p) = N.ν p) /\ cZ (az s') s'.H.length (cU (dH i b off) x) := by
  intro r x hx;refine ⟨fun p hp => lh p (h.dA hx p hp) (hC r x hx p hp),?_⟩;rw [hlen];exact NA hg x (fun p hp => (Vj p (h.dA hx p hp) (hC r x hx p hp)).1) (h.yP hx)
 have so : ∀ {q},(az s' q).isSome -> (az s (u q)).isSome := by
  intro q hq;obtain ⟨⟨k',xs⟩,e⟩ := aW.1 hq;rw [own q k' xs e]; rfl
 have sb : ∀ {d},(aJ s'.H d).isSome -> (aJ s.H d).isSome := by
  intro d hd;rw [blkH] at hd;by_cases e : d = b
  ·subst e; rw [hb]; rfl
  ·rw [if_neg e] at hd;cases e2 : aJ s.H d with
   | none => rw [e2] at hd; cases hd
   | some _ => rfl
 refine ⟨N',eZ,⟨fun j => ?_,fun j => ?_,hh,fun q k' xs e => ?_,fun d ds e => ?_,fun p q n e1 e2 e3 e4 => ?_,fun d q e1 e2 e3 => ?_,fun d e e1 e2 e3 => ?_⟩⟩
 ·rw [he];by_cases GY : j = i
  ·rw [if_pos GY]; exact .any _ _
  ·rw [if_neg GY,ht j GY];rw [I6 (N := N) (i := j) eZ hg (by rw [hN,hu2 _ rfl]) (fun l => by rw [hN,hu2 _ rfl]) (bor1 (r := .s j) rfl).1];exact ad.rep (h.env j)
 ·rw [he];by_cases GY : j = i
  ·rw [if_pos GY]; trivial
  ·rw [if_neg GY]; exact (bor1 (r := .s j) rfl).2
 ·have e2 := own q k' xs e;rw [hN];refine (h.own _ k' xs e2).same fun n hn => ?_;rw [dO,if_neg];rintro ⟨e3,_⟩;exact h.bx b (u q) (by rw [hb]; rfl) (by rw [e2]; rfl) (by rw [hn,e3])
 ·rw [blkH] at e;by_cases hd : d = b
  ·subst hd;rw [if_pos rfl] at e;cases e;refine ⟨iZ as off (j9 N i v).cells,by rw [eZ,dO,if_pos ⟨rfl,halt⟩],?_,fun j x hx => ?_⟩
   ·rw [fS (by rw [tc1,hk]; omega),fS (by rw [cI,cI,hk]; omega),cI,hasl]
   ·rw [km (by rw [cI,cI,hk]; exact jX),cI,hk] at hx
    have outside : (dp (dH i d off) cs)[j]? = some x -> dh d off k (.c d j) = false -> (∀ hj : True,(iZ as off (j9 N i v).cells)[j]? = as[j]?) -> cZ (az s') s'.H.length x /\ ∃ a',(iZ as off (j9 N i v).cells)[j]? = some a' /\ Le (iH N' (.c d j) x) a' := by
     intro hx hc hov;rw [eI] at hx;cases AR : cs[j]? with
     | none => rw [AR] at hx; cases hx
     | some x0 =>
       rw [AR] at hx;simp at hx;subst hx;obtain ⟨as2,g1,g2,g3⟩ := h.box d cs hb;rw [has] at g1; cases g1;obtain ⟨_,a',a1,a2⟩ := g3 j x0 AR;have m8 := bor1 (r := .c d j) (x := x0) (by rw [uJ hb]; exact AR);refine ⟨m8.2,a',by rw [hov trivial]; exact a1,?_⟩;rw [wo (N := N) (r := .c d j) eZ hg (fun _ _ _ => by rw [hN,hu2 _ hc]) m8.1];exact a2
    split at hx
    ·rename_i c1;exact outside hx (by simp [dh]; omega) (fun _ => by rw [km (by rw [tc1,hk]; omega),if_pos c1])
    ·split at hx
     ·rename_i c1 c2;rw [eI] at hx;cases AR : v.cells[j - off]? with
      | none => rw [AR] at hx; cases hx
      | some x0 =>
        rw [AR] at hx;simp at hx;subst hx;have m8 := bor1 (cellAt _ _ AR);refine ⟨m8.2,iH N (oW i v (j - off)) x0,?_,?_⟩
        ·rw [km (by rw [tc1,hk]; omega),if_neg c1,if_pos (by rw [tc1,hk]; exact c2),tc2 _ _ AR];cases v <;> rfl
        ·rw [wo (N := N) (r := oW i v (j - off)) eZ hg (fun _ _ _ => by rw [hN,hu1 j (by omega) c2]) m8.1];exact Le.refl _
     ·rename_i c1 c2;exact outside hx (by simp [dh]; omega) (fun _ => by rw [km (by rw [tc1,hk]; omega),if_neg c1,if_neg (by rw [tc1,hk]; exact c2)])
  ·rw [if_neg hd] at e;cases mz : aJ s.H d with
   | none => rw [mz] at e; cases e
   | some ds0 =>
     rw [mz] at e;simp at e;subst e;obtain ⟨as2,g1,g2,g3⟩ := h.box d ds0 mz;refine ⟨as2,?_,by rw [cI]; exact g2,fun j x hx => ?_⟩
     ·rw [eZ,dO,if_neg]
      ·exact g1
      ·rintro ⟨e3,_⟩;exact hd (h.bi d b (by rw [mz]; rfl) (by rw [hb]; rfl) e3)
     ·rw [eI] at hx;cases AR : ds0[j]? with
      | none => rw [AR] at hx; cases hx
      | some x0 =>
        rw [AR] at hx;simp at hx;subst hx;obtain ⟨_,a',a1,a2⟩ := g3 j x0 AR;have m8 := bor1 (r := .c d j) (x := x0) (by rw [uJ mz]; exact AR);refine ⟨m8.2,a',a1,?_⟩;rw [wo (N := N) (r := .c d j) eZ hg (fun _ _ _ => by rw [hN,hu2 _ (by simp [dh,hd])]) m8.1];exact a2
 ·rw [hN] at e3 e4;have := h.inj _ _ n (so e1) (so e2) e3 e4;rw [<- back p e1,this,back q e2]
 ·rw [hN,eZ] at e3;exact h.bx d _ (sb e1) (so e2) e3
 ·rw [eZ] at e3;exact h.bi d e (sb e1) (sb e2) e3
end
end Go.Bm

/- Stores. -/
namespace Go.Bm
open Go.Am
section
variable {P : Program} {X : Nat -> Prop} {φ φ' : dF} {w w' : World} {N N' : Names} {s s' s1 : St} {Ha Ha' : Heap} {t t' : Nat -> Value} {B : Nat -> Nat} {base : Nat} {v va : AV} {v' : Value} {c : eG} {o : Oper} {a : Act} {kd : Kd}
theorem acZ {op : Op} {k : Nat} {x y : E} (h : dm P op (.st k x y) = true) : ∃ ty xo yo,op = .store ty xo yo /\ lI P ty k = true /\ dv xo x = true /\ dv yo y = true := by
 unfold dm at h;split at h <;> simp_all
 exact ⟨_,_,_,⟨rfl,rfl,rfl⟩,h.1.1,h.1.2,h.2⟩
theorem Hh (h : eV X φ w N s Ha t) {i : Nat} (hl : bq (get s.env i).cells = true) : bq (j9 N i (get s.env i)).cells = true := by
 obtain ⟨h1,h2⟩ := uX N i (get s.env i);refine rQ fun d hd => ?_;obtain ⟨j,hj⟩ := br hd;obtain ⟨x,hx⟩ := aV (l := (get s.env i).cells) (i := j) (by have := au hj; omega);rw [h2 j x hx] at hj;cases hj;have hxl := uO hl x (aR hx);have dy := CO (tR (h.GQ i)) x (aR hx);by_cases ho : ∃ k xs,x = .own k xs
 ·obtain ⟨k,xs,rfl⟩ := ho;simp only [iH,pd];split <;> rfl
 ·have := Kp h hxl dy;cases x <;> first | exact this | exact absurd ⟨_,_,rfl⟩ ho
theorem B9 : ∀ {ds : List AV},bJ ds = false -> ∀ x ∈ ds,∀ k xs,x ≠ .own k xs
 | [],_,x,hx => by simp at hx
 | y :: r,h,x,hx => by
   intro k xs e;subst e;obtain ⟨j,hj⟩ := br hx;exact xV h j k xs hj
theorem DB {b off k : Nat} {cs : List AV} (hb : aJ s.H b = some cs) (ho : bJ ((cs.drop off).take k) = false) {p : Rt} (hp : (az s p).isSome) : dh b off k p = false := by
 cases p with
 | s j => rfl
 | sc j l => rfl
 | c d j =>
   cases e : dh b off k (.c d j) with
   | false => rfl
   | true =>
     simp only [dh,aa,decide_eq_true_eq] at e;obtain ⟨rfl,h1,h2⟩ := e;obtain ⟨⟨k',xs⟩,e2⟩ := aW.1 hp;have e3 := cH.1 e2;rw [uJ hb] at e3;refine absurd rfl (B9 ho (.own k' xs) ?_ k' xs);refine aR (i := j - off) ?_;rw [bf,if_pos (by omega),aQ,show off + (j - off) = j by omega];exact e3
theorem Nz (hm : P.follows .mixedOrders = true) (h : SB X φ w B base s (tm a)) (hg : Am.ek (iq c) X φ w) {k b off : Nat} {x y : E} {f : Fq} (hk : dm P o.op (kY (.st k x y)) = true) (Cp : bn c s.env x = .ptr b off) (hs : vQ s b off k (bn c s.env y) = some (s',f)) : k8 P X φ w B base s' .undef o a := by
 obtain ⟨N,Ha,h,hbB,hbl⟩ := h;obtain ⟨ty,xo,yo,fc,kM,c1,c2⟩ := acZ hk;have hx := cQ (c := c) (cA := iq c) h rfl c1;have hy := cQ (c := c) (cA := iq c) h rfl c2;have he : mF X φ w (yj N s.env) a.tmps := fun i => by rw [kW]; exact h.env i
 have rx := b7 (a := a) he hg c1;have ry := b7 (a := a) he hg c2;rw [hx.ev,Cp] at rx;rw [hy.evQ] at ry;simp only [fM,cW] at rx;have AL : dY X φ w N.β s.H.length s (bn c s.env y) (tm a) (a.eval yo) := dY.quiet h ⟨fun _ _ => rfl,aT _⟩ hy.ok hy.EO ry;generalize bn c s.env y = v at *;unfold vQ at hs;split at hs
 case h_2 => cases hs
 rename_i cs dC;split at hs
 case isFalse => cases hs
 rename_i aix;obtain ⟨q1,q2,q3⟩ := aix;have hblt := eL dC;split at hs
 ·split at hs
  case h_2 => cases hs
  rename_i OI;split at hs
  case h_2 => cases hs
  rename_i s2 hh;simp at hs;obtain ⟨rfl,_⟩ := hs;obtain ⟨j5,H9,ad1⟩ := SB.eT b k off (AL.put fg OI);generalize eT b off k ⟨put s.env fg v,s.H⟩ = s1 at hh H9;obtain ⟨N1,Ha1,fZ,pg,hl1⟩ := H9;have hL := TU fg b off;unfold bQ at hh;split at hh
  case h_2 => cases hh
  rename_i cs2 OD;split at hh
  case isFalse => cases hh
  rename_i Ic;obtain ⟨r1,r2,r3,r4⟩ := Ic;simp at hh;subst hh;simp only [bP,dW,dt] at OD r1 r2 r3 r4 ⊢;cases hcs1 : aJ s1.H b with
  | none => rw [hcs1] at OD; cases OD
  | some cs1 =>
    rw [hcs1] at OD;simp at OD;subst OD;rw [E7 hL] at r1 r4;rw [cI] at r1 r2
    have vw : bq (get s1.env fg).cells = true := by
     refine rQ fun d hd => ?_;obtain ⟨j,hj⟩ := br hd;have := uO r4 (cU (dH fg b off) d) (aR (i := j) (by rw [eI,hj]; rfl));cases d <;> first | rfl | exact this
    have iB : bJ ((cs1.drop off).take k) = false := by
     have key : ∀ {l : List AV},bJ (dp (dH fg b off) l) = false -> bJ l = false := by
      intro l
      induction l with
      | nil => intro _; rfl
      | cons z r ih =>
        intro h;simp only [dp] at h;cases z <;> simp [cU,dH,bJ] at h ⊢ <;> exact ih h
     apply key
     have : (dp (dH fg b off) cs1).drop off = dp (dH fg b off) (cs1.drop off) := by
      apply dS; intro j; rw [aQ,eI,eI,aQ]
     rw [this] at r3
     have h2 : (dp (dH fg b off) (cs1.drop off)).take k = dp (dH fg b off) ((cs1.drop off).take k) := by
      apply dS; intro j; rw [bf,eI,eI,bf]; split <;> rfl
     rw [h2] at r3;exact r3
    obtain ⟨as,g1,g2,g3⟩ := fZ.box b cs1 hcs1;have hβ1 : N1.β b = N.β b := pg b hblt;refine k8.ghost ad1 ?_;have dy := Zv (P := P) fc fZ.heap g1 kM (by rw [hβ1]; exact ad1.rep rx) (by have := fZ.env fg; simp only [if_true] at this; exact this) (by rw [(uX N1 fg _).1]; exact r1) (by omega) (Hh fZ vw);refine k8.of dy fun v' w' φ' r hh ad => ?_
    obtain ⟨N',e1,PR⟩ := fZ.adB (i := fg) (b := b) (off := off) (k := k) (s' := ⟨put (ji (dH fg b off) s1.env) fg .any,(fy (dH fg b off) s1.H).set b (some (iZ (dp (dH fg b off) cs1) off (cU (dH fg b off) (get s1.env fg)).cells))⟩) (t' := tm a)
     hcs1 g1 r1 r2 (fun rr z hz p hp => DB hcs1 iB (fZ.dA hz p hp)) ad hh (fun j => by simp only [bu,dt]) rfl (fun j hj => by simp [hj])
    refine dY.quiet PR ⟨fun d hd => ?_,?_⟩ trivial trivial r
    ·rw [e1,pg d (by omega)]; exact hbB d hd
    ·simp only [dw,fX]; omega
 ·rename_i aeK;simp at hs;obtain ⟨rfl,_⟩ := hs;obtain ⟨i,hi,_⟩ := Ig s.env [];obtain ⟨N1,Ha1,fZ,pg,hl1⟩ := AL.put i hi;have hio : bN (get s.env i) = false := by rw [hi]; rfl
  obtain ⟨as,g1,g2,g3⟩ := fZ.box b cs dC;have hβ1 : N1.β b = N.β b := pg b hblt;have gi : get (put s.env i v) i = v := by rw [bu,if_pos rfl]
  have vw : bq (get (put s.env i v) i).cells = true := by rw [gi]; exact q3
  have NW : ∀ {p},(az s p).isSome -> cO i b off p = p := by
   intro p hp;have := rN hio hp;cases p with
   | s j => simp only [bz,decide_eq_false_iff_not] at this; simp [cO,this]
   | sc j l => simp only [bz,decide_eq_false_iff_not] at this; simp [cO,this]
   | c d j => rfl
  have dy := Zv (P := P) fc fZ.heap g1 kM (by rw [hβ1]; exact rx) (by have := fZ.env i; simp only [if_true] at this; exact this) (by rw [(uX N1 i _).1,gi]; exact q1) (by omega) (Hh fZ vw);refine k8.of dy fun v' w' φ' r hh ad => ?_
  have hnoC : ∀ r z,at_ ⟨put s.env i v,s.H⟩ r = some z -> ∀ p ∈ aN z,dh b off k p = false := by
   intro r z hz p hp;simp only [aa,not_and,Bool.not_eq_true] at aeK;cases hod : bJ ((cs.drop off).take k) with
   | false => exact DB (s := ⟨put s.env i v,s.H⟩) dC hod (fZ.dA hz p hp)
   | true =>
     have hn := aeK hod;simp only [Gl,eO] at hn;cases r with
     | s j =>
       simp only [at_,bu,ah] at hz;subst hz;split at hp
       ·exact jH hn.1 p hp
       ·exact oZ hn.2.1 j p hp
     | sc j l =>
       simp only [at_,bu] at hz;split at hz
       ·rename_i ds kc;split at kc
        ·subst kc;exact jH hn.1 p (by simp only [aN]; exact kg hz hp)
        ·exact oZ hn.2.1 j p (by rw [kc]; simp only [aN]; exact kg hz hp)
       ·cases hz
     | c d l =>
       simp only [at_] at hz;split at hz
       ·rename_i ds kc;exact rO hn.2.2 d ds kc p (kg hz hp)
       ·cases hz
  obtain ⟨N',e1,PR⟩ := fZ.adB (i := i) (b := b) (off := off) (k := k) (s' := ⟨s.env,s.H.set b (some (iZ cs off v.cells))⟩) (t' := tm a) dC g1 (by rw [gi]; exact q1) q2 hnoC ad hh
   (fun j => by
    simp only [bu];by_cases hj : j = i
    ·rw [if_pos hj,hj]; exact hi
    ·rw [if_neg hj,if_neg hj,py (qx i b off) _ (fun p hp => NW (h.dA (r := .s j) rfl p hp))])
   (by
    simp only [gi]
    rw [CR (qx i b off) s.H (fun d ds hd p hp => NW (by
     obtain ⟨j,z,h1,h2⟩ := KT hp;exact h.dA (r := .c d j) (by rw [uJ hd]; exact h1) p h2)),
     oL (qx i b off) cs (fun p hp => NW (by
     obtain ⟨j,z,h1,h2⟩ := KT hp;exact h.dA (r := .c b j) (by rw [uJ dC]; exact h1) p h2)),
     py (qx i b off) v (fun p hp => NW (Aj v AL.ok p hp))])
   (fun j hj => by simp [hj])
  refine dY.quiet PR ⟨fun d hd => ?_,?_⟩ trivial trivial r
  ·rw [e1,pg d (by omega)]; exact hbB d hd
  ·simp only [dw]; omega
end
end Go.Bm

/- Every operation that calls nothing. -/
namespace Go.Bm
open Go.Am
def kV : Kd -> Bool
 | .call _ _ => true
 | .jr _ _ => true
 | _ => false
section
variable {P : Program} {X : Nat -> Prop} {φ φ' : dF} {w w' : World} {N N' : Names} {s s' s1 : St} {Ha Ha' : Heap} {t t' : Nat -> Value} {B : Nat -> Nat} {base : Nat} {v va : AV} {v' : Value} {c : eG} {o : Oper} {a : Act} {kd : Kd} {call : Nat -> List AV -> Heap -> Option (AV × Heap)}
theorem Tv (hm : P.follows .mixedOrders = true) (h : SB X φ w B base s (tm a)) (hg : Am.ek (iq c) X φ w) {k : Nat} {zs : List AV} {x : E} (hk : dm P o.op (kY (.Ur k zs x)) = true) (Cp : (∃ k',bn c s.env x = .own k' []) \/ ∃ k',bn c s.env x = .list k' []) : k8 P X φ w B base s .undef o a := by
 obtain ⟨N,Ha,h,hb⟩ := h;obtain ⟨_,o1,h1⟩ := adf hk;have hx := cQ (c := c) (cA := iq c) h rfl h1;refine k8.of (lH (va := .undef) (Ha' := Ha) hm h hg hk (fl := .wr Ha.length []) ?_) fun v' w' φ' r hh ad => ?_
 ·rcases Cp with ⟨k',e⟩ | ⟨k',e⟩ <;> simp only [kY,fL,hx.ev,e,fM,cW]
 ·exact dY.quiet (h.lj ad hh h.own (fun _ _ => rfl)) hb trivial trivial r
theorem ace (hm : P.follows .mixedOrders = true) (h : SB X φ w B base s (tm a)) (hg : Am.ek (iq c) X φ w) {n m b off : Nat} {x : E} {hi : Option E} {cs : List AV} (hk : dm P o.op (kY (.IK n x hi)) = true) (e1 : bn c s.env x = .ptr b off) (mz : yd c s.env n n hi = some m) (hbk : aJ s.H b = some cs) (hl : off + n <= cs.length) : k8 P X φ w B base s (.sl 1 b off m) o a := by
 obtain ⟨N,Ha,h,hb⟩ := h;obtain ⟨⟨o1,h1⟩,h2⟩ := Uu hk;have hx := cQ (c := c) (cA := iq c) h rfl h1;have g2 := Rm (cA := iq c) h rfl h2 mz;obtain ⟨as,a1,a2,_⟩ := h.box b cs hbk;refine k8.of (lH (va := .sl 1 (N.β b) off m) (Ha' := Ha) hm h hg hk (fl := .rd (N.β b)) ?_) fun v' w' φ' r hh ad => ?_
 ·simp only [kY,fL,hx.ev,e1,fM,cW,g2,a1,a2];rw [if_pos hl]
 ·exact dY.quiet (h.lj ad hh h.own (fun _ _ => rfl)) hb (eL hbk) trivial r
theorem aax {k off : Nat} {xs ys : List AV} (h1 : ∀ x ∈ xs,x.cells.length = k) (h2 : ∀ y ∈ ys,y.cells.length = k) : aA (iZ xs off ys) = iZ (aA xs) (off * k) (aA ys) := by
 unfold iZ;rw [aiO,aiO,nE h1,vC h1,gC h2,cq]
theorem ZA (hm : P.follows .mixedOrders = true) (h : SB X φ w B base s (tm a)) (hg : Am.ek (iq c) X φ w) {k off n : Nat} {x y : E} (hk : dm P o.op (kY (.copy k x y)) = true) {p : Rt} {xs ys : List AV} (Cp : bn c s.env x = .dA k p off n) (hp : az s p = some (k,xs)) (hle : off + n <= xs.length) (hn0 : n ≠ 0) (hy : cont s k (bn c s.env y) = some ys) (vw : bq (aA ys) = true) : k8 P X φ w B base (setAt s p (.own k (iZ xs off (ys.take (min ys.length n))))) (.int .i64 (min ys.length n : Nat)) o a := by
 obtain ⟨N,Ha,h,hb⟩ := h;obtain ⟨⟨o1,h1⟩,o2,h2⟩ := O6 hk;have hx := cQ (c := c) (cA := iq c) h rfl h1;have dy := hx.ok;rw [Cp] at dy;obtain ⟨news,n1,n2,n3,n4,n5⟩ := Da h hg h2 hy vw;have eQ := h.own p k xs hp;rcases oY h dy with ⟨b,hn,e2⟩ | ⟨_,_,OA,_⟩
 case inr => exact absurd OA hn0
 rw [hn] at eQ;obtain ⟨cs,q1,q2,q3,q4⟩ := eQ
 have hlk : off * k + n * k <= cs.length := by
  have := bD k hle;rw [cq] at this; omega
 generalize hm2 : min ys.length n = m;have hm3 : m <= n /\ m <= ys.length := by omega
 have hmk : m * k <= n * k := bD k hm3.1
 have hml : (news.take (m * k)).length = m * k := by
  rw [bh,n2];have := bD k hm3.2;omega
 have Lc : ∀ z ∈ ys.take m,z.cells.length = k := fun z hz => n3 z (cD hz);have hfl : aA (ys.take m) = (aA ys).take (m * k) := nE n3 m;have hyl : (ys.take m).length = m := by rw [bh]; omega
 have hfl2 : (aA (ys.take m)).length = m * k := by rw [gC Lc,hyl]
 have hxk : off * k + m * k <= (aA xs).length := by
  rw [gC q3];have := bD k hle;rw [cq] at this; omega
 refine k8.of (lH (va := .int .i64 (m : Nat)) (Ha' := Ha.set b (some (iZ cs (off * k) (news.take (m * k))))) hm h hg hk (fl := .wr Ha.length [b]) ?_) fun v' w' φ' r hh ad => ?_
 ·simp only [kY,fL,n1,hx.ev,Cp,fM,e2,q1,hm2];rw [if_pos ⟨trivial,hlk,n4⟩]
 have KB : ph (Ha.set b (some (iZ cs (off * k) (news.take (m * k))))) (some b) k (iZ xs off (ys.take m)) := by
  refine ⟨iZ cs (off * k) (news.take (m * k)),by rw [dO,if_pos ⟨rfl,eL q1⟩],?_,?_,?_⟩
  ·rw [fS (by rw [hyl]; omega),fS (by rw [hml]; omega)]; exact q2
  ·intro z hz;unfold iZ at hz;simp only [aC] at hz;rcases hz with (hz | hz) | hz
   ·exact q3 z (cD hz)
   ·exact Lc z hz
   ·exact q3 z (cF hz)
  ·intro i d hd;rw [aax q3 Lc,km (by rw [hfl2]; exact hxk),hfl2] at hd;rw [km (by rw [hml]; omega),hml];split
   ·rename_i hc; rw [if_pos hc] at hd; exact q4 i d hd
   ·rename_i hc;rw [if_neg hc] at hd;split
    ·rename_i Ic;rw [if_pos Ic,hfl,bf,if_pos (by omega)] at hd;obtain ⟨f1,e,f2,f3,f4⟩ := n5 _ d hd;exact ⟨f1,e,by rw [bf,if_pos (by omega)]; exact f2,f3,f4⟩
    ·rename_i Ic; rw [if_neg Ic] at hd; exact q4 i d hd
 obtain ⟨fZ,jv⟩ := h.upd (xs' := iZ xs off (ys.take m)) hp hn (fS (by rw [hyl]; omega)) ad hh KB (fun m' B6 => by rw [dO,if_neg (fun e => B6 e.1)]);exact dY.quiet fZ ⟨hb.1,by rw [jv.len]; exact hb.2⟩ trivial trivial r
theorem ZB (hm : P.follows .mixedOrders = true) (h : SB X φ w B base s (tm a)) (hg : Am.ek (iq c) X φ w) {k off : Nat} {x y : E} (hk : dm P o.op (kY (.copy k x y)) = true) {p : Rt} {ys : List AV} (Cp : bn c s.env x = .dA k p off 0) (hy : cont s k (bn c s.env y) = some ys) (vw : bq (aA ys) = true) : k8 P X φ w B base s (.int .i64 0) o a := by
 obtain ⟨N,Ha,h,hb⟩ := h;obtain ⟨⟨o1,h1⟩,o2,h2⟩ := O6 hk;have hx := cQ (c := c) (cA := iq c) h rfl h1;have dy := hx.ok;rw [Cp] at dy;obtain ⟨news,n1,n2,n3,n4,n5⟩ := Da h hg h2 hy vw;rcases oY h dy with ⟨b,hn,e2⟩ | ⟨_,_,_,e2⟩
 ·simp only [cZ] at dy;obtain ⟨xs,hp,hle⟩ := dy;have eQ := h.own p k xs hp;rw [hn] at eQ;obtain ⟨cs,q1,q2,q3,q4⟩ := eQ
  have hlk : off * k + 0 * k <= cs.length := by
   have := bD k hle;rw [cq] at this; omega
  refine k8.of (lH (va := .int .i64 0) (Ha' := Ha) hm h hg hk (fl := .wr Ha.length [b]) ?_) fun v' w' φ' r hh ad => dY.quiet (h.lj ad hh h.own (fun _ _ => rfl)) hb trivial trivial r;have he : iZ cs (off * k) [] = cs := by unfold iZ; simp
  have hset : Ha.set b (some cs) = Ha := by
   apply dS;intro i;rw [bg];split
   ·rename_i hbi; subst hbi; rw [if_pos (eL q1)]; exact (uI q1).symm
   ·rfl
  simp only [kY,fL,n1,hx.ev,Cp,fM,e2,q1];rw [if_pos ⟨trivial,hlk,n4⟩];simp [he,hset]
 ·refine k8.of (lH (va := .int .i64 0) (Ha' := Ha) hm h hg hk (fl := .wr Ha.length []) ?_) fun v' w' φ' r hh ad => dY.quiet (h.lj ad hh h.own (fun _ _ => rfl)) hb trivial trivial r;simp only [kY,fL,n1,hx.ev,Cp,fM,e2]
theorem ab2 {f : Fq} (h1 : kV kd = false) (h2 : ft c call s kd = some (v,s',f)) : (Qy c s.env kd = some v /\ s' = s) \/ (∃ zs,kd = .new zs) \/ (∃ x,kd = .box x) \/ (∃ k n zs ps,kd = .eE k n zs ps) \/ (∃ k zs l cp,kd = .Kn k zs l cp) \/ (∃ ag x,kd = .ld ag x) \/ (∃ k x y,kd = .st k x y) \/ (∃ k zs x,kd = .Ur k zs x) \/ (∃ k x y,kd = .app k x y) \/ (∃ n x hi,kd = .IK n x hi) \/ (∃ k x y,kd = .copy k x y) := by
 cases kd <;> simp only [ft] at h2 <;> first
  | (left
     split at h2
     ·rename_i u hu;simp only [ah,aF] at h2;obtain ⟨rfl,rfl,_⟩ := h2;exact ⟨hu,rfl⟩
     ·cases h2)
  | (right; simp; done)
  | (simp [kV] at h1; done)
theorem agw (hm : P.follows .mixedOrders = true) (h : SB X φ w B base s (tm a)) (hg : Am.ek (iq c) X φ w) {f : Fq} (hk : dm P o.op (kY kd) = true) (hnc : kV kd = false) (hs : ft c call s kd = some (v,s',f)) : k8 P X φ w B base s' v o a := by
 rcases ab2 hnc hs with ⟨h1,rfl⟩ | ⟨zs,rfl⟩ | ⟨x,rfl⟩ | ⟨k,n,zs,ps,rfl⟩ | ⟨k,zs,l,cp,rfl⟩ | ⟨ag,x,rfl⟩ | ⟨k,x,y,rfl⟩ | ⟨k,zs,x,rfl⟩ | ⟨k,x,y,rfl⟩ | ⟨n,x,hi,rfl⟩ | ⟨k,x,y,rfl⟩
 ·exact Ts hm h hg hk h1
 ·simp only [ft,ah,aF] at hs;obtain ⟨rfl,rfl,_⟩ := hs;exact Qz hm h hg hk
 ·simp only [ft] at hs;split at hs
  case isFalse => cases hs
  rename_i hl;simp only [ah,aF] at hs;obtain ⟨rfl,rfl,_⟩ := hs;exact acd hm h hg hk hl
 ·simp only [ft] at hs;split at hs
  case h_2 => cases hs
  rename_i cs hf;split at hs
  case isFalse => cases hs
  rename_i hz;simp only [ah,aF] at hs;obtain ⟨rfl,rfl,_⟩ := hs;obtain ⟨j5,h1,a1⟩ := SB.dV (gj c s.env ps) h;exact k8.ghost a1 (QC hm h1 (hg.lj a1) hk hf hz)
 ·simp only [ft] at hs;split at hs
  case h_2 => cases hs
  rename_i k1 l' k2 cp' e1 e2;split at hs
  case isFalse => cases hs
  rename_i hc;split at hs
  ·rename_i z hz;simp only [ah,aF] at hs;obtain ⟨rfl,rfl,_⟩ := hs;exact ab7 hm h hg hk hz e1 e2 hc
  ·simp only [ah,aF] at hs;obtain ⟨rfl,rfl,_⟩ := hs;exact ab8 hm h hg hk e1 e2 hc
 ·simp only [ft] at hs;split at hs
  case h_2 => cases hs
  rename_i u ps hp;split at hs
  case isFalse => cases hs
  simp only [ah,aF] at hs;obtain ⟨rfl,rfl,_⟩ := hs;exact agH hm h hg hk hp
 ·simp only [ft] at hs;split at hs
  ·rename_i k' p i off e0;split at hs
   case h_2 => cases hs
   rename_i s2 f2 h2;simp only [ah,aF] at hs;obtain ⟨rfl,rfl,_⟩ := hs;obtain ⟨j5,h1,a1⟩ := SB.dV (aN (bn c s.env y)) h;refine k8.ghost a1 ?_;generalize dV (aN (bn c s.env y)) s = s3 at h1 h2;unfold Ps at h2;split at h2
   ·rename_i b off' e1;exact Nz hm h1 (hg.lj a1) hk e1 h2
   ·rename_i k2 p2 i2 off2 e1;split at h2
    case h_2 => cases h2
    rename_i k3 xs hp;split at h2
    case isFalse => cases h2
    rename_i zF;subst zF;split at h2
    case h_2 => cases h2
    rename_i u hu;split at h2
    case isFalse => cases h2
    rename_i hc;simp only [ah,aF] at h2;obtain ⟨rfl,_⟩ := h2;exact agz hm h1 (hg.lj a1) hk e1 hp hu hc.1 hc.2.1 hc.2.2
   ·cases h2
  ·rename_i hnp;split at hs
   case h_2 => cases hs
   rename_i s2 f2 h2;simp only [ah,aF] at hs;obtain ⟨rfl,rfl,_⟩ := hs;unfold Ps at h2;split at h2
   ·rename_i b off' e1;exact Nz hm h hg hk e1 h2
   ·rename_i k2 p2 i2 off2 e1;exact absurd e1 (hnp k2 p2 i2 off2)
   ·cases h2
 ·simp only [ft] at hs;split at hs
  ·rename_i k' e1;simp only [ah,aF] at hs;obtain ⟨rfl,rfl,_⟩ := hs;exact Tv hm h hg hk (.inl ⟨k',e1⟩)
  ·rename_i k' e1;simp only [ah,aF] at hs;obtain ⟨rfl,rfl,_⟩ := hs;exact Tv hm h hg hk (.inr ⟨k',e1⟩)
  ·cases hs
 ·simp only [ft] at hs;split at hs
  case h_2 => cases hs
  rename_i ys hy;split at hs
  case isFalse => cases hs
  rename_i vw;split at hs
  ·rename_i k' e1;split at hs
   case isFalse => cases hs
   rename_i hl;simp only [ah,aF] at hs;obtain ⟨rfl,rfl,_⟩ := hs;exact acg hm h hg hk e1 hy vw hl
  ·rename_i k' p len e1;split at hs
   case h_2 => cases hs
   rename_i vp xs hp;split at hs
   case isFalse => cases hs
   rename_i hc;obtain ⟨rfl,rfl,hle,hl⟩ := hc;simp only [ah,aF] at hs;obtain ⟨rfl,rfl,_⟩ := hs;exact acf hm h hg hk e1 hp hle hy vw hl
  ·cases hs
 ·simp only [ft] at hs;split at hs
  ·rename_i b off e1;split at hs
   case h_2 => cases hs
   rename_i m cs mz hbk;split at hs
   case isFalse => cases hs
   rename_i hl;simp only [ah,aF] at hs;obtain ⟨rfl,rfl,_⟩ := hs;exact ace hm h hg hk e1 mz hbk hl
  ·split at hs
   case h_2 => cases hs
   rename_i u hu;simp only [ah,aF] at hs;obtain ⟨rfl,rfl,_⟩ := hs;exact Ts hm h hg hk hu
 ·simp only [ft] at hs;split at hs
  case h_2 => cases hs
  rename_i k' p off n e1;split at hs
  ·rename_i hn;subst hn;split at hs
   case h_2 => cases hs
   rename_i ys hy;split at hs
   case isFalse => cases hs
   rename_i hc;obtain ⟨rfl,hl⟩ := hc;simp only [ah,aF] at hs;obtain ⟨rfl,rfl,_⟩ := hs;exact ZB hm h hg hk e1 hy hl
  ·rename_i hn;split at hs
   case h_2 => cases hs
   rename_i vp xs ys hp hy;split at hs
   case isFalse => cases hs
   rename_i hc;obtain ⟨rfl,rfl,hle,hl⟩ := hc;simp only [ah,aF] at hs;obtain ⟨rfl,rfl,_⟩ := hs;exact ZA hm h hg hk e1 hp hle hn hy hl
end
end Go.Bm

/- Calls: arguments by value. -/
namespace Go.Bm
open Go.Am
section
variable {P : Program} {X : Nat -> Prop} {φ φ' : dF} {w w' : World} {N N' : Names} {s s' s1 : St} {Ha Ha' : Heap} {t t' : Nat -> Value} {B : Nat -> Nat} {base : Nat} {v va : AV} {v' : Value} {c : eG} {o : Oper} {a : Act} {kd : Kd} {call : Nat -> List AV -> Heap -> Option (AV × Heap)}
theorem Ck (h : cJ X φ w Ha) {n k : Nat} {xs : List AV} (ho : ph Ha (some n) k xs) {off len : Nat} (hle : off + len <= xs.length) {v : Value} (r : bI (Rd X φ w) φ (.sl k n (off * k) len) v) :
  bI (Rd X [] w) [] (.list k ((xs.drop off).take len)) v := by
 obtain ⟨g,sz,jK,hX,hc⟩ := nD h ho;have AK : ∀ a u,Rd X φ w a u -> Rd X [] w a u := fun a u ⟨h1,_,h3⟩ => ⟨h1,bM.nil _,h3⟩;cases r with
 | sl _ _ _ _ _ a cap hb fD hh =>
   obtain ⟨h1,h2⟩ := hh g sz jK;by_cases h0 : len = 0
   ·subst h0;simp only [qa];exact .qC _ _ _ _ _ _ (fun _ _ => undef) rfl fD (fun x hx => by simp at hx) (fun i j x c hx => by simp at hx) (fun i j x c hx => by simp at hx)
   ·have ha := h1 (by omega);subst ha
    have hx : ∀ (i : Nat) (x : AV),((xs.drop off).take len)[i]? = some x -> xs[off + i]? = some x /\ i < len := by
     intro i x hx;rw [bf] at hx;split at hx
     ·rw [aQ] at hx; exact ⟨hx,‹_›⟩
     ·cases hx
    obtain ⟨cs,q1,q2,hk,q4⟩ := ho;refine .qC _ _ _ _ _ _ (fun i j => (w.cell? ⟨g,(off + i) * k + j,none⟩).getD undef) (by simp; omega) fD (fun x hm => ?_) (fun i j x c hi hj => ?_) (fun i j x c hi hj => ?_)
    ·exact hk x (cF (cD hm))
    ·obtain ⟨u,u1,_,_⟩ := hc _ j x c (hx i x hi).1 hj;rw [u1,Addr.gG,show off * k + (i * k + j) = (off + i) * k + j by rw [cq]; omega];exact ⟨hX,bM.nil _,u1⟩
    ·obtain ⟨u,u1,_,u3⟩ := hc _ j x c (hx i x hi).1 hj;rw [u1];exact u3.mono AK (.refl _)
mutual
theorem fv (h : eV X φ w N s Ha t) : ∀ (x y : AV),kN false s x = some y -> cZ (az s) s.H.length x -> (pl y = true /\ ∀ v,bI (Rd X φ w) φ (cW N x) v -> bI (Rd X [] w) [] y v)
 | .dA k p off len,y,hf,hk => by
   simp only [kN] at hf;split at hf
   case h_2 => cases hf
   rename_i k' xs hp;split at hf
   case isFalse => cases hf
   rename_i hc;obtain ⟨rfl,hle⟩ := hc;simp at hf;subst hf;refine ⟨rfl,fun v r => ?_⟩;have eQ := h.own p k' xs hp;rcases oY h hk with ⟨n,hn,e2⟩ | ⟨hn,h0,h1,e2⟩
   ·rw [e2] at r;rw [hn] at eQ;exact Ck h.heap eQ hle r
   ·rw [e2] at r;subst h1;simp only [qa];cases r;exact .jC _ _
 | .agg cs,y,hf,hk => by
   simp only [kN] at hf;split at hf
   case h_2 => cases hf
   rename_i ds hd;simp at hf;subst hf;simp only [cZ] at hk;obtain ⟨h1,h2,h3⟩ := uu h cs ds hd hk;refine ⟨h1,fun v r => ?_⟩;simp only [cW] at r;cases r with
   | agg _ _ vs hl hh => exact .agg _ _ _ (by rw [h2,<- dZ N cs]; exact hl) (fun i d u AQ hu => h3 i d u AQ (fun z hz => hh i z u hz hu))
 | .dD cs,y,hf,hk => by
   simp only [kN] at hf;split at hf
   case h_2 => cases hf
   rename_i ds hd;simp at hf;subst hf;simp only [cZ] at hk;obtain ⟨h1,h2,h3⟩ := uu h cs ds hd hk;refine ⟨h1,fun v r => ?_⟩;simp only [cW] at r;cases r with
   | dD _ _ vs hl hh => exact .dD _ _ _ (by rw [h2,<- dZ N cs]; exact hl) (fun i d u AQ hu => h3 i d u AQ (fun z hz => hh i z u hz hu))
 | .func f a b,y,hf,hk => by
   simp only [kN] at hf;split at hf
   case h_2 => cases hf
   rename_i a' b' ha hb;simp at hf;subst hf;simp only [cZ] at hk;obtain ⟨h1,h2,h3⟩ := uu h a a' ha hk.1;obtain ⟨k1,k2,k3⟩ := uu h b b' hb hk.2;refine ⟨by simp only [pl,aa]; exact ⟨h1,k1⟩,fun v r => ?_⟩;simp only [cW] at r;cases r with
   | func _ _ _ va _ vb zE zD hra hrb => exact .func _ _ _ _ _ _ (by rw [h2,<- dZ N a]; exact zE) (by rw [k2,<- dZ N b]; exact zD) (fun i d u AQ hu => h3 i d u AQ (fun z hz => hra i z u hz hu)) (fun i d u AQ hu => k3 i d u AQ (fun z hz => hrb i z u hz hu))
 | .own _ _,y,hf,hk => by simp [kN] at hf
 | .eW _ _ _ _,y,hf,hk => by simp [kN] at hf
 | .ptr _ _,y,hf,hk => by simp [kN] at hf
 | .sl _ _ _ _,y,hf,hk => by simp [kN] at hf
 | .any,y,hf,hk => by simp [kN] at hf
 | .undef,y,hf,hk => by simp [kN] at hf; subst hf; exact ⟨rfl,fun v r => (r.dU rfl []).mono (fun a u ⟨h1,_,h3⟩ => ⟨h1,bM.nil _,h3⟩) (.refl _)⟩
 | .fk,y,hf,hk => by simp [kN] at hf; subst hf; exact ⟨rfl,fun v r => (r.dU rfl []).mono (fun a u ⟨h1,_,h3⟩ => ⟨h1,bM.nil _,h3⟩) (.refl _)⟩
 | .fu,y,hf,hk => by simp [kN] at hf; subst hf; exact ⟨rfl,fun v r => (r.dU rfl []).mono (fun a u ⟨h1,_,h3⟩ => ⟨h1,bM.nil _,h3⟩) (.refl _)⟩
 | .dJ,y,hf,hk => by simp [kN] at hf; subst hf; exact ⟨rfl,fun v r => (r.dU rfl []).mono (fun a u ⟨h1,_,h3⟩ => ⟨h1,bM.nil _,h3⟩) (.refl _)⟩
 | .int _ _,y,hf,hk => by simp [kN] at hf; subst hf; exact ⟨rfl,fun v r => (r.dU rfl []).mono (fun a u ⟨h1,_,h3⟩ => ⟨h1,bM.nil _,h3⟩) (.refl _)⟩
 | .bool _,y,hf,hk => by simp [kN] at hf; subst hf; exact ⟨rfl,fun v r => (r.dU rfl []).mono (fun a u ⟨h1,_,h3⟩ => ⟨h1,bM.nil _,h3⟩) (.refl _)⟩
 | .str _,y,hf,hk => by simp [kN] at hf; subst hf; exact ⟨rfl,fun v r => (r.dU rfl []).mono (fun a u ⟨h1,_,h3⟩ => ⟨h1,bM.nil _,h3⟩) (.refl _)⟩
 | .list _ _,y,hf,hk => by simp [kN] at hf; subst hf; exact ⟨rfl,fun v r => (r.dU rfl []).mono (fun a u ⟨h1,_,h3⟩ => ⟨h1,bM.nil _,h3⟩) (.refl _)⟩
 | .dI _,y,hf,hk => by simp [kN] at hf; subst hf; exact ⟨rfl,fun v r => (r.dU rfl []).mono (fun a u ⟨h1,_,h3⟩ => ⟨h1,bM.nil _,h3⟩) (.refl _)⟩
theorem uu (h : eV X φ w N s Ha t) : ∀ (xs ys : List AV),Cy false s xs = some ys -> jU (az s) s.H.length xs -> (dK ys = true /\ ys.length = xs.length /\ ∀ (i : Nat) (y : AV) (v : Value),ys[i]? = some y -> (∀ z,(kt N xs)[i]? = some z -> bI (Rd X φ w) φ z v) -> bI (Rd X [] w) [] y v)
 | [],ys,hf,_ => by simp [Cy] at hf; subst hf; exact ⟨rfl,rfl,fun i y v hy => by simp at hy⟩
 | x :: r,ys,hf,hk => by
   simp only [Cy] at hf;split at hf
   case h_2 => cases hf
   rename_i y RE h1 h2;simp at hf;subst hf;obtain ⟨a1,a2⟩ := fv h x y h1 hk.1;obtain ⟨b1,b2,b3⟩ := uu h r RE h2 hk.2;refine ⟨by simp only [dK,aa]; exact ⟨a1,b1⟩,by simp [b2],fun i z v hz hv => ?_⟩;cases i with
   | zero => simp [kt] at hz hv; subst hz; exact a2 v hv
   | succ i => simp [kt] at hz hv; exact b3 i z v hz hv
end
theorem aau (h : eV X φ w N s Ha t) {r : Rt} {x y : AV} (hx : at_ s r = some x) (hf : V8 x = some y) : (pl y = true /\ y.cells = [y]) /\ ∀ v,bI (Rd X φ w) φ (iH N r x) v -> bI (Rd X [] w) [] y v := by
 unfold V8 at hf;split at hf
 ·rename_i k xs;simp at hf;subst hf;refine ⟨⟨rfl,rfl⟩,fun v rv => ?_⟩;have eQ := h.own r k xs (cH.2 hx);simp only [iH,pd] at rv;cases hn : N.ν r with
  | none =>
    rw [hn] at eQ rv;have : xs = [] := eQ;subst this;simp only at rv;cases rv;exact .jC _ _
  | some n =>
    rw [hn] at eQ rv;have := Ck (off := 0) (len := xs.length) h.heap eQ (by omega) (v := v) (by simpa using rv);simpa using this
 ·rename_i iB;split at hf
  case isFalse => cases hf
  rename_i hz;simp at hf;subst hf;obtain ⟨h1,h2⟩ := iC hz;refine ⟨⟨h1,by cases x <;> first | rfl | (simp [AV.leaf] at h2; done)⟩,fun v rv => ?_⟩;have e : iH N r x = cW N x := by cases x <;> first | rfl | exact (iB _ _ rfl).elim
  rw [e,j8 N x h1] at rv;exact (rv.dU (gU _ h1) []).mono (fun a u ⟨h1,_,h3⟩ => ⟨h1,bM.nil _,h3⟩) (.refl _)
theorem Il : ∀ {cs ys : List AV},Ce cs = some ys -> ys.length = cs.length /\ ∀ (i : Nat) (y : AV),ys[i]? = some y -> ∃ x,cs[i]? = some x /\ V8 x = some y
 | [],ys,h => by simp [Ce] at h; subst h; exact ⟨rfl,fun i y hy => by simp at hy⟩
 | x :: r,ys,h => by
   simp only [Ce] at h;split at h
   case h_2 => cases h
   rename_i y RE h1 h2;simp at h;subst h;obtain ⟨k1,k2⟩ := Il h2;refine ⟨by simp [k1],fun i z hz => ?_⟩;cases i with
   | zero => simp at hz; subst hz; exact ⟨x,rfl,h1⟩
   | succ i => simp at hz; obtain ⟨u,u1,u2⟩ := k2 i z hz; exact ⟨u,by simpa using u1,u2⟩
theorem OO (h : eV X φ w N s Ha t) {k b off len : Nat} {y : AV} (hf : OP s k b off len = some y) : pl y = true /\ ∀ v,bI (Rd X φ w) φ (cW N (.sl k b off len)) v -> bI (Rd X [] w) [] y v := by
 unfold OP at hf;split at hf
 case h_2 => cases hf
 rename_i cs hb;split at hf
 case isFalse => cases hf
 rename_i hc;obtain ⟨rfl,hle⟩ := hc;split at hf
 case h_2 => cases hf
 rename_i ys hy;simp at hf;subst hf;refine ⟨rfl,fun v r => ?_⟩;obtain ⟨as,a1,a2,a3⟩ := h.box b cs hb;obtain ⟨g,sz,arr,e,g1,g2,g3,g4,g5,g6⟩ := h.heap.at a1;obtain ⟨k1,k2⟩ := Il hy;have hyl : ys.length = len := by rw [k1,bh,List.length_drop]; omega
 simp only [cW] at r;cases r with
 | sl _ _ _ _ _ a cap im fD hh =>
   obtain ⟨h1,h2⟩ := hh g sz g1;by_cases h0 : len = 0
   ·subst h0;have : ys = [] := dn hyl;subst this;exact .qC _ _ _ _ _ _ (fun _ _ => undef) rfl fD (fun x hx => by simp at hx) (fun i j x c hx => by simp at hx) (fun i j x c hx => by simp at hx)
   ·have ha := h1 (by omega);subst ha
    have cell : ∀ (i : Nat) (y : AV),ys[i]? = some y -> (pl y = true /\ y.cells = [y]) /\ ∃ u,w.cell? ⟨g,off + i,none⟩ = some u /\ bI (Rd X [] w) [] y u := by
     intro i y hi;obtain ⟨x,x1,x2⟩ := k2 i y hi
     have x3 : cs[off + i]? = some x := by
      rw [bf] at x1;split at x1
      ·rw [aQ] at x1; exact x1
      ·cases x1
     obtain ⟨_,a',b1,b2⟩ := a3 _ x x3;obtain ⟨u,u1,u2⟩ := g6 _ a' b1;obtain ⟨c1,c2⟩ := aau h (r := .c b (off + i)) (x := x) (by simp only [at_,hb]; exact x3) x2;exact ⟨c1,u,by rw [gY g2]; exact u1,c2 u (b2 _ _ _ u2)⟩
    refine .qC _ _ _ _ _ _ (fun i j => (w.cell? ⟨g,off + i,none⟩).getD undef) hyl.symm fD (fun x hm => ?_) (fun i j x c hi hj => ?_) (fun i j x c hi hj => ?_)
    ·obtain ⟨i,hi⟩ := br hm;rw [(cell i x hi).1.2]; rfl
    ·obtain ⟨⟨q1,q2⟩,u,u1,u2⟩ := cell i x hi;rw [q2] at hj;have hj0 : j = 0 := by have := au hj; simp at this; exact this
     subst hj0;rw [u1,Addr.gG,show off + (i * 1 + 0) = off + i by omega];exact ⟨g5,bM.nil _,u1⟩
    ·obtain ⟨⟨q1,q2⟩,u,u1,u2⟩ := cell i x hi;rw [q2] at hj;have hj0 : j = 0 := by have := au hj; simp at this; exact this
     subst hj0;simp at hj;subst hj;rw [u1];exact u2
mutual
theorem OQ (h : eV X φ w N s Ha t) : ∀ (x y : AV),V7 s x = some y -> cZ (az s) s.H.length x -> (pl y = true /\ ∀ v,bI (Rd X φ w) φ (cW N x) v -> bI (Rd X [] w) [] y v)
 | .sl k b off len,y,hf,_ => by simp only [V7] at hf; exact OO h hf
 | .dD cs,y,hf,hk => by
   simp only [V7] at hf;split at hf
   case h_2 => cases hf
   rename_i ds hd;simp at hf;subst hf;simp only [cZ] at hk;obtain ⟨h1,h2,h3⟩ := Ij h cs ds hd hk;refine ⟨h1,fun v r => ?_⟩;simp only [cW] at r;cases r with
   | dD _ _ vs hl hh => exact .dD _ _ _ (by rw [h2,<- dZ N cs]; exact hl) (fun i d u AQ hu => h3 i d u AQ (fun z hz => hh i z u hz hu))
 | .any,y,hf,hk => fv h _ y hf hk
 | .undef,y,hf,hk => fv h _ y hf hk
 | .fk,y,hf,hk => fv h _ y hf hk
 | .fu,y,hf,hk => fv h _ y hf hk
 | .dJ,y,hf,hk => fv h _ y hf hk
 | .int _ _,y,hf,hk => fv h _ y hf hk
 | .bool _,y,hf,hk => fv h _ y hf hk
 | .str _,y,hf,hk => fv h _ y hf hk
 | .agg _,y,hf,hk => fv h _ y hf hk
 | .list _ _,y,hf,hk => fv h _ y hf hk
 | .dI _,y,hf,hk => fv h _ y hf hk
 | .ptr _ _,y,hf,hk => fv h _ y hf hk
 | .func _ _ _,y,hf,hk => fv h _ y hf hk
 | .own _ _,y,hf,hk => fv h _ y hf hk
 | .dA _ _ _ _,y,hf,hk => fv h _ y hf hk
 | .eW _ _ _ _,y,hf,hk => fv h _ y hf hk
theorem Ij (h : eV X φ w N s Ha t) : ∀ (xs ys : List AV),Ik s xs = some ys -> jU (az s) s.H.length xs -> (dK ys = true /\ ys.length = xs.length /\ ∀ (i : Nat) (y : AV) (v : Value),ys[i]? = some y -> (∀ z,(kt N xs)[i]? = some z -> bI (Rd X φ w) φ z v) -> bI (Rd X [] w) [] y v)
 | [],ys,hf,_ => by simp [Ik] at hf; subst hf; exact ⟨rfl,rfl,fun i y v hy => by simp at hy⟩
 | x :: r,ys,hf,hk => by
   simp only [Ik] at hf;split at hf
   case h_2 => cases hf
   rename_i y RE h1 h2;simp at hf;subst hf;obtain ⟨a1,a2⟩ := OQ h x y h1 hk.1;obtain ⟨b1,b2,b3⟩ := Ij h r RE h2 hk.2;refine ⟨by simp only [dK,aa]; exact ⟨a1,b1⟩,by simp [b2],fun i z v hz hv => ?_⟩;cases i with
   | zero => simp [kt] at hz hv; subst hz; exact a2 v hv
   | succ i => simp [kt] at hz hv; exact b3 i z v hz hv
end
theorem Fx (h : eV X φ w N s Ha t) : ∀ (xs ys : List AV),rF s xs = some ys -> jU (az s) s.H.length xs -> (dK ys = true /\ ys.length = xs.length /\ ∀ (i : Nat) (y : AV) (v : Value),ys[i]? = some y -> (∀ z,(gR N xs)[i]? = some z -> bI (Rd X φ w) φ z v) -> bI (Rd X [] w) [] y v)
 | [],ys,hf,_ => by simp [rF] at hf; subst hf; exact ⟨rfl,rfl,fun i y v hy => by simp at hy⟩
 | x :: r,ys,hf,hk => by
   have gen : ∀ {y RE},(pl y = true /\ ∀ v,bI (Rd X φ w) φ (cW N x) v -> bI (Rd X [] w) [] y v) -> rF s r = some RE -> (∀ k l,x ≠ .own k l) -> ys = y :: RE -> (dK ys = true /\ ys.length = (x :: r).length /\ ∀ (i : Nat) (y : AV) (v : Value),ys[i]? = some y -> (∀ z,(gR N (x :: r))[i]? = some z -> bI (Rd X φ w) φ z v) -> bI (Rd X [] w) [] y v) := by
    intro y RE h1 h2 hn e;subst e;obtain ⟨a1,a2⟩ := h1;obtain ⟨b1,b2,b3⟩ := Fx h r RE h2 hk.2;have ex : fM N x = cW N x := by cases x <;> first | rfl | exact absurd rfl (hn _ _)
    refine ⟨by simp only [dK,aa]; exact ⟨a1,b1⟩,by simp [b2],fun i z v hz hv => ?_⟩;cases i with
    | zero => simp [gR] at hz hv; subst hz; rw [ex] at hv; exact a2 v hv
    | succ i => simp [gR] at hz hv; exact b3 i z v hz hv
   by_cases ho : ∃ k,x = .own k []
   ·obtain ⟨k,rfl⟩ := ho;simp only [rF] at hf;split at hf
    case h_2 => cases hf
    rename_i RE h2;simp at hf;subst hf;obtain ⟨b1,b2,b3⟩ := Fx h r RE h2 hk.2;refine ⟨by simp only [dK,pl,uU]; exact b1,by simp [b2],fun i z v hz hv => ?_⟩;cases i with
    | zero =>
      simp [gR,fM] at hz hv;subst hz;cases hv;exact .jC _ _
    | succ i => simp [gR] at hz hv; exact b3 i z v hz hv
   ·have hn : ∀ k l,x ≠ .own k l := by
     rintro k l rfl;cases l with
     | nil => exact ho ⟨k,rfl⟩
     | cons z l => simp [rF,kN] at hf
    by_cases hsl : ∃ k b off len,x = .sl k b off len
    ·obtain ⟨k,b,off,len,rfl⟩ := hsl;simp only [rF] at hf;split at hf
     case h_2 => cases hf
     rename_i y RE h1 h2;simp at hf;exact gen (OO h h1) h2 hn hf.symm
    rw [rF] at hf
    ·split at hf
     case h_2 => cases hf
     rename_i y RE h1 h2;simp at hf;exact gen (fv h x y h1 hk.1) h2 hn hf.symm
    ·exact fun k e => ho ⟨k,e⟩
    ·exact fun k b off len e => hsl ⟨k,b,off,len,e⟩
end
end Go.Bm

/- Calls of functions that see no boxes. -/
namespace Go.Bm
open Go.Am
section
variable {P : Program} {X : Nat -> Prop} {φ φ' : dF} {w w' : World} {N N' : Names} {s s' s1 : St} {Ha Ha' : Heap} {t t' : Nat -> Value} {B : Nat -> Nat} {base : Nat} {v va : AV} {v' : Value} {c : eG} {o : Oper} {a : Act} {kd : Kd} {call : Nat -> List AV -> Heap -> Option (AV × Heap)}
def G7 (X : Nat -> Prop) (φ : dF) (w : World) (B : Nat -> Nat) (base : Nat) (r : AV) (H' : Heap) (e : Ending) (w' : World) : Prop :=
 ∃ v' φ',e = .returned v' /\ SB X φ' w' B base ⟨[(0,r)],H'⟩ (fun i => if i = 0 then v' else undef) /\ fo φ w φ' w'
def hJ (P : Program) (c : eG) (call : Nat -> List AV -> Heap -> Option (AV × Heap)) : Prop :=
 ∀ f md q,c.fn f = some (md,q) -> ∀ args H r H',(md.sh = true \/ H = []) -> call f args H = some (r,H') -> (md.sh = true -> dz H' = true) -> ∀ X φ w B (vargs : Array Value),args.length = vargs.size -> SB X φ w B H.length ⟨ei 0 args,H⟩ (fun i => vargs.getD i undef) -> Am.ek (iq c) X φ w -> Calls P f vargs w (G7 X φ w B H.length r H')
theorem vT (dy : fm P c) {f : Nat} {m : Md} {q : eR} (hf : c.fn f = some (m,q)) (vargs : Array Value) : (callFunc f vargs).run P w = .ok (.enter f vargs) w := by
 obtain ⟨fn,h1,h2⟩ := dy.fn f m q hf;simp only [bF,aa,bH] at h2;obtain ⟨⟨⟨_,Ia⟩,_⟩,qE⟩ := h2
 have hb : fn.body.isNone = false := by
  cases hfb : fn.body with
  | none => rw [hfb] at qE; cases qE
  | some b => rfl
 simp only [callFunc,Sem.run_bind,run_program,Result.andThen_ok,h1,Ia,hb,bW,if_false,Sem.run_pure]
def K4 (R : Addr -> Value -> Prop) (φ : dF) (N : Names) (xs : List AV) (vs : Array Value) : Prop := xs.length = vs.size /\ ∀ (i : Nat) (x : AV) (v : Value),xs[i]? = some x -> vs[i]? = some v -> bI R φ (fM N x) v
theorem K4.append {R : Addr -> Value -> Prop} {xs ys : List AV} {vs us : Array Value} (h : K4 R φ N xs vs) (k : K4 R φ N ys us) : K4 R φ N (xs ++ ys) (vs ++ us) := by
 refine ⟨by simp [h.1,k.1],fun i x v hx hv => ?_⟩;by_cases hi : i < xs.length
 ·rw [aq hi] at hx;rw [pJ (by have := h.1; omega)] at hv;exact h.2 i x v hx hv
 ·rw [aK (by omega)] at hx;rw [Gz (by have := h.1; omega),<- h.1] at hv;exact k.2 _ x v hx hv
theorem aaS {op : Op} {f : Nat} {ys : List E} (h : dm P op (.call f ys) = true) : ∃ ca : Call,op = .call ca /\ ca.callee = .value (.func f) /\ iM ca.args.toList ys = true := by
 unfold dm at h;split at h <;> simp_all
theorem Ws {op : Op} {y : E} {ys : List E} (h : dm P op (.jr y ys) = true) : ∃ (ca : Call) (x : Operand),op = .call ca /\ ca.callee = .value x /\ dv x y = true /\ iM ca.args.toList ys = true := by
 unfold dm at h;split at h <;> simp_all
theorem kH (dy : fm P c) (h : eV X φ w N s Ha (tm a)) (hg : Am.ek (iq c) X φ w) (hk : dm P o.op (kY kd) = true) {f : Nat} {args : List AV} (ha : mA c s.env kd = some (f,args)) {md : Md} {q : eR} (hf : c.fn f = some (md,q)) :
  ∃ vargs : Array Value,(execOp a.eval o).run P w = .ok (.enter f vargs) w /\ K4 (Rd X φ w) φ N args vargs /\ jU (az s) s.H.length args := by
 have he : mF X φ w (yj N s.env) a.tmps := fun i => by rw [kW]; exact h.env i
 have aaA : ∀ {os : Array Operand} {xs : List E},iM os.toList (A4 xs) = true -> K4 (Rd X φ w) φ N (dq c s.env xs) (os.map a.eval) /\ jU (az s) s.H.length (dq c s.env xs) := by
  intro os xs hk;obtain ⟨e1,e2⟩ := qv (cA := iq c) h rfl hk;obtain ⟨hl,hr⟩ := l7 (a := a) he hg hk;rw [e1,iI] at hl;refine ⟨⟨by simpa using hl,fun i x v hx hv => ?_⟩,e2⟩;refine hr i (fM N x) v (by rw [e1,mj,hx]; rfl) (by simpa using hv)
 cases kd <;> simp only [mA,reduceCtorEq] at ha
 case call f' ys =>
  simp only [ah,aF] at ha;obtain ⟨rfl,rfl⟩ := ha;obtain ⟨ca,fc,G0,ke⟩ := aaS hk;obtain ⟨e1,e2⟩ := aaA ke;refine ⟨ca.args.map a.eval,?_,e1,e2⟩;simp only [execOp,fc,resolve,G0,Act.eval,Deferred.ofValue,invoke,Sem.run_bind,Sem.run_pure,Result.andThen_ok,Array.empty_append,Array.append_empty];exact vT dy hf _
 case jr y ys =>
  obtain ⟨ca,x,fc,G0,hx,ke⟩ := Ws hk;have ho := cQ (c := c) (cA := iq c) h rfl hx;have rx := b7 (a := a) he hg hx;rw [ho.ev] at rx;have GX := ho.ok;cases e : bn c s.env y <;> rw [e] at ha rx GX <;> try (simp at ha; done)
  rename_i fn as bs;cases fn <;> simp only [reduceCtorEq] at ha
  rename_i f';split at ha
  ·cases ha
  rename_i iB;simp only [e9,not_or,Bool.not_eq_true] at iB;simp only [ah,aF] at ha;obtain ⟨rfl,rfl⟩ := ha;obtain ⟨e1,e2⟩ := aaA ke;simp only [fM,cW] at rx;simp only [cZ] at GX;generalize Pz : a.eval x = ax at rx;cases rx with
  | func _ _ _ va _ vb zE zD hra hrb =>
    rw [dZ] at zE zD;have c1 : K4 (Rd X φ w) φ N as va := ⟨zE,fun i x v hx hv => hra i _ v (by rw [<- ka N iB.1,mj,hx]; rfl) hv⟩;have c3 : K4 (Rd X φ w) φ N bs vb := ⟨zD,fun i x v hx hv => hrb i _ v (by rw [<- ka N iB.2,mj,hx]; rfl) hv⟩;refine ⟨va ++ ca.args.map a.eval ++ vb,?_,(c1.append e1).append c3,oI (oI GX.1 e2) GX.2⟩;simp only [execOp,fc,resolve,G0,Pz,Deferred.ofValue,invoke,Sem.run_bind,Sem.run_pure,Result.andThen_ok];exact vT dy hf _
mutual
theorem TA {R : Addr -> Value -> Prop} {φ : dF} (N : Names) : ∀ (x : AV) {v : Value},bI R φ (cW N x) v -> bI R φ (cW N (TB x)) v
 | .dA k p off n,v,r => by
   unfold TB;split
   ·rename_i h; subst h;simp only [cW] at r ⊢;split at r
    ·cases r with
     | sl _ _ _ _ _ a cap hb hc h => exact .qC _ _ _ _ _ _ (fun _ _ => undef) rfl hc (fun x hx => by simp at hx) (fun i j x c hx => by simp at hx) (fun i j x c hx => by simp at hx)
    ·cases r; exact .jC _ _
   ·exact r
 | .agg cs,v,r => by
   simp only [TB,cW] at r ⊢;cases r with
   | agg _ _ vs hl h =>
     obtain ⟨l1,l2⟩ := E0 (R := R) (φ := φ) N cs;refine .agg _ _ _ (by rw [dZ,l1,<- dZ N cs]; exact hl) fun i c u hc hu => ?_;rw [qP] at hc;cases e : (yV cs)[i]? with
     | none => rw [e] at hc; cases hc
     | some y =>
       rw [e] at hc;simp only [cX,ah] at hc;subst hc;obtain ⟨x,hx⟩ := aV (l := cs) (i := i) (by have := au e; omega);exact l2 i x y u hx e (h i _ u (by rw [qP,hx]; rfl) hu)
 | .any,v,r => r | .undef,v,r => r | .fk,v,r => r | .fu,v,r => r | .dJ,v,r => r
 | .int _ _,v,r => r | .bool _,v,r => r | .str _,v,r => r | .dD _,v,r => r
 | .list _ _,v,r => r | .dI _,v,r => r | .ptr _ _,v,r => r | .sl _ _ _ _,v,r => r
 | .func _ _ _,v,r => r | .own _ _,v,r => r | .eW _ _ _ _,v,r => r
theorem E0 {R : Addr -> Value -> Prop} {φ : dF} (N : Names) : ∀ (cs : List AV),(yV cs).length = cs.length /\ ∀ (i : Nat) (x y : AV) (v : Value),cs[i]? = some x -> (yV cs)[i]? = some y -> bI R φ (cW N x) v -> bI R φ (cW N y) v
 | [] => ⟨rfl,fun i x y v hx => by simp at hx⟩
 | c :: r => by
   obtain ⟨l1,l2⟩ := E0 (R := R) (φ := φ) N r;refine ⟨by simp [yV,l1],fun i x y v hx hy rr => ?_⟩;cases i with
   | zero => simp [yV] at hx hy; subst hx; subst hy; exact TA N c rr
   | succ i => exact l2 i x y v (by simpa using hx) (by simpa [yV] using hy) rr
end
theorem ZJ {R : Addr -> Value -> Prop} {φ : dF} (N : Names) (x : AV) {v : Value} (r : bI R φ (fM N x) v) : bI R φ (fM N (TB x)) v := by
 by_cases h : ∃ k xs,x = .own k xs
 ·obtain ⟨k,xs,rfl⟩ := h;simpa [TB] using r
 ·have e1 : fM N x = cW N x := by cases x <;> first | rfl | exact absurd ⟨_,_,rfl⟩ h
  have e2 : fM N (TB x) = cW N (TB x) := by
   cases x <;> simp only [TB] <;> first | rfl | exact absurd ⟨_,_,rfl⟩ h | (split <;> rfl)
  rw [e2];rw [e1] at r;exact TA N x r
mutual
theorem agY {o : Rt -> Option (Nat × List AV)} {nb : Nat} : ∀ (x : AV),cZ o nb x -> cZ o nb (TB x)
 | .dA k p off n,h => by
   unfold TB;split
   ·trivial
   ·exact h
 | .agg cs,h => by
   simp only [TB,cZ] at h ⊢;exact J8 cs h
 | .any,h => h | .undef,h => h | .fk,h => h | .fu,h => h | .dJ,h => h
 | .int _ _,h => h | .bool _,h => h | .str _,h => h | .dD _,h => h
 | .list _ _,h => h | .dI _,h => h | .ptr _ _,h => h | .sl _ _ _ _,h => h
 | .func _ _ _,h => h | .own _ _,h => h | .eW _ _ _ _,h => h
theorem J8 {o : Rt -> Option (Nat × List AV)} {nb : Nat} : ∀ (cs : List AV),jU o nb cs -> jU o nb (yV cs)
 | [],_ => trivial
 | x :: r,h => ⟨agY x h.1,J8 r h.2⟩
end
theorem NF : ∀ (cs : List AV) (i : Nat),(yV cs)[i]? = (cs[i]?).map TB
 | [],i => by simp [yV]
 | x :: r,i => by cases i <;> simp [yV,NF r]
theorem xW (dy : fm P c) (h : eV X φ w N s Ha (tm a)) (hg : Am.ek (iq c) X φ w) (hk : dm P o.op (kY kd) = true) {f : Nat} {args : List AV} (ha : getArgs c s.env kd = some (f,args)) {md : Md} {q : eR} (hf : c.fn f = some (md,q)) :
  ∃ vargs : Array Value,(execOp a.eval o).run P w = .ok (.enter f vargs) w /\ K4 (Rd X φ w) φ N args vargs /\ jU (az s) s.H.length args := by
 unfold getArgs at ha;cases h0 : mA c s.env kd with
 | none => rw [h0] at ha; cases ha
 | some z =>
   obtain ⟨f0,aeV⟩ := z;rw [h0] at ha;simp only [ah,aF] at ha;obtain ⟨rfl,rfl⟩ := ha;obtain ⟨vargs,h1,h2,h3⟩ := kH dy h hg hk h0 hf;refine ⟨vargs,h1,?_⟩;split
   ·refine ⟨⟨?_,fun i x v hx hv => ?_⟩,J8 _ h3⟩
    ·have l1 := (E0 (R := Rd X φ w) (φ := φ) N aeV).1;rw [l1]; exact h2.1
    ·rw [NF] at hx;cases e : aeV[i]? with
     | none => rw [e] at hx; cases hx
     | some y =>
       rw [e] at hx;simp only [cX,ah] at hx;subst hx;exact ZJ N y (h2.2 i y v e hv)
   ·exact ⟨h2,h3⟩
theorem zJ (N : Names) (i : Nat) {x : AV} (h : pl x = true) : j9 N i x = x := by
 by_cases ha : ∃ cs,x = .agg cs
 ·obtain ⟨cs,rfl⟩ := ha;simp only [j9];simp only [pl] at h;congr 1;apply dS;intro j;rw [fO];cases hc : cs[j]? with
  | none => rfl
  | some d =>
    simp only [cX]
    have hd : pl d = true := by
     have : ∀ {l : List AV},dK l = true -> ∀ z ∈ l,pl z = true := by
      intro l
      induction l with
      | nil => intro _ z hz; simp at hz
      | cons y r ih =>
        intro h z hz;simp only [dK,aa] at h;rcases aU.1 hz with e | e
        ·subst e; exact h.1
        ·exact ih h.2 z e
     exact this h d (aR hc)
    congr 1;cases d <;> first | exact j8 N _ hd | (simp [pl] at hd; done)
 ·have hn : jx x := fun cs e => ha ⟨cs,e⟩;cases x <;> first | exact j8 N _ h | exact absurd rfl (hn _) | (simp [pl] at h; done)
theorem xD {x : AV} (h : pl x = true) : bN x = false := by
 cases x <;> first | rfl | (simp [pl] at h; done) | skip
 rename_i cs;simp only [pl] at h;simp only [bN]
 induction cs with
 | nil => rfl
 | cons y r ih =>
   simp only [dK,aa] at h;have h1 := h.1;cases y <;> first | exact ih h.2 | (simp [pl] at h1; done)
theorem gh : ∀ {l : List AV},dK l = true -> ∀ (i : Nat) (z : AV),l[i]? = some z -> pl z = true
 | [],_,i,z,hz => by simp at hz
 | y :: r,h,i,z,hz => by
   simp only [dK,aa] at h;cases i with
   | zero => simp at hz; subst hz; exact h.1
   | succ i => exact gh h.2 i z (by simpa using hz)
theorem SB.start {args : List AV} {vargs : Array Value} (hx : ∀ g,X g -> g < w.heap.size) (hp : dK args = true) (hl : args.length = vargs.size) (hr : ∀ (i : Nat) (x : AV) (v : Value),args[i]? = some x -> vargs[i]? = some v -> bI (Rd X [] w) [] x v) (B : Nat -> Nat) :
  SB X [] w B 0 ⟨ei 0 args,[]⟩ (fun i => vargs.getD i undef) := by
 have CX : ∀ i,get (ei 0 args) i = args[i]?.getD .any := fun i => by rw [qF]; simp
 have qO : ∀ i,pl (get (ei 0 args) i) = true := fun i => by
  rw [CX];cases e : args[i]? with
  | none => rfl
  | some x => exact gh hp i x e
 have iB : ∀ p,az ⟨ei 0 args,[]⟩ p = none := by
  intro p;cases p with
  | s i => exact (eJ (s := ⟨ei 0 args,[]⟩) (xD (qO i))).1
  | sc i j => exact (eJ (s := ⟨ei 0 args,[]⟩) (xD (qO i))).2 j
  | c b j => unfold az; simp [at_,aJ]
 refine ⟨⟨fun _ => 0,fun _ => none⟩,[],⟨fun i => ?_,fun i => vV _ (qO i),⟨rfl,hx,fun b cs hb => by simp at hb,fun b hb => by simp at hb,fun b b' g sz lk h1 => by simp at h1⟩,fun p k xs e => ?_,fun b cs e => ?_,fun p q n e1 => ?_,fun b p e1 => ?_,fun b d e1 => ?_⟩,fun b hb => by omega,zG _⟩
 ·rw [zJ _ _ (qO i),CX];cases e : args[i]? with
  | none => exact .any _ _
  | some x =>
    obtain ⟨v,hv⟩ := cv (l := vargs) (i := i) (by have := au e; omega);simp only [gI];rw [a8,hv];exact hr i x v e hv
 ·rw [iB] at e; cases e
 ·simp [aJ] at e
 ·rw [iB] at e1; cases e1
 ·simp [aJ] at e1
 ·simp [aJ] at e1
end
end Go.Bm

/- Calls of functions that see no boxes: what comes back. -/
namespace Go.Bm
open Go.Am
mutual
theorem vG {R R' : Addr -> Value -> Prop} {φ φ' : dF} {N N' : Names} : ∀ x,clean x = true -> ∀ v,bI R φ (cW N x) v -> bI R' φ' (cW N' x) v
 | .list k xs,h,v,r => by
   simp only [clean,fa] at h;subst h;simp only [cW] at r ⊢;cases r with
   | qC _ _ _ a n cap u hn fD hk hu hh => subst hn; exact .qC _ _ _ _ _ _ u rfl fD hk (fun i j x c hx => by simp at hx) (fun i j x c hx => by simp at hx)
   | jC => exact .jC _ _
 | .agg cs,h,v,r => by
   simp only [clean] at h;simp only [cW] at r ⊢;cases r with
   | agg _ _ vs hl hh => exact .agg _ _ _ (by rw [dZ] at hl ⊢; exact hl) (fun i d u hd hu => x9 cs h i d u hd (fun z hz => hh i z u hz hu))
 | .dD cs,h,v,r => by
   simp only [clean] at h;simp only [cW] at r ⊢;cases r with
   | dD _ _ vs hl hh => exact .dD _ _ _ (by rw [dZ] at hl ⊢; exact hl) (fun i d u hd hu => x9 cs h i d u hd (fun z hz => hh i z u hz hu))
 | .own _ _,_,v,_ => .any _ _
 | .dI _,h,_,_ => by simp [clean] at h
 | .any,h,_,_ => by simp [clean] at h
 | .func _ _ _,h,_,_ => by simp [clean] at h
 | .dA _ _ _ _,h,_,_ => by simp [clean] at h
 | .eW _ _ _ _,h,_,_ => by simp [clean] at h
 | .ptr _ _,h,_,_ => by simp [clean] at h
 | .sl _ _ _ _,h,_,_ => by simp [clean] at h
 | .undef,_,v,r => by simp only [cW] at r ⊢; cases r; exact .undef _
 | .fk,_,v,r => by simp only [cW] at r ⊢; cases r; exact .fk _
 | .fu,_,v,r => by simp only [cW] at r ⊢; cases r; exact .fu _
 | .dJ,_,v,r => by simp only [cW] at r ⊢; cases r; exact .dJ _
 | .int _ _,_,v,r => by simp only [cW] at r ⊢; cases r; exact .int _ _ _
 | .bool _,_,v,r => by simp only [cW] at r ⊢; cases r; exact .bool _ _
 | .str _,_,v,r => by simp only [cW] at r ⊢; cases r; exact .str _ _
theorem x9 {R R' : Addr -> Value -> Prop} {φ φ' : dF} {N N' : Names} : ∀ cs,fK cs = true -> ∀ (i : Nat) (d : AV) (u : Value),(kt N' cs)[i]? = some d -> (∀ z,(kt N cs)[i]? = some z -> bI R φ z u) -> bI R' φ' d u
 | [],_,i,d,u,h,_ => by simp [kt] at h
 | x :: r,hc,i,d,u,h,hz => by
   simp only [fK,aa] at hc;cases i with
   | zero => simp [kt] at h hz; subst h; exact vG x hc.1 u hz
   | succ i => simp [kt] at h hz; exact x9 r hc.2 i d u h hz
end
mutual
theorem O5 {o : Rt -> Option (Nat × List AV)} {nb : Nat} : ∀ x,clean x = true -> cZ o nb x
 | .list _ _,_ => trivial
 | .agg cs,h => by simp only [clean] at h; exact A6 cs h
 | .dD cs,h => by simp only [clean] at h; exact A6 cs h
 | .own _ _,_ => trivial
 | .dI _,h => by simp [clean] at h
 | .any,h => by simp [clean] at h
 | .func _ _ _,h => by simp [clean] at h
 | .dA _ _ _ _,h => by simp [clean] at h
 | .eW _ _ _ _,h => by simp [clean] at h
 | .ptr _ _,h => by simp [clean] at h
 | .sl _ _ _ _,h => by simp [clean] at h
 | .undef,_ => trivial
 | .fk,_ => trivial
 | .fu,_ => trivial
 | .dJ,_ => trivial
 | .int _ _,_ => trivial
 | .bool _,_ => trivial
 | .str _,_ => trivial
theorem A6 {o : Rt -> Option (Nat × List AV)} {nb : Nat} : ∀ cs,fK cs = true -> jU o nb cs
 | [],_ => trivial
 | x :: r,h => by simp only [fK,aa] at h; exact ⟨O5 x h.1,A6 r h.2⟩
end
theorem uD {x : AV} (h : clean x = true) : ∀ d ∈ x.cells,clean d = true := by
 have all : ∀ {l : List AV},fK l = true -> ∀ z ∈ l,clean z = true := by
  intro l
  induction l with
  | nil => intro _ z hz; simp at hz
  | cons y r ih =>
    intro h z hz;simp only [fK,aa] at h;rcases aU.1 hz with e | e
    ·subst e; exact h.1
    ·exact ih h.2 z e
 intro d hd;by_cases ha : ∃ cs,x = .agg cs
 ·obtain ⟨cs,rfl⟩ := ha;simp only [clean] at h;exact all h d hd
 ·have : x.cells = [x] := by cases x <;> first | rfl | exact absurd ⟨_,rfl⟩ ha
  rw [this] at hd;simp at hd;subst hd;exact h
theorem oR {l : List AV} (h : fK l = true) : ∀ z ∈ l,clean z = true := by
 induction l with
 | nil => intro z hz; simp at hz
 | cons y r ih =>
   intro z hz;simp only [fK,aa] at h;rcases aU.1 hz with e | e
   ·subst e; exact h.1
   ·exact ih h.2 z e
theorem uW (N : Names) (i : Nat) {x : AV} (h : bN x = false) : j9 N i x = cW N x := by
 by_cases ha : ∃ cs,x = .agg cs
 ·obtain ⟨cs,rfl⟩ := ha;simp only [bN] at h;simp only [j9,cW];congr 1;apply dS;intro j;rw [fO,qP];cases hc : cs[j]? with
  | none => rfl
  | some d =>
    simp only [cX];congr 1;have := B9 h d (aR hc);cases d <;> first | rfl | exact absurd rfl (this _ _)
 ·cases x <;> first | rfl | exact absurd ⟨_,rfl⟩ ha | (simp [bN] at h; done)
section
variable {P : Program} {X : Nat -> Prop} {φ j5 φ' : dF} {w w1 w' : World} {N N1 N' : Names} {s s' s1 : St} {Ha H1 Ha' : Heap} {t t1 t' : Nat -> Value} {B : Nat -> Nat} {base : Nat} {v va : AV} {v' : Value} {c : eG} {o : Oper} {a : Act} {kd : Kd} {call : Nat -> List AV -> Heap -> Option (AV × Heap)}
theorem UB (h : eV X φ w N s Ha t) (hb : (∀ b,b < base -> N.β b = B b) /\ base <= s.H.length) (ad : fo [] w j5 w1) {k : Nat} {xs : List AV} {H' : Heap} (h1 : eV X j5 w1 N1 ⟨[(0,.own k xs)],H'⟩ H1 t1) (hc : fK xs = true) :
  ∃ φ',dY X φ' w1 B base s (.own k xs) t (t1 0) /\ fo φ w φ' w1 := by
 have ho1 : az ⟨[(0,.own k xs)],H'⟩ (.s 0) = some (k,xs) := rfl;have eQ := h1.own (.s 0) k xs ho1;have hr := h1.env 0;simp only [Am.get,if_true,j9,iH,pd] at hr;cases hn : N1.ν (.s 0) with
 | none =>
   rw [hn] at eQ hr;have hx : xs = [] := eQ;subst hx;refine ⟨φ,dY.quiet (h.lj (.of_same ad) (h.heap.of_same ad) h.own (fun _ _ => rfl)) hb trivial (by simp [EO]) ?_,.of_same ad⟩;simp only at hr;simp only [td];generalize t1 0 = z at hr ⊢;cases hr;exact .dJ _
 | some n1 =>
   rw [hn] at eQ hr;simp only at hr;obtain ⟨g,sz,jK,hX,fQ⟩ := nD h1.heap eQ;obtain ⟨cs,c1,c2,c3,c4⟩ := eQ;obtain ⟨g',lk,arr,e,f1,f2,f3,f4,f5,f6⟩ := h1.heap.at c1;rw [jK] at f1;cases f1;have hgs : w.heap.size <= g := Nat.le_of_not_lt fun bO => (ad.keep g bO (bM.nil g)).2 ⟨n1,sz,jK⟩;have hfl := gC c3
   have lj : fo φ w (φ ++ [some (g,sz)]) w1 := by
    refine ⟨ad.os,ad.tape,ad.output,ad.drawn,ad.size,fun g0 bO iB => ⟨(ad.keep g0 bO (bM.nil g0)).1,fun ho => ?_⟩,⟨by simp,fun b p hb hp => by rwa [aq hb] at hp⟩⟩;rcases rm ho with h2 | h2
    ·exact iB h2
    ·simp at h2; omega
   have hh : cJ X (φ ++ [some (g,sz)]) w1 (Ha ++ [some (aA xs)]) := by
    refine ⟨by simp [h.heap.len],fun g0 hg0 => fj (h.heap.Df g0 hg0) ad.size,fun b ds mz => ?_,fun b mz => ?_,fun b b' g0 wv sz1 e1 e2 => ?_⟩
    ·by_cases bO : b < Ha.length
     ·rw [aq bO] at mz;obtain ⟨g0,wv,WB,e0,p1,p2,p3,p4,p5,p6⟩ := h.heap.live b ds mz;refine ⟨g0,wv,WB,e0,by rw [aq (by rw [h.heap.len]; exact bO)]; exact p1,?_,p3,p4,p5,fun i d hd => ?_⟩
      ·rw [(ad.keep g0 (dG.1 p2).1 (bM.nil g0)).1]; exact p2
      ·obtain ⟨u,u1,u2⟩ := p6 i d hd;exact ⟨u,u1,lj.rep u2⟩
     ·have xU : b = Ha.length := by have := au mz; simp at this; omega
      subst xU;simp at mz;subst mz;refine ⟨g,sz,arr,e,by rw [<- h.heap.len]; simp,f2,f3,by omega,hX,fun i d hd => ?_⟩;obtain ⟨i',z,j,z1,z2,z3⟩ := (ia c3).2 i d hd;obtain ⟨u,u1,u2,u3⟩ := fQ i' j z d z1 z2;refine ⟨u,by rw [gY f2] at u1; rw [z3]; exact u1,?_⟩;have xT := uD (oR hc z (aR z1)) d (aR z2);have qO := (iC u2).1;have := vG (N := N) (N' := N) (R' := Rd X (φ ++ [some (g,sz)]) w1) (φ' := φ ++ [some (g,sz)]) d xT u (by rw [j8 N _ qO]; exact u3)
      rwa [j8 N _ qO] at this
    ·by_cases bO : b < Ha.length
     ·rw [aq bO] at mz;rw [aq (by rw [h.heap.len]; exact bO)];exact h.heap.dead b mz
     ·have xU : b = Ha.length := by have := au mz; simp at this; omega
      subst xU;simp at mz
    ·have new : ∀ (b g0 wv : Nat),(φ ++ [some (g,sz)])[b]? = some (some (g0,wv)) -> (b < φ.length /\ φ[b]? = some (some (g0,wv)) /\ g0 < w.heap.size) \/ (b = φ.length /\ g0 = g) := by
      intro b g0 wv hb;by_cases bO : b < φ.length
      ·rw [aq bO] at hb;exact .inl ⟨bO,hb,(h.heap.gn ⟨b,wv,hb⟩).1⟩
      ·have im := au hb;simp at im;have xU : b = φ.length := by omega
       subst xU;simp at hb;exact .inr ⟨rfl,hb.1.symm⟩
     rcases new b g0 wv e1 with ⟨l1,q1,g1⟩ | ⟨l1,g1⟩ <;> rcases new b' g0 sz1 e2 with ⟨l2,q2,g2⟩ | ⟨l2,g2⟩
     ·exact h.heap.inj b b' g0 wv sz1 q1 q2
     ·omega
     ·omega
     ·omega
   refine ⟨φ ++ [some (g,sz)],zf h hb lj hh (by omega) c3 (fun i d hd => ?_) ?_,lj⟩
   ·obtain ⟨i',z,j,z1,z2,z3⟩ := (ia c3).2 i d hd;obtain ⟨u,u1,u2,u3⟩ := fQ i' j z d z1 z2;exact ⟨u2,d,hd,(iC u2).2,Le.refl _⟩
   ·generalize t1 0 = z at hr;cases hr with
    | sl _ _ _ _ _ ad' cap im fD hh' =>
      refine .sl _ _ _ _ _ _ _ (by simp [h.heap.len]) fD fun g0 wv e0 => ?_;rw [<- h.heap.len] at e0;simp at e0;obtain ⟨rfl,rfl⟩ := e0;exact hh' g sz jK
theorem aar {X' : Nat -> Prop} (hg : Am.ek (iq c) X φ w) (hx : ∀ g,X' g -> X g \/ bM φ g) : Am.ek (iq c) X' [] w := fun g => (hg g).mono (fun a u ⟨h1,h2,h3⟩ => ⟨fun h => (hx _ h).elim h1 h2,bM.nil _,h3⟩) (.refl _)
theorem QB (dy : fm P c) (eU : hJ P c call) (h : SB X φ w B base s (tm a)) (hg : Am.ek (iq c) X φ w) (hk : dm P o.op (kY kd) = true) {f : Nat} {args pE : List AV} (ha : getArgs c s.env kd = some (f,args)) {md : Md} {q : eR} (hf : c.fn f = some (md,q)) (jv : md.sh = false) (hz : rF s args = some pE) {r : AV} {H' : Heap} (hc : call f pE [] = some (r,H')) (hr : NB r = true) : k8 P X φ w B base s r o a := by
 obtain ⟨N,Ha,h,hb⟩ := h;obtain ⟨vargs,jw,hA,sY⟩ := xW dy h hg hk ha hf;obtain ⟨z1,z2,z3⟩ := Fx h args pE hz sY
 have H9 := SB.start (X := X) (w := w) (args := pE) (vargs := vargs) h.heap.Df z1 (by rw [z2]; exact hA.1) (fun i x v hx hv => z3 i x v hx (fun z hz => by
  rw [mj] at hz;cases OJ : args[i]? with
  | none => rw [OJ] at hz; cases hz
  | some y => rw [OJ] at hz; simp at hz; subst hz; exact hA.2 i y v OJ hv)) (fun _ => 0)
 have iS := eU f md q hf pE [] r H' (.inr rfl) hc (fun e => by rw [jv] at e; cases e) X [] w (fun _ => 0) vargs (by rw [z2]; exact hA.1) H9 (aar hg fun g h => .inl h);intro K Q hK;unfold Oper.wp;rw [jw,Oper.upon_enter];refine iS.mono ?_;rintro e w1 ⟨v',j5,rfl,⟨N1,H1,fZ,_⟩,ad⟩;unfold NB at hr;simp only [aa] at hr;by_cases ho : ∃ k xs,r = .own k xs
 ·obtain ⟨k,xs,rfl⟩ := ho;obtain ⟨φ',hp,ad'⟩ := UB h hb ad fZ (by simpa [clean] using hr.1);exact hK v' w1 φ' (by simpa using hp) ad'
 ·have iB : bN r = false := by
   have := hr.2;cases r <;> first | exact absurd ⟨_,_,rfl⟩ ho | simpa using this
  refine hK v' w1 φ (dY.quiet (h.lj (.of_same ad) (h.heap.of_same ad) h.own (fun _ _ => rfl)) hb (O5 r hr.1) (lZ iB) ?_) (.of_same ad);have r0 := fZ.env 0;simp only [Am.get,if_true] at r0;rw [uW N1 0 iB] at r0;rw [kO N iB];exact vG r hr.1 v' r0
theorem QA (dy : fm P c) (eU : hJ P c call) (h : SB X φ w B base s (tm a)) (hg : Am.ek (iq c) X φ w) (hk : dm P o.op (kY kd) = true) {f : Nat} {args : List AV} (ha : getArgs c s.env kd = some (f,args)) {md : Md} {q : eR} (hf : c.fn f = some (md,q)) (jv : md.sh = false) (hz : dK (args.map hO) = true) {r : AV} {H' : Heap} (hc : call f (args.map hO) [] = some (r,H')) (hr : pl r = true) : k8 P X φ w B base s r o a := by
 obtain ⟨N,Ha,h,hb⟩ := h;obtain ⟨vargs,jw,hA,sY⟩ := xW dy h hg hk ha hf;have AK : ∀ a u,Rd X φ w a u -> Rd (fun g => X g \/ bM φ g) [] w a u := fun a u ⟨h1,h2,h3⟩ => ⟨fun h => h.elim h1 h2,bM.nil _,h3⟩
 have H9 := SB.start (X := fun g => X g \/ bM φ g) (w := w) (args := args.map hO) (vargs := vargs) (fun g hg => hg.elim (h.heap.Df g) (fun ho => (h.heap.gn ho).1)) hz (by simpa using hA.1) (fun i x v hx hv => by
  rw [dQ] at hx;cases OJ : args[i]? with
  | none => rw [OJ] at hx; cases hx
  | some y =>
    rw [OJ] at hx;simp at hx;subst hx;have r0 := hA.2 i y v OJ hv;have hpy := gh hz i (hO y) (by rw [dQ,OJ]; rfl);by_cases ho : ∃ k,y = .own k []
    ·obtain ⟨k,rfl⟩ := ho;simp only [fM] at r0;cases r0;exact .jC _ _
    ·have hn : hO y = y := by
      unfold hO;split
      ·rename_i k; exact absurd ⟨k,rfl⟩ ho
      ·rfl
     rw [hn] at hpy ⊢;have hy : fM N y = y := by cases y <;> first | exact j8 N _ hpy | (simp [pl] at hpy; done)
     rw [hy] at r0;exact (r0.dU (gU _ hpy) []).mono AK (.refl _)) (fun _ => 0)
 have iS := eU f md q hf (args.map hO) [] r H' (.inr rfl) hc (fun e => by rw [jv] at e; cases e) (fun g => X g \/ bM φ g) [] w (fun _ => 0) vargs (by simpa using hA.1) H9 (aar hg fun g h => h);intro K Q hK;unfold Oper.wp;rw [jw,Oper.upon_enter];refine iS.mono ?_;rintro e w1 ⟨v',j5,rfl,⟨N1,H1,fZ,_⟩,ad⟩;have iB := xD hr;refine hK v' w1 φ (dY.quiet (h.lj (.of_same ad) (h.heap.of_same ad) h.own (fun _ _ => rfl)) hb (vV r hr) (lZ iB) ?_) (.of_same ad);have r0 := fZ.env 0;simp only [Am.get,if_true] at r0;rw [zJ N1 0 hr] at r0;rw [kO N iB,j8 N _ hr];exact ((r0.dU (gU _ hr) []).mono (fun a u ⟨h1,_,h3⟩ => ⟨fun h => h1 (.inl h),fun h => h1 (.inr h),h3⟩) (.refl _)).E4 φ
end
end Go.Bm

/- Regions in the order of the text; their ends. -/
namespace Go.Bm
open Go.Am
section
variable {P : Program} {X : Nat -> Prop} {φ j5 φ' : dF} {w w1 w' : World} {N1 N' : Names} {s s' s1 : St} {B : Nat -> Nat} {base : Nat} {v va : AV} {v' : Value} {c : eG} {o : Oper} {a : Act} {kd : Kd} {call : Nat -> List AV -> Heap -> Option (AV × Heap)}
structure zy (X : Nat -> Prop) (φ : dF) (w : World) (B : Nat -> Nat) (base : Nat) (s : St) (a : Act) (N : Nat) : Prop where
 sb : SB X φ w B base s (tm a)
 defers : a.defers = []
 size : a.tmps.size = N
theorem ae5 {a : Act} {d : Option Nat} {v' : Value} (hd : ∀ i,d = some i -> i < a.tmps.size) (j : Nat) : tm (a.put d v') j = if some j = d then v' else tm a j := by
 cases d with
 | none => simp [tm,Act.put]
 | some i =>
   have hi := hd i rfl;simp only [tm,Act.put,a8];by_cases e : j = i
   ·subst e; simp [hi]
   ·simp [iu (kj e),e]
theorem zy.put {N : Nat} (h : zy X φ w B base s a N) (hN : N <= fg) {d : Option Nat} (hd : ∀ i,d = some i -> i < N) (hp : dY X φ' w' B base s1 v (tm a) v') (hs : vU s1 d v = some s') : ∃ mH,zy X mH w' B base s' (a.put d v') N /\ fo φ' w' mH w' := by
 obtain ⟨mH,h1,a1⟩ := ab1 (t' := tm (a.put d v')) hp hs (fun e => by have := hd fg e; omega) (fun j => ae5 (fun i hi => by rw [h.size]; exact hd i hi) j);obtain ⟨h2,h3⟩ := Zj a d v';exact ⟨mH,⟨h1,by rw [h3]; exact h.defers,by rw [h2]; exact h.size⟩,a1⟩
theorem dY.undef (h : SB X φ w B base s (tm a)) : dY X φ w B base s .undef (tm a) WI := by
 obtain ⟨N,Ha,h,hb⟩ := h;exact dY.quiet h hb trivial trivial (.undef _)
theorem LD {N : Nat} {ops : Array Oper} {q : O} {fl : Fq} (fc : ∀ v s1 f,ft c call s q.kd = some (v,s1,f) -> k8 P X φ w B base s1 v o a) (hc : KP P N ops o (O2 q) = true) (hN : N <= fg)
  (hs : po c call s q = some (s',fl)) (hr : zy X φ w B base s a N) {K : Act -> World -> Prop} {Q : Exit -> Act -> World -> Prop} (hK : ∀ a' w' φ',zy X φ' w' B base s' a' N -> fo φ w φ' w' -> K a' w') :
  if Region.wanted o (yielded ops a.tmps) then o.wp P a w K Q \/ (o.asks P a w /\ LetsOut Q) else K (a.put o.dst WI) w := by
 simp only [KP,O2,aa,decide_eq_true_eq] at hc;obtain ⟨⟨⟨aiw,hd⟩,hgd⟩,_⟩ := hc;have hdst : o.dst = q.dst := of_decide_eq_true aiw
 have hd' : ∀ i,o.dst = some i -> i < N := by
  intro i hi;rw [<- hdst,hi] at hd;simpa using hd
 have run : ∀ {v s1 f fl'},ft c call s q.kd = some (v,s1,f) -> zj s.env q.dst v s1 f = some (s',fl') -> o.wp P a w K Q := by
  intro v s1 f fl' hv hf;unfold zj at hf;split at hf
  case h_2 => cases hf
  rename_i s2 hp;simp only [ah,aF] at hf;obtain ⟨rfl,_⟩ := hf;refine fc v s1 f hv K Q fun v' w' φ' xQ ad => ?_;rw [<- hdst] at hp;obtain ⟨mH,h1,a1⟩ := hr.put hN hd' xQ hp;exact hK _ _ mH h1 (ad.trans a1)
 have no : ∀ {fl'},zj s.env q.dst .undef s .no = some (s',fl') -> K (a.put o.dst WI) w := by
  intro fl' hf;unfold zj at hf;split at hf
  case h_2 => cases hf
  rename_i s2 hp;simp only [ah,aF] at hf;obtain ⟨rfl,_⟩ := hf;rw [<- hdst] at hp;obtain ⟨mH,h1,a1⟩ := hr.put hN hd' (dY.undef hr.sb) hp;exact hK _ _ mH h1 a1
 have aio : ∀ (g : Nat),∃ N1 Ha,bI (Rd X φ w) φ (j9 N1 g (get s.env g)) (tm a g) /\ eV X φ w N1 s Ha (tm a) := fun g => by
  obtain ⟨N1,Ha,h,_⟩ := hr.sb;exact ⟨N1,Ha,h.env g,h⟩
 unfold po at hs;split at hs
 ·rename_i hgn;rw [hgn] at hgd;split at hgd
  ·rename_i h1 _;rw [if_pos (by simp [Region.wanted,h1])];split at hs
   ·rename_i v s1 f hv;exact .inl (run hv hs)
   ·cases hs
  ·rename_i h2; simp at h2
  ·cases hgd
 ·rename_i g want hgn;rw [hgn] at hgd;split at hgd
  ·rename_i h2; simp at h2
  ·rename_i j adA g' aiI h1 h2;simp only [aa,decide_eq_true_eq] at hgd;obtain ⟨hj,rfl⟩ := hgd;simp at h2;obtain ⟨rfl,rfl⟩ := h2;obtain ⟨N1,Ha,Ct,_⟩ := aio g;split at hs
   ·rename_i b hb;rw [hb] at Ct;simp only [j9,iH,cW] at Ct;have hv := mm Ct;have hy : yielded ops a.tmps j = some b := by unfold yielded; rw [hj]; simp only [WG]; rw [V4 hv]
    by_cases QY : b = want
    ·subst QY;rw [if_pos (by simp [Region.wanted,h1,hy])];simp only [if_true] at hs;split at hs
     ·rename_i v s1 f hv;exact .inl (run hv hs)
     ·cases hs
    ·rw [if_neg (by simp [Region.wanted,h1,hy,QY])];rw [if_neg QY] at hs;exact no hs
   ·rename_i hb;rw [hb] at Ct;simp only [j9,iH,cW] at Ct;generalize hv : tm a g = vg at Ct;cases Ct
    have hy : yielded ops a.tmps j = none := by
     unfold yielded;rw [hj];simp only [WG];rcases Q0 hv with h | h <;> rw [h]
    rw [if_neg (by simp [Region.wanted,h1,hy])];exact no hs
   ·cases hs
  ·cases hgd
def IU (P : Program) (c : eG) (call : Nat -> List AV -> Heap -> Option (AV × Heap)) : Prop :=
 ∀ X φ w B base s o a kd v s1 f,dm P o.op (kY kd) = true -> ft c call s kd = some (v,s1,f) -> SB X φ w B base s (tm a) -> Am.ek (iq c) X φ w -> k8 P X φ w B base s1 v o a
theorem Tq (AN : IU P c call) {N : Nat} (hN : N <= fg) {ops : Array Oper} {Q : Exit -> Act -> World -> Prop} : ∀ (l : List Oper) (qs : List O) (k : Nat) (s s' : St) (m9 : List Fq) (a : Act) (w : World) (φ : dF),
  (∀ j,l[j]? = ops[k + j]?) -> oU P N ops l qs = true -> pf c call qs s = some (s',m9) -> zy X φ w B base s a N -> Am.ek (iq c) X φ w -> (∀ a' w' φ',zy X φ' w' B base s' a' N -> fo φ w φ' w' -> Q .normal a' w') ->
  wpOps P ops Q (List.range' k l.length) a w
 | [],qs,k,s,s',m9,a,w,φ,_,hc,hs,hr,hg,hQ => by
   cases qs with
   | nil =>
     simp [pf] at hs;obtain ⟨rfl,rfl⟩ := hs;exact hQ a w φ hr (.refl _ _)
   | cons q r => simp [oU] at hc
 | o :: l,qs,k,s,s',m9,a,w,φ,hl,hc,hs,hr,hg,hQ => by
   cases qs with
   | nil => simp [oU] at hc
   | cons q r =>
     simp only [oU,aa] at hc;simp only [pf] at hs;split at hs
     case h_2 => cases hs
     rename_i s1 fl1 h1;split at hs
     case h_2 => cases hs
     rename_i s2 fl2 h2;simp at hs;obtain ⟨rfl,rfl⟩ := hs;have h0 : ops[k]? = some o := by simpa using (hl 0).symm
     rw [bY,List.range'_succ,wpOps_cons];unfold wpOp;rw [h0]
     have hck : dm P o.op (kY q.kd) = true := by
      have := hc.1;simp only [KP,O2,aa] at this;exact this.2
     refine LD (fun v s1 f hv => AN X φ w B base s o a q.kd v s1 f hck hv hr.sb hg) hc.1 hN h1 hr fun a' w' φ' vZ k' => ?_;exact Tq AN hN l r (k + 1) s1 s2 fl2 a' w' φ' (fun j => by have := hl (j + 1); simpa [Nat.add_assoc,Nat.add_comm 1 j] using this) hc.2 h2 vZ (hg.lj k') fun a'' WK mH h'' vp => hQ a'' WK mH h'' (k'.trans vp)
theorem Ca {keep : List Nat} : ∀ {e : Env},rC keep e = false -> ∀ i,mem i keep = false -> bN (get e i) = false
 | [],_,i,_ => rfl
 | (j,v) :: r,h,i,hi => by
   simp only [rC,eO] at h;simp only [Am.get];split
   ·rename_i e;subst e;rw [hi] at h;simpa using h.1
   ·exact Ca h.2 i hi
theorem Cb (keep : List Nat) : ∀ (env : Env) (i : Nat),get (pR keep env) i = if mem i keep = true then get env i else .any
 | [],i => by simp [pR,Am.get]
 | (j,u) :: r,i => by
   have ih := Cb keep r i;unfold pR;split
   ·rename_i hm;simp only [Am.get];by_cases e : i = j
    ·subst e; simp [hm]
    ·rw [if_neg e,if_neg e]; exact ih
   ·rename_i hm;rw [ih];simp only [Am.get];by_cases e : i = j
    ·subst e; simp [hm]
    ·rw [if_neg e]
theorem Uk {t : Nat -> Value} (h : SB X φ w B base s t) {keep : List Nat} (ho : rC keep s.env = false) : SB X φ w B base (endK base keep s) t := by
 obtain ⟨N,Ha,h,hb,hl⟩ := h
 have h1 : eV X φ w N ⟨pR keep s.env,s.H⟩ Ha t := h.keep (fun i => by
  rw [Cb];cases hm : mem i keep with
  | true => exact .inl (by simp)
  | false => exact .inr ⟨by simp,Ca ho i hm⟩) rfl
 refine ⟨N,Ha,h1.trim (base0 := base) s.H.length,hb,?_⟩
 have len : ∀ (n : Nat) (H : Heap),base <= H.length -> base <= (trim base (pR keep s.env) n H).length := by
  intro n
  induction n with
  | zero => intro H h; exact h
  | succ n ih =>
    intro H h;simp only [trim];split
    ·rename_i hc;exact ih _ (by simp; omega)
    ·exact h
 exact len _ _ hl
theorem acL {t : Nat -> Value} (h : SB X φ w B base s t) {keep : List Nat} (he : Wb base keep s = some s') : ∃ φ',SB X φ' w B base s' t /\ fo φ w φ' w := by
 unfold Wb at he;split at he
 ·split at he
  ·cases he
  rename_i ho;simp at he ho;subst he;obtain ⟨j5,h1,a1⟩ := SB.mf keep s.env h;exact ⟨j5,Uk h1 ho,a1⟩
 ·rename_i ho;simp at he ho;subst he;exact ⟨φ,Uk h ho,.refl _ _⟩
end
end Go.Bm

/- A run of the compact code by value is a run of the dump's code. -/
namespace Go.Bm
open Go.Am
section
variable {P : Program} {c : eG}
def Gw (P : Program) (c : eG) (call : Nat -> List AV -> Heap -> Option (AV × Heap)) : Prop :=
 ∀ X φ w B base s s' m9 a N id ops os un (Q : Exit -> Act -> World -> Prop),N <= fg -> oU P N ops ops.toList os = true -> l9 un [] [] ops.toList os = true -> pf c call os s = some (s',m9) -> It os m9 un = true -> zy X φ w B base s a N -> Am.ek (iq c) X φ w ->
  (∀ a' w' φ',zy X φ' w' B base s' a' N -> fo φ w φ' w' -> Q .normal a' w') -> (Code.region id ops true).wp P Q a w
def Pl (P : Program) (c : eG) (n : Nat) : Prop := ∀ (N base : Nat) (code : Code) (cd : C) (s s' : St) (e : Ex),N <= fg -> G6 P N code cd = true -> c8 c n base cd s = some (e,s') -> ∀ X φ w B a,zy X φ w B base s a N -> Am.ek (iq c) X φ w ->
 ∀ Q : Exit -> Act -> World -> Prop,(∀ a' w' φ',zy X φ' w' B base s' a' N -> fo φ w φ' w' -> Q e.to a' w') -> code.wp P Q a w
theorem Ds (H1 : ∀ call,hJ P c call -> IU P c call) (H2 : ∀ call,hJ P c call -> Gw P c call) (H3 : ∀ n,Pl P c n -> hJ P c (k7 c (c8 c n))) : ∀ n,Pl P c n
 | 0 => fun N base code cd s s' e _ _ h => by simp [c8] at h
 | n + 1 => by
   have ih := Ds H1 H2 H3 n;have eU := H3 n ih;intro N base code cd s s' e hN hc h X φ w B a hr hg Q hQ;unfold G6 at hc;split at hc
   case h_1 => simp [c8] at h; obtain ⟨rfl,rfl⟩ := h; exact wp_skip (hQ a w φ hr (.refl _ _))
   case h_2 => simp [c8] at h; obtain ⟨rfl,rfl⟩ := h; exact wp_ret (hQ a w φ hr (.refl _ _))
   case h_3 =>
    simp only [decide_eq_true_eq] at hc;subst hc;simp [c8] at h; obtain ⟨rfl,rfl⟩ := h; exact wp_exit (hQ a w φ hr (.refl _ _))
   case h_4 =>
    rename_i id ops d os dr un keep;simp only [aa,decide_eq_true_eq] at hc;obtain ⟨⟨rfl,dC⟩,ho⟩ := hc;simp only [c8] at h;split at h
    case h_2 => cases h
    rename_i s1 m9 hs;split at h
    case isFalse => cases h
    rename_i hd;split at h
    case h_2 => cases h
    rename_i s2 he;simp at h;obtain ⟨rfl,rfl⟩ := h
    have hQ' : ∀ a' w' φ',zy X φ' w' B base s1 a' N -> fo φ w φ' w' -> Q .normal a' w' := fun a' w' φ' h k => by
     obtain ⟨mH,h2,a2⟩ := acL h.sb he;exact hQ a' w' mH ⟨h2,h.defers,h.size⟩ (k.trans a2)
    cases d with
    | false =>
      refine wp_region ?_;rw [List.range_eq_range',<- Array.length_toList];exact Tq (H1 _ eU) hN ops.toList os 0 s s1 m9 a w φ (fun j => by simp) dC hs hr hg hQ'
    | true =>
      simp at ho;exact H2 _ eU X φ w B base s s1 m9 a N id ops os un Q hN dC ho hs (by simpa using hd) hr hg hQ'
   case h_5 =>
    rename_i x y cx cy;simp only [aa] at hc;simp only [c8] at h;refine wp_seq ?_;cases h1 : c8 c n base cx s with
    | none => rw [h1] at h; cases h
    | some p =>
      obtain ⟨e1,s1⟩ := p;rw [h1] at h;cases e1 with
      | normal =>
        simp only at h;exact ih N base x cx s s1 .normal hN hc.1 h1 X φ w B a hr hg _ fun a' w' φ' vZ k => ih N base y cy s1 s' e hN hc.2 h X φ' w' B a' vZ (hg.lj k) Q fun a'' WK mH hr'' vp => hQ a'' WK mH hr'' (k.trans vp)
      | exit id => simp at h; obtain ⟨rfl,rfl⟩ := h; exact ih N base x cx s s1 _ hN hc.1 h1 X φ w B a hr hg _ fun a' w' φ' vZ k => hQ a' w' φ' vZ k
      | ret => simp at h; obtain ⟨rfl,rfl⟩ := h; exact ih N base x cx s s1 _ hN hc.1 h1 X φ w B a hr hg _ fun a' w' φ' vZ k => hQ a' w' φ' vZ k
   case h_6 =>
    rename_i x ca cb y da db;simp only [aa] at hc;simp only [c8] at h;split at h
    case h_2 => cases h
    rename_i t ht
    have r : a.eval x = .bool t := by
     obtain ⟨N1,Ha,hsim,_⟩ := hr.sb;have ho := cQ (c := c) (cA := iq c) hsim rfl hc.1.1;have := b7 (c := iq c) (env := yj N1 s.env) (a := a) (fun i => by rw [kW]; exact hsim.env i) hg hc.1.1;rw [ho.ev,ht] at this;exact mm this
    refine wp_cond (t := t) r ?_;cases t with
    | true => simp at h ⊢; exact ih N base ca da s s' e hN hc.1.2 h X φ w B a hr hg Q hQ
    | false => simp at h ⊢; exact ih N base cb db s s' e hN hc.2 h X φ w B a hr hg Q hQ
   case h_7 =>
    rename_i i b j x;simp only [aa,decide_eq_true_eq] at hc;obtain ⟨rfl,hc⟩ := hc;simp only [c8] at h;refine wp_block ?_;cases h1 : c8 c n base x s with
    | none => rw [h1] at h; cases h
    | some p =>
      obtain ⟨e1,s1⟩ := p;rw [h1] at h;refine ih N base b x s s1 e1 hN hc h1 X φ w B a hr hg _ fun a' w' φ' vZ k => ?_;cases e1 with
      | normal => simp at h; obtain ⟨rfl,rfl⟩ := h; exact hQ a' w' φ' vZ k
      | ret => simp at h; obtain ⟨rfl,rfl⟩ := h; exact hQ a' w' φ' vZ k
      | exit id =>
        simp only at h;split at h
        ·rename_i pc;simp at h; obtain ⟨rfl,rfl⟩ := h;simp only [Ex.to,Exit.inBlock,pc,if_true];exact hQ a' w' φ' vZ k
        ·rename_i pc;simp at h; obtain ⟨rfl,rfl⟩ := h;simp only [Ex.to,Exit.inBlock,pc,if_false];exact hQ a' w' φ' vZ k
   case h_8 =>
    rename_i b x;simp only [c8] at h
    have key : ∀ m,m <= n -> ∀ s a w φ,c8 c m base (.loop x) s = some (e,s') -> zy X φ w B base s a N -> Am.ek (iq c) X φ w -> (∀ a' w' φ',zy X φ' w' B base s' a' N -> fo φ w φ' w' -> Q e.to a' w') -> LW P b Q a w := by
     intro m
     induction m with
     | zero => intro _ s a w φ h; simp [c8] at h
     | succ m ihm =>
       intro hm s a w φ h hr hg hQ;simp only [c8] at h;refine LW.step ?_;have VJ : Pl P c m := Ds H1 H2 H3 m;cases h1 : c8 c m base x s with
       | none => rw [h1] at h; cases h
       | some p =>
         obtain ⟨e1,s1⟩ := p;rw [h1] at h;refine VJ N base b x s s1 e1 hN hc h1 X φ w B a hr hg _ fun a' w' φ' vZ k => ?_;cases e1 with
         | normal => simp only at h; exact ihm (by omega) s1 a' w' φ' h vZ (hg.lj k) fun a'' WK mH hr'' vp => hQ a'' WK mH hr'' (k.trans vp)
         | exit id => simp at h; obtain ⟨rfl,rfl⟩ := h; exact hQ a' w' φ' vZ k
         | ret => simp at h; obtain ⟨rfl,rfl⟩ := h; exact hQ a' w' φ' vZ k
    refine LW.loop (LW.step ?_);cases h1 : c8 c n base x s with
    | none => rw [h1] at h; cases h
    | some p =>
      obtain ⟨e1,s1⟩ := p;rw [h1] at h;refine ih N base b x s s1 e1 hN hc h1 X φ w B a hr hg _ fun a' w' φ' vZ k => ?_;cases e1 with
      | normal => simp only at h; exact key n (aT _) s1 a' w' φ' h vZ (hg.lj k) fun a'' WK mH hr'' vp => hQ a'' WK mH hr'' (k.trans vp)
      | exit id => simp at h; obtain ⟨rfl,rfl⟩ := h; exact hQ a' w' φ' vZ k
      | ret => simp at h; obtain ⟨rfl,rfl⟩ := h; exact hQ a' w' φ' vZ k
   case h_9 => simp [c8] at h; obtain ⟨rfl,rfl⟩ := h; exact wp_label (hQ a w φ hr (.refl _ _))
   case h_10 =>
    rename_i b x;simp only [c8] at h;cases n with
    | zero => simp [c8] at h
    | succ n' =>
      rw [show c8 c (n' + 1) base .skip s = some (.normal,s) from rfl] at h;simp only at h;refine wp_scope_straight (ih N base b x s s' e hN hc h X φ w B a hr hg _ fun a' w' φ' vZ k => ?_);have hq := hQ a' w' φ' vZ k;cases e <;> exact hq
   case h_11 => cases hc
end
end Go.Bm

/- What a function returns. -/
namespace Go.Bm
open Go.Am
section
variable {P : Program} {X : Nat -> Prop} {φ j5 φ' : dF} {w w1 w' : World} {N N1 N' : Names} {s s' s1 : St} {Ha : Heap} {B : Nat -> Nat} {base : Nat} {v va : AV} {v' : Value} {c : eG} {a : Act} {call : Nat -> List AV -> Heap -> Option (AV × Heap)}
theorem afc (h : eV X φ w N s Ha (tm a)) (hg : Am.ek (iq c) X φ w) {rv : Rv} {x : AV} (hx : XI c s rv = some x) : ∃ xa,XJ Ha (yj N s.env) rv = some xa /\ Le (cW N x) xa /\ cZ (az s) s.H.length x /\ bN x = false := by
 cases rv with
 | t i =>
   simp only [XI,ah] at hx;subst hx;refine ⟨_,rfl,?_,Tu h i,Ob _ _⟩;rw [kW,<- RJ];exact Le.refl _
 | c i ag =>
   simp only [XI] at hx;split at hx
   case h_2 => cases hx
   rename_i u ps hp;simp at hx;subst hx;obtain ⟨va,fl,e,hle,h2,h3⟩ := aeH (a := a) h hg (x := .t i) (o' := .tmp i) (by simp [kZ,dv]) hp
   have iB : bN u = false := by
    have rd : ∀ {cs : List AV},Jk ag cs = some u -> bN u = false := by
     intro cs hu;unfold Jk at hu;split at hu
     case h_2 => cases hu
     split at hu
     ·cases hu
     rename_i iB;simp at hu iB;subst hu;exact iB
    unfold xE at hp;split at hp
    ·split at hp
     ·rename_i hu; simp at hp; obtain ⟨rfl,_⟩ := hp; exact rd hu
     ·cases hp
    ·split at hp
     ·split at hp
      ·rename_i hu; simp at hp; obtain ⟨rfl,_⟩ := hp; exact rd hu
      ·cases hp
     ·cases hp
    ·split at hp
     ·split at hp
      ·split at hp
       ·split at hp
        ·rename_i hu; simp at hp; obtain ⟨rfl,_⟩ := hp; exact rd hu
        ·cases hp
       ·cases hp
      ·cases hp
     ·cases hp
    ·cases hp
   rw [kO N iB] at hle;refine ⟨va,?_,hle,h2,iB⟩;simp only [kY,kZ,fL,Am.ev] at e;simp only [XJ];split at e
   ·rename_i cs dC;rw [dC];split at e
    ·rename_i u' GB; simp at e; obtain ⟨rfl,_⟩ := e; exact GB
    ·cases e
   ·rename_i b off dC;rw [dC];split at e
    ·rename_i cs hb;simp only [hb];split at e
     ·rename_i u' GB; simp at e; obtain ⟨rfl,_⟩ := e; exact GB
     ·cases e
    ·cases e
   ·cases e
theorem R8 (h : eV X φ w N s Ha (tm a)) (hg : Am.ek (iq c) X φ w) : ∀ {rvs : List Rv} {xs : List AV},nO c s rvs = some xs -> ∃ UL,LR Ha (yj N s.env) rvs = some UL /\ UL.length = xs.length /\ (∀ (i : Nat) (x y : AV),xs[i]? = some x -> UL[i]? = some y -> Le (cW N x) y) /\ jU (az s) s.H.length xs /\ ∀ x ∈ xs,bN x = false
 | [],xs,hx => by simp [nO] at hx; subst hx; exact ⟨[],rfl,rfl,fun i x y h => by simp at h,trivial,fun x hx => by simp at hx⟩
 | r :: rs,xs,hx => by
   simp only [nO] at hx;split at hx
   case h_2 => cases hx
   rename_i u us h1 h2;simp at hx;subst hx;obtain ⟨xa,a1,a2,a3,a4⟩ := afc h hg h1;obtain ⟨UL,b1,b2,b3,b4,b5⟩ := R8 h hg h2;refine ⟨xa :: UL,by simp only [LR,a1,b1],by simp [b2],fun i x y hx hy => ?_,⟨a3,b4⟩,fun x hx => ?_⟩
   ·cases i with
    | zero => simp at hx hy; subst hx hy; exact a2
    | succ i => simp at hx hy; exact b3 i x y hx hy
   ·rcases aU.1 hx with e | e
    ·subst e; exact a4
    ·exact b5 x e
theorem W3 (h : eV X φ w N s Ha (tm a)) (hg : Am.ek (iq c) X φ w) {rvs : List Rv} {xs : List AV} (hx : nO c s rvs = some xs) : ∃ UL,LR Ha (yj N s.env) rvs = some UL /\ Le (cW N (m6 xs)) (m6 UL) /\ cZ (az s) s.H.length (m6 xs) /\ bN (m6 xs) = false := by
 obtain ⟨UL,b1,b2,b3,b4,b5⟩ := R8 h hg hx;refine ⟨UL,b1,?_⟩
 match xs,UL,b2 with
 | [],[],_ => exact ⟨Le.refl _,trivial,rfl⟩
 | [x],[y],_ => exact ⟨b3 0 x y rfl rfl,b4.1,b5 x (by simp)⟩
 | x :: x2 :: xs,y :: y2 :: ys,hl =>
   refine ⟨fun R φ v r => ?_,b4,rfl⟩;simp only [m6,cW] at r ⊢;cases r with
   | dD _ _ vs CW hh => exact .dD _ _ _ (by rw [dZ,<- hl]; exact CW) (fun i d u hd hu => by
     rw [qP] at hd;cases hc : (x :: x2 :: xs)[i]? with
     | none => rw [hc] at hd; cases hd
     | some z =>
       rw [hc] at hd;simp at hd;subst hd;obtain ⟨y',H8⟩ := aV (l := y :: y2 :: ys) (i := i) (by have := au hc; omega);exact b3 i z y' hc H8 _ _ _ (hh i y' u H8 hu))
theorem SB.val (h : SB X φ w B base s (tm a)) {r : AV} (hp : pl r = true) {v' : Value} (hr : bI (Rd X [] w) [] r v') (B' : Nat -> Nat) : ∃ φ',SB X φ' w B' 0 ⟨[(0,r)],[]⟩ (fun i => if i = 0 then v' else undef) /\ fo φ w φ' w := by
 obtain ⟨N,Ha,h,hb⟩ := h
 have iB : ∀ g,¬ bM (aO φ.length none) g := fun g ⟨b,sz,e⟩ => by
  rw [iG] at e;split at e <;> simp at e
 refine ⟨aO φ.length none,?_,⟨rfl,rfl,rfl,aT _,aT _,fun g hg ho => ⟨rfl,iB g⟩,⟨by simp,fun b p hb e => by rw [iG] at e; split at e <;> simp at e⟩⟩⟩;have CX : ∀ i,get [(0,r)] i = if i = 0 then r else .any := fun i => by simp only [Am.get]
 have qO : ∀ i,pl (get [(0,r)] i) = true := fun i => by rw [CX]; split; exact hp; rfl
 have hnoo : ∀ p,az ⟨[(0,r)],[]⟩ p = none := by
  intro p;cases p with
  | s i => exact (eJ (s := ⟨[(0,r)],[]⟩) (xD (qO i))).1
  | sc i j => exact (eJ (s := ⟨[(0,r)],[]⟩) (xD (qO i))).2 j
  | c b j => unfold az; simp [at_,aJ]
 refine ⟨⟨fun _ => 0,fun _ => none⟩,aO φ.length none,⟨fun i => ?_,fun i => vV _ (qO i),⟨by simp,h.heap.Df,fun b cs hb => ?_,fun b hb => ?_,fun b b' g sz lk h1 => ?_⟩,fun p k xs e => ?_,fun b cs e => ?_,fun p q n e1 => ?_,fun b p e1 => ?_,fun b d e1 => ?_⟩,fun b hb => by omega,zG _⟩
 ·have hr2 : bI (Rd X (aO φ.length none) w) (aO φ.length none) r v' := (hr.mono (R' := Rd X (aO φ.length none) w) (fun a u h => ⟨h.1,iB _,h.2.2⟩) (.refl _)).E4 _;show bI _ _ (j9 _ i (get [(0,r)] i)) (if i = 0 then v' else undef);rw [zJ _ _ (qO i),CX];by_cases e : i = 0
  ·rw [if_pos e,if_pos e]; exact hr2
  ·rw [if_neg e,if_neg e]; exact .any _ _
 ·rw [iG] at hb; split at hb <;> simp at hb
 ·have := au hb;rw [iG];simp at this;rw [if_pos this]
 ·rw [iG] at h1; split at h1 <;> simp at h1
 ·rw [hnoo] at e; cases e
 ·simp [aJ] at e
 ·rw [hnoo] at e1; cases e1
 ·simp [aJ] at e1
 ·simp [aJ] at e1
end
end Go.Bm

/- The end of a function that sees no boxes of others. -/
namespace Go.Bm
open Go.Am
section
variable {P : Program} {X : Nat -> Prop} {φ j5 φ' : dF} {w w1 w' : World} {N N1 N' : Names} {s s' s1 : St} {Ha : Heap} {B : Nat -> Nat} {base : Nat} {v va : AV} {v' : Value} {c : eG} {a : Act} {call : Nat -> List AV -> Heap -> Option (AV × Heap)}
theorem SB.own1 (h : eV X φ w N s Ha (tm a)) {p : Rt} {k len : Nat} {xs : List AV} (hp : az s p = some (k,xs)) (hle : len <= xs.length) (hr : bI (Rd X φ w) φ (cW N (.dA k p 0 len)) v') (B' : Nat -> Nat) : SB X φ w B' 0 ⟨[(0,.own k (xs.take len))],[]⟩ (fun i => if i = 0 then v' else undef) := by
 have CX : ∀ i,get [(0,AV.own k (xs.take len))] i = if i = 0 then .own k (xs.take len) else .any := fun i => by simp only [Am.get]
 have hlen : (xs.take len).length = len := by simp; omega
 have eQ : ∀ q k' ys,az ⟨[(0,.own k (xs.take len))],[]⟩ q = some (k',ys) -> q = .s 0 /\ k' = k /\ ys = xs.take len := by
  intro q k' ys e;have e' := cH.1 e;cases q with
  | s i =>
    simp only [at_,CX,ah] at e';by_cases hi : i = 0
    ·subst hi; simp at e'; exact ⟨rfl,e'.1.symm,e'.2.symm⟩
    ·rw [if_neg hi] at e'; cases e'
  | sc i j =>
    simp only [at_,CX] at e';by_cases hi : i = 0
    ·subst hi; simp at e'
    ·rw [if_neg hi] at e'; cases e'
  | c b j => simp [at_,aJ] at e'
 have one : ∀ {q},(az ⟨[(0,.own k (xs.take len))],[]⟩ q).isSome -> q = .s 0 := by
  intro q hq;obtain ⟨⟨k',ys⟩,e⟩ := aW.1 hq;exact (eQ q k' ys e).1
 refine ⟨⟨N.β,fun q => N.ν p⟩,Ha,⟨fun i => ?_,fun i => ?_,h.heap,fun q k' ys e => ?_,fun b cs e => ?_,fun q r n e1 e2 _ _ => ?_,fun b q e1 => ?_,fun b d e1 => ?_⟩,fun b hb => by omega,zG _⟩
 ·show bI _ _ (j9 _ i (get [(0,AV.own k (xs.take len))] i)) (if i = 0 then v' else undef);rw [CX];by_cases e : i = 0
  ·rw [if_pos e,if_pos e];simp only [j9,iH,pd,hlen];simp only [cW,fY] at hr;exact hr
  ·rw [if_neg e,if_neg e]; exact .any _ _
 ·show cZ _ _ (get [(0,AV.own k (xs.take len))] i);rw [CX];split <;> trivial
 ·obtain ⟨rfl,rfl,rfl⟩ := eQ q k' ys e;exact (h.own p k' xs hp).take
 ·simp [aJ] at e
 ·rw [one e1,one e2]
 ·simp [aJ] at e1
 ·simp [aJ] at e1
theorem acC (h : eV X φ w N s Ha (tm a)) (hb : (∀ b,b < base -> N.β b = B b) /\ base <= s.H.length) (hv : bI (Rd X φ w) φ (cW N v) v') (hk : cZ (az s) s.H.length v) (iB : bN v = false) {md : Md} {r : AV} {H' : Heap} (jv : md.sh = false) (hf : aZ md base s v = some (r,H')) (B' : Nat -> Nat) :
  H' = [] /\ ∃ φ',SB X φ' w B' 0 ⟨[(0,r)],[]⟩ (fun i => if i = 0 then v' else undef) /\ fo φ w φ' w := by
 have AK : ∀ a u,Rd X φ w a u -> Rd X [] w a u := fun a u ⟨h1,_,h3⟩ => ⟨h1,bM.nil _,h3⟩;unfold aZ at hf;rw [jv] at hf;simp only [bW,if_false] at hf;split at hf
 ·split at hf
  case isFalse => cases hf
  split at hf
  case h_2 => cases hf
  rename_i r' hr;simp at hf;obtain ⟨rfl,rfl⟩ := hf;refine ⟨rfl,?_⟩;unfold RP RO at hr;split at hr
  ·rename_i k p len;split at hr
   case h_2 => cases hr
   rename_i k' xs hp;split at hr
   case isFalse => cases hr
   rename_i hc;obtain ⟨rfl,hle⟩ := hc;simp at hr;subst hr;exact ⟨φ,SB.own1 h hp hle hv B',.refl _ _⟩
  ·simp [bN] at iB
  ·rename_i h1 h2;split at hr
   case isFalse => cases hr
   rename_i qO;simp at hr;subst hr;rw [j8 N _ qO] at hv;exact SB.val (base := base) (B := B) ⟨N,Ha,h,hb⟩ qO ((hv.dU (gU _ qO) []).mono AK (.refl _)) B'
 ·split at hf
  case h_2 => cases hf
  rename_i r' hr;simp at hf;obtain ⟨rfl,rfl⟩ := hf;obtain ⟨p1,p2⟩ := OQ h v r' hr hk;exact ⟨rfl,SB.val (base := base) (B := B) ⟨N,Ha,h,hb⟩ p1 (p2 _ hv) B'⟩
def uR (P : Program) (c : eG) : Prop := ∀ f g md q,c.orc f = some g -> c.fn f = some (md,q) -> ∀ args H r H',(md.sh = true \/ H = []) -> g args H = some (r,H') -> (md.sh = true -> dz H' = true) -> ∀ X φ w B (vargs : Array Value),args.length = vargs.size -> SB X φ w B H.length ⟨ei 0 args,H⟩ (fun i => vargs.getD i undef) -> Am.ek (iq c) X φ w -> Calls P f vargs w (G7 X φ w B H.length r H')
def ShOK (P : Program) (c : eG) (n : Nat) : Prop := ∀ f md q,c.fn f = some (md,q) -> md.sh = true -> ∀ args H r H',k7 c (c8 c n) f args H = some (r,H') -> dz H' = true -> ∀ X φ w B (vargs : Array Value),args.length = vargs.size -> SB X φ w B H.length ⟨ei 0 args,H⟩ (fun i => vargs.getD i undef) -> Am.ek (iq c) X φ w -> Calls P f vargs w (G7 X φ w B H.length r H')
theorem ID (dy : fm P c) (ur : uR P c) {n : Nat} (hs : Pl P c n) (jv : ShOK P c n) : hJ P c (k7 c (c8 c n)) := by
 intro f md q hf args H r H' hH h jD X φ w B vargs hl H9 hg;by_cases hm : md.sh = true
 ·exact jv f md q hf hm args H r H' h (jD hm) X φ w B vargs hl H9 hg
 have VR : md.sh = false := by simpa using hm
 have hH' : H = [] := hH.elim (fun e => absurd e hm) id;subst hH';unfold k7 at h;split at h
 ·rename_i x ze;unfold EN at ze;split at ze
  case h_2 => cases ze
  rename_i g Ib;rw [h] at ze;replace h := ze;exact ur f g md q Ib hf args [] r H' (.inr rfl) h jD X φ w B vargs hl H9 hg
 ·rw [hf] at h;simp only at h;split at h
  case isFalse => cases h
  rename_i hle;obtain ⟨fn,h1,h2⟩ := dy.fn f md q hf;simp only [bF,aa,decide_eq_true_eq] at h2;obtain ⟨⟨⟨⟨hn,ais⟩,_⟩,hres⟩,qE⟩ := h2;split at qE
  case h_2 => cases qE
  rename_i code hb;have zb : (vargs ++ nG (fn.ntmps - vargs.size) undef).size = q.n := by simp; omega
  have htm : tm { tmps := vargs ++ nG (fn.ntmps - vargs.size) undef,defers := [] } = fun i => vargs.getD i undef := by
   funext i;simp only [tm,a8];by_cases hi : i < vargs.size
   ·rw [pJ hi]
   ·rw [Gz (by omega),kr];rw [Array.getElem?_eq_none (by omega)];split <;> rfl
  have hS : zy X φ w B 0 ⟨ei 0 args,[]⟩ { tmps := vargs ++ nG (fn.ntmps - vargs.size) undef,defers := [] } q.n := ⟨by rw [htm]; exact H9,rfl,zb⟩
  have fin : ∀ {e : Ex} {s : St} {vs : List AV},c8 c n 0 q.body ⟨ei 0 args,[]⟩ = some (e,s) -> (e = .ret \/ e = .normal) -> nO c s q.res = some vs -> aZ md 0 s (m6 vs) = some (r,H') -> Calls P f vargs w (G7 X φ w B 0 r H') := by
   intro e s vs he hre um QW;refine calls_of_wp h1 hb (hs q.n 0 code q.body _ s e (by omega) qE he X φ w B _ hS hg _ fun a' w' φ' hS' rE => ?_);obtain ⟨N,Ha,u6,hbB⟩ := hS'.sb;obtain ⟨UL,x1,x2,x3,x4⟩ := W3 u6 (hg.lj rE) um;obtain ⟨v,k1,k2⟩ := Bf (P := P) (s := ⟨yj N s.env,Ha⟩) (ts := a'.tmps) (fun i => by rw [kW]; exact u6.env i) u6.heap hres x1;obtain ⟨rfl,ks,s2,a2⟩ := acC u6 hbB (x2 _ _ _ k2) x3 x4 VR QW B;have : bodyPost P fn (G7 X φ w B 0 r []) .ret a' w' := ⟨hS'.defers,v,k1,v,ks,rfl,s2,rE.trans a2⟩;rcases hre with rfl | rfl
   ·exact this
   ·exact this
  split at h
  ·rename_i s he;split at h
   ·rename_i vs um;exact fin he (.inl rfl) um h
   ·cases h
  ·rename_i s he;split at h
   ·rename_i vs um;exact fin he (.inr rfl) um h
   ·cases h
  ·cases h
end
end Go.Bm

/- Every operation, given the calls that share boxes. -/
namespace Go.Bm
open Go.Am
section
variable {P : Program} {c : eG} {call : Nat -> List AV -> Heap -> Option (AV × Heap)}
def Gv (P : Program) (c : eG) (call : Nat -> List AV -> Heap -> Option (AV × Heap)) : Prop :=
 ∀ X φ w B base s (o : Oper) (a : Act) kd f args md q r H',dm P o.op (kY kd) = true -> SB X φ w B base s (tm a) -> Am.ek (iq c) X φ w -> getArgs c s.env kd = some (f,args) -> c.fn f = some (md,q) -> md.sh = true -> dx (args.map hO) = true -> dz s.H = true -> aN r = [] -> bN r = false -> dz H' = true -> call f (args.map hO) s.H = some (r,H') -> k8 P X φ w B base ⟨ji fi s.env,H'⟩ r o a
theorem Vm (dy : fm P c) (eU : hJ P c call) (jv : Gv P c call) {X : Nat -> Prop} {φ : dF} {w : World} {B : Nat -> Nat} {base : Nat} {s s1 : St} {o : Oper} {a : Act} {kd : Kd} {v : AV} {fq : Fq} (hk : dm P o.op (kY kd) = true) (h : SB X φ w B base s (tm a)) (hg : Am.ek (iq c) X φ w) (hs : eh c call kd s = some (v,s1,fq)) : k8 P X φ w B base s1 v o a := by
 unfold eh at hs;split at hs
 ·cases hs
 rename_i f args ha;split at hs
 ·cases hs
 rename_i md q hf;split at hs
 ·rename_i hmd;simp only [aa,bH] at hmd;split at hs
  ·cases hs
  rename_i pE hz;split at hs
  case h_2 => cases hs
  rename_i r H' hc;split at hs
  case isFalse => cases hs
  rename_i hr;simp only [ah,aF] at hs;obtain ⟨rfl,rfl,_⟩ := hs;exact QB dy eU h hg hk ha hf hmd.2 hz hc hr
 ·obtain ⟨j5,h1,a1⟩ := SB.dV (df args) h;refine k8.ghost a1 ?_;split at hs
  ·cases hs
  rename_i f1 mC KF;split at hs
  case isFalse => cases hs
  rename_i hff;subst hff;split at hs
  ·rename_i hm;split at hs
   case isFalse => cases hs
   rename_i hp;split at hs
   case h_2 => cases hs
   rename_i r H' hc;split at hs
   case isFalse => cases hs
   rename_i hr;simp only [ah,aF] at hs;obtain ⟨rfl,rfl,_⟩ := hs;simp only [aa,bH] at hp hr;exact jv X j5 w B base _ o a kd f1 mC md q r H' hk h1 (hg.lj a1) KF hf hm hp.1 hp.2 (fa.1 hr.1.1) hr.1.2 hr.2 hc
  ·rename_i hm;split at hs
   case isFalse => cases hs
   rename_i hp;split at hs
   case h_2 => cases hs
   rename_i r H' hc;split at hs
   case isFalse => cases hs
   rename_i hr;simp only [ah,aF] at hs;obtain ⟨rfl,rfl,_⟩ := hs;exact QA dy eU h1 (hg.lj a1) hk KF hf (by simpa using hm) hp hc hr
def ko (w : World) (og : Option Nat) (k : Nat) (ys : List AV) (e : Ending) (w' : World) : Prop :=
 ∃ (g' FZ : Nat) (arr' : Array Value) (e' : TypeId),e = .returned (.slice (some ⟨g',0,none⟩) ys.length FZ) /\ ys.length <= FZ /\ FZ * k <= arr'.size /\ w'.heap[g']? = some (.cells arr' e' (0,0)) /\
  (∀ (i : Nat) (d : AV),(aA ys)[i]? = some d -> ∃ u,arr'[i]? = some u /\ bI (fun _ _ => False) [] d u) /\ (og = some g' \/ w.heap.size <= g') /\
  (∀ h,h < w.heap.size -> og ≠ some h -> w'.heap[h]? = w.heap[h]?) /\ w'.os = w.os /\ w'.tape = w.tape /\ w'.output = w.output /\ w.drawn <= w'.drawn /\ w.heap.size <= w'.heap.size
abbrev K2 (T : Nat -> Nat -> Addr -> Value -> Prop) (w : World) (og : Option Nat) (k : Nat) (ys : List AV) (e : Ending) (w' : World) : Prop :=
 ∃ (g' FZ : Nat) (arr' : Array Value) (e' : TypeId) (a' : Addr),e = .returned (.slice (some a') ys.length FZ) /\ (0 < FZ -> a' = ⟨g',0,none⟩) /\ ys.length <= FZ /\ FZ * k <= arr'.size /\ w'.heap[g']? = some (.cells arr' e' (0,0)) /\
  (∀ (i : Nat) (d : AV),(aA ys)[i]? = some d -> ∃ u,arr'[i]? = some u /\ bI (T g' arr'.size) [] d u) /\ (og = some g' \/ w.heap.size <= g') /\
  (∀ h,h < w.heap.size -> og ≠ some h -> w'.heap[h]? = w.heap[h]?) /\ w'.os = w.os /\ w'.tape = w.tape /\ w'.output = w.output /\ w.drawn <= w'.drawn /\ w.heap.size <= w'.heap.size
def zC (w : World) (og : Option Nat) (k : Nat) (ys : List AV) (e : Ending) (w' : World) : Prop :=
 K2 (fun _ _ _ _ => False) w og k ys e w' \/
 (og = none /\ ys = [] /\ e = .returned (.slice none 0 0) /\ fo [] w [] w')
theorem ko.n {w : World} {og : Option Nat} {k : Nat} {ys : List AV} {e : Ending} {w' : World} (h : ko w og k ys e w') : zC w og k ys e w' := by
 obtain ⟨g',FZ,arr',e',h1,h2⟩ := h;exact .inl ⟨g',FZ,arr',e',_,h1,fun _ => rfl,h2⟩
def la (w : World) (og : Option Nat) (a : Addr) (u : Value) : Prop := og ≠ some a.block /\ w.cell? a = some u /\ ∃ arr te,w.heap[a.block]? = some (.cells arr te (0,0))
def pF (w : World) (og : Option Nat) (a : Addr) (u : Value) : Prop := og ≠ some a.block /\ w.cell? a = some u
def RA : AV -> World -> Option Nat -> Addr -> Value -> Prop
 | .func _ _ _ => pF
 | _ => la
def yf (P : Program) (f : Nat) (g : Nat -> List AV -> List AV -> Option (List AV)) (Q : World -> Option Nat -> Nat -> List AV -> Ending -> World -> Prop) : Prop := ∀ k xs es ys,g k xs es = some ys -> (∀ x ∈ xs,x.cells.length = k) -> (∀ x ∈ xs,∀ d ∈ x.cells,fz d = true) ->
 ((∀ y ∈ ys,y.cells.length = k) /\ ∀ y ∈ ys,∀ d ∈ y.cells,fz d = true) /\
 (xs = [] -> ∀ w (vargs : Array Value),es.length + 1 = vargs.size -> vargs[0]? = some (.slice none 0 0) -> (∀ (i : Nat) (e : AV) (v : Value),es[i]? = some e -> vargs[i + 1]? = some v -> bI (RA e w none) [] e v) -> Calls P f vargs w (Q w none k ys)) /\
 ∀ w (vargs : Array Value) g0 arr te a cap,w.heap[g0]? = some (.cells arr te (0,0)) -> (∀ (i : Nat) (d : AV),(aA xs)[i]? = some d -> ∃ u,arr[i]? = some u /\ bI (fun _ _ => False) [] d u) -> es.length + 1 = vargs.size -> vargs[0]? = some (.slice (some a) xs.length cap) -> (0 < cap -> a = ⟨g0,0,none⟩) -> xs.length <= cap -> cap * k <= arr.size ->
  (∀ (i : Nat) (e : AV) (v : Value),es[i]? = some e -> vargs[i + 1]? = some v -> bI (RA e w (some g0)) [] e v) -> Calls P f vargs w (Q w (some g0) k ys)
theorem yf.weak {P : Program} {f : Nat} {g : Nat -> List AV -> List AV -> Option (List AV)} (h : yf P f g ko) : yf P f g zC := by
 intro k xs es ys hg h1 h2;obtain ⟨p,q,r⟩ := h k xs es ys hg h1 h2;exact ⟨p,fun a b c d e f => (q a b c d e f).mono fun _ _ z => z.n,fun a b c d e f g h i j k l m n o => (r a b c d e f g h i j k l m n o).mono fun _ _ z => z.n⟩
def aeW (P : Program) (c : eG) : Prop := ∀ f g,c.eat f = some g -> (∃ md q,c.fn f = some (md,q)) /\ yf P f g zC
def aba (P : Program) (c : eG) : Prop := ∀ f g,c.inp f = some g -> (∃ md q,c.fn f = some (md,q)) /\ ∀ k xs es ys res,g k xs es = some (ys,res) -> (∀ x ∈ xs,x.cells.length = k) -> (∀ x ∈ xs,∀ d ∈ x.cells,fz d = true) ->
 ((ys.length = xs.length /\ (∀ y ∈ ys,y.cells.length = k)) /\ ((∀ y ∈ ys,∀ d ∈ y.cells,fz d = true) /\ ∀ m,res = some m -> m <= xs.length)) /\
 (xs = [] -> ∀ X φ w (vargs : Array Value) v0 y,(y = .dJ \/ y = .list k []) -> es.length + 1 = vargs.size -> vargs[0]? = some v0 -> bI (Rd X φ w) φ y v0 -> (∀ (i : Nat) (e : AV) (v : Value),es[i]? = some e -> vargs[i + 1]? = some v -> bI (Rd X φ w) [] e v) ->
  Calls P f vargs w (fun e w' => ∃ v',e = .returned v' /\ bI (Rd X φ w') φ (match res with
   | none => .dD []
   | some _ => y) v' /\ fo [] w [] w')) /\
 ∀ X φ w Ha n rest (vargs : Array Value) v0,cJ X φ w Ha -> aJ Ha n = some (aA (xs ++ rest)) -> es.length + 1 = vargs.size -> vargs[0]? = some v0 -> bI (Rd X φ w) φ (.sl k n 0 xs.length) v0 -> (∀ (i : Nat) (e : AV) (v : Value),es[i]? = some e -> vargs[i + 1]? = some v -> bI (Rd X φ w) [] e v) ->
  Calls P f vargs w (fun e w' => ∃ v' φ',e = .returned v' /\ bI (Rd X φ' w') φ' (match res with
   | none => .dD []
   | some m => .sl k n 0 m) v' /\ cJ X φ' w' (Ha.set n (some (aA (ys ++ rest)))) /\ fo φ w φ' w')
def zB (P : Program) (c : eG) : Prop := aba P c /\ aeW P c
theorem less {X : Nat -> Prop} {φ : dF} {w : World} {Ha : Heap} (h : cJ X φ w Ha) {n : Nat} {cs cs' : List AV} (hb : aJ Ha n = some cs) (hl : cs'.length <= cs.length) (hc : ∀ (i : Nat) (d : AV),cs'[i]? = some d -> ∃ a,cs[i]? = some a /\ Le d a) : cJ X φ w (Ha.set n (some cs')) := by
 refine ⟨by simp [h.len],h.Df,fun b ds mz => ?_,fun b mz => ?_,h.inj⟩
 ·rw [bg] at mz;split at mz
  ·rename_i e;subst e;split at mz
   ·simp at mz;subst mz;obtain ⟨g,sz,arr,e,g1,g2,g3,g4,g5,g6⟩ := h.at hb;refine ⟨g,sz,arr,e,g1,g2,g3,by omega,g5,fun i d hd => ?_⟩;obtain ⟨a,ha,hle⟩ := hc i d hd;obtain ⟨u,u1,u2⟩ := g6 i a ha;exact ⟨u,u1,hle _ _ _ u2⟩
   ·cases mz
  ·exact h.live b ds mz
 ·rw [bg] at mz;split at mz
  ·split at mz <;> simp at mz
  ·exact h.dead b mz
theorem PT {s : St} {p : Rt} {v : AV} (h : at_ s p = some v) : (∀ i,get (setAt s p v).env i = get s.env i) /\ (setAt s p v).H = s.H := by
 cases p with
 | s i =>
   simp only [at_,ah] at h;refine ⟨fun j => ?_,rfl⟩;simp only [setAt,bu];split
   ·rename_i e; subst e; exact h.symm
   ·rfl
 | sc i l =>
   simp only [at_] at h;split at h
   ·rename_i cs hc
    have e : cs.set l v = cs := by
     apply dS;intro j;rw [bg];split
     ·rename_i e; subst e; split
      ·exact h.symm
      ·rename_i bO; rw [eF (by omega)] at h; cases h
     ·rfl
    have hs : setAt s (.sc i l) v = ⟨put s.env i (.agg cs),s.H⟩ := by simp only [setAt,hc,e]
    rw [hs];refine ⟨fun j => ?_,rfl⟩;show get (put s.env i (.agg cs)) j = _;rw [bu];split
    ·rename_i e2; subst e2; exact hc.symm
    ·rfl
   ·cases h
 | c b l =>
   simp only [at_] at h;split at h
   ·rename_i cs hc
    have e : cs.set l v = cs := by
     apply dS;intro j;rw [bg];split
     ·rename_i e; subst e; split
      ·exact h.symm
      ·rename_i bO; rw [eF (by omega)] at h; cases h
     ·rfl
    have hs : setAt s (.c b l) v = ⟨s.env,s.H.set b (some cs)⟩ := by simp only [setAt,hc,e]
    rw [hs];refine ⟨fun j => rfl,?_⟩;show s.H.set b (some cs) = s.H;apply dS;intro j;rw [bg];split
    ·rename_i e2;subst e2;rw [if_pos (eL hc),rL.1 hc]
    ·rfl
   ·cases h
theorem pW (xs ys : List AV) : aA (xs ++ ys) = aA xs ++ aA ys := by
 induction xs with
 | nil => rfl
 | cons x r ih => simp [aA,ih,bK]
theorem jg {xs : List AV} {d : AV} (h : d ∈ aA xs) : ∃ x ∈ xs,d ∈ x.cells := by
 induction xs with
 | nil => simp [aA] at h
 | cons x r ih =>
   simp only [aA,aC] at h;rcases h with h | h
   ·exact ⟨x,by simp,h⟩
   ·obtain ⟨y,hy,hd⟩ := ih h;exact ⟨y,by simp [hy],hd⟩
theorem rH {N : Names} {R R' : Addr -> Value -> Prop} {φ φ' : dF} {d : AV} (hc : clean d = true) (hp : pl d = true) {u : Value} (r : bI R φ d u) : bI R' φ' d u := by
 have := vG (N := N) (N' := N) (R' := R') (φ' := φ') d hc u (by rw [j8 N _ hp]; exact r)
 rwa [j8 N _ hp] at this
theorem Is {X : Nat -> Prop} {φ : dF} {w : World} {N : Names} {s : St} {Ha : Heap} {t : Nat -> Value} (h : eV X φ w N s Ha t) {p : Rt} {og : Option Nat} (hp : ∀ g n sz,og = some g -> φ[n]? = some (some (g,sz)) -> N.ν p = some n) (AL : (az s p).isSome) {x y : AV} (hf : FI s p x = some y) (hk : cZ (az s) s.H.length x) {v : Value} (r : bI (Rd X φ w) φ (fM N x) v) : bI (la w og) [] y v /\ GU y = false := by
 unfold FI at hf;split at hf
 ·simp at hf;subst hf;simp only [fM,cW] at r;cases r;exact ⟨.int _ _ _,rfl⟩
 ·rename_i k q off len;split at hf
  case isTrue => cases hf
  rename_i lY;split at hf
  case h_2 => cases hf
  rename_i k' xs hq;split at hf
  case isFalse => cases hf
  rename_i hc;obtain ⟨rfl,hle,xT⟩ := hc;simp at hf;subst hf;have eQ := h.own q k' xs hq;simp only [fM] at r;rcases oY h hk with ⟨n,hn,e2⟩ | ⟨hn,h0,h1,e2⟩
  ·rw [e2] at r;rw [hn] at eQ;obtain ⟨g2,sz2,AH,hX2,hc3⟩ := nD h.heap eQ;have hg2 : og ≠ some g2 := fun hG => lY (h.inj q p n (by rw [hq]; rfl) AL hn (hp g2 n sz2 hG AH))
   have T9 : ∃ arr te,w.heap[g2]? = some (.cells arr te (0,0)) := by
    obtain ⟨cs,q1,_⟩ := eQ;obtain ⟨g3,sz3,arr,te,b1,b2,_⟩ := h.heap.at q1;rw [AH] at b1;cases b1;exact ⟨arr,te,b2⟩
   cases r with
   | sl _ _ _ _ _ a cap hb fD hh =>
     obtain ⟨h1,h2⟩ := hh g2 sz2 AH;by_cases hl0 : len = 0
     ·subst hl0;simp only [qa];exact ⟨.qC _ _ _ _ _ _ (fun _ _ => undef) rfl fD (fun x hx => by simp at hx) (fun i j x c hx => by simp at hx) (fun i j x c hx => by simp at hx),rfl⟩
     ·have ha := h1 (by omega);subst ha;obtain ⟨cs,q1,q2,hk3,q4⟩ := eQ
      have hx : ∀ (i : Nat) (x : AV),((xs.drop off).take len)[i]? = some x -> xs[off + i]? = some x /\ i < len := by
       intro i x hx;rw [bf] at hx;split at hx
       ·rw [aQ] at hx; exact ⟨hx,‹_›⟩
       ·cases hx
      refine ⟨.qC _ _ _ _ _ _ (fun i j => (w.cell? ⟨g2,(off + i) * k' + j,none⟩).getD undef) (by simp; omega) fD (fun x hm => ?_) (fun i j x c hi hj => ?_) (fun i j x c hi hj => ?_),rfl⟩
      ·exact hk3 x (cF (cD hm))
      ·obtain ⟨u,u1,_,_⟩ := hc3 _ j x c (hx i x hi).1 hj;rw [u1,Addr.gG,show off * k' + (i * k' + j) = (off + i) * k' + j by rw [cq]; omega];exact ⟨hg2,u1,T9⟩
      ·obtain ⟨u,u1,u2,u3⟩ := hc3 _ j x c (hx i x hi).1 hj;rw [u1];exact rH (N := N) (uD (oR xT x (aR (hx i x hi).1)) c (aR hj)) (iC u2).1 u3
  ·rw [e2] at r;subst h1;simp only [qa];cases r;exact ⟨.jC _ _,rfl⟩
 ·cases hf
theorem la.weak {w : World} {og : Option Nat} {a : Addr} {u : Value} (h : la w og a u) : pF w og a u := ⟨h.1,h.2.1⟩
theorem aaV {X : Nat -> Prop} {φ : dF} {w : World} {N : Names} {s : St} {Ha : Heap} {t : Nat -> Value} (h : eV X φ w N s Ha t) {p : Rt} {og : Option Nat} (hp : ∀ g n sz,og = some g -> φ[n]? = some (some (g,sz)) -> N.ν p = some n) (QS : ∀ g,og = some g -> bM φ g) (AL : (az s p).isSome) {b j : Nat} {x y : AV} {cs : List AV} (hb : aJ s.H b = some cs) (hj : cs[j]? = some x) (hf : capV s p b j x = some y) {v : Value} (r : bI (Rd X φ w) φ (iH N (.c b j) x) v) : bI (pF w og) [] y v := by
 have wk : ∀ a u,Rd X φ w a u -> pF w og a u := fun a u h => ⟨fun e => h.2.1 (QS _ e),h.2.2⟩;unfold capV at hf;split at hf
 ·simp at hf; subst hf; simp only [iH,cW] at r; cases r; exact .int _ _ _
 ·simp at hf; subst hf; simp only [iH,cW] at r; cases r; exact .bool _ _
 ·simp at hf; subst hf; simp only [iH,cW] at r;cases r with
  | qC _ _ _ a n cap u hn hc hk hu hh => exact .qC _ _ _ _ _ _ u hn hc hk (fun i j x c h1 h2 => wk _ _ (hu i j x c h1 h2)) (fun i j x c h1 h2 => (hh i j x c h1 h2).mono wk (.refl _))
  | jC => exact .jC _ _
 ·rename_i k xs
  have ho : az s (.c b j) = some (k,xs) := by
   unfold az at_;simp only [hb,hj,gI]
  refine (Is h hp AL hf ⟨xs,ho,by omega⟩ ?_).1.mono (fun _ _ h => h.weak) (.refl _);simp only [fM,cW,iH,pd] at r ⊢;rw [fY]; exact r
 ·cases hf
theorem Pb {X : Nat -> Prop} {φ : dF} {w : World} {N : Names} {s : St} {Ha : Heap} {t : Nat -> Value} (h : eV X φ w N s Ha t) {p : Rt} {og : Option Nat} (hp : ∀ g n sz,og = some g -> φ[n]? = some (some (g,sz)) -> N.ν p = some n) (QS : ∀ g,og = some g -> bM φ g) (AL : (az s p).isSome) {b : Nat} {cs : List AV} (hb : aJ s.H b = some cs) : ∀ {l ys : List AV} {j : Nat},cs.drop j = l -> capC s p b j l = some ys -> ys.length = l.length /\ ∀ (i : Nat) (x y : AV) (v : Value),l[i]? = some x -> ys[i]? = some y -> bI (Rd X φ w) φ (iH N (.c b (j + i)) x) v -> bI (pF w og) [] y v
 | [],ys,j,_,hf => by simp [capC] at hf; subst hf; exact ⟨rfl,fun i x y v hx => by simp at hx⟩
 | x :: r,ys,j,hl,hf => by
   unfold capC at hf;split at hf
   case h_2 => cases hf
   rename_i y zs h1 h2;simp at hf;subst hf;have hd : cs.drop (j + 1) = r := by rw [<- List.drop_drop,hl]; rfl
   have hj : cs[j]? = some x := by have := congrArg (·[0]?) hl; simpa using this
   obtain ⟨i1,i2⟩ := Pb h hp QS AL hb hd h2;refine ⟨by simp [i1],fun i x' y' v hx hy r' => ?_⟩;cases i with
   | zero => simp at hx hy; subst hx; subst hy; exact aaV h hp QS AL hb hj h1 r'
   | succ i => exact i2 i x' y' v (by simpa using hx) (by simpa using hy) (by rw [show j + 1 + i = j + (i + 1) by omega]; exact r')
theorem O9 {X : Nat -> Prop} {φ : dF} {w : World} {N : Names} {s : St} {Ha : Heap} {t : Nat -> Value} (h : eV X φ w N s Ha t) {p : Rt} {og : Option Nat} (hp : ∀ g n sz,og = some g -> φ[n]? = some (some (g,sz)) -> N.ν p = some n) (QS : ∀ g,og = some g -> bM φ g) (AL : (az s p).isSome) : ∀ {bs ys : List AV},capL s p bs = some ys -> ys.length = bs.length /\ ∀ (i : Nat) (x y : AV) (v : Value),bs[i]? = some x -> ys[i]? = some y -> bI (Rd X φ w) φ (cW N x) v -> bI (pF w og) [] y v
 | [],ys,hf => by simp [capL] at hf; subst hf; exact ⟨rfl,fun i x y v hx => by simp at hx⟩
 | z :: r,ys,hf => by
   unfold capL at hf;split at hf
   case h_1 => rename_i e; cases e
   case h_3 => cases hf
   rename_i b r' heq;cases heq;split at hf
   case h_2 => cases hf
   rename_i cs hb;split at hf
   case h_2 => cases hf
   rename_i y zs h1 h2;simp at hf;subst hf;obtain ⟨i1,i2⟩ := O9 h hp QS AL h2;refine ⟨by simp [i1],fun i x' y' v hx hy r' => ?_⟩;cases i with
   | succ i => exact i2 i x' y' v (by simpa using hx) (by simpa using hy) r'
   | zero =>
     simp at hx hy;subst hx; subst hy;simp only [cW] at r';obtain ⟨as,b1,b2,b3⟩ := h.box b cs hb;obtain ⟨g,sz,arr,te,c1,c2,c3,c4,c5,c6⟩ := h.heap.at b1;obtain ⟨l1,l2⟩ := Pb h hp QS AL hb (j := 0) (l := cs) rfl h1;generalize hv : v = vv at r';cases r' with
     | ptr _ _ _ a bO ha =>
       have := ha g sz c1;subst this;subst hv
       have get : ∀ (j : Nat) (c : AV),y[j]? = some c -> ∃ u,arr[j]? = some u /\ bI (pF w og) [] c u := fun j c hc => by
        obtain ⟨x,hx⟩ := aV (l := cs) (i := j) (by have := au hc; omega);obtain ⟨_,a,q1,q2⟩ := b3 j x hx;obtain ⟨u,u1,u2⟩ := c6 j a q1;exact ⟨u,u1,l2 j x c u hx hc (by rw [dM]; exact q2 _ _ _ u2)⟩
       refine .dI _ _ _ (fun j => (arr[j]?).getD undef) (fun j c hc => ?_) (fun j c hc => ?_)
       ·obtain ⟨u,u1,_⟩ := get j c hc;refine ⟨fun e => ?_,?_⟩
        ·rw [Addr.gG] at e;have e1 : N.ν p = some (N.β b) := hp g (N.β b) sz e c1;exact h.bx b p (by rw [hb]; rfl) AL e1
        ·rw [Addr.gG];simp only [World.cell?,c2,dM,u1];rfl
       ·obtain ⟨u,u1,u2⟩ := get j c hc;rw [u1]; exact u2
theorem aaD {X : Nat -> Prop} {φ : dF} {w : World} {N : Names} {s : St} {Ha : Heap} {t : Nat -> Value} (h : eV X φ w N s Ha t) {p : Rt} {og : Option Nat} (hp : ∀ g n sz,og = some g -> φ[n]? = some (some (g,sz)) -> N.ν p = some n) (QS : ∀ g,og = some g -> bM φ g) (AL : (az s p).isSome) {x y : AV} (hf : OY s p x = some y) (hk : cZ (az s) s.H.length x) {v : Value} (r : bI (Rd X φ w) φ (fM N x) v) : bI (RA y w og) [] y v := by
 unfold OY at hf;split at hf
 ·rename_i f bs;split at hf
  case h_2 => cases hf
  rename_i ys hy;simp at hf;subst hf;obtain ⟨l1,l2⟩ := O9 h hp QS AL hy;simp only [fM,cW,kt] at r;show bI (pF w og) [] _ _;cases r with
  | func _ _ _ va _ vb zE zD ha hb =>
    refine .func _ _ _ _ _ _ zE (by rw [l1,<- zD,dZ]) (fun i c v hc => by simp at hc) (fun i c v hc hv => ?_);obtain ⟨x,hx⟩ := aV (l := bs) (i := i) (by have := au hc; omega);exact l2 i x c v hx hc (hb i _ v (by rw [qP,hx]; rfl) hv)
 ·obtain ⟨r1,r2⟩ := Is h hp AL hf hk r;have : RA y = la := by cases y <;> first | rfl | (simp [GU] at r2; done)
  rw [this]; exact r1
theorem FG {X : Nat -> Prop} {φ : dF} {w : World} {N : Names} {s : St} {Ha : Heap} {t : Nat -> Value} (h : eV X φ w N s Ha t) {p : Rt} {og : Option Nat} (hp : ∀ g n sz,og = some g -> φ[n]? = some (some (g,sz)) -> N.ν p = some n) (QS : ∀ g,og = some g -> bM φ g) (AL : (az s p).isSome) : ∀ {xs ys : List AV},Cz s p xs = some ys -> jU (az s) s.H.length xs -> ys.length = xs.length /\ ∀ (i : Nat) (x y : AV) (v : Value),xs[i]? = some x -> ys[i]? = some y -> bI (Rd X φ w) φ (fM N x) v -> bI (RA y w og) [] y v
 | [],ys,hf,_ => by simp [Cz] at hf; subst hf; exact ⟨rfl,fun i x y v hx => by simp at hx⟩
 | x :: r,ys,hf,hk => by
   unfold Cz at hf;split at hf
   case h_2 => cases hf
   rename_i y zs h1 h2;simp at hf;subst hf;obtain ⟨i1,i2⟩ := FG h hp QS AL h2 hk.2;refine ⟨by simp [i1],fun i x' y' v hx hy r => ?_⟩;cases i with
   | zero => simp at hx hy; subst hx; subst hy; exact aaD h hp QS AL h1 hk.1 r
   | succ i => exact i2 i x' y' v (by simpa using hx) (by simpa using hy) r
theorem aaC {X : Nat -> Prop} {φ : dF} {w w' : World} {Ha : Heap} (h : cJ X φ w Ha) {n : Nat} {og : Option Nat} (h1 : ∀ g,og = some g -> ∃ sz,φ[n]? = some (some (g,sz))) (h2 : og = none -> φ.length <= n) {k : Nat} {ys : List AV} (hk : ∀ y ∈ ys,y.cells.length = k) {e : Ending} {T : Nat -> Nat -> Addr -> Value -> Prop} (hp : K2 T w og k ys e w') (hT : ∀ g' sz a u,T g' sz a u -> Rd X (φ.set n none ++ [some (g',sz)]) w' a u) :
  ∃ φ' v',e = .returned v' /\ cJ X φ' w' (Ha.set n none ++ [some (aA ys)]) /\ fo φ w φ' w' /\ bI (Rd X φ' w') φ' (.sl k Ha.length 0 ys.length) v' := by
 obtain ⟨g',FZ,arr',e',a',rfl,haa,fD,kM,VW,fQ,ze,aeM,ho1,ho2,ho3,ho4,ho5⟩ := hp;have hlen := h.len;have QS : ∀ g,og = some g -> bM φ g := fun g e => by obtain ⟨sz,q⟩ := h1 g e; exact ⟨n,sz,q⟩
 have hfl := gC hk
 have sub : ∀ {b : Nat} {p : Nat × Nat},(φ.set n none)[b]? = some (some p) -> φ[b]? = some (some p) /\ b ≠ n := by
  intro b p hb;rw [bg] at hb;split at hb
  ·split at hb <;> simp at hb
  ·rename_i sO; exact ⟨hb,fun e => sO e.symm⟩
 have notg : ∀ {b g0 wv : Nat},b ≠ n -> φ[b]? = some (some (g0,wv)) -> og ≠ some g0 := by
  intro b g0 wv hb jK e;obtain ⟨sz,q⟩ := h1 g0 e;exact hb (h.inj b n g0 wv sz jK q)
 have lj : fo φ w (φ.set n none ++ [some (g',arr'.size)]) w' := by
  refine ⟨ho1,ho2,ho3,ho4,ho5,fun g0 bO iB => ⟨aeM g0 bO fun e => iB (QS g0 e),fun ho => ?_⟩,⟨by simp,fun b p hb hp => ?_⟩⟩
  ·rcases rm ho with q | q
   ·exact iB (Ah q)
   ·simp only at q;subst q;rcases ze with e | e
    ·exact iB (QS _ e)
    ·omega
  ·rw [aq (by simpa using hb)] at hp;exact (sub hp).1
 refine ⟨φ.set n none ++ [some (g',arr'.size)],_,rfl,?_,lj,?_⟩
 ·refine ⟨by simp [hlen],fun g0 hg0 => fj (h.Df g0 hg0) ho5,fun b ds mz => ?_,fun b mz => ?_,fun b b' g0 wv sz1 e1 e2 => ?_⟩
  ·by_cases bO : b < Ha.length
   ·rw [aq (by simpa using bO)] at mz;rw [bg] at mz;split at mz
    ·split at mz <;> simp at mz
    rename_i sO;obtain ⟨g0,wv,WB,e0,p1,p2,p3,p4,p5,p6⟩ := h.live b ds mz;refine ⟨g0,wv,WB,e0,by rw [aq (by simp; omega),cP sO]; exact p1,?_,p3,p4,p5,fun i d hd => ?_⟩
    ·rw [aeM g0 (dG.1 p2).1 (notg (kj sO) p1)]; exact p2
    ·obtain ⟨u,u1,u2⟩ := p6 i d hd;exact ⟨u,u1,lj.rep u2⟩
   ·have xU : b = Ha.length := by have := au mz; simp at this; omega
    subst xU;rw [aK (by simp)] at mz;simp at mz;subst mz;refine ⟨g',arr'.size,arr',e',?_,VW,rfl,?_,?_,fun i d hd => ?_⟩
    ·rw [aK (by simp; omega)]; simp [hlen]
    ·rw [hfl];exact GI (bD k fD) kM
    ·intro hX;rcases ze with q | q
     ·obtain ⟨sz,jK⟩ := h1 _ q;cases hb : Ha[n]? with
      | none =>
        have := au jK;rw [List.getElem?_eq_none_iff] at hb;omega
      | some z =>
        cases z with
        | none => have := h.dead n hb; rw [this] at jK; cases jK
        | some cs =>
          obtain ⟨g0,wv,WB,e0,p1,p2,p3,p4,p5,p6⟩ := h.live n cs hb;rw [p1] at jK;cases jK;exact p5 hX
     ·have := h.Df _ hX; omega
    ·obtain ⟨u,u1,u2⟩ := fQ i d hd;exact ⟨u,u1,(u2.mono (fun a u h => hT _ _ a u h) (.refl _)).E4 _⟩
  ·by_cases bO : b < Ha.length
   ·rw [aq (by simpa using bO)] at mz;rw [aq (by simp; omega)];rw [bg] at mz ⊢;by_cases e : n = b
    ·subst e; simp [show n < φ.length by omega]
    ·rw [if_neg e] at mz ⊢; exact h.dead b mz
   ·have xU : b = Ha.length := by have := au mz; simp at this; omega
    subst xU;rw [aK (by simp)] at mz;simp at mz
  ·have new : ∀ (b g0 wv : Nat),(φ.set n none ++ [some (g',arr'.size)])[b]? = some (some (g0,wv)) -> (b < φ.length /\ φ[b]? = some (some (g0,wv)) /\ b ≠ n /\ g0 < w.heap.size) \/ (b = φ.length /\ g0 = g') := by
    intro b g0 wv hb;by_cases bO : b < φ.length
    ·rw [aq (by simpa using bO)] at hb;obtain ⟨q1,q2⟩ := sub hb;exact .inl ⟨bO,q1,q2,(h.gn ⟨b,wv,q1⟩).1⟩
    ·have im := au hb;simp at im;have xU : b = φ.length := by omega
     subst xU;rw [aK (by simp)] at hb;simp at hb;exact .inr ⟨rfl,hb.1.symm⟩
   have mix : ∀ {b wv},φ[b]? = some (some (g',wv)) -> b ≠ n -> g' < w.heap.size -> False := fun {b wv} q hb bO => by
    rcases ze with e | e
    ·exact notg hb q e
    ·omega
   rcases new b g0 wv e1 with ⟨l1,q1,d1,g1⟩ | ⟨l1,g1⟩ <;> rcases new b' g0 sz1 e2 with ⟨l2,q2,d2,g2⟩ | ⟨l2,g2⟩
   ·exact h.inj b b' g0 wv sz1 q1 q2
   ·subst g2; exact (mix q1 d1 g1).elim
   ·subst g1; exact (mix q2 d2 g2).elim
   ·omega
 ·refine .sl _ _ _ _ _ _ _ (by simp [hlen]) fD fun g0 wv e0 => ?_;rw [aK (by simp; omega)] at e0;simp [hlen] at e0;obtain ⟨rfl,rfl⟩ := e0;exact ⟨haa,by omega⟩
theorem eV.KW {X : Nat -> Prop} {φ j5 : dF} {w w1 : World} {N : Names} {s : St} {Ha Ha' : Heap} {t : Nat -> Value} (h : eV X φ w N s Ha t) {p : Rt} {kp : Nat} {xs : List AV} (hp : az s p = some (kp,xs)) (ad : fo φ w j5 w1) (hh : cJ X j5 w1 Ha') {n : Nat} (hn : N.ν p = some n \/ φ.length <= n) (jD : ∀ m,m ≠ n -> m < Ha.length -> aJ Ha' m = aJ Ha m) : eV X j5 w1 N (setAt (bP (sw p) s) p .any) Ha' t := by
 have AL : (az s p).isSome := by rw [hp]; rfl
 obtain ⟨d1,d2,d3⟩ := h.drop hp;have hlen := h.heap.len;refine d1.lj ad hh (fun q k' zs e => ?_) (fun b CZ => ?_)
 ·have e' := e;rw [d2] at e';split at e'
  ·cases e'
  rename_i lY;refine (d1.own q k' zs e).same fun m hmq => ?_;have hml := h.gn (by rw [e']; rfl) hmq;refine jD m ?_ hml;rintro rfl;rcases hn with hn | hn
  ·exact lY (h.inj q p m (by rw [e']; rfl) AL hmq hn)
  ·omega
 ·have G3 : (aJ s.H b).isSome := by
   cases e : aJ s.H b with
   | none => rw [d3.An b e] at CZ; cases CZ
   | some _ => rfl
  have hml := h.oX G3;refine jD _ ?_ hml;intro e;rcases hn with hn | hn
  ·exact h.bx b p G3 AL (by rw [hn,e])
  ·omega
theorem ab4 {X : Nat -> Prop} {φ : dF} {w : World} {B : Nat -> Nat} {base : Nat} {N : Names} {s : St} {Ha : Heap} {t : Nat -> Value} (h : eV X φ w N s Ha t) (hb : (∀ b,b < base -> N.β b = B b) /\ base <= s.H.length) {p : Rt} {kp : Nat} {xs ys : List AV} (hp : az s p = some (kp,xs)) {k : Nat} {T : Nat -> Nat -> Addr -> Value -> Prop} {n : Nat} {og : Option Nat} (h1 : ∀ g,og = some g -> ∃ sz,φ[n]? = some (some (g,sz))) (h2 : og = none -> φ.length <= n) (hn : N.ν p = some n \/ φ.length <= n) (La : (∀ y ∈ ys,y.cells.length = k) /\ ∀ y ∈ ys,∀ d ∈ y.cells,fz d = true) {e : Ending} {w1 : World} (zd : K2 T w og k ys e w1 \/ (og = none /\ ys = [] /\ e = .returned (.slice none 0 0) /\ fo [] w [] w1)) (hT : ∀ g' sz a u,T g' sz a u -> Rd X (φ.set n none ++ [some (g',sz)]) w1 a u) :
  ∃ v',e = .returned v' /\ ∃ j5,dY X j5 w1 B base (setAt (bP (sw p) s) p .any) (.own k ys) t v' /\ fo φ w j5 w1 := by
  have AL : (az s p).isSome := by rw [hp]; rfl
  obtain ⟨d1,d2,d3⟩ := h.drop hp;have pg : (∀ b,b < base -> N.β b = B b) /\ base <= (setAt (bP (sw p) s) p .any).H.length := ⟨hb.1,by rw [d3.len]; exact hb.2⟩;have hlen := h.heap.len;rcases zd with zd | QT
  case inr =>
   obtain ⟨_,rfl,rfl,ad⟩ := QT;have fZ : eV X φ w1 N (setAt (bP (sw p) s) p .any) Ha t := d1.lj (.of_same ad) (h.heap.of_same ad) d1.own (fun _ _ => rfl);refine ⟨_,rfl,φ,dY.quiet fZ pg ?_ ?_ ?_,.of_same ad⟩
   ·trivial
   ·trivial
   ·simp only [td]; exact .dJ _
  obtain ⟨j5,v',rfl,hh,ad,rv⟩ := aaC h.heap h1 h2 La.1 zd hT;refine ⟨v',rfl,j5,?_,ad⟩
  have jD : ∀ m,m ≠ n -> m < Ha.length -> aJ (Ha.set n none ++ [some (aA ys)]) m = aJ Ha m := fun m B6 bO => by
   rw [iE,if_neg (by simp; omega)];unfold aJ; rw [cP (kj B6)]
  have fZ : eV X j5 w1 N (setAt (bP (sw p) s) p .any) (Ha.set n none ++ [some (aA ys)]) t := h.KW hp ad hh hn jD;refine dY.fresh fZ pg (n := Ha.length) ⟨aA ys,by rw [iE,if_pos (by simp)],by rw [gC La.1]; exact aT _,La.1,fun i d hd => ?_⟩ (fun q hq e => ?_) (fun b CZ e => ?_) rv
  ·obtain ⟨y,hy,Ub⟩ := jg (aR hd);have hfd := La.2 y hy d Ub;exact ⟨hfd,d,hd,(iC hfd).2,Le.refl _⟩
  ·have hq' : (az s q).isSome := by
    rw [d2] at hq;split at hq
    ·cases hq
    ·exact hq
   have := h.gn hq' e;omega
  ·have G3 : (aJ s.H b).isSome := by
    cases e : aJ s.H b with
    | none => rw [d3.An b e] at CZ; cases CZ
    | some _ => rfl
   have := h.oX G3;omega
theorem agP (dy : fm P c) (heat : aeW P c) {X : Nat -> Prop} {φ : dF} {w : World} {B : Nat -> Nat} {base : Nat} {s s1 : St} {o : Oper} {a : Act} {f : Nat} {x : E} {es : List E} {v : AV} {fq : Fq} (hk : dm P o.op (kY (.call f (x :: es))) = true) (h : SB X φ w B base s (tm a)) (hg : Am.ek (iq c) X φ w) {g : Nat -> List AV -> List AV -> Option (List AV)} (Ib : c.eat f = some g) (hs : G5 s g (bn c s.env x) (dq c s.env es) = some (v,s1,fq)) : k8 P X φ w B base s1 v o a := by
 unfold G5 at hs;split at hs
 case h_2 => cases hs
 rename_i k p len hx;split at hs
 case h_2 => cases hs
 rename_i k' xs hp;split at hs
 case isFalse => cases hs
 rename_i hc;obtain ⟨rfl,rfl,xT⟩ := hc;split at hs
 case h_2 => cases hs
 rename_i es' Cw;split at hs
 case h_2 => cases hs
 rename_i ys B8;simp only [ah,aF] at hs;obtain ⟨rfl,rfl,_⟩ := hs;obtain ⟨⟨md,q,hf⟩,hE⟩ := heat f g Ib;obtain ⟨N,Ha,h,hb⟩ := h;obtain ⟨vargs,jw,hA,sY⟩ := kH (kd := .call f (x :: es)) (args := bn c s.env x :: dq c s.env es) dy h hg hk rfl hf;rw [hx] at hA sY;have hl : (dq c s.env es).length + 1 = vargs.size := by have := hA.1; simpa using this
 obtain ⟨v0,CV⟩ := cv (l := vargs) (i := 0) (by omega);have r0 := hA.2 0 _ v0 rfl CV;have AL : (az s p).isSome := by rw [hp]; rfl
 have eQ := h.own p k' xs hp;have fin : ∀ (n : Nat) (og : Option Nat),(∀ g,og = some g -> ∃ sz,φ[n]? = some (some (g,sz))) -> (og = none -> φ.length <= n) -> (N.ν p = some n \/ φ.length <= n) -> ((∀ y ∈ ys,y.cells.length = k') /\ ∀ y ∈ ys,∀ d ∈ y.cells,fz d = true) -> ∀ {e : Ending} {w1 : World},zC w og k' ys e w1 -> ∃ v',e = .returned v' /\ ∃ j5,dY X j5 w1 B base (setAt (bP (sw p) s) p .any) (.own k' ys) (tm a) v' /\ fo φ w j5 w1 := fun n og h1 h2 hn La e w1 zd => ab4 h hb hp h1 h2 hn La zd fun _ _ _ _ h => h.elim;cases hn : N.ν p with
 | none =>
   rw [hn] at eQ;have hxs : xs = [] := eQ;subst hxs;obtain ⟨La,j2,_⟩ := hE k' _ _ ys B8 (fun y hy => by simp at hy) (fun y hy => by simp at hy);obtain ⟨el,er⟩ := FG h (p := p) (og := none) (fun _ _ _ h _ => by cases h) (fun _ h => by cases h) AL Cw sY.2;simp only [fM,cW,hn] at r0;have hv0' : v0 = .slice none 0 0 := by cases r0; rfl
   have iS := j2 rfl w vargs (by rw [el]; exact hl) (by rw [CV,hv0']) (fun i e u he hu => by
    obtain ⟨x',AJ⟩ := aV (l := dq c s.env es) (i := i) (by have := au he; omega);exact er i x' e u AJ he (hA.2 (i + 1) x' u (by simpa using AJ) hu))
   intro K Q hK;unfold Oper.wp;rw [jw,Oper.upon_enter];refine iS.mono ?_;intro e w1 zd;obtain ⟨v',rfl,j5,xQ,ad⟩ := fin φ.length none (fun _ h => by cases h) (fun _ => aT _) (.inr (aT _)) La zd;exact hK v' w1 j5 xQ ad
 | some n =>
   rw [hn] at eQ;obtain ⟨g2,sz2,AH,hX2,hc3⟩ := nD h.heap eQ;obtain ⟨cs,c1,c2,c3,c4⟩ := eQ;obtain ⟨g3,sz,arr,te,b1,b2,b3,b4,b5,b6⟩ := h.heap.at c1;rw [AH] at b1;cases b1
   have AP : ∀ y ∈ xs,∀ d ∈ y.cells,fz d = true := by
    intro y hy d hd;obtain ⟨i,hi⟩ := br hy;obtain ⟨j,hj⟩ := br hd;obtain ⟨_,_,f,_⟩ := hc3 i j y d hi hj;exact f
   obtain ⟨La,_,j3⟩ := hE k' _ _ ys B8 c3 AP
   obtain ⟨el,er⟩ := FG h (p := p) (og := some g2) (fun g n' lk e jK => by
    cases e;have := h.heap.inj n' n g2 lk sz2 jK AH;rw [hn,this]) (fun g e => by cases e; exact ⟨n,sz2,AH⟩) AL Cw sY.2
   simp only [fM,cW,hn,fY] at r0;generalize hvv : v0 = vv at r0;cases r0 with
   | sl _ _ _ _ _ ad cap im fD hh =>
     obtain ⟨KF,ha2⟩ := hh g2 sz2 AH;subst hvv
     have iS := j3 w vargs g2 arr te ad cap b2 (fun i d hd => by
      obtain ⟨f1,a',f2,_,f3⟩ := c4 i d hd;obtain ⟨u,u1,u2⟩ := b6 i a' f2;obtain ⟨y,hy,Ub⟩ := jg (aR hd);exact ⟨u,u1,rH (N := N) (uD (oR xT y hy) d Ub) (iC f1).1 (f3 _ _ _ u2)⟩) (by rw [el]; exact hl) CV KF fD (by rw [b3]; omega) (fun i e u he hu => by
      obtain ⟨x',AJ⟩ := aV (l := dq c s.env es) (i := i) (by have := au he; omega);exact er i x' e u AJ he (hA.2 (i + 1) x' u (by simpa using AJ) hu))
     intro K Q hK;unfold Oper.wp;rw [jw,Oper.upon_enter];refine iS.mono ?_;intro e w1 zd;obtain ⟨v',rfl,j5,xQ,ad'⟩ := fin n (some g2) (fun g e => by cases e; exact ⟨sz2,AH⟩) (fun e => by cases e) (.inl hn) La zd;exact hK v' w1 j5 xQ ad'
mutual
theorem Qt : ∀ x,pl x = true -> aN x = []
 | .dA _ _ _ _,h => by simp [pl] at h
 | .eW _ _ _ _,h => by simp [pl] at h
 | .agg cs,h => by simp only [pl] at h; simp only [aN]; exact vd cs h
 | .dD cs,h => by simp only [pl] at h; simp only [aN]; exact vd cs h
 | .func _ a b,h => by simp only [pl,aa] at h; simp only [aN,vd a h.1,vd b h.2,jS]
 | .any,_ => rfl | .undef,_ => rfl | .fk,_ => rfl | .fu,_ => rfl | .dJ,_ => rfl
 | .int _ _,_ => rfl | .bool _,_ => rfl | .str _,_ => rfl | .list _ _,_ => rfl | .dI _,_ => rfl | .ptr _ _,_ => rfl | .sl _ _ _ _,_ => rfl | .own _ _,_ => rfl
theorem vd : ∀ xs,dK xs = true -> df xs = []
 | [],_ => rfl
 | x :: r,h => by simp only [dK,aa] at h; simp only [df,Qt x h.1,vd r h.2,jS]
end
theorem Z9 {s s1 : St} {f : Nat} {x : AV} {es : List AV} {v : AV} {fl : Fq} (h : Vy c call s f es x = some (v,s1,fl)) : ∃ b md q cs cs',x = .ptr b 0 /\ c.fn f = some (md,q) /\ aJ s.H b = some cs /\ (md.sh = true /\ dK es = true /\ dK cs = true) /\ call f (.ptr 0 0 :: es) [some cs] = some (v,[some cs']) /\ (pl v = true /\ dK cs' = true) /\ s1 = ⟨s.env,s.H.set b (some cs')⟩ /\ fl = .lw b := by
 unfold Vy at h;split at h
 case h_2 => cases h
 rename_i b;split at h
 case h_2 => cases h
 rename_i md q cs hf hb;split at h
 case isFalse => cases h
 rename_i hp;split at h
 case h_2 => cases h
 rename_i r cs' hc;split at h
 case isFalse => cases h
 rename_i hr;simp only [ah,aF] at h;obtain ⟨rfl,rfl,rfl⟩ := h;exact ⟨b,md,q,cs,cs',rfl,hf,hb,hp,hc,hr,rfl,rfl⟩
theorem ua {s s1 : St} {kd : Kd} {v : AV} {fl : Fq} (h : lq c call s kd = some (some (v,s1,fl))) : ∃ f x es b md q cs cs',kd = .call f (x :: es) /\ c.loc f = true /\ bn c s.env x = .ptr b 0 /\ c.fn f = some (md,q) /\ aJ s.H b = some cs /\ (md.sh = true /\ dK (dq c s.env es) = true /\ dK cs = true) /\ call f (.ptr 0 0 :: dq c s.env es) [some cs] = some (v,[some cs']) /\ (pl v = true /\ dK cs' = true) /\ s1 = ⟨s.env,s.H.set b (some cs')⟩ /\ fl = .lw b := by
 unfold lq at h;split at h
 case h_2 => cases h
 rename_i f x es;split at h
 case isFalse => cases h
 rename_i hl;simp only [ah] at h;obtain ⟨b,md,q,cs,cs',h1,h2,h3,h4,h5,h6,h7,h8⟩ := Z9 h;exact ⟨f,x,es,b,md,q,cs,cs',rfl,hl,h1,h2,h3,h4,h5,h6,h7,h8⟩
theorem CT {s s1 : St} {kd : Kd} {v : AV} {f : Fq} (h : lq c call s kd = some (some (v,s1,f))) : ∃ b,f = .lw b := by
 obtain ⟨_,_,_,b,_,_,_,_,_,_,_,_,_,_,_,_,_,e⟩ := ua h;exact ⟨b,e⟩
theorem Ag {e : Env} {H : Heap} {d j : Nat} (hp : ∀ cs,aJ H d = some cs -> dK cs = true) : az ⟨e,H⟩ (.c d j) = none := by
 cases ho : az ⟨e,H⟩ (.c d j) with
 | none => rfl
 | some y =>
   obtain ⟨k,xs⟩ := y;have h1 := cH.1 ho;simp only [at_] at h1;split at h1
   ·rename_i ds hd;have := gh (hp ds hd) j _ h1;simp [pl] at this
   ·cases h1
theorem qf (N : Names) (p : Rt) {z : AV} (hz : pl z = true) : iH N p z = z := by
 cases z <;> first | exact j8 N _ hz | (simp [pl] at hz; done)
theorem UR (N : Names) {z : AV} (hz : pl z = true) : fM N z = z := by
 cases z <;> first | exact j8 N _ hz | (simp [pl] at hz; done)
theorem eV.Xr {X : Nat -> Prop} {φ j5 : dF} {w w1 : World} {N : Names} {s : St} {Ha Ha' : Heap} {t : Nat -> Value} (h : eV X φ w N s Ha t) {b : Nat} {cs cs' : List AV} (hb : aJ s.H b = some cs) (T4 : dK cs = true) (QR : dK cs' = true) (ad : fo φ w j5 w1) (hh : cJ X j5 w1 Ha') (hset : aJ Ha' (N.β b) = some cs') (AM : ∀ m,m ≠ N.β b -> aJ Ha' m = aJ Ha m) : eV X j5 w1 N ⟨s.env,s.H.set b (some cs')⟩ Ha' t := by
 have hoa : ∀ p,az ⟨s.env,s.H.set b (some cs')⟩ p = az s p := by
  intro p;cases p with
  | s i => rfl
  | sc i j => rfl
  | c d j =>
    by_cases e : d = b
    ·subst e;rw [Ag (e := s.env) (H := s.H.set d (some cs')) (d := d) (j := j) fun ds hd => by rw [dO,if_pos ⟨rfl,eL hb⟩] at hd; cases hd; exact QR];exact (Ag (e := s.env) (H := s.H) (d := d) (j := j) fun ds hd => by rw [hb] at hd; cases hd; exact T4).symm
    ·simp only [az,at_];rw [dO,if_neg (fun h => e h.1)]
 have hfe : az ⟨s.env,s.H.set b (some cs')⟩ = az s := funext hoa;have hlen : (s.H.set b (some cs')).length = s.H.length := by simp
 have hblk : ∀ d ds,aJ (s.H.set b (some cs')) d = some ds -> (d = b /\ ds = cs') \/ (d ≠ b /\ aJ s.H d = some ds) := by
  intro d ds e;by_cases e2 : d = b
  ·subst e2;rw [dO,if_pos ⟨rfl,eL hb⟩] at e;cases e;exact .inl ⟨rfl,rfl⟩
  ·rw [dO,if_neg (fun h => e2 h.1)] at e;exact .inr ⟨e2,e⟩
 have aan : ∀ d,(aJ (s.H.set b (some cs')) d).isSome -> (aJ s.H d).isSome := by
  intro d e;obtain ⟨ds,hd⟩ := aW.1 e;rcases hblk d ds hd with ⟨rfl,_⟩ | ⟨_,h2⟩
  ·rw [hb]; rfl
  ·rw [h2]; rfl
 have G3 : (aJ s.H b).isSome := by rw [hb]; rfl
 refine ⟨fun i => ad.rep (h.env i),fun i => ?_,hh,fun p k xs e => ?_,fun d ds e => ?_,fun p q n e1 e2 => ?_,fun d p e1 e2 => ?_,fun d e0 e1 e2 e3 => ?_⟩
 ·rw [hfe];show cZ _ (s.H.set b (some cs')).length _;rw [hlen]; exact h.GQ i
 ·rw [hoa] at e;have ho := h.own p k xs e;cases hn : N.ν p with
  | none => rw [hn] at ho; exact ho
  | some m =>
    rw [hn] at ho;obtain ⟨ds,d1,d2⟩ := ho;have sO : m ≠ N.β b := fun e2 => h.bx b p G3 (by rw [e]; rfl) (by rw [hn,e2]);exact ⟨ds,by rw [AM _ sO]; exact d1,d2⟩
 ·rcases hblk d ds e with ⟨rfl,rfl⟩ | ⟨hd,AQ⟩
  ·exact ⟨_,hset,rfl,fun j d hd => ⟨vV _ (gh QR j d hd),d,hd,by rw [qf _ _ (gh QR j d hd)]; exact Le.refl _⟩⟩
  ·obtain ⟨as2,x1,x2,x3⟩ := h.box d ds AQ;have sO : N.β d ≠ N.β b := fun h2 => hd (h.bi d b (by rw [AQ]; rfl) G3 h2);refine ⟨as2,by rw [AM _ sO]; exact x1,x2,fun j d' hd' => ?_⟩;obtain ⟨y1,y2⟩ := x3 j d' hd';refine ⟨?_,y2⟩;rw [hfe];show cZ _ (s.H.set b (some cs')).length _;rw [hlen]; exact y1
 ·rw [hoa] at e1 e2; exact h.inj p q n e1 e2
 ·rw [hoa] at e2; exact h.bx d p (aan d e1) e2
 ·exact h.bi d e0 (aan d e1) (aan e0 e2) e3
theorem Qu : ∀ {l : List AV},(∀ y ∈ l,pl y = true) -> dK l = true
 | [],_ => rfl
 | x :: r,h => by simp only [dK,aa]; exact ⟨h x (by simp),Qu fun y hy => h y (by simp [hy])⟩
theorem KI : ∀ {l : List AV},(∀ y ∈ l,y.cells = [y]) -> aA l = l
 | [],_ => rfl
 | x :: r,h => by
   simp only [aA];rw [h x (by simp),KI fun y hy => h y (by simp [hy])];rfl
theorem aat {x : AV} (h : fz x = true) : x.cells = [x] := by
 have := (iC h).2;cases x <;> first | rfl | (simp [AV.leaf] at this; done)
theorem ab9 (dy : fm P c) (mY : aba P c) {X : Nat -> Prop} {φ : dF} {w : World} {B : Nat -> Nat} {base : Nat} {s : St} {o : Oper} {a : Act} {f : Nat} {x : E} {es : List E} {g : Nat -> List AV -> List AV -> Option (List AV × Option Nat)} (hk : dm P o.op (kY (.call f (x :: es))) = true) (h : SB X φ w B base s (tm a)) (hg : Am.ek (iq c) X φ w) (Ib : c.inp f = some g) {k b len : Nat} {cs ys : List AV} {res : Option Nat} (hx : bn c s.env x = .sl k b 0 len) (hb : aJ s.H b = some cs) (hc : k = 1 /\ len <= cs.length /\ Q1 cs = true /\ dK (dq c s.env es) = true) (B8 : g k (cs.take len) (dq c s.env es) = some (ys,res)) : k8 P X φ w B base ⟨s.env,s.H.set b (some (aA ys ++ cs.drop len))⟩ (Ky k b res) o a := by
 obtain ⟨rfl,hle,AP,qO⟩ := hc;obtain ⟨⟨md,q,hf⟩,hI⟩ := mY f g Ib;obtain ⟨N,Ha,h,CZ⟩ := h;obtain ⟨vargs,jw,hA,sY⟩ := kH (kd := .call f (x :: es)) (args := bn c s.env x :: dq c s.env es) dy h hg hk rfl hf;rw [hx] at hA sY;have hl : (dq c s.env es).length + 1 = vargs.size := by have := hA.1; simpa using this
 obtain ⟨v0,CV⟩ := cv (l := vargs) (i := 0) (by omega);have r0 := hA.2 0 _ v0 rfl CV
 have Cw : ∀ (i : Nat) (e : AV) (u : Value),(dq c s.env es)[i]? = some e -> vargs[i + 1]? = some u -> bI (Rd X φ w) [] e u := fun i e u he hu => by
  have r1 := hA.2 (i + 1) e u (by simpa using he) hu;have GC := gh qO i e he;have ht : fM N e = e := by cases e <;> first | exact j8 N _ GC | (simp [pl] at GC; done)
  rw [ht] at r1;exact r1.dU (gU _ GC) []
 simp only [fM,cW] at r0;obtain ⟨as,b1,b2,b3⟩ := h.box b cs hb;have hce : ∀ y ∈ cs,y.cells = [y] := fun y hy => aat (jO AP y hy);have T4 : dK cs = true := Qu fun y hy => (iC (jO AP y hy)).1
 have hH1 : cJ X φ w (Ha.set (N.β b) (some cs)) := less h.heap b1 (by omega) fun i d hd => by
  obtain ⟨_,a',a1,a2⟩ := b3 i d hd;rw [qf N _ (gh T4 i d hd)] at a2;exact ⟨a',a1,a2⟩
 have htd : aA (cs.take len ++ cs.drop len) = cs := by rw [PF]; exact KI hce
 have bO : (cs.take len).length = len := by rw [bh]; omega
 obtain ⟨⟨⟨j1,j2⟩,j3,j4⟩,_,j6⟩ := hI 1 _ _ ys res B8 (fun y hy => by rw [hce y (cD hy)]; rfl) (fun y hy d hd => by
  have H8 := cD hy;rw [hce y H8] at hd;simp at hd;subst hd;exact jO AP d H8)
 have iS := j6 X φ w (Ha.set (N.β b) (some cs)) (N.β b) (cs.drop len) vargs v0 hH1 (by rw [htd,dO,if_pos ⟨rfl,eL b1⟩]) hl CV (by rw [bO]; exact r0) Cw;intro K Q hK;unfold Oper.wp;rw [jw,Oper.upon_enter];refine iS.mono ?_;rintro e w1 ⟨v',j5,rfl,rv,hh,ad⟩;rw [vK,pW,KI (l := cs.drop len) fun y hy => hce y (cF hy)] at hh
 have hpn : dK (aA ys ++ cs.drop len) = true := Qu fun y hy => by
  rcases aC.1 hy with hy | hy
  ·obtain ⟨z,hz,hd⟩ := jg hy;exact (iC (j3 z hz y hd)).1
  ·exact (iC (jO AP y (cF hy))).1
 have fZ := h.Xr (cs' := aA ys ++ cs.drop len) hb T4 hpn ad hh (by rw [dO,if_pos ⟨rfl,eL b1⟩]) fun m hm => by rw [dO,if_neg (fun h => hm h.1)]
 refine hK v' w1 j5 (dY.quiet fZ ⟨CZ.1,by simpa using CZ.2⟩ ?_ ?_ ?_) ad
 ·cases res with
  | none => trivial
  | some m =>
    show b < (s.H.set b _).length;rw [dw]; exact eL hb
 ·cases res <;> trivial
 ·cases res with
  | none => simpa [Ky,td,cW,kt] using rv
  | some m => simpa [Ky,td,cW] using rv
theorem agL (dy : fm P c) (mY : zB P c) {X : Nat -> Prop} {φ : dF} {w : World} {B : Nat -> Nat} {base : Nat} {s s1 : St} {o : Oper} {a : Act} {kd : Kd} {v : AV} {fq : Fq} (hk : dm P o.op (kY kd) = true) (h : SB X φ w B base s (tm a)) (hg : Am.ek (iq c) X φ w) (hs : mw c s kd = some (some (v,s1,fq))) : k8 P X φ w B base s1 v o a := by
 unfold mw at hs;split at hs
 case h_2 => cases hs
 rename_i f x es;split at hs
 case h_1 =>
  split at hs
  ·cases hs
  ·rename_i g Ib;simp only [ah] at hs;exact agP dy mY.2 hk h hg Ib hs
 replace mY := mY.1;rename_i g Ib;simp only [ah] at hs;split at hs
 case h_4 => cases hs
 case h_3 =>
  rename_i k b len hx;split at hs
  case h_2 => cases hs
  rename_i cs hb;split at hs
  case isFalse => cases hs
  rename_i hc;split at hs
  case h_2 => cases hs
  rename_i ys res B8;simp only [ah,aF] at hs;obtain ⟨rfl,rfl,_⟩ := hs;exact ab9 dy mY hk h hg Ib hx hb hc B8
 ·rename_i k hx;split at hs
  case isFalse => cases hs
  rename_i qO;split at hs
  case h_2 => cases hs
  rename_i ys res B8;simp only [ah,aF] at hs;obtain ⟨rfl,rfl,_⟩ := hs;obtain ⟨⟨md,q,hf⟩,hI⟩ := mY f g Ib;obtain ⟨N,Ha,h,hb⟩ := h;obtain ⟨vargs,jw,hA,sY⟩ := kH (kd := .call f (x :: es)) (args := bn c s.env x :: dq c s.env es) dy h hg hk rfl hf;rw [hx] at hA sY;have hl : (dq c s.env es).length + 1 = vargs.size := by have := hA.1; simpa using this
  obtain ⟨v0,CV⟩ := cv (l := vargs) (i := 0) (by omega);have r0 := hA.2 0 _ v0 rfl CV
  have Cw : ∀ (i : Nat) (e : AV) (u : Value),(dq c s.env es)[i]? = some e -> vargs[i + 1]? = some u -> bI (Rd X φ w) [] e u := fun i e u he hu => by
   have r1 := hA.2 (i + 1) e u (by simpa using he) hu;have GC := gh qO i e he;have ht : fM N e = e := by cases e <;> first | exact j8 N _ GC | (simp [pl] at GC; done)
   rw [ht] at r1;exact r1.dU (gU _ GC) []
  obtain ⟨_,j3,_⟩ := hI k _ _ ys res B8 (fun y hy => by simp at hy) (fun y hy => by simp at hy);simp only [fM,cW] at r0;have iS := j3 rfl X φ w vargs v0 _ (.inr rfl) hl CV r0 Cw;intro K Q hK;unfold Oper.wp;rw [jw,Oper.upon_enter];refine iS.mono ?_;rintro e w1 ⟨v',rfl,rv,ad⟩;have fZ : eV X φ w1 N s Ha (tm a) := h.lj (.of_same ad) (h.heap.of_same ad) h.own (fun _ _ => rfl);refine hK v' w1 φ (dY.quiet fZ hb ?_ ?_ ?_) (.of_same ad)
  ·cases res <;> trivial
  ·cases res <;> trivial
  ·cases res with
   | none => simpa [inpL,td,cW,kt] using rv
   | some m => simpa [inpL,td,cW] using rv
 rename_i k p len hx;split at hs
 case h_2 => cases hs
 rename_i k' xs hp;split at hs
 case isFalse => cases hs
 rename_i hc;obtain ⟨rfl,hle,qO⟩ := hc;split at hs
 case h_2 => cases hs
 rename_i ys res B8;simp only [ah,aF] at hs;obtain ⟨rfl,rfl,_⟩ := hs;obtain ⟨⟨md,q,hf⟩,hI⟩ := mY f g Ib;obtain ⟨N,Ha,h,hb⟩ := h;obtain ⟨vargs,jw,hA,sY⟩ := kH (kd := .call f (x :: es)) (args := bn c s.env x :: dq c s.env es) dy h hg hk rfl hf;rw [hx] at hA sY;have hl : (dq c s.env es).length + 1 = vargs.size := by have := hA.1; simpa using this
 obtain ⟨v0,CV⟩ := cv (l := vargs) (i := 0) (by omega);have r0 := hA.2 0 _ v0 rfl CV
 have Cw : ∀ (i : Nat) (e : AV) (u : Value),(dq c s.env es)[i]? = some e -> vargs[i + 1]? = some u -> bI (Rd X φ w) [] e u := fun i e u he hu => by
  have r1 := hA.2 (i + 1) e u (by simpa using he) hu;have GC := gh qO i e he;have ht : fM N e = e := by cases e <;> first | exact j8 N _ GC | (simp [pl] at GC; done)
  rw [ht] at r1;exact r1.dU (gU _ GC) []
 have eQ := h.own p k' xs hp;cases hn : N.ν p with
 | none =>
   rw [hn] at eQ;have hxs : xs = [] := eQ;subst hxs;have h0 : len = 0 := by simpa using hle
   subst h0;obtain ⟨⟨⟨j1,_⟩,_,j2⟩,j3,_⟩ := hI k' _ _ ys res B8 (fun y hy => by simp at hy) (fun y hy => by simp at hy);have La : ys = [] := by simpa using j1
   subst La;simp only [fM,cW,hn] at r0;have iS := j3 (by simp) X φ w vargs v0 _ (.inl rfl) hl CV r0 Cw;intro K Q hK;unfold Oper.wp;rw [jw,Oper.upon_enter];refine iS.mono ?_;rintro e w1 ⟨v',rfl,rv,ad⟩;obtain ⟨se,sH⟩ := PT (s := s) (p := p) (v := .own k' []) (cH.1 hp);have fZ : eV X φ w1 N (setAt s p (.own k' ([] ++ ([] : List AV).drop 0))) Ha (tm a) := (h.lj (.of_same ad) (h.heap.of_same ad) h.own (fun _ _ => rfl)).ext se sH;refine hK v' w1 φ (dY.quiet fZ ⟨hb.1,by show base <= (setAt s p (.own k' [])).H.length; rw [sH]; exact hb.2⟩ ?_ ?_ ?_) (.of_same ad)
   ·cases res with
    | none => trivial
    | some m =>
      have := j2 m rfl;simp at this;subst this
      exact ⟨[],by
       show az (setAt s p (.own k' [])) p = _;rw [HP se sH]; exact hp,by simp⟩
   ·cases res <;> trivial
   ·cases res with
    | none => simpa [VI,td,cW,kt] using rv
    | some m => simpa [VI,td,cW,hn] using rv
 | some n =>
   rw [hn] at eQ;obtain ⟨cs,c1,c2,c3,c4⟩ := eQ;have hxs : xs.take len ++ xs.drop len = xs := PF len xs
   have AP : ∀ y ∈ xs,∀ d ∈ y.cells,fz d = true := by
    intro y hy d hd
    have : d ∈ aA xs := by
     clear c1 c2 c3 c4 B8 hp hle hxs hA r0 sY hx CV Cw
     induction xs with
     | nil => simp at hy
     | cons z r ih =>
       simp only [aA,aC];rcases aU.1 hy with e | e
       ·subst e; exact .inl hd
       ·exact .inr (ih e)
    obtain ⟨i,hi⟩ := br this;exact (c4 i d hi).1
   obtain ⟨⟨⟨j1,j2⟩,j3,j4⟩,_,j6⟩ := hI k' _ _ ys res B8 (fun y hy => c3 y (cD hy)) (fun y hy => AP y (cD hy));have bO : (xs.take len).length = len := by simp; omega
   rw [bO] at j1
   have hH1 : cJ X φ w (Ha.set n (some (aA xs))) := less h.heap c1 (by rw [gC c3]; exact c2) fun i d hd => by
    obtain ⟨_,a',b1,_,b2⟩ := c4 i d hd;exact ⟨a',b1,b2⟩
   simp only [fM,cW,hn,fY] at r0;have iS := j6 X φ w (Ha.set n (some (aA xs))) n (xs.drop len) vargs v0 hH1 (by rw [hxs,dO,if_pos ⟨rfl,eL c1⟩]) hl CV (by rw [bO]; exact r0) Cw;intro K Q hK;unfold Oper.wp;rw [jw,Oper.upon_enter];refine iS.mono ?_;rintro e w1 ⟨v',j5,rfl,rv,hh,ad⟩;rw [vK] at hh
   have OB : ∀ y ∈ ys ++ xs.drop len,y.cells.length = k' := fun y hy => by
    rcases aC.1 hy with hy | hy
    ·exact j2 y hy
    ·exact c3 y (cF hy)
   have KB : ph (Ha.set n (some (aA (ys ++ xs.drop len)))) (some n) k' (ys ++ xs.drop len) := by
    refine ⟨aA (ys ++ xs.drop len),by rw [dO,if_pos ⟨rfl,eL c1⟩],by rw [gC OB]; exact aT _,OB,fun i d hd => ?_⟩;have hm := jg (aR hd);obtain ⟨y,hy,Ub⟩ := hm
    have hfd : fz d = true := by
     rcases aC.1 hy with hy | hy
     ·exact j3 y hy d Ub
     ·exact AP y (cF hy) d Ub
    exact ⟨hfd,d,hd,(iC hfd).2,Le.refl _⟩
   obtain ⟨fZ,jv⟩ := h.upd (xs' := ys ++ xs.drop len) hp hn (by simp; omega) ad hh KB (fun m B6 => by rw [dO,if_neg (fun e => B6 e.1)])
   have fc : az (setAt s p (.own k' (ys ++ xs.drop len))) p = some (k',ys ++ xs.drop len) := by
    have s9 := cH.1 hp;refine cH.2 ?_;rw [A9 ⟨(fun cs e => by cases e),_,s9,(fun cs e => by cases e)⟩ (EM (by rw [hp]; rfl)),if_pos rfl]
   refine hK v' w1 j5 (dY.quiet fZ ⟨hb.1,by rw [jv.len]; exact hb.2⟩ ?_ ?_ ?_) ad
   ·cases res with
    | none => trivial
    | some m =>
      have := j4 m rfl;refine ⟨_,fc,?_⟩;rw [bX];omega
   ·cases res <;> trivial
   ·cases res with
    | none => simpa [VI,td,cW,kt] using rv
    | some m => simpa [VI,td,cW,hn] using rv
theorem agF (dy : fm P c) (eU : hJ P c call) {X : Nat -> Prop} {φ : dF} {w : World} {B : Nat -> Nat} {base : Nat} {s s1 : St} {o : Oper} {a : Act} {kd : Kd} {v : AV} {fq : Fq} (hk : dm P o.op (kY kd) = true) (h : SB X φ w B base s (tm a)) (hg : Am.ek (iq c) X φ w) (hs : lq c call s kd = some (some (v,s1,fq))) : k8 P X φ w B base s1 v o a := by
 obtain ⟨f,x,es,b,md,q,cs,cs',rfl,hl,hx,hf,hb,⟨jv,qO,T4⟩,hc,⟨hpr,QR⟩,rfl,rfl⟩ := ua hs;obtain ⟨N,Ha,h,CZ⟩ := h;obtain ⟨vargs,jw,hA,sY⟩ := kH (kd := .call f (x :: es)) (args := bn c s.env x :: dq c s.env es) dy h hg hk rfl hf;rw [hx] at hA sY;generalize dq c s.env es = as at qO hc hA sY;obtain ⟨bs,b1,b2,b3⟩ := h.box b cs hb;obtain ⟨g,sz,arr,te,g1,g2,g3,g4,g5,g6⟩ := h.heap.at b1;have og : bM φ g := ⟨_,sz,g1⟩
 have ow : ∀ g0,bM [some (g,sz)] g0 -> g0 = g := by
  rintro g0 ⟨i,z,hi⟩;cases i with
  | zero => simp at hi; exact hi.1.symm
  | succ i => simp at hi
 have rdin : ∀ a u,Rd X φ w a u -> Rd (fun g0 => X g0 \/ (bM φ g0 /\ g0 ≠ g)) [some (g,sz)] w a u := fun a u ⟨h1,h2,h3⟩ => ⟨fun h => h.elim h1 (fun h => h2 h.1),fun ho => h2 (by rw [ow _ ho]; exact og),h3⟩
 have hh : cJ (fun g0 => X g0 \/ (bM φ g0 /\ g0 ≠ g)) [some (g,sz)] w [some cs] := by
  refine ⟨rfl,fun g0 h0 => h0.elim (h.heap.Df g0) (fun ho => (h.heap.gn ho.1).1),fun i ds hi => ?_,fun i hi => ?_,fun i i' g0 z z' e1 e2 => ?_⟩
  ·cases i with
   | succ i => simp at hi
   | zero =>
     simp at hi;subst hi;refine ⟨g,sz,arr,te,rfl,g2,g3,by omega,fun h0 => h0.elim g5 (fun h1 => h1.2 rfl),fun j d hd => ?_⟩;obtain ⟨_,a',Li,hle⟩ := b3 j d hd;obtain ⟨u,u1,u2⟩ := g6 j a' Li;have hpd := gh T4 j d hd;rw [qf N _ hpd] at hle;exact ⟨u,u1,((hle _ _ _ u2).dU (gU _ hpd) _).mono rdin (.refl _)⟩
  ·cases i with
   | zero => simp at hi
   | succ i => simp at hi
  ·cases i with
   | succ i => simp at e1
   | zero => cases i' with
     | zero => rfl
     | succ i' => simp at e2
 have CX : ∀ i,get (ei 0 (AV.ptr 0 0 :: as)) i = (AV.ptr 0 0 :: as)[i]?.getD .any := fun i => by rw [qF]; simp
 have aaq : ∀ i,(get (ei 0 (AV.ptr 0 0 :: as)) i = .ptr 0 0 /\ i = 0) \/ pl (get (ei 0 (AV.ptr 0 0 :: as)) i) = true := fun i => by
  rw [CX];cases i with
  | zero => exact .inl ⟨rfl,rfl⟩
  | succ i =>
    refine .inr ?_;simp only [jm];cases e : as[i]? with
    | none => rfl
    | some x => exact gh qO i x e
 have iB : ∀ p,az ⟨ei 0 (AV.ptr 0 0 :: as),[some cs]⟩ p = none := by
  have hw : ∀ i,bN (get (ei 0 (AV.ptr 0 0 :: as)) i) = false := fun i => (aaq i).elim (fun e => by rw [e.1]; rfl) xD;intro p;cases p with
  | s i => exact (eJ (s := ⟨ei 0 (AV.ptr 0 0 :: as),[some cs]⟩) (hw i)).1
  | sc i j => exact (eJ (s := ⟨ei 0 (AV.ptr 0 0 :: as),[some cs]⟩) (hw i)).2 j
  | c d j =>
    refine Ag fun ds hd => ?_;cases d with
    | zero => simp [aJ] at hd; subst hd; exact T4
    | succ d => simp [aJ] at hd
 have kM : as.length + 1 = vargs.size := by simpa using hA.1
 have H9 : SB (fun g0 => X g0 \/ (bM φ g0 /\ g0 ≠ g)) [some (g,sz)] w (fun _ => 0) 1 ⟨ei 0 (AV.ptr 0 0 :: as),[some cs]⟩ (fun i => vargs.getD i undef) := by
  refine ⟨⟨fun _ => 0,fun _ => none⟩,[some cs],⟨fun i => ?_,fun i => ?_,hh,fun p k xs e => ?_,fun d ds e => ?_,fun p q n e1 => ?_,fun d p _ e1 => ?_,fun d e0 e1 e2 _ => ?_⟩,fun b hb => rfl,by simp⟩
  ·show bI _ _ (j9 _ i (get (ei 0 (AV.ptr 0 0 :: as)) i)) _;rcases aaq i with ⟨e,rfl⟩ | hp
   ·rw [e];obtain ⟨v0,CV⟩ := cv (l := vargs) (i := 0) (by omega);have r0 := hA.2 0 _ v0 rfl CV;rw [a8,CV];simp only [fM,cW] at r0;cases r0 with
    | ptr _ _ _ ad im h' =>
      refine .ptr _ _ _ _ (by simp) fun g0 z e => ?_;simp at e;obtain ⟨rfl,rfl⟩ := e;exact h' g sz g1
   ·rw [zJ _ _ hp];cases i with
    | zero => rw [CX] at hp; simp [pl] at hp
    | succ i =>
      rw [CX] at hp ⊢;simp only [jm] at hp ⊢;cases e : as[i]? with
      | none => exact .any _ _
      | some y =>
        rw [e] at hp;simp only [gI] at hp ⊢;obtain ⟨v,hv⟩ := cv (l := vargs) (i := i + 1) (by have := au e; omega);have r0 := hA.2 (i + 1) y v (by simpa using e) hv;rw [UR N hp] at r0;rw [a8,hv];exact (r0.dU (gU _ hp) _).mono rdin (.refl _)
  ·show cZ _ _ (get (ei 0 (AV.ptr 0 0 :: as)) i);rcases aaq i with ⟨e,_⟩ | hp
   ·rw [e]; simp [cZ]
   ·exact vV _ hp
  ·rw [iB] at e; cases e
  ·cases d with
   | succ d => simp [aJ] at e
   | zero =>
     simp [aJ] at e;subst e;exact ⟨cs,rfl,rfl,fun j d hd => ⟨vV _ (gh T4 j d hd),d,hd,by rw [qf _ _ (gh T4 j d hd)]; exact Le.refl _⟩⟩
  ·rw [iB] at e1; cases e1
  ·rw [iB] at e1; cases e1
  ·cases d with
   | succ d => simp [aJ] at e1
   | zero => cases e0 with
     | succ d => simp [aJ] at e2
     | zero => rfl
 have iS := eU f md q hf (AV.ptr 0 0 :: as) [some cs] v [some cs'] (.inl jv) hc (fun _ => by simp [dz,vd _ QR,uL]) _ _ w (fun _ => 0) vargs (by simpa using hA.1) H9 (fun g0 => (hg g0).mono rdin (.refl _));intro K Q hK;unfold Oper.wp;rw [jw,Oper.upon_enter];refine iS.mono ?_;rintro e w1 ⟨v',j5,rfl,⟨N1,H1,fZ,pg,_⟩,ad⟩;obtain ⟨as1,c1,c2,c3⟩ := fZ.box 0 cs' rfl;rw [pg 0 (by simp)] at c1;obtain ⟨g',lk,arr1,te1,k1,k2,k3,k4,k5,k6⟩ := fZ.heap.at c1;have hgg := ad.Tk.HT 0 _ (by simp) k1;simp at hgg;obtain ⟨rfl,rfl⟩ := hgg;have ow2 : bM j5 g := ⟨0,sz,k1⟩;have adK : ∀ a u,Rd (fun g0 => X g0 \/ (bM φ g0 /\ g0 ≠ g)) j5 w1 a u -> Rd X φ w1 a u := fun a u ⟨h1,h2,h3⟩ => ⟨fun h => h1 (.inl h),fun ho => h1 (.inr ⟨ho,fun e => h2 (by rw [e]; exact ow2)⟩),h3⟩;have lj : fo φ w φ w1 := ⟨ad.os,ad.tape,ad.output,ad.drawn,ad.size,fun g0 bO hno' => ⟨(ad.keep g0 bO (fun ho => hno' (by rw [ow _ ho]; exact og))).1,hno'⟩,.refl _⟩
 have hh2 : cJ X φ w1 (Ha.set (N.β b) (some cs')) := by
  refine ⟨by simp [h.heap.len],fun g0 h0 => fj (h.heap.Df g0 h0) ad.size,fun m ds hm => ?_,fun m hm => ?_,h.heap.inj⟩
  ·rw [bg] at hm;split at hm
   ·rename_i e;subst e;split at hm
    ·simp at hm;subst hm;refine ⟨g,sz,arr1,te1,g1,k2,k3,by omega,g5,fun j d hd => ?_⟩;obtain ⟨_,a',Li,hle⟩ := c3 j d hd;obtain ⟨u,u1,u2⟩ := k6 j a' Li;have hpd := gh QR j d hd;rw [qf N1 _ hpd] at hle;exact ⟨u,u1,((hle _ _ _ u2).dU (gU _ hpd) _).mono adK (.refl _)⟩
    ·cases hm
   ·rename_i sO;obtain ⟨g0,wv,WB,e0,p1,p2,p3,p4,p5,p6⟩ := h.heap.live m ds hm;have hg0 : g0 ≠ g := fun e => sO (h.heap.inj _ _ _ _ _ g1 (e ▸ p1));refine ⟨g0,wv,WB,e0,p1,?_,p3,p4,p5,fun j d hd => ?_⟩
    ·rw [(ad.keep g0 (dG.1 p2).1 (fun ho => hg0 (ow _ ho))).1]; exact p2
    ·obtain ⟨u,u1,u2⟩ := p6 j d hd;exact ⟨u,u1,lj.rep u2⟩
  ·rw [bg] at hm;split at hm
   ·split at hm <;> simp at hm
   ·exact h.heap.dead m hm
 have hlen : (s.H.set b (some cs')).length = s.H.length := by simp
 have PR : eV X φ w1 N ⟨s.env,s.H.set b (some cs')⟩ (Ha.set (N.β b) (some cs')) (tm a) := h.Xr hb T4 QR lj hh2 (by rw [dO,if_pos ⟨rfl,eL b1⟩]) fun m hm => by rw [dO,if_neg (fun h => hm h.1)]
 have hno2 := xD hpr;have r0 := fZ.env 0;simp only [Am.get,if_true] at r0;rw [zJ N1 0 hpr] at r0;refine hK v' w1 φ (dY.quiet PR ⟨CZ.1,by show base <= (s.H.set b (some cs')).length; rw [hlen]; exact CZ.2⟩ (vV v hpr) (lZ hno2) ?_) lj;rw [kO N hno2,j8 N _ hpr];exact (r0.dU (gU _ hpr) _).mono adK (.refl _)
theorem agC (dy : fm P c) (eU : hJ P c call) {X : Nat -> Prop} {φ : dF} {w : World} {B : Nat -> Nat} {base : Nat} {s s1 : St} {o : Oper} {a : Act} {v : AV} {fq : Fq} {f i : Nat} {es : List E} (hk : dm P o.op (kY (.call f es)) = true) (h : SB X φ w B base s (tm a)) (hg : Am.ek (iq c) X φ w) (hs : NY c call f i s (dq c s.env es) = some (v,s1,fq)) : k8 P X φ w B base s1 v o a := by unfold NY at hs;cases hs
theorem u5 {s s1 : St} {kd : Kd} {v : AV} {f : Fq} (h : zM c call s kd = some (v,s1,f)) : f = .all /\ aN v = [] := by unfold zM at h;cases h
theorem RQ {s : St} {kd : Kd} {x : AV × St × Fq} (h : zM c call s kd = some x) : ∃ n args H r H',call n args H = some (r,H') /\ ∀ g : Nat -> List AV -> Heap -> Option (AV × Heap),g n args H = some (r,H') -> zM c g s kd = some x := by unfold zM at h;cases h
theorem Xm {s : St} {kd : Kd} {x : AV × St × Fq} (h : zM c call s kd = some x) (g : Nat -> List AV -> Heap -> Option (AV × Heap)) : eh c g kd s = none := by unfold zM at h;cases h
theorem iU {s s1 : St} {kd : Kd} {v : AV} {f : Fq} (h : pD c call kd s = some (v,s1,f)) : eh c call kd s = some (v,s1,f) \/ zM c call s kd = some (v,s1,f) := by
 unfold pD at h;split at h
 ·rename_i x hx;rw [hx];exact .inl h
 ·exact .inr h
theorem oP {s : St} {kd : Kd} {x : AV × St × Fq} (h : eh c call kd s = some x) : pD c call kd s = some x := by
 unfold pD;rw [h]
theorem FK {s : St} {kd : Kd} {x : AV × St × Fq} (h : zM c call s kd = some x) : pD c call kd s = some x := by
 unfold pD;rw [Xm h];exact h
theorem agA (dy : fm P c) (eU : hJ P c call) {X : Nat -> Prop} {φ : dF} {w : World} {B : Nat -> Nat} {base : Nat} {s s1 : St} {o : Oper} {a : Act} {kd : Kd} {v : AV} {fq : Fq} (hk : dm P o.op (kY kd) = true) (h : SB X φ w B base s (tm a)) (hg : Am.ek (iq c) X φ w) (hs : zM c call s kd = some (v,s1,fq)) : k8 P X φ w B base s1 v o a := by unfold zM at hs;cases hs
theorem EW (dy : fm P c) (mY : zB P c) (eU : hJ P c call) (jv : Gv P c call) {X : Nat -> Prop} {φ : dF} {w : World} {B : Nat -> Nat} {base : Nat} {s s1 : St} {o : Oper} {a : Act} {kd : Kd} {v : AV} {fq : Fq} (hk : dm P o.op (kY kd) = true) (h : SB X φ w B base s (tm a)) (hg : Am.ek (iq c) X φ w) (hs : dE c call kd s = some (v,s1,fq)) : k8 P X φ w B base s1 v o a := by
 unfold dE at hs;cases hi : mw c s kd with
 | none =>
   rw [hi] at hs;cases hl : lq c call s kd with
   | none =>
     rw [hl] at hs;simp only [fR] at hs;cases hm : pP c call s kd with
     | none =>
       rw [hm] at hs;rcases iU hs with hs | hs
       ·exact Vm dy eU jv hk h hg hs
       ·exact agA dy eU hk h hg hs
     | some r =>
       rw [hm] at hs;simp only at hs;subst hs;unfold pP at hm;split at hm
       case h_2 => cases hm
       rename_i f es;split at hm
       case h_2 => cases hm
       rename_i i hi;simp only [ah] at hm;obtain ⟨j5,h1,a1⟩ := SB.dV (df ((dq c s.env es).set i .undef)) h;exact k8.ghost a1 (agC dy eU hk h1 (hg.lj a1) hm)
   | some r =>
     rw [hl] at hs;simp only at hs;subst hs;exact agF dy eU hk h hg hl
 | some r =>
   rw [hi] at hs;simp only at hs;subst hs;exact agL dy mY hk h hg hi
theorem aeD (dy : fm P c) (mY : zB P c) (eU : hJ P c call) (jv : Gv P c call) : IU P c call := by
 intro X φ w B base s o a kd v s1 f hk hs h hg;cases hc : kV kd with
 | false => exact agw dy.mixed h hg hk hc hs
 | true =>
   cases kd <;> simp [kV] at hc
   ·simp only [ft] at hs; exact EW dy mY eU jv hk h hg hs
   ·simp only [ft] at hs; exact EW dy mY eU jv hk h hg hs
end
end Go.Bm

/- A call of a function of the program, from a world of which nothing is known but how the arguments read; given what is still to be shown. -/
namespace Go.Bm
open Go.Am
section
variable {P : Program} {c : eG}
theorem PQ (dy : fm P c) (mY : zB P c) (ur : uR P c) (hshc : ∀ call,hJ P c call -> Gv P c call) (hdr : ∀ call,hJ P c call -> Gw P c call) (jv : ∀ n,Pl P c n -> ShOK P c n) (n : Nat) : Pl P c n :=
 Ds (fun call hc => aeD dy mY hc (hshc call hc)) hdr (fun n hs => ID dy ur hs (jv n hs)) n
theorem Ww (dy : fm P c) {call : Nat -> List AV -> Heap -> Option (AV × Heap)} (eU : hJ P c call) {f : Nat} {md : Md} {q : eR} (hf : c.fn f = some (md,q)) (jv : md.sh = false) {args : List AV} (hz : dK args = true) {r : AV} {H' : Heap} (h : call f args [] = some (r,H')) (hr : pl r = true) {w : World} {vargs : Array Value}
  (ha : pY (fun _ => False) [] w args vargs) (hg : Am.ek (iq c) (fun _ => False) [] w) : Calls P f vargs w (fun e w' => ∃ v,e = .returned v /\ bI (Rd (fun _ => False) [] w') [] r v /\ RowKit.Below w.heap.size w w') := by
 have H9 := SB.start (X := fun _ => False) (w := w) (args := args) (vargs := vargs) (fun g hg => hg.elim) hz ha.1 ha.2 (fun _ => 0);refine (eU f md q hf args [] r H' (.inr rfl) h (fun e => by rw [jv] at e; cases e) (fun _ => False) [] w (fun _ => 0) vargs ha.1 H9 hg).mono ?_;rintro e w1 ⟨v',j5,rfl,⟨N1,H1,fZ,_⟩,a1⟩;have r0 := fZ.env 0;simp only [Am.get,if_true] at r0;rw [zJ N1 0 hr] at r0;refine ⟨v',rfl,(r0.dU (gU _ hr) []).mono (fun a u ⟨h1,_,h3⟩ => ⟨h1,bM.nil _,h3⟩) (.refl _),a1.os,a1.tape,a1.output,a1.size,fun k hk => (a1.keep k hk (bM.nil k)).1⟩
end
end Go.Bm

/- Regions that draw their order: it makes no difference, given that two steps whose order is open commute. -/
namespace Go.Bm
open Go.Am
section
variable {P : Program} {c : eG} {call : Nat -> List AV -> Heap -> Option (AV × Heap)} {T : St -> O -> Fq -> St -> Prop}
abbrev WE := Nat × Oper × O × Fq
def Rr (P : Program) (c : eG) (T : St -> O -> Fq -> St -> Prop) : Prop :=
 ∀ X φ w B base N ops s s' (o : Oper) a q f,N <= fg -> KP P N ops o (O2 q) = true -> T s q f s' -> zy X φ w B base s a N -> Am.ek (iq c) X φ w -> ∀ (K : Act -> World -> Prop) (Q : Exit -> Act -> World -> Prop),(∀ a' w' φ',zy X φ' w' B base s' a' N -> fo φ w φ' w' -> K a' w') ->
  if Region.wanted o (yielded ops a.tmps) then o.wp P a w K Q \/ (o.asks P a w /\ LetsOut Q) else K (a.put o.dst WI) w
def Pn (T : St -> O -> Fq -> St -> Prop) : Prop :=
 ∀ s x f s1 y g s2,T s x f s1 -> T s1 y g s2 -> jk x y = true -> iz x f y g = true -> ∃ GM,T s y g GM /\ T GM x f s2
def K1 (T : St -> O -> Fq -> St -> Prop) : List WE -> St -> St -> Prop
 | [],s,sf => s = sf
 | p :: r,s,sf => ∃ s1,T s p.2.2.1 p.2.2.2 s1 /\ K1 T r s1 sf
theorem K1.KS (hC : Pn T) {x : WE} : ∀ {R1 R2 : List WE} {s sf : St},(∀ p ∈ R1,jk p.2.2.1 x.2.2.1 = true /\ iz p.2.2.1 p.2.2.2 x.2.2.1 x.2.2.2 = true) -> K1 T (R1 ++ x :: R2) s sf -> K1 T (x :: (R1 ++ R2)) s sf
 | [],R2,s,sf,_,hr => hr
 | p :: R1,R2,s,sf,h,⟨s1,h1,h2⟩ => by
   obtain ⟨s2,h3,h4⟩ := K1.KS hC (fun q hq => h q (by simp [hq])) h2;obtain ⟨yl,hf⟩ := h p (by simp);obtain ⟨GM,k1,k2⟩ := hC _ _ _ _ _ _ _ h1 h3 yl hf;exact ⟨GM,k1,s2,k2,h4⟩
theorem adr (hT : Rr P c T) (hC : Pn T) {X : Nat -> Prop} {B : Nat -> Nat} {base N : Nat} (hN : N <= fg) {ops : Array Oper} {Q : Exit -> Act -> World -> Prop} {sf : St} :
  ∀ (fuel : Nat) (R : List WE) (gM : Array Bool) (a : Act) (w : World) (φ : dF) (s : St),R.length = fuel -> (∀ i,gM.getD i true = false ↔ ∃ p ∈ R,p.1 = i) -> gM.size = ops.size ->
   Rw ops gM -> (∀ p ∈ R,ops[p.1]? = some p.2.1 /\ KP P N ops p.2.1 (O2 p.2.2.1) = true /\ ∀ e ∈ p.2.1.after,Region.binds .any e = true -> e.on < p.1) ->
   R.Pairwise (fun p q => p.1 < q.1 /\ (Anc ops p.1 q.1 \/ (jk p.2.2.1 q.2.2.1 = true /\ iz p.2.2.1 p.2.2.2 q.2.2.1 q.2.2.2 = true))) -> K1 T R s sf -> zy X φ w B base s a N -> Am.ek (iq c) X φ w ->
   (∀ a' w' φ',zy X φ' w' B base sf a' N -> fo φ w φ' w' -> Q .normal a' w') -> wpAny P .any ops Q fuel gM a w := by
 have fin : ∀ {a : Act} {w : World} {φ : dF} {s : St},K1 T [] s sf -> zy X φ w B base s a N -> (∀ a' w' φ',zy X φ' w' B base sf a' N -> fo φ w φ' w' -> Q .normal a' w') -> Q .normal a w := by
  intro a w φ s hr hs hQ;obtain rfl : s = sf := hr;exact hQ a w φ hs (.refl _ _)
 intro fuel
 induction fuel with
 | zero =>
   intro R gM a w φ s hl hls _ _ _ _ hr hs hg hQ;have hR : R = [] := dn hl;subst hR;refine ⟨?_,fin hr hs hQ⟩;rw [List.eq_nil_iff_forall_not_mem];intro i hi;obtain ⟨h1,_⟩ := mem_ready.1 hi;obtain ⟨p,hp,_⟩ := (hls i).1 h1;cases hp
 | succ fuel ih =>
   intro R gM a w φ s hl hls kM xT AN hpw hr hs hg hQ;refine ⟨fun QT => ?_,fun i hi => ?_⟩
   ·cases R with
    | nil => simp at hl
    | cons p r =>
      exfalso;obtain ⟨h1,h2,h3⟩ := AN p (by simp)
      have : p.1 ∈ Region.ready .any ops gM := by
       refine mem_ready.2 ⟨(hls p.1).2 ⟨p,by simp,rfl⟩,p.2.1,h1,fun e he hb => ?_⟩;have bO := h3 e he hb;cases hv : gM.getD e.on false with
       | true => rfl
       | false =>
         exfalso
         have hlt2 : e.on < gM.size := by
          rw [kM];have := kn h1;omega
         have hv2 : gM.getD e.on true = false := by
          simp [a8,hlt2] at hv ⊢;exact hv
         obtain ⟨q,hq,hq1⟩ := (hls e.on).1 hv2;rcases aU.1 hq with hq | hq
         ·subst hq; omega
         ·have := (IV hpw hq).1;omega
      rw [QT] at this;cases this
   ·obtain ⟨hun,o,ho,jD⟩ := mem_ready.1 hi;obtain ⟨x,hx,hxi⟩ := (hls i).1 hun;subst hxi;obtain ⟨R1,R2,rfl⟩ := List.append_of_mem hx;obtain ⟨h1,h2,h3⟩ := AN x (by simp);rw [h1] at ho;simp at ho;subst ho;have VP := RC.1 hpw
    have aiy : ∀ p ∈ R1,jk p.2.2.1 x.2.2.1 = true /\ iz p.2.2.1 p.2.2.2 x.2.2.1 x.2.2.2 = true := by
     intro p hp;obtain ⟨_,VO⟩ := VP.2.2 p hp x (by simp);rcases VO with hw | hw
     ·exfalso
      have := xT.zr hw x.2.1 h1 fun k hk => by
       obtain ⟨e,he,hb,heq⟩ := xL.1 hk;rw [<- heq]; exact jD e he hb
      have hf := (hls p.1).2 ⟨p,by simp [hp],rfl⟩
      have bO : p.1 < gM.size := by
       rw [kM];exact kn (AN p (by simp [hp])).1
      simp [a8,bO] at this hf;rw [this] at hf;cases hf
     ·exact hw
    obtain ⟨s1,k1,k2⟩ := K1.KS hC aiy hr;unfold wpOp;rw [h1];refine hT X φ w B base N ops s s1 x.2.1 a x.2.2.1 x.2.2.2 hN h2 k1 hs hg _ _ fun a' w' φ' hs' rE => ?_
    refine ih (R1 ++ R2) _ a' w' φ' _ (by simp at hl ⊢; omega) (fun j => ?_) (by simpa using kM) (fun j oj hj hlj i hi => ?_) (fun p hp => AN p (by rcases aC.1 hp with h | h <;> simp [h])) ?_ k2 hs' (hg.lj rE)
     fun a'' WK mH h'' vp => hQ a'' WK mH h'' (rE.trans vp)
    ·have hxlt : x.1 < gM.size := by rw [kM]; exact kn h1
     by_cases hj : j = x.1
     ·subst hj;simp only [a8,Array.getElem?_setIfInBounds_self_of_lt hxlt,gI];refine ⟨(fun h => by cases h),fun ⟨p,hp,hpx⟩ => ?_⟩;exfalso;rcases aC.1 hp with h | h
      ·have := (VP.2.2 p h x (by simp)).1; omega
      ·have := (IV VP.2.1 h).1; omega
     ·have sO : x.1 ≠ j := fun e => hj e.symm;rw [a8,iu sO,<- a8,hls j];constructor
      ·rintro ⟨p,hp,hpj⟩;refine ⟨p,?_,hpj⟩;simp at hp ⊢;rcases hp with h | h | h
       ·exact .inl h
       ·subst h; exact absurd hpj.symm hj
       ·exact .inr h
      ·rintro ⟨p,hp,hpj⟩;refine ⟨p,?_,hpj⟩;simp at hp ⊢;rcases hp with h | h
       ·exact .inl h
       ·exact .inr (.inr h)
    ·have mono : ∀ k,gM.getD k false = true -> (gM.setIfInBounds x.1 true).getD k false = true := by
      intro k hk;by_cases hkx : x.1 = k
      ·subst hkx;have bO : x.1 < gM.size := by rw [kM]; exact kn h1
       simp [a8,bO]
      ·rw [a8,iu hkx,<- a8]; exact hk
     by_cases hjx : x.1 = j
     ·subst hjx;rw [h1] at hj;cases hj;obtain ⟨e,he,hb,heq⟩ := xL.1 hi;exact mono i (by rw [<- heq]; exact jD e he hb)
     ·refine mono i (xT j oj hj ?_ i hi);rw [a8,iu hjx,<- a8] at hlj;exact hlj
    ·refine RC.2 ⟨VP.1,(List.pairwise_cons.1 VP.2.1).2,fun p hp q hq => VP.2.2 p hp q (by simp [hq])⟩

end
end Go.Bm

/- Regions that draw their order, from the machine's own check. -/
namespace Go.Bm
open Go.Am
section
variable {P : Program} {c : eG} {call : Nat -> List AV -> Heap -> Option (AV × Heap)} {T : St -> O -> Fq -> St -> Prop}
def E5 : Nat -> List Oper -> List O -> List Fq -> List WE
 | k,o :: r,q :: s,f :: t => (k,o,q,f) :: E5 (k + 1) r s t
 | _,_,_,_ => []
theorem qy : ∀ (k : Nat) (os : List Oper) (qs : List O) (fs : List Fq) (j : Nat) (p : WE),(E5 k os qs fs)[j]? = some p -> p.1 = k + j /\ os[j]? = some p.2.1 /\ qs[j]? = some p.2.2.1 /\ fs[j]? = some p.2.2.2
 | k,[],qs,fs,j,p,h => by simp [E5] at h
 | k,_ :: _,[],fs,j,p,h => by simp [E5] at h
 | k,_ :: _,_ :: _,[],j,p,h => by simp [E5] at h
 | k,o :: r,q :: s,f :: t,j,p,h => by
   simp only [E5] at h;cases j with
   | zero => simp at h; subst h; exact ⟨rfl,rfl,rfl,rfl⟩
   | succ j =>
     simp at h;obtain ⟨h1,h2,h3,h4⟩ := qy (k + 1) r s t j p h;exact ⟨by omega,by simpa using h2,by simpa using h3,by simpa using h4⟩
theorem B1 : ∀ (k : Nat) (os : List Oper) (qs : List O) (fs : List Fq),os.length = qs.length -> qs.length = fs.length -> (E5 k os qs fs).length = os.length
 | k,[],[],[],_,_ => rfl
 | k,o :: r,q :: s,f :: t,h1,h2 => by simp [E5]; exact B1 (k + 1) r s t (by simpa using h1) (by simpa using h2)
 | _,[],_ :: _,_,h,_ => by simp at h
 | _,_ :: _,[],_,h,_ => by simp at h
 | _,[],[],_ :: _,_,h => by simp at h
 | _,_ :: _,_ :: _,[],_,h => by simp at h
def aa9 (c : eG) (call : Nat -> List AV -> Heap -> Option (AV × Heap)) (T : St -> O -> Fq -> St -> Prop) : Prop := ∀ s q f s',vX q.kd = true -> po c call s q = some (s',f) -> (mg f = true -> T s q f s') /\ T s q .all s'
def Fc (un : List (Nat × Nat)) : Nat -> List Fq -> List Fq
 | _,[] => []
 | k,f :: r => (if jB k k un then .all else f) :: Fc un (k + 1) r
theorem B2 (un : List (Nat × Nat)) : ∀ (k : Nat) (fs : List Fq),(Fc un k fs).length = fs.length
 | _,[] => rfl
 | k,f :: r => by simp [Fc,B2 un (k + 1) r]
theorem Od (un : List (Nat × Nat)) : ∀ (k : Nat) (fs : List Fq) (j : Nat),(Fc un k fs)[j]? = (fs[j]?).map fun f => if jB (k + j) (k + j) un then .all else f
 | _,[],j => by simp [Fc]
 | k,f :: r,j => by
   cases j with
   | zero => simp [Fc]
   | succ j => simp only [Fc,jm,Od un (k + 1) r]; rw [show k + 1 + j = k + (j + 1) by omega]
theorem Ny (hS : aa9 c call T) (un : List (Nat × Nat)) : ∀ (k : Nat) (os : List Oper) (qs : List O) (s s' : St) (m9 : List Fq),os.length = qs.length -> (∀ q ∈ qs,vX q.kd = true) -> pf c call qs s = some (s',m9) -> Gn un k m9 = true -> qs.length = m9.length /\ K1 T (E5 k os qs (Fc un k m9)) s s'
 | k,[],[],s,s',m9,_,_,h,_ => by simp [pf] at h; obtain ⟨rfl,rfl⟩ := h; exact ⟨rfl,rfl⟩
 | k,[],_ :: _,_,_,_,hl,_,_,_ => by simp at hl
 | k,_ :: _,[],_,_,_,hl,_,_,_ => by simp at hl
 | k,o :: r,q :: qs,s,s',m9,hl,hk,h,hn => by
   simp only [pf] at h;split at h
   case h_2 => cases h
   rename_i s1 fl1 h1;split at h
   case h_2 => cases h
   rename_i s2 fl2 h2;simp at h;obtain ⟨rfl,rfl⟩ := h;simp only [Gn,aa,e9] at hn;obtain ⟨T7,hn2⟩ := hn;obtain ⟨h4,h5⟩ := Ny hS un (k + 1) r qs _ s2 fl2 (by simpa using hl) (fun q hq => hk q (by simp [hq])) h2 hn2;refine ⟨by simp [h4],s1,?_,h5⟩;have := hS _ _ _ _ (hk q (by simp)) h1;show T s q (if jB k k un then .all else fl1) s1;split
   ·exact this.2
   ·rename_i hp;exact this.1 (T7.resolve_right hp)
theorem HS {s s1 : St} {kd : Kd} {v : AV} {f : Fq} (h : ft c call s kd = some (v,s1,f)) (hp : still kd = true) : f = .no := by
 cases kd <;> simp [still] at hp <;> simp only [ft] at h
 all_goals try rw [hp] at h
 all_goals
  (repeat' split at h)
  all_goals first
   | (cases h; done)
   | (rename_i hq; cases hq; done)
   | (simp at h; obtain ⟨rfl,rfl,rfl⟩ := h; rfl)
theorem zi {e : Env} {d : Option Nat} {v : AV} {s s' : St} {f g : Fq} (h : zj e d v s f = some (s',g)) : g = bR e d f := by
 unfold zj at h;split at h
 ·simp at h;exact h.2.symm
 ·cases h
theorem yE {e : Env} {d : Option Nat} : bR e d .no = .no \/ bR e d .no = .bo [] \/ bR e d .no = .sp := by
 unfold bR;split
 ·exact .inl rfl
 ·split
  ·exact .inr (.inr rfl)
  ·split
   ·exact .inl rfl
   ·exact .inr (.inl rfl)
theorem LG {s s' : St} {q : O} {f : Fq} (h : po c call s q = some (s',f)) (hp : still q.kd = true) : f = .no \/ f = .bo [] \/ f = .sp := by
 unfold po at h;split at h
 ·split at h
  ·rename_i v s1 fl ho;rw [HS ho hp] at h;rw [zi h]; exact yE
  ·cases h
 ·split at h
  ·split at h
   ·split at h
    ·rename_i v s1 fl ho;rw [HS ho hp] at h;rw [zi h]; exact yE
    ·cases h
   ·rw [zi h]; exact yE
  ·rw [zi h]; exact yE
  ·cases h
theorem xF {un : List (Nat × Nat)} : ∀ {qs : List O} {k : Nat} {s s' : St} {m9 : List Fq},pf c call qs s = some (s',m9) -> Gn un k m9 = true -> ∀ (j : Nat) (q : O) (f : Fq),qs[j]? = some q -> m9[j]? = some f -> still q.kd = true -> jB (k + j) (k + j) un = false -> f = .no \/ f = .bo []
 | [],_,_,_,_,_,_,j,q,f,hq,_,_,_ => by simp at hq
 | x :: r,k,s,s',m9,h,hn,j,q,f,hq,hf,hp,hb => by
   simp only [pf] at h;split at h
   case h_2 => cases h
   rename_i s1 fl1 h1;split at h
   case h_2 => cases h
   rename_i s2 fl2 h2;simp at h;obtain ⟨rfl,rfl⟩ := h;simp only [Gn,aa,e9] at hn;obtain ⟨T7,hn2⟩ := hn;cases j with
   | zero =>
     simp at hq hf hb;subst hq; subst hf;rw [hb] at T7;rcases LG h1 hp with e | e | e
     ·exact .inl e
     ·exact .inr e
     ·subst e; simp [mg] at T7
   | succ j => simp at hq hf; exact xF h2 hn2 j q f hq hf hp (by rw [show k + 1 + j = k + (j + 1) by omega]; exact hb)
theorem FQ {N : Nat} {ops : Array Oper} : ∀ {l : List Oper} {qs : List O},oU P N ops l qs = true -> l.length = qs.length /\ ∀ (j : Nat) (o : Oper) (q : O),l[j]? = some o -> qs[j]? = some q -> KP P N ops o (O2 q) = true
 | [],[],_ => ⟨rfl,fun j o q h => by simp at h⟩
 | [],_ :: _,h => by simp [oU] at h
 | _ :: _,[],h => by simp [oU] at h
 | o :: r,q :: s,h => by
   simp only [oU,aa] at h;obtain ⟨hl,hm⟩ := FQ h.2;refine ⟨by simp [hl],fun j o' q' h1 h2 => ?_⟩;cases j with
   | zero => simp at h1 h2; subst h1; subst h2; exact h.1
   | succ j => simp at h1 h2; exact hm j o' q' h1 h2
theorem uE {un : List (Nat × Nat)} {j : Nat} {ys : List Nat} {q : O} : ∀ {k : Nat} {l : List O},rJ un j ys q k l = true -> ∀ (i : Nat) (x : O),l[i]? = some x -> FP un (k + i) j x ys q = true
 | k,[],_,i,x,h => by simp at h
 | k,z :: r,hc,i,x,h => by
   simp only [rJ,aa] at hc;cases i with
   | zero => simp at h; subst h; exact hc.1
   | succ i => simp at h; have := uE hc.2 i x h; rwa [show k + 1 + i = k + (i + 1) by omega] at this
theorem v8 {un : List (Nat × Nat)} {ops : Array Oper} : ∀ {ys : List Oper} {qs seen : List O} {zr : List (List Nat)},l9 un zr seen ys qs = true -> abb ops zr -> zr.length = seen.length -> (∀ j,ys[j]? = ops[seen.length + j]?) -> ∀ (j : Nat) (y : Oper) (q : O),ys[j]? = some y -> qs[j]? = some q ->
  (∀ e ∈ y.after,Region.binds .any e = true -> e.on < seen.length + j) /\ ∀ (i : Nat) (x : O),(seen ++ qs)[i]? = some x -> i < seen.length + j -> Anc ops i (seen.length + j) \/ ((jB i i un = false /\ jB (seen.length + j) (seen.length + j) un = false) /\ jk x q = true /\ ((still x.kd = true /\ still q.kd = true) \/ jB i (seen.length + j) un = true))
 | [],_,_,_,_,_,_,_,j,y,q,h,_ => by simp at h
 | _ :: _,[],_,_,_,_,_,_,j,y,q,_,h => by simp at h
 | z :: r,p :: s,seen,zr,hc,hanc,hal,La,j,y,q,h1,h2 => by
   simp only [l9,aa] at hc;obtain ⟨⟨⟨_,c1⟩,c2⟩,c3⟩ := hc;have hz : ops[seen.length]? = some z := by simpa using (La 0).symm
   cases j with
   | zero =>
     simp at h1 h2;subst h1; subst h2;refine ⟨fun e he hb => ?_,fun i x hx hi => ?_⟩
     ·have := List.all_eq_true.1 c1 e.on (xL.2 ⟨e,he,hb,rfl⟩);simpa using this
     ·rw [aq (by omega)] at hx;have := uE c2 i x hx;simp only [FP,dM,e9,aa,bH] at this;rcases this with h | h
      ·exact .inl (Pk hanc hz i (mem_iff.1 h))
      ·right;exact h
   | succ j =>
     simp at h1 h2
     have aiB : abb ops (zr ++ [Gm zr z]) := by
      intro k l hl i hi;by_cases hk : k < zr.length
      ·rw [aq hk] at hl; exact hanc k l hl i hi
      ·have hk2 := au hl;simp at hk2;have hke : k = zr.length := by omega
       subst hke;simp at hl;subst hl;rw [hal];exact Pk hanc hz i hi
     obtain ⟨k1,k2⟩ := v8 c3 aiB (by simp [hal]) (fun m => by have := La (m + 1); simp at this ⊢; rw [this]; congr 1; omega) j y q h1 h2;simp only [bX,bY,iF] at k1 k2;refine ⟨fun e he hb => by have := k1 e he hb; omega,fun i x hx hi => ?_⟩;have := k2 i x (by simpa using hx) (by omega)
     rwa [show seen.length + (0 + 1) + j = seen.length + (j + 1) by omega] at this
theorem sR {un : List (Nat × Nat)} : ∀ {ys : List Oper} {qs seen : List O} {zr : List (List Nat)},l9 un zr seen ys qs = true -> ys.length = qs.length -> ∀ q ∈ qs,vX q.kd = true
 | [],[],_,_,_,_,q,hq => by simp at hq
 | [],_ :: _,_,_,_,hl,_,_ => by simp at hl
 | _ :: _,[],_,_,_,hl,_,_ => by simp at hl
 | z :: r,p :: s,seen,zr,hc,hl,q,hq => by
   simp only [l9,aa] at hc;rcases aU.1 hq with e | e
   ·subst e; exact hc.1.1.1
   ·exact sR hc.2 (by simpa using hl) q e
theorem B0 {os : List O} {m9 : List Fq} : ∀ {un : List (Nat × Nat)},yT os m9 un = true -> ∀ i j,i ≠ j -> jB i j un = true -> iz (os.getD i ⟨none,none,.min []⟩) (m9.getD i .all) (os.getD j ⟨none,none,.min []⟩) (m9.getD j .all) = true
 | [],_,i,j,_,h => by simp [jB] at h
 | p :: r,hk,i,j,sO,h => by
   obtain ⟨x,y⟩ := p;simp only [yT,aa,e9,decide_eq_true_eq] at hk;simp only [jB,e9,aa,decide_eq_true_eq] at h;rcases h with ⟨rfl,rfl⟩ | h
   ·exact hk.1.resolve_left sO
   ·exact B0 hk.2 i j sO h
theorem J5 (x y : O) {f g : Fq} (hf : f = .no \/ f = .bo []) (hg : g = .no \/ g = .bo []) : iz x f y g = true := by
 have d : ∀ d,xX d (.bo []) = true := fun d => by cases d <;> rfl
 have d' : ∀ d,xX d .no = true := fun d => by cases d <;> rfl
 rcases hf with rfl | rfl <;> rcases hg with rfl | rfl <;> simp [iz,Fq.ok,Hd,d,d']
theorem zy.drew {X : Nat -> Prop} {φ : dF} {w : World} {B : Nat -> Nat} {base : Nat} {s : St} {a : Act} {N : Nat} (h : zy X φ w B base s a N) : zy X φ w.drew B base s a N := by
 obtain ⟨N1,Ha,u6,hb⟩ := h.sb;exact ⟨⟨N1,Ha,u6.lj (.drew _ _) (u6.heap.of_same (ψ := []) ⟨rfl,rfl,rfl,Nat.le_succ _,aT _,fun g _ h => ⟨rfl,h⟩,.refl _⟩) u6.own (fun _ _ => rfl),hb⟩,h.defers,h.size⟩
theorem aaF (dy : fm P c) (hS : aa9 c call T) (hT : Rr P c T) (hC : Pn T) : Gw P c call := by
 intro X φ w B base s s' m9 a N id ops os un Q hN hc ho hs hd hr hg hQ;simp only [It,aa] at hd;obtain ⟨hn,hd⟩ := hd;obtain ⟨hl,hm⟩ := FQ hc;obtain ⟨vw,jw⟩ := Ny hS un 0 ops.toList os s s' m9 hl (sR ho hl) hs hn;have hlen := B1 0 ops.toList os (Fc un 0 m9) hl (by rw [B2]; exact vw);have rE : fo φ w φ w.drew := .drew _ _;have hord := v8 (ops := ops) ho (fun j l hl => by simp at hl) rfl (fun j => by simp);have vZ : zy X φ w.drew B base s a N := hr.drew
 refine wp_region_any dy.mixed (adr hT hC (X := X) (B := B) (base := base) hN (sf := s') ops.size (E5 0 ops.toList os (Fc un 0 m9)) _ a w.drew φ s (by simpa using hlen) (fun i => ?_) (by simp) (fun j o _ hl => by simp [a8,kr] at hl; split at hl <;> simp at hl) (fun p hp => ?_) ?_ jw vZ (hg.lj rE)
  fun a' w' φ' h k => hQ a' w' φ' h (rE.trans k))
 ·by_cases hi : i < ops.size
  ·simp only [a8,kr,hi,if_true,gI,true_iff];obtain ⟨p,hp⟩ := aV (l := E5 0 ops.toList os (Fc un 0 m9)) (i := i) (by rw [hlen]; simpa using hi);exact ⟨p,aR hp,by have := (qy 0 _ _ _ i p hp).1; omega⟩
  ·simp only [a8,kr,hi,if_false,Option.getD_none];refine ⟨(fun h => by cases h),fun ⟨p,hp,hpi⟩ => ?_⟩;exfalso;obtain ⟨j,hj⟩ := br hp;have h1 := (qy 0 _ _ _ j p hj).1;have h2 := au hj;rw [hlen] at h2;simp at h2;omega
 ·obtain ⟨j,hj⟩ := br hp;obtain ⟨h1,h2,h3,h4⟩ := qy 0 _ _ _ j p hj;have VY : p.1 = j := by omega
  obtain ⟨k1,_⟩ := hord j p.2.1 p.2.2.1 h2 h3;refine ⟨by rw [VY]; simpa using h2,hm j _ _ h2 h3,fun e he hb => ?_⟩;have := k1 e he hb;simp at this;omega
 ·rw [List.pairwise_iff_getElem];intro i j hi hj B7;obtain ⟨h1,h2,h3,h4⟩ := qy 0 _ _ _ i _ (ai hi);obtain ⟨k1,k2,k3,k4⟩ := qy 0 _ _ _ j _ (ai hj);refine ⟨by omega,?_⟩;obtain ⟨_,aip⟩ := hord j _ _ k2 k3;have := aip i _ (by simpa using h3) (by simpa using B7);simp only [iF,dM] at this;rcases this with h | h
  ·left; rw [h1,k1]; simpa using h
  ·right;obtain ⟨⟨pg,m8⟩,yl,h⟩ := h;refine ⟨yl,?_⟩;rw [Od] at h4 k4;simp only [dM,pg,m8,bW,if_false,Option.map_id'] at h4 k4;rcases h with ⟨h5,h6⟩ | h5
   ·exact J5 _ _ (xF hs hn i _ _ h3 h4 h5 (by simpa using pg)) (xF hs hn j _ _ k3 k4 h6 (by simpa using m8))
   ·have := B0 hd i j (by omega) h5;simp only [List.getD_eq_getElem?_getD,h3,k3,h4,k4,gI] at this;exact this
end
end Go.Bm

/- A step up to what can be seen of a state: StepT and SoundT. -/
namespace Go.Bm
open Go.Am
section
variable {P : Program} {c : eG} {call : Nat -> List AV -> Heap -> Option (AV × Heap)}
def dL (s t : St) : Prop := (∀ i,get s.env i = get t.env i) /\ s.H = t.H
theorem dL.rfl' {s : St} : dL s s := ⟨fun _ => rfl,rfl⟩
theorem dL.symm {s t : St} (h : dL s t) : dL t s := ⟨fun i => (h.1 i).symm,h.2.symm⟩
theorem dL.trans {s t u : St} (h : dL s t) (k : dL t u) : dL s u := ⟨fun i => (h.1 i).trans (k.1 i),h.2.trans k.2⟩
theorem zy.same {X : Nat -> Prop} {φ : dF} {w : World} {B : Nat -> Nat} {base : Nat} {s t : St} {a : Act} {N : Nat} (h : zy X φ w B base s a N) (e : dL s t) : zy X φ w B base t a N := by
 obtain ⟨N1,Ha,u6,pg,m8⟩ := h.sb;exact ⟨⟨N1,Ha,u6.ext (fun i => (e.1 i).symm) e.2.symm,pg,by rw [<- e.2]; exact m8⟩,h.defers,h.size⟩
def ym : Fq -> Fq -> Prop
 | _,.all => True
 | .wr sl bs,.wr sl' bs' => (∀ i ∈ sl,i ∈ sl') /\ (match bs,bs' with
   | none,none => True
   | some l,some l' => ∀ b ∈ l,b ∈ l'
   | _,_ => False)
 | f,g => f = g
theorem ym.refl (f : Fq) : ym f f := by
 cases f <;> try exact rfl
 case wr sl bs => cases bs <;> simp [ym]
 case all => trivial
def TS (c : eG) (call : Nat -> List AV -> Heap -> Option (AV × Heap)) (s : St) (q : O) (f : Fq) (s' : St) : Prop :=
 vX q.kd = true /\ ∃ s0 s1 f0,dL s s0 /\ po c call s0 q = some (s1,f0) /\ ym f0 f /\ dL s1 s'
theorem ae6 : aa9 c call (TS c call) := fun s q f s' hk h => ⟨fun hf => ⟨hk,s,s',f,dL.rfl',h,.refl f,dL.rfl'⟩,⟨hk,s,s',f,dL.rfl',h,by cases f <;> trivial,dL.rfl'⟩⟩
theorem abo (AN : IU P c call) : Rr P c (TS c call) := by
 intro X φ w B base N ops s s' o a q f hN hc ⟨_,s0,s1,f0,e0,h,_,e1⟩ hr hg K Q hK;have hr0 := hr.same e0
 have hck : dm P o.op (kY q.kd) = true := by
  have := hc;simp only [KP,O2,aa] at this;exact this.2
 exact LD (fun v s2 f hv => AN X φ w B base s0 o a q.kd v s2 f hck hv hr0.sb hg) hc hN h hr0 fun a' w' φ' vZ k' => hK a' w' φ' (vZ.same e1) k'
theorem Wf (dy : fm P c) (AN : IU P c call) (hC : Pn (TS c call)) : Gw P c call := aaF dy ae6 (abo AN) hC
end
end Go.Bm
