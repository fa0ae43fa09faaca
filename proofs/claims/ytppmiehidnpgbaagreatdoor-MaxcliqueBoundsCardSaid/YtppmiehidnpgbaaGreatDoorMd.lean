/- The machine by value: operations, calls, code. -/
import Derived.Test.YtppmiehidnpgbaaGreatDoorMc
import Derived.Scope
import Derived.Sort.Grow
import Derived.Deep.Draws
/- Operations that write: append, clear, stores. -/
set_option linter.unusedSimpArgs false
set_option linter.unusedVariables false
open Array renaming getD_eq_getD_getElem? → bf, getElem?_append_left → qV, getElem?_append_right → G8, getElem?_eq_some_iff → eK, getElem?_replicate → kM, getElem?_setIfInBounds_ne → iQ, replicate → pA
open Bool renaming and_eq_false_iff → O9, and_eq_true → ae, false_eq_true → bn, not_eq_true' → bH, or_eq_false_iff → eP, or_eq_true → fN, true_and → eh
open Go renaming undef → WW
open List renaming append_assoc → dj, append_nil → dF, drop_eq_nil_of_le → OQ, eq_nil_of_length_eq_zero → gG, ext_getElem? → dT, getElem?_append_left → az, getElem?_append_right → aR, getElem?_cons_succ → l9, getElem?_drop → aU, getElem?_eq_getElem → aB, getElem?_eq_none → eH, getElem?_map → cq, getElem?_of_mem → bG, getElem?_replicate → fv, getElem?_set → bm, getElem?_set_ne → dq, getElem?_take → bF, isEmpty_iff → ff, length_append → bN, length_cons → cj, length_nil → fP, length_set → cJ, length_take → bC, mem_append → aG, mem_cons → aK, mem_of_getElem? → bg, mem_of_mem_drop → c9, mem_of_mem_take → c8, mem_or_eq_of_mem_set → JR, pairwise_append → bP, rel_of_pairwise_cons → JP, replicate → aF, take_append_drop → O4, take_zero → nh
open Nat renaming add_mul → cF, le_refl → aT, lt_of_lt_of_le → fM, mul_le_mul_right → bM, zero_add → gE, zero_le → Va, zero_mul → rk
open Ne renaming symm → iP
open Option renaming bind_some → WT, getD_some → hF, isSome_iff_exists → aQ, map_some → dc
open Option.some renaming inj → dn, injEq → ah
open Prod.mk renaming injEq → aJ
namespace Go.Bm
open Go.Am
section
variable {P : Program} {X : Nat -> Prop} {φ φ' : dy} {w w' : World} {N N' : Names} {s s1 : St} {Ha Ha' : Heap} {t : Nat -> Value} {B : Nat -> Nat} {base : Nat} {v va : AV} {v' : Value} {c : eE} {o : Oper} {a : Act} {kd : Kd}
theorem tf {l : List AV} (h : ∀ x ∈ l,x.leaf = true) : bz l = true := by
 induction l with
 | nil => rfl
 | cons y r ih => simp only [bz,ae]; exact ⟨h y (by simp),ih fun x hx => h x (by simp [hx])⟩
theorem vJ {l : List AV} (h : bz l = true) : ∀ x ∈ l,x.leaf = true := by
 induction l with
 | nil => intro x hx; simp at hx
 | cons y r ih =>
   intro x hx;simp only [bz,ae] at h;rcases aK.1 hx with e | e
   ·subst e; exact h.1
   ·exact ih h.2 x e
theorem wC {k : Nat} {xs : List AV} (h : ∀ x ∈ xs,x.cells.length = k) (n : Nat) : aH (xs.take n) = (aH xs).take (n * k) := by
 induction xs generalizing n with
 | nil => simp [aH]
 | cons x r ih =>
   cases n with
   | zero => simp [aH]
   | succ n =>
     have hx := h x (by simp);simp only [List.take_succ_cons,aH,ih (fun y hy => h y (by simp [hy])) n];rw [List.take_append,hx,cF,Nat.one_mul,List.take_of_length_le (by omega : x.cells.length <= n * k + k),Nat.add_sub_cancel]
theorem Jr {k : Nat} {xs : List AV} (h : ∀ x ∈ xs,x.cells.length = k) (n : Nat) : aH (xs.drop n) = (aH xs).drop (n * k) := by
 induction xs generalizing n with
 | nil => simp [aH]
 | cons x r ih =>
   cases n with
   | zero => simp
   | succ n =>
     have hx := h x (by simp);simp only [List.drop_succ_cons,aH,ih (fun y hy => h y (by simp [hy])) n];rw [List.drop_append,hx,cF,Nat.one_mul,OQ (by omega : x.cells.length <= n * k + k),List.nil_append,Nat.add_sub_cancel]
theorem jx {k : Nat} {xs : List AV} (h : ∀ x ∈ xs,x.cells.length = k) : (aH xs).length = xs.length * k := (iM h).1
theorem Dc (h : eR X φ w N s Ha (tm a)) (hg : Am.dZ (iO c) X φ w) {k : Nat} {x : E} {o' : Operand} (ho : df o' (lU x) = true) {ys : List AV} (hc : cont s k (bt c s.env x) = some ys) (wx : bz (aH ys) = true) :
  ∃ news,ji Ha k (Am.ev (iO c) (yw N s.env) (lU x)) = some (news,ys.length) /\ news.length = ys.length * k /\ (∀ y ∈ ys,y.cells.length = k) /\ bz news = true /\
   ∀ (i : Nat) (d : AV),(aH ys)[i]? = some d -> fz d = true /\ ∃ e,news[i]? = some e /\ e.leaf = true /\ Le d e := by
 have hx := cP (c := c) (cA := iO c) h rfl ho;have dg := hx.ok;have r := bX (c := iO c) (env := yw N s.env) (a := a) (fun i => by rw [lP]; exact h.env i) hg ho;rw [hx.ev] at r ⊢;cases e : bt c s.env x <;> rw [e] at hc dg r <;> try (simp [cont] at hc; done)
 ·rename_i k' xs;simp only [cont] at hc;split at hc
  case isFalse => cases hc
  rename_i sK;subst sK;simp at hc;subst hc;simp only [gL,cM,ji,if_true] at r ⊢
  have mq : (∀ y ∈ xs,y.cells.length = k') /\ ∀ y ∈ xs,∀ d ∈ y.cells,pl d = true := by
   generalize a.eval o' = z at r;cases r with
   | mI _ _ _ ad n cap u hn jH hk hu h =>
     refine ⟨hk,fun y hy d hd => ?_⟩;obtain ⟨i,hi⟩ := bG hy;obtain ⟨j,hj⟩ := bG hd;exact XE (h i j y d hi hj) rfl
   | j8 => exact ⟨fun y hy => by simp at hy,fun y hy => by simp at hy⟩
  refine ⟨aH xs,rfl,jx mq.1,mq.1,wx,fun i d hd => ?_⟩;obtain ⟨i',y,j,h1,h2,_⟩ := (iM mq.1).2 i d hd;have hdl := vJ wx d (bg hd);refine ⟨?_,d,hd,hdl,Le.refl _⟩;unfold fz;rw [hdl,mq.2 y (bg h1) d (bg h2)];rfl
 ·rename_i k' xs;have := hx.eo k' xs e;subst this;simp [cont] at hc;subst hc;exact ⟨[],by simp [gL,ji],by simp,fun y hy => by simp at hy,rfl,fun i d hd => by simp [aH] at hd⟩
 ·rename_i k' p off len;simp only [cont] at hc;split at hc
  case h_2 => cases hc
  rename_i wu xs hp;split at hc
  case isFalse => cases hc
  rename_i hcc;obtain ⟨rfl,rfl,hle⟩ := hcc;simp at hc;subst hc;have eQ := h.own p wu xs hp;simp only [gL];rcases re h dg with ⟨n,hn,e2⟩ | ⟨hn,h0,h1,e2⟩
  ·rw [e2];rw [hn] at eQ;obtain ⟨cs,c1,c2,c3,c4⟩ := eQ
   have hb : off * wu + len * wu <= cs.length := by
    have : (off + len) * wu <= xs.length * wu := bM wu hle;rw [cF] at this;omega
   have hys : ∀ y ∈ (xs.drop off).take len,y.cells.length = wu := fun y hy => c3 y (c9 (c8 hy));have hl : ((xs.drop off).take len).length = len := by simp; omega
   have idx : ∀ (i : Nat) (d : AV),(aH ((xs.drop off).take len))[i]? = some d -> fz d = true /\ ∃ e,((cs.drop (off * wu)).take (len * wu))[i]? = some e /\ e.leaf = true /\ Le d e := by
    intro i d hd;rw [wC (fun y hy => c3 y (c9 hy)),Jr c3,bF] at hd;split at hd
    case isFalse => cases hd
    rename_i hi;rw [aU] at hd;obtain ⟨f1,e,f2,f3,f4⟩ := c4 _ d hd;exact ⟨f1,e,by rw [bF,if_pos hi,aU]; exact f2,f3,f4⟩
   refine ⟨(cs.drop (off * wu)).take (len * wu),by simp only [ji,c1,hl]; rw [if_pos ⟨trivial,hb⟩],by rw [hl]; simp; omega,hys,tf fun x hx => ?_,idx⟩;obtain ⟨i,hi⟩ := bG hx;have bL := aA hi;have : i < (aH ((xs.drop off).take len)).length := by rw [jx hys,hl]; simp at bL; omega
   obtain ⟨d,hd⟩ := aZ this;obtain ⟨_,e,g2,g3,_⟩ := idx i d hd;rw [hi] at g2;cases g2;exact g3
  ·rw [e2];subst h1;exact ⟨[],by simp [ji],by simp,fun y hy => by simp at hy,rfl,fun i d hd => by simp [aH] at hd⟩
theorem abp (hm : P.follows .mixedOrders = true) (h : SB X φ w B base s (tm a)) (hg : Am.dZ (iO c) X φ w) {k k' : Nat} {x y : E} (hk : cZ P o.op (lS (.app k x y)) = true) (A5 : bt c s.env x = .own k' []) {ys : List AV} (hy : cont s k (bt c s.env y) = some ys) (wx : bz (aH ys) = true) (hl : ys.length <= lj) :
  lY P X φ w B base s (.own k ys) o a := by
 obtain ⟨N,Ha,h,hb⟩ := h;obtain ⟨⟨o1,h1⟩,o2,h2⟩ := US hk;have hx := cP (c := c) (cA := iO c) h rfl h1;obtain ⟨news,n1,n2,n3,n4,n5⟩ := Dc h hg h2 hy wx;by_cases h0 : ys.length = 0
 ·have : ys = [] := gG h0;subst this;refine lY.of (mw (va := .dz) (Ha' := Ha) hm h hg hk (by simp only [lS,fW,n1,hx.ev,A5,gL,fP,if_true]; rfl)) fun v' w' φ' r hh ad => ?_;exact eG.quiet (h.my ad hh h.own (fun _ _ => rfl)) hb trivial (by simp [EO]) r
 ·refine lY.of (mw (va := .sl k Ha.length 0 ys.length) (Ha' := Ha ++ [some news]) hm h hg hk (by simp only [lS,fW,n1,hx.ev,A5,gL,if_neg h0,if_pos (⟨hl,n4⟩ : ys.length <= lj /\ bz news = true)]; rfl)) fun v' w' φ' r hh ad => ?_;exact zO h hb ad hh (by omega) n3 n5 r
theorem abo (hm : P.follows .mixedOrders = true) (h : SB X φ w B base s (tm a)) (hg : Am.dZ (iO c) X φ w) {k len : Nat} {x y : E} (hk : cZ P o.op (lS (.app k x y)) = true) {p : Rt} {xs : List AV} (A5 : bt c s.env x = .dG k p 0 len) (hp : aC s p = some (k,xs)) (hle : len <= xs.length) {ys : List AV} (hy : cont s k (bt c s.env y) = some ys) (wx : bz (aH ys) = true) (hl : len + ys.length <= lj) :
  lY P X φ w B base (setAt (cz (sw p) s) p .any) (.own k (xs.take len ++ ys)) o a := by
 obtain ⟨N,Ha,h,hb⟩ := h;obtain ⟨⟨o1,h1⟩,o2,h2⟩ := US hk;have hx := cP (c := c) (cA := iO c) h rfl h1;have dg := hx.ok;rw [A5] at dg;obtain ⟨news,n1,n2,n3,n4,n5⟩ := Dc h hg h2 hy wx;obtain ⟨d1,d2,d3⟩ := h.drop hp;have zL : (∀ b,b < base -> N.β b = B b) /\ base <= (setAt (cz (sw p) s) p .any).H.length := ⟨hb.1,by rw [d3.len]; exact hb.2⟩;have eQ := h.own p k xs hp;rcases re h dg with ⟨n,hn,e2⟩ | ⟨hn,_,NQ,e2⟩
 ·rw [hn] at eQ;obtain ⟨cs,c1,c2,c3,c4⟩ := eQ;have hlk : len * k <= cs.length := Nat.le_trans (bM k hle) c2;have hnlt := dL c1;refine lY.of (mw (va := .sl k Ha.length 0 (len + ys.length)) (Ha' := Ha.set n none ++ [some (cs.take (len * k) ++ news)]) hm h hg hk (by simp only [lS,fW,n1,hx.ev,A5,gL,e2,rk,c1,if_pos (⟨trivial,hlk,hl,n4⟩ : True /\ len * k <= cs.length /\ len + ys.length <= lj /\ bz news = true)]; rfl)) fun v' w' φ' r hh ad => ?_;have Lm : ∀ m,m ≠ n -> aN (Ha.set n none) m = aN Ha m := fun m C5 => by unfold aN; rw [dq (iP C5)]
  have jO : ∀ m,m ≠ n -> m < Ha.length -> aN (Ha.set n none ++ [some (cs.take (len * k) ++ news)]) m = aN Ha m := fun m C5 bL => by
   rw [fV,if_neg (by simp; omega),Lm m C5]
  have hZ : eR X φ' w' N (setAt (cz (sw p) s) p .any) (Ha.set n none ++ [some (cs.take (len * k) ++ news)]) (tm a) := by
   refine d1.my ad hh (fun q k' zs e => ?_) (fun b C6 => ?_)
   ·have e' := e;rw [d2] at e';split at e'
    ·cases e'
    rename_i nF;refine (d1.own q k' zs e).same fun m hmq => jO m ?_ ?_
    ·rintro rfl;exact nF (h.inj q p m (by rw [e']; rfl) (by rw [hp]; rfl) hmq hn)
    ·exact h.im (by rw [e']; rfl) hmq
   ·have Hf : (aN s.H b).isSome := by
     cases e : aN s.H b with
     | none => rw [d3.Cw b e] at C6; cases C6
     | some _ => rfl
    refine jO _ ?_ (h.q9 Hf);intro e;exact h.bx b p Hf (by rw [hp]; rfl) (by rw [hn,e])
  have NR : (xs.take len ++ ys).length = len + ys.length := by simp; omega
  have htk : ∀ z ∈ xs.take len,z.cells.length = k := fun z hz => c3 z (c8 hz);refine eG.fresh hZ zL (n := Ha.length) ⟨cs.take (len * k) ++ news,by rw [fV,if_pos (by simp)],?_,?_,?_⟩ (fun q hq e => ?_) (fun b C6 e => ?_) (by rw [NR]; exact r)
  ·rw [NR,cF,bN,bC,n2]; omega
  ·intro z hz;rcases aG.1 hz with hz | hz
   ·exact htk z hz
   ·exact n3 z hz
  ·intro i d hd;rw [kb,wC c3] at hd
   have hlt1 : ((aH xs).take (len * k)).length = len * k := by
    have := jx c3;have : len * k <= xs.length * k := bM k hle;rw [bC]; omega
   rw [List.getElem?_append] at hd;rw [hlt1] at hd;split at hd
   ·rename_i hi;rw [bF,if_pos hi] at hd;obtain ⟨f1,e,f2,f3,f4⟩ := c4 i d hd;exact ⟨f1,e,by rw [az (by simp; omega),bF,if_pos hi]; exact f2,f3,f4⟩
   ·rename_i hi;obtain ⟨f1,e,f2,f3,f4⟩ := n5 _ d hd;refine ⟨f1,e,?_,f3,f4⟩;rw [aR (by simp; omega)];rw [bC,Nat.min_eq_left hlk];exact f2
  ·have hq' : (aC s q).isSome := by
    rw [d2] at hq;split at hq
    ·cases hq
    ·exact hq
   have := h.im hq' e;omega
  ·have Hf : (aN s.H b).isSome := by
    cases e : aN s.H b with
    | none => rw [d3.Cw b e] at C6; cases C6
    | some _ => rfl
   have := h.q9 Hf;omega
 ·rw [hn] at eQ;have hxs : xs = [] := eQ;subst hxs;subst NQ
  have simq : ∀ {φ' w' Ha'},fJ φ w φ' w' -> cG X φ' w' Ha' -> (∀ m,m < Ha.length -> aN Ha' m = aN Ha m) -> eR X φ' w' N (setAt (cz (sw p) s) p .any) Ha' (tm a) := by
   intro φ' w' Ha' ad hh jO;refine d1.my ad hh (fun q k' zs e => ?_) (fun b C6 => ?_)
   ·exact (d1.own q k' zs e).same fun m hmq => jO m (d1.im (by rw [e]; rfl) hmq)
   ·exact jO _ (d1.q9 C6)
  by_cases h0 : ys.length = 0
  ·have : ys = [] := gG h0;subst this;refine lY.of (mw (va := .dz) (Ha' := Ha) hm h hg hk (by simp only [lS,fW,n1,hx.ev,A5,gL,e2,fP,if_true]; rfl)) fun v' w' φ' r hh ad => ?_;exact eG.quiet (simq ad hh fun _ _ => rfl) zL trivial (by simp [EO]) r
  ·have Jg : ys.length <= lj := by omega
   refine lY.of (mw (va := .sl k Ha.length 0 ys.length) (Ha' := Ha ++ [some news]) hm h hg hk (by simp only [lS,fW,n1,hx.ev,A5,gL,e2,if_neg h0,if_pos (⟨Jg,n4⟩ : ys.length <= lj /\ bz news = true)]; rfl)) fun v' w' φ' r hh ad => ?_;have hZ := simq ad hh fun m bL => by rw [fV,if_neg (by omega)]
   refine eG.fresh hZ zL (n := Ha.length) ⟨news,GO _ _,by simp; omega,by simpa using n3,by simpa using n5⟩ (fun q hq e => ?_) (fun b C6 e => ?_) (by simpa using r)
   ·have := d1.im hq e; omega
   ·have := d1.q9 C6; omega
end
end Go.Bm

/- Stores and clearing. -/
namespace Go.Bm
open Go.Am
mutual
theorem TA {o o' : Rt -> Option (Nat × List AV)} {nb : Nat} (ho : ∀ p k xs,o p = some (k,xs) -> ∃ ys,o' p = some (k,ys) /\ xs.length <= ys.length) : ∀ x,cK o nb x -> cK o' nb x
 | .dG k p off len,h => by simp only [cK] at h ⊢; obtain ⟨xs,e,h2⟩ := h; obtain ⟨ys,e2,h3⟩ := ho p k xs e; exact ⟨ys,e2,by omega⟩
 | .fa k p i off,h => by simp only [cK] at h ⊢; obtain ⟨xs,e,h2⟩ := h; obtain ⟨ys,e2,h3⟩ := ho p k xs e; exact ⟨ys,e2,by omega⟩
 | .ptr b off,h => h
 | .agg cs,h => by simp only [cK] at h ⊢; exact zt ho cs h
 | .dB cs,h => by simp only [cK] at h ⊢; exact zt ho cs h
 | .func f a b,h => by simp only [cK] at h ⊢; exact ⟨zt ho a h.1,zt ho b h.2⟩
 | .any,_ => trivial
 | .undef,_ => trivial
 | .fy,_ => trivial
 | .fD,_ => trivial
 | .dz,_ => trivial
 | .int _ _,_ => trivial
 | .bool _,_ => trivial
 | .str _,_ => trivial
 | .list _ _,_ => trivial
 | .dw _,_ => trivial
 | .own _ _,_ => trivial
 | .sl _ _ _ _,h => h
theorem zt {o o' : Rt -> Option (Nat × List AV)} {nb : Nat} (ho : ∀ p k xs,o p = some (k,xs) -> ∃ ys,o' p = some (k,ys) /\ xs.length <= ys.length) : ∀ cs,kg o nb cs -> kg o' nb cs
 | [],_ => trivial
 | x :: r,h => ⟨TA ho x h.1,zt ho r h.2⟩
end
theorem kH {l vs : List AV} {off : Nat} (h : off + vs.length <= l.length) (m : Nat) : (jv l off vs)[m]? = if m < off then l[m]? else if m < off + vs.length then vs[m - off]? else l[m]? := by
 unfold jv;have h1 : (l.take off).length = off := by simp; omega
 by_cases a : m < off
 ·rw [if_pos a,dj,az (by omega),bF,if_pos a]
 ·rw [if_neg a];by_cases b : m < off + vs.length
  ·rw [if_pos b,dj,aR (by omega),h1,az (by omega)]
  ·rw [if_neg b,aR (by simp; omega),aU];congr 1;simp; omega
section
variable {P : Program} {X : Nat -> Prop} {φ φ' : dy} {w w' : World} {N N' : Names} {s s1 : St} {Ha Ha' : Heap} {t : Nat -> Value} {B : Nat -> Nat} {base : Nat} {v va : AV} {v' : Value} {c : eE} {o : Oper} {a : Act} {kd : Kd}
theorem aaD {p : Rt} {k : Nat} {xs xs' : List AV} (hp : aC s p = some (k,xs)) (hl : xs'.length = xs.length) (i : Nat) : ku N i (get (setAt s p (.own k xs')).env i) = ku N i (get s.env i) := by
 have uq := cu.1 hp;cases p with
 | s j =>
   simp only [at_,ah] at uq;simp only [setAt,bE];by_cases e : i = j
   ·subst e; rw [if_pos rfl,uq]; simp only [ku,jF,hl]
   ·rw [if_neg e]
 | sc j l =>
   simp only [at_] at uq;cases hg : get s.env j <;> rw [hg] at uq <;> simp at uq
   rename_i ds;have hs : setAt s (.sc j l) (.own k xs') = ⟨put s.env j (.agg (ds.set l (.own k xs'))),s.H⟩ := by simp [setAt,hg]
   rw [hs];simp only [bE];by_cases e : i = j
   ·subst e;rw [if_pos rfl,hg];simp only [ku];congr 1;apply dT;intro m;rw [fZ,fZ,bm];by_cases hm : l = m
    ·subst hm;rw [if_pos rfl,if_pos (aA uq),uq];simp only [dc,jF,hl]
    ·rw [if_neg hm]
   ·rw [if_neg e]
 | c b l =>
   simp only [at_] at uq;cases hg : aN s.H b <;> rw [hg] at uq <;> simp at uq
   simp [setAt,hg]
theorem eR.upd (h : eR X φ w N s Ha t) {p : Rt} {k n : Nat} {xs xs' : List AV} (hp : aC s p = some (k,xs)) (hn : N.ν p = some n) (hl : xs'.length = xs.length) (ad : fJ φ w φ' w') (hh : cG X φ' w' Ha') (ho : oT Ha' (some n) k xs') (hb : ∀ m,m ≠ n -> aN Ha' m = aN Ha m) :
  eR X φ' w' N (setAt s p (.own k xs')) Ha' t /\ Shape s (setAt s p (.own k xs')) := by
 have uq := cu.1 hp;have nG : Fits s p (.own k xs') := ⟨(fun cs e => by cases e),_,uq,(fun cs e => by cases e)⟩;have jG := Shape.set nG;generalize NP : setAt s p (.own k xs') = s' at jG ⊢
 have own : ∀ q,aC s' q = if q = p then some (k,xs') else aC s q := by
  refine wh jG (fun q hq => ?_) (fun q hq => ?_)
  ·have e : at_ s' q = if q = p then some (.own k xs') else at_ s q := by rw [<- NP]; exact Bj nG hq
   by_cases nF : q = p
   ·rw [if_pos nF] at e ⊢; exact cu.2 e
   ·rw [if_neg nF] at e ⊢; exact iA e
  ·rw [if_neg (by rintro rfl; exact hq (Ft (by rw [hp]; rfl)))];exact rP hq
 have hlen : ∀ q k' ys,aC s q = some (k',ys) -> ∃ zs,aC s' q = some (k',zs) /\ ys.length <= zs.length := by
  intro q k' ys e;rw [own];by_cases nF : q = p
  ·subst nF;rw [hp] at e;cases e;exact ⟨xs',by rw [if_pos rfl],by omega⟩
  ·exact ⟨ys,by rw [if_neg nF]; exact e,aT _⟩
 have oiff : ∀ {q},(aC s' q).isSome -> (aC s q).isSome := by
  intro q hq;rw [own] at hq;by_cases nF : q = p
  ·subst nF; rw [hp]; rfl
  ·rw [if_neg nF] at hq; exact hq
 have biff : ∀ {b},(aN s'.H b).isSome -> (aN s.H b).isSome := by
  intro b hb;cases e : aN s.H b with
  | none => rw [jG.Cw b e] at hb; cases hb
  | some _ => rfl
 have okk : ∀ r y,Lf s' r -> at_ s' r = some y -> cK (aC s') s'.H.length y := by
  intro r y hr hy;obtain ⟨uh,x,hx⟩ := jG.back hr hy;have e : at_ s' r = if r = p then some (.own k xs') else at_ s r := by rw [<- NP]; exact Bj nG uh
  rw [e] at hy;by_cases Cz : r = p
  ·rw [if_pos Cz] at hy; cases hy; trivial
  ·rw [if_neg Cz] at hy;rw [jG.len];exact TA hlen y (h.zr hy)
 obtain ⟨hk,hkc⟩ := FA okk;refine ⟨⟨fun i => ?_,hk,hh,fun q k' ys e => ?_,fun b cs e => ?_,fun q r m e1 e2 e3 e4 => h.inj q r m (oiff e1) (oiff e2) e3 e4,fun b q e1 e2 e3 => h.bx b q (biff e1) (oiff e2) e3,fun b d e1 e2 e3 => h.bi b d (biff e1) (biff e2) e3⟩,jG⟩
 ·rw [<- NP,aaD hp hl]; exact ad.rep (h.env i)
 ·rw [own] at e;by_cases nF : q = p
  ·subst nF;rw [if_pos rfl] at e;cases e;rw [hn];exact ho
  ·rw [if_neg nF] at e;refine (h.own q k' ys e).same fun m hm => hb m ?_;rintro rfl;exact nF (h.inj q p m (by rw [e]; rfl) (by rw [hp]; rfl) hm hn)
 ·cases Hf : aN s.H b with
  | none => rw [jG.Cw b Hf] at e; cases e
  | some Xb =>
    obtain ⟨ds,q1,q2⟩ := jG.box b Xb Hf;rw [e] at q1; cases q1;obtain ⟨as,g1,g2,g3⟩ := h.box b Xb Hf;refine ⟨as,?_,by omega,fun j d hd => ⟨hkc b cs e j d hd,?_⟩⟩
    ·rw [hb]
     ·exact g1
     ·intro e3; exact h.bx b p (by rw [Hf]; rfl) (by rw [hp]; rfl) (by rw [hn,e3])
    ·obtain ⟨d0,hd0⟩ := aZ (l := Xb) (i := j) (by have := aA hd; omega);obtain ⟨_,a',a1,a2⟩ := g3 j d0 hd0;refine ⟨a',a1,?_⟩;have e3 : at_ s' (.c b j) = if Rt.c b j = p then some (.own k xs') else at_ s (.c b j) := by rw [<- NP]; exact Bj nG (fun i e => by cases e)
     rw [vF e,vF Hf,hd,hd0] at e3;by_cases Cz : Rt.c b j = p
     ·rw [if_pos Cz] at e3;cases e3
      have hat' : d0 = .own k xs := by
       rw [<- Cz,vF Hf,hd0] at uq;exact dn uq
      subst hat';simp only [jF,hl] at a2 ⊢;exact a2
     ·rw [if_neg Cz] at e3;cases e3;exact a2
theorem Pf {k off : Nat} {x : AV} {vs : List AV} (hx : x.cells.length = k) (hf : off + vs.length <= k) : (L8 k x off vs).cells = jv x.cells off vs := by
 unfold L8;split
 ·rename_i h;rw [sj];obtain ⟨rfl,hl⟩ := h;unfold jv;rw [OQ (by omega)];simp
 ·rw [sj]
theorem Rb : ∀ {cs : List AV},N3 cs = true -> iy N cs = cs
 | [],_ => rfl
 | x :: r,h => by
   simp only [N3,ae] at h;simp only [iy];rw [Rb h.2];have := (kh h.1).1;congr 1;cases x <;> first | exact ks N _ this | (simp [pl] at this; done)
theorem afZ (hm : P.follows .mixedOrders = true) (h : SB X φ w B base s (tm a)) (hg : Am.dZ (iO c) X φ w) {k k' i off : Nat} {x y : E} {p : Rt} {xs : List AV} {u : AV} (hk : cZ P o.op (lS (.st k x y)) = true) (A5 : bt c s.env x = .fa k' p i off) (hp : aC s p = some (k',xs)) (hu : xs[i]? = some u)
  (h1 : (bt c s.env y).cells.length = k) (h2 : off + k <= k') (h3 : N3 (bt c s.env y).cells = true) : lY P X φ w B base (setAt s p (.own k' (xs.set i (L8 k' u off (bt c s.env y).cells)))) .undef o a := by
 obtain ⟨N,Ha,h,hb⟩ := h;obtain ⟨⟨o1,c1⟩,o2,c2⟩ := agX hk;have hx := cP (c := c) (cA := iO c) h rfl c1;have hy := cP (c := c) (cA := iO c) h rfl c2;have dg := hx.ok;rw [A5] at dg;obtain ⟨n,hn,e2⟩ := Fh h dg;have eQ := h.own p k' xs hp;rw [hn] at eQ;obtain ⟨cs,q1,q2,q3,q4⟩ := eQ;generalize LY : (bt c s.env y).cells = vs at h1 h3 ⊢;have mq : (Am.ev (iO c) (yw N s.env) (lU y)).cells = vs := by rw [hy.ev,GK N hy.na,LY,Rb h3]
 have wx : bz vs = true := tf fun z hz => (kh (ka h3 z hz)).2;have huk : u.cells.length = k' := q3 u (bg hu);have hilt := aA hu;have wy : (i + 1) * k' <= xs.length * k' := bM k' hilt;rw [cF] at wy;have nG : i * k' + off + k <= cs.length := by omega
 refine lY.of (mw (va := .undef) (Ha' := Ha.set n (some (jv cs (i * k' + off) vs))) hm h hg hk (by simp only [lS,fW,hx.ev,A5,gL,e2,q1,mq,if_pos (⟨h1,nG,wx⟩ : vs.length = k /\ i * k' + off + k <= cs.length /\ bz vs = true)]; rfl)) fun v' w' φ' r hh ad => ?_;have Qq := Pf (k := k') (off := off) (vs := vs) huk (by omega)
 have Zt : oT (Ha.set n (some (jv cs (i * k' + off) vs))) (some n) k' (xs.set i (L8 k' u off vs)) := by
  refine ⟨jv cs (i * k' + off) vs,by rw [dH,if_pos ⟨rfl,dL q1⟩],?_,?_,?_⟩
  ·rw [cJ,gC (by omega)]; exact q2
  ·intro z hz;rcases JR hz with hz | rfl
   ·exact q3 z hz
   ·rw [Qq,gC (by omega),huk]
  ·have aez : ∀ z ∈ xs.set i (L8 k' u off vs),z.cells.length = k' := by
    intro z hz;rcases JR hz with hz | rfl
    ·exact q3 z hz
    ·rw [Qq,gC (by omega),huk]
   intro m d hd;obtain ⟨i',z,j,z1,z2,z3⟩ := (iM aez).2 m d hd;have hj : j < k' := by rw [<- aez z (bg z1)]; exact aA z2
   rw [bm] at z1;by_cases hii : i = i'
   ·subst hii;rw [if_pos rfl,if_pos hilt] at z1;cases z1;rw [Qq,kH (by omega)] at z2
    have IK : u.cells[j]? = some d -> j < off \/ ¬ j < off + vs.length -> fz d = true /\ ∃ e,(jv cs (i * k' + off) vs)[m]? = some e /\ e.leaf = true /\ Le d e := by
     intro e hc;obtain ⟨f1,e',f2,f3,f4⟩ := q4 _ d (zP q3 hu e);refine ⟨f1,e',?_,f3,f4⟩;rw [z3,kH (by omega)];rcases hc with hc | hc
     ·rw [if_pos (by omega)]; exact f2
     ·rw [if_neg (by omega),if_neg (by omega)]; exact f2
    split at z2
    ·rename_i hc; exact IK z2 (.inl hc)
    ·split at z2
     ·rename_i Ut Gg;have hz := ka h3 d (bg z2);refine ⟨hz,d,?_,(kh hz).2,Le.refl _⟩;rw [z3,kH (by omega),if_neg (by omega),if_pos (by omega),show i * k' + j - (i * k' + off) = j - off by omega];exact z2
     ·rename_i Ut Gg; exact IK z2 (.inr Gg)
   ·rw [if_neg hii] at z1;obtain ⟨f1,e',f2,f3,f4⟩ := q4 _ d (zP q3 z1 z2);refine ⟨f1,e',?_,f3,f4⟩;rw [z3,kH (by omega)];rcases Nat.lt_or_gt_of_ne hii with bL | hgt
    ·have : (i + 1) * k' <= i' * k' := bM k' bL;rw [cF] at this;rw [if_neg (by omega),if_neg (by omega)];exact f2
    ·have : (i' + 1) * k' <= i * k' := bM k' hgt;rw [cF] at this;rw [if_pos (by omega)];exact f2
 obtain ⟨hZ,jG⟩ := h.upd (xs' := xs.set i (L8 k' u off vs)) hp hn (by simp) ad hh Zt (fun m C5 => by rw [dH,if_neg (fun e => C5 e.1)]);exact eG.quiet hZ ⟨hb.1,by rw [jG.len]; exact hb.2⟩ trivial trivial r
end
end Go.Bm

/- Stores into boxes. -/
namespace Go.Bm
open Go.Am
section
variable {P : Program} {X : Nat -> Prop} {φ φ' : dy} {w w' : World} {N N' : Names} {s s' s1 : St} {Ha Ha' : Heap} {t t' : Nat -> Value} {B : Nat -> Nat} {base : Nat} {v va : AV} {v' : Value} {c : eE} {o : Oper} {a : Act} {kd : Kd}
theorem rS (i b off : Nat) : ∀ k p x l,je i b off (.dG k p x l) = .dG k (iC i b off p) x l /\ je i b off (.fa k p x l) = .fa k (iC i b off p) x l := fun _ _ _ _ => ⟨rfl,rfl⟩
theorem vW (N : Names) (i : Nat) (v : AV) : (ku N i v).cells.length = v.cells.length /\ ∀ (j : Nat) (d : AV),v.cells[j]? = some d -> (ku N i v).cells[j]? = some (jF N (match v with
  | .agg _ => .sc i j
  | _ => .s i) d) := by
 by_cases ha : ∃ cs,v = .agg cs
 ·obtain ⟨cs,rfl⟩ := ha;simp only [ku,AV.cells];exact ⟨iI _ _ _ _,fun j d hd => by rw [fZ,hd]; simp⟩
 ·have hn : jP v := fun cs e => ha ⟨cs,e⟩;have e1 : ku N i v = jF N (.s i) v := by cases v <;> first | rfl | exact absurd rfl (hn _)
  have e2 : v.cells = [v] := by cases v <;> first | rfl | exact absurd rfl (hn _)
  have e3 : (jF N (.s i) v).cells = [jF N (.s i) v] := by
   cases v <;> first
    | rfl
    | exact absurd rfl (hn _)
    | (rename_i k xs; simp only [jF,rO]; cases N.ν (.s i) <;> rfl)
    | (rename_i k p x l; simp only [jF,cM]; cases N.ν p <;> rfl)
  rw [e1,e2,e3];refine ⟨rfl,fun j d hd => ?_⟩;cases j with
  | zero =>
    simp at hd;subst hd;cases v <;> first | rfl | exact absurd rfl (hn _)
  | succ j => simp at hd
theorem FT {g : AV -> AV} (hg : jX g) (v : AV) : (cN g v).cells = de g v.cells := by
 by_cases ha : ∃ cs,v = .agg cs
 ·obtain ⟨cs,rfl⟩ := ha;simp [cN,AV.cells]
 ·have hn : jP v := fun cs e => ha ⟨cs,e⟩;have hn2 := kZ hg hn;have e2 : v.cells = [v] := by cases v <;> first | rfl | exact absurd rfl (hn _)
  rw [e2];simp only [de];generalize cN g v = y at hn2;cases y <;> first | rfl | exact absurd rfl (hn2 _)
def qq (i : Nat) (v : AV) (j : Nat) : Rt :=
 match v with
 | .agg _ => .sc i j
 | _ => .s i
theorem WK {i : Nat} {j : Nat} {d : AV} (h : (get s.env i).cells[j]? = some d) : at_ s (qq i (get s.env i) j) = some d := by
 by_cases ha : ∃ cs,get s.env i = .agg cs
 ·obtain ⟨cs,e⟩ := ha;rw [e] at h ⊢;simp only [qq];rw [GU e];exact h
 ·have hn : jP (get s.env i) := fun cs e => ha ⟨cs,e⟩
  have e2 : (get s.env i).cells = [get s.env i] := by
   generalize get s.env i = v at hn;cases v <;> first | rfl | exact absurd rfl (hn _)
  have e3 : qq i (get s.env i) j = .s i := by
   generalize get s.env i = v at hn;cases v <;> first | rfl | exact absurd rfl (hn _)
  rw [e2] at h;rw [e3];cases j with
  | zero => simp at h; rw [<- h]; rfl
  | succ j => simp at h
theorem eR.ac1 (h : eR X φ w N s Ha t) {i b off k : Nat} {cs as : List AV} (hb : aN s.H b = some cs) (has : aN Ha (N.β b) = some as) (hk : (get s.env i).cells.length = k) (nG : off + k <= cs.length)
  (hC : ∀ r x,at_ s r = some x -> ∀ p ∈ aP x,cW b off k p = false)
  (ad : fJ φ w φ' w') (hh : cG X φ' w' (Ha.set (N.β b) (some (jv as off (ku N i (get s.env i)).cells))))
  (he : ∀ j,get s'.env j = if j = i then .any else cN (je i b off) (get s.env j)) (hH : s'.H = (ft (je i b off) s.H).set b (some (jv (de (je i b off) cs) off (cN (je i b off) (get s.env i)).cells))) (ht : ∀ j,j ≠ i -> t' j = t j) :
  ∃ N',N'.β = N.β /\ eR X φ' w' N' s' (Ha.set (N.β b) (some (jv as off (ku N i (get s.env i)).cells))) t' := by
 have hg := rS i b off;have hL := T2 i b off;generalize hv : get s.env i = v at *;obtain ⟨tc1,tc2⟩ := vW N i v;have hblt := dL hb;have halt := dL has
 have hasl : as.length = cs.length := by
  obtain ⟨as',g1,g2,_⟩ := h.box b cs hb;rw [has] at g1; cases g1; exact g2
 have Qp : (cN (je i b off) v).cells = de (je i b off) v.cells := FT hL v
 -- where a place of the new state comes from
 obtain ⟨u,hu1,hu2⟩ : ∃ u : Rt -> Rt,(∀ j,off <= j -> j < off + k -> u (.c b j) = qq i v (j - off)) /\ ∀ q,cW b off k q = false -> u q = q :=
  ⟨fun q => match q with
   | .c d j => if d = b /\ off <= j /\ j < off + k then qq i v (j - off) else .c d j
   | q => q,fun j h1 h2 => by simp [h1,h2],fun q hq => by
     cases q with
     | s j => rfl
     | sc j l => rfl
     | c d j =>
       simp only [cW,O9,decide_eq_false_iff_not] at hq;have : ¬ (d = b /\ off <= j /\ j < off + k) := by omega
       simp [this]⟩
 have blkH : ∀ d,aN s'.H d = if d = b then some (jv (de (je i b off) cs) off (de (je i b off) v.cells)) else (aN s.H d).map (de (je i b off)) := by
  intro d;rw [hH,dH,fk,Qp,fw];by_cases e : d = b
  ·subst e; simp [hblt]
  ·simp [e]
 have atq : ∀ q,bD i q = false -> cW b off k q = false -> at_ s' q = (at_ s q).map (cN (je i b off)) := by
  intro q h1 h2;cases q with
  | s j => simp only [bD,decide_eq_false_iff_not] at h1; simp [at_,he,h1]
  | sc j l =>
    simp only [bD,decide_eq_false_iff_not] at h1;have := jA hL s (.sc j l);simp only [at_,cz,dt] at this;simp only [at_,he,if_neg h1];exact this
  | c d j =>
    simp only [at_,blkH];by_cases e : d = b
    ·subst e;simp only [if_true,hb];simp only [cW,decide_true,eh,O9,decide_eq_false_iff_not] at h2;rw [kH (by rw [cI,cI,hk]; exact nG),cI,hk];by_cases c1 : j < off
     ·rw [if_pos c1,eJ]
     ·rw [if_neg c1,if_neg (by omega),eJ]
    ·simp only [if_neg e];cases aN s.H d with
     | none => rfl
     | some ds => simp [eJ]
 have atb : ∀ j,off <= j -> j < off + k -> at_ s' (.c b j) = (v.cells[j - off]?).map (cN (je i b off)) := by
  intro j h1 h2;simp only [at_,blkH,if_true];rw [kH (by rw [cI,cI,hk]; exact nG),cI,hk,if_neg (by omega),if_pos h2,eJ]
 have ati : ∀ q,bD i q = true -> aC s' q = none := by
  intro q hq;cases q with
  | s j => simp only [bD,decide_eq_true_eq] at hq; subst hq; unfold aC; simp [at_,he]
  | sc j l => simp only [bD,decide_eq_true_eq] at hq; subst hq; unfold aC; simp [at_,he]
  | c d j => simp [bD] at hq
 have cellAt : ∀ j d,v.cells[j]? = some d -> at_ s (qq i v j) = some d := fun j d hd => by
  have := WK (s := s) (i := i) (j := j) (d := d) (by rw [hv]; exact hd)
  rwa [hv] at this
 have own : ∀ q k' xs,aC s' q = some (k',xs) -> aC s (u q) = some (k',xs) := by
  intro q k' xs e
  have hqi : bD i q = false := by
   cases e2 : bD i q with
   | true => rw [ati q e2] at e; cases e
   | false => rfl
  have e' := cu.1 e;cases hq : cW b off k q with
  | false =>
    rw [hu2 q hq];rw [atq q hqi hq] at e';cases ha : at_ s q with
    | none => rw [ha] at e'; cases e'
    | some x =>
      rw [ha] at e';simp only [dc,ah] at e';rw [ve hL] at e';subst e';exact cu.2 ha
  | true =>
    cases q with
    | s j => simp [cW] at hq
    | sc j l => simp [cW] at hq
    | c d j =>
      simp only [cW,ae,decide_eq_true_eq] at hq;obtain ⟨rfl,h1,h2⟩ := hq;rw [hu1 j h1 h2];rw [atb j h1 h2] at e';cases ha : v.cells[j - off]? with
      | none => rw [ha] at e'; cases e'
      | some x =>
        rw [ha] at e';simp only [dc,ah] at e';rw [ve hL] at e';subst e';exact cu.2 (cellAt _ _ ha)
 have ahh : (∃ ds,v = .agg ds) \/ (jP v /\ v.cells = [v] /\ ∀ j,qq i v j = .s i) := by
  by_cases ha : ∃ ds,v = .agg ds
  ·exact .inl ha
  ·have hn : jP v := fun ds e => ha ⟨ds,e⟩;refine .inr ⟨hn,?_,fun j => ?_⟩
   ·cases v <;> first | rfl | exact absurd rfl (hn _)
   ·cases v <;> first | rfl | exact absurd rfl (hn _)
 -- an owner that was, where it is now
 have VD : ∀ p,(aC s p).isSome -> cW b off k p = false -> aC s' (iC i b off p) = aC s p /\ u (iC i b off p) = p := by
  intro p hp hc;obtain ⟨⟨k',xs⟩,e⟩ := aQ.1 hp;have e' := cu.1 e;cases Zq : bD i p with
  | false =>
    have hm : iC i b off p = p := by
     cases p with
     | s j => simp only [bD,decide_eq_false_iff_not] at Zq; simp [iC,Zq]
     | sc j l => simp only [bD,decide_eq_false_iff_not] at Zq; simp [iC,Zq]
     | c d j => rfl
    rw [hm];refine ⟨?_,hu2 p hc⟩;rw [<- iB hL s p];exact iA (by rw [atq p Zq hc,jA hL])
  | true =>
    cases p with
    | s j =>
      simp only [bD,decide_eq_true_eq] at Zq;subst Zq;simp only [at_,ah] at e';rw [hv] at e';subst e';have hk1 : k = 1 := by rw [<- hk]; rfl
      subst hk1;have hm : iC j b off (.s j) = .c b off := by simp [iC]
      rw [hm,hu1 off (aT _) (by omega)];refine ⟨?_,rfl⟩;rw [e];exact cu.2 (by rw [atb off (aT _) (by omega)]; simp [AV.cells,cN])
    | sc j l =>
      simp only [bD,decide_eq_true_eq] at Zq;subst Zq;simp only [at_,hv] at e';split at e'
      case h_2 => cases e'
      rename_i ds;have hl : l < k := by rw [<- hk]; exact aA e'
      have hm : iC j b off (.sc j l) = .c b (off + l) := by simp [iC]
      rw [hm,hu1 (off + l) (by omega) (by omega)];refine ⟨?_,by simp [qq]⟩;rw [e];exact cu.2 (by rw [atb (off + l) (by omega) (by omega)]; simp [AV.cells,e',cN])
    | c d j => simp [bD] at Zq
 have back : ∀ q,(aC s' q).isSome -> iC i b off (u q) = q := by
  intro q hq
  have hqi : bD i q = false := by
   cases e2 : bD i q with
   | true => rw [ati q e2] at hq; cases hq
   | false => rfl
  cases hc : cW b off k q with
  | false =>
    rw [hu2 q hc];cases q with
    | s j => simp only [bD,decide_eq_false_iff_not] at hqi; simp [iC,hqi]
    | sc j l => simp only [bD,decide_eq_false_iff_not] at hqi; simp [iC,hqi]
    | c d j => rfl
  | true =>
    cases q with
    | s j => simp [cW] at hc
    | sc j l => simp [cW] at hc
    | c d j =>
      simp only [cW,ae,decide_eq_true_eq] at hc;obtain ⟨rfl,h1,h2⟩ := hc;rw [hu1 j h1 h2];rcases ahh with ⟨ds,rfl⟩ | ⟨_,Ut,hp1⟩
      ·simp only [qq,iC,if_true];rw [show off + (j - off) = j by omega]
      ·rw [hp1];have : k = 1 := by rw [<- hk,Ut]; rfl
       simp only [iC,if_true];rw [show off = j by omega]
 have hlen : s'.H.length = s.H.length := by rw [hH,cJ,fw]
 obtain ⟨N',eO,hN⟩ : ∃ N' : Names,N'.β = N.β /\ ∀ q,N'.ν q = N.ν (u q) := ⟨⟨N.β,fun q => N.ν (u q)⟩,rfl,fun _ => rfl⟩;have kR : ∀ p,(aC s p).isSome -> cW b off k p = false -> N'.ν (iC i b off p) = N.ν p := fun p hp hc => by rw [hN,(VD p hp hc).2]
 have bor1 : ∀ {r x},at_ s r = some x -> (∀ p ∈ aP x,N'.ν (iC i b off p) = N.ν p) /\ cK (aC s') s'.H.length (cN (je i b off) x) := by
  intro r x hx;refine ⟨fun p hp => kR p (h.dG hx p hp) (hC r x hx p hp),?_⟩;rw [hlen];exact MM hg x (fun p hp => (VD p (h.dG hx p hp) (hC r x hx p hp)).1) (h.zr hx)
 have so : ∀ {q},(aC s' q).isSome -> (aC s (u q)).isSome := by
  intro q hq;obtain ⟨⟨k',xs⟩,e⟩ := aQ.1 hq;rw [own q k' xs e]; rfl
 have sb : ∀ {d},(aN s'.H d).isSome -> (aN s.H d).isSome := by
  intro d hd;rw [blkH] at hd;by_cases e : d = b
  ·subst e; rw [hb]; rfl
  ·rw [if_neg e] at hd;cases e2 : aN s.H d with
   | none => rw [e2] at hd; cases hd
   | some _ => rfl
 refine ⟨N',eO,⟨fun j => ?_,fun j => ?_,hh,fun q k' xs e => ?_,fun d ds e => ?_,fun p q n e1 e2 e3 e4 => ?_,fun d q e1 e2 e3 => ?_,fun d e e1 e2 e3 => ?_⟩⟩
 ·rw [he];by_cases HD : j = i
  ·rw [if_pos HD]; exact .any _ _
  ·rw [if_neg HD,ht j HD];rw [JU (N := N) (i := j) eO hg (by rw [hN,hu2 _ rfl]) (fun l => by rw [hN,hu2 _ rfl]) (bor1 (r := .s j) rfl).1];exact ad.rep (h.env j)
 ·rw [he];by_cases HD : j = i
  ·rw [if_pos HD]; trivial
  ·rw [if_neg HD]; exact (bor1 (r := .s j) rfl).2
 ·have e2 := own q k' xs e;rw [hN];refine (h.own _ k' xs e2).same fun n hn => ?_;rw [dH,if_neg];rintro ⟨e3,_⟩;exact h.bx b (u q) (by rw [hb]; rfl) (by rw [e2]; rfl) (by rw [hn,e3])
 ·rw [blkH] at e;by_cases hd : d = b
  ·subst hd;rw [if_pos rfl] at e;cases e;refine ⟨jv as off (ku N i v).cells,by rw [eO,dH,if_pos ⟨rfl,halt⟩],?_,fun j x hx => ?_⟩
   ·rw [gC (by rw [tc1,hk]; omega),gC (by rw [cI,cI,hk]; omega),cI,hasl]
   ·rw [kH (by rw [cI,cI,hk]; exact nG),cI,hk] at hx
    have outside : (de (je i d off) cs)[j]? = some x -> cW d off k (.c d j) = false -> (∀ hj : True,(jv as off (ku N i v).cells)[j]? = as[j]?) -> cK (aC s') s'.H.length x /\ ∃ a',(jv as off (ku N i v).cells)[j]? = some a' /\ Le (jF N' (.c d j) x) a' := by
     intro hx hc hov;rw [eJ] at hx;cases Gh : cs[j]? with
     | none => rw [Gh] at hx; cases hx
     | some x0 =>
       rw [Gh] at hx;simp at hx;subst hx;obtain ⟨as2,g1,g2,g3⟩ := h.box d cs hb;rw [has] at g1; cases g1;obtain ⟨_,a',a1,a2⟩ := g3 j x0 Gh;have r9 := bor1 (r := .c d j) (x := x0) (by rw [vF hb]; exact Gh);refine ⟨r9.2,a',by rw [hov trivial]; exact a1,?_⟩;rw [xt (N := N) (r := .c d j) eO hg (fun _ _ _ => by rw [hN,hu2 _ hc]) r9.1];exact a2
    split at hx
    ·rename_i c1;exact outside hx (by simp [cW]; omega) (fun _ => by rw [kH (by rw [tc1,hk]; omega),if_pos c1])
    ·split at hx
     ·rename_i c1 c2;rw [eJ] at hx;cases Gh : v.cells[j - off]? with
      | none => rw [Gh] at hx; cases hx
      | some x0 =>
        rw [Gh] at hx;simp at hx;subst hx;have r9 := bor1 (cellAt _ _ Gh);refine ⟨r9.2,jF N (qq i v (j - off)) x0,?_,?_⟩
        ·rw [kH (by rw [tc1,hk]; omega),if_neg c1,if_pos (by rw [tc1,hk]; exact c2),tc2 _ _ Gh];cases v <;> rfl
        ·rw [xt (N := N) (r := qq i v (j - off)) eO hg (fun _ _ _ => by rw [hN,hu1 j (by omega) c2]) r9.1];exact Le.refl _
     ·rename_i c1 c2;exact outside hx (by simp [cW]; omega) (fun _ => by rw [kH (by rw [tc1,hk]; omega),if_neg c1,if_neg (by rw [tc1,hk]; exact c2)])
  ·rw [if_neg hd] at e;cases wz : aN s.H d with
   | none => rw [wz] at e; cases e
   | some ds0 =>
     rw [wz] at e;simp at e;subst e;obtain ⟨as2,g1,g2,g3⟩ := h.box d ds0 wz;refine ⟨as2,?_,by rw [cI]; exact g2,fun j x hx => ?_⟩
     ·rw [eO,dH,if_neg]
      ·exact g1
      ·rintro ⟨e3,_⟩;exact hd (h.bi d b (by rw [wz]; rfl) (by rw [hb]; rfl) e3)
     ·rw [eJ] at hx;cases Gh : ds0[j]? with
      | none => rw [Gh] at hx; cases hx
      | some x0 =>
        rw [Gh] at hx;simp at hx;subst hx;obtain ⟨_,a',a1,a2⟩ := g3 j x0 Gh;have r9 := bor1 (r := .c d j) (x := x0) (by rw [vF wz]; exact Gh);refine ⟨r9.2,a',a1,?_⟩;rw [xt (N := N) (r := .c d j) eO hg (fun _ _ _ => by rw [hN,hu2 _ (by simp [cW,hd])]) r9.1];exact a2
 ·rw [hN] at e3 e4;have := h.inj _ _ n (so e1) (so e2) e3 e4;rw [<- back p e1,this,back q e2]
 ·rw [hN,eO] at e3;exact h.bx d _ (sb e1) (so e2) e3
 ·rw [eO] at e3;exact h.bi d e (sb e1) (sb e2) e3
end
end Go.Bm

/- Stores. -/
namespace Go.Bm
open Go.Am
section
variable {P : Program} {X : Nat -> Prop} {φ φ' : dy} {w w' : World} {N N' : Names} {s s' s1 : St} {Ha Ha' : Heap} {t t' : Nat -> Value} {B : Nat -> Nat} {base : Nat} {v va : AV} {v' : Value} {c : eE} {o : Oper} {a : Act} {kd : Kd}
theorem acm {op : Op} {k : Nat} {x y : E} (h : cZ P op (.st k x y) = true) : ∃ ty xo yo,op = .store ty xo yo /\ mz P ty k = true /\ df xo x = true /\ df yo y = true := by
 unfold cZ at h;split at h <;> simp_all
 exact ⟨_,_,_,⟨rfl,rfl,rfl⟩,h.1.1,h.1.2,h.2⟩
theorem HX (h : eR X φ w N s Ha t) {i : Nat} (hl : bz (get s.env i).cells = true) : bz (ku N i (get s.env i)).cells = true := by
 obtain ⟨h1,h2⟩ := vW N i (get s.env i);refine tf fun d hd => ?_;obtain ⟨j,hj⟩ := bG hd;obtain ⟨x,hx⟩ := aZ (l := (get s.env i).cells) (i := j) (by have := aA hj; omega);rw [h2 j x hx] at hj;cases hj;have hxl := vJ hl x (bg hx);have dg := CU (u6 (h.Cu i)) x (bg hx);by_cases ho : ∃ k xs,x = .own k xs
 ·obtain ⟨k,xs,rfl⟩ := ho;simp only [jF,rO];split <;> rfl
 ·have := K1 h hxl dg;cases x <;> first | exact this | exact absurd ⟨_,_,rfl⟩ ho
theorem Cc : ∀ {ds : List AV},bK ds = false -> ∀ x ∈ ds,∀ k xs,x ≠ .own k xs
 | [],_,x,hx => by simp at hx
 | y :: r,h,x,hx => by
   intro k xs e;subst e;obtain ⟨j,hj⟩ := bG hx;exact yb h j k xs hj
theorem Dz {b off k : Nat} {cs : List AV} (hb : aN s.H b = some cs) (ho : bK ((cs.drop off).take k) = false) {p : Rt} (hp : (aC s p).isSome) : cW b off k p = false := by
 cases p with
 | s j => rfl
 | sc j l => rfl
 | c d j =>
   cases e : cW b off k (.c d j) with
   | false => rfl
   | true =>
     simp only [cW,ae,decide_eq_true_eq] at e;obtain ⟨rfl,h1,h2⟩ := e;obtain ⟨⟨k',xs⟩,e2⟩ := aQ.1 hp;have e3 := cu.1 e2;rw [vF hb] at e3;refine absurd rfl (Cc ho (.own k' xs) ?_ k' xs);refine bg (i := j - off) ?_;rw [bF,if_pos (by omega),aU,show off + (j - off) = j by omega];exact e3
theorem ML (hm : P.follows .mixedOrders = true) (h : SB X φ w B base s (tm a)) (hg : Am.dZ (iO c) X φ w) {k b off : Nat} {x y : E} {f : Fq} (hk : cZ P o.op (lS (.st k x y)) = true) (A5 : bt c s.env x = .ptr b off) (hs : wR s b off k (bt c s.env y) = some (s',f)) : lY P X φ w B base s' .undef o a := by
 obtain ⟨N,Ha,h,hbB,Xa⟩ := h;obtain ⟨ty,xo,yo,fu,qg,c1,c2⟩ := acm hk;have hx := cP (c := c) (cA := iO c) h rfl c1;have hy := cP (c := c) (cA := iO c) h rfl c2;have he : nQ X φ w (yw N s.env) a.tmps := fun i => by rw [lP]; exact h.env i
 have rx := bX (a := a) he hg c1;have ry := bX (a := a) he hg c2;rw [hx.ev,A5] at rx;rw [hy.evQ] at ry;simp only [gL,cM] at rx;have hpo : eG X φ w N.β s.H.length s (bt c s.env y) (tm a) (a.eval yo) := eG.quiet h ⟨fun _ _ => rfl,aT _⟩ hy.ok hy.EO ry;generalize bt c s.env y = v at *;unfold wR at hs;split at hs
 case h_2 => cases hs
 rename_i cs dP;split at hs
 case isFalse => cases hs
 rename_i aiM;obtain ⟨q1,q2,q3⟩ := aiM;have hblt := dL dP;split at hs
 ·split at hs
  case h_2 => cases hs
  rename_i HG;split at hs
  case h_2 => cases hs
  rename_i s2 hh;simp at hs;obtain ⟨rfl,_⟩ := hs;obtain ⟨nk,C3,ad1⟩ := SB.xx b k off (hpo.put fe HG);generalize xx b off k ⟨put s.env fe v,s.H⟩ = s1 at hh C3;obtain ⟨N1,Ha1,hZ,zL,hl1⟩ := C3;have hL := T2 fe b off;unfold qQ at hh;split at hh
  case h_2 => cases hh
  rename_i cs2 NT;split at hh
  case isFalse => cases hh
  rename_i Gg;obtain ⟨r1,r2,r3,r4⟩ := Gg;simp at hh;subst hh;simp only [cz,fk,dt] at NT r1 r2 r3 r4 ⊢;cases ZB : aN s1.H b with
  | none => rw [ZB] at NT; cases NT
  | some cs1 =>
    rw [ZB] at NT;simp at NT;subst NT;rw [FT hL] at r1 r4;rw [cI] at r1 r2
    have wx : bz (get s1.env fe).cells = true := by
     refine tf fun d hd => ?_;obtain ⟨j,hj⟩ := bG hd;have := vJ r4 (cN (je fe b off) d) (bg (i := j) (by rw [eJ,hj]; rfl));cases d <;> first | rfl | exact this
    have iK : bK ((cs1.drop off).take k) = false := by
     have key : ∀ {l : List AV},bK (de (je fe b off) l) = false -> bK l = false := by
      intro l
      induction l with
      | nil => intro _; rfl
      | cons z r ih =>
        intro h;simp only [de] at h;cases z <;> simp [cN,je,bK] at h ⊢ <;> exact ih h
     apply key
     have : (de (je fe b off) cs1).drop off = de (je fe b off) (cs1.drop off) := by
      apply dT; intro j; rw [aU,eJ,eJ,aU]
     rw [this] at r3
     have h2 : (de (je fe b off) (cs1.drop off)).take k = de (je fe b off) ((cs1.drop off).take k) := by
      apply dT; intro j; rw [bF,eJ,eJ,bF]; split <;> rfl
     rw [h2] at r3;exact r3
    obtain ⟨as,g1,g2,g3⟩ := hZ.box b cs1 ZB;have hβ1 : N1.β b = N.β b := zL b hblt;refine lY.ghost ad1 ?_;have dg := Ym (P := P) fu hZ.heap g1 qg (by rw [hβ1]; exact ad1.rep rx) (by have := hZ.env fe; simp only [if_true] at this; exact this) (by rw [(vW N1 fe _).1]; exact r1) (by omega) (HX hZ wx);refine lY.of dg fun v' w' φ' r hh ad => ?_
    obtain ⟨N',e1,Pq⟩ := hZ.ac1 (i := fe) (b := b) (off := off) (k := k) (s' := ⟨put (j7 (je fe b off) s1.env) fe .any,(ft (je fe b off) s1.H).set b (some (jv (de (je fe b off) cs1) off (cN (je fe b off) (get s1.env fe)).cells))⟩) (t' := tm a)
     ZB g1 r1 r2 (fun rr z hz p hp => Dz ZB iK (hZ.dG hz p hp)) ad hh (fun j => by simp only [bE,dt]) rfl (fun j hj => by simp [hj])
    refine eG.quiet Pq ⟨fun d hd => ?_,?_⟩ trivial trivial r
    ·rw [e1,zL d (by omega)]; exact hbB d hd
    ·simp only [cJ,fw]; omega
 ·rename_i aew;simp at hs;obtain ⟨rfl,_⟩ := hs;obtain ⟨i,hi,_⟩ := Jj s.env [];obtain ⟨N1,Ha1,hZ,zL,hl1⟩ := hpo.put i hi;have hio : bJ (get s.env i) = false := by rw [hi]; rfl
  obtain ⟨as,g1,g2,g3⟩ := hZ.box b cs dP;have hβ1 : N1.β b = N.β b := zL b hblt;have gi : get (put s.env i v) i = v := by rw [bE,if_pos rfl]
  have wx : bz (get (put s.env i v) i).cells = true := by rw [gi]; exact q3
  have MX : ∀ {p},(aC s p).isSome -> iC i b off p = p := by
   intro p hp;have := ta hio hp;cases p with
   | s j => simp only [bD,decide_eq_false_iff_not] at this; simp [iC,this]
   | sc j l => simp only [bD,decide_eq_false_iff_not] at this; simp [iC,this]
   | c d j => rfl
  have dg := Ym (P := P) fu hZ.heap g1 qg (by rw [hβ1]; exact rx) (by have := hZ.env i; simp only [if_true] at this; exact this) (by rw [(vW N1 i _).1,gi]; exact q1) (by omega) (HX hZ wx);refine lY.of dg fun v' w' φ' r hh ad => ?_
  have hnoC : ∀ r z,at_ ⟨put s.env i v,s.H⟩ r = some z -> ∀ p ∈ aP z,cW b off k p = false := by
   intro r z hz p hp;simp only [ae,not_and,Bool.not_eq_true] at aew;cases hod : bK ((cs.drop off).take k) with
   | false => exact Dz (s := ⟨put s.env i v,s.H⟩) dP hod (hZ.dG hz p hp)
   | true =>
     have hn := aew hod;simp only [GZ,eP] at hn;cases r with
     | s j =>
       simp only [at_,bE,ah] at hz;subst hz;split at hp
       ·exact jW hn.1 p hp
       ·exact qu hn.2.1 j p hp
     | sc j l =>
       simp only [at_,bE] at hz;split at hz
       ·rename_i ds mX;split at mX
        ·subst mX;exact jW hn.1 p (by simp only [aP]; exact kA hz hp)
        ·exact qu hn.2.1 j p (by rw [mX]; simp only [aP]; exact kA hz hp)
       ·cases hz
     | c d l =>
       simp only [at_] at hz;split at hz
       ·rename_i ds mX;exact tc hn.2.2 d ds mX p (kA hz hp)
       ·cases hz
  obtain ⟨N',e1,Pq⟩ := hZ.ac1 (i := i) (b := b) (off := off) (k := k) (s' := ⟨s.env,s.H.set b (some (jv cs off v.cells))⟩) (t' := tm a) dP g1 (by rw [gi]; exact q1) q2 hnoC ad hh
   (fun j => by
    simp only [bE];by_cases hj : j = i
    ·rw [if_pos hj,hj]; exact hi
    ·rw [if_neg hj,if_neg hj,qN (rS i b off) _ (fun p hp => MX (h.dG (r := .s j) rfl p hp))])
   (by
    simp only [gi]
    rw [CW (rS i b off) s.H (fun d ds hd p hp => MX (by
     obtain ⟨j,z,h1,h2⟩ := Dd hp;exact h.dG (r := .c d j) (by rw [vF hd]; exact h1) p h2)),
     qe (rS i b off) cs (fun p hp => MX (by
     obtain ⟨j,z,h1,h2⟩ := Dd hp;exact h.dG (r := .c b j) (by rw [vF dP]; exact h1) p h2)),
     qN (rS i b off) v (fun p hp => MX (AK v hpo.ok p hp))])
   (fun j hj => by simp [hj])
  refine eG.quiet Pq ⟨fun d hd => ?_,?_⟩ trivial trivial r
  ·rw [e1,zL d (by omega)]; exact hbB d hd
  ·simp only [cJ]; omega
end
end Go.Bm

/- Every operation that calls nothing. -/
namespace Go.Bm
open Go.Am
def lM : Kd -> Bool
 | .call _ _ => true
 | .jc _ _ => true
 | _ => false
section
variable {P : Program} {X : Nat -> Prop} {φ φ' : dy} {w w' : World} {N N' : Names} {s s' s1 : St} {Ha Ha' : Heap} {t t' : Nat -> Value} {B : Nat -> Nat} {base : Nat} {v va : AV} {v' : Value} {c : eE} {o : Oper} {a : Act} {kd : Kd} {call : Nat -> List AV -> Heap -> Option (AV × Heap)}
theorem Tz (hm : P.follows .mixedOrders = true) (h : SB X φ w B base s (tm a)) (hg : Am.dZ (iO c) X φ w) {k : Nat} {zs : List AV} {x : E} (hk : cZ P o.op (lS (.Ov k zs x)) = true) (A5 : (∃ k',bt c s.env x = .own k' []) \/ ∃ k',bt c s.env x = .list k' []) : lY P X φ w B base s .undef o a := by
 obtain ⟨N,Ha,h,hb⟩ := h;obtain ⟨_,o1,h1⟩ := acB hk;have hx := cP (c := c) (cA := iO c) h rfl h1;refine lY.of (mw (va := .undef) (Ha' := Ha) hm h hg hk (fl := .wr Ha.length []) ?_) fun v' w' φ' r hh ad => ?_
 ·rcases A5 with ⟨k',e⟩ | ⟨k',e⟩ <;> simp only [lS,fW,hx.ev,e,gL,cM]
 ·exact eG.quiet (h.my ad hh h.own (fun _ _ => rfl)) hb trivial trivial r
theorem abn (hm : P.follows .mixedOrders = true) (h : SB X φ w B base s (tm a)) (hg : Am.dZ (iO c) X φ w) {n m b off : Nat} {x : E} {hi : Option E} {cs : List AV} (hk : cZ P o.op (lS (.HK n x hi)) = true) (e1 : bt c s.env x = .ptr b off) (wz : yk c s.env n n hi = some m) (hbk : aN s.H b = some cs) (hl : off + n <= cs.length) : lY P X φ w B base s (.sl 1 b off m) o a := by
 obtain ⟨N,Ha,h,hb⟩ := h;obtain ⟨⟨o1,h1⟩,h2⟩ := UR hk;have hx := cP (c := c) (cA := iO c) h rfl h1;have g2 := QR (cA := iO c) h rfl h2 wz;obtain ⟨as,a1,a2,_⟩ := h.box b cs hbk;refine lY.of (mw (va := .sl 1 (N.β b) off m) (Ha' := Ha) hm h hg hk (fl := .rd (N.β b)) ?_) fun v' w' φ' r hh ad => ?_
 ·simp only [lS,fW,hx.ev,e1,gL,cM,g2,a1,a2];rw [if_pos hl]
 ·exact eG.quiet (h.my ad hh h.own (fun _ _ => rfl)) hb (dL hbk) trivial r
theorem ZM {k off : Nat} {xs ys : List AV} (h1 : ∀ x ∈ xs,x.cells.length = k) (h2 : ∀ y ∈ ys,y.cells.length = k) : aH (jv xs off ys) = jv (aH xs) (off * k) (aH ys) := by
 unfold jv;rw [kb,kb,wC h1,Jr h1,jx h2,cF]
theorem Yr (hm : P.follows .mixedOrders = true) (h : SB X φ w B base s (tm a)) (hg : Am.dZ (iO c) X φ w) {k off n : Nat} {x y : E} (hk : cZ P o.op (lS (.copy k x y)) = true) {p : Rt} {xs ys : List AV} (A5 : bt c s.env x = .dG k p off n) (hp : aC s p = some (k,xs)) (hle : off + n <= xs.length) (hn0 : n ≠ 0) (hy : cont s k (bt c s.env y) = some ys) (wx : bz (aH ys) = true) : lY P X φ w B base (setAt s p (.own k (jv xs off (ys.take (min ys.length n))))) (.int .i64 (min ys.length n : Nat)) o a := by
 obtain ⟨N,Ha,h,hb⟩ := h;obtain ⟨⟨o1,h1⟩,o2,h2⟩ := Oy hk;have hx := cP (c := c) (cA := iO c) h rfl h1;have dg := hx.ok;rw [A5] at dg;obtain ⟨news,n1,n2,n3,n4,n5⟩ := Dc h hg h2 hy wx;have eQ := h.own p k xs hp;rcases re h dg with ⟨b,hn,e2⟩ | ⟨_,_,NQ,_⟩
 case inr => exact absurd NQ hn0
 rw [hn] at eQ;obtain ⟨cs,q1,q2,q3,q4⟩ := eQ
 have hlk : off * k + n * k <= cs.length := by
  have := bM k hle;rw [cF] at this; omega
 generalize hm2 : min ys.length n = m;have hm3 : m <= n /\ m <= ys.length := by omega
 have hmk : m * k <= n * k := bM k hm3.1
 have hml : (news.take (m * k)).length = m * k := by
  rw [bC,n2];have := bM k hm3.2;omega
 have LZ : ∀ z ∈ ys.take m,z.cells.length = k := fun z hz => n3 z (c8 hz);have Qm : aH (ys.take m) = (aH ys).take (m * k) := wC n3 m;have hyl : (ys.take m).length = m := by rw [bC]; omega
 have hfl2 : (aH (ys.take m)).length = m * k := by rw [jx LZ,hyl]
 have hxk : off * k + m * k <= (aH xs).length := by
  rw [jx q3];have := bM k hle;rw [cF] at this; omega
 refine lY.of (mw (va := .int .i64 (m : Nat)) (Ha' := Ha.set b (some (jv cs (off * k) (news.take (m * k))))) hm h hg hk (fl := .wr Ha.length [b]) ?_) fun v' w' φ' r hh ad => ?_
 ·simp only [lS,fW,n1,hx.ev,A5,gL,e2,q1,hm2];rw [if_pos ⟨trivial,hlk,n4⟩]
 have Zt : oT (Ha.set b (some (jv cs (off * k) (news.take (m * k))))) (some b) k (jv xs off (ys.take m)) := by
  refine ⟨jv cs (off * k) (news.take (m * k)),by rw [dH,if_pos ⟨rfl,dL q1⟩],?_,?_,?_⟩
  ·rw [gC (by rw [hyl]; omega),gC (by rw [hml]; omega)]; exact q2
  ·intro z hz;unfold jv at hz;simp only [aG] at hz;rcases hz with (hz | hz) | hz
   ·exact q3 z (c8 hz)
   ·exact LZ z hz
   ·exact q3 z (c9 hz)
  ·intro i d hd;rw [ZM q3 LZ,kH (by rw [hfl2]; exact hxk),hfl2] at hd;rw [kH (by rw [hml]; omega),hml];split
   ·rename_i hc; rw [if_pos hc] at hd; exact q4 i d hd
   ·rename_i hc;rw [if_neg hc] at hd;split
    ·rename_i Gg;rw [if_pos Gg,Qm,bF,if_pos (by omega)] at hd;obtain ⟨f1,e,f2,f3,f4⟩ := n5 _ d hd;exact ⟨f1,e,by rw [bF,if_pos (by omega)]; exact f2,f3,f4⟩
    ·rename_i Gg; rw [if_neg Gg] at hd; exact q4 i d hd
 obtain ⟨hZ,jG⟩ := h.upd (xs' := jv xs off (ys.take m)) hp hn (gC (by rw [hyl]; omega)) ad hh Zt (fun m' C5 => by rw [dH,if_neg (fun e => C5 e.1)]);exact eG.quiet hZ ⟨hb.1,by rw [jG.len]; exact hb.2⟩ trivial trivial r
theorem Ys (hm : P.follows .mixedOrders = true) (h : SB X φ w B base s (tm a)) (hg : Am.dZ (iO c) X φ w) {k off : Nat} {x y : E} (hk : cZ P o.op (lS (.copy k x y)) = true) {p : Rt} {ys : List AV} (A5 : bt c s.env x = .dG k p off 0) (hy : cont s k (bt c s.env y) = some ys) (wx : bz (aH ys) = true) : lY P X φ w B base s (.int .i64 0) o a := by
 obtain ⟨N,Ha,h,hb⟩ := h;obtain ⟨⟨o1,h1⟩,o2,h2⟩ := Oy hk;have hx := cP (c := c) (cA := iO c) h rfl h1;have dg := hx.ok;rw [A5] at dg;obtain ⟨news,n1,n2,n3,n4,n5⟩ := Dc h hg h2 hy wx;rcases re h dg with ⟨b,hn,e2⟩ | ⟨_,_,_,e2⟩
 ·simp only [cK] at dg;obtain ⟨xs,hp,hle⟩ := dg;have eQ := h.own p k xs hp;rw [hn] at eQ;obtain ⟨cs,q1,q2,q3,q4⟩ := eQ
  have hlk : off * k + 0 * k <= cs.length := by
   have := bM k hle;rw [cF] at this; omega
  refine lY.of (mw (va := .int .i64 0) (Ha' := Ha) hm h hg hk (fl := .wr Ha.length [b]) ?_) fun v' w' φ' r hh ad => eG.quiet (h.my ad hh h.own (fun _ _ => rfl)) hb trivial trivial r;have he : jv cs (off * k) [] = cs := by unfold jv; simp
  have Lm : Ha.set b (some cs) = Ha := by
   apply dT;intro i;rw [bm];split
   ·rename_i hbi; subst hbi; rw [if_pos (dL q1)]; exact (sC q1).symm
   ·rfl
  simp only [lS,fW,n1,hx.ev,A5,gL,e2,q1];rw [if_pos ⟨trivial,hlk,n4⟩];simp [he,Lm]
 ·refine lY.of (mw (va := .int .i64 0) (Ha' := Ha) hm h hg hk (fl := .wr Ha.length []) ?_) fun v' w' φ' r hh ad => eG.quiet (h.my ad hh h.own (fun _ _ => rfl)) hb trivial trivial r;simp only [lS,fW,n1,hx.ev,A5,gL,e2]
theorem aa7 {f : Fq} (h1 : lM kd = false) (h2 : fH c call s kd = some (v,s',f)) : (PE c s.env kd = some v /\ s' = s) \/ (∃ zs,kd = .new zs) \/ (∃ x,kd = .box x) \/ (∃ k n zs ps,kd = .dY k n zs ps) \/ (∃ k zs l cp,kd = .Hd k zs l cp) \/ (∃ ag x,kd = .ld ag x) \/ (∃ k x y,kd = .st k x y) \/ (∃ k zs x,kd = .Ov k zs x) \/ (∃ k x y,kd = .app k x y) \/ (∃ n x hi,kd = .HK n x hi) \/ (∃ k x y,kd = .copy k x y) := by
 cases kd <;> simp only [fH] at h2 <;> first
  | (left
     split at h2
     ·rename_i u hu;simp only [ah,aJ] at h2;obtain ⟨rfl,rfl,_⟩ := h2;exact ⟨hu,rfl⟩
     ·cases h2)
  | (right; simp; done)
  | (simp [lM] at h1; done)
theorem afW (hm : P.follows .mixedOrders = true) (h : SB X φ w B base s (tm a)) (hg : Am.dZ (iO c) X φ w) {f : Fq} (hk : cZ P o.op (lS kd) = true) (hnc : lM kd = false) (hs : fH c call s kd = some (v,s',f)) : lY P X φ w B base s' v o a := by
 rcases aa7 hnc hs with ⟨h1,rfl⟩ | ⟨zs,rfl⟩ | ⟨x,rfl⟩ | ⟨k,n,zs,ps,rfl⟩ | ⟨k,zs,l,cp,rfl⟩ | ⟨ag,x,rfl⟩ | ⟨k,x,y,rfl⟩ | ⟨k,zs,x,rfl⟩ | ⟨k,x,y,rfl⟩ | ⟨n,x,hi,rfl⟩ | ⟨k,x,y,rfl⟩
 ·exact Tw hm h hg hk h1
 ·simp only [fH,ah,aJ] at hs;obtain ⟨rfl,rfl,_⟩ := hs;exact PF hm h hg hk
 ·simp only [fH] at hs;split at hs
  case isFalse => cases hs
  rename_i hl;simp only [ah,aJ] at hs;obtain ⟨rfl,rfl,_⟩ := hs;exact abm hm h hg hk hl
 ·simp only [fH] at hs;split at hs
  case h_2 => cases hs
  rename_i cs hf;split at hs
  case isFalse => cases hs
  rename_i hz;simp only [ah,aJ] at hs;obtain ⟨rfl,rfl,_⟩ := hs;obtain ⟨nk,h1,a1⟩ := SB.dR (gW c s.env ps) h;exact lY.ghost a1 (PI hm h1 (hg.my a1) hk hf hz)
 ·simp only [fH] at hs;split at hs
  case h_2 => cases hs
  rename_i k1 l' k2 cp' e1 e2;split at hs
  case isFalse => cases hs
  rename_i hc;split at hs
  ·rename_i z hz;simp only [ah,aJ] at hs;obtain ⟨rfl,rfl,_⟩ := hs;exact abh hm h hg hk hz e1 e2 hc
  ·simp only [ah,aJ] at hs;obtain ⟨rfl,rfl,_⟩ := hs;exact abi hm h hg hk e1 e2 hc
 ·simp only [fH] at hs;split at hs
  case h_2 => cases hs
  rename_i u ps hp;split at hs
  case isFalse => cases hs
  simp only [ah,aJ] at hs;obtain ⟨rfl,rfl,_⟩ := hs;exact af7 hm h hg hk hp
 ·simp only [fH] at hs;split at hs
  ·rename_i k' p i off e0;split at hs
   case h_2 => cases hs
   rename_i s2 f2 h2;simp only [ah,aJ] at hs;obtain ⟨rfl,rfl,_⟩ := hs;obtain ⟨nk,h1,a1⟩ := SB.dR (aP (bt c s.env y)) h;refine lY.ghost a1 ?_;generalize dR (aP (bt c s.env y)) s = s3 at h1 h2;unfold OR at h2;split at h2
   ·rename_i b off' e1;exact ML hm h1 (hg.my a1) hk e1 h2
   ·rename_i k2 p2 i2 off2 e1;split at h2
    case h_2 => cases h2
    rename_i k3 xs hp;split at h2
    case isFalse => cases h2
    rename_i sK;subst sK;split at h2
    case h_2 => cases h2
    rename_i u hu;split at h2
    case isFalse => cases h2
    rename_i hc;simp only [ah,aJ] at h2;obtain ⟨rfl,_⟩ := h2;exact afZ hm h1 (hg.my a1) hk e1 hp hu hc.1 hc.2.1 hc.2.2
   ·cases h2
  ·rename_i hnp;split at hs
   case h_2 => cases hs
   rename_i s2 f2 h2;simp only [ah,aJ] at hs;obtain ⟨rfl,rfl,_⟩ := hs;unfold OR at h2;split at h2
   ·rename_i b off' e1;exact ML hm h hg hk e1 h2
   ·rename_i k2 p2 i2 off2 e1;exact absurd e1 (hnp k2 p2 i2 off2)
   ·cases h2
 ·simp only [fH] at hs;split at hs
  ·rename_i k' e1;simp only [ah,aJ] at hs;obtain ⟨rfl,rfl,_⟩ := hs;exact Tz hm h hg hk (.inl ⟨k',e1⟩)
  ·rename_i k' e1;simp only [ah,aJ] at hs;obtain ⟨rfl,rfl,_⟩ := hs;exact Tz hm h hg hk (.inr ⟨k',e1⟩)
  ·cases hs
 ·simp only [fH] at hs;split at hs
  case h_2 => cases hs
  rename_i ys hy;split at hs
  case isFalse => cases hs
  rename_i wx;split at hs
  ·rename_i k' e1;split at hs
   case isFalse => cases hs
   rename_i hl;simp only [ah,aJ] at hs;obtain ⟨rfl,rfl,_⟩ := hs;exact abp hm h hg hk e1 hy wx hl
  ·rename_i k' p len e1;split at hs
   case h_2 => cases hs
   rename_i wu xs hp;split at hs
   case isFalse => cases hs
   rename_i hc;obtain ⟨rfl,rfl,hle,hl⟩ := hc;simp only [ah,aJ] at hs;obtain ⟨rfl,rfl,_⟩ := hs;exact abo hm h hg hk e1 hp hle hy wx hl
  ·cases hs
 ·simp only [fH] at hs;split at hs
  ·rename_i b off e1;split at hs
   case h_2 => cases hs
   rename_i m cs wz hbk;split at hs
   case isFalse => cases hs
   rename_i hl;simp only [ah,aJ] at hs;obtain ⟨rfl,rfl,_⟩ := hs;exact abn hm h hg hk e1 wz hbk hl
  ·split at hs
   case h_2 => cases hs
   rename_i u hu;simp only [ah,aJ] at hs;obtain ⟨rfl,rfl,_⟩ := hs;exact Tw hm h hg hk hu
 ·simp only [fH] at hs;split at hs
  case h_2 => cases hs
  rename_i k' p off n e1;split at hs
  ·rename_i hn;subst hn;split at hs
   case h_2 => cases hs
   rename_i ys hy;split at hs
   case isFalse => cases hs
   rename_i hc;obtain ⟨rfl,hl⟩ := hc;simp only [ah,aJ] at hs;obtain ⟨rfl,rfl,_⟩ := hs;exact Ys hm h hg hk e1 hy hl
  ·rename_i hn;split at hs
   case h_2 => cases hs
   rename_i wu xs ys hp hy;split at hs
   case isFalse => cases hs
   rename_i hc;obtain ⟨rfl,rfl,hle,hl⟩ := hc;simp only [ah,aJ] at hs;obtain ⟨rfl,rfl,_⟩ := hs;exact Yr hm h hg hk e1 hp hle hn hy hl
end
end Go.Bm

/- Calls: arguments by value. -/
namespace Go.Bm
open Go.Am
section
variable {P : Program} {X : Nat -> Prop} {φ φ' : dy} {w w' : World} {N N' : Names} {s s' s1 : St} {Ha Ha' : Heap} {t t' : Nat -> Value} {B : Nat -> Nat} {base : Nat} {v va : AV} {v' : Value} {c : eE} {o : Oper} {a : Act} {kd : Kd} {call : Nat -> List AV -> Heap -> Option (AV × Heap)}
theorem Cn (h : cG X φ w Ha) {n k : Nat} {xs : List AV} (ho : oT Ha (some n) k xs) {off len : Nat} (hle : off + len <= xs.length) {v : Value} (r : bT (Rd X φ w) φ (.sl k n (off * k) len) v) :
  bT (Rd X [] w) [] (.list k ((xs.drop off).take len)) v := by
 obtain ⟨g,sz,lv,hX,hc⟩ := wg h ho;have wQ : ∀ a u,Rd X φ w a u -> Rd X [] w a u := fun a u ⟨h1,_,h3⟩ => ⟨h1,bQ.nil _,h3⟩;cases r with
 | sl _ _ _ _ _ a cap hb jH hh =>
   obtain ⟨h1,h2⟩ := hh g sz lv;by_cases h0 : len = 0
   ·subst h0;simp only [nh];exact .mI _ _ _ _ _ _ (fun _ _ => undef) rfl jH (fun x hx => by simp at hx) (fun i j x c hx => by simp at hx) (fun i j x c hx => by simp at hx)
   ·have ha := h1 (by omega);subst ha
    have hx : ∀ (i : Nat) (x : AV),((xs.drop off).take len)[i]? = some x -> xs[off + i]? = some x /\ i < len := by
     intro i x hx;rw [bF] at hx;split at hx
     ·rw [aU] at hx; exact ⟨hx,‹_›⟩
     ·cases hx
    obtain ⟨cs,q1,q2,hk,q4⟩ := ho;refine .mI _ _ _ _ _ _ (fun i j => (w.cell? ⟨g,(off + i) * k + j,none⟩).getD undef) (by simp; omega) jH (fun x hm => ?_) (fun i j x c hi hj => ?_) (fun i j x c hi hj => ?_)
    ·exact hk x (c9 (c8 hm))
    ·obtain ⟨u,u1,_,_⟩ := hc _ j x c (hx i x hi).1 hj;rw [u1,Addr.jd,show off * k + (i * k + j) = (off + i) * k + j by rw [cF]; omega];exact ⟨hX,bQ.nil _,u1⟩
    ·obtain ⟨u,u1,_,u3⟩ := hc _ j x c (hx i x hi).1 hj;rw [u1];exact u3.mono wQ (.refl _)
mutual
theorem fI (h : eR X φ w N s Ha t) : ∀ (x y : AV),kS false s x = some y -> cK (aC s) s.H.length x -> (pl y = true /\ ∀ v,bT (Rd X φ w) φ (cM N x) v -> bT (Rd X [] w) [] y v)
 | .dG k p off len,y,hf,hk => by
   simp only [kS] at hf;split at hf
   case h_2 => cases hf
   rename_i k' xs hp;split at hf
   case isFalse => cases hf
   rename_i hc;obtain ⟨rfl,hle⟩ := hc;simp at hf;subst hf;refine ⟨rfl,fun v r => ?_⟩;have eQ := h.own p k' xs hp;rcases re h hk with ⟨n,hn,e2⟩ | ⟨hn,h0,h1,e2⟩
   ·rw [e2] at r;rw [hn] at eQ;exact Cn h.heap eQ hle r
   ·rw [e2] at r;subst h1;simp only [nh];cases r;exact .j8 _ _
 | .agg cs,y,hf,hk => by
   simp only [kS] at hf;split at hf
   case h_2 => cases hf
   rename_i ds hd;simp at hf;subst hf;simp only [cK] at hk;obtain ⟨h1,h2,h3⟩ := vt h cs ds hd hk;refine ⟨h1,fun v r => ?_⟩;simp only [cM] at r;cases r with
   | agg _ _ vs hl hh => exact .agg _ _ _ (by rw [h2,<- dI N cs]; exact hl) (fun i d u ya hu => h3 i d u ya (fun z hz => hh i z u hz hu))
 | .dB cs,y,hf,hk => by
   simp only [kS] at hf;split at hf
   case h_2 => cases hf
   rename_i ds hd;simp at hf;subst hf;simp only [cK] at hk;obtain ⟨h1,h2,h3⟩ := vt h cs ds hd hk;refine ⟨h1,fun v r => ?_⟩;simp only [cM] at r;cases r with
   | dB _ _ vs hl hh => exact .dB _ _ _ (by rw [h2,<- dI N cs]; exact hl) (fun i d u ya hu => h3 i d u ya (fun z hz => hh i z u hz hu))
 | .func f a b,y,hf,hk => by
   simp only [kS] at hf;split at hf
   case h_2 => cases hf
   rename_i a' b' ha hb;simp at hf;subst hf;simp only [cK] at hk;obtain ⟨h1,h2,h3⟩ := vt h a a' ha hk.1;obtain ⟨k1,k2,k3⟩ := vt h b b' hb hk.2;refine ⟨by simp only [pl,ae]; exact ⟨h1,k1⟩,fun v r => ?_⟩;simp only [cM] at r;cases r with
   | func _ _ _ va _ vb Ca B9 hra hrb => exact .func _ _ _ _ _ _ (by rw [h2,<- dI N a]; exact Ca) (by rw [k2,<- dI N b]; exact B9) (fun i d u ya hu => h3 i d u ya (fun z hz => hra i z u hz hu)) (fun i d u ya hu => k3 i d u ya (fun z hz => hrb i z u hz hu))
 | .own _ _,y,hf,hk => by simp [kS] at hf
 | .fa _ _ _ _,y,hf,hk => by simp [kS] at hf
 | .ptr _ _,y,hf,hk => by simp [kS] at hf
 | .sl _ _ _ _,y,hf,hk => by simp [kS] at hf
 | .any,y,hf,hk => by simp [kS] at hf
 | .undef,y,hf,hk => by simp [kS] at hf; subst hf; exact ⟨rfl,fun v r => (r.dJ rfl []).mono (fun a u ⟨h1,_,h3⟩ => ⟨h1,bQ.nil _,h3⟩) (.refl _)⟩
 | .fy,y,hf,hk => by simp [kS] at hf; subst hf; exact ⟨rfl,fun v r => (r.dJ rfl []).mono (fun a u ⟨h1,_,h3⟩ => ⟨h1,bQ.nil _,h3⟩) (.refl _)⟩
 | .fD,y,hf,hk => by simp [kS] at hf; subst hf; exact ⟨rfl,fun v r => (r.dJ rfl []).mono (fun a u ⟨h1,_,h3⟩ => ⟨h1,bQ.nil _,h3⟩) (.refl _)⟩
 | .dz,y,hf,hk => by simp [kS] at hf; subst hf; exact ⟨rfl,fun v r => (r.dJ rfl []).mono (fun a u ⟨h1,_,h3⟩ => ⟨h1,bQ.nil _,h3⟩) (.refl _)⟩
 | .int _ _,y,hf,hk => by simp [kS] at hf; subst hf; exact ⟨rfl,fun v r => (r.dJ rfl []).mono (fun a u ⟨h1,_,h3⟩ => ⟨h1,bQ.nil _,h3⟩) (.refl _)⟩
 | .bool _,y,hf,hk => by simp [kS] at hf; subst hf; exact ⟨rfl,fun v r => (r.dJ rfl []).mono (fun a u ⟨h1,_,h3⟩ => ⟨h1,bQ.nil _,h3⟩) (.refl _)⟩
 | .str _,y,hf,hk => by simp [kS] at hf; subst hf; exact ⟨rfl,fun v r => (r.dJ rfl []).mono (fun a u ⟨h1,_,h3⟩ => ⟨h1,bQ.nil _,h3⟩) (.refl _)⟩
 | .list _ _,y,hf,hk => by simp [kS] at hf; subst hf; exact ⟨rfl,fun v r => (r.dJ rfl []).mono (fun a u ⟨h1,_,h3⟩ => ⟨h1,bQ.nil _,h3⟩) (.refl _)⟩
 | .dw _,y,hf,hk => by simp [kS] at hf; subst hf; exact ⟨rfl,fun v r => (r.dJ rfl []).mono (fun a u ⟨h1,_,h3⟩ => ⟨h1,bQ.nil _,h3⟩) (.refl _)⟩
theorem vt (h : eR X φ w N s Ha t) : ∀ (xs ys : List AV),CG false s xs = some ys -> kg (aC s) s.H.length xs -> (gz ys = true /\ ys.length = xs.length /\ ∀ (i : Nat) (y : AV) (v : Value),ys[i]? = some y -> (∀ z,(kW N xs)[i]? = some z -> bT (Rd X φ w) φ z v) -> bT (Rd X [] w) [] y v)
 | [],ys,hf,_ => by simp [CG] at hf; subst hf; exact ⟨rfl,rfl,fun i y v hy => by simp at hy⟩
 | x :: r,ys,hf,hk => by
   simp only [CG] at hf;split at hf
   case h_2 => cases hf
   rename_i y yu h1 h2;simp at hf;subst hf;obtain ⟨a1,a2⟩ := fI h x y h1 hk.1;obtain ⟨b1,b2,b3⟩ := vt h r yu h2 hk.2;refine ⟨by simp only [gz,ae]; exact ⟨a1,b1⟩,by simp [b2],fun i z v hz hv => ?_⟩;cases i with
   | zero => simp [kW] at hz hv; subst hz; exact a2 v hv
   | succ i => simp [kW] at hz hv; exact b3 i z v hz hv
end
theorem ZL (h : eR X φ w N s Ha t) {r : Rt} {x y : AV} (hx : at_ s r = some x) (hf : N8 x = some y) : (pl y = true /\ y.cells = [y]) /\ ∀ v,bT (Rd X φ w) φ (jF N r x) v -> bT (Rd X [] w) [] y v := by
 unfold N8 at hf;split at hf
 ·rename_i k xs;simp at hf;subst hf;refine ⟨⟨rfl,rfl⟩,fun v rv => ?_⟩;have eQ := h.own r k xs (cu.2 hx);simp only [jF,rO] at rv;cases hn : N.ν r with
  | none =>
    rw [hn] at eQ rv;have : xs = [] := eQ;subst this;simp only at rv;cases rv;exact .j8 _ _
  | some n =>
    rw [hn] at eQ rv;have := Cn (off := 0) (len := xs.length) h.heap eQ (by omega) (v := v) (by simpa using rv);simpa using this
 ·rename_i iK;split at hf
  case isFalse => cases hf
  rename_i hz;simp at hf;subst hf;obtain ⟨h1,h2⟩ := kh hz;refine ⟨⟨h1,by cases x <;> first | rfl | (simp [AV.leaf] at h2; done)⟩,fun v rv => ?_⟩;have e : jF N r x = cM N x := by cases x <;> first | rfl | exact (iK _ _ rfl).elim
  rw [e,ks N x h1] at rv;exact (rv.dJ (gH _ h1) []).mono (fun a u ⟨h1,_,h3⟩ => ⟨h1,bQ.nil _,h3⟩) (.refl _)
theorem Jo : ∀ {cs ys : List AV},si cs = some ys -> ys.length = cs.length /\ ∀ (i : Nat) (y : AV),ys[i]? = some y -> ∃ x,cs[i]? = some x /\ N8 x = some y
 | [],ys,h => by simp [si] at h; subst h; exact ⟨rfl,fun i y hy => by simp at hy⟩
 | x :: r,ys,h => by
   simp only [si] at h;split at h
   case h_2 => cases h
   rename_i y yu h1 h2;simp at h;subst h;obtain ⟨k1,k2⟩ := Jo h2;refine ⟨by simp [k1],fun i z hz => ?_⟩;cases i with
   | zero => simp at hz; subst hz; exact ⟨x,rfl,h1⟩
   | succ i => simp at hz; obtain ⟨u,u1,u2⟩ := k2 i z hz; exact ⟨u,by simpa using u1,u2⟩
theorem N5 (h : eR X φ w N s Ha t) {k b off len : Nat} {y : AV} (hf : N6 s k b off len = some y) : pl y = true /\ ∀ v,bT (Rd X φ w) φ (cM N (.sl k b off len)) v -> bT (Rd X [] w) [] y v := by
 unfold N6 at hf;split at hf
 case h_2 => cases hf
 rename_i cs hb;split at hf
 case isFalse => cases hf
 rename_i hc;obtain ⟨rfl,hle⟩ := hc;split at hf
 case h_2 => cases hf
 rename_i ys hy;simp at hf;subst hf;refine ⟨rfl,fun v r => ?_⟩;obtain ⟨as,a1,a2,a3⟩ := h.box b cs hb;obtain ⟨g,sz,arr,e,g1,g2,g3,g4,g5,g6⟩ := h.heap.at a1;obtain ⟨k1,k2⟩ := Jo hy;have hyl : ys.length = len := by rw [k1,bC,List.length_drop]; omega
 simp only [cM] at r;cases r with
 | sl _ _ _ _ _ a cap ia jH hh =>
   obtain ⟨h1,h2⟩ := hh g sz g1;by_cases h0 : len = 0
   ·subst h0;have : ys = [] := gG hyl;subst this;exact .mI _ _ _ _ _ _ (fun _ _ => undef) rfl jH (fun x hx => by simp at hx) (fun i j x c hx => by simp at hx) (fun i j x c hx => by simp at hx)
   ·have ha := h1 (by omega);subst ha
    have cell : ∀ (i : Nat) (y : AV),ys[i]? = some y -> (pl y = true /\ y.cells = [y]) /\ ∃ u,w.cell? ⟨g,off + i,none⟩ = some u /\ bT (Rd X [] w) [] y u := by
     intro i y hi;obtain ⟨x,x1,x2⟩ := k2 i y hi
     have x3 : cs[off + i]? = some x := by
      rw [bF] at x1;split at x1
      ·rw [aU] at x1; exact x1
      ·cases x1
     obtain ⟨_,a',b1,b2⟩ := a3 _ x x3;obtain ⟨u,u1,u2⟩ := g6 _ a' b1;obtain ⟨c1,c2⟩ := ZL h (r := .c b (off + i)) (x := x) (by simp only [at_,hb]; exact x3) x2;exact ⟨c1,u,by rw [iF g2]; exact u1,c2 u (b2 _ _ _ u2)⟩
    refine .mI _ _ _ _ _ _ (fun i j => (w.cell? ⟨g,off + i,none⟩).getD undef) hyl.symm jH (fun x hm => ?_) (fun i j x c hi hj => ?_) (fun i j x c hi hj => ?_)
    ·obtain ⟨i,hi⟩ := bG hm;rw [(cell i x hi).1.2]; rfl
    ·obtain ⟨⟨q1,q2⟩,u,u1,u2⟩ := cell i x hi;rw [q2] at hj;have hj0 : j = 0 := by have := aA hj; simp at this; exact this
     subst hj0;rw [u1,Addr.jd,show off + (i * 1 + 0) = off + i by omega];exact ⟨g5,bQ.nil _,u1⟩
    ·obtain ⟨⟨q1,q2⟩,u,u1,u2⟩ := cell i x hi;rw [q2] at hj;have hj0 : j = 0 := by have := aA hj; simp at this; exact this
     subst hj0;simp at hj;subst hj;rw [u1];exact u2
mutual
theorem N7 (h : eR X φ w N s Ha t) : ∀ (x y : AV),Qy s x = some y -> cK (aC s) s.H.length x -> (pl y = true /\ ∀ v,bT (Rd X φ w) φ (cM N x) v -> bT (Rd X [] w) [] y v)
 | .sl k b off len,y,hf,_ => by simp only [Qy] at hf; exact N5 h hf
 | .dB cs,y,hf,hk => by
   simp only [Qy] at hf;split at hf
   case h_2 => cases hf
   rename_i ds hd;simp at hf;subst hf;simp only [cK] at hk;obtain ⟨h1,h2,h3⟩ := Jm h cs ds hd hk;refine ⟨h1,fun v r => ?_⟩;simp only [cM] at r;cases r with
   | dB _ _ vs hl hh => exact .dB _ _ _ (by rw [h2,<- dI N cs]; exact hl) (fun i d u ya hu => h3 i d u ya (fun z hz => hh i z u hz hu))
 | .any,y,hf,hk => fI h _ y hf hk
 | .undef,y,hf,hk => fI h _ y hf hk
 | .fy,y,hf,hk => fI h _ y hf hk
 | .fD,y,hf,hk => fI h _ y hf hk
 | .dz,y,hf,hk => fI h _ y hf hk
 | .int _ _,y,hf,hk => fI h _ y hf hk
 | .bool _,y,hf,hk => fI h _ y hf hk
 | .str _,y,hf,hk => fI h _ y hf hk
 | .agg _,y,hf,hk => fI h _ y hf hk
 | .list _ _,y,hf,hk => fI h _ y hf hk
 | .dw _,y,hf,hk => fI h _ y hf hk
 | .ptr _ _,y,hf,hk => fI h _ y hf hk
 | .func _ _ _,y,hf,hk => fI h _ y hf hk
 | .own _ _,y,hf,hk => fI h _ y hf hk
 | .dG _ _ _ _,y,hf,hk => fI h _ y hf hk
 | .fa _ _ _ _,y,hf,hk => fI h _ y hf hk
theorem Jm (h : eR X φ w N s Ha t) : ∀ (xs ys : List AV),Jn s xs = some ys -> kg (aC s) s.H.length xs -> (gz ys = true /\ ys.length = xs.length /\ ∀ (i : Nat) (y : AV) (v : Value),ys[i]? = some y -> (∀ z,(kW N xs)[i]? = some z -> bT (Rd X φ w) φ z v) -> bT (Rd X [] w) [] y v)
 | [],ys,hf,_ => by simp [Jn] at hf; subst hf; exact ⟨rfl,rfl,fun i y v hy => by simp at hy⟩
 | x :: r,ys,hf,hk => by
   simp only [Jn] at hf;split at hf
   case h_2 => cases hf
   rename_i y yu h1 h2;simp at hf;subst hf;obtain ⟨a1,a2⟩ := N7 h x y h1 hk.1;obtain ⟨b1,b2,b3⟩ := Jm h r yu h2 hk.2;refine ⟨by simp only [gz,ae]; exact ⟨a1,b1⟩,by simp [b2],fun i z v hz hv => ?_⟩;cases i with
   | zero => simp [kW] at hz hv; subst hz; exact a2 v hv
   | succ i => simp [kW] at hz hv; exact b3 i z v hz hv
end
theorem Gs (h : eR X φ w N s Ha t) : ∀ (xs ys : List AV),s4 s xs = some ys -> kg (aC s) s.H.length xs -> (gz ys = true /\ ys.length = xs.length /\ ∀ (i : Nat) (y : AV) (v : Value),ys[i]? = some y -> (∀ z,(iy N xs)[i]? = some z -> bT (Rd X φ w) φ z v) -> bT (Rd X [] w) [] y v)
 | [],ys,hf,_ => by simp [s4] at hf; subst hf; exact ⟨rfl,rfl,fun i y v hy => by simp at hy⟩
 | x :: r,ys,hf,hk => by
   have gen : ∀ {y yu},(pl y = true /\ ∀ v,bT (Rd X φ w) φ (cM N x) v -> bT (Rd X [] w) [] y v) -> s4 s r = some yu -> (∀ k l,x ≠ .own k l) -> ys = y :: yu -> (gz ys = true /\ ys.length = (x :: r).length /\ ∀ (i : Nat) (y : AV) (v : Value),ys[i]? = some y -> (∀ z,(iy N (x :: r))[i]? = some z -> bT (Rd X φ w) φ z v) -> bT (Rd X [] w) [] y v) := by
    intro y yu h1 h2 hn e;subst e;obtain ⟨a1,a2⟩ := h1;obtain ⟨b1,b2,b3⟩ := Gs h r yu h2 hk.2;have ex : gL N x = cM N x := by cases x <;> first | rfl | exact absurd rfl (hn _ _)
    refine ⟨by simp only [gz,ae]; exact ⟨a1,b1⟩,by simp [b2],fun i z v hz hv => ?_⟩;cases i with
    | zero => simp [iy] at hz hv; subst hz; rw [ex] at hv; exact a2 v hv
    | succ i => simp [iy] at hz hv; exact b3 i z v hz hv
   by_cases ho : ∃ k,x = .own k []
   ·obtain ⟨k,rfl⟩ := ho;simp only [s4] at hf;split at hf
    case h_2 => cases hf
    rename_i yu h2;simp at hf;subst hf;obtain ⟨b1,b2,b3⟩ := Gs h r yu h2 hk.2;refine ⟨by simp only [gz,pl,eh]; exact b1,by simp [b2],fun i z v hz hv => ?_⟩;cases i with
    | zero =>
      simp [iy,gL] at hz hv;subst hz;cases hv;exact .j8 _ _
    | succ i => simp [iy] at hz hv; exact b3 i z v hz hv
   ·have hn : ∀ k l,x ≠ .own k l := by
     rintro k l rfl;cases l with
     | nil => exact ho ⟨k,rfl⟩
     | cons z l => simp [s4,kS] at hf
    by_cases hsl : ∃ k b off len,x = .sl k b off len
    ·obtain ⟨k,b,off,len,rfl⟩ := hsl;simp only [s4] at hf;split at hf
     case h_2 => cases hf
     rename_i y yu h1 h2;simp at hf;exact gen (N5 h h1) h2 hn hf.symm
    rw [s4] at hf
    ·split at hf
     case h_2 => cases hf
     rename_i y yu h1 h2;simp at hf;exact gen (fI h x y h1 hk.1) h2 hn hf.symm
    ·exact fun k e => ho ⟨k,e⟩
    ·exact fun k b off len e => hsl ⟨k,b,off,len,e⟩
end
end Go.Bm

/- Calls of functions that see no boxes. -/
namespace Go.Bm
open Go.Am
section
variable {P : Program} {X : Nat -> Prop} {φ φ' : dy} {w w' : World} {N N' : Names} {s s' s1 : St} {Ha Ha' : Heap} {t t' : Nat -> Value} {B : Nat -> Nat} {base : Nat} {v va : AV} {v' : Value} {c : eE} {o : Oper} {a : Act} {kd : Kd} {call : Nat -> List AV -> Heap -> Option (AV × Heap)}
def LO (X : Nat -> Prop) (φ : dy) (w : World) (B : Nat -> Nat) (base : Nat) (r : AV) (H' : Heap) (e : Ending) (w' : World) : Prop :=
 ∃ v' φ',e = .returned v' /\ SB X φ' w' B base ⟨[(0,r)],H'⟩ (fun i => if i = 0 then v' else undef) /\ fJ φ w φ' w'
def iH (P : Program) (c : eE) (call : Nat -> List AV -> Heap -> Option (AV × Heap)) : Prop :=
 ∀ f md q,c.fn f = some (md,q) -> ∀ args H r H',(md.sh = true \/ H = []) -> call f args H = some (r,H') -> (md.sh = true -> jt H' = true) -> ∀ X φ w B (vargs : Array Value),args.length = vargs.size -> SB X φ w B H.length ⟨ep 0 args,H⟩ (fun i => vargs.getD i undef) -> Am.dZ (iO c) X φ w -> Calls P f vargs w (LO X φ w B H.length r H')
theorem wU (dg : fE P c) {f : Nat} {m : Md} {q : fK} (hf : c.fn f = some (m,q)) (vargs : Array Value) : (callFunc f vargs).run P w = .ok (.enter f vargs) w := by
 obtain ⟨fn,h1,h2⟩ := dg.fn f m q hf;simp only [ct,ae,bH] at h2;obtain ⟨⟨⟨_,Jf⟩,_⟩,rZ⟩ := h2
 have hb : fn.body.isNone = false := by
  cases hfb : fn.body with
  | none => rw [hfb] at rZ; cases rZ
  | some b => rfl
 simp only [callFunc,Sem.run_bind,run_program,Result.andThen_ok,h1,Jf,hb,bn,if_false,Sem.run_pure]
def LR (R : Addr -> Value -> Prop) (φ : dy) (N : Names) (xs : List AV) (vs : Array Value) : Prop := xs.length = vs.size /\ ∀ (i : Nat) (x : AV) (v : Value),xs[i]? = some x -> vs[i]? = some v -> bT R φ (gL N x) v
theorem LR.append {R : Addr -> Value -> Prop} {xs ys : List AV} {vs us : Array Value} (h : LR R φ N xs vs) (k : LR R φ N ys us) : LR R φ N (xs ++ ys) (vs ++ us) := by
 refine ⟨by simp [h.1,k.1],fun i x v hx hv => ?_⟩;by_cases hi : i < xs.length
 ·rw [az hi] at hx;rw [qV (by have := h.1; omega)] at hv;exact h.2 i x v hx hv
 ·rw [aR (by omega)] at hx;rw [G8 (by have := h.1; omega),<- h.1] at hv;exact k.2 _ x v hx hv
theorem aae {op : Op} {f : Nat} {ys : List E} (h : cZ P op (.call f ys) = true) : ∃ ca : Call,op = .call ca /\ ca.callee = .value (.func f) /\ jh ca.args.toList ys = true := by
 unfold cZ at h;split at h <;> simp_all
theorem Wv {op : Op} {y : E} {ys : List E} (h : cZ P op (.jc y ys) = true) : ∃ (ca : Call) (x : Operand),op = .call ca /\ ca.callee = .value x /\ df x y = true /\ jh ca.args.toList ys = true := by
 unfold cZ at h;split at h <;> simp_all
theorem nM (dg : fE P c) (h : eR X φ w N s Ha (tm a)) (hg : Am.dZ (iO c) X φ w) (hk : cZ P o.op (lS kd) = true) {f : Nat} {args : List AV} (ha : nI c s.env kd = some (f,args)) {md : Md} {q : fK} (hf : c.fn f = some (md,q)) :
  ∃ vargs : Array Value,(execOp a.eval o).run P w = .ok (.enter f vargs) w /\ LR (Rd X φ w) φ N args vargs /\ kg (aC s) s.H.length args := by
 have he : nQ X φ w (yw N s.env) a.tmps := fun i => by rw [lP]; exact h.env i
 have ZS : ∀ {os : Array Operand} {xs : List E},jh os.toList (Be xs) = true -> LR (Rd X φ w) φ N (dE c s.env xs) (os.map a.eval) /\ kg (aC s) s.H.length (dE c s.env xs) := by
  intro os xs hk;obtain ⟨e1,e2⟩ := rQ (cA := iO c) h rfl hk;obtain ⟨hl,hr⟩ := mM (a := a) he hg hk;rw [e1,jf] at hl;refine ⟨⟨by simpa using hl,fun i x v hx hv => ?_⟩,e2⟩;refine hr i (gL N x) v (by rw [e1,nu,hx]; rfl) (by simpa using hv)
 cases kd <;> simp only [nI,reduceCtorEq] at ha
 case call f' ys =>
  simp only [ah,aJ] at ha;obtain ⟨rfl,rfl⟩ := ha;obtain ⟨ca,fu,Cb,lN⟩ := aae hk;obtain ⟨e1,e2⟩ := ZS lN;refine ⟨ca.args.map a.eval,?_,e1,e2⟩;simp only [execOp,fu,resolve,Cb,Act.eval,Deferred.ofValue,invoke,Sem.run_bind,Sem.run_pure,Result.andThen_ok,Array.empty_append,Array.append_empty];exact wU dg hf _
 case jc y ys =>
  obtain ⟨ca,x,fu,Cb,hx,lN⟩ := Wv hk;have ho := cP (c := c) (cA := iO c) h rfl hx;have rx := bX (a := a) he hg hx;rw [ho.ev] at rx;have HB := ho.ok;cases e : bt c s.env y <;> rw [e] at ha rx HB <;> try (simp at ha; done)
  rename_i fn as bs;cases fn <;> simp only [reduceCtorEq] at ha
  rename_i f';split at ha
  ·cases ha
  rename_i iK;simp only [fN,not_or,Bool.not_eq_true] at iK;simp only [ah,aJ] at ha;obtain ⟨rfl,rfl⟩ := ha;obtain ⟨e1,e2⟩ := ZS lN;simp only [gL,cM] at rx;simp only [cK] at HB;generalize OX : a.eval x = ax at rx;cases rx with
  | func _ _ _ va _ vb Ca B9 hra hrb =>
    rw [dI] at Ca B9;have c1 : LR (Rd X φ w) φ N as va := ⟨Ca,fun i x v hx hv => hra i _ v (by rw [<- kv N iK.1,nu,hx]; rfl) hv⟩;have c3 : LR (Rd X φ w) φ N bs vb := ⟨B9,fun i x v hx hv => hrb i _ v (by rw [<- kv N iK.2,nu,hx]; rfl) hv⟩;refine ⟨va ++ ca.args.map a.eval ++ vb,?_,(c1.append e1).append c3,qb (qb HB.1 e2) HB.2⟩;simp only [execOp,fu,resolve,Cb,OX,Deferred.ofValue,invoke,Sem.run_bind,Sem.run_pure,Result.andThen_ok];exact wU dg hf _
mutual
theorem TG {R : Addr -> Value -> Prop} {φ : dy} (N : Names) : ∀ (x : AV) {v : Value},bT R φ (cM N x) v -> bT R φ (cM N (TH x)) v
 | .dG k p off n,v,r => by
   unfold TH;split
   ·rename_i h; subst h;simp only [cM] at r ⊢;split at r
    ·cases r with
     | sl _ _ _ _ _ a cap hb hc h => exact .mI _ _ _ _ _ _ (fun _ _ => undef) rfl hc (fun x hx => by simp at hx) (fun i j x c hx => by simp at hx) (fun i j x c hx => by simp at hx)
    ·cases r; exact .j8 _ _
   ·exact r
 | .agg cs,v,r => by
   simp only [TH,cM] at r ⊢;cases r with
   | agg _ _ vs hl h =>
     obtain ⟨l1,l2⟩ := FH (R := R) (φ := φ) N cs;refine .agg _ _ _ (by rw [dI,l1,<- dI N cs]; exact hl) fun i c u hc hu => ?_;rw [lx] at hc;cases e : (zz cs)[i]? with
     | none => rw [e] at hc; cases hc
     | some y =>
       rw [e] at hc;simp only [dc,ah] at hc;subst hc;obtain ⟨x,hx⟩ := aZ (l := cs) (i := i) (by have := aA e; omega);exact l2 i x y u hx e (h i _ u (by rw [lx,hx]; rfl) hu)
 | .any,v,r => r | .undef,v,r => r | .fy,v,r => r | .fD,v,r => r | .dz,v,r => r
 | .int _ _,v,r => r | .bool _,v,r => r | .str _,v,r => r | .dB _,v,r => r
 | .list _ _,v,r => r | .dw _,v,r => r | .ptr _ _,v,r => r | .sl _ _ _ _,v,r => r
 | .func _ _ _,v,r => r | .own _ _,v,r => r | .fa _ _ _ _,v,r => r
theorem FH {R : Addr -> Value -> Prop} {φ : dy} (N : Names) : ∀ (cs : List AV),(zz cs).length = cs.length /\ ∀ (i : Nat) (x y : AV) (v : Value),cs[i]? = some x -> (zz cs)[i]? = some y -> bT R φ (cM N x) v -> bT R φ (cM N y) v
 | [] => ⟨rfl,fun i x y v hx => by simp at hx⟩
 | c :: r => by
   obtain ⟨l1,l2⟩ := FH (R := R) (φ := φ) N r;refine ⟨by simp [zz,l1],fun i x y v hx hy rr => ?_⟩;cases i with
   | zero => simp [zz] at hx hy; subst hx; subst hy; exact TG N c rr
   | succ i => exact l2 i x y v (by simpa using hx) (by simpa [zz] using hy) rr
end
theorem YE {R : Addr -> Value -> Prop} {φ : dy} (N : Names) (x : AV) {v : Value} (r : bT R φ (gL N x) v) : bT R φ (gL N (TH x)) v := by
 by_cases h : ∃ k xs,x = .own k xs
 ·obtain ⟨k,xs,rfl⟩ := h;simpa [TH] using r
 ·have e1 : gL N x = cM N x := by cases x <;> first | rfl | exact absurd ⟨_,_,rfl⟩ h
  have e2 : gL N (TH x) = cM N (TH x) := by
   cases x <;> simp only [TH] <;> first | rfl | exact absurd ⟨_,_,rfl⟩ h | (split <;> rfl)
  rw [e2];rw [e1] at r;exact TG N x r
mutual
theorem agr {o : Rt -> Option (Nat × List AV)} {nb : Nat} : ∀ (x : AV),cK o nb x -> cK o nb (TH x)
 | .dG k p off n,h => by
   unfold TH;split
   ·trivial
   ·exact h
 | .agg cs,h => by
   simp only [TH,cK] at h ⊢;exact KW cs h
 | .any,h => h | .undef,h => h | .fy,h => h | .fD,h => h | .dz,h => h
 | .int _ _,h => h | .bool _,h => h | .str _,h => h | .dB _,h => h
 | .list _ _,h => h | .dw _,h => h | .ptr _ _,h => h | .sl _ _ _ _,h => h
 | .func _ _ _,h => h | .own _ _,h => h | .fa _ _ _ _,h => h
theorem KW {o : Rt -> Option (Nat × List AV)} {nb : Nat} : ∀ (cs : List AV),kg o nb cs -> kg o nb (zz cs)
 | [],_ => trivial
 | x :: r,h => ⟨agr x h.1,KW r h.2⟩
end
theorem MP : ∀ (cs : List AV) (i : Nat),(zz cs)[i]? = (cs[i]?).map TH
 | [],i => by simp [zz]
 | x :: r,i => by cases i <;> simp [zz,MP r]
theorem s5 (dg : fE P c) (h : eR X φ w N s Ha (tm a)) (hg : Am.dZ (iO c) X φ w) (hk : cZ P o.op (lS kd) = true) {f : Nat} {args : List AV} (ha : getArgs c s.env kd = some (f,args)) {md : Md} {q : fK} (hf : c.fn f = some (md,q)) :
  ∃ vargs : Array Value,(execOp a.eval o).run P w = .ok (.enter f vargs) w /\ LR (Rd X φ w) φ N args vargs /\ kg (aC s) s.H.length args := by
 unfold getArgs at ha;cases h0 : nI c s.env kd with
 | none => rw [h0] at ha; cases ha
 | some z =>
   obtain ⟨f0,aeK⟩ := z;rw [h0] at ha;simp only [ah,aJ] at ha;obtain ⟨rfl,rfl⟩ := ha;obtain ⟨vargs,h1,h2,h3⟩ := nM dg h hg hk h0 hf;refine ⟨vargs,h1,?_⟩;split
   ·refine ⟨⟨?_,fun i x v hx hv => ?_⟩,KW _ h3⟩
    ·have l1 := (FH (R := Rd X φ w) (φ := φ) N aeK).1;rw [l1]; exact h2.1
    ·rw [MP] at hx;cases e : aeK[i]? with
     | none => rw [e] at hx; cases hx
     | some y =>
       rw [e] at hx;simp only [dc,ah] at hx;subst hx;exact YE N y (h2.2 i y v e hv)
   ·exact ⟨h2,h3⟩
theorem xp (N : Names) (i : Nat) {x : AV} (h : pl x = true) : ku N i x = x := by
 by_cases ha : ∃ cs,x = .agg cs
 ·obtain ⟨cs,rfl⟩ := ha;simp only [ku];simp only [pl] at h;congr 1;apply dT;intro j;rw [fZ];cases hc : cs[j]? with
  | none => rfl
  | some d =>
    simp only [dc]
    have hd : pl d = true := by
     have : ∀ {l : List AV},gz l = true -> ∀ z ∈ l,pl z = true := by
      intro l
      induction l with
      | nil => intro _ z hz; simp at hz
      | cons y r ih =>
        intro h z hz;simp only [gz,ae] at h;rcases aK.1 hz with e | e
        ·subst e; exact h.1
        ·exact ih h.2 z e
     exact this h d (bg hc)
    congr 1;cases d <;> first | exact ks N _ hd | (simp [pl] at hd; done)
 ·have hn : jP x := fun cs e => ha ⟨cs,e⟩;cases x <;> first | exact ks N _ h | exact absurd rfl (hn _) | (simp [pl] at h; done)
theorem uZ {x : AV} (h : pl x = true) : bJ x = false := by
 cases x <;> first | rfl | (simp [pl] at h; done) | skip
 rename_i cs;simp only [pl] at h;simp only [bJ]
 induction cs with
 | nil => rfl
 | cons y r ih =>
   simp only [gz,ae] at h;have h1 := h.1;cases y <;> first | exact ih h.2 | (simp [pl] at h1; done)
theorem eX : ∀ {l : List AV},gz l = true -> ∀ (i : Nat) (z : AV),l[i]? = some z -> pl z = true
 | [],_,i,z,hz => by simp at hz
 | y :: r,h,i,z,hz => by
   simp only [gz,ae] at h;cases i with
   | zero => simp at hz; subst hz; exact h.1
   | succ i => exact eX h.2 i z (by simpa using hz)
theorem SB.start {args : List AV} {vargs : Array Value} (hx : ∀ g,X g -> g < w.heap.size) (hp : gz args = true) (hl : args.length = vargs.size) (hr : ∀ (i : Nat) (x : AV) (v : Value),args[i]? = some x -> vargs[i]? = some v -> bT (Rd X [] w) [] x v) (B : Nat -> Nat) :
  SB X [] w B 0 ⟨ep 0 args,[]⟩ (fun i => vargs.getD i undef) := by
 have Gf : ∀ i,get (ep 0 args) i = args[i]?.getD .any := fun i => by rw [sg]; simp
 have oX : ∀ i,pl (get (ep 0 args) i) = true := fun i => by
  rw [Gf];cases e : args[i]? with
  | none => rfl
  | some x => exact eX hp i x e
 have iK : ∀ p,aC ⟨ep 0 args,[]⟩ p = none := by
  intro p;cases p with
  | s i => exact (dV (s := ⟨ep 0 args,[]⟩) (uZ (oX i))).1
  | sc i j => exact (dV (s := ⟨ep 0 args,[]⟩) (uZ (oX i))).2 j
  | c b j => unfold aC; simp [at_,aN]
 refine ⟨⟨fun _ => 0,fun _ => none⟩,[],⟨fun i => ?_,fun i => tX _ (oX i),⟨rfl,hx,fun b cs hb => by simp at hb,fun b hb => by simp at hb,fun b b' g sz nx h1 => by simp at h1⟩,fun p k xs e => ?_,fun b cs e => ?_,fun p q n e1 => ?_,fun b p e1 => ?_,fun b d e1 => ?_⟩,fun b hb => by omega,Va _⟩
 ·rw [xp _ _ (oX i),Gf];cases e : args[i]? with
  | none => exact .any _ _
  | some x =>
    obtain ⟨v,hv⟩ := cY (l := vargs) (i := i) (by have := aA e; omega);simp only [hF];rw [bf,hv];exact hr i x v e hv
 ·rw [iK] at e; cases e
 ·simp [aN] at e
 ·rw [iK] at e1; cases e1
 ·simp [aN] at e1
 ·simp [aN] at e1
end
end Go.Bm

/- Calls of functions that see no boxes: what comes back. -/
namespace Go.Bm
open Go.Am
mutual
theorem Bg {R R' : Addr -> Value -> Prop} {φ φ' : dy} {N N' : Names} : ∀ x,clean x = true -> ∀ v,bT R φ (cM N x) v -> bT R' φ' (cM N' x) v
 | .list k xs,h,v,r => by
   simp only [clean,ff] at h;subst h;simp only [cM] at r ⊢;cases r with
   | mI _ _ _ a n cap u hn jH hk hu hh => subst hn; exact .mI _ _ _ _ _ _ u rfl jH hk (fun i j x c hx => by simp at hx) (fun i j x c hx => by simp at hx)
   | j8 => exact .j8 _ _
 | .agg cs,h,v,r => by
   simp only [clean] at h;simp only [cM] at r ⊢;cases r with
   | agg _ _ vs hl hh => exact .agg _ _ _ (by rw [dI] at hl ⊢; exact hl) (fun i d u hd hu => yf cs h i d u hd (fun z hz => hh i z u hz hu))
 | .dB cs,h,v,r => by
   simp only [clean] at h;simp only [cM] at r ⊢;cases r with
   | dB _ _ vs hl hh => exact .dB _ _ _ (by rw [dI] at hl ⊢; exact hl) (fun i d u hd hu => yf cs h i d u hd (fun z hz => hh i z u hz hu))
 | .own _ _,_,v,_ => .any _ _
 | .dw _,h,_,_ => by simp [clean] at h
 | .any,h,_,_ => by simp [clean] at h
 | .func _ _ _,h,_,_ => by simp [clean] at h
 | .dG _ _ _ _,h,_,_ => by simp [clean] at h
 | .fa _ _ _ _,h,_,_ => by simp [clean] at h
 | .ptr _ _,h,_,_ => by simp [clean] at h
 | .sl _ _ _ _,h,_,_ => by simp [clean] at h
 | .undef,_,v,r => by simp only [cM] at r ⊢; cases r; exact .undef _
 | .fy,_,v,r => by simp only [cM] at r ⊢; cases r; exact .fy _
 | .fD,_,v,r => by simp only [cM] at r ⊢; cases r; exact .fD _
 | .dz,_,v,r => by simp only [cM] at r ⊢; cases r; exact .dz _
 | .int _ _,_,v,r => by simp only [cM] at r ⊢; cases r; exact .int _ _ _
 | .bool _,_,v,r => by simp only [cM] at r ⊢; cases r; exact .bool _ _
 | .str _,_,v,r => by simp only [cM] at r ⊢; cases r; exact .str _ _
theorem yf {R R' : Addr -> Value -> Prop} {φ φ' : dy} {N N' : Names} : ∀ cs,fU cs = true -> ∀ (i : Nat) (d : AV) (u : Value),(kW N' cs)[i]? = some d -> (∀ z,(kW N cs)[i]? = some z -> bT R φ z u) -> bT R' φ' d u
 | [],_,i,d,u,h,_ => by simp [kW] at h
 | x :: r,hc,i,d,u,h,hz => by
   simp only [fU,ae] at hc;cases i with
   | zero => simp [kW] at h hz; subst h; exact Bg x hc.1 u hz
   | succ i => simp [kW] at h hz; exact yf r hc.2 i d u h hz
end
mutual
theorem Ow {o : Rt -> Option (Nat × List AV)} {nb : Nat} : ∀ x,clean x = true -> cK o nb x
 | .list _ _,_ => trivial
 | .agg cs,h => by simp only [clean] at h; exact Bh cs h
 | .dB cs,h => by simp only [clean] at h; exact Bh cs h
 | .own _ _,_ => trivial
 | .dw _,h => by simp [clean] at h
 | .any,h => by simp [clean] at h
 | .func _ _ _,h => by simp [clean] at h
 | .dG _ _ _ _,h => by simp [clean] at h
 | .fa _ _ _ _,h => by simp [clean] at h
 | .ptr _ _,h => by simp [clean] at h
 | .sl _ _ _ _,h => by simp [clean] at h
 | .undef,_ => trivial
 | .fy,_ => trivial
 | .fD,_ => trivial
 | .dz,_ => trivial
 | .int _ _,_ => trivial
 | .bool _,_ => trivial
 | .str _,_ => trivial
theorem Bh {o : Rt -> Option (Nat × List AV)} {nb : Nat} : ∀ cs,fU cs = true -> kg o nb cs
 | [],_ => trivial
 | x :: r,h => by simp only [fU,ae] at h; exact ⟨Ow x h.1,Bh r h.2⟩
end
theorem Ox {x : AV} (h : clean x = true) : ∀ d ∈ x.cells,clean d = true := by
 have all : ∀ {l : List AV},fU l = true -> ∀ z ∈ l,clean z = true := by
  intro l
  induction l with
  | nil => intro _ z hz; simp at hz
  | cons y r ih =>
    intro h z hz;simp only [fU,ae] at h;rcases aK.1 hz with e | e
    ·subst e; exact h.1
    ·exact ih h.2 z e
 intro d hd;by_cases ha : ∃ cs,x = .agg cs
 ·obtain ⟨cs,rfl⟩ := ha;simp only [clean] at h;exact all h d hd
 ·have : x.cells = [x] := by cases x <;> first | rfl | exact absurd ⟨_,rfl⟩ ha
  rw [this] at hd;simp at hd;subst hd;exact h
theorem QO {l : List AV} (h : fU l = true) : ∀ z ∈ l,clean z = true := by
 induction l with
 | nil => intro z hz; simp at hz
 | cons y r ih =>
   intro z hz;simp only [fU,ae] at h;rcases aK.1 hz with e | e
   ·subst e; exact h.1
   ·exact ih h.2 z e
theorem vV (N : Names) (i : Nat) {x : AV} (h : bJ x = false) : ku N i x = cM N x := by
 by_cases ha : ∃ cs,x = .agg cs
 ·obtain ⟨cs,rfl⟩ := ha;simp only [bJ] at h;simp only [ku,cM];congr 1;apply dT;intro j;rw [fZ,lx];cases hc : cs[j]? with
  | none => rfl
  | some d =>
    simp only [dc];congr 1;have := Cc h d (bg hc);cases d <;> first | rfl | exact absurd rfl (this _ _)
 ·cases x <;> first | rfl | exact absurd ⟨_,rfl⟩ ha | (simp [bJ] at h; done)
section
variable {P : Program} {X : Nat -> Prop} {φ nk φ' : dy} {w w1 w' : World} {N N1 N' : Names} {s s' s1 : St} {Ha H1 Ha' : Heap} {t t1 t' : Nat -> Value} {B : Nat -> Nat} {base : Nat} {v va : AV} {v' : Value} {c : eE} {o : Oper} {a : Act} {kd : Kd} {call : Nat -> List AV -> Heap -> Option (AV × Heap)}
theorem aeM (h : eR X φ w N s Ha t) (hb : (∀ b,b < base -> N.β b = B b) /\ base <= s.H.length) (ad : fJ [] w nk w1) {k : Nat} {xs : List AV} {H' : Heap} (h1 : eR X nk w1 N1 ⟨[(0,.own k xs)],H'⟩ H1 t1) (hc : fU xs = true) :
  ∃ φ',eG X φ' w1 B base s (.own k xs) t (t1 0) /\ fJ φ w φ' w1 := by
 have ho1 : aC ⟨[(0,.own k xs)],H'⟩ (.s 0) = some (k,xs) := rfl;have eQ := h1.own (.s 0) k xs ho1;have hr := h1.env 0;simp only [Am.get,if_true,ku,jF,rO] at hr;cases hn : N1.ν (.s 0) with
 | none =>
   rw [hn] at eQ hr;have hx : xs = [] := eQ;subst hx;refine ⟨φ,eG.quiet (h.my (.of_same ad) (h.heap.of_same ad) h.own (fun _ _ => rfl)) hb trivial (by simp [EO]) ?_,.of_same ad⟩;simp only at hr;simp only [vX];generalize t1 0 = z at hr ⊢;cases hr;exact .dz _
 | some n1 =>
   rw [hn] at eQ hr;simp only at hr;obtain ⟨g,sz,lv,hX,mq⟩ := wg h1.heap eQ;obtain ⟨cs,c1,c2,c3,c4⟩ := eQ;obtain ⟨g',nx,arr,e,f1,f2,f3,f4,f5,f6⟩ := h1.heap.at c1;rw [lv] at f1;cases f1;have hgs : w.heap.size <= g := Nat.le_of_not_lt fun bL => (ad.keep g bL (bQ.nil g)).2 ⟨n1,sz,lv⟩;have Qm := jx c3
   have my : fJ φ w (φ ++ [some (g,sz)]) w1 := by
    refine ⟨ad.os,ad.tape,ad.output,ad.drawn,ad.size,fun g0 bL iK => ⟨(ad.keep g0 bL (bQ.nil g0)).1,fun ho => ?_⟩,⟨by simp,fun b p hb hp => by rwa [az hb] at hp⟩⟩;rcases zn ho with h2 | h2
    ·exact iK h2
    ·simp at h2; omega
   have hh : cG X (φ ++ [some (g,sz)]) w1 (Ha ++ [some (aH xs)]) := by
    refine ⟨by simp [h.heap.len],fun g0 hg0 => fM (h.heap.Dh g0 hg0) ad.size,fun b ds wz => ?_,fun b wz => ?_,fun b b' g0 WZ sz1 e1 e2 => ?_⟩
    ·by_cases bL : b < Ha.length
     ·rw [az bL] at wz;obtain ⟨g0,WZ,arr0,e0,p1,p2,p3,p4,p5,p6⟩ := h.heap.live b ds wz;refine ⟨g0,WZ,arr0,e0,by rw [az (by rw [h.heap.len]; exact bL)]; exact p1,?_,p3,p4,p5,fun i d hd => ?_⟩
      ·rw [(ad.keep g0 (eK.1 p2).1 (bQ.nil g0)).1]; exact p2
      ·obtain ⟨u,u1,u2⟩ := p6 i d hd;exact ⟨u,u1,my.rep u2⟩
     ·have CF : b = Ha.length := by have := aA wz; simp at this; omega
      subst CF;simp at wz;subst wz;refine ⟨g,sz,arr,e,by rw [<- h.heap.len]; simp,f2,f3,by omega,hX,fun i d hd => ?_⟩;obtain ⟨i',z,j,z1,z2,z3⟩ := (iM c3).2 i d hd;obtain ⟨u,u1,u2,u3⟩ := mq i' j z d z1 z2;refine ⟨u,by rw [iF f2] at u1; rw [z3]; exact u1,?_⟩;have Qp := Ox (QO hc z (bg z1)) d (bg z2);have oX := (kh u2).1;have := Bg (N := N) (N' := N) (R' := Rd X (φ ++ [some (g,sz)]) w1) (φ' := φ ++ [some (g,sz)]) d Qp u (by rw [ks N _ oX]; exact u3)
      rwa [ks N _ oX] at this
    ·by_cases bL : b < Ha.length
     ·rw [az bL] at wz;rw [az (by rw [h.heap.len]; exact bL)];exact h.heap.dead b wz
     ·have CF : b = Ha.length := by have := aA wz; simp at this; omega
      subst CF;simp at wz
    ·have new : ∀ (b g0 WZ : Nat),(φ ++ [some (g,sz)])[b]? = some (some (g0,WZ)) -> (b < φ.length /\ φ[b]? = some (some (g0,WZ)) /\ g0 < w.heap.size) \/ (b = φ.length /\ g0 = g) := by
      intro b g0 WZ hb;by_cases bL : b < φ.length
      ·rw [az bL] at hb;exact .inl ⟨bL,hb,(h.heap.im ⟨b,WZ,hb⟩).1⟩
      ·have ia := aA hb;simp at ia;have CF : b = φ.length := by omega
       subst CF;simp at hb;exact .inr ⟨rfl,hb.1.symm⟩
     rcases new b g0 WZ e1 with ⟨l1,q1,g1⟩ | ⟨l1,g1⟩ <;> rcases new b' g0 sz1 e2 with ⟨l2,q2,g2⟩ | ⟨l2,g2⟩
     ·exact h.heap.inj b b' g0 WZ sz1 q1 q2
     ·omega
     ·omega
     ·omega
   refine ⟨φ ++ [some (g,sz)],zO h hb my hh (by omega) c3 (fun i d hd => ?_) ?_,my⟩
   ·obtain ⟨i',z,j,z1,z2,z3⟩ := (iM c3).2 i d hd;obtain ⟨u,u1,u2,u3⟩ := mq i' j z d z1 z2;exact ⟨u2,d,hd,(kh u2).2,Le.refl _⟩
   ·generalize t1 0 = z at hr;cases hr with
    | sl _ _ _ _ _ ad' cap ia jH hh' =>
      refine .sl _ _ _ _ _ _ _ (by simp [h.heap.len]) jH fun g0 WZ e0 => ?_;rw [<- h.heap.len] at e0;simp at e0;obtain ⟨rfl,rfl⟩ := e0;exact hh' g sz lv
theorem Qu {X' : Nat -> Prop} (hg : Am.dZ (iO c) X φ w) (hx : ∀ g,X' g -> X g \/ bQ φ g) : Am.dZ (iO c) X' [] w := fun g => (hg g).mono (fun a u ⟨h1,h2,h3⟩ => ⟨fun h => (hx _ h).elim h1 h2,bQ.nil _,h3⟩) (.refl _)
theorem PH (dg : fE P c) (dX : iH P c call) (h : SB X φ w B base s (tm a)) (hg : Am.dZ (iO c) X φ w) (hk : cZ P o.op (lS kd) = true) {f : Nat} {args qU : List AV} (ha : getArgs c s.env kd = some (f,args)) {md : Md} {q : fK} (hf : c.fn f = some (md,q)) (jG : md.sh = false) (hz : s4 s args = some qU) {r : AV} {H' : Heap} (hc : call f qU [] = some (r,H')) (hr : MN r = true) : lY P X φ w B base s r o a := by
 obtain ⟨N,Ha,h,hb⟩ := h;obtain ⟨vargs,l8,hA,xX⟩ := s5 dg h hg hk ha hf;obtain ⟨z1,z2,z3⟩ := Gs h args qU hz xX
 have C3 := SB.start (X := X) (w := w) (args := qU) (vargs := vargs) h.heap.Dh z1 (by rw [z2]; exact hA.1) (fun i x v hx hv => z3 i x v hx (fun z hz => by
  rw [nu] at hz;cases Hh : args[i]? with
  | none => rw [Hh] at hz; cases hz
  | some y => rw [Hh] at hz; simp at hz; subst hz; exact hA.2 i y v Hh hv)) (fun _ => 0)
 have jU := dX f md q hf qU [] r H' (.inr rfl) hc (fun e => by rw [jG] at e; cases e) X [] w (fun _ => 0) vargs (by rw [z2]; exact hA.1) C3 (Qu hg fun g h => .inl h);intro K Q hK;unfold Oper.wp;rw [l8,Oper.upon_enter];refine jU.mono ?_;rintro e w1 ⟨v',nk,rfl,⟨N1,H1,hZ,_⟩,ad⟩;unfold MN at hr;simp only [ae] at hr;by_cases ho : ∃ k xs,r = .own k xs
 ·obtain ⟨k,xs,rfl⟩ := ho;obtain ⟨φ',hp,ad'⟩ := aeM h hb ad hZ (by simpa [clean] using hr.1);exact hK v' w1 φ' (by simpa using hp) ad'
 ·have iK : bJ r = false := by
   have := hr.2;cases r <;> first | exact absurd ⟨_,_,rfl⟩ ho | simpa using this
  refine hK v' w1 φ (eG.quiet (h.my (.of_same ad) (h.heap.of_same ad) h.own (fun _ _ => rfl)) hb (Ow r hr.1) (k9 iK) ?_) (.of_same ad);have r0 := hZ.env 0;simp only [Am.get,if_true] at r0;rw [vV N1 0 iK] at r0;rw [kG N iK];exact Bg r hr.1 v' r0
theorem PG (dg : fE P c) (dX : iH P c call) (h : SB X φ w B base s (tm a)) (hg : Am.dZ (iO c) X φ w) (hk : cZ P o.op (lS kd) = true) {f : Nat} {args : List AV} (ha : getArgs c s.env kd = some (f,args)) {md : Md} {q : fK} (hf : c.fn f = some (md,q)) (jG : md.sh = false) (hz : gz (args.map fi) = true) {r : AV} {H' : Heap} (hc : call f (args.map fi) [] = some (r,H')) (hr : pl r = true) : lY P X φ w B base s r o a := by
 obtain ⟨N,Ha,h,hb⟩ := h;obtain ⟨vargs,l8,hA,xX⟩ := s5 dg h hg hk ha hf;have wQ : ∀ a u,Rd X φ w a u -> Rd (fun g => X g \/ bQ φ g) [] w a u := fun a u ⟨h1,h2,h3⟩ => ⟨fun h => h.elim h1 h2,bQ.nil _,h3⟩
 have C3 := SB.start (X := fun g => X g \/ bQ φ g) (w := w) (args := args.map fi) (vargs := vargs) (fun g hg => hg.elim (h.heap.Dh g) (fun ho => (h.heap.im ho).1)) hz (by simpa using hA.1) (fun i x v hx hv => by
  rw [cq] at hx;cases Hh : args[i]? with
  | none => rw [Hh] at hx; cases hx
  | some y =>
    rw [Hh] at hx;simp at hx;subst hx;have r0 := hA.2 i y v Hh hv;have Zo := eX hz i (fi y) (by rw [cq,Hh]; rfl);by_cases ho : ∃ k,y = .own k []
    ·obtain ⟨k,rfl⟩ := ho;simp only [gL] at r0;cases r0;exact .j8 _ _
    ·have hn : fi y = y := by
      unfold fi;split
      ·rename_i k; exact absurd ⟨k,rfl⟩ ho
      ·rfl
     rw [hn] at Zo ⊢;have hy : gL N y = y := by cases y <;> first | exact ks N _ Zo | (simp [pl] at Zo; done)
     rw [hy] at r0;exact (r0.dJ (gH _ Zo) []).mono wQ (.refl _)) (fun _ => 0)
 have jU := dX f md q hf (args.map fi) [] r H' (.inr rfl) hc (fun e => by rw [jG] at e; cases e) (fun g => X g \/ bQ φ g) [] w (fun _ => 0) vargs (by simpa using hA.1) C3 (Qu hg fun g h => h);intro K Q hK;unfold Oper.wp;rw [l8,Oper.upon_enter];refine jU.mono ?_;rintro e w1 ⟨v',nk,rfl,⟨N1,H1,hZ,_⟩,ad⟩;have iK := uZ hr;refine hK v' w1 φ (eG.quiet (h.my (.of_same ad) (h.heap.of_same ad) h.own (fun _ _ => rfl)) hb (tX r hr) (k9 iK) ?_) (.of_same ad);have r0 := hZ.env 0;simp only [Am.get,if_true] at r0;rw [xp N1 0 hr] at r0;rw [kG N iK,ks N _ hr];exact ((r0.dJ (gH _ hr) []).mono (fun a u ⟨h1,_,h3⟩ => ⟨fun h => h1 (.inl h),fun h => h1 (.inr h),h3⟩) (.refl _)).FN φ
end
end Go.Bm

/- Regions in the order of the text; their ends. -/
namespace Go.Bm
open Go.Am
section
variable {P : Program} {X : Nat -> Prop} {φ nk φ' : dy} {w w1 w' : World} {N1 N' : Names} {s s' s1 : St} {B : Nat -> Nat} {base : Nat} {v va : AV} {v' : Value} {c : eE} {o : Oper} {a : Act} {kd : Kd} {call : Nat -> List AV -> Heap -> Option (AV × Heap)}
structure Ab (X : Nat -> Prop) (φ : dy) (w : World) (B : Nat -> Nat) (base : Nat) (s : St) (a : Act) (N : Nat) : Prop where
 sb : SB X φ w B base s (tm a)
 defers : a.defers = []
 size : a.tmps.size = N
theorem aeW {a : Act} {d : Option Nat} {v' : Value} (hd : ∀ i,d = some i -> i < a.tmps.size) (j : Nat) : tm (a.put d v') j = if some j = d then v' else tm a j := by
 cases d with
 | none => simp [tm,Act.put]
 | some i =>
   have hi := hd i rfl;simp only [tm,Act.put,bf];by_cases e : j = i
   ·subst e; simp [hi]
   ·simp [iQ (iP e),e]
theorem Ab.put {N : Nat} (h : Ab X φ w B base s a N) (hN : N <= fe) {d : Option Nat} (hd : ∀ i,d = some i -> i < N) (hp : eG X φ' w' B base s1 v (tm a) v') (hs : xc s1 d v = some s') : ∃ nW,Ab X nW w' B base s' (a.put d v') N /\ fJ φ' w' nW w' := by
 obtain ⟨nW,h1,a1⟩ := aa6 (t' := tm (a.put d v')) hp hs (fun e => by have := hd fe e; omega) (fun j => aeW (fun i hi => by rw [h.size]; exact hd i hi) j);obtain ⟨h2,h3⟩ := X5 a d v';exact ⟨nW,⟨h1,by rw [h3]; exact h.defers,by rw [h2]; exact h.size⟩,a1⟩
theorem eG.undef (h : SB X φ w B base s (tm a)) : eG X φ w B base s .undef (tm a) WW := by
 obtain ⟨N,Ha,h,hb⟩ := h;exact eG.quiet h hb trivial trivial (.undef _)
theorem Mf {N : Nat} {ops : Array Oper} {q : O} {fl : Fq} (fu : ∀ v s1 f,fH c call s q.kd = some (v,s1,f) -> lY P X φ w B base s1 v o a) (hc : LF P N ops o (Oh q) = true) (hN : N <= fe)
  (hs : qH c call s q = some (s',fl)) (hr : Ab X φ w B base s a N) {K : Act -> World -> Prop} {Q : Exit -> Act -> World -> Prop} (hK : ∀ a' w' φ',Ab X φ' w' B base s' a' N -> fJ φ w φ' w' -> K a' w') :
  if Region.wanted o (yielded ops a.tmps) then o.wp P a w K Q \/ (o.asks P a w /\ LetsOut Q) else K (a.put o.dst WW) w := by
 simp only [LF,Oh,ae,decide_eq_true_eq] at hc;obtain ⟨⟨⟨aiL,hd⟩,hgd⟩,_⟩ := hc;have hdst : o.dst = q.dst := of_decide_eq_true aiL
 have hd' : ∀ i,o.dst = some i -> i < N := by
  intro i hi;rw [<- hdst,hi] at hd;simpa using hd
 have run : ∀ {v s1 f fl'},fH c call s q.kd = some (v,s1,f) -> zS s.env q.dst v s1 f = some (s',fl') -> o.wp P a w K Q := by
  intro v s1 f fl' hv hf;unfold zS at hf;split at hf
  case h_2 => cases hf
  rename_i s2 hp;simp only [ah,aJ] at hf;obtain ⟨rfl,_⟩ := hf;refine fu v s1 f hv K Q fun v' w' φ' xW ad => ?_;rw [<- hdst] at hp;obtain ⟨nW,h1,a1⟩ := hr.put hN hd' xW hp;exact hK _ _ nW h1 (ad.trans a1)
 have no : ∀ {fl'},zS s.env q.dst .undef s .no = some (s',fl') -> K (a.put o.dst WW) w := by
  intro fl' hf;unfold zS at hf;split at hf
  case h_2 => cases hf
  rename_i s2 hp;simp only [ah,aJ] at hf;obtain ⟨rfl,_⟩ := hf;rw [<- hdst] at hp;obtain ⟨nW,h1,a1⟩ := hr.put hN hd' (eG.undef hr.sb) hp;exact hK _ _ nW h1 a1
 have aiD : ∀ (g : Nat),∃ N1 Ha,bT (Rd X φ w) φ (ku N1 g (get s.env g)) (tm a g) /\ eR X φ w N1 s Ha (tm a) := fun g => by
  obtain ⟨N1,Ha,h,_⟩ := hr.sb;exact ⟨N1,Ha,h.env g,h⟩
 unfold qH at hs;split at hs
 ·rename_i hgn;rw [hgn] at hgd;split at hgd
  ·rename_i h1 _;rw [if_pos (by simp [Region.wanted,h1])];split at hs
   ·rename_i v s1 f hv;exact .inl (run hv hs)
   ·cases hs
  ·rename_i h2; simp at h2
  ·cases hgd
 ·rename_i g want hgn;rw [hgn] at hgd;split at hgd
  ·rename_i h2; simp at h2
  ·rename_i j ac0 g' ai2 h1 h2;simp only [ae,decide_eq_true_eq] at hgd;obtain ⟨hj,rfl⟩ := hgd;simp at h2;obtain ⟨rfl,rfl⟩ := h2;obtain ⟨N1,Ha,Gd,_⟩ := aiD g;split at hs
   ·rename_i b hb;rw [hb] at Gd;simp only [ku,jF,cM] at Gd;have hv := ny Gd;have hy : yielded ops a.tmps j = some b := by unfold yielded; rw [hj]; simp only [WT]; rw [We hv]
    by_cases Qs : b = want
    ·subst Qs;rw [if_pos (by simp [Region.wanted,h1,hy])];simp only [if_true] at hs;split at hs
     ·rename_i v s1 f hv;exact .inl (run hv hs)
     ·cases hs
    ·rw [if_neg (by simp [Region.wanted,h1,hy,Qs])];rw [if_neg Qs] at hs;exact no hs
   ·rename_i hb;rw [hb] at Gd;simp only [ku,jF,cM] at Gd;generalize hv : tm a g = vg at Gd;cases Gd
    have hy : yielded ops a.tmps j = none := by
     unfold yielded;rw [hj];simp only [WT];rcases Qv hv with h | h <;> rw [h]
    rw [if_neg (by simp [Region.wanted,h1,hy])];exact no hs
   ·cases hs
  ·cases hgd
def JM (P : Program) (c : eE) (call : Nat -> List AV -> Heap -> Option (AV × Heap)) : Prop :=
 ∀ X φ w B base s o a kd v s1 f,cZ P o.op (lS kd) = true -> fH c call s kd = some (v,s1,f) -> SB X φ w B base s (tm a) -> Am.dZ (iO c) X φ w -> lY P X φ w B base s1 v o a
theorem Tu (A7 : JM P c call) {N : Nat} (hN : N <= fe) {ops : Array Oper} {Q : Exit -> Act -> World -> Prop} : ∀ (l : List Oper) (qs : List O) (k : Nat) (s s' : St) (oR : List Fq) (a : Act) (w : World) (φ : dy),
  (∀ j,l[j]? = ops[k + j]?) -> qo P N ops l qs = true -> lI c call qs s = some (s',oR) -> Ab X φ w B base s a N -> Am.dZ (iO c) X φ w -> (∀ a' w' φ',Ab X φ' w' B base s' a' N -> fJ φ w φ' w' -> Q .normal a' w') ->
  wpOps P ops Q (List.range' k l.length) a w
 | [],qs,k,s,s',oR,a,w,φ,_,hc,hs,hr,hg,hQ => by
   cases qs with
   | nil =>
     simp [lI] at hs;obtain ⟨rfl,rfl⟩ := hs;exact hQ a w φ hr (.refl _ _)
   | cons q r => simp [qo] at hc
 | o :: l,qs,k,s,s',oR,a,w,φ,hl,hc,hs,hr,hg,hQ => by
   cases qs with
   | nil => simp [qo] at hc
   | cons q r =>
     simp only [qo,ae] at hc;simp only [lI] at hs;split at hs
     case h_2 => cases hs
     rename_i s1 fl1 h1;split at hs
     case h_2 => cases hs
     rename_i s2 fl2 h2;simp at hs;obtain ⟨rfl,rfl⟩ := hs;have h0 : ops[k]? = some o := by simpa using (hl 0).symm
     rw [cj,List.range'_succ,wpOps_cons];unfold wpOp;rw [h0]
     have hck : cZ P o.op (lS q.kd) = true := by
      have := hc.1;simp only [LF,Oh,ae] at this;exact this.2
     refine Mf (fun v s1 f hv => A7 X φ w B base s o a q.kd v s1 f hck hv hr.sb hg) hc.1 hN h1 hr fun a' w' φ' uh k' => ?_;exact Tu A7 hN l r (k + 1) s1 s2 fl2 a' w' φ' (fun j => by have := hl (j + 1); simpa [Nat.add_assoc,Nat.add_comm 1 j] using this) hc.2 h2 uh (hg.my k') fun a'' WY nW h'' wu => hQ a'' WY nW h'' (k'.trans wu)
theorem Cd {keep : List Nat} : ∀ {e : Env},qP keep e = false -> ∀ i,mem i keep = false -> bJ (get e i) = false
 | [],_,i,_ => rfl
 | (j,v) :: r,h,i,hi => by
   simp only [qP,eP] at h;simp only [Am.get];split
   ·rename_i e;subst e;rw [hi] at h;simpa using h.1
   ·exact Cd h.2 i hi
theorem Ce (keep : List Nat) : ∀ (env : Env) (i : Nat),get (qf keep env) i = if mem i keep = true then get env i else .any
 | [],i => by simp [qf,Am.get]
 | (j,u) :: r,i => by
   have ih := Ce keep r i;unfold qf;split
   ·rename_i hm;simp only [Am.get];by_cases e : i = j
    ·subst e; simp [hm]
    ·rw [if_neg e,if_neg e]; exact ih
   ·rename_i hm;rw [ih];simp only [Am.get];by_cases e : i = j
    ·subst e; simp [hm]
    ·rw [if_neg e]
theorem UF {t : Nat -> Value} (h : SB X φ w B base s t) {keep : List Nat} (ho : qP keep s.env = false) : SB X φ w B base (ZU base keep s) t := by
 obtain ⟨N,Ha,h,hb,hl⟩ := h
 have h1 : eR X φ w N ⟨qf keep s.env,s.H⟩ Ha t := h.keep (fun i => by
  rw [Ce];cases hm : mem i keep with
  | true => exact .inl (by simp)
  | false => exact .inr ⟨by simp,Cd ho i hm⟩) rfl
 refine ⟨N,Ha,h1.trim (base0 := base) s.H.length,hb,?_⟩
 have len : ∀ (n : Nat) (H : Heap),base <= H.length -> base <= (trim base (qf keep s.env) n H).length := by
  intro n
  induction n with
  | zero => intro H h; exact h
  | succ n ih =>
    intro H h;simp only [trim];split
    ·rename_i hc;exact ih _ (by simp; omega)
    ·exact h
 exact len _ _ hl
theorem ab6 {t : Nat -> Value} (h : SB X φ w B base s t) {keep : List Nat} (he : QC base keep s = some s') : ∃ φ',SB X φ' w B base s' t /\ fJ φ w φ' w := by
 unfold QC at he;split at he
 ·split at he
  ·cases he
  rename_i ho;simp at he ho;subst he;obtain ⟨nk,h1,a1⟩ := SB.mY keep s.env h;exact ⟨nk,UF h1 ho,a1⟩
 ·rename_i ho;simp at he ho;subst he;exact ⟨φ,UF h ho,.refl _ _⟩
end
end Go.Bm

/- A run of the compact code by value is a run of the dump's code. -/
namespace Go.Bm
open Go.Am
section
variable {P : Program} {c : eE}
def G7 (P : Program) (c : eE) (call : Nat -> List AV -> Heap -> Option (AV × Heap)) : Prop :=
 ∀ X φ w B base s s' oR a N id ops os un (Q : Exit -> Act -> World -> Prop),N <= fe -> qo P N ops ops.toList os = true -> mO un [] [] ops.toList os = true -> lI c call os s = some (s',oR) -> Ju os oR un = true -> Ab X φ w B base s a N -> Am.dZ (iO c) X φ w ->
  (∀ a' w' φ',Ab X φ' w' B base s' a' N -> fJ φ w φ' w' -> Q .normal a' w') -> (Code.region id ops true).wp P Q a w
def OJ (P : Program) (c : eE) (n : Nat) : Prop := ∀ (N base : Nat) (code : Code) (cd : C) (s s' : St) (e : Ex),N <= fe -> HI P N code cd = true -> cT c n base cd s = some (e,s') -> ∀ X φ w B a,Ab X φ w B base s a N -> Am.dZ (iO c) X φ w ->
 ∀ Q : Exit -> Act -> World -> Prop,(∀ a' w' φ',Ab X φ' w' B base s' a' N -> fJ φ w φ' w' -> Q e.to a' w') -> code.wp P Q a w
theorem Du (H1 : ∀ call,iH P c call -> JM P c call) (H2 : ∀ call,iH P c call -> G7 P c call) (H3 : ∀ n,OJ P c n -> iH P c (lX c (cT c n))) : ∀ n,OJ P c n
 | 0 => fun N base code cd s s' e _ _ h => by simp [cT] at h
 | n + 1 => by
   have ih := Du H1 H2 H3 n;have dX := H3 n ih;intro N base code cd s s' e hN hc h X φ w B a hr hg Q hQ;unfold HI at hc;split at hc
   case h_1 => simp [cT] at h; obtain ⟨rfl,rfl⟩ := h; exact wp_skip (hQ a w φ hr (.refl _ _))
   case h_2 => simp [cT] at h; obtain ⟨rfl,rfl⟩ := h; exact wp_ret (hQ a w φ hr (.refl _ _))
   case h_3 =>
    simp only [decide_eq_true_eq] at hc;subst hc;simp [cT] at h; obtain ⟨rfl,rfl⟩ := h; exact wp_exit (hQ a w φ hr (.refl _ _))
   case h_4 =>
    rename_i id ops d os dr un keep;simp only [ae,decide_eq_true_eq] at hc;obtain ⟨⟨rfl,dP⟩,ho⟩ := hc;simp only [cT] at h;split at h
    case h_2 => cases h
    rename_i s1 oR hs;split at h
    case isFalse => cases h
    rename_i hd;split at h
    case h_2 => cases h
    rename_i s2 he;simp at h;obtain ⟨rfl,rfl⟩ := h
    have hQ' : ∀ a' w' φ',Ab X φ' w' B base s1 a' N -> fJ φ w φ' w' -> Q .normal a' w' := fun a' w' φ' h k => by
     obtain ⟨nW,h2,a2⟩ := ab6 h.sb he;exact hQ a' w' nW ⟨h2,h.defers,h.size⟩ (k.trans a2)
    cases d with
    | false =>
      refine wp_region ?_;rw [List.range_eq_range',<- Array.length_toList];exact Tu (H1 _ dX) hN ops.toList os 0 s s1 oR a w φ (fun j => by simp) dP hs hr hg hQ'
    | true =>
      simp at ho;exact H2 _ dX X φ w B base s s1 oR a N id ops os un Q hN dP ho hs (by simpa using hd) hr hg hQ'
   case h_5 =>
    rename_i x y cx cy;simp only [ae] at hc;simp only [cT] at h;refine wp_seq ?_;cases h1 : cT c n base cx s with
    | none => rw [h1] at h; cases h
    | some p =>
      obtain ⟨e1,s1⟩ := p;rw [h1] at h;cases e1 with
      | normal =>
        simp only at h;exact ih N base x cx s s1 .normal hN hc.1 h1 X φ w B a hr hg _ fun a' w' φ' uh k => ih N base y cy s1 s' e hN hc.2 h X φ' w' B a' uh (hg.my k) Q fun a'' WY nW Zn wu => hQ a'' WY nW Zn (k.trans wu)
      | exit id => simp at h; obtain ⟨rfl,rfl⟩ := h; exact ih N base x cx s s1 _ hN hc.1 h1 X φ w B a hr hg _ fun a' w' φ' uh k => hQ a' w' φ' uh k
      | ret => simp at h; obtain ⟨rfl,rfl⟩ := h; exact ih N base x cx s s1 _ hN hc.1 h1 X φ w B a hr hg _ fun a' w' φ' uh k => hQ a' w' φ' uh k
   case h_6 =>
    rename_i x ca cb y da db;simp only [ae] at hc;simp only [cT] at h;split at h
    case h_2 => cases h
    rename_i t ht
    have r : a.eval x = .bool t := by
     obtain ⟨N1,Ha,hsim,_⟩ := hr.sb;have ho := cP (c := c) (cA := iO c) hsim rfl hc.1.1;have := bX (c := iO c) (env := yw N1 s.env) (a := a) (fun i => by rw [lP]; exact hsim.env i) hg hc.1.1;rw [ho.ev,ht] at this;exact ny this
    refine wp_cond (t := t) r ?_;cases t with
    | true => simp at h ⊢; exact ih N base ca da s s' e hN hc.1.2 h X φ w B a hr hg Q hQ
    | false => simp at h ⊢; exact ih N base cb db s s' e hN hc.2 h X φ w B a hr hg Q hQ
   case h_7 =>
    rename_i i b j x;simp only [ae,decide_eq_true_eq] at hc;obtain ⟨rfl,hc⟩ := hc;simp only [cT] at h;refine wp_block ?_;cases h1 : cT c n base x s with
    | none => rw [h1] at h; cases h
    | some p =>
      obtain ⟨e1,s1⟩ := p;rw [h1] at h;refine ih N base b x s s1 e1 hN hc h1 X φ w B a hr hg _ fun a' w' φ' uh k => ?_;cases e1 with
      | normal => simp at h; obtain ⟨rfl,rfl⟩ := h; exact hQ a' w' φ' uh k
      | ret => simp at h; obtain ⟨rfl,rfl⟩ := h; exact hQ a' w' φ' uh k
      | exit id =>
        simp only at h;split at h
        ·rename_i qA;simp at h; obtain ⟨rfl,rfl⟩ := h;simp only [Ex.to,Exit.inBlock,qA,if_true];exact hQ a' w' φ' uh k
        ·rename_i qA;simp at h; obtain ⟨rfl,rfl⟩ := h;simp only [Ex.to,Exit.inBlock,qA,if_false];exact hQ a' w' φ' uh k
   case h_8 =>
    rename_i b x;simp only [cT] at h
    have key : ∀ m,m <= n -> ∀ s a w φ,cT c m base (.loop x) s = some (e,s') -> Ab X φ w B base s a N -> Am.dZ (iO c) X φ w -> (∀ a' w' φ',Ab X φ' w' B base s' a' N -> fJ φ w φ' w' -> Q e.to a' w') -> LW P b Q a w := by
     intro m
     induction m with
     | zero => intro _ s a w φ h; simp [cT] at h
     | succ m ihm =>
       intro hm s a w φ h hr hg hQ;simp only [cT] at h;refine LW.step ?_;have V4 : OJ P c m := Du H1 H2 H3 m;cases h1 : cT c m base x s with
       | none => rw [h1] at h; cases h
       | some p =>
         obtain ⟨e1,s1⟩ := p;rw [h1] at h;refine V4 N base b x s s1 e1 hN hc h1 X φ w B a hr hg _ fun a' w' φ' uh k => ?_;cases e1 with
         | normal => simp only at h; exact ihm (by omega) s1 a' w' φ' h uh (hg.my k) fun a'' WY nW Zn wu => hQ a'' WY nW Zn (k.trans wu)
         | exit id => simp at h; obtain ⟨rfl,rfl⟩ := h; exact hQ a' w' φ' uh k
         | ret => simp at h; obtain ⟨rfl,rfl⟩ := h; exact hQ a' w' φ' uh k
    refine LW.loop (LW.step ?_);cases h1 : cT c n base x s with
    | none => rw [h1] at h; cases h
    | some p =>
      obtain ⟨e1,s1⟩ := p;rw [h1] at h;refine ih N base b x s s1 e1 hN hc h1 X φ w B a hr hg _ fun a' w' φ' uh k => ?_;cases e1 with
      | normal => simp only at h; exact key n (aT _) s1 a' w' φ' h uh (hg.my k) fun a'' WY nW Zn wu => hQ a'' WY nW Zn (k.trans wu)
      | exit id => simp at h; obtain ⟨rfl,rfl⟩ := h; exact hQ a' w' φ' uh k
      | ret => simp at h; obtain ⟨rfl,rfl⟩ := h; exact hQ a' w' φ' uh k
   case h_9 => simp [cT] at h; obtain ⟨rfl,rfl⟩ := h; exact wp_label (hQ a w φ hr (.refl _ _))
   case h_10 =>
    rename_i b x;simp only [cT] at h;cases n with
    | zero => simp [cT] at h
    | succ n' =>
      rw [show cT c (n' + 1) base .skip s = some (.normal,s) from rfl] at h;simp only at h;refine wp_scope_straight (ih N base b x s s' e hN hc h X φ w B a hr hg _ fun a' w' φ' uh k => ?_);have hq := hQ a' w' φ' uh k;cases e <;> exact hq
   case h_11 => cases hc
end
end Go.Bm

/- What a function returns. -/
namespace Go.Bm
open Go.Am
section
variable {P : Program} {X : Nat -> Prop} {φ nk φ' : dy} {w w1 w' : World} {N N1 N' : Names} {s s' s1 : St} {Ha : Heap} {B : Nat -> Nat} {base : Nat} {v va : AV} {v' : Value} {c : eE} {a : Act} {call : Nat -> List AV -> Heap -> Option (AV × Heap)}
theorem ae2 (h : eR X φ w N s Ha (tm a)) (hg : Am.dZ (iO c) X φ w) {rv : Rv} {x : AV} (hx : Vt c s rv = some x) : ∃ xa,XD Ha (yw N s.env) rv = some xa /\ Le (cM N x) xa /\ cK (aC s) s.H.length x /\ bJ x = false := by
 cases rv with
 | t i =>
   simp only [Vt,ah] at hx;subst hx;refine ⟨_,rfl,?_,Ty h i,Nd _ _⟩;rw [lP,<- Ra];exact Le.refl _
 | c i ag =>
   simp only [Vt] at hx;split at hx
   case h_2 => cases hx
   rename_i u ps hp;simp at hx;subst hx;obtain ⟨va,fl,e,hle,h2,h3⟩ := aes (a := a) h hg (x := .t i) (o' := .tmp i) (by simp [lU,df]) hp
   have iK : bJ u = false := by
    have rd : ∀ {cs : List AV},J3 ag cs = some u -> bJ u = false := by
     intro cs hu;unfold J3 at hu;split at hu
     case h_2 => cases hu
     split at hu
     ·cases hu
     rename_i iK;simp at hu iK;subst hu;exact iK
    unfold xM at hp;split at hp
    ·split at hp
     ·rename_i hu; simp at hp; obtain ⟨rfl,_⟩ := hp; exact rd hu
     ·cases hp
    ·split at hp
     ·split at hp
      ·rename_i hu; simp at hp; obtain ⟨rfl,_⟩ := hp; exact rd hu
      ·cases hp
     ·cases hp
    ·split at hp
     ·split at hp
      ·split at hp
       ·split at hp
        ·rename_i hu; simp at hp; obtain ⟨rfl,_⟩ := hp; exact rd hu
        ·cases hp
       ·cases hp
      ·cases hp
     ·cases hp
    ·cases hp
   rw [kG N iK] at hle;refine ⟨va,?_,hle,h2,iK⟩;simp only [lS,lU,fW,Am.ev] at e;simp only [XD];split at e
   ·rename_i cs dP;rw [dP];split at e
    ·rename_i u' Ll; simp at e; obtain ⟨rfl,_⟩ := e; exact Ll
    ·cases e
   ·rename_i b off dP;rw [dP];split at e
    ·rename_i cs hb;simp only [hb];split at e
     ·rename_i u' Ll; simp at e; obtain ⟨rfl,_⟩ := e; exact Ll
     ·cases e
    ·cases e
   ·cases e
theorem Rn (h : eR X φ w N s Ha (tm a)) (hg : Am.dZ (iO c) X φ w) : ∀ {rvs : List Rv} {xs : List AV},oW c s rvs = some xs -> ∃ Vl,Mr Ha (yw N s.env) rvs = some Vl /\ Vl.length = xs.length /\ (∀ (i : Nat) (x y : AV),xs[i]? = some x -> Vl[i]? = some y -> Le (cM N x) y) /\ kg (aC s) s.H.length xs /\ ∀ x ∈ xs,bJ x = false
 | [],xs,hx => by simp [oW] at hx; subst hx; exact ⟨[],rfl,rfl,fun i x y h => by simp at h,trivial,fun x hx => by simp at hx⟩
 | r :: rs,xs,hx => by
   simp only [oW] at hx;split at hx
   case h_2 => cases hx
   rename_i u us h1 h2;simp at hx;subst hx;obtain ⟨xa,a1,a2,a3,a4⟩ := ae2 h hg h1;obtain ⟨Vl,b1,b2,b3,b4,b5⟩ := Rn h hg h2;refine ⟨xa :: Vl,by simp only [Mr,a1,b1],by simp [b2],fun i x y hx hy => ?_,⟨a3,b4⟩,fun x hx => ?_⟩
   ·cases i with
    | zero => simp at hx hy; subst hx hy; exact a2
    | succ i => simp at hx hy; exact b3 i x y hx hy
   ·rcases aK.1 hx with e | e
    ·subst e; exact a4
    ·exact b5 x e
theorem Xf (h : eR X φ w N s Ha (tm a)) (hg : Am.dZ (iO c) X φ w) {rvs : List Rv} {xs : List AV} (hx : oW c s rvs = some xs) : ∃ Vl,Mr Ha (yw N s.env) rvs = some Vl /\ Le (cM N (nt xs)) (nt Vl) /\ cK (aC s) s.H.length (nt xs) /\ bJ (nt xs) = false := by
 obtain ⟨Vl,b1,b2,b3,b4,b5⟩ := Rn h hg hx;refine ⟨Vl,b1,?_⟩
 match xs,Vl,b2 with
 | [],[],_ => exact ⟨Le.refl _,trivial,rfl⟩
 | [x],[y],_ => exact ⟨b3 0 x y rfl rfl,b4.1,b5 x (by simp)⟩
 | x :: x2 :: xs,y :: y2 :: ys,hl =>
   refine ⟨fun R φ v r => ?_,b4,rfl⟩;simp only [nt,cM] at r ⊢;cases r with
   | dB _ _ vs Ge hh => exact .dB _ _ _ (by rw [dI,<- hl]; exact Ge) (fun i d u hd hu => by
     rw [lx] at hd;cases hc : (x :: x2 :: xs)[i]? with
     | none => rw [hc] at hd; cases hd
     | some z =>
       rw [hc] at hd;simp at hd;subst hd;obtain ⟨y',C2⟩ := aZ (l := y :: y2 :: ys) (i := i) (by have := aA hc; omega);exact b3 i z y' hc C2 _ _ _ (hh i y' u C2 hu))
theorem SB.val (h : SB X φ w B base s (tm a)) {r : AV} (hp : pl r = true) {v' : Value} (hr : bT (Rd X [] w) [] r v') (B' : Nat -> Nat) : ∃ φ',SB X φ' w B' 0 ⟨[(0,r)],[]⟩ (fun i => if i = 0 then v' else undef) /\ fJ φ w φ' w := by
 obtain ⟨N,Ha,h,hb⟩ := h
 have iK : ∀ g,¬ bQ (aF φ.length none) g := fun g ⟨b,sz,e⟩ => by
  rw [fv] at e;split at e <;> simp at e
 refine ⟨aF φ.length none,?_,⟨rfl,rfl,rfl,aT _,aT _,fun g hg ho => ⟨rfl,iK g⟩,⟨by simp,fun b p hb e => by rw [fv] at e; split at e <;> simp at e⟩⟩⟩;have Gf : ∀ i,get [(0,r)] i = if i = 0 then r else .any := fun i => by simp only [Am.get]
 have oX : ∀ i,pl (get [(0,r)] i) = true := fun i => by rw [Gf]; split; exact hp; rfl
 have hnoo : ∀ p,aC ⟨[(0,r)],[]⟩ p = none := by
  intro p;cases p with
  | s i => exact (dV (s := ⟨[(0,r)],[]⟩) (uZ (oX i))).1
  | sc i j => exact (dV (s := ⟨[(0,r)],[]⟩) (uZ (oX i))).2 j
  | c b j => unfold aC; simp [at_,aN]
 refine ⟨⟨fun _ => 0,fun _ => none⟩,aF φ.length none,⟨fun i => ?_,fun i => tX _ (oX i),⟨by simp,h.heap.Dh,fun b cs hb => ?_,fun b hb => ?_,fun b b' g sz nx h1 => ?_⟩,fun p k xs e => ?_,fun b cs e => ?_,fun p q n e1 => ?_,fun b p e1 => ?_,fun b d e1 => ?_⟩,fun b hb => by omega,Va _⟩
 ·have hr2 : bT (Rd X (aF φ.length none) w) (aF φ.length none) r v' := (hr.mono (R' := Rd X (aF φ.length none) w) (fun a u h => ⟨h.1,iK _,h.2.2⟩) (.refl _)).FN _;show bT _ _ (ku _ i (get [(0,r)] i)) (if i = 0 then v' else undef);rw [xp _ _ (oX i),Gf];by_cases e : i = 0
  ·rw [if_pos e,if_pos e]; exact hr2
  ·rw [if_neg e,if_neg e]; exact .any _ _
 ·rw [fv] at hb; split at hb <;> simp at hb
 ·have := aA hb;rw [fv];simp at this;rw [if_pos this]
 ·rw [fv] at h1; split at h1 <;> simp at h1
 ·rw [hnoo] at e; cases e
 ·simp [aN] at e
 ·rw [hnoo] at e1; cases e1
 ·simp [aN] at e1
 ·simp [aN] at e1
end
end Go.Bm

/- The end of a function that sees no boxes of others. -/
namespace Go.Bm
open Go.Am
section
variable {P : Program} {X : Nat -> Prop} {φ nk φ' : dy} {w w1 w' : World} {N N1 N' : Names} {s s' s1 : St} {Ha : Heap} {B : Nat -> Nat} {base : Nat} {v va : AV} {v' : Value} {c : eE} {a : Act} {call : Nat -> List AV -> Heap -> Option (AV × Heap)}
theorem SB.own1 (h : eR X φ w N s Ha (tm a)) {p : Rt} {k len : Nat} {xs : List AV} (hp : aC s p = some (k,xs)) (hle : len <= xs.length) (hr : bT (Rd X φ w) φ (cM N (.dG k p 0 len)) v') (B' : Nat -> Nat) : SB X φ w B' 0 ⟨[(0,.own k (xs.take len))],[]⟩ (fun i => if i = 0 then v' else undef) := by
 have Gf : ∀ i,get [(0,AV.own k (xs.take len))] i = if i = 0 then .own k (xs.take len) else .any := fun i => by simp only [Am.get]
 have hlen : (xs.take len).length = len := by simp; omega
 have eQ : ∀ q k' ys,aC ⟨[(0,.own k (xs.take len))],[]⟩ q = some (k',ys) -> q = .s 0 /\ k' = k /\ ys = xs.take len := by
  intro q k' ys e;have e' := cu.1 e;cases q with
  | s i =>
    simp only [at_,Gf,ah] at e';by_cases hi : i = 0
    ·subst hi; simp at e'; exact ⟨rfl,e'.1.symm,e'.2.symm⟩
    ·rw [if_neg hi] at e'; cases e'
  | sc i j =>
    simp only [at_,Gf] at e';by_cases hi : i = 0
    ·subst hi; simp at e'
    ·rw [if_neg hi] at e'; cases e'
  | c b j => simp [at_,aN] at e'
 have one : ∀ {q},(aC ⟨[(0,.own k (xs.take len))],[]⟩ q).isSome -> q = .s 0 := by
  intro q hq;obtain ⟨⟨k',ys⟩,e⟩ := aQ.1 hq;exact (eQ q k' ys e).1
 refine ⟨⟨N.β,fun q => N.ν p⟩,Ha,⟨fun i => ?_,fun i => ?_,h.heap,fun q k' ys e => ?_,fun b cs e => ?_,fun q r n e1 e2 _ _ => ?_,fun b q e1 => ?_,fun b d e1 => ?_⟩,fun b hb => by omega,Va _⟩
 ·show bT _ _ (ku _ i (get [(0,AV.own k (xs.take len))] i)) (if i = 0 then v' else undef);rw [Gf];by_cases e : i = 0
  ·rw [if_pos e,if_pos e];simp only [ku,jF,rO,hlen];simp only [cM,rk] at hr;exact hr
  ·rw [if_neg e,if_neg e]; exact .any _ _
 ·show cK _ _ (get [(0,AV.own k (xs.take len))] i);rw [Gf];split <;> trivial
 ·obtain ⟨rfl,rfl,rfl⟩ := eQ q k' ys e;exact (h.own p k' xs hp).take
 ·simp [aN] at e
 ·rw [one e1,one e2]
 ·simp [aN] at e1
 ·simp [aN] at e1
theorem abX (h : eR X φ w N s Ha (tm a)) (hb : (∀ b,b < base -> N.β b = B b) /\ base <= s.H.length) (hv : bT (Rd X φ w) φ (cM N v) v') (hk : cK (aC s) s.H.length v) (iK : bJ v = false) {md : Md} {r : AV} {H' : Heap} (jG : md.sh = false) (hf : bq md base s v = some (r,H')) (B' : Nat -> Nat) :
  H' = [] /\ ∃ φ',SB X φ' w B' 0 ⟨[(0,r)],[]⟩ (fun i => if i = 0 then v' else undef) /\ fJ φ w φ' w := by
 have wQ : ∀ a u,Rd X φ w a u -> Rd X [] w a u := fun a u ⟨h1,_,h3⟩ => ⟨h1,bQ.nil _,h3⟩;unfold bq at hf;rw [jG] at hf;simp only [bn,if_false] at hf;split at hf
 ·split at hf
  case isFalse => cases hf
  split at hf
  case h_2 => cases hf
  rename_i r' hr;simp at hf;obtain ⟨rfl,rfl⟩ := hf;refine ⟨rfl,?_⟩;unfold Xl Xk at hr;split at hr
  ·rename_i k p len;split at hr
   case h_2 => cases hr
   rename_i k' xs hp;split at hr
   case isFalse => cases hr
   rename_i hc;obtain ⟨rfl,hle⟩ := hc;simp at hr;subst hr;exact ⟨φ,SB.own1 h hp hle hv B',.refl _ _⟩
  ·simp [bJ] at iK
  ·rename_i h1 h2;split at hr
   case isFalse => cases hr
   rename_i oX;simp at hr;subst hr;rw [ks N _ oX] at hv;exact SB.val (base := base) (B := B) ⟨N,Ha,h,hb⟩ oX ((hv.dJ (gH _ oX) []).mono wQ (.refl _)) B'
 ·split at hf
  case h_2 => cases hf
  rename_i r' hr;simp at hf;obtain ⟨rfl,rfl⟩ := hf;obtain ⟨p1,p2⟩ := N7 h v r' hr hk;exact ⟨rfl,SB.val (base := base) (B := B) ⟨N,Ha,h,hb⟩ p1 (p2 _ hv) B'⟩
def vL (P : Program) (c : eE) : Prop := ∀ f g md q,c.orc f = some g -> c.fn f = some (md,q) -> ∀ args H r H',(md.sh = true \/ H = []) -> g args H = some (r,H') -> (md.sh = true -> jt H' = true) -> ∀ X φ w B (vargs : Array Value),args.length = vargs.size -> SB X φ w B H.length ⟨ep 0 args,H⟩ (fun i => vargs.getD i undef) -> Am.dZ (iO c) X φ w -> Calls P f vargs w (LO X φ w B H.length r H')
def ShOK (P : Program) (c : eE) (n : Nat) : Prop := ∀ f md q,c.fn f = some (md,q) -> md.sh = true -> ∀ args H r H',lX c (cT c n) f args H = some (r,H') -> jt H' = true -> ∀ X φ w B (vargs : Array Value),args.length = vargs.size -> SB X φ w B H.length ⟨ep 0 args,H⟩ (fun i => vargs.getD i undef) -> Am.dZ (iO c) X φ w -> Calls P f vargs w (LO X φ w B H.length r H')
theorem JG (dg : fE P c) (vq : vL P c) {n : Nat} (hs : OJ P c n) (jG : ShOK P c n) : iH P c (lX c (cT c n)) := by
 intro f md q hf args H r H' hH h jO X φ w B vargs hl C3 hg;by_cases hm : md.sh = true
 ·exact jG f md q hf hm args H r H' h (jO hm) X φ w B vargs hl C3 hg
 have Qi : md.sh = false := by simpa using hm
 have hH' : H = [] := hH.elim (fun e => absurd e hm) id;subst hH';unfold lX at h;split at h
 ·rename_i x CD;unfold KN at CD;split at CD
  case h_2 => cases CD
  rename_i g L0;rw [h] at CD;replace h := CD;exact vq f g md q L0 hf args [] r H' (.inr rfl) h jO X φ w B vargs hl C3 hg
 ·rw [hf] at h;simp only at h;split at h
  case isFalse => cases h
  rename_i hle;obtain ⟨fn,h1,h2⟩ := dg.fn f md q hf;simp only [ct,ae,decide_eq_true_eq] at h2;obtain ⟨⟨⟨⟨hn,aiH⟩,_⟩,hres⟩,rZ⟩ := h2;split at rZ
  case h_2 => cases rZ
  rename_i code hb;have zJ : (vargs ++ pA (fn.ntmps - vargs.size) undef).size = q.n := by simp; omega
  have htm : tm { tmps := vargs ++ pA (fn.ntmps - vargs.size) undef,defers := [] } = fun i => vargs.getD i undef := by
   funext i;simp only [tm,bf];by_cases hi : i < vargs.size
   ·rw [qV hi]
   ·rw [G8 (by omega),kM];rw [Array.getElem?_eq_none (by omega)];split <;> rfl
  have hS : Ab X φ w B 0 ⟨ep 0 args,[]⟩ { tmps := vargs ++ pA (fn.ntmps - vargs.size) undef,defers := [] } q.n := ⟨by rw [htm]; exact C3,rfl,zJ⟩
  have fin : ∀ {e : Ex} {s : St} {vs : List AV},cT c n 0 q.body ⟨ep 0 args,[]⟩ = some (e,s) -> (e = .ret \/ e = .normal) -> oW c s q.res = some vs -> bq md 0 s (nt vs) = some (r,H') -> Calls P f vargs w (LO X φ w B 0 r H') := by
   intro e s vs he hre LY Qn;refine calls_of_wp h1 hb (hs q.n 0 code q.body _ s e (by omega) rZ he X φ w B _ hS hg _ fun a' w' φ' hS' sZ => ?_);obtain ⟨N,Ha,v8,hbB⟩ := hS'.sb;obtain ⟨Vl,x1,x2,x3,x4⟩ := Xf v8 (hg.my sZ) LY;obtain ⟨v,k1,k2⟩ := Bp (P := P) (s := ⟨yw N s.env,Ha⟩) (ts := a'.tmps) (fun i => by rw [lP]; exact v8.env i) v8.heap hres x1;obtain ⟨rfl,kO,s2,a2⟩ := abX v8 hbB (x2 _ _ _ k2) x3 x4 Qi Qn B;have : bodyPost P fn (LO X φ w B 0 r []) .ret a' w' := ⟨hS'.defers,v,k1,v,kO,rfl,s2,sZ.trans a2⟩;rcases hre with rfl | rfl
   ·exact this
   ·exact this
  split at h
  ·rename_i s he;split at h
   ·rename_i vs LY;exact fin he (.inl rfl) LY h
   ·cases h
  ·rename_i s he;split at h
   ·rename_i vs LY;exact fin he (.inr rfl) LY h
   ·cases h
  ·cases h
end
end Go.Bm

/- Every operation, given the calls that share boxes. -/
namespace Go.Bm
open Go.Am
section
variable {P : Program} {c : eE} {call : Nat -> List AV -> Heap -> Option (AV × Heap)}
def G6 (P : Program) (c : eE) (call : Nat -> List AV -> Heap -> Option (AV × Heap)) : Prop :=
 ∀ X φ w B base s (o : Oper) (a : Act) kd f args md q r H',cZ P o.op (lS kd) = true -> SB X φ w B base s (tm a) -> Am.dZ (iO c) X φ w -> getArgs c s.env kd = some (f,args) -> c.fn f = some (md,q) -> md.sh = true -> fQ (args.map fi) = true -> jt s.H = true -> aP r = [] -> bJ r = false -> jt H' = true -> call f (args.map fi) s.H = some (r,H') -> lY P X φ w B base ⟨j7 l6 s.env,H'⟩ r o a
theorem VH (dg : fE P c) (dX : iH P c call) (jG : G6 P c call) {X : Nat -> Prop} {φ : dy} {w : World} {B : Nat -> Nat} {base : Nat} {s s1 : St} {o : Oper} {a : Act} {kd : Kd} {v : AV} {fq : Fq} (hk : cZ P o.op (lS kd) = true) (h : SB X φ w B base s (tm a)) (hg : Am.dZ (iO c) X φ w) (hs : dU c call kd s = some (v,s1,fq)) : lY P X φ w B base s1 v o a := by
 unfold dU at hs;split at hs
 ·cases hs
 rename_i f args ha;split at hs
 ·cases hs
 rename_i md q hf;split at hs
 ·rename_i hmd;simp only [ae,bH] at hmd;split at hs
  ·cases hs
  rename_i qU hz;split at hs
  case h_2 => cases hs
  rename_i r H' hc;split at hs
  case isFalse => cases hs
  rename_i hr;simp only [ah,aJ] at hs;obtain ⟨rfl,rfl,_⟩ := hs;exact PH dg dX h hg hk ha hf hmd.2 hz hc hr
 ·obtain ⟨nk,h1,a1⟩ := SB.dR (dh args) h;refine lY.ghost a1 ?_;split at hs
  ·cases hs
  rename_i f1 nO NY;split at hs
  case isFalse => cases hs
  rename_i Zy;subst Zy;split at hs
  ·rename_i hm;split at hs
   case isFalse => cases hs
   rename_i hp;split at hs
   case h_2 => cases hs
   rename_i r H' hc;split at hs
   case isFalse => cases hs
   rename_i hr;simp only [ah,aJ] at hs;obtain ⟨rfl,rfl,_⟩ := hs;simp only [ae,bH] at hp hr;exact jG X nk w B base _ o a kd f1 nO md q r H' hk h1 (hg.my a1) NY hf hm hp.1 hp.2 (ff.1 hr.1.1) hr.1.2 hr.2 hc
  ·rename_i hm;split at hs
   case isFalse => cases hs
   rename_i hp;split at hs
   case h_2 => cases hs
   rename_i r H' hc;split at hs
   case isFalse => cases hs
   rename_i hr;simp only [ah,aJ] at hs;obtain ⟨rfl,rfl,_⟩ := hs;exact PG dg dX h1 (hg.my a1) hk NY hf (by simpa using hm) hp hc hr
def LQ (w : World) (og : Option Nat) (k : Nat) (ys : List AV) (e : Ending) (w' : World) : Prop :=
 ∃ (g' HJ : Nat) (arr' : Array Value) (e' : TypeId),e = .returned (.slice (some ⟨g',0,none⟩) ys.length HJ) /\ ys.length <= HJ /\ HJ * k <= arr'.size /\ w'.heap[g']? = some (.cells arr' e' (0,0)) /\
  (∀ (i : Nat) (d : AV),(aH ys)[i]? = some d -> ∃ u,arr'[i]? = some u /\ bT (fun _ _ => False) [] d u) /\ (og = some g' \/ w.heap.size <= g') /\
  (∀ h,h < w.heap.size -> og ≠ some h -> w'.heap[h]? = w.heap[h]?) /\ w'.os = w.os /\ w'.tape = w.tape /\ w'.output = w.output /\ w.drawn <= w'.drawn /\ w.heap.size <= w'.heap.size
abbrev acX (T : Nat -> Nat -> Addr -> Value -> Prop) (w : World) (og : Option Nat) (k : Nat) (ys : List AV) (e : Ending) (w' : World) : Prop :=
 ∃ (g' HJ : Nat) (arr' : Array Value) (e' : TypeId) (a' : Addr),e = .returned (.slice (some a') ys.length HJ) /\ (0 < HJ -> a' = ⟨g',0,none⟩) /\ ys.length <= HJ /\ HJ * k <= arr'.size /\ w'.heap[g']? = some (.cells arr' e' (0,0)) /\
  (∀ (i : Nat) (d : AV),(aH ys)[i]? = some d -> ∃ u,arr'[i]? = some u /\ bT (T g' arr'.size) [] d u) /\ (og = some g' \/ w.heap.size <= g') /\
  (∀ h,h < w.heap.size -> og ≠ some h -> w'.heap[h]? = w.heap[h]?) /\ w'.os = w.os /\ w'.tape = w.tape /\ w'.output = w.output /\ w.drawn <= w'.drawn /\ w.heap.size <= w'.heap.size
def OL (w : World) (og : Option Nat) (k : Nat) (ys : List AV) (e : Ending) (w' : World) : Prop :=
 acX (fun _ _ _ _ => False) w og k ys e w' \/
 (og = none /\ ys = [] /\ e = .returned (.slice none 0 0) /\ fJ [] w [] w')
theorem LQ.n {w : World} {og : Option Nat} {k : Nat} {ys : List AV} {e : Ending} {w' : World} (h : LQ w og k ys e w') : OL w og k ys e w' := by
 obtain ⟨g',HJ,arr',e',h1,h2⟩ := h;exact .inl ⟨g',HJ,arr',e',_,h1,fun _ => rfl,h2⟩
def Q3 (w : World) (og : Option Nat) (a : Addr) (u : Value) : Prop := og ≠ some a.block /\ w.cell? a = some u /\ ∃ arr te,w.heap[a.block]? = some (.cells arr te (0,0))
def U9 (w : World) (og : Option Nat) (a : Addr) (u : Value) : Prop := og ≠ some a.block /\ w.cell? a = some u
def BesE : AV -> World -> Option Nat -> Addr -> Value -> Prop
 | .func _ _ _ => U9
 | _ => Q3
def QY (P : Program) (f : Nat) (g : Nat -> List AV -> List AV -> Option (List AV)) (Q : World -> Option Nat -> Nat -> List AV -> Ending -> World -> Prop) : Prop := ∀ k xs es ys,g k xs es = some ys -> (∀ x ∈ xs,x.cells.length = k) -> (∀ x ∈ xs,∀ d ∈ x.cells,fz d = true) ->
 ((∀ y ∈ ys,y.cells.length = k) /\ ∀ y ∈ ys,∀ d ∈ y.cells,fz d = true) /\
 (xs = [] -> ∀ w (vargs : Array Value),es.length + 1 = vargs.size -> vargs[0]? = some (.slice none 0 0) -> (∀ (i : Nat) (e : AV) (v : Value),es[i]? = some e -> vargs[i + 1]? = some v -> bT (BesE e w none) [] e v) -> Calls P f vargs w (Q w none k ys)) /\
 ∀ w (vargs : Array Value) g0 arr te a cap,w.heap[g0]? = some (.cells arr te (0,0)) -> (∀ (i : Nat) (d : AV),(aH xs)[i]? = some d -> ∃ u,arr[i]? = some u /\ bT (fun _ _ => False) [] d u) -> es.length + 1 = vargs.size -> vargs[0]? = some (.slice (some a) xs.length cap) -> (0 < cap -> a = ⟨g0,0,none⟩) -> xs.length <= cap -> cap * k <= arr.size ->
  (∀ (i : Nat) (e : AV) (v : Value),es[i]? = some e -> vargs[i + 1]? = some v -> bT (BesE e w (some g0)) [] e v) -> Calls P f vargs w (Q w (some g0) k ys)
theorem QY.weak {P : Program} {f : Nat} {g : Nat -> List AV -> List AV -> Option (List AV)} (h : QY P f g LQ) : QY P f g OL := by
 intro k xs es ys hg h1 h2;obtain ⟨p,q,r⟩ := h k xs es ys hg h1 h2;exact ⟨p,fun a b c d e f => (q a b c d e f).mono fun _ _ z => z.n,fun a b c d e f g h i j k l m n o => (r a b c d e f g h i j k l m n o).mono fun _ _ z => z.n⟩
def JO (P : Program) (c : eE) : Prop := True
def aav (P : Program) (c : eE) : Prop := ∀ f g,c.inp f = some g -> (∃ md q,c.fn f = some (md,q)) /\ ∀ k xs es ys res,g k xs es = some (ys,res) -> (∀ x ∈ xs,x.cells.length = k) -> (∀ x ∈ xs,∀ d ∈ x.cells,fz d = true) ->
 ((ys.length = xs.length /\ (∀ y ∈ ys,y.cells.length = k)) /\ ((∀ y ∈ ys,∀ d ∈ y.cells,fz d = true) /\ ∀ m,res = some m -> m <= xs.length)) /\
 (xs = [] -> ∀ X φ w (vargs : Array Value) v0 y,(y = .dz \/ y = .list k []) -> es.length + 1 = vargs.size -> vargs[0]? = some v0 -> bT (Rd X φ w) φ y v0 -> (∀ (i : Nat) (e : AV) (v : Value),es[i]? = some e -> vargs[i + 1]? = some v -> bT (Rd X φ w) [] e v) ->
  Calls P f vargs w (fun e w' => ∃ v',e = .returned v' /\ bT (Rd X φ w') φ (match res with
   | none => .dB []
   | some _ => y) v' /\ fJ [] w [] w')) /\
 ∀ X φ w Ha n rest (vargs : Array Value) v0,cG X φ w Ha -> aN Ha n = some (aH (xs ++ rest)) -> es.length + 1 = vargs.size -> vargs[0]? = some v0 -> bT (Rd X φ w) φ (.sl k n 0 xs.length) v0 -> (∀ (i : Nat) (e : AV) (v : Value),es[i]? = some e -> vargs[i + 1]? = some v -> bT (Rd X φ w) [] e v) ->
  Calls P f vargs w (fun e w' => ∃ v' φ',e = .returned v' /\ bT (Rd X φ' w') φ' (match res with
   | none => .dB []
   | some m => .sl k n 0 m) v' /\ cG X φ' w' (Ha.set n (some (aH (ys ++ rest)))) /\ fJ φ w φ' w')
def vP (P : Program) (c : eE) : Prop := aav P c /\ JO P c
theorem JO.none {P : Program} {c : eE} (h : ∀ f,c.eat f = none) : JO P c := trivial
theorem vP.none {P : Program} {c : eE} (h : ∀ f,c.inp f = none) (h2 : ∀ f,c.eat f = none := by intro _; rfl) : vP P c := ⟨(fun f g hf => by rw [h f] at hf; cases hf),JO.none h2⟩
theorem less {X : Nat -> Prop} {φ : dy} {w : World} {Ha : Heap} (h : cG X φ w Ha) {n : Nat} {cs cs' : List AV} (hb : aN Ha n = some cs) (hl : cs'.length <= cs.length) (hc : ∀ (i : Nat) (d : AV),cs'[i]? = some d -> ∃ a,cs[i]? = some a /\ Le d a) : cG X φ w (Ha.set n (some cs')) := by
 refine ⟨by simp [h.len],h.Dh,fun b ds wz => ?_,fun b wz => ?_,h.inj⟩
 ·rw [bm] at wz;split at wz
  ·rename_i e;subst e;split at wz
   ·simp at wz;subst wz;obtain ⟨g,sz,arr,e,g1,g2,g3,g4,g5,g6⟩ := h.at hb;refine ⟨g,sz,arr,e,g1,g2,g3,by omega,g5,fun i d hd => ?_⟩;obtain ⟨a,ha,hle⟩ := hc i d hd;obtain ⟨u,u1,u2⟩ := g6 i a ha;exact ⟨u,u1,hle _ _ _ u2⟩
   ·cases wz
  ·exact h.live b ds wz
 ·rw [bm] at wz;split at wz
  ·split at wz <;> simp at wz
  ·exact h.dead b wz
theorem Ps {s : St} {p : Rt} {v : AV} (h : at_ s p = some v) : (∀ i,get (setAt s p v).env i = get s.env i) /\ (setAt s p v).H = s.H := by
 cases p with
 | s i =>
   simp only [at_,ah] at h;refine ⟨fun j => ?_,rfl⟩;simp only [setAt,bE];split
   ·rename_i e; subst e; exact h.symm
   ·rfl
 | sc i l =>
   simp only [at_] at h;split at h
   ·rename_i cs hc
    have e : cs.set l v = cs := by
     apply dT;intro j;rw [bm];split
     ·rename_i e; subst e; split
      ·exact h.symm
      ·rename_i bL; rw [eH (by omega)] at h; cases h
     ·rfl
    have hs : setAt s (.sc i l) v = ⟨put s.env i (.agg cs),s.H⟩ := by simp only [setAt,hc,e]
    rw [hs];refine ⟨fun j => ?_,rfl⟩;show get (put s.env i (.agg cs)) j = _;rw [bE];split
    ·rename_i e2; subst e2; exact hc.symm
    ·rfl
   ·cases h
 | c b l =>
   simp only [at_] at h;split at h
   ·rename_i cs hc
    have e : cs.set l v = cs := by
     apply dT;intro j;rw [bm];split
     ·rename_i e; subst e; split
      ·exact h.symm
      ·rename_i bL; rw [eH (by omega)] at h; cases h
     ·rfl
    have hs : setAt s (.c b l) v = ⟨s.env,s.H.set b (some cs)⟩ := by simp only [setAt,hc,e]
    rw [hs];refine ⟨fun j => rfl,?_⟩;show s.H.set b (some cs) = s.H;apply dT;intro j;rw [bm];split
    ·rename_i e2;subst e2;rw [if_pos (dL hc),pe.1 hc]
    ·rfl
   ·cases h
theorem gT (xs ys : List AV) : aH (xs ++ ys) = aH xs ++ aH ys := by
 induction xs with
 | nil => rfl
 | cons x r ih => simp [aH,ih,dj]
theorem xg {xs : List AV} {d : AV} (h : d ∈ aH xs) : ∃ x ∈ xs,d ∈ x.cells := by
 induction xs with
 | nil => simp [aH] at h
 | cons x r ih =>
   simp only [aH,aG] at h;rcases h with h | h
   ·exact ⟨x,by simp,h⟩
   ·obtain ⟨y,hy,hd⟩ := ih h;exact ⟨y,by simp [hy],hd⟩
theorem Q3.weak {w : World} {og : Option Nat} {a : Addr} {u : Value} (h : Q3 w og a u) : U9 w og a u := ⟨h.1,h.2.1⟩
theorem eR.OD {X : Nat -> Prop} {φ nk : dy} {w w1 : World} {N : Names} {s : St} {Ha Ha' : Heap} {t : Nat -> Value} (h : eR X φ w N s Ha t) {p : Rt} {kp : Nat} {xs : List AV} (hp : aC s p = some (kp,xs)) (ad : fJ φ w nk w1) (hh : cG X nk w1 Ha') {n : Nat} (hn : N.ν p = some n \/ φ.length <= n) (jO : ∀ m,m ≠ n -> m < Ha.length -> aN Ha' m = aN Ha m) : eR X nk w1 N (setAt (cz (sw p) s) p .any) Ha' t := by
 have hpo : (aC s p).isSome := by rw [hp]; rfl
 obtain ⟨d1,d2,d3⟩ := h.drop hp;have hlen := h.heap.len;refine d1.my ad hh (fun q k' zs e => ?_) (fun b C6 => ?_)
 ·have e' := e;rw [d2] at e';split at e'
  ·cases e'
  rename_i nF;refine (d1.own q k' zs e).same fun m hmq => ?_;have hml := h.im (by rw [e']; rfl) hmq;refine jO m ?_ hml;rintro rfl;rcases hn with hn | hn
  ·exact nF (h.inj q p m (by rw [e']; rfl) hpo hmq hn)
  ·omega
 ·have Hf : (aN s.H b).isSome := by
   cases e : aN s.H b with
   | none => rw [d3.Cw b e] at C6; cases C6
   | some _ => rfl
  have hml := h.q9 Hf;refine jO _ ?_ hml;intro e;rcases hn with hn | hn
  ·exact h.bx b p Hf hpo (by rw [hn,e])
  ·omega
theorem agf (dg : fE P c) (heat : JO P c) {X : Nat -> Prop} {φ : dy} {w : World} {B : Nat -> Nat} {base : Nat} {s s1 : St} {o : Oper} {a : Act} {f : Nat} {x : E} {es : List E} {v : AV} {fq : Fq} (hk : cZ P o.op (lS (.call f (x :: es))) = true) (h : SB X φ w B base s (tm a)) (hg : Am.dZ (iO c) X φ w) {g : Nat -> List AV -> List AV -> Option (List AV)} (L0 : c.eat f = some g) (hs : QD s g (bt c s.env x) (dE c s.env es) = some (v,s1,fq)) : lY P X φ w B base s1 v o a := by unfold QD at hs;cases hs
mutual
theorem Fl : ∀ x,pl x = true -> aP x = []
 | .dG _ _ _ _,h => by simp [pl] at h
 | .fa _ _ _ _,h => by simp [pl] at h
 | .agg cs,h => by simp only [pl] at h; simp only [aP]; exact we cs h
 | .dB cs,h => by simp only [pl] at h; simp only [aP]; exact we cs h
 | .func _ a b,h => by simp only [pl,ae] at h; simp only [aP,we a h.1,we b h.2,dF]
 | .any,_ => rfl | .undef,_ => rfl | .fy,_ => rfl | .fD,_ => rfl | .dz,_ => rfl
 | .int _ _,_ => rfl | .bool _,_ => rfl | .str _,_ => rfl | .list _ _,_ => rfl | .dw _,_ => rfl | .ptr _ _,_ => rfl | .sl _ _ _ _,_ => rfl | .own _ _,_ => rfl
theorem we : ∀ xs,gz xs = true -> dh xs = []
 | [],_ => rfl
 | x :: r,h => by simp only [gz,ae] at h; simp only [dh,Fl x h.1,we r h.2,dF]
end
theorem YZ {s s1 : St} {f : Nat} {x : AV} {es : List AV} {v : AV} {fl : Fq} (h : VX c call s f es x = some (v,s1,fl)) : ∃ b md q cs cs',x = .ptr b 0 /\ c.fn f = some (md,q) /\ aN s.H b = some cs /\ (md.sh = true /\ gz es = true /\ gz cs = true) /\ call f (.ptr 0 0 :: es) [some cs] = some (v,[some cs']) /\ (pl v = true /\ gz cs' = true) /\ s1 = ⟨s.env,s.H.set b (some cs')⟩ /\ fl = .lw b := by
 unfold VX at h;split at h
 case h_2 => cases h
 rename_i b;split at h
 case h_2 => cases h
 rename_i md q cs hf hb;split at h
 case isFalse => cases h
 rename_i hp;split at h
 case h_2 => cases h
 rename_i r cs' hc;split at h
 case isFalse => cases h
 rename_i hr;simp only [ah,aJ] at h;obtain ⟨rfl,rfl,rfl⟩ := h;exact ⟨b,md,q,cs,cs',rfl,hf,hb,hp,hc,hr,rfl,rfl⟩
theorem vh {s s1 : St} {kd : Kd} {v : AV} {fl : Fq} (h : l7 c call s kd = some (some (v,s1,fl))) : ∃ f x es b md q cs cs',kd = .call f (x :: es) /\ c.loc f = true /\ bt c s.env x = .ptr b 0 /\ c.fn f = some (md,q) /\ aN s.H b = some cs /\ (md.sh = true /\ gz (dE c s.env es) = true /\ gz cs = true) /\ call f (.ptr 0 0 :: dE c s.env es) [some cs] = some (v,[some cs']) /\ (pl v = true /\ gz cs' = true) /\ s1 = ⟨s.env,s.H.set b (some cs')⟩ /\ fl = .lw b := by
 unfold l7 at h;split at h
 case h_2 => cases h
 rename_i f x es;split at h
 case isFalse => cases h
 rename_i hl;simp only [ah] at h;obtain ⟨b,md,q,cs,cs',h1,h2,h3,h4,h5,h6,h7,h8⟩ := YZ h;exact ⟨f,x,es,b,md,q,cs,cs',rfl,hl,h1,h2,h3,h4,h5,h6,h7,h8⟩
theorem CX {s s1 : St} {kd : Kd} {v : AV} {f : Fq} (h : l7 c call s kd = some (some (v,s1,f))) : ∃ b,f = .lw b := by
 obtain ⟨_,_,_,b,_,_,_,_,_,_,_,_,_,_,_,_,_,e⟩ := vh h;exact ⟨b,e⟩
theorem rM {e : Env} {H : Heap} {d j : Nat} (hp : ∀ cs,aN H d = some cs -> gz cs = true) : aC ⟨e,H⟩ (.c d j) = none := by
 cases ho : aC ⟨e,H⟩ (.c d j) with
 | none => rfl
 | some y =>
   obtain ⟨k,xs⟩ := y;have h1 := cu.1 ho;simp only [at_] at h1;split at h1
   ·rename_i ds hd;have := eX (hp ds hd) j _ h1;simp [pl] at this
   ·cases h1
theorem pn (N : Names) (p : Rt) {z : AV} (hz : pl z = true) : jF N p z = z := by
 cases z <;> first | exact ks N _ hz | (simp [pl] at hz; done)
theorem HU (N : Names) {z : AV} (hz : pl z = true) : gL N z = z := by
 cases z <;> first | exact ks N _ hz | (simp [pl] at hz; done)
theorem eR.Xt {X : Nat -> Prop} {φ nk : dy} {w w1 : World} {N : Names} {s : St} {Ha Ha' : Heap} {t : Nat -> Value} (h : eR X φ w N s Ha t) {b : Nat} {cs cs' : List AV} (hb : aN s.H b = some cs) (Jc : gz cs = true) (Qh : gz cs' = true) (ad : fJ φ w nk w1) (hh : cG X nk w1 Ha') (Lm : aN Ha' (N.β b) = some cs') (A6 : ∀ m,m ≠ N.β b -> aN Ha' m = aN Ha m) : eR X nk w1 N ⟨s.env,s.H.set b (some cs')⟩ Ha' t := by
 have hoa : ∀ p,aC ⟨s.env,s.H.set b (some cs')⟩ p = aC s p := by
  intro p;cases p with
  | s i => rfl
  | sc i j => rfl
  | c d j =>
    by_cases e : d = b
    ·subst e;rw [rM (e := s.env) (H := s.H.set d (some cs')) (d := d) (j := j) fun ds hd => by rw [dH,if_pos ⟨rfl,dL hb⟩] at hd; cases hd; exact Qh];exact (rM (e := s.env) (H := s.H) (d := d) (j := j) fun ds hd => by rw [hb] at hd; cases hd; exact Jc).symm
    ·simp only [aC,at_];rw [dH,if_neg (fun h => e h.1)]
 have hfe : aC ⟨s.env,s.H.set b (some cs')⟩ = aC s := funext hoa;have hlen : (s.H.set b (some cs')).length = s.H.length := by simp
 have ZE : ∀ d ds,aN (s.H.set b (some cs')) d = some ds -> (d = b /\ ds = cs') \/ (d ≠ b /\ aN s.H d = some ds) := by
  intro d ds e;by_cases e2 : d = b
  ·subst e2;rw [dH,if_pos ⟨rfl,dL hb⟩] at e;cases e;exact .inl ⟨rfl,rfl⟩
  ·rw [dH,if_neg (fun h => e2 h.1)] at e;exact .inr ⟨e2,e⟩
 have Gc : ∀ d,(aN (s.H.set b (some cs')) d).isSome -> (aN s.H d).isSome := by
  intro d e;obtain ⟨ds,hd⟩ := aQ.1 e;rcases ZE d ds hd with ⟨rfl,_⟩ | ⟨_,h2⟩
  ·rw [hb]; rfl
  ·rw [h2]; rfl
 have Hf : (aN s.H b).isSome := by rw [hb]; rfl
 refine ⟨fun i => ad.rep (h.env i),fun i => ?_,hh,fun p k xs e => ?_,fun d ds e => ?_,fun p q n e1 e2 => ?_,fun d p e1 e2 => ?_,fun d e0 e1 e2 e3 => ?_⟩
 ·rw [hfe];show cK _ (s.H.set b (some cs')).length _;rw [hlen]; exact h.Cu i
 ·rw [hoa] at e;have ho := h.own p k xs e;cases hn : N.ν p with
  | none => rw [hn] at ho; exact ho
  | some m =>
    rw [hn] at ho;obtain ⟨ds,d1,d2⟩ := ho;have mW : m ≠ N.β b := fun e2 => h.bx b p Hf (by rw [e]; rfl) (by rw [hn,e2]);exact ⟨ds,by rw [A6 _ mW]; exact d1,d2⟩
 ·rcases ZE d ds e with ⟨rfl,rfl⟩ | ⟨hd,ya⟩
  ·exact ⟨_,Lm,rfl,fun j d hd => ⟨tX _ (eX Qh j d hd),d,hd,by rw [pn _ _ (eX Qh j d hd)]; exact Le.refl _⟩⟩
  ·obtain ⟨as2,x1,x2,x3⟩ := h.box d ds ya;have mW : N.β d ≠ N.β b := fun h2 => hd (h.bi d b (by rw [ya]; rfl) Hf h2);refine ⟨as2,by rw [A6 _ mW]; exact x1,x2,fun j d' hd' => ?_⟩;obtain ⟨y1,y2⟩ := x3 j d' hd';refine ⟨?_,y2⟩;rw [hfe];show cK _ (s.H.set b (some cs')).length _;rw [hlen]; exact y1
 ·rw [hoa] at e1 e2; exact h.inj p q n e1 e2
 ·rw [hoa] at e2; exact h.bx d p (Gc d e1) e2
 ·exact h.bi d e0 (Gc d e1) (Gc e0 e2) e3
theorem Fm : ∀ {l : List AV},(∀ y ∈ l,pl y = true) -> gz l = true
 | [],_ => rfl
 | x :: r,h => by simp only [gz,ae]; exact ⟨h x (by simp),Fm fun y hy => h y (by simp [hy])⟩
theorem C9 : ∀ {l : List AV},(∀ y ∈ l,y.cells = [y]) -> aH l = l
 | [],_ => rfl
 | x :: r,h => by
   simp only [aH];rw [h x (by simp),C9 fun y hy => h y (by simp [hy])];rfl
theorem N0 {x : AV} (h : fz x = true) : x.cells = [x] := by
 have := (kh h).2;cases x <;> first | rfl | (simp [AV.leaf] at this; done)
theorem abj (dg : fE P c) (oQ : aav P c) {X : Nat -> Prop} {φ : dy} {w : World} {B : Nat -> Nat} {base : Nat} {s : St} {o : Oper} {a : Act} {f : Nat} {x : E} {es : List E} {g : Nat -> List AV -> List AV -> Option (List AV × Option Nat)} (hk : cZ P o.op (lS (.call f (x :: es))) = true) (h : SB X φ w B base s (tm a)) (hg : Am.dZ (iO c) X φ w) (L0 : c.inp f = some g) {k b len : Nat} {cs ys : List AV} {res : Option Nat} (hx : bt c s.env x = .sl k b 0 len) (hb : aN s.H b = some cs) (hc : k = 1 /\ len <= cs.length /\ N3 cs = true /\ gz (dE c s.env es) = true) (HE : g k (cs.take len) (dE c s.env es) = some (ys,res)) : lY P X φ w B base ⟨s.env,s.H.set b (some (aH ys ++ cs.drop len))⟩ (Hw k b res) o a := by
 obtain ⟨rfl,hle,zK,oX⟩ := hc;obtain ⟨⟨md,q,hf⟩,hI⟩ := oQ f g L0;obtain ⟨N,Ha,h,C6⟩ := h;obtain ⟨vargs,l8,hA,xX⟩ := nM (kd := .call f (x :: es)) (args := bt c s.env x :: dE c s.env es) dg h hg hk rfl hf;rw [hx] at hA xX;have hl : (dE c s.env es).length + 1 = vargs.size := by have := hA.1; simpa using this
 obtain ⟨v0,Qf⟩ := cY (l := vargs) (i := 0) (by omega);have r0 := hA.2 0 _ v0 rfl Qf
 have hes : ∀ (i : Nat) (e : AV) (u : Value),(dE c s.env es)[i]? = some e -> vargs[i + 1]? = some u -> bT (Rd X φ w) [] e u := fun i e u he hu => by
  have r1 := hA.2 (i + 1) e u (by simpa using he) hu;have He := eX oX i e he;have ht : gL N e = e := by cases e <;> first | exact ks N _ He | (simp [pl] at He; done)
  rw [ht] at r1;exact r1.dJ (gH _ He) []
 simp only [gL,cM] at r0;obtain ⟨as,b1,b2,b3⟩ := h.box b cs hb;have hce : ∀ y ∈ cs,y.cells = [y] := fun y hy => N0 (ka zK y hy);have Jc : gz cs = true := Fm fun y hy => (kh (ka zK y hy)).1
 have hH1 : cG X φ w (Ha.set (N.β b) (some cs)) := less h.heap b1 (by omega) fun i d hd => by
  obtain ⟨_,a',a1,a2⟩ := b3 i d hd;rw [pn N _ (eX Jc i d hd)] at a2;exact ⟨a',a1,a2⟩
 have htd : aH (cs.take len ++ cs.drop len) = cs := by rw [O4]; exact C9 hce
 have bL : (cs.take len).length = len := by rw [bC]; omega
 obtain ⟨⟨⟨j1,j2⟩,j3,j4⟩,_,j6⟩ := hI 1 _ _ ys res HE (fun y hy => by rw [hce y (c8 hy)]; rfl) (fun y hy d hd => by
  have C2 := c8 hy;rw [hce y C2] at hd;simp at hd;subst hd;exact ka zK d C2)
 have jU := j6 X φ w (Ha.set (N.β b) (some cs)) (N.β b) (cs.drop len) vargs v0 hH1 (by rw [htd,dH,if_pos ⟨rfl,dL b1⟩]) hl Qf (by rw [bL]; exact r0) hes;intro K Q hK;unfold Oper.wp;rw [l8,Oper.upon_enter];refine jU.mono ?_;rintro e w1 ⟨v',nk,rfl,rv,hh,ad⟩;rw [List.set_set,gT,C9 (l := cs.drop len) fun y hy => hce y (c9 hy)] at hh
 have hpn : gz (aH ys ++ cs.drop len) = true := Fm fun y hy => by
  rcases aG.1 hy with hy | hy
  ·obtain ⟨z,hz,hd⟩ := xg hy;exact (kh (j3 z hz y hd)).1
  ·exact (kh (ka zK y (c9 hy))).1
 have hZ := h.Xt (cs' := aH ys ++ cs.drop len) hb Jc hpn ad hh (by rw [dH,if_pos ⟨rfl,dL b1⟩]) fun m hm => by rw [dH,if_neg (fun h => hm h.1)]
 refine hK v' w1 nk (eG.quiet hZ ⟨C6.1,by simpa using C6.2⟩ ?_ ?_ ?_) ad
 ·cases res with
  | none => trivial
  | some m =>
    show b < (s.H.set b _).length;rw [cJ]; exact dL hb
 ·cases res <;> trivial
 ·cases res with
  | none => simpa [Hw,vX,cM,kW] using rv
  | some m => simpa [Hw,vX,cM] using rv
theorem agb (dg : fE P c) (oQ : vP P c) {X : Nat -> Prop} {φ : dy} {w : World} {B : Nat -> Nat} {base : Nat} {s s1 : St} {o : Oper} {a : Act} {kd : Kd} {v : AV} {fq : Fq} (hk : cZ P o.op (lS kd) = true) (h : SB X φ w B base s (tm a)) (hg : Am.dZ (iO c) X φ w) (hs : oP c s kd = some (some (v,s1,fq))) : lY P X φ w B base s1 v o a := by
 unfold oP at hs;split at hs
 case h_2 => cases hs
 rename_i f x es;split at hs
 case h_1 =>
  split at hs
  ·cases hs
  ·rename_i g L0;simp only [ah] at hs;exact agf dg oQ.2 hk h hg L0 hs
 replace oQ := oQ.1;rename_i g L0;simp only [ah] at hs;split at hs
 case h_4 => cases hs
 case h_3 =>
  rename_i k b len hx;split at hs
  case h_2 => cases hs
  rename_i cs hb;split at hs
  case isFalse => cases hs
  rename_i hc;split at hs
  case h_2 => cases hs
  rename_i ys res HE;simp only [ah,aJ] at hs;obtain ⟨rfl,rfl,_⟩ := hs;exact abj dg oQ hk h hg L0 hx hb hc HE
 ·rename_i k hx;split at hs
  case isFalse => cases hs
  rename_i oX;split at hs
  case h_2 => cases hs
  rename_i ys res HE;simp only [ah,aJ] at hs;obtain ⟨rfl,rfl,_⟩ := hs;obtain ⟨⟨md,q,hf⟩,hI⟩ := oQ f g L0;obtain ⟨N,Ha,h,hb⟩ := h;obtain ⟨vargs,l8,hA,xX⟩ := nM (kd := .call f (x :: es)) (args := bt c s.env x :: dE c s.env es) dg h hg hk rfl hf;rw [hx] at hA xX;have hl : (dE c s.env es).length + 1 = vargs.size := by have := hA.1; simpa using this
  obtain ⟨v0,Qf⟩ := cY (l := vargs) (i := 0) (by omega);have r0 := hA.2 0 _ v0 rfl Qf
  have hes : ∀ (i : Nat) (e : AV) (u : Value),(dE c s.env es)[i]? = some e -> vargs[i + 1]? = some u -> bT (Rd X φ w) [] e u := fun i e u he hu => by
   have r1 := hA.2 (i + 1) e u (by simpa using he) hu;have He := eX oX i e he;have ht : gL N e = e := by cases e <;> first | exact ks N _ He | (simp [pl] at He; done)
   rw [ht] at r1;exact r1.dJ (gH _ He) []
  obtain ⟨_,j3,_⟩ := hI k _ _ ys res HE (fun y hy => by simp at hy) (fun y hy => by simp at hy);simp only [gL,cM] at r0;have jU := j3 rfl X φ w vargs v0 _ (.inr rfl) hl Qf r0 hes;intro K Q hK;unfold Oper.wp;rw [l8,Oper.upon_enter];refine jU.mono ?_;rintro e w1 ⟨v',rfl,rv,ad⟩;have hZ : eR X φ w1 N s Ha (tm a) := h.my (.of_same ad) (h.heap.of_same ad) h.own (fun _ _ => rfl);refine hK v' w1 φ (eG.quiet hZ hb ?_ ?_ ?_) (.of_same ad)
  ·cases res <;> trivial
  ·cases res <;> trivial
  ·cases res with
   | none => simpa [inpL,vX,cM,kW] using rv
   | some m => simpa [inpL,vX,cM] using rv
 rename_i k p len hx;split at hs
 case h_2 => cases hs
 rename_i k' xs hp;split at hs
 case isFalse => cases hs
 rename_i hc;obtain ⟨rfl,hle,oX⟩ := hc;split at hs
 case h_2 => cases hs
 rename_i ys res HE;simp only [ah,aJ] at hs;obtain ⟨rfl,rfl,_⟩ := hs;obtain ⟨⟨md,q,hf⟩,hI⟩ := oQ f g L0;obtain ⟨N,Ha,h,hb⟩ := h;obtain ⟨vargs,l8,hA,xX⟩ := nM (kd := .call f (x :: es)) (args := bt c s.env x :: dE c s.env es) dg h hg hk rfl hf;rw [hx] at hA xX;have hl : (dE c s.env es).length + 1 = vargs.size := by have := hA.1; simpa using this
 obtain ⟨v0,Qf⟩ := cY (l := vargs) (i := 0) (by omega);have r0 := hA.2 0 _ v0 rfl Qf
 have hes : ∀ (i : Nat) (e : AV) (u : Value),(dE c s.env es)[i]? = some e -> vargs[i + 1]? = some u -> bT (Rd X φ w) [] e u := fun i e u he hu => by
  have r1 := hA.2 (i + 1) e u (by simpa using he) hu;have He := eX oX i e he;have ht : gL N e = e := by cases e <;> first | exact ks N _ He | (simp [pl] at He; done)
  rw [ht] at r1;exact r1.dJ (gH _ He) []
 have eQ := h.own p k' xs hp;cases hn : N.ν p with
 | none =>
   rw [hn] at eQ;have hxs : xs = [] := eQ;subst hxs;have h0 : len = 0 := by simpa using hle
   subst h0;obtain ⟨⟨⟨j1,_⟩,_,j2⟩,j3,_⟩ := hI k' _ _ ys res HE (fun y hy => by simp at hy) (fun y hy => by simp at hy);have hys : ys = [] := by simpa using j1
   subst hys;simp only [gL,cM,hn] at r0;have jU := j3 (by simp) X φ w vargs v0 _ (.inl rfl) hl Qf r0 hes;intro K Q hK;unfold Oper.wp;rw [l8,Oper.upon_enter];refine jU.mono ?_;rintro e w1 ⟨v',rfl,rv,ad⟩;obtain ⟨se,sH⟩ := Ps (s := s) (p := p) (v := .own k' []) (cu.1 hp);have hZ : eR X φ w1 N (setAt s p (.own k' ([] ++ ([] : List AV).drop 0))) Ha (tm a) := (h.my (.of_same ad) (h.heap.of_same ad) h.own (fun _ _ => rfl)).ext se sH;refine hK v' w1 φ (eG.quiet hZ ⟨hb.1,by show base <= (setAt s p (.own k' [])).H.length; rw [sH]; exact hb.2⟩ ?_ ?_ ?_) (.of_same ad)
   ·cases res with
    | none => trivial
    | some m =>
      have := j2 m rfl;simp at this;subst this
      exact ⟨[],by
       show aC (setAt s p (.own k' [])) p = _;rw [IH se sH]; exact hp,by simp⟩
   ·cases res <;> trivial
   ·cases res with
    | none => simpa [V3,vX,cM,kW] using rv
    | some m => simpa [V3,vX,cM,hn] using rv
 | some n =>
   rw [hn] at eQ;obtain ⟨cs,c1,c2,c3,c4⟩ := eQ;have hxs : xs.take len ++ xs.drop len = xs := O4 len xs
   have zK : ∀ y ∈ xs,∀ d ∈ y.cells,fz d = true := by
    intro y hy d hd
    have : d ∈ aH xs := by
     clear c1 c2 c3 c4 HE hp hle hxs hA r0 xX hx Qf hes
     induction xs with
     | nil => simp at hy
     | cons z r ih =>
       simp only [aH,aG];rcases aK.1 hy with e | e
       ·subst e; exact .inl hd
       ·exact .inr (ih e)
    obtain ⟨i,hi⟩ := bG this;exact (c4 i d hi).1
   obtain ⟨⟨⟨j1,j2⟩,j3,j4⟩,_,j6⟩ := hI k' _ _ ys res HE (fun y hy => c3 y (c8 hy)) (fun y hy => zK y (c8 hy));have bL : (xs.take len).length = len := by simp; omega
   rw [bL] at j1
   have hH1 : cG X φ w (Ha.set n (some (aH xs))) := less h.heap c1 (by rw [jx c3]; exact c2) fun i d hd => by
    obtain ⟨_,a',b1,_,b2⟩ := c4 i d hd;exact ⟨a',b1,b2⟩
   simp only [gL,cM,hn,rk] at r0;have jU := j6 X φ w (Ha.set n (some (aH xs))) n (xs.drop len) vargs v0 hH1 (by rw [hxs,dH,if_pos ⟨rfl,dL c1⟩]) hl Qf (by rw [bL]; exact r0) hes;intro K Q hK;unfold Oper.wp;rw [l8,Oper.upon_enter];refine jU.mono ?_;rintro e w1 ⟨v',nk,rfl,rv,hh,ad⟩;rw [List.set_set] at hh
   have NR : ∀ y ∈ ys ++ xs.drop len,y.cells.length = k' := fun y hy => by
    rcases aG.1 hy with hy | hy
    ·exact j2 y hy
    ·exact c3 y (c9 hy)
   have Zt : oT (Ha.set n (some (aH (ys ++ xs.drop len)))) (some n) k' (ys ++ xs.drop len) := by
    refine ⟨aH (ys ++ xs.drop len),by rw [dH,if_pos ⟨rfl,dL c1⟩],by rw [jx NR]; exact aT _,NR,fun i d hd => ?_⟩;have hm := xg (bg hd);obtain ⟨y,hy,hdy⟩ := hm
    have hfd : fz d = true := by
     rcases aG.1 hy with hy | hy
     ·exact j3 y hy d hdy
     ·exact zK y (c9 hy) d hdy
    exact ⟨hfd,d,hd,(kh hfd).2,Le.refl _⟩
   obtain ⟨hZ,jG⟩ := h.upd (xs' := ys ++ xs.drop len) hp hn (by simp; omega) ad hh Zt (fun m C5 => by rw [dH,if_neg (fun e => C5 e.1)])
   have fu : aC (setAt s p (.own k' (ys ++ xs.drop len))) p = some (k',ys ++ xs.drop len) := by
    have uq := cu.1 hp;refine cu.2 ?_;rw [Bj ⟨(fun cs e => by cases e),_,uq,(fun cs e => by cases e)⟩ (Ft (by rw [hp]; rfl)),if_pos rfl]
   refine hK v' w1 nk (eG.quiet hZ ⟨hb.1,by rw [jG.len]; exact hb.2⟩ ?_ ?_ ?_) ad
   ·cases res with
    | none => trivial
    | some m =>
      have := j4 m rfl;refine ⟨_,fu,?_⟩;rw [bN];omega
   ·cases res <;> trivial
   ·cases res with
    | none => simpa [V3,vX,cM,kW] using rv
    | some m => simpa [V3,vX,cM,hn] using rv
theorem af5 (dg : fE P c) (dX : iH P c call) {X : Nat -> Prop} {φ : dy} {w : World} {B : Nat -> Nat} {base : Nat} {s s1 : St} {o : Oper} {a : Act} {kd : Kd} {v : AV} {fq : Fq} (hk : cZ P o.op (lS kd) = true) (h : SB X φ w B base s (tm a)) (hg : Am.dZ (iO c) X φ w) (hs : l7 c call s kd = some (some (v,s1,fq))) : lY P X φ w B base s1 v o a := by
 obtain ⟨f,x,es,b,md,q,cs,cs',rfl,hl,hx,hf,hb,⟨jG,oX,Jc⟩,hc,⟨hpr,Qh⟩,rfl,rfl⟩ := vh hs;obtain ⟨N,Ha,h,C6⟩ := h;obtain ⟨vargs,l8,hA,xX⟩ := nM (kd := .call f (x :: es)) (args := bt c s.env x :: dE c s.env es) dg h hg hk rfl hf;rw [hx] at hA xX;generalize dE c s.env es = as at oX hc hA xX;obtain ⟨bs,b1,b2,b3⟩ := h.box b cs hb;obtain ⟨g,sz,arr,te,g1,g2,g3,g4,g5,g6⟩ := h.heap.at b1;have og : bQ φ g := ⟨_,sz,g1⟩
 have ow : ∀ g0,bQ [some (g,sz)] g0 -> g0 = g := by
  rintro g0 ⟨i,z,hi⟩;cases i with
  | zero => simp at hi; exact hi.1.symm
  | succ i => simp at hi
 have rdin : ∀ a u,Rd X φ w a u -> Rd (fun g0 => X g0 \/ (bQ φ g0 /\ g0 ≠ g)) [some (g,sz)] w a u := fun a u ⟨h1,h2,h3⟩ => ⟨fun h => h.elim h1 (fun h => h2 h.1),fun ho => h2 (by rw [ow _ ho]; exact og),h3⟩
 have hh : cG (fun g0 => X g0 \/ (bQ φ g0 /\ g0 ≠ g)) [some (g,sz)] w [some cs] := by
  refine ⟨rfl,fun g0 h0 => h0.elim (h.heap.Dh g0) (fun ho => (h.heap.im ho.1).1),fun i ds hi => ?_,fun i hi => ?_,fun i i' g0 z z' e1 e2 => ?_⟩
  ·cases i with
   | succ i => simp at hi
   | zero =>
     simp at hi;subst hi;refine ⟨g,sz,arr,te,rfl,g2,g3,by omega,fun h0 => h0.elim g5 (fun h1 => h1.2 rfl),fun j d hd => ?_⟩;obtain ⟨_,a',C7,hle⟩ := b3 j d hd;obtain ⟨u,u1,u2⟩ := g6 j a' C7;have hpd := eX Jc j d hd;rw [pn N _ hpd] at hle;exact ⟨u,u1,((hle _ _ _ u2).dJ (gH _ hpd) _).mono rdin (.refl _)⟩
  ·cases i with
   | zero => simp at hi
   | succ i => simp at hi
  ·cases i with
   | succ i => simp at e1
   | zero => cases i' with
     | zero => rfl
     | succ i' => simp at e2
 have Gf : ∀ i,get (ep 0 (AV.ptr 0 0 :: as)) i = (AV.ptr 0 0 :: as)[i]?.getD .any := fun i => by rw [sg]; simp
 have ZC : ∀ i,(get (ep 0 (AV.ptr 0 0 :: as)) i = .ptr 0 0 /\ i = 0) \/ pl (get (ep 0 (AV.ptr 0 0 :: as)) i) = true := fun i => by
  rw [Gf];cases i with
  | zero => exact .inl ⟨rfl,rfl⟩
  | succ i =>
    refine .inr ?_;simp only [l9];cases e : as[i]? with
    | none => rfl
    | some x => exact eX oX i x e
 have iK : ∀ p,aC ⟨ep 0 (AV.ptr 0 0 :: as),[some cs]⟩ p = none := by
  have hw : ∀ i,bJ (get (ep 0 (AV.ptr 0 0 :: as)) i) = false := fun i => (ZC i).elim (fun e => by rw [e.1]; rfl) uZ;intro p;cases p with
  | s i => exact (dV (s := ⟨ep 0 (AV.ptr 0 0 :: as),[some cs]⟩) (hw i)).1
  | sc i j => exact (dV (s := ⟨ep 0 (AV.ptr 0 0 :: as),[some cs]⟩) (hw i)).2 j
  | c d j =>
    refine rM fun ds hd => ?_;cases d with
    | zero => simp [aN] at hd; subst hd; exact Jc
    | succ d => simp [aN] at hd
 have qg : as.length + 1 = vargs.size := by simpa using hA.1
 have C3 : SB (fun g0 => X g0 \/ (bQ φ g0 /\ g0 ≠ g)) [some (g,sz)] w (fun _ => 0) 1 ⟨ep 0 (AV.ptr 0 0 :: as),[some cs]⟩ (fun i => vargs.getD i undef) := by
  refine ⟨⟨fun _ => 0,fun _ => none⟩,[some cs],⟨fun i => ?_,fun i => ?_,hh,fun p k xs e => ?_,fun d ds e => ?_,fun p q n e1 => ?_,fun d p _ e1 => ?_,fun d e0 e1 e2 _ => ?_⟩,fun b hb => rfl,by simp⟩
  ·show bT _ _ (ku _ i (get (ep 0 (AV.ptr 0 0 :: as)) i)) _;rcases ZC i with ⟨e,rfl⟩ | hp
   ·rw [e];obtain ⟨v0,Qf⟩ := cY (l := vargs) (i := 0) (by omega);have r0 := hA.2 0 _ v0 rfl Qf;rw [bf,Qf];simp only [gL,cM] at r0;cases r0 with
    | ptr _ _ _ ad ia h' =>
      refine .ptr _ _ _ _ (by simp) fun g0 z e => ?_;simp at e;obtain ⟨rfl,rfl⟩ := e;exact h' g sz g1
   ·rw [xp _ _ hp];cases i with
    | zero => rw [Gf] at hp; simp [pl] at hp
    | succ i =>
      rw [Gf] at hp ⊢;simp only [l9] at hp ⊢;cases e : as[i]? with
      | none => exact .any _ _
      | some y =>
        rw [e] at hp;simp only [hF] at hp ⊢;obtain ⟨v,hv⟩ := cY (l := vargs) (i := i + 1) (by have := aA e; omega);have r0 := hA.2 (i + 1) y v (by simpa using e) hv;rw [HU N hp] at r0;rw [bf,hv];exact (r0.dJ (gH _ hp) _).mono rdin (.refl _)
  ·show cK _ _ (get (ep 0 (AV.ptr 0 0 :: as)) i);rcases ZC i with ⟨e,_⟩ | hp
   ·rw [e]; simp [cK]
   ·exact tX _ hp
  ·rw [iK] at e; cases e
  ·cases d with
   | succ d => simp [aN] at e
   | zero =>
     simp [aN] at e;subst e;exact ⟨cs,rfl,rfl,fun j d hd => ⟨tX _ (eX Jc j d hd),d,hd,by rw [pn _ _ (eX Jc j d hd)]; exact Le.refl _⟩⟩
  ·rw [iK] at e1; cases e1
  ·rw [iK] at e1; cases e1
  ·cases d with
   | succ d => simp [aN] at e1
   | zero => cases e0 with
     | succ d => simp [aN] at e2
     | zero => rfl
 have jU := dX f md q hf (AV.ptr 0 0 :: as) [some cs] v [some cs'] (.inl jG) hc (fun _ => by simp [jt,we _ Qh,vH]) _ _ w (fun _ => 0) vargs (by simpa using hA.1) C3 (fun g0 => (hg g0).mono rdin (.refl _));intro K Q hK;unfold Oper.wp;rw [l8,Oper.upon_enter];refine jU.mono ?_;rintro e w1 ⟨v',nk,rfl,⟨N1,H1,hZ,zL,_⟩,ad⟩;obtain ⟨as1,c1,c2,c3⟩ := hZ.box 0 cs' rfl;rw [zL 0 (by simp)] at c1;obtain ⟨g',nx,arr1,te1,k1,k2,k3,k4,k5,k6⟩ := hZ.heap.at c1;have hgg := ad.Tm.IK 0 _ (by simp) k1;simp at hgg;obtain ⟨rfl,rfl⟩ := hgg;have ow2 : bQ nk g := ⟨0,sz,k1⟩;have ac3 : ∀ a u,Rd (fun g0 => X g0 \/ (bQ φ g0 /\ g0 ≠ g)) nk w1 a u -> Rd X φ w1 a u := fun a u ⟨h1,h2,h3⟩ => ⟨fun h => h1 (.inl h),fun ho => h1 (.inr ⟨ho,fun e => h2 (by rw [e]; exact ow2)⟩),h3⟩;have my : fJ φ w φ w1 := ⟨ad.os,ad.tape,ad.output,ad.drawn,ad.size,fun g0 bL hno' => ⟨(ad.keep g0 bL (fun ho => hno' (by rw [ow _ ho]; exact og))).1,hno'⟩,.refl _⟩
 have hh2 : cG X φ w1 (Ha.set (N.β b) (some cs')) := by
  refine ⟨by simp [h.heap.len],fun g0 h0 => fM (h.heap.Dh g0 h0) ad.size,fun m ds hm => ?_,fun m hm => ?_,h.heap.inj⟩
  ·rw [bm] at hm;split at hm
   ·rename_i e;subst e;split at hm
    ·simp at hm;subst hm;refine ⟨g,sz,arr1,te1,g1,k2,k3,by omega,g5,fun j d hd => ?_⟩;obtain ⟨_,a',C7,hle⟩ := c3 j d hd;obtain ⟨u,u1,u2⟩ := k6 j a' C7;have hpd := eX Qh j d hd;rw [pn N1 _ hpd] at hle;exact ⟨u,u1,((hle _ _ _ u2).dJ (gH _ hpd) _).mono ac3 (.refl _)⟩
    ·cases hm
   ·rename_i mW;obtain ⟨g0,WZ,arr0,e0,p1,p2,p3,p4,p5,p6⟩ := h.heap.live m ds hm;have hg0 : g0 ≠ g := fun e => mW (h.heap.inj _ _ _ _ _ g1 (e ▸ p1));refine ⟨g0,WZ,arr0,e0,p1,?_,p3,p4,p5,fun j d hd => ?_⟩
    ·rw [(ad.keep g0 (eK.1 p2).1 (fun ho => hg0 (ow _ ho))).1]; exact p2
    ·obtain ⟨u,u1,u2⟩ := p6 j d hd;exact ⟨u,u1,my.rep u2⟩
  ·rw [bm] at hm;split at hm
   ·split at hm <;> simp at hm
   ·exact h.heap.dead m hm
 have hlen : (s.H.set b (some cs')).length = s.H.length := by simp
 have Pq : eR X φ w1 N ⟨s.env,s.H.set b (some cs')⟩ (Ha.set (N.β b) (some cs')) (tm a) := h.Xt hb Jc Qh my hh2 (by rw [dH,if_pos ⟨rfl,dL b1⟩]) fun m hm => by rw [dH,if_neg (fun h => hm h.1)]
 have hno2 := uZ hpr;have r0 := hZ.env 0;simp only [Am.get,if_true] at r0;rw [xp N1 0 hpr] at r0;refine hK v' w1 φ (eG.quiet Pq ⟨C6.1,by show base <= (s.H.set b (some cs')).length; rw [hlen]; exact C6.2⟩ (tX v hpr) (k9 hno2) ?_) my;rw [kG N hno2,ks N _ hpr];exact (r0.dJ (gH _ hpr) _).mono ac3 (.refl _)
theorem af2 (dg : fE P c) (dX : iH P c call) {X : Nat -> Prop} {φ : dy} {w : World} {B : Nat -> Nat} {base : Nat} {s s1 : St} {o : Oper} {a : Act} {v : AV} {fq : Fq} {f i : Nat} {es : List E} (hk : cZ P o.op (lS (.call f es)) = true) (h : SB X φ w B base s (tm a)) (hg : Am.dZ (iO c) X φ w) (hs : M0 c call f i s (dE c s.env es) = some (v,s1,fq)) : lY P X φ w B base s1 v o a := by unfold M0 at hs;cases hs
theorem Mk : ∀ (l : List AV) (n : Nat) {i b off len : Nat},Cr n l = some (i,b,off,len) -> ∃ j,i = n + j /\ l[j]? = some (.sl 1 b off len)
 | [],n,i,b,off,len,h => by simp [Cr] at h
 | x :: r,n,i,b,off,len,h => by
   have go : Cr (n + 1) r = some (i,b,off,len) -> ∃ j,i = n + j /\ (x :: r)[j]? = some (.sl 1 b off len) := fun h => by
    obtain ⟨j,h1,h2⟩ := Mk r (n + 1) h;exact ⟨j + 1,by omega,by simpa using h2⟩
   cases x <;> simp only [Cr] at h <;> try exact go h
   rename_i k b' off' len';split at h
   ·rename_i hk;subst hk;simp only [ah,aJ] at h;obtain ⟨rfl,rfl,rfl,rfl⟩ := h;exact ⟨0,by omega,rfl⟩
   ·exact go h
theorem yF {s s1 : St} {kd : Kd} {v : AV} {fl : Fq} (h : Ag c call s kd = some (v,s1,fl)) : ∃ f args md q i b off len cs H',getArgs c s.env kd = some (f,args) /\ c.fn f = some (md,q) /\ Cr 0 args = some (i,b,off,len) /\ args[i]? = some (.sl 1 b off len) /\ aN s.H b = some cs /\ (((md.cl = false /\ md.sh = false) /\ (off + len <= cs.length /\ N3 cs = true)) /\ gz ((args.map fi).set i .undef) = true) /\ call f ((args.map fi).set i (.list 1 ((cs.drop off).take len))) [] = some (v,H') /\ pl v = true /\ s1 = ⟨s.env,s.H.set b none⟩ /\ fl = .all := by
 unfold Ag at h;split at h
 ·cases h
 rename_i f args ha;split at h
 case h_2 => cases h
 rename_i md q i b off len hf hs;split at h
 case h_2 => cases h
 rename_i cs hb;split at h
 case isFalse => cases h
 rename_i hc;split at h
 case h_2 => cases h
 rename_i r H' hr;split at h
 case isFalse => cases h
 rename_i hp;simp only [ah,aJ] at h;obtain ⟨rfl,rfl,rfl⟩ := h;obtain ⟨j,h1,h2⟩ := Mk args 0 hs;have : i = j := by omega
 subst this;exact ⟨f,args,md,q,i,b,off,len,cs,H',ha,hf,hs,h2,hb,hc,hr,hp,rfl,rfl⟩
theorem v7 {s s1 : St} {kd : Kd} {v : AV} {f : Fq} (h : Ag c call s kd = some (v,s1,f)) : f = .all /\ aP v = [] := by
 obtain ⟨f,args,md,q,i,b,off,len,cs,H',_,_,_,_,_,_,_,hp,_,hf⟩ := yF h;exact ⟨hf,Fl _ hp⟩
theorem Ri {s : St} {kd : Kd} {x : AV × St × Fq} (h : Ag c call s kd = some x) : ∃ n args H r H',call n args H = some (r,H') /\ ∀ g : Nat -> List AV -> Heap -> Option (AV × Heap),g n args H = some (r,H') -> Ag c g s kd = some x := by
 obtain ⟨v,s1,fl⟩ := x;obtain ⟨f,args,md,q,i,b,off,len,cs,H',ha,hf,hs,hi,hb,hc,hr,hp,rfl,rfl⟩ := yF h;refine ⟨_,_,_,_,_,hr,fun g hg => ?_⟩;unfold Ag;rw [ha];simp only [hf,hs,hb];rw [if_pos hc,hg];simp only;rw [if_pos hp]
theorem Xr {s : St} {kd : Kd} {x : AV × St × Fq} (h : Ag c call s kd = some x) (g : Nat -> List AV -> Heap -> Option (AV × Heap)) : dU c g kd s = none := by
 obtain ⟨v,s1,fl⟩ := x;obtain ⟨f,args,md,q,i,b,off,len,cs,H',ha,hf,hs,hi,hb,⟨⟨⟨h1,h2⟩,h3⟩,h4⟩,hr,hp,rfl,rfl⟩ := yF h
 have ZD : dh args = [] := by
  cases e : dh args with
  | nil => rfl
  | cons p r =>
    exfalso;obtain ⟨j,z,hz,hpz⟩ := Dd (cs := args) (p := p) (by rw [e]; simp);by_cases hj : j = i
    ·subst hj;rw [hi] at hz;cases hz;simp [aP] at hpz
    ·have := eX h4 j (fi z) (by rw [dq (iP hj),cq,hz]; rfl);by_cases ho : ∃ k,z = .own k []
     ·obtain ⟨k,rfl⟩ := ho;simp [aP] at hpz
     ·have hn : fi z = z := by
       unfold fi;split
       ·rename_i k; exact absurd ⟨k,rfl⟩ ho
       ·rfl
      rw [hn] at this;rw [Fl _ this] at hpz;cases hpz
 have hnp : gz (args.map fi) = false := by
  cases e : gz (args.map fi) with
  | false => rfl
  | true =>
    have := eX e i (fi (.sl 1 b off len)) (by rw [cq,hi]; rfl);simp [fi,pl] at this
 unfold dU;rw [ha];simp only [hf,h1,h2,Bool.false_and,bn,if_false,ZD,dR,ha,if_true,hnp]
theorem js {s s1 : St} {kd : Kd} {v : AV} {f : Fq} (h : qT c call kd s = some (v,s1,f)) : dU c call kd s = some (v,s1,f) \/ Ag c call s kd = some (v,s1,f) := by
 unfold qT at h;split at h
 ·rename_i x hx;rw [hx];exact .inl h
 ·exact .inr h
theorem qi {s : St} {kd : Kd} {x : AV × St × Fq} (h : dU c call kd s = some x) : qT c call kd s = some x := by
 unfold qT;rw [h]
theorem Gy {s : St} {kd : Kd} {x : AV × St × Fq} (h : Ag c call s kd = some x) : qT c call kd s = some x := by
 unfold qT;rw [Xr h];exact h
theorem eR.abL {X : Nat -> Prop} {φ : dy} {w : World} {N : Names} {s : St} {Ha : Heap} {t : Nat -> Value} (h : eR X φ w N s Ha t) {b : Nat} {cs : List AV} (hb : aN s.H b = some cs) (Jc : gz cs = true) : eR X (φ.set (N.β b) none) w N ⟨s.env,s.H.set b none⟩ (Ha.set (N.β b) none) t := by
 obtain ⟨hh,ad⟩ := h.heap.NB (N.β b);have hbn : aN (s.H.set b none) b = none := by unfold aN; rw [List.getElem?_set_self (dL hb)]
 have hoa : ∀ p,aC ⟨s.env,s.H.set b none⟩ p = aC s p := by
  intro p;cases p with
  | s i => rfl
  | sc i j => rfl
  | c d j =>
    by_cases e : d = b
    ·subst e;rw [rM (e := s.env) (H := s.H.set d none) (d := d) (j := j) fun ds hd => by rw [hbn] at hd; cases hd];exact (rM (e := s.env) (H := s.H) (d := d) (j := j) fun ds hd => by rw [hb] at hd; cases hd; exact Jc).symm
    ·simp only [aC,at_];rw [mQ (iP e)]
 have hfe : aC ⟨s.env,s.H.set b none⟩ = aC s := funext hoa;have hlen : (s.H.set b none).length = s.H.length := by simp
 have ZE : ∀ d ds,aN (s.H.set b none) d = some ds -> d ≠ b /\ aN s.H d = some ds := by
  intro d ds e;by_cases e2 : d = b
  ·subst e2;rw [hbn] at e;cases e
  ·rw [mQ (iP e2)] at e;exact ⟨e2,e⟩
 have Gc : ∀ d,(aN (s.H.set b none) d).isSome -> (aN s.H d).isSome := by
  intro d e;obtain ⟨ds,hd⟩ := aQ.1 e;rw [(ZE d ds hd).2]; rfl
 have Hf : (aN s.H b).isSome := by rw [hb]; rfl
 refine ⟨fun i => ad.rep (h.env i),fun i => ?_,hh,fun p k xs e => ?_,fun d ds e => ?_,fun p q n e1 e2 => ?_,fun d p e1 e2 => ?_,fun d e0 e1 e2 e3 => ?_⟩
 ·rw [hfe];show cK _ (s.H.set b none).length _;rw [hlen]; exact h.Cu i
 ·rw [hoa] at e;have ho := h.own p k xs e;cases hn : N.ν p with
  | none => rw [hn] at ho; exact ho
  | some m =>
    rw [hn] at ho;obtain ⟨ds,d1,d2⟩ := ho;have mW : m ≠ N.β b := fun e2 => h.bx b p Hf (by rw [e]; rfl) (by rw [hn,e2]);exact ⟨ds,by rw [mQ (iP mW)]; exact d1,d2⟩
 ·obtain ⟨hd,ya⟩ := ZE d ds e;obtain ⟨as2,x1,x2,x3⟩ := h.box d ds ya;have mW : N.β d ≠ N.β b := fun h2 => hd (h.bi d b (by rw [ya]; rfl) Hf h2);refine ⟨as2,by rw [mQ (iP mW)]; exact x1,x2,fun j d' hd' => ?_⟩;obtain ⟨y1,y2⟩ := x3 j d' hd';refine ⟨?_,y2⟩;rw [hfe];show cK _ (s.H.set b none).length _;rw [hlen]; exact y1
 ·rw [hoa] at e1 e2; exact h.inj p q n e1 e2
 ·rw [hoa] at e2; exact h.bx d p (Gc d e1) e2
 ·exact h.bi d e0 (Gc d e1) (Gc e0 e2) e3
theorem af0 (dg : fE P c) (dX : iH P c call) {X : Nat -> Prop} {φ : dy} {w : World} {B : Nat -> Nat} {base : Nat} {s s1 : St} {o : Oper} {a : Act} {kd : Kd} {v : AV} {fq : Fq} (hk : cZ P o.op (lS kd) = true) (h : SB X φ w B base s (tm a)) (hg : Am.dZ (iO c) X φ w) (hs : Ag c call s kd = some (v,s1,fq)) : lY P X φ w B base s1 v o a := by
 obtain ⟨f,args,md,q,i,b,off,len,cs,H',ha,hf,hsl,hi,hb,⟨⟨⟨h1,jG⟩,hle,zK⟩,oX⟩,hc,hr,rfl,rfl⟩ := yF hs;obtain ⟨N,Ha,h,C6⟩ := h;obtain ⟨vargs,l8,hA,xX⟩ := s5 dg h hg hk ha hf;have Jc : gz cs = true := Fm fun y hy => (kh (ka zK y hy)).1;have hce : ∀ y ∈ cs,y.cells = [y] := fun y hy => N0 (ka zK y hy);obtain ⟨hh,had⟩ := h.heap.NB (N.β b);have hk2 := h.abL hb Jc;have hil : i < args.length := aA hi;obtain ⟨as,b1,b2,b3⟩ := h.box b cs hb
 have eQ : oT (Ha.set (N.β b) (some cs)) (some (N.β b)) 1 cs := ⟨cs,by rw [dH,if_pos ⟨rfl,dL b1⟩],by omega,fun x hx => by rw [hce x hx]; rfl,fun j d hd => by
  rw [C9 hce] at hd;have ya := ka zK d (bg hd);exact ⟨ya,d,hd,(kh ya).2,Le.refl _⟩⟩
 have hH1 : cG X φ w (Ha.set (N.β b) (some cs)) := less h.heap b1 (by omega) fun j d hd => by
  obtain ⟨_,a',a1,a2⟩ := b3 j d hd;rw [pn N _ (eX Jc j d hd)] at a2;exact ⟨a',a1,a2⟩
 have wQ : ∀ a u,Rd X (φ.set (N.β b) none) w a u -> Rd (fun g => X g \/ bQ (φ.set (N.β b) none) g) [] w a u := fun a u ⟨h1,h2,h3⟩ => ⟨fun h => h.elim h1 h2,bQ.nil _,h3⟩
 have hpl2 : gz ((args.map fi).set i (.list 1 ((cs.drop off).take len))) = true := Fm fun y hy => by
  obtain ⟨j,hj,hy2⟩ := List.getElem_of_mem hy;have hy3 := (aB hj).trans (congrArg some hy2);by_cases e : j = i
  ·subst e;rw [bm] at hy3;simp [hil] at hy3;rw [<- hy3]; rfl
  ·rw [dq (iP e)] at hy3;exact eX oX j y (by rw [dq (iP e)]; exact hy3)
 have C3 := SB.start (X := fun g => X g \/ bQ (φ.set (N.β b) none) g) (w := w) (args := (args.map fi).set i (.list 1 ((cs.drop off).take len))) (vargs := vargs) (fun g hg => hg.elim (h.heap.Dh g) (fun ho => (hh.im ho).1)) hpl2 (by simpa using hA.1) (fun j x v hx hv => by
  by_cases e : j = i
  ·subst e;rw [bm] at hx;simp [hil] at hx;subst hx;have r0 := hA.2 j _ v hi hv;simp only [gL,cM] at r0;exact (yl hH1 eQ hle (by simpa using r0) []).mono wQ (.refl _)
  ·rw [dq (iP e),cq] at hx;cases Hh : args[j]? with
   | none => rw [Hh] at hx; cases hx
   | some y =>
     rw [Hh] at hx;simp at hx;subst hx;have r0 := hA.2 j y v Hh hv;have Zo := eX oX j (fi y) (by rw [dq (iP e),cq,Hh]; rfl);by_cases ho : ∃ k,y = .own k []
     ·obtain ⟨k,rfl⟩ := ho;simp only [gL] at r0;cases r0;exact .j8 _ _
     ·have hn : fi y = y := by
       unfold fi;split
       ·rename_i k; exact absurd ⟨k,rfl⟩ ho
       ·rfl
      rw [hn] at Zo ⊢;rw [HU N Zo] at r0;exact (r0.dJ (gH _ Zo) []).mono (fun a u hr => wQ a u (had.rd a u hr)) (.refl _)) (fun _ => 0)
 have jU := dX f md q hf _ [] v H' (.inr rfl) hc (fun e => by rw [jG] at e; cases e) (fun g => X g \/ bQ (φ.set (N.β b) none) g) [] w (fun _ => 0) vargs (by simpa using hA.1) C3 (Qu (hg.my had) fun g h => h);intro K Q hK;unfold Oper.wp;rw [l8,Oper.upon_enter];refine jU.mono ?_;rintro e w1 ⟨v',nk,rfl,⟨N1,H1,hZ,_⟩,ad⟩;have iK := uZ hr;have hlen : (s.H.set b none).length = s.H.length := by simp
 refine hK v' w1 (φ.set (N.β b) none) (eG.quiet (hk2.my (.of_same ad) (hh.of_same ad) hk2.own (fun _ _ => rfl)) ⟨C6.1,by show base <= (s.H.set b none).length; rw [hlen]; exact C6.2⟩ (tX v hr) (k9 iK) ?_) (had.trans (.of_same ad));have r0 := hZ.env 0;simp only [Am.get,if_true] at r0;rw [xp N1 0 hr] at r0;rw [kG N iK,ks N _ hr];exact ((r0.dJ (gH _ hr) []).mono (fun a u ⟨h1,_,h3⟩ => ⟨fun h => h1 (.inl h),fun h => h1 (.inr h),h3⟩) (.refl _)).FN _
theorem FC (dg : fE P c) (oQ : vP P c) (dX : iH P c call) (jG : G6 P c call) {X : Nat -> Prop} {φ : dy} {w : World} {B : Nat -> Nat} {base : Nat} {s s1 : St} {o : Oper} {a : Act} {kd : Kd} {v : AV} {fq : Fq} (hk : cZ P o.op (lS kd) = true) (h : SB X φ w B base s (tm a)) (hg : Am.dZ (iO c) X φ w) (hs : dA c call kd s = some (v,s1,fq)) : lY P X φ w B base s1 v o a := by
 unfold dA at hs;cases hi : oP c s kd with
 | none =>
   rw [hi] at hs;cases hl : l7 c call s kd with
   | none =>
     rw [hl] at hs;simp only [gq] at hs;cases hm : q8 c call s kd with
     | none =>
       rw [hm] at hs;rcases js hs with hs | hs
       ·exact VH dg dX jG hk h hg hs
       ·exact af0 dg dX hk h hg hs
     | some r =>
       rw [hm] at hs;simp only at hs;subst hs;unfold q8 at hm;split at hm
       case h_2 => cases hm
       rename_i f es;split at hm
       case h_2 => cases hm
       rename_i i hi;simp only [ah] at hm;obtain ⟨nk,h1,a1⟩ := SB.dR (dh ((dE c s.env es).set i .undef)) h;exact lY.ghost a1 (af2 dg dX hk h1 (hg.my a1) hm)
   | some r =>
     rw [hl] at hs;simp only at hs;subst hs;exact af5 dg dX hk h hg hl
 | some r =>
   rw [hi] at hs;simp only at hs;subst hs;exact agb dg oQ hk h hg hi
theorem ael (dg : fE P c) (oQ : vP P c) (dX : iH P c call) (jG : G6 P c call) : JM P c call := by
 intro X φ w B base s o a kd v s1 f hk hs h hg;cases hc : lM kd with
 | false => exact afW dg.mixed h hg hk hc hs
 | true =>
   cases kd <;> simp [lM] at hc
   ·simp only [fH] at hs; exact FC dg oQ dX jG hk h hg hs
   ·simp only [fH] at hs; exact FC dg oQ dX jG hk h hg hs
end
end Go.Bm

/- A call of a function of the program, from a world of which nothing is known but how the arguments read; given what is still to be shown. -/
namespace Go.Bm
open Go.Am
section
variable {P : Program} {c : eE}
theorem Po (dg : fE P c) (oQ : vP P c) (vq : vL P c) (hshc : ∀ call,iH P c call -> G6 P c call) (hdr : ∀ call,iH P c call -> G7 P c call) (jG : ∀ n,OJ P c n -> ShOK P c n) (n : Nat) : OJ P c n :=
 Du (fun call hc => ael dg oQ hc (hshc call hc)) hdr (fun n hs => JG dg vq hs (jG n hs)) n
theorem Wy (dg : fE P c) {call : Nat -> List AV -> Heap -> Option (AV × Heap)} (dX : iH P c call) {f : Nat} {md : Md} {q : fK} (hf : c.fn f = some (md,q)) (jG : md.sh = false) {args : List AV} (hz : gz args = true) {r : AV} {H' : Heap} (h : call f args [] = some (r,H')) (hr : pl r = true) {w : World} {vargs : Array Value}
  (ha : sJ (fun _ => False) [] w args vargs) (hg : Am.dZ (iO c) (fun _ => False) [] w) : Calls P f vargs w (fun e w' => ∃ v,e = .returned v /\ bT (Rd (fun _ => False) [] w') [] r v /\ RowKit.Below w.heap.size w w') := by
 have C3 := SB.start (X := fun _ => False) (w := w) (args := args) (vargs := vargs) (fun g hg => hg.elim) hz ha.1 ha.2 (fun _ => 0);refine (dX f md q hf args [] r H' (.inr rfl) h (fun e => by rw [jG] at e; cases e) (fun _ => False) [] w (fun _ => 0) vargs ha.1 C3 hg).mono ?_;rintro e w1 ⟨v',nk,rfl,⟨N1,H1,hZ,_⟩,a1⟩;have r0 := hZ.env 0;simp only [Am.get,if_true] at r0;rw [xp N1 0 hr] at r0;refine ⟨v',rfl,(r0.dJ (gH _ hr) []).mono (fun a u ⟨h1,_,h3⟩ => ⟨h1,bQ.nil _,h3⟩) (.refl _),a1.os,a1.tape,a1.output,a1.size,fun k hk => (a1.keep k hk (bQ.nil k)).1⟩
end
end Go.Bm

/- Regions that draw their order: it makes no difference, given that two steps whose order is open commute. -/
namespace Go.Bm
open Go.Am
section
variable {P : Program} {c : eE} {call : Nat -> List AV -> Heap -> Option (AV × Heap)} {T : St -> O -> Fq -> St -> Prop}
abbrev WR := Nat × Oper × O × Fq
def QX (P : Program) (c : eE) (T : St -> O -> Fq -> St -> Prop) : Prop :=
 ∀ X φ w B base N ops s s' (o : Oper) a q f,N <= fe -> LF P N ops o (Oh q) = true -> T s q f s' -> Ab X φ w B base s a N -> Am.dZ (iO c) X φ w -> ∀ (K : Act -> World -> Prop) (Q : Exit -> Act -> World -> Prop),(∀ a' w' φ',Ab X φ' w' B base s' a' N -> fJ φ w φ' w' -> K a' w') ->
  if Region.wanted o (yielded ops a.tmps) then o.wp P a w K Q \/ (o.asks P a w /\ LetsOut Q) else K (a.put o.dst WW) w
def OM (T : St -> O -> Fq -> St -> Prop) : Prop :=
 ∀ s x f s1 y g s2,T s x f s1 -> T s1 y g s2 -> jI x y = true -> iZ x f y g = true -> ∃ Hn,T s y g Hn /\ T Hn x f s2
def LN (T : St -> O -> Fq -> St -> Prop) : List WR -> St -> St -> Prop
 | [],s,sf => s = sf
 | p :: r,s,sf => ∃ s1,T s p.2.2.1 p.2.2.2 s1 /\ LN T r s1 sf
theorem LN.LG (hC : OM T) {x : WR} : ∀ {R1 R2 : List WR} {s sf : St},(∀ p ∈ R1,jI p.2.2.1 x.2.2.1 = true /\ iZ p.2.2.1 p.2.2.2 x.2.2.1 x.2.2.2 = true) -> LN T (R1 ++ x :: R2) s sf -> LN T (x :: (R1 ++ R2)) s sf
 | [],R2,s,sf,_,hr => hr
 | p :: R1,R2,s,sf,h,⟨s1,h1,h2⟩ => by
   obtain ⟨s2,h3,h4⟩ := LN.LG hC (fun q hq => h q (by simp [hq])) h2;obtain ⟨A8,hf⟩ := h p (by simp);obtain ⟨Hn,k1,k2⟩ := hC _ _ _ _ _ _ _ h1 h3 A8 hf;exact ⟨Hn,k1,s2,k2,h4⟩
theorem acU (hT : QX P c T) (hC : OM T) {X : Nat -> Prop} {B : Nat -> Nat} {base N : Nat} (hN : N <= fe) {ops : Array Oper} {Q : Exit -> Act -> World -> Prop} {sf : St} :
  ∀ (fuel : Nat) (R : List WR) (listed : Array Bool) (a : Act) (w : World) (φ : dy) (s : St),R.length = fuel -> (∀ i,listed.getD i true = false ↔ ∃ p ∈ R,p.1 = i) -> listed.size = ops.size ->
   Q0 ops listed -> (∀ p ∈ R,ops[p.1]? = some p.2.1 /\ LF P N ops p.2.1 (Oh p.2.2.1) = true /\ ∀ e ∈ p.2.1.after,Region.binds .any e = true -> e.on < p.1) ->
   R.Pairwise (fun p q => p.1 < q.1 /\ (Anc ops p.1 q.1 \/ (jI p.2.2.1 q.2.2.1 = true /\ iZ p.2.2.1 p.2.2.2 q.2.2.1 q.2.2.2 = true))) -> LN T R s sf -> Ab X φ w B base s a N -> Am.dZ (iO c) X φ w ->
   (∀ a' w' φ',Ab X φ' w' B base sf a' N -> fJ φ w φ' w' -> Q .normal a' w') -> wpAny P .any ops Q fuel listed a w := by
 have fin : ∀ {a : Act} {w : World} {φ : dy} {s : St},LN T [] s sf -> Ab X φ w B base s a N -> (∀ a' w' φ',Ab X φ' w' B base sf a' N -> fJ φ w φ' w' -> Q .normal a' w') -> Q .normal a w := by
  intro a w φ s hr hs hQ;obtain rfl : s = sf := hr;exact hQ a w φ hs (.refl _ _)
 intro fuel
 induction fuel with
 | zero =>
   intro R listed a w φ s hl hls _ _ _ _ hr hs hg hQ;have hR : R = [] := gG hl;subst hR;refine ⟨?_,fin hr hs hQ⟩;rw [List.eq_nil_iff_forall_not_mem];intro i hi;obtain ⟨h1,_⟩ := mem_ready.1 hi;obtain ⟨p,hp,_⟩ := (hls i).1 h1;cases hp
 | succ fuel ih =>
   intro R listed a w φ s hl hls qg Qp A7 hpw hr hs hg hQ;refine ⟨fun hnil => ?_,fun i hi => ?_⟩
   ·cases R with
    | nil => simp at hl
    | cons p r =>
      exfalso;obtain ⟨h1,h2,h3⟩ := A7 p (by simp)
      have : p.1 ∈ Region.ready .any ops listed := by
       refine mem_ready.2 ⟨(hls p.1).2 ⟨p,by simp,rfl⟩,p.2.1,h1,fun e he hb => ?_⟩;have bL := h3 e he hb;cases hv : listed.getD e.on false with
       | true => rfl
       | false =>
         exfalso
         have hlt2 : e.on < listed.size := by
          rw [qg];have := kL h1;omega
         have hv2 : listed.getD e.on true = false := by
          simp [bf,hlt2] at hv ⊢;exact hv
         obtain ⟨q,hq,hq1⟩ := (hls e.on).1 hv2;rcases aK.1 hq with hq | hq
         ·subst hq; omega
         ·have := (JP hpw hq).1;omega
      rw [hnil] at this;cases this
   ·obtain ⟨hun,o,ho,jO⟩ := mem_ready.1 hi;obtain ⟨x,hx,Zl⟩ := (hls i).1 hun;subst Zl;obtain ⟨R1,R2,rfl⟩ := List.append_of_mem hx;obtain ⟨h1,h2,h3⟩ := A7 x (by simp);rw [h1] at ho;simp at ho;subst ho;have V7 := bP.1 hpw
    have aiN : ∀ p ∈ R1,jI p.2.2.1 x.2.2.1 = true /\ iZ p.2.2.1 p.2.2.2 x.2.2.1 x.2.2.2 = true := by
     intro p hp;obtain ⟨_,V6⟩ := V7.2.2 p hp x (by simp);rcases V6 with hw | hw
     ·exfalso
      have := Qp.zZ hw x.2.1 h1 fun k hk => by
       obtain ⟨e,he,hb,heq⟩ := xU.1 hk;rw [<- heq]; exact jO e he hb
      have hf := (hls p.1).2 ⟨p,by simp [hp],rfl⟩
      have bL : p.1 < listed.size := by
       rw [qg];exact kL (A7 p (by simp [hp])).1
      simp [bf,bL] at this hf;rw [this] at hf;cases hf
     ·exact hw
    obtain ⟨s1,k1,k2⟩ := LN.LG hC aiN hr;unfold wpOp;rw [h1];refine hT X φ w B base N ops s s1 x.2.1 a x.2.2.1 x.2.2.2 hN h2 k1 hs hg _ _ fun a' w' φ' NP sZ => ?_
    refine ih (R1 ++ R2) _ a' w' φ' _ (by simp at hl ⊢; omega) (fun j => ?_) (by simpa using qg) (fun j oj hj hlj i hi => ?_) (fun p hp => A7 p (by rcases aG.1 hp with h | h <;> simp [h])) ?_ k2 NP (hg.my sZ)
     fun a'' WY nW h'' wu => hQ a'' WY nW h'' (sZ.trans wu)
    ·have hxlt : x.1 < listed.size := by rw [qg]; exact kL h1
     by_cases hj : j = x.1
     ·subst hj;simp only [bf,Array.getElem?_setIfInBounds_self_of_lt hxlt,hF];refine ⟨(fun h => by cases h),fun ⟨p,hp,Zp⟩ => ?_⟩;exfalso;rcases aG.1 hp with h | h
      ·have := (V7.2.2 p h x (by simp)).1; omega
      ·have := (JP V7.2.1 h).1; omega
     ·have mW : x.1 ≠ j := fun e => hj e.symm;rw [bf,iQ mW,<- bf,hls j];constructor
      ·rintro ⟨p,hp,hpj⟩;refine ⟨p,?_,hpj⟩;simp at hp ⊢;rcases hp with h | h | h
       ·exact .inl h
       ·subst h; exact absurd hpj.symm hj
       ·exact .inr h
      ·rintro ⟨p,hp,hpj⟩;refine ⟨p,?_,hpj⟩;simp at hp ⊢;rcases hp with h | h
       ·exact .inl h
       ·exact .inr (.inr h)
    ·have mono : ∀ k,listed.getD k false = true -> (listed.setIfInBounds x.1 true).getD k false = true := by
      intro k hk;by_cases hkx : x.1 = k
      ·subst hkx;have bL : x.1 < listed.size := by rw [qg]; exact kL h1
       simp [bf,bL]
      ·rw [bf,iQ hkx,<- bf]; exact hk
     by_cases hjx : x.1 = j
     ·subst hjx;rw [h1] at hj;cases hj;obtain ⟨e,he,hb,heq⟩ := xU.1 hi;exact mono i (by rw [<- heq]; exact jO e he hb)
     ·refine mono i (Qp j oj hj ?_ i hi);rw [bf,iQ hjx,<- bf] at hlj;exact hlj
    ·refine bP.2 ⟨V7.1,(List.pairwise_cons.1 V7.2.1).2,fun p hp q hq => V7.2.2 p hp q (by simp [hq])⟩

end
end Go.Bm

/- Regions that draw their order, from the machine's own check. -/
namespace Go.Bm
open Go.Am
section
variable {P : Program} {c : eE} {call : Nat -> List AV -> Heap -> Option (AV × Heap)} {T : St -> O -> Fq -> St -> Prop}
def FO : Nat -> List Oper -> List O -> List Fq -> List WR
 | k,o :: r,q :: s,f :: t => (k,o,q,f) :: FO (k + 1) r s t
 | _,_,_,_ => []
theorem rT : ∀ (k : Nat) (os : List Oper) (qs : List O) (fs : List Fq) (j : Nat) (p : WR),(FO k os qs fs)[j]? = some p -> p.1 = k + j /\ os[j]? = some p.2.1 /\ qs[j]? = some p.2.2.1 /\ fs[j]? = some p.2.2.2
 | k,[],qs,fs,j,p,h => by simp [FO] at h
 | k,_ :: _,[],fs,j,p,h => by simp [FO] at h
 | k,_ :: _,_ :: _,[],j,p,h => by simp [FO] at h
 | k,o :: r,q :: s,f :: t,j,p,h => by
   simp only [FO] at h;cases j with
   | zero => simp at h; subst h; exact ⟨rfl,rfl,rfl,rfl⟩
   | succ j =>
     simp at h;obtain ⟨h1,h2,h3,h4⟩ := rT (k + 1) r s t j p h;exact ⟨by omega,by simpa using h2,by simpa using h3,by simpa using h4⟩
theorem B4 : ∀ (k : Nat) (os : List Oper) (qs : List O) (fs : List Fq),os.length = qs.length -> qs.length = fs.length -> (FO k os qs fs).length = os.length
 | k,[],[],[],_,_ => rfl
 | k,o :: r,q :: s,f :: t,h1,h2 => by simp [FO]; exact B4 (k + 1) r s t (by simpa using h1) (by simpa using h2)
 | _,[],_ :: _,_,h,_ => by simp at h
 | _,_ :: _,[],_,h,_ => by simp at h
 | _,[],[],_ :: _,_,h => by simp at h
 | _,_ :: _,_ :: _,[],_,h => by simp at h
def aau (c : eE) (call : Nat -> List AV -> Heap -> Option (AV × Heap)) (T : St -> O -> Fq -> St -> Prop) : Prop := ∀ s q f s',xd q.kd = true -> qH c call s q = some (s',f) -> (mZ f = true -> T s q f s') /\ T s q .all s'
def FY (un : List (Nat × Nat)) : Nat -> List Fq -> List Fq
 | _,[] => []
 | k,f :: r => (if jR k k un then .all else f) :: FY un (k + 1) r
theorem B5 (un : List (Nat × Nat)) : ∀ (k : Nat) (fs : List Fq),(FY un k fs).length = fs.length
 | _,[] => rfl
 | k,f :: r => by simp [FY,B5 un (k + 1) r]
theorem Ni (un : List (Nat × Nat)) : ∀ (k : Nat) (fs : List Fq) (j : Nat),(FY un k fs)[j]? = (fs[j]?).map fun f => if jR (k + j) (k + j) un then .all else f
 | _,[],j => by simp [FY]
 | k,f :: r,j => by
   cases j with
   | zero => simp [FY]
   | succ j => simp only [FY,l9,Ni un (k + 1) r]; rw [show k + 1 + j = k + (j + 1) by omega]
theorem MI (hS : aau c call T) (un : List (Nat × Nat)) : ∀ (k : Nat) (os : List Oper) (qs : List O) (s s' : St) (oR : List Fq),os.length = qs.length -> (∀ q ∈ qs,xd q.kd = true) -> lI c call qs s = some (s',oR) -> G4 un k oR = true -> qs.length = oR.length /\ LN T (FO k os qs (FY un k oR)) s s'
 | k,[],[],s,s',oR,_,_,h,_ => by simp [lI] at h; obtain ⟨rfl,rfl⟩ := h; exact ⟨rfl,rfl⟩
 | k,[],_ :: _,_,_,_,hl,_,_,_ => by simp at hl
 | k,_ :: _,[],_,_,_,hl,_,_,_ => by simp at hl
 | k,o :: r,q :: qs,s,s',oR,hl,hk,h,hn => by
   simp only [lI] at h;split at h
   case h_2 => cases h
   rename_i s1 fl1 h1;split at h
   case h_2 => cases h
   rename_i s2 fl2 h2;simp at h;obtain ⟨rfl,rfl⟩ := h;simp only [G4,ae,fN] at hn;obtain ⟨hn1,hn2⟩ := hn;obtain ⟨h4,h5⟩ := MI hS un (k + 1) r qs _ s2 fl2 (by simpa using hl) (fun q hq => hk q (by simp [hq])) h2 hn2;refine ⟨by simp [h4],s1,?_,h5⟩;have := hS _ _ _ _ (hk q (by simp)) h1;show T s q (if jR k k un then .all else fl1) s1;split
   ·exact this.2
   ·rename_i hp;exact this.1 (hn1.resolve_right hp)
theorem IJ {s s1 : St} {kd : Kd} {v : AV} {f : Fq} (h : fH c call s kd = some (v,s1,f)) (hp : still kd = true) : f = .no := by
 cases kd <;> simp [still] at hp <;> simp only [fH] at h
 all_goals try rw [hp] at h
 all_goals
  (repeat' split at h)
  all_goals first
   | (cases h; done)
   | (rename_i hq; cases hq; done)
   | (simp at h; obtain ⟨rfl,rfl,rfl⟩ := h; rfl)
theorem zR {e : Env} {d : Option Nat} {v : AV} {s s' : St} {f g : Fq} (h : zS e d v s f = some (s',g)) : g = bS e d f := by
 unfold zS at h;split at h
 ·simp at h;exact h.2.symm
 ·cases h
theorem yL {e : Env} {d : Option Nat} : bS e d .no = .no \/ bS e d .no = .bo [] \/ bS e d .no = .sp := by
 unfold bS;split
 ·exact .inl rfl
 ·split
  ·exact .inr (.inr rfl)
  ·split
   ·exact .inl rfl
   ·exact .inr (.inl rfl)
theorem Mh {s s' : St} {q : O} {f : Fq} (h : qH c call s q = some (s',f)) (hp : still q.kd = true) : f = .no \/ f = .bo [] \/ f = .sp := by
 unfold qH at h;split at h
 ·split at h
  ·rename_i v s1 fl ho;rw [IJ ho hp] at h;rw [zR h]; exact yL
  ·cases h
 ·split at h
  ·split at h
   ·split at h
    ·rename_i v s1 fl ho;rw [IJ ho hp] at h;rw [zR h]; exact yL
    ·cases h
   ·rw [zR h]; exact yL
  ·rw [zR h]; exact yL
  ·cases h
theorem xN {un : List (Nat × Nat)} : ∀ {qs : List O} {k : Nat} {s s' : St} {oR : List Fq},lI c call qs s = some (s',oR) -> G4 un k oR = true -> ∀ (j : Nat) (q : O) (f : Fq),qs[j]? = some q -> oR[j]? = some f -> still q.kd = true -> jR (k + j) (k + j) un = false -> f = .no \/ f = .bo []
 | [],_,_,_,_,_,_,j,q,f,hq,_,_,_ => by simp at hq
 | x :: r,k,s,s',oR,h,hn,j,q,f,hq,hf,hp,hb => by
   simp only [lI] at h;split at h
   case h_2 => cases h
   rename_i s1 fl1 h1;split at h
   case h_2 => cases h
   rename_i s2 fl2 h2;simp at h;obtain ⟨rfl,rfl⟩ := h;simp only [G4,ae,fN] at hn;obtain ⟨hn1,hn2⟩ := hn;cases j with
   | zero =>
     simp at hq hf hb;subst hq; subst hf;rw [hb] at hn1;rcases Mh h1 hp with e | e | e
     ·exact .inl e
     ·exact .inr e
     ·subst e; simp [mZ] at hn1
   | succ j => simp at hq hf; exact xN h2 hn2 j q f hq hf hp (by rw [show k + 1 + j = k + (j + 1) by omega]; exact hb)
theorem GH {N : Nat} {ops : Array Oper} : ∀ {l : List Oper} {qs : List O},qo P N ops l qs = true -> l.length = qs.length /\ ∀ (j : Nat) (o : Oper) (q : O),l[j]? = some o -> qs[j]? = some q -> LF P N ops o (Oh q) = true
 | [],[],_ => ⟨rfl,fun j o q h => by simp at h⟩
 | [],_ :: _,h => by simp [qo] at h
 | _ :: _,[],h => by simp [qo] at h
 | o :: r,q :: s,h => by
   simp only [qo,ae] at h;obtain ⟨hl,hm⟩ := GH h.2;refine ⟨by simp [hl],fun j o' q' h1 h2 => ?_⟩;cases j with
   | zero => simp at h1 h2; subst h1; subst h2; exact h.1
   | succ j => simp at h1 h2; exact hm j o' q' h1 h2
theorem vC {un : List (Nat × Nat)} {j : Nat} {ys : List Nat} {q : O} : ∀ {k : Nat} {l : List O},s8 un j ys q k l = true -> ∀ (i : Nat) (x : O),l[i]? = some x -> GG un (k + i) j x ys q = true
 | k,[],_,i,x,h => by simp at h
 | k,z :: r,hc,i,x,h => by
   simp only [s8,ae] at hc;cases i with
   | zero => simp at h; subst h; exact hc.1
   | succ i => simp at h; have := vC hc.2 i x h; rwa [show k + 1 + i = k + (i + 1) by omega] at this
theorem xh {un : List (Nat × Nat)} {ops : Array Oper} : ∀ {ys : List Oper} {qs seen : List O} {zZ : List (List Nat)},mO un zZ seen ys qs = true -> aax ops zZ -> zZ.length = seen.length -> (∀ j,ys[j]? = ops[seen.length + j]?) -> ∀ (j : Nat) (y : Oper) (q : O),ys[j]? = some y -> qs[j]? = some q ->
  (∀ e ∈ y.after,Region.binds .any e = true -> e.on < seen.length + j) /\ ∀ (i : Nat) (x : O),(seen ++ qs)[i]? = some x -> i < seen.length + j -> Anc ops i (seen.length + j) \/ ((jR i i un = false /\ jR (seen.length + j) (seen.length + j) un = false) /\ jI x q = true /\ ((still x.kd = true /\ still q.kd = true) \/ jR i (seen.length + j) un = true))
 | [],_,_,_,_,_,_,_,j,y,q,h,_ => by simp at h
 | _ :: _,[],_,_,_,_,_,_,j,y,q,_,h => by simp at h
 | z :: r,p :: s,seen,zZ,hc,hanc,hal,hys,j,y,q,h1,h2 => by
   simp only [mO,ae] at hc;obtain ⟨⟨⟨_,c1⟩,c2⟩,c3⟩ := hc;have hz : ops[seen.length]? = some z := by simpa using (hys 0).symm
   cases j with
   | zero =>
     simp at h1 h2;subst h1; subst h2;refine ⟨fun e he hb => ?_,fun i x hx hi => ?_⟩
     ·have := List.all_eq_true.1 c1 e.on (xU.2 ⟨e,he,hb,rfl⟩);simpa using this
     ·rw [az (by omega)] at hx;have := vC c2 i x hx;simp only [GG,gE,fN,ae,bH] at this;rcases this with h | h
      ·exact .inl (OH hanc hz i (mem_iff.1 h))
      ·right;exact h
   | succ j =>
     simp at h1 h2
     have aiQ : aax ops (zZ ++ [G1 zZ z]) := by
      intro k l hl i hi;by_cases hk : k < zZ.length
      ·rw [az hk] at hl; exact hanc k l hl i hi
      ·have hk2 := aA hl;simp at hk2;have hke : k = zZ.length := by omega
       subst hke;simp at hl;subst hl;rw [hal];exact OH hanc hz i hi
     obtain ⟨k1,k2⟩ := xh c3 aiQ (by simp [hal]) (fun m => by have := hys (m + 1); simp at this ⊢; rw [this]; congr 1; omega) j y q h1 h2;simp only [bN,cj,fP] at k1 k2;refine ⟨fun e he hb => by have := k1 e he hb; omega,fun i x hx hi => ?_⟩;have := k2 i x (by simpa using hx) (by omega)
     rwa [show seen.length + (0 + 1) + j = seen.length + (j + 1) by omega] at this
theorem tY {un : List (Nat × Nat)} : ∀ {ys : List Oper} {qs seen : List O} {zZ : List (List Nat)},mO un zZ seen ys qs = true -> ys.length = qs.length -> ∀ q ∈ qs,xd q.kd = true
 | [],[],_,_,_,_,q,hq => by simp at hq
 | [],_ :: _,_,_,_,hl,_,_ => by simp at hl
 | _ :: _,[],_,_,_,hl,_,_ => by simp at hl
 | z :: r,p :: s,seen,zZ,hc,hl,q,hq => by
   simp only [mO,ae] at hc;rcases aK.1 hq with e | e
   ·subst e; exact hc.1.1.1
   ·exact tY hc.2 (by simpa using hl) q e
theorem BX {os : List O} {oR : List Fq} : ∀ {un : List (Nat × Nat)},zw os oR un = true -> ∀ i j,i ≠ j -> jR i j un = true -> iZ (os.getD i ⟨none,none,.min []⟩) (oR.getD i .all) (os.getD j ⟨none,none,.min []⟩) (oR.getD j .all) = true
 | [],_,i,j,_,h => by simp [jR] at h
 | p :: r,hk,i,j,mW,h => by
   obtain ⟨x,y⟩ := p;simp only [zw,ae,fN,decide_eq_true_eq] at hk;simp only [jR,fN,ae,decide_eq_true_eq] at h;rcases h with ⟨rfl,rfl⟩ | h
   ·exact hk.1.resolve_left mW
   ·exact BX hk.2 i j mW h
theorem KQ (x y : O) {f g : Fq} (hf : f = .no \/ f = .bo []) (hg : g = .no \/ g = .bo []) : iZ x f y g = true := by
 have d : ∀ d,yc d (.bo []) = true := fun d => by cases d <;> rfl
 have d' : ∀ d,yc d .no = true := fun d => by cases d <;> rfl
 rcases hf with rfl | rfl <;> rcases hg with rfl | rfl <;> simp [iZ,Fq.ok,HR,d,d']
theorem Ab.drew {X : Nat -> Prop} {φ : dy} {w : World} {B : Nat -> Nat} {base : Nat} {s : St} {a : Act} {N : Nat} (h : Ab X φ w B base s a N) : Ab X φ w.drew B base s a N := by
 obtain ⟨N1,Ha,v8,hb⟩ := h.sb;exact ⟨⟨N1,Ha,v8.my (.drew _ _) (v8.heap.of_same (ψ := []) ⟨rfl,rfl,rfl,Nat.le_succ _,aT _,fun g _ h => ⟨rfl,h⟩,.refl _⟩) v8.own (fun _ _ => rfl),hb⟩,h.defers,h.size⟩
theorem ZX (dg : fE P c) (hS : aau c call T) (hT : QX P c T) (hC : OM T) : G7 P c call := by
 intro X φ w B base s s' oR a N id ops os un Q hN hc ho hs hd hr hg hQ;simp only [Ju,ae] at hd;obtain ⟨hn,hd⟩ := hd;obtain ⟨hl,hm⟩ := GH hc;obtain ⟨wx,l8⟩ := MI hS un 0 ops.toList os s s' oR hl (tY ho hl) hs hn;have hlen := B4 0 ops.toList os (FY un 0 oR) hl (by rw [B5]; exact wx);have sZ : fJ φ w φ w.drew := .drew _ _;have hord := xh (ops := ops) ho (fun j l hl => by simp at hl) rfl (fun j => by simp);have uh : Ab X φ w.drew B base s a N := hr.drew
 refine wp_region_any dg.mixed (acU hT hC (X := X) (B := B) (base := base) hN (sf := s') ops.size (FO 0 ops.toList os (FY un 0 oR)) _ a w.drew φ s (by simpa using hlen) (fun i => ?_) (by simp) (fun j o _ hl => by simp [bf,kM] at hl; split at hl <;> simp at hl) (fun p hp => ?_) ?_ l8 uh (hg.my sZ)
  fun a' w' φ' h k => hQ a' w' φ' h (sZ.trans k))
 ·by_cases hi : i < ops.size
  ·simp only [bf,kM,hi,if_true,hF,true_iff];obtain ⟨p,hp⟩ := aZ (l := FO 0 ops.toList os (FY un 0 oR)) (i := i) (by rw [hlen]; simpa using hi);exact ⟨p,bg hp,by have := (rT 0 _ _ _ i p hp).1; omega⟩
  ·simp only [bf,kM,hi,if_false,Option.getD_none];refine ⟨(fun h => by cases h),fun ⟨p,hp,Zq⟩ => ?_⟩;exfalso;obtain ⟨j,hj⟩ := bG hp;have h1 := (rT 0 _ _ _ j p hj).1;have h2 := aA hj;rw [hlen] at h2;simp at h2;omega
 ·obtain ⟨j,hj⟩ := bG hp;obtain ⟨h1,h2,h3,h4⟩ := rT 0 _ _ _ j p hj;have h1' : p.1 = j := by omega
  obtain ⟨k1,_⟩ := hord j p.2.1 p.2.2.1 h2 h3;refine ⟨by rw [h1']; simpa using h2,hm j _ _ h2 h3,fun e he hb => ?_⟩;have := k1 e he hb;simp at this;omega
 ·rw [List.pairwise_iff_getElem];intro i j hi hj CC;obtain ⟨h1,h2,h3,h4⟩ := rT 0 _ _ _ i _ (aB hi);obtain ⟨k1,k2,k3,k4⟩ := rT 0 _ _ _ j _ (aB hj);refine ⟨by omega,?_⟩;obtain ⟨_,aiE⟩ := hord j _ _ k2 k3;have := aiE i _ (by simpa using h3) (by simpa using CC);simp only [fP,gE] at this;rcases this with h | h
  ·left; rw [h1,k1]; simpa using h
  ·right;obtain ⟨⟨zL,r9⟩,A8,h⟩ := h;refine ⟨A8,?_⟩;rw [Ni] at h4 k4;simp only [gE,zL,r9,bn,if_false,Option.map_id'] at h4 k4;rcases h with ⟨h5,h6⟩ | h5
   ·exact KQ _ _ (xN hs hn i _ _ h3 h4 h5 (by simpa using zL)) (xN hs hn j _ _ k3 k4 h6 (by simpa using r9))
   ·have := BX hd i j (by omega) h5;simp only [List.getD_eq_getElem?_getD,h3,k3,h4,k4,hF] at this;exact this
end
end Go.Bm

/- A step up to what can be seen of a state: StepT and SoundT. -/
namespace Go.Bm
open Go.Am
section
variable {P : Program} {c : eE} {call : Nat -> List AV -> Heap -> Option (AV × Heap)}
def dM (s t : St) : Prop := (∀ i,get s.env i = get t.env i) /\ s.H = t.H
theorem dM.rfl' {s : St} : dM s s := ⟨fun _ => rfl,rfl⟩
theorem dM.symm {s t : St} (h : dM s t) : dM t s := ⟨fun i => (h.1 i).symm,h.2.symm⟩
theorem dM.trans {s t u : St} (h : dM s t) (k : dM t u) : dM s u := ⟨fun i => (h.1 i).trans (k.1 i),h.2.trans k.2⟩
theorem Ab.same {X : Nat -> Prop} {φ : dy} {w : World} {B : Nat -> Nat} {base : Nat} {s t : St} {a : Act} {N : Nat} (h : Ab X φ w B base s a N) (e : dM s t) : Ab X φ w B base t a N := by
 obtain ⟨N1,Ha,v8,zL,r9⟩ := h.sb;exact ⟨⟨N1,Ha,v8.ext (fun i => (e.1 i).symm) e.2.symm,zL,by rw [<- e.2]; exact r9⟩,h.defers,h.size⟩
def yz : Fq -> Fq -> Prop
 | _,.all => True
 | .wr sl bs,.wr sl' bs' => (∀ i ∈ sl,i ∈ sl') /\ (match bs,bs' with
   | none,none => True
   | some l,some l' => ∀ b ∈ l,b ∈ l'
   | _,_ => False)
 | f,g => f = g
theorem yz.refl (f : Fq) : yz f f := by
 cases f <;> try exact rfl
 case wr sl bs => cases bs <;> simp [yz]
 case all => trivial
def TS (c : eE) (call : Nat -> List AV -> Heap -> Option (AV × Heap)) (s : St) (q : O) (f : Fq) (s' : St) : Prop :=
 xd q.kd = true /\ ∃ s0 s1 f0,dM s s0 /\ qH c call s0 q = some (s1,f0) /\ yz f0 f /\ dM s1 s'
theorem aeY : aau c call (TS c call) := fun s q f s' hk h => ⟨fun hf => ⟨hk,s,s',f,dM.rfl',h,.refl f,dM.rfl'⟩,⟨hk,s,s',f,dM.rfl',h,by cases f <;> trivial,dM.rfl'⟩⟩
theorem aaH (A7 : JM P c call) : QX P c (TS c call) := by
 intro X φ w B base N ops s s' o a q f hN hc ⟨_,s0,s1,f0,e0,h,_,e1⟩ hr hg K Q hK;have hr0 := hr.same e0
 have hck : cZ P o.op (lS q.kd) = true := by
  have := hc;simp only [LF,Oh,ae] at this;exact this.2
 exact Mf (fun v s2 f hv => A7 X φ w B base s0 o a q.kd v s2 f hck hv hr0.sb hg) hc hN h hr0 fun a' w' φ' uh k' => hK a' w' φ' (uh.same e1) k'
theorem Wm (dg : fE P c) (A7 : JM P c call) (hC : OM (TS c call)) : G7 P c call := ZX dg aeY (aaH A7) hC
end
end Go.Bm
