/- The machine by value: operations, calls, code. -/
import Derived.Test.YteomjfokokneoaaDoorMc
import Derived.Scope
import Derived.Sort.Grow
import Derived.Deep.Draws
/- Operations that write: append, clear, stores. -/
set_option linter.unusedSimpArgs false
set_option linter.unusedVariables false
open Array renaming getD_eq_getD_getElem? → aY, getElem?_append_left → qm, getElem?_append_right → GB, getElem?_eq_some_iff → dx, getElem?_replicate → j9, getElem?_setIfInBounds_ne → hF, replicate → oP
open Bool renaming and_eq_false_iff → Oy, and_eq_true → ab, false_eq_true → aX, not_eq_true' → bt, or_eq_false_iff → fg, or_eq_true → er, true_and → eD
open Go renaming undef → Vn
open List renaming append_assoc → du, append_nil → iv, drop_eq_nil_of_le → Of, eq_nil_of_length_eq_zero → eI, ext_getElem? → cY, getElem?_append_left → av, getElem?_append_right → aQ, getElem?_cons_succ → jb, getElem?_drop → aV, getElem?_eq_getElem → aI, getElem?_eq_none → c9, getElem?_map → df, getElem?_of_mem → bD, getElem?_replicate → fW, getElem?_set → bj, getElem?_take → bF, isEmpty_iff → eY, length_append → bu, length_cons → c8, length_nil → dP, length_set → k8, length_take → bg, mem_append → aD, mem_cons → aJ, mem_of_getElem? → bf, mem_of_mem_drop → cI, mem_of_mem_take → cH, mem_or_eq_of_mem_set → Je, pairwise_append → ep, rel_of_pairwise_cons → Jd, replicate → cK, take_append_drop → Ox, take_zero → kn
open Nat renaming add_mul → bV, le_refl → aS, lt_of_lt_of_le → gQ, mul_le_mul_right → bG, zero_add → fD, zero_le → Tw, zero_mul → qE
open Option renaming bind_some → Vk, getD_some → jJ, isSome_iff_exists → aW, map_some → cJ
open Option.some renaming inj → dm, injEq → aj
open Prod.mk renaming injEq → aF
namespace Go.Bm
open Go.Am
section
variable {P : Program} {X : Nat -> Prop} {φ φ' : de} {w w' : World} {N N' : Names} {s s1 : St} {Ha Ha' : Heap} {t : Nat -> Value} {B : Nat -> Nat} {base : Nat} {v va : AV} {v' : Value} {c : dN} {o : Oper} {a : Act} {kd : Kd}
theorem tg {l : List AV} (h : ∀ x ∈ l,x.leaf = true) : bm l = true := by
 induction l with
 | nil => rfl
 | cons y r ih => simp only [bm,ab]; exact ⟨h y (by simp),ih fun x hx => h x (by simp [hx])⟩
theorem vi {l : List AV} (h : bm l = true) : ∀ x ∈ l,x.leaf = true := by
 induction l with
 | nil => intro x hx; simp at hx
 | cons y r ih =>
   intro x hx;simp only [bm,ab] at h;rcases aJ.1 hx with e | e
   ·subst e; exact h.1
   ·exact ih h.2 x e
theorem vX {k : Nat} {xs : List AV} (h : ∀ x ∈ xs,x.cells.length = k) (n : Nat) : aE (xs.take n) = (aE xs).take (n * k) := by
 induction xs generalizing n with
 | nil => simp [aE]
 | cons x r ih =>
   cases n with
   | zero => simp [aE]
   | succ n =>
     have hx := h x (by simp);simp only [List.take_succ_cons,aE,ih (fun y hy => h y (by simp [hy])) n];rw [List.take_append,hx,bV,Nat.one_mul,List.take_of_length_le (by omega : x.cells.length <= n * k + k),Nat.add_sub_cancel]
theorem IP {k : Nat} {xs : List AV} (h : ∀ x ∈ xs,x.cells.length = k) (n : Nat) : aE (xs.drop n) = (aE xs).drop (n * k) := by
 induction xs generalizing n with
 | nil => simp [aE]
 | cons x r ih =>
   cases n with
   | zero => simp
   | succ n =>
     have hx := h x (by simp);simp only [List.drop_succ_cons,aE,ih (fun y hy => h y (by simp [hy])) n];rw [List.drop_append,hx,bV,Nat.one_mul,Of (by omega : x.cells.length <= n * k + k),List.nil_append,Nat.add_sub_cancel]
theorem jx {k : Nat} {xs : List AV} (h : ∀ x ∈ xs,x.cells.length = k) : (aE xs).length = xs.length * k := (gW h).1
theorem C7 (h : eW X φ w N s Ha (tm a)) (hg : Am.dL (gZ c) X φ w) {k : Nat} {x : E} {o' : Operand} (ho : cN o' (kV x) = true) {ys : List AV} (hc : cont s k (bn c s.env x) = some ys) (vR : bm (aE ys) = true) :
  ∃ news,iC Ha k (Am.ev (gZ c) (x8 N s.env) (kV x)) = some (news,ys.length) /\ news.length = ys.length * k /\ (∀ y ∈ ys,y.cells.length = k) /\ bm news = true /\
   ∀ (i : Nat) (d : AV),(aE ys)[i]? = some d -> fz d = true /\ ∃ e,news[i]? = some e /\ e.leaf = true /\ Le d e := by
 have hx := cn (c := c) (cA := gZ c) h rfl ho;have cO := hx.ok;have r := bM (c := gZ c) (env := x8 N s.env) (a := a) (fun i => by rw [kT]; exact h.env i) hg ho;rw [hx.ev] at r ⊢;cases e : bn c s.env x <;> rw [e] at hc cO r <;> try (simp [cont] at hc; done)
 ·rename_i k' xs;simp only [cont] at hc;split at hc
  case isFalse => cases hc
  rename_i sx;subst sx;simp at hc;subst hc;simp only [fZ,ct,iC,if_true] at r ⊢
  have kz : (∀ y ∈ xs,y.cells.length = k') /\ ∀ y ∈ xs,∀ d ∈ y.cells,pl d = true := by
   generalize a.eval o' = z at r;cases r with
   | tS _ _ _ ad n cap u hn iZ hk hu h =>
     refine ⟨hk,fun y hy d hd => ?_⟩;obtain ⟨i,hi⟩ := bD hy;obtain ⟨j,hj⟩ := bD hd;exact V9 (h i j y d hi hj) rfl
   | jM => exact ⟨fun y hy => by simp at hy,fun y hy => by simp at hy⟩
  refine ⟨aE xs,rfl,jx kz.1,kz.1,vR,fun i d hd => ?_⟩;obtain ⟨i',y,j,h1,h2,_⟩ := (gW kz.1).2 i d hd;have hdl := vi vR d (bf hd);refine ⟨?_,d,hd,hdl,Le.refl _⟩;unfold fz;rw [hdl,kz.2 y (bf h1) d (bf h2)];rfl
 ·rename_i k' xs;have := hx.eo k' xs e;subst this;simp [cont] at hc;subst hc;exact ⟨[],by simp [fZ,iC],by simp,fun y hy => by simp at hy,rfl,fun i d hd => by simp [aE] at hd⟩
 ·rename_i k' p off len;simp only [cont] at hc;split at hc
  case h_2 => cases hc
  rename_i vO xs hp;split at hc
  case isFalse => cases hc
  rename_i hcc;obtain ⟨rfl,rfl,hle⟩ := hcc;simp at hc;subst hc;have fA := h.own p vO xs hp;simp only [fZ];rcases qC h cO with ⟨n,hn,e2⟩ | ⟨hn,h0,h1,e2⟩
  ·rw [e2];rw [hn] at fA;obtain ⟨cs,c1,c2,c3,c4⟩ := fA
   have hb : off * vO + len * vO <= cs.length := by
    have : (off + len) * vO <= xs.length * vO := bG vO hle;rw [bV] at this;omega
   have hys : ∀ y ∈ (xs.drop off).take len,y.cells.length = vO := fun y hy => c3 y (cI (cH hy));have hl : ((xs.drop off).take len).length = len := by simp; omega
   have idx : ∀ (i : Nat) (d : AV),(aE ((xs.drop off).take len))[i]? = some d -> fz d = true /\ ∃ e,((cs.drop (off * vO)).take (len * vO))[i]? = some e /\ e.leaf = true /\ Le d e := by
    intro i d hd;rw [vX (fun y hy => c3 y (cI hy)),IP c3,bF] at hd;split at hd
    case isFalse => cases hd
    rename_i hi;rw [aV] at hd;obtain ⟨f1,e,f2,f3,f4⟩ := c4 _ d hd;exact ⟨f1,e,by rw [bF,if_pos hi,aV]; exact f2,f3,f4⟩
   refine ⟨(cs.drop (off * vO)).take (len * vO),by simp only [iC,c1,hl]; rw [if_pos ⟨trivial,hb⟩],by rw [hl]; simp; omega,hys,tg fun x hx => ?_,idx⟩;obtain ⟨i,hi⟩ := bD hx;have bA := aB hi;have : i < (aE ((xs.drop off).take len)).length := by rw [jx hys,hl]; simp at bA; omega
   obtain ⟨d,hd⟩ := bc this;obtain ⟨_,e,g2,g3,_⟩ := idx i d hd;rw [hi] at g2;cases g2;exact g3
  ·rw [e2];subst h1;exact ⟨[],by simp [iC],by simp,fun y hy => by simp at hy,rfl,fun i d hd => by simp [aE] at hd⟩
theorem aak (hm : P.follows .mixedOrders = true) (h : SB X φ w B base s (tm a)) (hg : Am.dL (gZ c) X φ w) {k k' : Nat} {x y : E} (hk : cG P o.op (kU (.app k x y)) = true) (Bb : bn c s.env x = .own k' []) {ys : List AV} (hy : cont s k (bn c s.env y) = some ys) (vR : bm (aE ys) = true) (hl : ys.length <= lz) :
  kY P X φ w B base s (.own k ys) o a := by
 obtain ⟨N,Ha,h,hb⟩ := h;obtain ⟨⟨o1,h1⟩,o2,h2⟩ := Tg hk;have hx := cn (c := c) (cA := gZ c) h rfl h1;obtain ⟨news,n1,n2,n3,n4,n5⟩ := C7 h hg h2 hy vR;by_cases h0 : ys.length = 0
 ·have : ys = [] := eI h0;subst this;refine kY.of (lx (va := .dc) (Ha' := Ha) hm h hg hk (by simp only [kU,fG,n1,hx.ev,Bb,fZ,dP,if_true]; rfl)) fun v' w' φ' r hh ad => ?_;exact dV.quiet (h.m6 ad hh h.own (fun _ _ => rfl)) hb trivial (by simp [EO]) r
 ·refine kY.of (lx (va := .sl k Ha.length 0 ys.length) (Ha' := Ha ++ [some news]) hm h hg hk (by simp only [kU,fG,n1,hx.ev,Bb,fZ,if_neg h0,if_pos (⟨hl,n4⟩ : ys.length <= lz /\ bm news = true)]; rfl)) fun v' w' φ' r hh ad => ?_;exact zS h hb ad hh (by omega) n3 n5 r
theorem aaj (hm : P.follows .mixedOrders = true) (h : SB X φ w B base s (tm a)) (hg : Am.dL (gZ c) X φ w) {k len : Nat} {x y : E} (hk : cG P o.op (kU (.app k x y)) = true) {p : Rt} {xs : List AV} (Bb : bn c s.env x = .dp k p 0 len) (hp : aC s p = some (k,xs)) (hle : len <= xs.length) {ys : List AV} (hy : cont s k (bn c s.env y) = some ys) (vR : bm (aE ys) = true) (hl : len + ys.length <= lz) :
  kY P X φ w B base (setAt (bW (sw p) s) p .any) (.own k (xs.take len ++ ys)) o a := by
 obtain ⟨N,Ha,h,hb⟩ := h;obtain ⟨⟨o1,h1⟩,o2,h2⟩ := Tg hk;have hx := cn (c := c) (cA := gZ c) h rfl h1;have cO := hx.ok;rw [Bb] at cO;obtain ⟨news,n1,n2,n3,n4,n5⟩ := C7 h hg h2 hy vR;obtain ⟨d1,d2,d3⟩ := h.drop hp;have zP : (∀ b,b < base -> N.β b = B b) /\ base <= (setAt (bW (sw p) s) p .any).H.length := ⟨hb.1,by rw [d3.len]; exact hb.2⟩;have fA := h.own p k xs hp;rcases qC h cO with ⟨n,hn,e2⟩ | ⟨hn,_,Nf,e2⟩
 ·rw [hn] at fA;obtain ⟨cs,c1,c2,c3,c4⟩ := fA;have hlk : len * k <= cs.length := Nat.le_trans (bG k hle) c2;have hnlt := dZ c1;refine kY.of (lx (va := .sl k Ha.length 0 (len + ys.length)) (Ha' := Ha.set n none ++ [some (cs.take (len * k) ++ news)]) hm h hg hk (by simp only [kU,fG,n1,hx.ev,Bb,fZ,e2,qE,c1,if_pos (⟨trivial,hlk,hl,n4⟩ : True /\ len * k <= cs.length /\ len + ys.length <= lz /\ bm news = true)]; rfl)) fun v' w' φ' r hh ad => ?_;have XO : ∀ m,m ≠ n -> aH (Ha.set n none) m = aH Ha m := fun m C2 => by unfold aH; rw [List.getElem?_set_ne (Ne.symm C2)]
  have jN : ∀ m,m ≠ n -> m < Ha.length -> aH (Ha.set n none ++ [some (cs.take (len * k) ++ news)]) m = aH Ha m := fun m C2 bA => by
   rw [jy,if_neg (by simp; omega),XO m C2]
  have gE : eW X φ' w' N (setAt (bW (sw p) s) p .any) (Ha.set n none ++ [some (cs.take (len * k) ++ news)]) (tm a) := by
   refine d1.m6 ad hh (fun q k' zs e => ?_) (fun b GY => ?_)
   ·have e' := e;rw [d2] at e';split at e'
    ·cases e'
    rename_i nq;refine (d1.own q k' zs e).same fun m hmq => jN m ?_ ?_
    ·rintro rfl;exact nq (h.inj q p m (by rw [e']; rfl) (by rw [hp]; rfl) hmq hn)
    ·exact h.gU (by rw [e']; rfl) hmq
   ·have JZ : (aH s.H b).isSome := by
     cases e : aH s.H b with
     | none => rw [d3.Cp b e] at GY; cases GY
     | some _ => rfl
    refine jN _ ?_ (h.qB JZ);intro e;exact h.bx b p JZ (by rw [hp]; rfl) (by rw [hn,e])
  have Ng : (xs.take len ++ ys).length = len + ys.length := by simp; omega
  have htk : ∀ z ∈ xs.take len,z.cells.length = k := fun z hz => c3 z (cH hz);refine dV.fresh gE zP (n := Ha.length) ⟨cs.take (len * k) ++ news,by rw [jy,if_pos (by simp)],?_,?_,?_⟩ (fun q hq e => ?_) (fun b GY e => ?_) (by rw [Ng]; exact r)
  ·rw [Ng,bV,bu,bg,n2]; omega
  ·intro z hz;rcases aD.1 hz with hz | hz
   ·exact htk z hz
   ·exact n3 z hz
  ·intro i d hd;rw [jF,vX c3] at hd
   have hlt1 : ((aE xs).take (len * k)).length = len * k := by
    have := jx c3;have : len * k <= xs.length * k := bG k hle;rw [bg]; omega
   rw [List.getElem?_append] at hd;rw [hlt1] at hd;split at hd
   ·rename_i hi;rw [bF,if_pos hi] at hd;obtain ⟨f1,e,f2,f3,f4⟩ := c4 i d hd;exact ⟨f1,e,by rw [av (by simp; omega),bF,if_pos hi]; exact f2,f3,f4⟩
   ·rename_i hi;obtain ⟨f1,e,f2,f3,f4⟩ := n5 _ d hd;refine ⟨f1,e,?_,f3,f4⟩;rw [aQ (by simp; omega)];rw [bg,Nat.min_eq_left hlk];exact f2
  ·have hq' : (aC s q).isSome := by
    rw [d2] at hq;split at hq
    ·cases hq
    ·exact hq
   have := h.gU hq' e;omega
  ·have JZ : (aH s.H b).isSome := by
    cases e : aH s.H b with
    | none => rw [d3.Cp b e] at GY; cases GY
    | some _ => rfl
   have := h.qB JZ;omega
 ·rw [hn] at fA;have hxs : xs = [] := fA;subst hxs;subst Nf
  have simq : ∀ {φ' w' Ha'},fB φ w φ' w' -> b6 X φ' w' Ha' -> (∀ m,m < Ha.length -> aH Ha' m = aH Ha m) -> eW X φ' w' N (setAt (bW (sw p) s) p .any) Ha' (tm a) := by
   intro φ' w' Ha' ad hh jN;refine d1.m6 ad hh (fun q k' zs e => ?_) (fun b GY => ?_)
   ·exact (d1.own q k' zs e).same fun m hmq => jN m (d1.gU (by rw [e]; rfl) hmq)
   ·exact jN _ (d1.qB GY)
  by_cases h0 : ys.length = 0
  ·have : ys = [] := eI h0;subst this;refine kY.of (lx (va := .dc) (Ha' := Ha) hm h hg hk (by simp only [kU,fG,n1,hx.ev,Bb,fZ,e2,dP,if_true]; rfl)) fun v' w' φ' r hh ad => ?_;exact dV.quiet (simq ad hh fun _ _ => rfl) zP trivial (by simp [EO]) r
  ·have UL : ys.length <= lz := by omega
   refine kY.of (lx (va := .sl k Ha.length 0 ys.length) (Ha' := Ha ++ [some news]) hm h hg hk (by simp only [kU,fG,n1,hx.ev,Bb,fZ,e2,if_neg h0,if_pos (⟨UL,n4⟩ : ys.length <= lz /\ bm news = true)]; rfl)) fun v' w' φ' r hh ad => ?_;have gE := simq ad hh fun m bA => by rw [jy,if_neg (by omega)]
   refine dV.fresh gE zP (n := Ha.length) ⟨news,Ge _ _,by simp; omega,by simpa using n3,by simpa using n5⟩ (fun q hq e => ?_) (fun b GY e => ?_) (by simpa using r)
   ·have := d1.gU hq e; omega
   ·have := d1.qB GY; omega
end
end Go.Bm

/- Stores and clearing. -/
namespace Go.Bm
open Go.Am
mutual
theorem Sc {o o' : Rt -> Option (Nat × List AV)} {nb : Nat} (ho : ∀ p k xs,o p = some (k,xs) -> ∃ ys,o' p = some (k,ys) /\ xs.length <= ys.length) : ∀ x,cr o nb x -> cr o' nb x
 | .dp k p off len,h => by simp only [cr] at h ⊢; obtain ⟨xs,e,h2⟩ := h; obtain ⟨ys,e2,h3⟩ := ho p k xs e; exact ⟨ys,e2,by omega⟩
 | .eK k p i off,h => by simp only [cr] at h ⊢; obtain ⟨xs,e,h2⟩ := h; obtain ⟨ys,e2,h3⟩ := ho p k xs e; exact ⟨ys,e2,by omega⟩
 | .ptr b off,h => h
 | .agg cs,h => by simp only [cr] at h ⊢; exact zv ho cs h
 | .dW cs,h => by simp only [cr] at h ⊢; exact zv ho cs h
 | .func f a b,h => by simp only [cr] at h ⊢; exact ⟨zv ho a h.1,zv ho b h.2⟩
 | .any,_ => trivial
 | .undef,_ => trivial
 | .fi,_ => trivial
 | .eV,_ => trivial
 | .dc,_ => trivial
 | .int _ _,_ => trivial
 | .bool _,_ => trivial
 | .str _,_ => trivial
 | .list _ _,_ => trivial
 | .cX _,_ => trivial
 | .own _ _,_ => trivial
 | .sl _ _ _ _,h => h
theorem zv {o o' : Rt -> Option (Nat × List AV)} {nb : Nat} (ho : ∀ p k xs,o p = some (k,xs) -> ∃ ys,o' p = some (k,ys) /\ xs.length <= ys.length) : ∀ cs,jK o nb cs -> jK o' nb cs
 | [],_ => trivial
 | x :: r,h => ⟨Sc ho x h.1,zv ho r h.2⟩
end
theorem j7 {l vs : List AV} {off : Nat} (h : off + vs.length <= l.length) (m : Nat) : (jf l off vs)[m]? = if m < off then l[m]? else if m < off + vs.length then vs[m - off]? else l[m]? := by
 unfold jf;have h1 : (l.take off).length = off := by simp; omega
 by_cases a : m < off
 ·rw [if_pos a,du,av (by omega),bF,if_pos a]
 ·rw [if_neg a];by_cases b : m < off + vs.length
  ·rw [if_pos b,du,aQ (by omega),h1,av (by omega)]
  ·rw [if_neg b,aQ (by simp; omega),aV];congr 1;simp; omega
section
variable {P : Program} {X : Nat -> Prop} {φ φ' : de} {w w' : World} {N N' : Names} {s s1 : St} {Ha Ha' : Heap} {t : Nat -> Value} {B : Nat -> Nat} {base : Nat} {v va : AV} {v' : Value} {c : dN} {o : Oper} {a : Act} {kd : Kd}
theorem Zw {p : Rt} {k : Nat} {xs xs' : List AV} (hp : aC s p = some (k,xs)) (hl : xs'.length = xs.length) (i : Nat) : jS N i (get (setAt s p (.own k xs')).env i) = jS N i (get s.env i) := by
 have ua := bY.1 hp;cases p with
 | s j =>
   simp only [at_,aj] at ua;simp only [setAt,br];by_cases e : i = j
   ·subst e; rw [if_pos rfl,ua]; simp only [jS,je,hl]
   ·rw [if_neg e]
 | sc j l =>
   simp only [at_] at ua;cases hg : get s.env j <;> rw [hg] at ua <;> simp at ua
   rename_i ds;have hs : setAt s (.sc j l) (.own k xs') = ⟨put s.env j (.agg (ds.set l (.own k xs'))),s.H⟩ := by simp [setAt,hg]
   rw [hs];simp only [br];by_cases e : i = j
   ·subst e;rw [if_pos rfl,hg];simp only [jS];congr 1;apply cY;intro m;rw [fH,fH,bj];by_cases hm : l = m
    ·subst hm;rw [if_pos rfl,if_pos (aB ua),ua];simp only [cJ,je,hl]
    ·rw [if_neg hm]
   ·rw [if_neg e]
 | c b l =>
   simp only [at_] at ua;cases hg : aH s.H b <;> rw [hg] at ua <;> simp at ua
   simp [setAt,hg]
theorem eW.upd (h : eW X φ w N s Ha t) {p : Rt} {k n : Nat} {xs xs' : List AV} (hp : aC s p = some (k,xs)) (hn : N.ν p = some n) (hl : xs'.length = xs.length) (ad : fB φ w φ' w') (hh : b6 X φ' w' Ha') (ho : pX Ha' (some n) k xs') (hb : ∀ m,m ≠ n -> aH Ha' m = aH Ha m) :
  eW X φ' w' N (setAt s p (.own k xs')) Ha' t /\ Shape s (setAt s p (.own k xs')) := by
 have ua := bY.1 hp;have nr : Fits s p (.own k xs') := ⟨(fun cs e => by cases e),_,ua,(fun cs e => by cases e)⟩;have jo := Shape.set nr;generalize Zh : setAt s p (.own k xs') = s' at jo ⊢
 have own : ∀ q,aC s' q = if q = p then some (k,xs') else aC s q := by
  refine vG jo (fun q hq => ?_) (fun q hq => ?_)
  ·have e : at_ s' q = if q = p then some (.own k xs') else at_ s q := by rw [<- Zh]; exact Bt nr hq
   by_cases nq : q = p
   ·rw [if_pos nq] at e ⊢; exact bY.2 e
   ·rw [if_neg nq] at e ⊢; exact iy e
  ·rw [if_neg (by rintro rfl; exact hq (EP (by rw [hp]; rfl)))];exact rL hq
 have hlen : ∀ q k' ys,aC s q = some (k',ys) -> ∃ zs,aC s' q = some (k',zs) /\ ys.length <= zs.length := by
  intro q k' ys e;rw [own];by_cases nq : q = p
  ·subst nq;rw [hp] at e;cases e;exact ⟨xs',by rw [if_pos rfl],by omega⟩
  ·exact ⟨ys,by rw [if_neg nq]; exact e,aS _⟩
 have oiff : ∀ {q},(aC s' q).isSome -> (aC s q).isSome := by
  intro q hq;rw [own] at hq;by_cases nq : q = p
  ·subst nq; rw [hp]; rfl
  ·rw [if_neg nq] at hq; exact hq
 have biff : ∀ {b},(aH s'.H b).isSome -> (aH s.H b).isSome := by
  intro b hb;cases e : aH s.H b with
  | none => rw [jo.Cp b e] at hb; cases hb
  | some _ => rfl
 have okk : ∀ r y,Lf s' r -> at_ s' r = some y -> cr (aC s') s'.H.length y := by
  intro r y hr hy;obtain ⟨wU,x,hx⟩ := jo.back hr hy;have e : at_ s' r = if r = p then some (.own k xs') else at_ s r := by rw [<- Zh]; exact Bt nr wU
  rw [e] at hy;by_cases Cw : r = p
  ·rw [if_pos Cw] at hy; cases hy; trivial
  ·rw [if_neg Cw] at hy;rw [jo.len];exact Sc hlen y (h.zu hy)
 obtain ⟨hk,Zk⟩ := EV okk;refine ⟨⟨fun i => ?_,hk,hh,fun q k' ys e => ?_,fun b cs e => ?_,fun q r m e1 e2 e3 e4 => h.inj q r m (oiff e1) (oiff e2) e3 e4,fun b q e1 e2 e3 => h.bx b q (biff e1) (oiff e2) e3,fun b d e1 e2 e3 => h.bi b d (biff e1) (biff e2) e3⟩,jo⟩
 ·rw [<- Zh,Zw hp hl]; exact ad.rep (h.env i)
 ·rw [own] at e;by_cases nq : q = p
  ·subst nq;rw [if_pos rfl] at e;cases e;rw [hn];exact ho
  ·rw [if_neg nq] at e;refine (h.own q k' ys e).same fun m hm => hb m ?_;rintro rfl;exact nq (h.inj q p m (by rw [e]; rfl) (by rw [hp]; rfl) hm hn)
 ·cases JZ : aH s.H b with
  | none => rw [jo.Cp b JZ] at e; cases e
  | some S9 =>
    obtain ⟨ds,q1,q2⟩ := jo.box b S9 JZ;rw [e] at q1; cases q1;obtain ⟨as,g1,g2,g3⟩ := h.box b S9 JZ;refine ⟨as,?_,by omega,fun j d hd => ⟨Zk b cs e j d hd,?_⟩⟩
    ·rw [hb]
     ·exact g1
     ·intro e3; exact h.bx b p (by rw [JZ]; rfl) (by rw [hp]; rfl) (by rw [hn,e3])
    ·obtain ⟨d0,hd0⟩ := bc (l := S9) (i := j) (by have := aB hd; omega);obtain ⟨_,a',a1,a2⟩ := g3 j d0 hd0;refine ⟨a',a1,?_⟩;have e3 : at_ s' (.c b j) = if Rt.c b j = p then some (.own k xs') else at_ s (.c b j) := by rw [<- Zh]; exact Bt nr (fun i e => by cases e)
     rw [vd e,vd JZ,hd,hd0] at e3;by_cases Cw : Rt.c b j = p
     ·rw [if_pos Cw] at e3;cases e3
      have hat' : d0 = .own k xs := by
       rw [<- Cw,vd JZ,hd0] at ua;exact dm ua
      subst hat';simp only [je,hl] at a2 ⊢;exact a2
     ·rw [if_neg Cw] at e3;cases e3;exact a2
theorem OB {k off : Nat} {x : AV} {vs : List AV} (hx : x.cells.length = k) (hf : off + vs.length <= k) : (Kz k x off vs).cells = jf x.cells off vs := by
 unfold Kz;split
 ·rename_i h;rw [rU];obtain ⟨rfl,hl⟩ := h;unfold jf;rw [Of (by omega)];simp
 ·rw [rU]
theorem Qu : ∀ {cs : List AV},UU cs = true -> gD N cs = cs
 | [],_ => rfl
 | x :: r,h => by
   simp only [UU,ab] at h;simp only [gD];rw [Qu h.2];have := (lu h.1).1;congr 1;cases x <;> first | exact kG N _ this | (simp [pl] at this; done)
theorem ada (hm : P.follows .mixedOrders = true) (h : SB X φ w B base s (tm a)) (hg : Am.dL (gZ c) X φ w) {k k' i off : Nat} {x y : E} {p : Rt} {xs : List AV} {u : AV} (hk : cG P o.op (kU (.st k x y)) = true) (Bb : bn c s.env x = .eK k' p i off) (hp : aC s p = some (k',xs)) (hu : xs[i]? = some u)
  (h1 : (bn c s.env y).cells.length = k) (h2 : off + k <= k') (h3 : UU (bn c s.env y).cells = true) : kY P X φ w B base (setAt s p (.own k' (xs.set i (Kz k' u off (bn c s.env y).cells)))) .undef o a := by
 obtain ⟨N,Ha,h,hb⟩ := h;obtain ⟨⟨o1,c1⟩,o2,c2⟩ := ad3 hk;have hx := cn (c := c) (cA := gZ c) h rfl c1;have hy := cn (c := c) (cA := gZ c) h rfl c2;have cO := hx.ok;rw [Bb] at cO;obtain ⟨n,hn,e2⟩ := EK h cO;have fA := h.own p k' xs hp;rw [hn] at fA;obtain ⟨cs,q1,q2,q3,q4⟩ := fA;generalize Ko : (bn c s.env y).cells = vs at h1 h3 ⊢;have kz : (Am.ev (gZ c) (x8 N s.env) (kV y)).cells = vs := by rw [hy.ev,F7 N hy.na,Ko,Qu h3]
 have vR : bm vs = true := tg fun z hz => (lu (mZ h3 z hz)).2;have huk : u.cells.length = k' := q3 u (bf hu);have hilt := aB hu;have vS : (i + 1) * k' <= xs.length * k' := bG k' hilt;rw [bV] at vS;have nr : i * k' + off + k <= cs.length := by omega
 refine kY.of (lx (va := .undef) (Ha' := Ha.set n (some (jf cs (i * k' + off) vs))) hm h hg hk (by simp only [kU,fG,hx.ev,Bb,fZ,e2,q1,kz,if_pos (⟨h1,nr,vR⟩ : vs.length = k /\ i * k' + off + k <= cs.length /\ bm vs = true)]; rfl)) fun v' w' φ' r hh ad => ?_;have PK := OB (k := k') (off := off) (vs := vs) huk (by omega)
 have XV : pX (Ha.set n (some (jf cs (i * k' + off) vs))) (some n) k' (xs.set i (Kz k' u off vs)) := by
  refine ⟨jf cs (i * k' + off) vs,by rw [dF,if_pos ⟨rfl,dZ q1⟩],?_,?_,?_⟩
  ·rw [k8,fL (by omega)]; exact q2
  ·intro z hz;rcases Je hz with hz | rfl
   ·exact q3 z hz
   ·rw [PK,fL (by omega),huk]
  ·have acn : ∀ z ∈ xs.set i (Kz k' u off vs),z.cells.length = k' := by
    intro z hz;rcases Je hz with hz | rfl
    ·exact q3 z hz
    ·rw [PK,fL (by omega),huk]
   intro m d hd;obtain ⟨i',z,j,z1,z2,z3⟩ := (gW acn).2 m d hd;have hj : j < k' := by rw [<- acn z (bf z1)]; exact aB z2
   rw [bj] at z1;by_cases hii : i = i'
   ·subst hii;rw [if_pos rfl,if_pos hilt] at z1;cases z1;rw [PK,j7 (by omega)] at z2
    have Ic : u.cells[j]? = some d -> j < off \/ ¬ j < off + vs.length -> fz d = true /\ ∃ e,(jf cs (i * k' + off) vs)[m]? = some e /\ e.leaf = true /\ Le d e := by
     intro e hc;obtain ⟨f1,e',f2,f3,f4⟩ := q4 _ d (zT q3 hu e);refine ⟨f1,e',?_,f3,f4⟩;rw [z3,j7 (by omega)];rcases hc with hc | hc
     ·rw [if_pos (by omega)]; exact f2
     ·rw [if_neg (by omega),if_neg (by omega)]; exact f2
    split at z2
    ·rename_i hc; exact Ic z2 (.inl hc)
    ·split at z2
     ·rename_i SV Kr;have hz := mZ h3 d (bf z2);refine ⟨hz,d,?_,(lu hz).2,Le.refl _⟩;rw [z3,j7 (by omega),if_neg (by omega),if_pos (by omega),show i * k' + j - (i * k' + off) = j - off by omega];exact z2
     ·rename_i SV Kr; exact Ic z2 (.inr Kr)
   ·rw [if_neg hii] at z1;obtain ⟨f1,e',f2,f3,f4⟩ := q4 _ d (zT q3 z1 z2);refine ⟨f1,e',?_,f3,f4⟩;rw [z3,j7 (by omega)];rcases Nat.lt_or_gt_of_ne hii with bA | hgt
    ·have : (i + 1) * k' <= i' * k' := bG k' bA;rw [bV] at this;rw [if_neg (by omega),if_neg (by omega)];exact f2
    ·have : (i' + 1) * k' <= i * k' := bG k' hgt;rw [bV] at this;rw [if_pos (by omega)];exact f2
 obtain ⟨gE,jo⟩ := h.upd (xs' := xs.set i (Kz k' u off vs)) hp hn (by simp) ad hh XV (fun m C2 => by rw [dF,if_neg (fun e => C2 e.1)]);exact dV.quiet gE ⟨hb.1,by rw [jo.len]; exact hb.2⟩ trivial trivial r
end
end Go.Bm

/- Stores into boxes. -/
namespace Go.Bm
open Go.Am
section
variable {P : Program} {X : Nat -> Prop} {φ φ' : de} {w w' : World} {N N' : Names} {s s' s1 : St} {Ha Ha' : Heap} {t t' : Nat -> Value} {B : Nat -> Nat} {base : Nat} {v va : AV} {v' : Value} {c : dN} {o : Oper} {a : Act} {kd : Kd}
theorem rN (i b off : Nat) : ∀ k p x l,jm i b off (.dp k p x l) = .dp k (iQ i b off p) x l /\ jm i b off (.eK k p x l) = .eK k (iQ i b off p) x l := fun _ _ _ _ => ⟨rfl,rfl⟩
theorem vu (N : Names) (i : Nat) (v : AV) : (jS N i v).cells.length = v.cells.length /\ ∀ (j : Nat) (d : AV),v.cells[j]? = some d -> (jS N i v).cells[j]? = some (je N (match v with
  | .agg _ => .sc i j
  | _ => .s i) d) := by
 by_cases ha : ∃ cs,v = .agg cs
 ·obtain ⟨cs,rfl⟩ := ha;simp only [jS,AV.cells];exact ⟨gR _ _ _ _,fun j d hd => by rw [fH,hd]; simp⟩
 ·have hn : jr v := fun cs e => ha ⟨cs,e⟩;have e1 : jS N i v = je N (.s i) v := by cases v <;> first | rfl | exact absurd rfl (hn _)
  have e2 : v.cells = [v] := by cases v <;> first | rfl | exact absurd rfl (hn _)
  have e3 : (je N (.s i) v).cells = [je N (.s i) v] := by
   cases v <;> first
    | rfl
    | exact absurd rfl (hn _)
    | (rename_i k xs; simp only [je,rK]; cases N.ν (.s i) <;> rfl)
    | (rename_i k p x l; simp only [je,ct]; cases N.ν p <;> rfl)
  rw [e1,e2,e3];refine ⟨rfl,fun j d hd => ?_⟩;cases j with
  | zero =>
    simp at hd;subst hd;cases v <;> first | rfl | exact absurd rfl (hn _)
  | succ j => simp at hd
theorem Fb {g : AV -> AV} (hg : jA g) (v : AV) : (b8 g v).cells = cC g v.cells := by
 by_cases ha : ∃ cs,v = .agg cs
 ·obtain ⟨cs,rfl⟩ := ha;simp [b8,AV.cells]
 ·have hn : jr v := fun cs e => ha ⟨cs,e⟩;have Zi := kt hg hn;have e2 : v.cells = [v] := by cases v <;> first | rfl | exact absurd rfl (hn _)
  rw [e2];simp only [cC];generalize b8 g v = y at Zi;cases y <;> first | rfl | exact absurd rfl (Zi _)
def pJ (i : Nat) (v : AV) (j : Nat) : Rt :=
 match v with
 | .agg _ => .sc i j
 | _ => .s i
theorem Vh {i : Nat} {j : Nat} {d : AV} (h : (get s.env i).cells[j]? = some d) : at_ s (pJ i (get s.env i) j) = some d := by
 by_cases ha : ∃ cs,get s.env i = .agg cs
 ·obtain ⟨cs,e⟩ := ha;rw [e] at h ⊢;simp only [pJ];rw [Gm e];exact h
 ·have hn : jr (get s.env i) := fun cs e => ha ⟨cs,e⟩
  have e2 : (get s.env i).cells = [get s.env i] := by
   generalize get s.env i = v at hn;cases v <;> first | rfl | exact absurd rfl (hn _)
  have e3 : pJ i (get s.env i) j = .s i := by
   generalize get s.env i = v at hn;cases v <;> first | rfl | exact absurd rfl (hn _)
  rw [e2] at h;rw [e3];cases j with
  | zero => simp at h; rw [<- h]; rfl
  | succ j => simp at h
theorem eW.abH (h : eW X φ w N s Ha t) {i b off k : Nat} {cs as : List AV} (hb : aH s.H b = some cs) (has : aH Ha (N.β b) = some as) (hk : (get s.env i).cells.length = k) (nr : off + k <= cs.length)
  (hC : ∀ r x,at_ s r = some x -> ∀ p ∈ aL x,cE b off k p = false)
  (ad : fB φ w φ' w') (hh : b6 X φ' w' (Ha.set (N.β b) (some (jf as off (jS N i (get s.env i)).cells))))
  (he : ∀ j,get s'.env j = if j = i then .any else b8 (jm i b off) (get s.env j)) (hH : s'.H = (ft (jm i b off) s.H).set b (some (jf (cC (jm i b off) cs) off (b8 (jm i b off) (get s.env i)).cells))) (ht : ∀ j,j ≠ i -> t' j = t j) :
  ∃ N',N'.β = N.β /\ eW X φ' w' N' s' (Ha.set (N.β b) (some (jf as off (jS N i (get s.env i)).cells))) t' := by
 have hg := rN i b off;have hL := Sx i b off;generalize hv : get s.env i = v at *;obtain ⟨tc1,tc2⟩ := vu N i v;have hblt := dZ hb;have halt := dZ has
 have hasl : as.length = cs.length := by
  obtain ⟨as',g1,g2,_⟩ := h.box b cs hb;rw [has] at g1; cases g1; exact g2
 have PJ : (b8 (jm i b off) v).cells = cC (jm i b off) v.cells := Fb hL v
 -- where a place of the new state comes from
 obtain ⟨u,hu1,hu2⟩ : ∃ u : Rt -> Rt,(∀ j,off <= j -> j < off + k -> u (.c b j) = pJ i v (j - off)) /\ ∀ q,cE b off k q = false -> u q = q :=
  ⟨fun q => match q with
   | .c d j => if d = b /\ off <= j /\ j < off + k then pJ i v (j - off) else .c d j
   | q => q,fun j h1 h2 => by simp [h1,h2],fun q hq => by
     cases q with
     | s j => rfl
     | sc j l => rfl
     | c d j =>
       simp only [cE,Oy,decide_eq_false_iff_not] at hq;have : ¬ (d = b /\ off <= j /\ j < off + k) := by omega
       simp [this]⟩
 have blkH : ∀ d,aH s'.H d = if d = b then some (jf (cC (jm i b off) cs) off (cC (jm i b off) v.cells)) else (aH s.H d).map (cC (jm i b off)) := by
  intro d;rw [hH,dF,fv,PJ,fY];by_cases e : d = b
  ·subst e; simp [hblt]
  ·simp [e]
 have atq : ∀ q,bq i q = false -> cE b off k q = false -> at_ s' q = (at_ s q).map (b8 (jm i b off)) := by
  intro q h1 h2;cases q with
  | s j => simp only [bq,decide_eq_false_iff_not] at h1; simp [at_,he,h1]
  | sc j l =>
    simp only [bq,decide_eq_false_iff_not] at h1;have := iS hL s (.sc j l);simp only [at_,bW,cW] at this;simp only [at_,he,if_neg h1];exact this
  | c d j =>
    simp only [at_,blkH];by_cases e : d = b
    ·subst e;simp only [if_true,hb];simp only [cE,decide_true,eD,Oy,decide_eq_false_iff_not] at h2;rw [j7 (by rw [bZ,bZ,hk]; exact nr),bZ,hk];by_cases c1 : j < off
     ·rw [if_pos c1,dX]
     ·rw [if_neg c1,if_neg (by omega),dX]
    ·simp only [if_neg e];cases aH s.H d with
     | none => rfl
     | some ds => simp [dX]
 have atb : ∀ j,off <= j -> j < off + k -> at_ s' (.c b j) = (v.cells[j - off]?).map (b8 (jm i b off)) := by
  intro j h1 h2;simp only [at_,blkH,if_true];rw [j7 (by rw [bZ,bZ,hk]; exact nr),bZ,hk,if_neg (by omega),if_pos h2,dX]
 have ati : ∀ q,bq i q = true -> aC s' q = none := by
  intro q hq;cases q with
  | s j => simp only [bq,decide_eq_true_eq] at hq; subst hq; unfold aC; simp [at_,he]
  | sc j l => simp only [bq,decide_eq_true_eq] at hq; subst hq; unfold aC; simp [at_,he]
  | c d j => simp [bq] at hq
 have cellAt : ∀ j d,v.cells[j]? = some d -> at_ s (pJ i v j) = some d := fun j d hd => by
  have := Vh (s := s) (i := i) (j := j) (d := d) (by rw [hv]; exact hd)
  rwa [hv] at this
 have own : ∀ q k' xs,aC s' q = some (k',xs) -> aC s (u q) = some (k',xs) := by
  intro q k' xs e
  have hqi : bq i q = false := by
   cases e2 : bq i q with
   | true => rw [ati q e2] at e; cases e
   | false => rfl
  have e' := bY.1 e;cases hq : cE b off k q with
  | false =>
    rw [hu2 q hq];rw [atq q hqi hq] at e';cases ha : at_ s q with
    | none => rw [ha] at e'; cases e'
    | some x =>
      rw [ha] at e';simp only [cJ,aj] at e';rw [uH hL] at e';subst e';exact bY.2 ha
  | true =>
    cases q with
    | s j => simp [cE] at hq
    | sc j l => simp [cE] at hq
    | c d j =>
      simp only [cE,ab,decide_eq_true_eq] at hq;obtain ⟨rfl,h1,h2⟩ := hq;rw [hu1 j h1 h2];rw [atb j h1 h2] at e';cases ha : v.cells[j - off]? with
      | none => rw [ha] at e'; cases e'
      | some x =>
        rw [ha] at e';simp only [cJ,aj] at e';rw [uH hL] at e';subst e';exact bY.2 (cellAt _ _ ha)
 have aen : (∃ ds,v = .agg ds) \/ (jr v /\ v.cells = [v] /\ ∀ j,pJ i v j = .s i) := by
  by_cases ha : ∃ ds,v = .agg ds
  ·exact .inl ha
  ·have hn : jr v := fun ds e => ha ⟨ds,e⟩;refine .inr ⟨hn,?_,fun j => ?_⟩
   ·cases v <;> first | rfl | exact absurd rfl (hn _)
   ·cases v <;> first | rfl | exact absurd rfl (hn _)
 -- an owner that was, where it is now
 have Ub : ∀ p,(aC s p).isSome -> cE b off k p = false -> aC s' (iQ i b off p) = aC s p /\ u (iQ i b off p) = p := by
  intro p hp hc;obtain ⟨⟨k',xs⟩,e⟩ := aW.1 hp;have e' := bY.1 e;cases XR : bq i p with
  | false =>
    have hm : iQ i b off p = p := by
     cases p with
     | s j => simp only [bq,decide_eq_false_iff_not] at XR; simp [iQ,XR]
     | sc j l => simp only [bq,decide_eq_false_iff_not] at XR; simp [iQ,XR]
     | c d j => rfl
    rw [hm];refine ⟨?_,hu2 p hc⟩;rw [<- iz hL s p];exact iy (by rw [atq p XR hc,iS hL])
  | true =>
    cases p with
    | s j =>
      simp only [bq,decide_eq_true_eq] at XR;subst XR;simp only [at_,aj] at e';rw [hv] at e';subst e';have hk1 : k = 1 := by rw [<- hk]; rfl
      subst hk1;have hm : iQ j b off (.s j) = .c b off := by simp [iQ]
      rw [hm,hu1 off (aS _) (by omega)];refine ⟨?_,rfl⟩;rw [e];exact bY.2 (by rw [atb off (aS _) (by omega)]; simp [AV.cells,b8])
    | sc j l =>
      simp only [bq,decide_eq_true_eq] at XR;subst XR;simp only [at_,hv] at e';split at e'
      case h_2 => cases e'
      rename_i ds;have hl : l < k := by rw [<- hk]; exact aB e'
      have hm : iQ j b off (.sc j l) = .c b (off + l) := by simp [iQ]
      rw [hm,hu1 (off + l) (by omega) (by omega)];refine ⟨?_,by simp [pJ]⟩;rw [e];exact bY.2 (by rw [atb (off + l) (by omega) (by omega)]; simp [AV.cells,e',b8])
    | c d j => simp [bq] at XR
 have back : ∀ q,(aC s' q).isSome -> iQ i b off (u q) = q := by
  intro q hq
  have hqi : bq i q = false := by
   cases e2 : bq i q with
   | true => rw [ati q e2] at hq; cases hq
   | false => rfl
  cases hc : cE b off k q with
  | false =>
    rw [hu2 q hc];cases q with
    | s j => simp only [bq,decide_eq_false_iff_not] at hqi; simp [iQ,hqi]
    | sc j l => simp only [bq,decide_eq_false_iff_not] at hqi; simp [iQ,hqi]
    | c d j => rfl
  | true =>
    cases q with
    | s j => simp [cE] at hc
    | sc j l => simp [cE] at hc
    | c d j =>
      simp only [cE,ab,decide_eq_true_eq] at hc;obtain ⟨rfl,h1,h2⟩ := hc;rw [hu1 j h1 h2];rcases aen with ⟨ds,rfl⟩ | ⟨_,SV,SN⟩
      ·simp only [pJ,iQ,if_true];rw [show off + (j - off) = j by omega]
      ·rw [SN];have : k = 1 := by rw [<- hk,SV]; rfl
       simp only [iQ,if_true];rw [show off = j by omega]
 have hlen : s'.H.length = s.H.length := by rw [hH,k8,fY]
 obtain ⟨N',eX,hN⟩ : ∃ N' : Names,N'.β = N.β /\ ∀ q,N'.ν q = N.ν (u q) := ⟨⟨N.β,fun q => N.ν (u q)⟩,rfl,fun _ => rfl⟩;have k9 : ∀ p,(aC s p).isSome -> cE b off k p = false -> N'.ν (iQ i b off p) = N.ν p := fun p hp hc => by rw [hN,(Ub p hp hc).2]
 have YN : ∀ {r x},at_ s r = some x -> (∀ p ∈ aL x,N'.ν (iQ i b off p) = N.ν p) /\ cr (aC s') s'.H.length (b8 (jm i b off) x) := by
  intro r x hx;refine ⟨fun p hp => k9 p (h.dp hx p hp) (hC r x hx p hp),?_⟩;rw [hlen];exact Ml hg x (fun p hp => (Ub p (h.dp hx p hp) (hC r x hx p hp)).1) (h.zu hx)
 have so : ∀ {q},(aC s' q).isSome -> (aC s (u q)).isSome := by
  intro q hq;obtain ⟨⟨k',xs⟩,e⟩ := aW.1 hq;rw [own q k' xs e]; rfl
 have sb : ∀ {d},(aH s'.H d).isSome -> (aH s.H d).isSome := by
  intro d hd;rw [blkH] at hd;by_cases e : d = b
  ·subst e; rw [hb]; rfl
  ·rw [if_neg e] at hd;cases e2 : aH s.H d with
   | none => rw [e2] at hd; cases hd
   | some _ => rfl
 refine ⟨N',eX,⟨fun j => ?_,fun j => ?_,hh,fun q k' xs e => ?_,fun d ds e => ?_,fun p q n e1 e2 e3 e4 => ?_,fun d q e1 e2 e3 => ?_,fun d e e1 e2 e3 => ?_⟩⟩
 ·rw [he];by_cases GV : j = i
  ·rw [if_pos GV]; exact .any _ _
  ·rw [if_neg GV,ht j GV];rw [Jk (N := N) (i := j) eX hg (by rw [hN,hu2 _ rfl]) (fun l => by rw [hN,hu2 _ rfl]) (YN (r := .s j) rfl).1];exact ad.rep (h.env j)
 ·rw [he];by_cases GV : j = i
  ·rw [if_pos GV]; trivial
  ·rw [if_neg GV]; exact (YN (r := .s j) rfl).2
 ·have e2 := own q k' xs e;rw [hN];refine (h.own _ k' xs e2).same fun n hn => ?_;rw [dF,if_neg];rintro ⟨e3,_⟩;exact h.bx b (u q) (by rw [hb]; rfl) (by rw [e2]; rfl) (by rw [hn,e3])
 ·rw [blkH] at e;by_cases hd : d = b
  ·subst hd;rw [if_pos rfl] at e;cases e;refine ⟨jf as off (jS N i v).cells,by rw [eX,dF,if_pos ⟨rfl,halt⟩],?_,fun j x hx => ?_⟩
   ·rw [fL (by rw [tc1,hk]; omega),fL (by rw [bZ,bZ,hk]; omega),bZ,hasl]
   ·rw [j7 (by rw [bZ,bZ,hk]; exact nr),bZ,hk] at hx
    have outside : (cC (jm i d off) cs)[j]? = some x -> cE d off k (.c d j) = false -> (∀ hj : True,(jf as off (jS N i v).cells)[j]? = as[j]?) -> cr (aC s') s'.H.length x /\ ∃ a',(jf as off (jS N i v).cells)[j]? = some a' /\ Le (je N' (.c d j) x) a' := by
     intro hx hc hov;rw [dX] at hx;cases Fw : cs[j]? with
     | none => rw [Fw] at hx; cases hx
     | some x0 =>
       rw [Fw] at hx;simp at hx;subst hx;obtain ⟨as2,g1,g2,g3⟩ := h.box d cs hb;rw [has] at g1; cases g1;obtain ⟨_,a',a1,a2⟩ := g3 j x0 Fw;have s4 := YN (r := .c d j) (x := x0) (by rw [vd hb]; exact Fw);refine ⟨s4.2,a',by rw [hov trivial]; exact a1,?_⟩;rw [w8 (N := N) (r := .c d j) eX hg (fun _ _ _ => by rw [hN,hu2 _ hc]) s4.1];exact a2
    split at hx
    ·rename_i c1;exact outside hx (by simp [cE]; omega) (fun _ => by rw [j7 (by rw [tc1,hk]; omega),if_pos c1])
    ·split at hx
     ·rename_i c1 c2;rw [dX] at hx;cases Fw : v.cells[j - off]? with
      | none => rw [Fw] at hx; cases hx
      | some x0 =>
        rw [Fw] at hx;simp at hx;subst hx;have s4 := YN (cellAt _ _ Fw);refine ⟨s4.2,je N (pJ i v (j - off)) x0,?_,?_⟩
        ·rw [j7 (by rw [tc1,hk]; omega),if_neg c1,if_pos (by rw [tc1,hk]; exact c2),tc2 _ _ Fw];cases v <;> rfl
        ·rw [w8 (N := N) (r := pJ i v (j - off)) eX hg (fun _ _ _ => by rw [hN,hu1 j (by omega) c2]) s4.1];exact Le.refl _
     ·rename_i c1 c2;exact outside hx (by simp [cE]; omega) (fun _ => by rw [j7 (by rw [tc1,hk]; omega),if_neg c1,if_neg (by rw [tc1,hk]; exact c2)])
  ·rw [if_neg hd] at e;cases vT : aH s.H d with
   | none => rw [vT] at e; cases e
   | some ds0 =>
     rw [vT] at e;simp at e;subst e;obtain ⟨as2,g1,g2,g3⟩ := h.box d ds0 vT;refine ⟨as2,?_,by rw [bZ]; exact g2,fun j x hx => ?_⟩
     ·rw [eX,dF,if_neg]
      ·exact g1
      ·rintro ⟨e3,_⟩;exact hd (h.bi d b (by rw [vT]; rfl) (by rw [hb]; rfl) e3)
     ·rw [dX] at hx;cases Fw : ds0[j]? with
      | none => rw [Fw] at hx; cases hx
      | some x0 =>
        rw [Fw] at hx;simp at hx;subst hx;obtain ⟨_,a',a1,a2⟩ := g3 j x0 Fw;have s4 := YN (r := .c d j) (x := x0) (by rw [vd vT]; exact Fw);refine ⟨s4.2,a',a1,?_⟩;rw [w8 (N := N) (r := .c d j) eX hg (fun _ _ _ => by rw [hN,hu2 _ (by simp [cE,hd])]) s4.1];exact a2
 ·rw [hN] at e3 e4;have := h.inj _ _ n (so e1) (so e2) e3 e4;rw [<- back p e1,this,back q e2]
 ·rw [hN,eX] at e3;exact h.bx d _ (sb e1) (so e2) e3
 ·rw [eX] at e3;exact h.bi d e (sb e1) (sb e2) e3
end
end Go.Bm

/- Stores. -/
namespace Go.Bm
open Go.Am
section
variable {P : Program} {X : Nat -> Prop} {φ φ' : de} {w w' : World} {N N' : Names} {s s' s1 : St} {Ha Ha' : Heap} {t t' : Nat -> Value} {B : Nat -> Nat} {base : Nat} {v va : AV} {v' : Value} {c : dN} {o : Oper} {a : Act} {kd : Kd}
theorem aaY {op : Op} {k : Nat} {x y : E} (h : cG P op (.st k x y) = true) : ∃ ty xo yo,op = .store ty xo yo /\ lI P ty k = true /\ cN xo x = true /\ cN yo y = true := by
 unfold cG at h;split at h <;> simp_all
 exact ⟨_,_,_,⟨rfl,rfl,rfl⟩,h.1.1,h.1.2,h.2⟩
theorem He (h : eW X φ w N s Ha t) {i : Nat} (hl : bm (get s.env i).cells = true) : bm (jS N i (get s.env i)).cells = true := by
 obtain ⟨h1,h2⟩ := vu N i (get s.env i);refine tg fun d hd => ?_;obtain ⟨j,hj⟩ := bD hd;obtain ⟨x,hx⟩ := bc (l := (get s.env i).cells) (i := j) (by have := aB hj; omega);rw [h2 j x hx] at hj;cases hj;have hxl := vi hl x (bf hx);have cO := CZ (uB (h.GO i)) x (bf hx);by_cases ho : ∃ k xs,x = .own k xs
 ·obtain ⟨k,xs,rfl⟩ := ho;simp only [je,rK];split <;> rfl
 ·have := JN h hxl cO;cases x <;> first | exact this | exact absurd ⟨_,_,rfl⟩ ho
theorem B8 : ∀ {ds : List AV},bw ds = false -> ∀ x ∈ ds,∀ k xs,x ≠ .own k xs
 | [],_,x,hx => by simp at hx
 | y :: r,h,x,hx => by
   intro k xs e;subst e;obtain ⟨j,hj⟩ := bD hx;exact xN h j k xs hj
theorem DB {b off k : Nat} {cs : List AV} (hb : aH s.H b = some cs) (ho : bw ((cs.drop off).take k) = false) {p : Rt} (hp : (aC s p).isSome) : cE b off k p = false := by
 cases p with
 | s j => rfl
 | sc j l => rfl
 | c d j =>
   cases e : cE b off k (.c d j) with
   | false => rfl
   | true =>
     simp only [cE,ab,decide_eq_true_eq] at e;obtain ⟨rfl,h1,h2⟩ := e;obtain ⟨⟨k',xs⟩,e2⟩ := aW.1 hp;have e3 := bY.1 e2;rw [vd hb] at e3;refine absurd rfl (B8 ho (.own k' xs) ?_ k' xs);refine bf (i := j - off) ?_;rw [bF,if_pos (by omega),aV,show off + (j - off) = j by omega];exact e3
theorem Mk (hm : P.follows .mixedOrders = true) (h : SB X φ w B base s (tm a)) (hg : Am.dL (gZ c) X φ w) {k b off : Nat} {x y : E} {f : Fq} (hk : cG P o.op (kU (.st k x y)) = true) (Bb : bn c s.env x = .ptr b off) (hs : wm s b off k (bn c s.env y) = some (s',f)) : kY P X φ w B base s' .undef o a := by
 obtain ⟨N,Ha,h,hbB,On⟩ := h;obtain ⟨ty,xo,yo,fe,nk,c1,c2⟩ := aaY hk;have hx := cn (c := c) (cA := gZ c) h rfl c1;have hy := cn (c := c) (cA := gZ c) h rfl c2;have he : nE X φ w (x8 N s.env) a.tmps := fun i => by rw [kT]; exact h.env i
 have rx := bM (a := a) he hg c1;have ry := bM (a := a) he hg c2;rw [hx.ev,Bb] at rx;rw [hy.evQ] at ry;simp only [fZ,ct] at rx;have hpo : dV X φ w N.β s.H.length s (bn c s.env y) (tm a) (a.eval yo) := dV.quiet h ⟨fun _ _ => rfl,aS _⟩ hy.ok hy.EO ry;generalize bn c s.env y = v at *;unfold wm at hs;split at hs
 case h_2 => cases hs
 rename_i cs dv;split at hs
 case isFalse => cases hs
 rename_i aeU;obtain ⟨q1,q2,q3⟩ := aeU;have hblt := dZ dv;split at hs
 ·split at hs
  case h_2 => cases hs
  rename_i Np;split at hs
  case h_2 => cases hs
  rename_i s2 hh;simp at hs;obtain ⟨rfl,_⟩ := hs;obtain ⟨nG,IB,ad1⟩ := SB.qS b k off (hpo.put ff Np);generalize qS b off k ⟨put s.env ff v,s.H⟩ = s1 at hh IB;obtain ⟨N1,Ha1,gE,zP,hl1⟩ := IB;have hL := Sx ff b off;unfold jE at hh;split at hh
  case h_2 => cases hh
  rename_i cs2 Nj;split at hh
  case isFalse => cases hh
  rename_i Kr;obtain ⟨r1,r2,r3,r4⟩ := Kr;simp at hh;subst hh;simp only [bW,fv,cW] at Nj r1 r2 r3 r4 ⊢;cases X8 : aH s1.H b with
  | none => rw [X8] at Nj; cases Nj
  | some cs1 =>
    rw [X8] at Nj;simp at Nj;subst Nj;rw [Fb hL] at r1 r4;rw [bZ] at r1 r2
    have vR : bm (get s1.env ff).cells = true := by
     refine tg fun d hd => ?_;obtain ⟨j,hj⟩ := bD hd;have := vi r4 (b8 (jm ff b off) d) (bf (i := j) (by rw [dX,hj]; rfl));cases d <;> first | rfl | exact this
    have gY : bw ((cs1.drop off).take k) = false := by
     have key : ∀ {l : List AV},bw (cC (jm ff b off) l) = false -> bw l = false := by
      intro l
      induction l with
      | nil => intro _; rfl
      | cons z r ih =>
        intro h;simp only [cC] at h;cases z <;> simp [b8,jm,bw] at h ⊢ <;> exact ih h
     apply key
     have : (cC (jm ff b off) cs1).drop off = cC (jm ff b off) (cs1.drop off) := by
      apply cY; intro j; rw [aV,dX,dX,aV]
     rw [this] at r3
     have h2 : (cC (jm ff b off) (cs1.drop off)).take k = cC (jm ff b off) ((cs1.drop off).take k) := by
      apply cY; intro j; rw [bF,dX,dX,bF]; split <;> rfl
     rw [h2] at r3;exact r3
    obtain ⟨as,g1,g2,g3⟩ := gE.box b cs1 X8;have hβ1 : N1.β b = N.β b := zP b hblt;refine kY.ghost ad1 ?_;have cO := WO (P := P) fe gE.heap g1 nk (by rw [hβ1]; exact ad1.rep rx) (by have := gE.env ff; simp only [if_true] at this; exact this) (by rw [(vu N1 ff _).1]; exact r1) (by omega) (He gE vR);refine kY.of cO fun v' w' φ' r hh ad => ?_
    obtain ⟨N',e1,OK⟩ := gE.abH (i := ff) (b := b) (off := off) (k := k) (s' := ⟨put (jC (jm ff b off) s1.env) ff .any,(ft (jm ff b off) s1.H).set b (some (jf (cC (jm ff b off) cs1) off (b8 (jm ff b off) (get s1.env ff)).cells))⟩) (t' := tm a)
     X8 g1 r1 r2 (fun rr z hz p hp => DB X8 gY (gE.dp hz p hp)) ad hh (fun j => by simp only [br,cW]) rfl (fun j hj => by simp [hj])
    refine dV.quiet OK ⟨fun d hd => ?_,?_⟩ trivial trivial r
    ·rw [e1,zP d (by omega)]; exact hbB d hd
    ·simp only [k8,fY]; omega
 ·rename_i acj;simp at hs;obtain ⟨rfl,_⟩ := hs;obtain ⟨i,hi,_⟩ := IE s.env [];obtain ⟨N1,Ha1,gE,zP,hl1⟩ := hpo.put i hi;have hio : bI (get s.env i) = false := by rw [hi]; rfl
  obtain ⟨as,g1,g2,g3⟩ := gE.box b cs dv;have hβ1 : N1.β b = N.β b := zP b hblt;have gi : get (put s.env i v) i = v := by rw [br,if_pos rfl]
  have vR : bm (get (put s.env i v) i).cells = true := by rw [gi]; exact q3
  have Mv : ∀ {p},(aC s p).isSome -> iQ i b off p = p := by
   intro p hp;have := tc hio hp;cases p with
   | s j => simp only [bq,decide_eq_false_iff_not] at this; simp [iQ,this]
   | sc j l => simp only [bq,decide_eq_false_iff_not] at this; simp [iQ,this]
   | c d j => rfl
  have cO := WO (P := P) fe gE.heap g1 nk (by rw [hβ1]; exact rx) (by have := gE.env i; simp only [if_true] at this; exact this) (by rw [(vu N1 i _).1,gi]; exact q1) (by omega) (He gE vR);refine kY.of cO fun v' w' φ' r hh ad => ?_
  have hnoC : ∀ r z,at_ ⟨put s.env i v,s.H⟩ r = some z -> ∀ p ∈ aL z,cE b off k p = false := by
   intro r z hz p hp;simp only [ab,not_and,Bool.not_eq_true] at acj;cases hod : bw ((cs.drop off).take k) with
   | false => exact DB (s := ⟨put s.env i v,s.H⟩) dv hod (gE.dp hz p hp)
   | true =>
     have hn := acj hod;simp only [Gs,fg] at hn;cases r with
     | s j =>
       simp only [at_,br,aj] at hz;subst hz;split at hp
       ·exact jz hn.1 p hp
       ·exact pK hn.2.1 j p hp
     | sc j l =>
       simp only [at_,br] at hz;split at hz
       ·rename_i ds mY;split at mY
        ·subst mY;exact jz hn.1 p (by simp only [aL]; exact jY hz hp)
        ·exact pK hn.2.1 j p (by rw [mY]; simp only [aL]; exact jY hz hp)
       ·cases hz
     | c d l =>
       simp only [at_] at hz;split at hz
       ·rename_i ds mY;exact td hn.2.2 d ds mY p (jY hz hp)
       ·cases hz
  obtain ⟨N',e1,OK⟩ := gE.abH (i := i) (b := b) (off := off) (k := k) (s' := ⟨s.env,s.H.set b (some (jf cs off v.cells))⟩) (t' := tm a) dv g1 (by rw [gi]; exact q1) q2 hnoC ad hh
   (fun j => by
    simp only [br];by_cases hj : j = i
    ·rw [if_pos hj,hj]; exact hi
    ·rw [if_neg hj,if_neg hj,qc (rN i b off) _ (fun p hp => Mv (h.dp (r := .s j) rfl p hp))])
   (by
    simp only [gi]
    rw [C0 (rN i b off) s.H (fun d ds hd p hp => Mv (by
     obtain ⟨j,z,h1,h2⟩ := Kc hp;exact h.dp (r := .c d j) (by rw [vd hd]; exact h1) p h2)),
     pq (rN i b off) cs (fun p hp => Mv (by
     obtain ⟨j,z,h1,h2⟩ := Kc hp;exact h.dp (r := .c b j) (by rw [vd dv]; exact h1) p h2)),
     qc (rN i b off) v (fun p hp => Mv (AL v hpo.ok p hp))])
   (fun j hj => by simp [hj])
  refine dV.quiet OK ⟨fun d hd => ?_,?_⟩ trivial trivial r
  ·rw [e1,zP d (by omega)]; exact hbB d hd
  ·simp only [k8]; omega
end
end Go.Bm

/- Every operation that calls nothing. -/
namespace Go.Bm
open Go.Am
def kQ : Kd -> Bool
 | .call _ _ => true
 | .gw _ _ => true
 | _ => false
section
variable {P : Program} {X : Nat -> Prop} {φ φ' : de} {w w' : World} {N N' : Names} {s s' s1 : St} {Ha Ha' : Heap} {t t' : Nat -> Value} {B : Nat -> Nat} {base : Nat} {v va : AV} {v' : Value} {c : dN} {o : Oper} {a : Act} {kd : Kd} {call : Nat -> List AV -> Heap -> Option (AV × Heap)}
theorem Sb (hm : P.follows .mixedOrders = true) (h : SB X φ w B base s (tm a)) (hg : Am.dL (gZ c) X φ w) {k : Nat} {zs : List AV} {x : E} (hk : cG P o.op (kU (.Td k zs x)) = true) (Bb : (∃ k',bn c s.env x = .own k' []) \/ ∃ k',bn c s.env x = .list k' []) : kY P X φ w B base s .undef o a := by
 obtain ⟨N,Ha,h,hb⟩ := h;obtain ⟨_,o1,h1⟩ := abc hk;have hx := cn (c := c) (cA := gZ c) h rfl h1;refine kY.of (lx (va := .undef) (Ha' := Ha) hm h hg hk (fl := .wr Ha.length []) ?_) fun v' w' φ' r hh ad => ?_
 ·rcases Bb with ⟨k',e⟩ | ⟨k',e⟩ <;> simp only [kU,fG,hx.ev,e,fZ,ct]
 ·exact dV.quiet (h.m6 ad hh h.own (fun _ _ => rfl)) hb trivial trivial r
theorem aai (hm : P.follows .mixedOrders = true) (h : SB X φ w B base s (tm a)) (hg : Am.dL (gZ c) X φ w) {n m b off : Nat} {x : E} {hi : Option E} {cs : List AV} (hk : cG P o.op (kU (.I8 n x hi)) = true) (e1 : bn c s.env x = .ptr b off) (vT : xU c s.env n n hi = some m) (hbk : aH s.H b = some cs) (hl : off + n <= cs.length) : kY P X φ w B base s (.sl 1 b off m) o a := by
 obtain ⟨N,Ha,h,hb⟩ := h;obtain ⟨⟨o1,h1⟩,h2⟩ := Tf hk;have hx := cn (c := c) (cA := gZ c) h rfl h1;have g2 := P9 (cA := gZ c) h rfl h2 vT;obtain ⟨as,a1,a2,_⟩ := h.box b cs hbk;refine kY.of (lx (va := .sl 1 (N.β b) off m) (Ha' := Ha) hm h hg hk (fl := .rd (N.β b)) ?_) fun v' w' φ' r hh ad => ?_
 ·simp only [kU,fG,hx.ev,e1,fZ,ct,g2,a1,a2];rw [if_pos hl]
 ·exact dV.quiet (h.m6 ad hh h.own (fun _ _ => rfl)) hb (dZ hbk) trivial r
theorem Yh {k off : Nat} {xs ys : List AV} (h1 : ∀ x ∈ xs,x.cells.length = k) (h2 : ∀ y ∈ ys,y.cells.length = k) : aE (jf xs off ys) = jf (aE xs) (off * k) (aE ys) := by
 unfold jf;rw [jF,jF,vX h1,IP h1,jx h2,bV]
theorem WU (hm : P.follows .mixedOrders = true) (h : SB X φ w B base s (tm a)) (hg : Am.dL (gZ c) X φ w) {k off n : Nat} {x y : E} (hk : cG P o.op (kU (.copy k x y)) = true) {p : Rt} {xs ys : List AV} (Bb : bn c s.env x = .dp k p off n) (hp : aC s p = some (k,xs)) (hle : off + n <= xs.length) (hn0 : n ≠ 0) (hy : cont s k (bn c s.env y) = some ys) (vR : bm (aE ys) = true) : kY P X φ w B base (setAt s p (.own k (jf xs off (ys.take (min ys.length n))))) (.int .i64 (min ys.length n : Nat)) o a := by
 obtain ⟨N,Ha,h,hb⟩ := h;obtain ⟨⟨o1,h1⟩,o2,h2⟩ := NS hk;have hx := cn (c := c) (cA := gZ c) h rfl h1;have cO := hx.ok;rw [Bb] at cO;obtain ⟨news,n1,n2,n3,n4,n5⟩ := C7 h hg h2 hy vR;have fA := h.own p k xs hp;rcases qC h cO with ⟨b,hn,e2⟩ | ⟨_,_,Nf,_⟩
 case inr => exact absurd Nf hn0
 rw [hn] at fA;obtain ⟨cs,q1,q2,q3,q4⟩ := fA
 have hlk : off * k + n * k <= cs.length := by
  have := bG k hle;rw [bV] at this; omega
 generalize Zj : min ys.length n = m;have hm3 : m <= n /\ m <= ys.length := by omega
 have hmk : m * k <= n * k := bG k hm3.1
 have hml : (news.take (m * k)).length = m * k := by
  rw [bg,n2];have := bG k hm3.2;omega
 have Kp : ∀ z ∈ ys.take m,z.cells.length = k := fun z hz => n3 z (cH hz);have hfl : aE (ys.take m) = (aE ys).take (m * k) := vX n3 m;have hyl : (ys.take m).length = m := by rw [bg]; omega
 have hfl2 : (aE (ys.take m)).length = m * k := by rw [jx Kp,hyl]
 have hxk : off * k + m * k <= (aE xs).length := by
  rw [jx q3];have := bG k hle;rw [bV] at this; omega
 refine kY.of (lx (va := .int .i64 (m : Nat)) (Ha' := Ha.set b (some (jf cs (off * k) (news.take (m * k))))) hm h hg hk (fl := .wr Ha.length [b]) ?_) fun v' w' φ' r hh ad => ?_
 ·simp only [kU,fG,n1,hx.ev,Bb,fZ,e2,q1,Zj];rw [if_pos ⟨trivial,hlk,n4⟩]
 have XV : pX (Ha.set b (some (jf cs (off * k) (news.take (m * k))))) (some b) k (jf xs off (ys.take m)) := by
  refine ⟨jf cs (off * k) (news.take (m * k)),by rw [dF,if_pos ⟨rfl,dZ q1⟩],?_,?_,?_⟩
  ·rw [fL (by rw [hyl]; omega),fL (by rw [hml]; omega)]; exact q2
  ·intro z hz;unfold jf at hz;simp only [aD] at hz;rcases hz with (hz | hz) | hz
   ·exact q3 z (cH hz)
   ·exact Kp z hz
   ·exact q3 z (cI hz)
  ·intro i d hd;rw [Yh q3 Kp,j7 (by rw [hfl2]; exact hxk),hfl2] at hd;rw [j7 (by rw [hml]; omega),hml];split
   ·rename_i hc; rw [if_pos hc] at hd; exact q4 i d hd
   ·rename_i hc;rw [if_neg hc] at hd;split
    ·rename_i Kr;rw [if_pos Kr,hfl,bF,if_pos (by omega)] at hd;obtain ⟨f1,e,f2,f3,f4⟩ := n5 _ d hd;exact ⟨f1,e,by rw [bF,if_pos (by omega)]; exact f2,f3,f4⟩
    ·rename_i Kr; rw [if_neg Kr] at hd; exact q4 i d hd
 obtain ⟨gE,jo⟩ := h.upd (xs' := jf xs off (ys.take m)) hp hn (fL (by rw [hyl]; omega)) ad hh XV (fun m' C2 => by rw [dF,if_neg (fun e => C2 e.1)]);exact dV.quiet gE ⟨hb.1,by rw [jo.len]; exact hb.2⟩ trivial trivial r
theorem WV (hm : P.follows .mixedOrders = true) (h : SB X φ w B base s (tm a)) (hg : Am.dL (gZ c) X φ w) {k off : Nat} {x y : E} (hk : cG P o.op (kU (.copy k x y)) = true) {p : Rt} {ys : List AV} (Bb : bn c s.env x = .dp k p off 0) (hy : cont s k (bn c s.env y) = some ys) (vR : bm (aE ys) = true) : kY P X φ w B base s (.int .i64 0) o a := by
 obtain ⟨N,Ha,h,hb⟩ := h;obtain ⟨⟨o1,h1⟩,o2,h2⟩ := NS hk;have hx := cn (c := c) (cA := gZ c) h rfl h1;have cO := hx.ok;rw [Bb] at cO;obtain ⟨news,n1,n2,n3,n4,n5⟩ := C7 h hg h2 hy vR;rcases qC h cO with ⟨b,hn,e2⟩ | ⟨_,_,_,e2⟩
 ·simp only [cr] at cO;obtain ⟨xs,hp,hle⟩ := cO;have fA := h.own p k xs hp;rw [hn] at fA;obtain ⟨cs,q1,q2,q3,q4⟩ := fA
  have hlk : off * k + 0 * k <= cs.length := by
   have := bG k hle;rw [bV] at this; omega
  refine kY.of (lx (va := .int .i64 0) (Ha' := Ha) hm h hg hk (fl := .wr Ha.length [b]) ?_) fun v' w' φ' r hh ad => dV.quiet (h.m6 ad hh h.own (fun _ _ => rfl)) hb trivial trivial r;have he : jf cs (off * k) [] = cs := by unfold jf; simp
  have XO : Ha.set b (some cs) = Ha := by
   apply cY;intro i;rw [bj];split
   ·rename_i hbi; subst hbi; rw [if_pos (dZ q1)]; exact (u7 q1).symm
   ·rfl
  simp only [kU,fG,n1,hx.ev,Bb,fZ,e2,q1];rw [if_pos ⟨trivial,hlk,n4⟩];simp [he,XO]
 ·refine kY.of (lx (va := .int .i64 0) (Ha' := Ha) hm h hg hk (fl := .wr Ha.length []) ?_) fun v' w' φ' r hh ad => dV.quiet (h.m6 ad hh h.own (fun _ _ => rfl)) hb trivial trivial r;simp only [kU,fG,n1,hx.ev,Bb,fZ,e2]
theorem Z7 {f : Fq} (h1 : kQ kd = false) (h2 : fo c call s kd = some (v,s',f)) : (Pb c s.env kd = some v /\ s' = s) \/ (∃ zs,kd = .new zs) \/ (∃ x,kd = .box x) \/ (∃ k n zs ps,kd = .dh k n zs ps) \/ (∃ k zs l cp,kd = .MA k zs l cp) \/ (∃ ag x,kd = .ld ag x) \/ (∃ k x y,kd = .st k x y) \/ (∃ k zs x,kd = .Td k zs x) \/ (∃ k x y,kd = .app k x y) \/ (∃ n x hi,kd = .I8 n x hi) \/ (∃ k x y,kd = .copy k x y) := by
 cases kd <;> simp only [fo] at h2 <;> first
  | (left
     split at h2
     ·rename_i u hu;simp only [aj,aF] at h2;obtain ⟨rfl,rfl,_⟩ := h2;exact ⟨hu,rfl⟩
     ·cases h2)
  | (right; simp; done)
  | (simp [kQ] at h1; done)
theorem ac7 (hm : P.follows .mixedOrders = true) (h : SB X φ w B base s (tm a)) (hg : Am.dL (gZ c) X φ w) {f : Fq} (hk : cG P o.op (kU kd) = true) (hnc : kQ kd = false) (hs : fo c call s kd = some (v,s',f)) : kY P X φ w B base s' v o a := by
 rcases Z7 hnc hs with ⟨h1,rfl⟩ | ⟨zs,rfl⟩ | ⟨x,rfl⟩ | ⟨k,n,zs,ps,rfl⟩ | ⟨k,zs,l,cp,rfl⟩ | ⟨ag,x,rfl⟩ | ⟨k,x,y,rfl⟩ | ⟨k,zs,x,rfl⟩ | ⟨k,x,y,rfl⟩ | ⟨n,x,hi,rfl⟩ | ⟨k,x,y,rfl⟩
 ·exact R8 hm h hg hk h1
 ·simp only [fo,aj,aF] at hs;obtain ⟨rfl,rfl,_⟩ := hs;exact Pc hm h hg hk
 ·simp only [fo] at hs;split at hs
  case isFalse => cases hs
  rename_i hl;simp only [aj,aF] at hs;obtain ⟨rfl,rfl,_⟩ := hs;exact aah hm h hg hk hl
 ·simp only [fo] at hs;split at hs
  case h_2 => cases hs
  rename_i cs hf;split at hs
  case isFalse => cases hs
  rename_i hz;simp only [aj,aF] at hs;obtain ⟨rfl,rfl,_⟩ := hs;obtain ⟨nG,h1,a1⟩ := SB.dB (gg c s.env ps) h;exact kY.ghost a1 (Pf hm h1 (hg.m6 a1) hk hf hz)
 ·simp only [fo] at hs;split at hs
  case h_2 => cases hs
  rename_i k1 l' k2 cp' e1 e2;split at hs
  case isFalse => cases hs
  rename_i hc;split at hs
  ·rename_i z hz;simp only [aj,aF] at hs;obtain ⟨rfl,rfl,_⟩ := hs;exact aac hm h hg hk hz e1 e2 hc
  ·simp only [aj,aF] at hs;obtain ⟨rfl,rfl,_⟩ := hs;exact aad hm h hg hk e1 e2 hc
 ·simp only [fo] at hs;split at hs
  case h_2 => cases hs
  rename_i u ps hp;split at hs
  case isFalse => cases hs
  simp only [aj,aF] at hs;obtain ⟨rfl,rfl,_⟩ := hs;exact adk hm h hg hk hp
 ·simp only [fo] at hs;split at hs
  ·rename_i k' p i off e0;split at hs
   case h_2 => cases hs
   rename_i s2 f2 h2;simp only [aj,aF] at hs;obtain ⟨rfl,rfl,_⟩ := hs;obtain ⟨nG,h1,a1⟩ := SB.dB (aL (bn c s.env y)) h;refine kY.ghost a1 ?_;generalize dB (aL (bn c s.env y)) s = s3 at h1 h2;unfold Og at h2;split at h2
   ·rename_i b off' e1;exact Mk hm h1 (hg.m6 a1) hk e1 h2
   ·rename_i k2 p2 i2 off2 e1;split at h2
    case h_2 => cases h2
    rename_i k3 xs hp;split at h2
    case isFalse => cases h2
    rename_i sx;subst sx;split at h2
    case h_2 => cases h2
    rename_i u hu;split at h2
    case isFalse => cases h2
    rename_i hc;simp only [aj,aF] at h2;obtain ⟨rfl,_⟩ := h2;exact ada hm h1 (hg.m6 a1) hk e1 hp hu hc.1 hc.2.1 hc.2.2
   ·cases h2
  ·rename_i hnp;split at hs
   case h_2 => cases hs
   rename_i s2 f2 h2;simp only [aj,aF] at hs;obtain ⟨rfl,rfl,_⟩ := hs;unfold Og at h2;split at h2
   ·rename_i b off' e1;exact Mk hm h hg hk e1 h2
   ·rename_i k2 p2 i2 off2 e1;exact absurd e1 (hnp k2 p2 i2 off2)
   ·cases h2
 ·simp only [fo] at hs;split at hs
  ·rename_i k' e1;simp only [aj,aF] at hs;obtain ⟨rfl,rfl,_⟩ := hs;exact Sb hm h hg hk (.inl ⟨k',e1⟩)
  ·rename_i k' e1;simp only [aj,aF] at hs;obtain ⟨rfl,rfl,_⟩ := hs;exact Sb hm h hg hk (.inr ⟨k',e1⟩)
  ·cases hs
 ·simp only [fo] at hs;split at hs
  case h_2 => cases hs
  rename_i ys hy;split at hs
  case isFalse => cases hs
  rename_i vR;split at hs
  ·rename_i k' e1;split at hs
   case isFalse => cases hs
   rename_i hl;simp only [aj,aF] at hs;obtain ⟨rfl,rfl,_⟩ := hs;exact aak hm h hg hk e1 hy vR hl
  ·rename_i k' p len e1;split at hs
   case h_2 => cases hs
   rename_i vO xs hp;split at hs
   case isFalse => cases hs
   rename_i hc;obtain ⟨rfl,rfl,hle,hl⟩ := hc;simp only [aj,aF] at hs;obtain ⟨rfl,rfl,_⟩ := hs;exact aaj hm h hg hk e1 hp hle hy vR hl
  ·cases hs
 ·simp only [fo] at hs;split at hs
  ·rename_i b off e1;split at hs
   case h_2 => cases hs
   rename_i m cs vT hbk;split at hs
   case isFalse => cases hs
   rename_i hl;simp only [aj,aF] at hs;obtain ⟨rfl,rfl,_⟩ := hs;exact aai hm h hg hk e1 vT hbk hl
  ·split at hs
   case h_2 => cases hs
   rename_i u hu;simp only [aj,aF] at hs;obtain ⟨rfl,rfl,_⟩ := hs;exact R8 hm h hg hk hu
 ·simp only [fo] at hs;split at hs
  case h_2 => cases hs
  rename_i k' p off n e1;split at hs
  ·rename_i hn;subst hn;split at hs
   case h_2 => cases hs
   rename_i ys hy;split at hs
   case isFalse => cases hs
   rename_i hc;obtain ⟨rfl,hl⟩ := hc;simp only [aj,aF] at hs;obtain ⟨rfl,rfl,_⟩ := hs;exact WV hm h hg hk e1 hy hl
  ·rename_i hn;split at hs
   case h_2 => cases hs
   rename_i vO xs ys hp hy;split at hs
   case isFalse => cases hs
   rename_i hc;obtain ⟨rfl,rfl,hle,hl⟩ := hc;simp only [aj,aF] at hs;obtain ⟨rfl,rfl,_⟩ := hs;exact WU hm h hg hk e1 hp hle hn hy hl
end
end Go.Bm

/- Calls: arguments by value. -/
namespace Go.Bm
open Go.Am
section
variable {P : Program} {X : Nat -> Prop} {φ φ' : de} {w w' : World} {N N' : Names} {s s' s1 : St} {Ha Ha' : Heap} {t t' : Nat -> Value} {B : Nat -> Nat} {base : Nat} {v va : AV} {v' : Value} {c : dN} {o : Oper} {a : Act} {kd : Kd} {call : Nat -> List AV -> Heap -> Option (AV × Heap)}
theorem Cg (h : b6 X φ w Ha) {n k : Nat} {xs : List AV} (ho : pX Ha (some n) k xs) {off len : Nat} (hle : off + len <= xs.length) {v : Value} (r : bN (Rd X φ w) φ (.sl k n (off * k) len) v) :
  bN (Rd X [] w) [] (.list k ((xs.drop off).take len)) v := by
 obtain ⟨g,sz,kF,hX,hc⟩ := vF h ho;have Bc : ∀ a u,Rd X φ w a u -> Rd X [] w a u := fun a u ⟨h1,_,h3⟩ => ⟨h1,bK.nil _,h3⟩;cases r with
 | sl _ _ _ _ _ a cap hb iZ hh =>
   obtain ⟨h1,h2⟩ := hh g sz kF;by_cases h0 : len = 0
   ·subst h0;simp only [kn];exact .tS _ _ _ _ _ _ (fun _ _ => undef) rfl iZ (fun x hx => by simp at hx) (fun i j x c hx => by simp at hx) (fun i j x c hx => by simp at hx)
   ·have ha := h1 (by omega);subst ha
    have hx : ∀ (i : Nat) (x : AV),((xs.drop off).take len)[i]? = some x -> xs[off + i]? = some x /\ i < len := by
     intro i x hx;rw [bF] at hx;split at hx
     ·rw [aV] at hx; exact ⟨hx,‹_›⟩
     ·cases hx
    obtain ⟨cs,q1,q2,hk,q4⟩ := ho;refine .tS _ _ _ _ _ _ (fun i j => (w.cell? ⟨g,(off + i) * k + j,none⟩).getD undef) (by simp; omega) iZ (fun x hm => ?_) (fun i j x c hi hj => ?_) (fun i j x c hi hj => ?_)
    ·exact hk x (cI (cH hm))
    ·obtain ⟨u,u1,_,_⟩ := hc _ j x c (hx i x hi).1 hj;rw [u1,Addr.iu,show off * k + (i * k + j) = (off + i) * k + j by rw [bV]; omega];exact ⟨hX,bK.nil _,u1⟩
    ·obtain ⟨u,u1,_,u3⟩ := hc _ j x c (hx i x hi).1 hj;rw [u1];exact u3.mono Bc (.refl _)
mutual
theorem fu (h : eW X φ w N s Ha t) : ∀ (x y : AV),kg false s x = some y -> cr (aC s) s.H.length x -> (pl y = true /\ ∀ v,bN (Rd X φ w) φ (ct N x) v -> bN (Rd X [] w) [] y v)
 | .dp k p off len,y,hf,hk => by
   simp only [kg] at hf;split at hf
   case h_2 => cases hf
   rename_i k' xs hp;split at hf
   case isFalse => cases hf
   rename_i hc;obtain ⟨rfl,hle⟩ := hc;simp at hf;subst hf;refine ⟨rfl,fun v r => ?_⟩;have fA := h.own p k' xs hp;rcases qC h hk with ⟨n,hn,e2⟩ | ⟨hn,h0,h1,e2⟩
   ·rw [e2] at r;rw [hn] at fA;exact Cg h.heap fA hle r
   ·rw [e2] at r;subst h1;simp only [kn];cases r;exact .jM _ _
 | .agg cs,y,hf,hk => by
   simp only [kg] at hf;split at hf
   case h_2 => cases hf
   rename_i ds hd;simp at hf;subst hf;simp only [cr] at hk;obtain ⟨h1,h2,h3⟩ := uU h cs ds hd hk;refine ⟨h1,fun v r => ?_⟩;simp only [ct] at r;cases r with
   | agg _ _ vs hl hh => exact .agg _ _ _ (by rw [h2,<- dQ N cs]; exact hl) (fun i d u CC hu => h3 i d u CC (fun z hz => hh i z u hz hu))
 | .dW cs,y,hf,hk => by
   simp only [kg] at hf;split at hf
   case h_2 => cases hf
   rename_i ds hd;simp at hf;subst hf;simp only [cr] at hk;obtain ⟨h1,h2,h3⟩ := uU h cs ds hd hk;refine ⟨h1,fun v r => ?_⟩;simp only [ct] at r;cases r with
   | dW _ _ vs hl hh => exact .dW _ _ _ (by rw [h2,<- dQ N cs]; exact hl) (fun i d u CC hu => h3 i d u CC (fun z hz => hh i z u hz hu))
 | .func f a b,y,hf,hk => by
   simp only [kg] at hf;split at hf
   case h_2 => cases hf
   rename_i a' b' ha hb;simp at hf;subst hf;simp only [cr] at hk;obtain ⟨h1,h2,h3⟩ := uU h a a' ha hk.1;obtain ⟨k1,k2,k3⟩ := uU h b b' hb hk.2;refine ⟨by simp only [pl,ab]; exact ⟨h1,k1⟩,fun v r => ?_⟩;simp only [ct] at r;cases r with
   | func _ _ _ va _ vb B6 B5 hra hrb => exact .func _ _ _ _ _ _ (by rw [h2,<- dQ N a]; exact B6) (by rw [k2,<- dQ N b]; exact B5) (fun i d u CC hu => h3 i d u CC (fun z hz => hra i z u hz hu)) (fun i d u CC hu => k3 i d u CC (fun z hz => hrb i z u hz hu))
 | .own _ _,y,hf,hk => by simp [kg] at hf
 | .eK _ _ _ _,y,hf,hk => by simp [kg] at hf
 | .ptr _ _,y,hf,hk => by simp [kg] at hf
 | .sl _ _ _ _,y,hf,hk => by simp [kg] at hf
 | .any,y,hf,hk => by simp [kg] at hf
 | .undef,y,hf,hk => by simp [kg] at hf; subst hf; exact ⟨rfl,fun v r => (r.dA rfl []).mono (fun a u ⟨h1,_,h3⟩ => ⟨h1,bK.nil _,h3⟩) (.refl _)⟩
 | .fi,y,hf,hk => by simp [kg] at hf; subst hf; exact ⟨rfl,fun v r => (r.dA rfl []).mono (fun a u ⟨h1,_,h3⟩ => ⟨h1,bK.nil _,h3⟩) (.refl _)⟩
 | .eV,y,hf,hk => by simp [kg] at hf; subst hf; exact ⟨rfl,fun v r => (r.dA rfl []).mono (fun a u ⟨h1,_,h3⟩ => ⟨h1,bK.nil _,h3⟩) (.refl _)⟩
 | .dc,y,hf,hk => by simp [kg] at hf; subst hf; exact ⟨rfl,fun v r => (r.dA rfl []).mono (fun a u ⟨h1,_,h3⟩ => ⟨h1,bK.nil _,h3⟩) (.refl _)⟩
 | .int _ _,y,hf,hk => by simp [kg] at hf; subst hf; exact ⟨rfl,fun v r => (r.dA rfl []).mono (fun a u ⟨h1,_,h3⟩ => ⟨h1,bK.nil _,h3⟩) (.refl _)⟩
 | .bool _,y,hf,hk => by simp [kg] at hf; subst hf; exact ⟨rfl,fun v r => (r.dA rfl []).mono (fun a u ⟨h1,_,h3⟩ => ⟨h1,bK.nil _,h3⟩) (.refl _)⟩
 | .str _,y,hf,hk => by simp [kg] at hf; subst hf; exact ⟨rfl,fun v r => (r.dA rfl []).mono (fun a u ⟨h1,_,h3⟩ => ⟨h1,bK.nil _,h3⟩) (.refl _)⟩
 | .list _ _,y,hf,hk => by simp [kg] at hf; subst hf; exact ⟨rfl,fun v r => (r.dA rfl []).mono (fun a u ⟨h1,_,h3⟩ => ⟨h1,bK.nil _,h3⟩) (.refl _)⟩
 | .cX _,y,hf,hk => by simp [kg] at hf; subst hf; exact ⟨rfl,fun v r => (r.dA rfl []).mono (fun a u ⟨h1,_,h3⟩ => ⟨h1,bK.nil _,h3⟩) (.refl _)⟩
theorem uU (h : eW X φ w N s Ha t) : ∀ (xs ys : List AV),CF false s xs = some ys -> jK (aC s) s.H.length xs -> (j5 ys = true /\ ys.length = xs.length /\ ∀ (i : Nat) (y : AV) (v : Value),ys[i]? = some y -> (∀ z,(kq N xs)[i]? = some z -> bN (Rd X φ w) φ z v) -> bN (Rd X [] w) [] y v)
 | [],ys,hf,_ => by simp [CF] at hf; subst hf; exact ⟨rfl,rfl,fun i y v hy => by simp at hy⟩
 | x :: r,ys,hf,hk => by
   simp only [CF] at hf;split at hf
   case h_2 => cases hf
   rename_i y Qq h1 h2;simp at hf;subst hf;obtain ⟨a1,a2⟩ := fu h x y h1 hk.1;obtain ⟨b1,b2,b3⟩ := uU h r Qq h2 hk.2;refine ⟨by simp only [j5,ab]; exact ⟨a1,b1⟩,by simp [b2],fun i z v hz hv => ?_⟩;cases i with
   | zero => simp [kq] at hz hv; subst hz; exact a2 v hv
   | succ i => simp [kq] at hz hv; exact b3 i z v hz hv
end
theorem Yf (h : eW X φ w N s Ha t) {r : Rt} {x y : AV} (hx : at_ s r = some x) (hf : Yg x = some y) : (pl y = true /\ y.cells = [y]) /\ ∀ v,bN (Rd X φ w) φ (je N r x) v -> bN (Rd X [] w) [] y v := by
 unfold Yg at hf;split at hf
 ·rename_i k xs;simp at hf;subst hf;refine ⟨⟨rfl,rfl⟩,fun v rv => ?_⟩;have fA := h.own r k xs (bY.2 hx);simp only [je,rK] at rv;cases hn : N.ν r with
  | none =>
    rw [hn] at fA rv;have : xs = [] := fA;subst this;simp only at rv;cases rv;exact .jM _ _
  | some n =>
    rw [hn] at fA rv;have := Cg (off := 0) (len := xs.length) h.heap fA (by omega) (v := v) (by simpa using rv);simpa using this
 ·rename_i gY;split at hf
  case isFalse => cases hf
  rename_i hz;simp at hf;subst hf;obtain ⟨h1,h2⟩ := lu hz;refine ⟨⟨h1,by cases x <;> first | rfl | (simp [AV.leaf] at h2; done)⟩,fun v rv => ?_⟩;have e : je N r x = ct N x := by cases x <;> first | rfl | exact (gY _ _ rfl).elim
  rw [e,kG N x h1] at rv;exact (rv.dA (gH _ h1) []).mono (fun a u ⟨h1,_,h3⟩ => ⟨h1,bK.nil _,h3⟩) (.refl _)
theorem II : ∀ {cs ys : List AV},IJ cs = some ys -> ys.length = cs.length /\ ∀ (i : Nat) (y : AV),ys[i]? = some y -> ∃ x,cs[i]? = some x /\ Yg x = some y
 | [],ys,h => by simp [IJ] at h; subst h; exact ⟨rfl,fun i y hy => by simp at hy⟩
 | x :: r,ys,h => by
   simp only [IJ] at h;split at h
   case h_2 => cases h
   rename_i y Qq h1 h2;simp at h;subst h;obtain ⟨k1,k2⟩ := II h2;refine ⟨by simp [k1],fun i z hz => ?_⟩;cases i with
   | zero => simp at hz; subst hz; exact ⟨x,rfl,h1⟩
   | succ i => simp at hz; obtain ⟨u,u1,u2⟩ := k2 i z hz; exact ⟨u,by simpa using u1,u2⟩
theorem Nu (h : eW X φ w N s Ha t) {k b off len : Nat} {y : AV} (hf : Nv s k b off len = some y) : pl y = true /\ ∀ v,bN (Rd X φ w) φ (ct N (.sl k b off len)) v -> bN (Rd X [] w) [] y v := by
 unfold Nv at hf;split at hf
 case h_2 => cases hf
 rename_i cs hb;split at hf
 case isFalse => cases hf
 rename_i hc;obtain ⟨rfl,hle⟩ := hc;split at hf
 case h_2 => cases hf
 rename_i ys hy;simp at hf;subst hf;refine ⟨rfl,fun v r => ?_⟩;obtain ⟨as,a1,a2,a3⟩ := h.box b cs hb;obtain ⟨g,sz,arr,e,g1,g2,g3,g4,g5,g6⟩ := h.heap.at a1;obtain ⟨k1,k2⟩ := II hy;have hyl : ys.length = len := by rw [k1,bg,List.length_drop]; omega
 simp only [ct] at r;cases r with
 | sl _ _ _ _ _ a cap gr iZ hh =>
   obtain ⟨h1,h2⟩ := hh g sz g1;by_cases h0 : len = 0
   ·subst h0;have : ys = [] := eI hyl;subst this;exact .tS _ _ _ _ _ _ (fun _ _ => undef) rfl iZ (fun x hx => by simp at hx) (fun i j x c hx => by simp at hx) (fun i j x c hx => by simp at hx)
   ·have ha := h1 (by omega);subst ha
    have cell : ∀ (i : Nat) (y : AV),ys[i]? = some y -> (pl y = true /\ y.cells = [y]) /\ ∃ u,w.cell? ⟨g,off + i,none⟩ = some u /\ bN (Rd X [] w) [] y u := by
     intro i y hi;obtain ⟨x,x1,x2⟩ := k2 i y hi
     have x3 : cs[off + i]? = some x := by
      rw [bF] at x1;split at x1
      ·rw [aV] at x1; exact x1
      ·cases x1
     obtain ⟨_,a',b1,b2⟩ := a3 _ x x3;obtain ⟨u,u1,u2⟩ := g6 _ a' b1;obtain ⟨c1,c2⟩ := Yf h (r := .c b (off + i)) (x := x) (by simp only [at_,hb]; exact x3) x2;exact ⟨c1,u,by rw [gL g2]; exact u1,c2 u (b2 _ _ _ u2)⟩
    refine .tS _ _ _ _ _ _ (fun i j => (w.cell? ⟨g,off + i,none⟩).getD undef) hyl.symm iZ (fun x hm => ?_) (fun i j x c hi hj => ?_) (fun i j x c hi hj => ?_)
    ·obtain ⟨i,hi⟩ := bD hm;rw [(cell i x hi).1.2]; rfl
    ·obtain ⟨⟨q1,q2⟩,u,u1,u2⟩ := cell i x hi;rw [q2] at hj;have hj0 : j = 0 := by have := aB hj; simp at this; exact this
     subst hj0;rw [u1,Addr.iu,show off + (i * 1 + 0) = off + i by omega];exact ⟨g5,bK.nil _,u1⟩
    ·obtain ⟨⟨q1,q2⟩,u,u1,u2⟩ := cell i x hi;rw [q2] at hj;have hj0 : j = 0 := by have := aB hj; simp at this; exact this
     subst hj0;simp at hj;subst hj;rw [u1];exact u2
mutual
theorem Nw (h : eW X φ w N s Ha t) : ∀ (x y : AV),PO s x = some y -> cr (aC s) s.H.length x -> (pl y = true /\ ∀ v,bN (Rd X φ w) φ (ct N x) v -> bN (Rd X [] w) [] y v)
 | .sl k b off len,y,hf,_ => by simp only [PO] at hf; exact Nu h hf
 | .dW cs,y,hf,hk => by
   simp only [PO] at hf;split at hf
   case h_2 => cases hf
   rename_i ds hd;simp at hf;subst hf;simp only [cr] at hk;obtain ⟨h1,h2,h3⟩ := IG h cs ds hd hk;refine ⟨h1,fun v r => ?_⟩;simp only [ct] at r;cases r with
   | dW _ _ vs hl hh => exact .dW _ _ _ (by rw [h2,<- dQ N cs]; exact hl) (fun i d u CC hu => h3 i d u CC (fun z hz => hh i z u hz hu))
 | .any,y,hf,hk => fu h _ y hf hk
 | .undef,y,hf,hk => fu h _ y hf hk
 | .fi,y,hf,hk => fu h _ y hf hk
 | .eV,y,hf,hk => fu h _ y hf hk
 | .dc,y,hf,hk => fu h _ y hf hk
 | .int _ _,y,hf,hk => fu h _ y hf hk
 | .bool _,y,hf,hk => fu h _ y hf hk
 | .str _,y,hf,hk => fu h _ y hf hk
 | .agg _,y,hf,hk => fu h _ y hf hk
 | .list _ _,y,hf,hk => fu h _ y hf hk
 | .cX _,y,hf,hk => fu h _ y hf hk
 | .ptr _ _,y,hf,hk => fu h _ y hf hk
 | .func _ _ _,y,hf,hk => fu h _ y hf hk
 | .own _ _,y,hf,hk => fu h _ y hf hk
 | .dp _ _ _ _,y,hf,hk => fu h _ y hf hk
 | .eK _ _ _ _,y,hf,hk => fu h _ y hf hk
theorem IG (h : eW X φ w N s Ha t) : ∀ (xs ys : List AV),IH s xs = some ys -> jK (aC s) s.H.length xs -> (j5 ys = true /\ ys.length = xs.length /\ ∀ (i : Nat) (y : AV) (v : Value),ys[i]? = some y -> (∀ z,(kq N xs)[i]? = some z -> bN (Rd X φ w) φ z v) -> bN (Rd X [] w) [] y v)
 | [],ys,hf,_ => by simp [IH] at hf; subst hf; exact ⟨rfl,rfl,fun i y v hy => by simp at hy⟩
 | x :: r,ys,hf,hk => by
   simp only [IH] at hf;split at hf
   case h_2 => cases hf
   rename_i y Qq h1 h2;simp at hf;subst hf;obtain ⟨a1,a2⟩ := Nw h x y h1 hk.1;obtain ⟨b1,b2,b3⟩ := IG h r Qq h2 hk.2;refine ⟨by simp only [j5,ab]; exact ⟨a1,b1⟩,by simp [b2],fun i z v hz hv => ?_⟩;cases i with
   | zero => simp [kq] at hz hv; subst hz; exact a2 v hv
   | succ i => simp [kq] at hz hv; exact b3 i z v hz hv
end
theorem FC (h : eW X φ w N s Ha t) : ∀ (xs ys : List AV),s6 s xs = some ys -> jK (aC s) s.H.length xs -> (j5 ys = true /\ ys.length = xs.length /\ ∀ (i : Nat) (y : AV) (v : Value),ys[i]? = some y -> (∀ z,(gD N xs)[i]? = some z -> bN (Rd X φ w) φ z v) -> bN (Rd X [] w) [] y v)
 | [],ys,hf,_ => by simp [s6] at hf; subst hf; exact ⟨rfl,rfl,fun i y v hy => by simp at hy⟩
 | x :: r,ys,hf,hk => by
   have gen : ∀ {y Qq},(pl y = true /\ ∀ v,bN (Rd X φ w) φ (ct N x) v -> bN (Rd X [] w) [] y v) -> s6 s r = some Qq -> (∀ k l,x ≠ .own k l) -> ys = y :: Qq -> (j5 ys = true /\ ys.length = (x :: r).length /\ ∀ (i : Nat) (y : AV) (v : Value),ys[i]? = some y -> (∀ z,(gD N (x :: r))[i]? = some z -> bN (Rd X φ w) φ z v) -> bN (Rd X [] w) [] y v) := by
    intro y Qq h1 h2 hn e;subst e;obtain ⟨a1,a2⟩ := h1;obtain ⟨b1,b2,b3⟩ := FC h r Qq h2 hk.2;have ex : fZ N x = ct N x := by cases x <;> first | rfl | exact absurd rfl (hn _ _)
    refine ⟨by simp only [j5,ab]; exact ⟨a1,b1⟩,by simp [b2],fun i z v hz hv => ?_⟩;cases i with
    | zero => simp [gD] at hz hv; subst hz; rw [ex] at hv; exact a2 v hv
    | succ i => simp [gD] at hz hv; exact b3 i z v hz hv
   by_cases ho : ∃ k,x = .own k []
   ·obtain ⟨k,rfl⟩ := ho;simp only [s6] at hf;split at hf
    case h_2 => cases hf
    rename_i Qq h2;simp at hf;subst hf;obtain ⟨b1,b2,b3⟩ := FC h r Qq h2 hk.2;refine ⟨by simp only [j5,pl,eD]; exact b1,by simp [b2],fun i z v hz hv => ?_⟩;cases i with
    | zero =>
      simp [gD,fZ] at hz hv;subst hz;cases hv;exact .jM _ _
    | succ i => simp [gD] at hz hv; exact b3 i z v hz hv
   ·have hn : ∀ k l,x ≠ .own k l := by
     rintro k l rfl;cases l with
     | nil => exact ho ⟨k,rfl⟩
     | cons z l => simp [s6,kg] at hf
    by_cases hsl : ∃ k b off len,x = .sl k b off len
    ·obtain ⟨k,b,off,len,rfl⟩ := hsl;simp only [s6] at hf;split at hf
     case h_2 => cases hf
     rename_i y Qq h1 h2;simp at hf;exact gen (Nu h h1) h2 hn hf.symm
    rw [s6] at hf
    ·split at hf
     case h_2 => cases hf
     rename_i y Qq h1 h2;simp at hf;exact gen (fu h x y h1 hk.1) h2 hn hf.symm
    ·exact fun k e => ho ⟨k,e⟩
    ·exact fun k b off len e => hsl ⟨k,b,off,len,e⟩
end
end Go.Bm

/- Calls of functions that see no boxes. -/
namespace Go.Bm
open Go.Am
section
variable {P : Program} {X : Nat -> Prop} {φ φ' : de} {w w' : World} {N N' : Names} {s s' s1 : St} {Ha Ha' : Heap} {t t' : Nat -> Value} {B : Nat -> Nat} {base : Nat} {v va : AV} {v' : Value} {c : dN} {o : Oper} {a : Act} {kd : Kd} {call : Nat -> List AV -> Heap -> Option (AV × Heap)}
def Kj (X : Nat -> Prop) (φ : de) (w : World) (B : Nat -> Nat) (base : Nat) (r : AV) (H' : Heap) (e : Ending) (w' : World) : Prop :=
 ∃ v' φ',e = .returned v' /\ SB X φ' w' B base ⟨[(0,r)],H'⟩ (fun i => if i = 0 then v' else undef) /\ fB φ w φ' w'
def gO (P : Program) (c : dN) (call : Nat -> List AV -> Heap -> Option (AV × Heap)) : Prop :=
 ∀ f md q,c.fn f = some (md,q) -> ∀ args H r H',(md.sh = true \/ H = []) -> call f args H = some (r,H') -> (md.sh = true -> gj H' = true) -> ∀ X φ w B (vargs : Array Value),args.length = vargs.size -> SB X φ w B H.length ⟨dH 0 args,H⟩ (fun i => vargs.getD i undef) -> Am.dL (gZ c) X φ w -> Calls P f vargs w (Kj X φ w B H.length r H')
theorem wu (cO : fk P c) {f : Nat} {m : Md} {q : fO} (hf : c.fn f = some (m,q)) (vargs : Array Value) : (callFunc f vargs).run P w = .ok (.enter f vargs) w := by
 obtain ⟨fn,h1,h2⟩ := cO.fn f m q hf;simp only [cj,ab,bt] at h2;obtain ⟨⟨⟨_,IC⟩,_⟩,rS⟩ := h2
 have hb : fn.body.isNone = false := by
  cases hfb : fn.body with
  | none => rw [hfb] at rS; cases rS
  | some b => rfl
 simp only [callFunc,Sem.run_bind,run_program,Result.andThen_ok,h1,IC,hb,aX,if_false,Sem.run_pure]
def Km (R : Addr -> Value -> Prop) (φ : de) (N : Names) (xs : List AV) (vs : Array Value) : Prop := xs.length = vs.size /\ ∀ (i : Nat) (x : AV) (v : Value),xs[i]? = some x -> vs[i]? = some v -> bN R φ (fZ N x) v
theorem Km.append {R : Addr -> Value -> Prop} {xs ys : List AV} {vs us : Array Value} (h : Km R φ N xs vs) (k : Km R φ N ys us) : Km R φ N (xs ++ ys) (vs ++ us) := by
 refine ⟨by simp [h.1,k.1],fun i x v hx hv => ?_⟩;by_cases hi : i < xs.length
 ·rw [av hi] at hx;rw [qm (by have := h.1; omega)] at hv;exact h.2 i x v hx hv
 ·rw [aQ (by omega)] at hx;rw [GB (by have := h.1; omega),<- h.1] at hv;exact k.2 _ x v hx hv
theorem YC {op : Op} {f : Nat} {ys : List E} (h : cG P op (.call f ys) = true) : ∃ ca : Call,op = .call ca /\ ca.callee = .value (.func f) /\ iB ca.args.toList ys = true := by
 unfold cG at h;split at h <;> simp_all
theorem U8 {op : Op} {y : E} {ys : List E} (h : cG P op (.gw y ys) = true) : ∃ (ca : Call) (x : Operand),op = .call ca /\ ca.callee = .value x /\ cN x y = true /\ iB ca.args.toList ys = true := by
 unfold cG at h;split at h <;> simp_all
theorem ny (cO : fk P c) (h : eW X φ w N s Ha (tm a)) (hg : Am.dL (gZ c) X φ w) (hk : cG P o.op (kU kd) = true) {f : Nat} {args : List AV} (ha : nu c s.env kd = some (f,args)) {md : Md} {q : fO} (hf : c.fn f = some (md,q)) :
  ∃ vargs : Array Value,(execOp a.eval o).run P w = .ok (.enter f vargs) w /\ Km (Rd X φ w) φ N args vargs /\ jK (aC s) s.H.length args := by
 have he : nE X φ w (x8 N s.env) a.tmps := fun i => by rw [kT]; exact h.env i
 have Yk : ∀ {os : Array Operand} {xs : List E},iB os.toList (Bn xs) = true -> Km (Rd X φ w) φ N (di c s.env xs) (os.map a.eval) /\ jK (aC s) s.H.length (di c s.env xs) := by
  intro os xs hk;obtain ⟨e1,e2⟩ := rM (cA := gZ c) h rfl hk;obtain ⟨hl,hr⟩ := mU (a := a) he hg hk;rw [e1,iw] at hl;refine ⟨⟨by simpa using hl,fun i x v hx hv => ?_⟩,e2⟩;refine hr i (fZ N x) v (by rw [e1,m8,hx]; rfl) (by simpa using hv)
 cases kd <;> simp only [nu,reduceCtorEq] at ha
 case call f' ys =>
  simp only [aj,aF] at ha;obtain ⟨rfl,rfl⟩ := ha;obtain ⟨ca,fe,B7,kS⟩ := YC hk;obtain ⟨e1,e2⟩ := Yk kS;refine ⟨ca.args.map a.eval,?_,e1,e2⟩;simp only [execOp,fe,resolve,B7,Act.eval,Deferred.ofValue,invoke,Sem.run_bind,Sem.run_pure,Result.andThen_ok,Array.empty_append,Array.append_empty];exact wu cO hf _
 case gw y ys =>
  obtain ⟨ca,x,fe,B7,hx,kS⟩ := U8 hk;have ho := cn (c := c) (cA := gZ c) h rfl hx;have rx := bM (a := a) he hg hx;rw [ho.ev] at rx;have GU := ho.ok;cases e : bn c s.env y <;> rw [e] at ha rx GU <;> try (simp at ha; done)
  rename_i fn as bs;cases fn <;> simp only [reduceCtorEq] at ha
  rename_i f';split at ha
  ·cases ha
  rename_i gY;simp only [er,not_or,Bool.not_eq_true] at gY;simp only [aj,aF] at ha;obtain ⟨rfl,rfl⟩ := ha;obtain ⟨e1,e2⟩ := Yk kS;simp only [fZ,ct] at rx;simp only [cr] at GU;generalize Oo : a.eval x = ax at rx;cases rx with
  | func _ _ _ va _ vb B6 B5 hra hrb =>
    rw [dQ] at B6 B5;have c1 : Km (Rd X φ w) φ N as va := ⟨B6,fun i x v hx hv => hra i _ v (by rw [<- jT N gY.1,m8,hx]; rfl) hv⟩;have c3 : Km (Rd X φ w) φ N bs vb := ⟨B5,fun i x v hx hv => hrb i _ v (by rw [<- jT N gY.2,m8,hx]; rfl) hv⟩;refine ⟨va ++ ca.args.map a.eval ++ vb,?_,(c1.append e1).append c3,pj (pj GU.1 e2) GU.2⟩;simp only [execOp,fe,resolve,B7,Oo,Deferred.ofValue,invoke,Sem.run_bind,Sem.run_pure,Result.andThen_ok];exact wu cO hf _
mutual
theorem Si {R : Addr -> Value -> Prop} {φ : de} (N : Names) : ∀ (x : AV) {v : Value},bN R φ (ct N x) v -> bN R φ (ct N (Sj x)) v
 | .dp k p off n,v,r => by
   unfold Sj;split
   ·rename_i h; subst h;simp only [ct] at r ⊢;split at r
    ·cases r with
     | sl _ _ _ _ _ a cap hb hc h => exact .tS _ _ _ _ _ _ (fun _ _ => undef) rfl hc (fun x hx => by simp at hx) (fun i j x c hx => by simp at hx) (fun i j x c hx => by simp at hx)
    ·cases r; exact .jM _ _
   ·exact r
 | .agg cs,v,r => by
   simp only [Sj,ct] at r ⊢;cases r with
   | agg _ _ vs hl h =>
     obtain ⟨l1,l2⟩ := E3 (R := R) (φ := φ) N cs;refine .agg _ _ _ (by rw [dQ,l1,<- dQ N cs]; exact hl) fun i c u hc hu => ?_;rw [vw] at hc;cases e : (zC cs)[i]? with
     | none => rw [e] at hc; cases hc
     | some y =>
       rw [e] at hc;simp only [cJ,aj] at hc;subst hc;obtain ⟨x,hx⟩ := bc (l := cs) (i := i) (by have := aB e; omega);exact l2 i x y u hx e (h i _ u (by rw [vw,hx]; rfl) hu)
 | .any,v,r => r | .undef,v,r => r | .fi,v,r => r | .eV,v,r => r | .dc,v,r => r
 | .int _ _,v,r => r | .bool _,v,r => r | .str _,v,r => r | .dW _,v,r => r
 | .list _ _,v,r => r | .cX _,v,r => r | .ptr _ _,v,r => r | .sl _ _ _ _,v,r => r
 | .func _ _ _,v,r => r | .own _ _,v,r => r | .eK _ _ _ _,v,r => r
theorem E3 {R : Addr -> Value -> Prop} {φ : de} (N : Names) : ∀ (cs : List AV),(zC cs).length = cs.length /\ ∀ (i : Nat) (x y : AV) (v : Value),cs[i]? = some x -> (zC cs)[i]? = some y -> bN R φ (ct N x) v -> bN R φ (ct N y) v
 | [] => ⟨rfl,fun i x y v hx => by simp at hx⟩
 | c :: r => by
   obtain ⟨l1,l2⟩ := E3 (R := R) (φ := φ) N r;refine ⟨by simp [zC,l1],fun i x y v hx hy rr => ?_⟩;cases i with
   | zero => simp [zC] at hx hy; subst hx; subst hy; exact Si N c rr
   | succ i => exact l2 i x y v (by simpa using hx) (by simpa [zC] using hy) rr
end
theorem W4 {R : Addr -> Value -> Prop} {φ : de} (N : Names) (x : AV) {v : Value} (r : bN R φ (fZ N x) v) : bN R φ (fZ N (Sj x)) v := by
 by_cases h : ∃ k xs,x = .own k xs
 ·obtain ⟨k,xs,rfl⟩ := h;simpa [Sj] using r
 ·have e1 : fZ N x = ct N x := by cases x <;> first | rfl | exact absurd ⟨_,_,rfl⟩ h
  have e2 : fZ N (Sj x) = ct N (Sj x) := by
   cases x <;> simp only [Sj] <;> first | rfl | exact absurd ⟨_,_,rfl⟩ h | (split <;> rfl)
  rw [e2];rw [e1] at r;exact Si N x r
mutual
theorem adE {o : Rt -> Option (Nat × List AV)} {nb : Nat} : ∀ (x : AV),cr o nb x -> cr o nb (Sj x)
 | .dp k p off n,h => by
   unfold Sj;split
   ·trivial
   ·exact h
 | .agg cs,h => by
   simp only [Sj,cr] at h ⊢;exact JJ cs h
 | .any,h => h | .undef,h => h | .fi,h => h | .eV,h => h | .dc,h => h
 | .int _ _,h => h | .bool _,h => h | .str _,h => h | .dW _,h => h
 | .list _ _,h => h | .cX _,h => h | .ptr _ _,h => h | .sl _ _ _ _,h => h
 | .func _ _ _,h => h | .own _ _,h => h | .eK _ _ _ _,h => h
theorem JJ {o : Rt -> Option (Nat × List AV)} {nb : Nat} : ∀ (cs : List AV),jK o nb cs -> jK o nb (zC cs)
 | [],_ => trivial
 | x :: r,h => ⟨adE x h.1,JJ r h.2⟩
end
theorem Mq : ∀ (cs : List AV) (i : Nat),(zC cs)[i]? = (cs[i]?).map Sj
 | [],i => by simp [zC]
 | x :: r,i => by cases i <;> simp [zC,Mq r]
theorem xO (cO : fk P c) (h : eW X φ w N s Ha (tm a)) (hg : Am.dL (gZ c) X φ w) (hk : cG P o.op (kU kd) = true) {f : Nat} {args : List AV} (ha : getArgs c s.env kd = some (f,args)) {md : Md} {q : fO} (hf : c.fn f = some (md,q)) :
  ∃ vargs : Array Value,(execOp a.eval o).run P w = .ok (.enter f vargs) w /\ Km (Rd X φ w) φ N args vargs /\ jK (aC s) s.H.length args := by
 unfold getArgs at ha;cases h0 : nu c s.env kd with
 | none => rw [h0] at ha; cases ha
 | some z =>
   obtain ⟨f0,acB⟩ := z;rw [h0] at ha;simp only [aj,aF] at ha;obtain ⟨rfl,rfl⟩ := ha;obtain ⟨vargs,h1,h2,h3⟩ := ny cO h hg hk h0 hf;refine ⟨vargs,h1,?_⟩;split
   ·refine ⟨⟨?_,fun i x v hx hv => ?_⟩,JJ _ h3⟩
    ·have l1 := (E3 (R := Rd X φ w) (φ := φ) N acB).1;rw [l1]; exact h2.1
    ·rw [Mq] at hx;cases e : acB[i]? with
     | none => rw [e] at hx; cases hx
     | some y =>
       rw [e] at hx;simp only [cJ,aj] at hx;subst hx;exact W4 N y (h2.2 i y v e hv)
   ·exact ⟨h2,h3⟩
theorem As (N : Names) (i : Nat) {x : AV} (h : pl x = true) : jS N i x = x := by
 by_cases ha : ∃ cs,x = .agg cs
 ·obtain ⟨cs,rfl⟩ := ha;simp only [jS];simp only [pl] at h;congr 1;apply cY;intro j;rw [fH];cases hc : cs[j]? with
  | none => rfl
  | some d =>
    simp only [cJ]
    have hd : pl d = true := by
     have : ∀ {l : List AV},j5 l = true -> ∀ z ∈ l,pl z = true := by
      intro l
      induction l with
      | nil => intro _ z hz; simp at hz
      | cons y r ih =>
        intro h z hz;simp only [j5,ab] at h;rcases aJ.1 hz with e | e
        ·subst e; exact h.1
        ·exact ih h.2 z e
     exact this h d (bf hc)
    congr 1;cases d <;> first | exact kG N _ hd | (simp [pl] at hd; done)
 ·have hn : jr x := fun cs e => ha ⟨cs,e⟩;cases x <;> first | exact kG N _ h | exact absurd rfl (hn _) | (simp [pl] at h; done)
theorem xx {x : AV} (h : pl x = true) : bI x = false := by
 cases x <;> first | rfl | (simp [pl] at h; done) | skip
 rename_i cs;simp only [pl] at h;simp only [bI]
 induction cs with
 | nil => rfl
 | cons y r ih =>
   simp only [j5,ab] at h;have h1 := h.1;cases y <;> first | exact ih h.2 | (simp [pl] at h1; done)
theorem gf : ∀ {l : List AV},j5 l = true -> ∀ (i : Nat) (z : AV),l[i]? = some z -> pl z = true
 | [],_,i,z,hz => by simp at hz
 | y :: r,h,i,z,hz => by
   simp only [j5,ab] at h;cases i with
   | zero => simp at hz; subst hz; exact h.1
   | succ i => exact gf h.2 i z (by simpa using hz)
theorem SB.start {args : List AV} {vargs : Array Value} (hx : ∀ g,X g -> g < w.heap.size) (hp : j5 args = true) (hl : args.length = vargs.size) (hr : ∀ (i : Nat) (x : AV) (v : Value),args[i]? = some x -> vargs[i]? = some v -> bN (Rd X [] w) [] x v) (B : Nat -> Nat) :
  SB X [] w B 0 ⟨dH 0 args,[]⟩ (fun i => vargs.getD i undef) := by
 have Fv : ∀ i,get (dH 0 args) i = args[i]?.getD .any := fun i => by rw [rT]; simp
 have pR : ∀ i,pl (get (dH 0 args) i) = true := fun i => by
  rw [Fv];cases e : args[i]? with
  | none => rfl
  | some x => exact gf hp i x e
 have gY : ∀ p,aC ⟨dH 0 args,[]⟩ p = none := by
  intro p;cases p with
  | s i => exact (dY (s := ⟨dH 0 args,[]⟩) (xx (pR i))).1
  | sc i j => exact (dY (s := ⟨dH 0 args,[]⟩) (xx (pR i))).2 j
  | c b j => unfold aC; simp [at_,aH]
 refine ⟨⟨fun _ => 0,fun _ => none⟩,[],⟨fun i => ?_,fun i => wR _ (pR i),⟨rfl,hx,fun b cs hb => by simp at hb,fun b hb => by simp at hb,fun b b' g sz m9 h1 => by simp at h1⟩,fun p k xs e => ?_,fun b cs e => ?_,fun p q n e1 => ?_,fun b p e1 => ?_,fun b d e1 => ?_⟩,fun b hb => by omega,Tw _⟩
 ·rw [As _ _ (pR i),Fv];cases e : args[i]? with
  | none => exact .any _ _
  | some x =>
    obtain ⟨v,hv⟩ := cP (l := vargs) (i := i) (by have := aB e; omega);simp only [jJ];rw [aY,hv];exact hr i x v e hv
 ·rw [gY] at e; cases e
 ·simp [aH] at e
 ·rw [gY] at e1; cases e1
 ·simp [aH] at e1
 ·simp [aH] at e1
end
end Go.Bm

/- Calls of functions that see no boxes: what comes back. -/
namespace Go.Bm
open Go.Am
mutual
theorem Bo {R R' : Addr -> Value -> Prop} {φ φ' : de} {N N' : Names} : ∀ x,clean x = true -> ∀ v,bN R φ (ct N x) v -> bN R' φ' (ct N' x) v
 | .list k xs,h,v,r => by
   simp only [clean,eY] at h;subst h;simp only [ct] at r ⊢;cases r with
   | tS _ _ _ a n cap u hn iZ hk hu hh => subst hn; exact .tS _ _ _ _ _ _ u rfl iZ hk (fun i j x c hx => by simp at hx) (fun i j x c hx => by simp at hx)
   | jM => exact .jM _ _
 | .agg cs,h,v,r => by
   simp only [clean] at h;simp only [ct] at r ⊢;cases r with
   | agg _ _ vs hl hh => exact .agg _ _ _ (by rw [dQ] at hl ⊢; exact hl) (fun i d u hd hu => xQ cs h i d u hd (fun z hz => hh i z u hz hu))
 | .dW cs,h,v,r => by
   simp only [clean] at h;simp only [ct] at r ⊢;cases r with
   | dW _ _ vs hl hh => exact .dW _ _ _ (by rw [dQ] at hl ⊢; exact hl) (fun i d u hd hu => xQ cs h i d u hd (fun z hz => hh i z u hz hu))
 | .own _ _,_,v,_ => .any _ _
 | .cX _,h,_,_ => by simp [clean] at h
 | .any,h,_,_ => by simp [clean] at h
 | .func _ _ _,h,_,_ => by simp [clean] at h
 | .dp _ _ _ _,h,_,_ => by simp [clean] at h
 | .eK _ _ _ _,h,_,_ => by simp [clean] at h
 | .ptr _ _,h,_,_ => by simp [clean] at h
 | .sl _ _ _ _,h,_,_ => by simp [clean] at h
 | .undef,_,v,r => by simp only [ct] at r ⊢; cases r; exact .undef _
 | .fi,_,v,r => by simp only [ct] at r ⊢; cases r; exact .fi _
 | .eV,_,v,r => by simp only [ct] at r ⊢; cases r; exact .eV _
 | .dc,_,v,r => by simp only [ct] at r ⊢; cases r; exact .dc _
 | .int _ _,_,v,r => by simp only [ct] at r ⊢; cases r; exact .int _ _ _
 | .bool _,_,v,r => by simp only [ct] at r ⊢; cases r; exact .bool _ _
 | .str _,_,v,r => by simp only [ct] at r ⊢; cases r; exact .str _ _
theorem xQ {R R' : Addr -> Value -> Prop} {φ φ' : de} {N N' : Names} : ∀ cs,fj cs = true -> ∀ (i : Nat) (d : AV) (u : Value),(kq N' cs)[i]? = some d -> (∀ z,(kq N cs)[i]? = some z -> bN R φ z u) -> bN R' φ' d u
 | [],_,i,d,u,h,_ => by simp [kq] at h
 | x :: r,hc,i,d,u,h,hz => by
   simp only [fj,ab] at hc;cases i with
   | zero => simp [kq] at h hz; subst h; exact Bo x hc.1 u hz
   | succ i => simp [kq] at h hz; exact xQ r hc.2 i d u h hz
end
mutual
theorem NO {o : Rt -> Option (Nat × List AV)} {nb : Nat} : ∀ x,clean x = true -> cr o nb x
 | .list _ _,_ => trivial
 | .agg cs,h => by simp only [clean] at h; exact Bp cs h
 | .dW cs,h => by simp only [clean] at h; exact Bp cs h
 | .own _ _,_ => trivial
 | .cX _,h => by simp [clean] at h
 | .any,h => by simp [clean] at h
 | .func _ _ _,h => by simp [clean] at h
 | .dp _ _ _ _,h => by simp [clean] at h
 | .eK _ _ _ _,h => by simp [clean] at h
 | .ptr _ _,h => by simp [clean] at h
 | .sl _ _ _ _,h => by simp [clean] at h
 | .undef,_ => trivial
 | .fi,_ => trivial
 | .eV,_ => trivial
 | .dc,_ => trivial
 | .int _ _,_ => trivial
 | .bool _,_ => trivial
 | .str _,_ => trivial
theorem Bp {o : Rt -> Option (Nat × List AV)} {nb : Nat} : ∀ cs,fj cs = true -> jK o nb cs
 | [],_ => trivial
 | x :: r,h => by simp only [fj,ab] at h; exact ⟨NO x h.1,Bp r h.2⟩
end
theorem NP {x : AV} (h : clean x = true) : ∀ d ∈ x.cells,clean d = true := by
 have all : ∀ {l : List AV},fj l = true -> ∀ z ∈ l,clean z = true := by
  intro l
  induction l with
  | nil => intro _ z hz; simp at hz
  | cons y r ih =>
    intro h z hz;simp only [fj,ab] at h;rcases aJ.1 hz with e | e
    ·subst e; exact h.1
    ·exact ih h.2 z e
 intro d hd;by_cases ha : ∃ cs,x = .agg cs
 ·obtain ⟨cs,rfl⟩ := ha;simp only [clean] at h;exact all h d hd
 ·have : x.cells = [x] := by cases x <;> first | rfl | exact absurd ⟨_,rfl⟩ ha
  rw [this] at hd;simp at hd;subst hd;exact h
theorem P5 {l : List AV} (h : fj l = true) : ∀ z ∈ l,clean z = true := by
 induction l with
 | nil => intro z hz; simp at hz
 | cons y r ih =>
   intro z hz;simp only [fj,ab] at h;rcases aJ.1 hz with e | e
   ·subst e; exact h.1
   ·exact ih h.2 z e
theorem vt (N : Names) (i : Nat) {x : AV} (h : bI x = false) : jS N i x = ct N x := by
 by_cases ha : ∃ cs,x = .agg cs
 ·obtain ⟨cs,rfl⟩ := ha;simp only [bI] at h;simp only [jS,ct];congr 1;apply cY;intro j;rw [fH,vw];cases hc : cs[j]? with
  | none => rfl
  | some d =>
    simp only [cJ];congr 1;have := B8 h d (bf hc);cases d <;> first | rfl | exact absurd rfl (this _ _)
 ·cases x <;> first | rfl | exact absurd ⟨_,rfl⟩ ha | (simp [bI] at h; done)
section
variable {P : Program} {X : Nat -> Prop} {φ nG φ' : de} {w w1 w' : World} {N N1 N' : Names} {s s' s1 : St} {Ha H1 Ha' : Heap} {t t1 t' : Nat -> Value} {B : Nat -> Nat} {base : Nat} {v va : AV} {v' : Value} {c : dN} {o : Oper} {a : Act} {kd : Kd} {call : Nat -> List AV -> Heap -> Option (AV × Heap)}
theorem acD (h : eW X φ w N s Ha t) (hb : (∀ b,b < base -> N.β b = B b) /\ base <= s.H.length) (ad : fB [] w nG w1) {k : Nat} {xs : List AV} {H' : Heap} (h1 : eW X nG w1 N1 ⟨[(0,.own k xs)],H'⟩ H1 t1) (hc : fj xs = true) :
  ∃ φ',dV X φ' w1 B base s (.own k xs) t (t1 0) /\ fB φ w φ' w1 := by
 have ho1 : aC ⟨[(0,.own k xs)],H'⟩ (.s 0) = some (k,xs) := rfl;have fA := h1.own (.s 0) k xs ho1;have hr := h1.env 0;simp only [Am.get,if_true,jS,je,rK] at hr;cases hn : N1.ν (.s 0) with
 | none =>
   rw [hn] at fA hr;have hx : xs = [] := fA;subst hx;refine ⟨φ,dV.quiet (h.m6 (.of_same ad) (h.heap.of_same ad) h.own (fun _ _ => rfl)) hb trivial (by simp [EO]) ?_,.of_same ad⟩;simp only at hr;simp only [vv];generalize t1 0 = z at hr ⊢;cases hr;exact .dc _
 | some n1 =>
   rw [hn] at fA hr;simp only at hr;obtain ⟨g,sz,kF,hX,kz⟩ := vF h1.heap fA;obtain ⟨cs,c1,c2,c3,c4⟩ := fA;obtain ⟨g',m9,arr,e,f1,f2,f3,f4,f5,f6⟩ := h1.heap.at c1;rw [kF] at f1;cases f1;have hgs : w.heap.size <= g := Nat.le_of_not_lt fun bA => (ad.keep g bA (bK.nil g)).2 ⟨n1,sz,kF⟩;have hfl := jx c3
   have m6 : fB φ w (φ ++ [some (g,sz)]) w1 := by
    refine ⟨ad.os,ad.tape,ad.output,ad.drawn,ad.size,fun g0 bA gY => ⟨(ad.keep g0 bA (bK.nil g0)).1,fun ho => ?_⟩,⟨by simp,fun b p hb hp => by rwa [av hb] at hp⟩⟩;rcases zp ho with h2 | h2
    ·exact gY h2
    ·simp at h2; omega
   have hh : b6 X (φ ++ [some (g,sz)]) w1 (Ha ++ [some (aE xs)]) := by
    refine ⟨by simp [h.heap.len],fun g0 hg0 => gQ (h.heap.GL g0 hg0) ad.size,fun b ds vT => ?_,fun b vT => ?_,fun b b' g0 Vq sz1 e1 e2 => ?_⟩
    ·by_cases bA : b < Ha.length
     ·rw [av bA] at vT;obtain ⟨g0,Vq,arr0,e0,p1,p2,p3,p4,p5,p6⟩ := h.heap.live b ds vT;refine ⟨g0,Vq,arr0,e0,by rw [av (by rw [h.heap.len]; exact bA)]; exact p1,?_,p3,p4,p5,fun i d hd => ?_⟩
      ·rw [(ad.keep g0 (dx.1 p2).1 (bK.nil g0)).1]; exact p2
      ·obtain ⟨u,u1,u2⟩ := p6 i d hd;exact ⟨u,u1,m6.rep u2⟩
     ·have CE : b = Ha.length := by have := aB vT; simp at this; omega
      subst CE;simp at vT;subst vT;refine ⟨g,sz,arr,e,by rw [<- h.heap.len]; simp,f2,f3,by omega,hX,fun i d hd => ?_⟩;obtain ⟨i',z,j,z1,z2,z3⟩ := (gW c3).2 i d hd;obtain ⟨u,u1,u2,u3⟩ := kz i' j z d z1 z2;refine ⟨u,by rw [gL f2] at u1; rw [z3]; exact u1,?_⟩;have PJ := NP (P5 hc z (bf z1)) d (bf z2);have pR := (lu u2).1;have := Bo (N := N) (N' := N) (R' := Rd X (φ ++ [some (g,sz)]) w1) (φ' := φ ++ [some (g,sz)]) d PJ u (by rw [kG N _ pR]; exact u3)
      rwa [kG N _ pR] at this
    ·by_cases bA : b < Ha.length
     ·rw [av bA] at vT;rw [av (by rw [h.heap.len]; exact bA)];exact h.heap.dead b vT
     ·have CE : b = Ha.length := by have := aB vT; simp at this; omega
      subst CE;simp at vT
    ·have new : ∀ (b g0 Vq : Nat),(φ ++ [some (g,sz)])[b]? = some (some (g0,Vq)) -> (b < φ.length /\ φ[b]? = some (some (g0,Vq)) /\ g0 < w.heap.size) \/ (b = φ.length /\ g0 = g) := by
      intro b g0 Vq hb;by_cases bA : b < φ.length
      ·rw [av bA] at hb;exact .inl ⟨bA,hb,(h.heap.gU ⟨b,Vq,hb⟩).1⟩
      ·have gr := aB hb;simp at gr;have CE : b = φ.length := by omega
       subst CE;simp at hb;exact .inr ⟨rfl,hb.1.symm⟩
     rcases new b g0 Vq e1 with ⟨l1,q1,g1⟩ | ⟨l1,g1⟩ <;> rcases new b' g0 sz1 e2 with ⟨l2,q2,g2⟩ | ⟨l2,g2⟩
     ·exact h.heap.inj b b' g0 Vq sz1 q1 q2
     ·omega
     ·omega
     ·omega
   refine ⟨φ ++ [some (g,sz)],zS h hb m6 hh (by omega) c3 (fun i d hd => ?_) ?_,m6⟩
   ·obtain ⟨i',z,j,z1,z2,z3⟩ := (gW c3).2 i d hd;obtain ⟨u,u1,u2,u3⟩ := kz i' j z d z1 z2;exact ⟨u2,d,hd,(lu u2).2,Le.refl _⟩
   ·generalize t1 0 = z at hr;cases hr with
    | sl _ _ _ _ _ ad' cap gr iZ Zl =>
      refine .sl _ _ _ _ _ _ _ (by simp [h.heap.len]) iZ fun g0 Vq e0 => ?_;rw [<- h.heap.len] at e0;simp at e0;obtain ⟨rfl,rfl⟩ := e0;exact Zl g sz kF
theorem Ya {X' : Nat -> Prop} (hg : Am.dL (gZ c) X φ w) (hx : ∀ g,X' g -> X g \/ bK φ g) : Am.dL (gZ c) X' [] w := fun g => (hg g).mono (fun a u ⟨h1,h2,h3⟩ => ⟨fun h => (hx _ h).elim h1 h2,bK.nil _,h3⟩) (.refl _)
theorem Pe (cO : fk P c) (dU : gO P c call) (h : SB X φ w B base s (tm a)) (hg : Am.dL (gZ c) X φ w) (hk : cG P o.op (kU kd) = true) {f : Nat} {args ql : List AV} (ha : getArgs c s.env kd = some (f,args)) {md : Md} {q : fO} (hf : c.fn f = some (md,q)) (jo : md.sh = false) (hz : s6 s args = some ql) {r : AV} {H' : Heap} (hc : call f ql [] = some (r,H')) (hr : Mm r = true) : kY P X φ w B base s r o a := by
 obtain ⟨N,Ha,h,hb⟩ := h;obtain ⟨vargs,nn,hA,zO⟩ := xO cO h hg hk ha hf;obtain ⟨z1,z2,z3⟩ := FC h args ql hz zO
 have IB := SB.start (X := X) (w := w) (args := ql) (vargs := vargs) h.heap.GL z1 (by rw [z2]; exact hA.1) (fun i x v hx hv => z3 i x v hx (fun z hz => by
  rw [m8] at hz;cases Nq : args[i]? with
  | none => rw [Nq] at hz; cases hz
  | some y => rw [Nq] at hz; simp at hz; subst hz; exact hA.2 i y v Nq hv)) (fun _ => 0)
 have kf := dU f md q hf ql [] r H' (.inr rfl) hc (fun e => by rw [jo] at e; cases e) X [] w (fun _ => 0) vargs (by rw [z2]; exact hA.1) IB (Ya hg fun g h => .inl h);intro K Q hK;unfold Oper.wp;rw [nn,Oper.upon_enter];refine kf.mono ?_;rintro e w1 ⟨v',nG,rfl,⟨N1,H1,gE,_⟩,ad⟩;unfold Mm at hr;simp only [ab] at hr;by_cases ho : ∃ k xs,r = .own k xs
 ·obtain ⟨k,xs,rfl⟩ := ho;obtain ⟨φ',hp,ad'⟩ := acD h hb ad gE (by simpa [clean] using hr.1);exact hK v' w1 φ' (by simpa using hp) ad'
 ·have gY : bI r = false := by
   have := hr.2;cases r <;> first | exact absurd ⟨_,_,rfl⟩ ho | simpa using this
  refine hK v' w1 φ (dV.quiet (h.m6 (.of_same ad) (h.heap.of_same ad) h.own (fun _ _ => rfl)) hb (NO r hr.1) (mR gY) ?_) (.of_same ad);have r0 := gE.env 0;simp only [Am.get,if_true] at r0;rw [vt N1 0 gY] at r0;rw [kH N gY];exact Bo r hr.1 v' r0
theorem Pd (cO : fk P c) (dU : gO P c call) (h : SB X φ w B base s (tm a)) (hg : Am.dL (gZ c) X φ w) (hk : cG P o.op (kU kd) = true) {f : Nat} {args : List AV} (ha : getArgs c s.env kd = some (f,args)) {md : Md} {q : fO} (hf : c.fn f = some (md,q)) (jo : md.sh = false) (hz : j5 (args.map gI) = true) {r : AV} {H' : Heap} (hc : call f (args.map gI) [] = some (r,H')) (hr : pl r = true) : kY P X φ w B base s r o a := by
 obtain ⟨N,Ha,h,hb⟩ := h;obtain ⟨vargs,nn,hA,zO⟩ := xO cO h hg hk ha hf;have Bc : ∀ a u,Rd X φ w a u -> Rd (fun g => X g \/ bK φ g) [] w a u := fun a u ⟨h1,h2,h3⟩ => ⟨fun h => h.elim h1 h2,bK.nil _,h3⟩
 have IB := SB.start (X := fun g => X g \/ bK φ g) (w := w) (args := args.map gI) (vargs := vargs) (fun g hg => hg.elim (h.heap.GL g) (fun ho => (h.heap.gU ho).1)) hz (by simpa using hA.1) (fun i x v hx hv => by
  rw [df] at hx;cases Nq : args[i]? with
  | none => rw [Nq] at hx; cases hx
  | some y =>
    rw [Nq] at hx;simp at hx;subst hx;have r0 := hA.2 i y v Nq hv;have hpy := gf hz i (gI y) (by rw [df,Nq]; rfl);by_cases ho : ∃ k,y = .own k []
    ·obtain ⟨k,rfl⟩ := ho;simp only [fZ] at r0;cases r0;exact .jM _ _
    ·have hn : gI y = y := by
      unfold gI;split
      ·rename_i k; exact absurd ⟨k,rfl⟩ ho
      ·rfl
     rw [hn] at hpy ⊢;have hy : fZ N y = y := by cases y <;> first | exact kG N _ hpy | (simp [pl] at hpy; done)
     rw [hy] at r0;exact (r0.dA (gH _ hpy) []).mono Bc (.refl _)) (fun _ => 0)
 have kf := dU f md q hf (args.map gI) [] r H' (.inr rfl) hc (fun e => by rw [jo] at e; cases e) (fun g => X g \/ bK φ g) [] w (fun _ => 0) vargs (by simpa using hA.1) IB (Ya hg fun g h => h);intro K Q hK;unfold Oper.wp;rw [nn,Oper.upon_enter];refine kf.mono ?_;rintro e w1 ⟨v',nG,rfl,⟨N1,H1,gE,_⟩,ad⟩;have gY := xx hr;refine hK v' w1 φ (dV.quiet (h.m6 (.of_same ad) (h.heap.of_same ad) h.own (fun _ _ => rfl)) hb (wR r hr) (mR gY) ?_) (.of_same ad);have r0 := gE.env 0;simp only [Am.get,if_true] at r0;rw [As N1 0 hr] at r0;rw [kH N gY,kG N _ hr];exact ((r0.dA (gH _ hr) []).mono (fun a u ⟨h1,_,h3⟩ => ⟨fun h => h1 (.inl h),fun h => h1 (.inr h),h3⟩) (.refl _)).Im φ
end
end Go.Bm

/- Regions in the order of the text; their ends. -/
namespace Go.Bm
open Go.Am
section
variable {P : Program} {X : Nat -> Prop} {φ nG φ' : de} {w w1 w' : World} {N1 N' : Names} {s s' s1 : St} {B : Nat -> Nat} {base : Nat} {v va : AV} {v' : Value} {c : dN} {o : Oper} {a : Act} {kd : Kd} {call : Nat -> List AV -> Heap -> Option (AV × Heap)}
structure Ah (X : Nat -> Prop) (φ : de) (w : World) (B : Nat -> Nat) (base : Nat) (s : St) (a : Act) (N : Nat) : Prop where
 sb : SB X φ w B base s (tm a)
 defers : a.defers = []
 size : a.tmps.size = N
theorem acK {a : Act} {d : Option Nat} {v' : Value} (hd : ∀ i,d = some i -> i < a.tmps.size) (j : Nat) : tm (a.put d v') j = if some j = d then v' else tm a j := by
 cases d with
 | none => simp [tm,Act.put]
 | some i =>
   have hi := hd i rfl;simp only [tm,Act.put,aY];by_cases e : j = i
   ·subst e; simp [hi]
   ·simp [hF (Ne.symm e),e]
theorem Ah.put {N : Nat} (h : Ah X φ w B base s a N) (hN : N <= ff) {d : Option Nat} (hd : ∀ i,d = some i -> i < N) (hp : dV X φ' w' B base s1 v (tm a) v') (hs : wQ s1 d v = some s') : ∃ nH,Ah X nH w' B base s' (a.put d v') N /\ fB φ' w' nH w' := by
 obtain ⟨nH,h1,a1⟩ := Z6 (t' := tm (a.put d v')) hp hs (fun e => by have := hd ff e; omega) (fun j => acK (fun i hi => by rw [h.size]; exact hd i hi) j);obtain ⟨h2,h3⟩ := WA a d v';exact ⟨nH,⟨h1,by rw [h3]; exact h.defers,by rw [h2]; exact h.size⟩,a1⟩
theorem dV.undef (h : SB X φ w B base s (tm a)) : dV X φ w B base s .undef (tm a) Vn := by
 obtain ⟨N,Ha,h,hb⟩ := h;exact dV.quiet h hb trivial trivial (.undef _)
theorem KB {N : Nat} {ops : Array Oper} {q : O} {fl : Fq} (fe : ∀ v s1 f,fo c call s q.kd = some (v,s1,f) -> kY P X φ w B base s1 v o a) (hc : J9 P N ops o (NG q) = true) (hN : N <= ff)
  (hs : p8 c call s q = some (s',fl)) (hr : Ah X φ w B base s a N) {K : Act -> World -> Prop} {Q : Exit -> Act -> World -> Prop} (hK : ∀ a' w' φ',Ah X φ' w' B base s' a' N -> fB φ w φ' w' -> K a' w') :
  if Region.wanted o (yielded ops a.tmps) then o.wp P a w K Q \/ (o.asks P a w /\ LetsOut Q) else K (a.put o.dst Vn) w := by
 simp only [J9,NG,ab,decide_eq_true_eq] at hc;obtain ⟨⟨⟨aeT,hd⟩,hgd⟩,_⟩ := hc;have hdst : o.dst = q.dst := of_decide_eq_true aeT
 have hd' : ∀ i,o.dst = some i -> i < N := by
  intro i hi;rw [<- hdst,hi] at hd;simpa using hd
 have run : ∀ {v s1 f fl'},fo c call s q.kd = some (v,s1,f) -> zV s.env q.dst v s1 f = some (s',fl') -> o.wp P a w K Q := by
  intro v s1 f fl' hv hf;unfold zV at hf;split at hf
  case h_2 => cases hf
  rename_i s2 hp;simp only [aj,aF] at hf;obtain ⟨rfl,_⟩ := hf;refine fe v s1 f hv K Q fun v' w' φ' Bd ad => ?_;rw [<- hdst] at hp;obtain ⟨nH,h1,a1⟩ := hr.put hN hd' Bd hp;exact hK _ _ nH h1 (ad.trans a1)
 have no : ∀ {fl'},zV s.env q.dst .undef s .no = some (s',fl') -> K (a.put o.dst Vn) w := by
  intro fl' hf;unfold zV at hf;split at hf
  case h_2 => cases hf
  rename_i s2 hp;simp only [aj,aF] at hf;obtain ⟨rfl,_⟩ := hf;rw [<- hdst] at hp;obtain ⟨nH,h1,a1⟩ := hr.put hN hd' (dV.undef hr.sb) hp;exact hK _ _ nH h1 a1
 have aeL : ∀ (g : Nat),∃ N1 Ha,bN (Rd X φ w) φ (jS N1 g (get s.env g)) (tm a g) /\ eW X φ w N1 s Ha (tm a) := fun g => by
  obtain ⟨N1,Ha,h,_⟩ := hr.sb;exact ⟨N1,Ha,h.env g,h⟩
 unfold p8 at hs;split at hs
 ·rename_i hgn;rw [hgn] at hgd;split at hgd
  ·rename_i h1 _;rw [if_pos (by simp [Region.wanted,h1])];split at hs
   ·rename_i v s1 f hv;exact .inl (run hv hs)
   ·cases hs
  ·rename_i h2; simp at h2
  ·cases hgd
 ·rename_i g want hgn;rw [hgn] at hgd;split at hgd
  ·rename_i h2; simp at h2
  ·rename_i j abF g' ae7 h1 h2;simp only [ab,decide_eq_true_eq] at hgd;obtain ⟨hj,rfl⟩ := hgd;simp at h2;obtain ⟨rfl,rfl⟩ := h2;obtain ⟨N1,Ha,Fu,_⟩ := aeL g;split at hs
   ·rename_i b hb;rw [hb] at Fu;simp only [jS,je,ct] at Fu;have hv := nd Fu;have hy : yielded ops a.tmps j = some b := by unfold yielded; rw [hj]; simp only [Vk]; rw [US hv]
    by_cases PL : b = want
    ·subst PL;rw [if_pos (by simp [Region.wanted,h1,hy])];simp only [if_true] at hs;split at hs
     ·rename_i v s1 f hv;exact .inl (run hv hs)
     ·cases hs
    ·rw [if_neg (by simp [Region.wanted,h1,hy,PL])];rw [if_neg PL] at hs;exact no hs
   ·rename_i hb;rw [hb] at Fu;simp only [jS,je,ct] at Fu;generalize hv : tm a g = vg at Fu;cases Fu
    have hy : yielded ops a.tmps j = none := by
     unfold yielded;rw [hj];simp only [Vk];rcases PM hv with h | h <;> rw [h]
    rw [if_neg (by simp [Region.wanted,h1,hy])];exact no hs
   ·cases hs
  ·cases hgd
def Jb (P : Program) (c : dN) (call : Nat -> List AV -> Heap -> Option (AV × Heap)) : Prop :=
 ∀ X φ w B base s o a kd v s1 f,cG P o.op (kU kd) = true -> fo c call s kd = some (v,s1,f) -> SB X φ w B base s (tm a) -> Am.dL (gZ c) X φ w -> kY P X φ w B base s1 v o a
theorem R5 (Bf : Jb P c call) {N : Nat} (hN : N <= ff) {ops : Array Oper} {Q : Exit -> Act -> World -> Prop} : ∀ (l : List Oper) (qs : List O) (k : Nat) (s s' : St) (nU : List Fq) (a : Act) (w : World) (φ : de),
  (∀ j,l[j]? = ops[k + j]?) -> pH P N ops l qs = true -> kL c call qs s = some (s',nU) -> Ah X φ w B base s a N -> Am.dL (gZ c) X φ w -> (∀ a' w' φ',Ah X φ' w' B base s' a' N -> fB φ w φ' w' -> Q .normal a' w') ->
  wpOps P ops Q (List.range' k l.length) a w
 | [],qs,k,s,s',nU,a,w,φ,_,hc,hs,hr,hg,hQ => by
   cases qs with
   | nil =>
     simp [kL] at hs;obtain ⟨rfl,rfl⟩ := hs;exact hQ a w φ hr (.refl _ _)
   | cons q r => simp [pH] at hc
 | o :: l,qs,k,s,s',nU,a,w,φ,hl,hc,hs,hr,hg,hQ => by
   cases qs with
   | nil => simp [pH] at hc
   | cons q r =>
     simp only [pH,ab] at hc;simp only [kL] at hs;split at hs
     case h_2 => cases hs
     rename_i s1 fl1 h1;split at hs
     case h_2 => cases hs
     rename_i s2 fl2 h2;simp at hs;obtain ⟨rfl,rfl⟩ := hs;have h0 : ops[k]? = some o := by simpa using (hl 0).symm
     rw [c8,List.range'_succ,wpOps_cons];unfold wpOp;rw [h0]
     have hck : cG P o.op (kU q.kd) = true := by
      have := hc.1;simp only [J9,NG,ab] at this;exact this.2
     refine KB (fun v s1 f hv => Bf X φ w B base s o a q.kd v s1 f hck hv hr.sb hg) hc.1 hN h1 hr fun a' w' φ' wU k' => ?_;exact R5 Bf hN l r (k + 1) s1 s2 fl2 a' w' φ' (fun j => by have := hl (j + 1); simpa [Nat.add_assoc,Nat.add_comm 1 j] using this) hc.2 h2 wU (hg.m6 k') fun a'' Vp nH h'' vO => hQ a'' Vp nH h'' (k'.trans vO)
theorem B9 {keep : List Nat} : ∀ {e : Env},qf keep e = false -> ∀ i,mem i keep = false -> bI (get e i) = false
 | [],_,i,_ => rfl
 | (j,v) :: r,h,i,hi => by
   simp only [qf,fg] at h;simp only [Am.get];split
   ·rename_i e;subst e;rw [hi] at h;simpa using h.1
   ·exact B9 h.2 i hi
theorem Ca (keep : List Nat) : ∀ (env : Env) (i : Nat),get (pw keep env) i = if mem i keep = true then get env i else .any
 | [],i => by simp [pw,Am.get]
 | (j,u) :: r,i => by
   have ih := Ca keep r i;unfold pw;split
   ·rename_i hm;simp only [Am.get];by_cases e : i = j
    ·subst e; simp [hm]
    ·rw [if_neg e,if_neg e]; exact ih
   ·rename_i hm;rw [ih];simp only [Am.get];by_cases e : i = j
    ·subst e; simp [hm]
    ·rw [if_neg e]
theorem S2 {t : Nat -> Value} (h : SB X φ w B base s t) {keep : List Nat} (ho : qf keep s.env = false) : SB X φ w B base (Yo base keep s) t := by
 obtain ⟨N,Ha,h,hb,hl⟩ := h
 have h1 : eW X φ w N ⟨pw keep s.env,s.H⟩ Ha t := h.keep (fun i => by
  rw [Ca];cases hm : mem i keep with
  | true => exact .inl (by simp)
  | false => exact .inr ⟨by simp,B9 ho i hm⟩) rfl
 refine ⟨N,Ha,h1.trim (base0 := base) s.H.length,hb,?_⟩
 have len : ∀ (n : Nat) (H : Heap),base <= H.length -> base <= (trim base (pw keep s.env) n H).length := by
  intro n
  induction n with
  | zero => intro H h; exact h
  | succ n ih =>
    intro H h;simp only [trim];split
    ·rename_i hc;exact ih _ (by simp; omega)
    ·exact h
 exact len _ _ hl
theorem aaO {t : Nat -> Value} (h : SB X φ w B base s t) {keep : List Nat} (he : PR base keep s = some s') : ∃ φ',SB X φ' w B base s' t /\ fB φ w φ' w := by
 unfold PR at he;split at he
 ·split at he
  ·cases he
  rename_i ho;simp at he ho;subst he;obtain ⟨nG,h1,a1⟩ := SB.m4 keep s.env h;exact ⟨nG,S2 h1 ho,a1⟩
 ·rename_i ho;simp at he ho;subst he;exact ⟨φ,S2 h ho,.refl _ _⟩
end
end Go.Bm

/- A run of the compact code by value is a run of the dump's code. -/
namespace Go.Bm
open Go.Am
section
variable {P : Program} {c : dN}
def GA (P : Program) (c : dN) (call : Nat -> List AV -> Heap -> Option (AV × Heap)) : Prop :=
 ∀ X φ w B base s s' nU a N id ops os un (Q : Exit -> Act -> World -> Prop),N <= ff -> pH P N ops ops.toList os = true -> mV un [] [] ops.toList os = true -> kL c call os s = some (s',nU) -> IV os nU un = true -> Ah X φ w B base s a N -> Am.dL (gZ c) X φ w ->
  (∀ a' w' φ',Ah X φ' w' B base s' a' N -> fB φ w φ' w' -> Q .normal a' w') -> (Code.region id ops true).wp P Q a w
def N9 (P : Program) (c : dN) (n : Nat) : Prop := ∀ (N base : Nat) (code : Code) (cd : C) (s s' : St) (e : Ex),N <= ff -> G0 P N code cd = true -> cq c n base cd s = some (e,s') -> ∀ X φ w B a,Ah X φ w B base s a N -> Am.dL (gZ c) X φ w ->
 ∀ Q : Exit -> Act -> World -> Prop,(∀ a' w' φ',Ah X φ' w' B base s' a' N -> fB φ w φ' w' -> Q e.to a' w') -> code.wp P Q a w
theorem Ds (H1 : ∀ call,gO P c call -> Jb P c call) (H2 : ∀ call,gO P c call -> GA P c call) (H3 : ∀ n,N9 P c n -> gO P c (kX c (cq c n))) : ∀ n,N9 P c n
 | 0 => fun N base code cd s s' e _ _ h => by simp [cq] at h
 | n + 1 => by
   have ih := Ds H1 H2 H3 n;have dU := H3 n ih;intro N base code cd s s' e hN hc h X φ w B a hr hg Q hQ;unfold G0 at hc;split at hc
   case h_1 => simp [cq] at h; obtain ⟨rfl,rfl⟩ := h; exact wp_skip (hQ a w φ hr (.refl _ _))
   case h_2 => simp [cq] at h; obtain ⟨rfl,rfl⟩ := h; exact wp_ret (hQ a w φ hr (.refl _ _))
   case h_3 =>
    simp only [decide_eq_true_eq] at hc;subst hc;simp [cq] at h; obtain ⟨rfl,rfl⟩ := h; exact wp_exit (hQ a w φ hr (.refl _ _))
   case h_4 =>
    rename_i id ops d os dr un keep;simp only [ab,decide_eq_true_eq] at hc;obtain ⟨⟨rfl,dv⟩,ho⟩ := hc;simp only [cq] at h;split at h
    case h_2 => cases h
    rename_i s1 nU hs;split at h
    case isFalse => cases h
    rename_i hd;split at h
    case h_2 => cases h
    rename_i s2 he;simp at h;obtain ⟨rfl,rfl⟩ := h
    have hQ' : ∀ a' w' φ',Ah X φ' w' B base s1 a' N -> fB φ w φ' w' -> Q .normal a' w' := fun a' w' φ' h k => by
     obtain ⟨nH,h2,a2⟩ := aaO h.sb he;exact hQ a' w' nH ⟨h2,h.defers,h.size⟩ (k.trans a2)
    cases d with
    | false =>
      refine wp_region ?_;rw [List.range_eq_range',<- Array.length_toList];exact R5 (H1 _ dU) hN ops.toList os 0 s s1 nU a w φ (fun j => by simp) dv hs hr hg hQ'
    | true =>
      simp at ho;exact H2 _ dU X φ w B base s s1 nU a N id ops os un Q hN dv ho hs (by simpa using hd) hr hg hQ'
   case h_5 =>
    rename_i x y cx cy;simp only [ab] at hc;simp only [cq] at h;refine wp_seq ?_;cases h1 : cq c n base cx s with
    | none => rw [h1] at h; cases h
    | some p =>
      obtain ⟨e1,s1⟩ := p;rw [h1] at h;cases e1 with
      | normal =>
        simp only at h;exact ih N base x cx s s1 .normal hN hc.1 h1 X φ w B a hr hg _ fun a' w' φ' wU k => ih N base y cy s1 s' e hN hc.2 h X φ' w' B a' wU (hg.m6 k) Q fun a'' Vp nH XQ vO => hQ a'' Vp nH XQ (k.trans vO)
      | exit id => simp at h; obtain ⟨rfl,rfl⟩ := h; exact ih N base x cx s s1 _ hN hc.1 h1 X φ w B a hr hg _ fun a' w' φ' wU k => hQ a' w' φ' wU k
      | ret => simp at h; obtain ⟨rfl,rfl⟩ := h; exact ih N base x cx s s1 _ hN hc.1 h1 X φ w B a hr hg _ fun a' w' φ' wU k => hQ a' w' φ' wU k
   case h_6 =>
    rename_i x ca cb y da db;simp only [ab] at hc;simp only [cq] at h;split at h
    case h_2 => cases h
    rename_i t ht
    have r : a.eval x = .bool t := by
     obtain ⟨N1,Ha,hsim,_⟩ := hr.sb;have ho := cn (c := c) (cA := gZ c) hsim rfl hc.1.1;have := bM (c := gZ c) (env := x8 N1 s.env) (a := a) (fun i => by rw [kT]; exact hsim.env i) hg hc.1.1;rw [ho.ev,ht] at this;exact nd this
    refine wp_cond (t := t) r ?_;cases t with
    | true => simp at h ⊢; exact ih N base ca da s s' e hN hc.1.2 h X φ w B a hr hg Q hQ
    | false => simp at h ⊢; exact ih N base cb db s s' e hN hc.2 h X φ w B a hr hg Q hQ
   case h_7 =>
    rename_i i b j x;simp only [ab,decide_eq_true_eq] at hc;obtain ⟨rfl,hc⟩ := hc;simp only [cq] at h;refine wp_block ?_;cases h1 : cq c n base x s with
    | none => rw [h1] at h; cases h
    | some p =>
      obtain ⟨e1,s1⟩ := p;rw [h1] at h;refine ih N base b x s s1 e1 hN hc h1 X φ w B a hr hg _ fun a' w' φ' wU k => ?_;cases e1 with
      | normal => simp at h; obtain ⟨rfl,rfl⟩ := h; exact hQ a' w' φ' wU k
      | ret => simp at h; obtain ⟨rfl,rfl⟩ := h; exact hQ a' w' φ' wU k
      | exit id =>
        simp only at h;split at h
        ·rename_i pP;simp at h; obtain ⟨rfl,rfl⟩ := h;simp only [Ex.to,Exit.inBlock,pP,if_true];exact hQ a' w' φ' wU k
        ·rename_i pP;simp at h; obtain ⟨rfl,rfl⟩ := h;simp only [Ex.to,Exit.inBlock,pP,if_false];exact hQ a' w' φ' wU k
   case h_8 =>
    rename_i b x;simp only [cq] at h
    have key : ∀ m,m <= n -> ∀ s a w φ,cq c m base (.loop x) s = some (e,s') -> Ah X φ w B base s a N -> Am.dL (gZ c) X φ w -> (∀ a' w' φ',Ah X φ' w' B base s' a' N -> fB φ w φ' w' -> Q e.to a' w') -> LW P b Q a w := by
     intro m
     induction m with
     | zero => intro _ s a w φ h; simp [cq] at h
     | succ m ihm =>
       intro hm s a w φ h hr hg hQ;simp only [cq] at h;refine LW.step ?_;have UA : N9 P c m := Ds H1 H2 H3 m;cases h1 : cq c m base x s with
       | none => rw [h1] at h; cases h
       | some p =>
         obtain ⟨e1,s1⟩ := p;rw [h1] at h;refine UA N base b x s s1 e1 hN hc h1 X φ w B a hr hg _ fun a' w' φ' wU k => ?_;cases e1 with
         | normal => simp only at h; exact ihm (by omega) s1 a' w' φ' h wU (hg.m6 k) fun a'' Vp nH XQ vO => hQ a'' Vp nH XQ (k.trans vO)
         | exit id => simp at h; obtain ⟨rfl,rfl⟩ := h; exact hQ a' w' φ' wU k
         | ret => simp at h; obtain ⟨rfl,rfl⟩ := h; exact hQ a' w' φ' wU k
    refine LW.loop (LW.step ?_);cases h1 : cq c n base x s with
    | none => rw [h1] at h; cases h
    | some p =>
      obtain ⟨e1,s1⟩ := p;rw [h1] at h;refine ih N base b x s s1 e1 hN hc h1 X φ w B a hr hg _ fun a' w' φ' wU k => ?_;cases e1 with
      | normal => simp only at h; exact key n (aS _) s1 a' w' φ' h wU (hg.m6 k) fun a'' Vp nH XQ vO => hQ a'' Vp nH XQ (k.trans vO)
      | exit id => simp at h; obtain ⟨rfl,rfl⟩ := h; exact hQ a' w' φ' wU k
      | ret => simp at h; obtain ⟨rfl,rfl⟩ := h; exact hQ a' w' φ' wU k
   case h_9 => simp [cq] at h; obtain ⟨rfl,rfl⟩ := h; exact wp_label (hQ a w φ hr (.refl _ _))
   case h_10 =>
    rename_i b x;simp only [cq] at h;cases n with
    | zero => simp [cq] at h
    | succ n' =>
      rw [show cq c (n' + 1) base .skip s = some (.normal,s) from rfl] at h;simp only at h;refine wp_scope_straight (ih N base b x s s' e hN hc h X φ w B a hr hg _ fun a' w' φ' wU k => ?_);have hq := hQ a' w' φ' wU k;cases e <;> exact hq
   case h_11 => cases hc
end
end Go.Bm

/- What a function returns. -/
namespace Go.Bm
open Go.Am
section
variable {P : Program} {X : Nat -> Prop} {φ nG φ' : de} {w w1 w' : World} {N N1 N' : Names} {s s' s1 : St} {Ha : Heap} {B : Nat -> Nat} {base : Nat} {v va : AV} {v' : Value} {c : dN} {a : Act} {call : Nat -> List AV -> Heap -> Option (AV × Heap)}
theorem acO (h : eW X φ w N s Ha (tm a)) (hg : Am.dL (gZ c) X φ w) {rv : Rv} {x : AV} (hx : TV c s rv = some x) : ∃ xa,V8 Ha (x8 N s.env) rv = some xa /\ Le (ct N x) xa /\ cr (aC s) s.H.length x /\ bI x = false := by
 cases rv with
 | t i =>
   simp only [TV,aj] at hx;subst hx;refine ⟨_,rfl,?_,Sa h i,MJ _ _⟩;rw [kT,<- Qt];exact Le.refl _
 | c i ag =>
   simp only [TV] at hx;split at hx
   case h_2 => cases hx
   rename_i u ps hp;simp at hx;subst hx;obtain ⟨va,fl,e,hle,h2,h3⟩ := acg (a := a) h hg (x := .t i) (o' := .tmp i) (by simp [kV,cN]) hp
   have gY : bI u = false := by
    have rd : ∀ {cs : List AV},Jp ag cs = some u -> bI u = false := by
     intro cs hu;unfold Jp at hu;split at hu
     case h_2 => cases hu
     split at hu
     ·cases hu
     rename_i gY;simp at hu gY;subst hu;exact gY
    unfold xy at hp;split at hp
    ·split at hp
     ·rename_i hu; simp at hp; obtain ⟨rfl,_⟩ := hp; exact rd hu
     ·cases hp
    ·split at hp
     ·split at hp
      ·rename_i hu; simp at hp; obtain ⟨rfl,_⟩ := hp; exact rd hu
      ·cases hp
     ·cases hp
    ·split at hp
     ·split at hp
      ·split at hp
       ·split at hp
        ·rename_i hu; simp at hp; obtain ⟨rfl,_⟩ := hp; exact rd hu
        ·cases hp
       ·cases hp
      ·cases hp
     ·cases hp
    ·cases hp
   rw [kH N gY] at hle;refine ⟨va,?_,hle,h2,gY⟩;simp only [kU,kV,fG,Am.ev] at e;simp only [V8];split at e
   ·rename_i cs dv;rw [dv];split at e
    ·rename_i u' Ft; simp at e; obtain ⟨rfl,_⟩ := e; exact Ft
    ·cases e
   ·rename_i b off dv;rw [dv];split at e
    ·rename_i cs hb;simp only [hb];split at e
     ·rename_i u' Ft; simp at e; obtain ⟨rfl,_⟩ := e; exact Ft
     ·cases e
    ·cases e
   ·cases e
theorem QE (h : eW X φ w N s Ha (tm a)) (hg : Am.dL (gZ c) X φ w) : ∀ {rvs : List Rv} {xs : List AV},nZ c s rvs = some xs -> ∃ TG,KM Ha (x8 N s.env) rvs = some TG /\ TG.length = xs.length /\ (∀ (i : Nat) (x y : AV),xs[i]? = some x -> TG[i]? = some y -> Le (ct N x) y) /\ jK (aC s) s.H.length xs /\ ∀ x ∈ xs,bI x = false
 | [],xs,hx => by simp [nZ] at hx; subst hx; exact ⟨[],rfl,rfl,fun i x y h => by simp at h,trivial,fun x hx => by simp at hx⟩
 | r :: rs,xs,hx => by
   simp only [nZ] at hx;split at hx
   case h_2 => cases hx
   rename_i u us h1 h2;simp at hx;subst hx;obtain ⟨xa,a1,a2,a3,a4⟩ := acO h hg h1;obtain ⟨TG,b1,b2,b3,b4,b5⟩ := QE h hg h2;refine ⟨xa :: TG,by simp only [KM,a1,b1],by simp [b2],fun i x y hx hy => ?_,⟨a3,b4⟩,fun x hx => ?_⟩
   ·cases i with
    | zero => simp at hx hy; subst hx hy; exact a2
    | succ i => simp at hx hy; exact b3 i x y hx hy
   ·rcases aJ.1 hx with e | e
    ·subst e; exact a4
    ·exact b5 x e
theorem VE (h : eW X φ w N s Ha (tm a)) (hg : Am.dL (gZ c) X φ w) {rvs : List Rv} {xs : List AV} (hx : nZ c s rvs = some xs) : ∃ TG,KM Ha (x8 N s.env) rvs = some TG /\ Le (ct N (m7 xs)) (m7 TG) /\ cr (aC s) s.H.length (m7 xs) /\ bI (m7 xs) = false := by
 obtain ⟨TG,b1,b2,b3,b4,b5⟩ := QE h hg hx;refine ⟨TG,b1,?_⟩
 match xs,TG,b2 with
 | [],[],_ => exact ⟨Le.refl _,trivial,rfl⟩
 | [x],[y],_ => exact ⟨b3 0 x y rfl rfl,b4.1,b5 x (by simp)⟩
 | x :: x2 :: xs,y :: y2 :: ys,hl =>
   refine ⟨fun R φ v r => ?_,b4,rfl⟩;simp only [m7,ct] at r ⊢;cases r with
   | dW _ _ vs Cz hh => exact .dW _ _ _ (by rw [dQ,<- hl]; exact Cz) (fun i d u hd hu => by
     rw [vw] at hd;cases hc : (x :: x2 :: xs)[i]? with
     | none => rw [hc] at hd; cases hd
     | some z =>
       rw [hc] at hd;simp at hd;subst hd;obtain ⟨y',Iz⟩ := bc (l := y :: y2 :: ys) (i := i) (by have := aB hc; omega);exact b3 i z y' hc Iz _ _ _ (hh i y' u Iz hu))
theorem SB.val (h : SB X φ w B base s (tm a)) {r : AV} (hp : pl r = true) {v' : Value} (hr : bN (Rd X [] w) [] r v') (B' : Nat -> Nat) : ∃ φ',SB X φ' w B' 0 ⟨[(0,r)],[]⟩ (fun i => if i = 0 then v' else undef) /\ fB φ w φ' w := by
 obtain ⟨N,Ha,h,hb⟩ := h
 have gY : ∀ g,¬ bK (cK φ.length none) g := fun g ⟨b,sz,e⟩ => by
  rw [fW] at e;split at e <;> simp at e
 refine ⟨cK φ.length none,?_,⟨rfl,rfl,rfl,aS _,aS _,fun g hg ho => ⟨rfl,gY g⟩,⟨by simp,fun b p hb e => by rw [fW] at e; split at e <;> simp at e⟩⟩⟩;have Fv : ∀ i,get [(0,r)] i = if i = 0 then r else .any := fun i => by simp only [Am.get]
 have pR : ∀ i,pl (get [(0,r)] i) = true := fun i => by rw [Fv]; split; exact hp; rfl
 have hnoo : ∀ p,aC ⟨[(0,r)],[]⟩ p = none := by
  intro p;cases p with
  | s i => exact (dY (s := ⟨[(0,r)],[]⟩) (xx (pR i))).1
  | sc i j => exact (dY (s := ⟨[(0,r)],[]⟩) (xx (pR i))).2 j
  | c b j => unfold aC; simp [at_,aH]
 refine ⟨⟨fun _ => 0,fun _ => none⟩,cK φ.length none,⟨fun i => ?_,fun i => wR _ (pR i),⟨by simp,h.heap.GL,fun b cs hb => ?_,fun b hb => ?_,fun b b' g sz m9 h1 => ?_⟩,fun p k xs e => ?_,fun b cs e => ?_,fun p q n e1 => ?_,fun b p e1 => ?_,fun b d e1 => ?_⟩,fun b hb => by omega,Tw _⟩
 ·have hr2 : bN (Rd X (cK φ.length none) w) (cK φ.length none) r v' := (hr.mono (R' := Rd X (cK φ.length none) w) (fun a u h => ⟨h.1,gY _,h.2.2⟩) (.refl _)).Im _;show bN _ _ (jS _ i (get [(0,r)] i)) (if i = 0 then v' else undef);rw [As _ _ (pR i),Fv];by_cases e : i = 0
  ·rw [if_pos e,if_pos e]; exact hr2
  ·rw [if_neg e,if_neg e]; exact .any _ _
 ·rw [fW] at hb; split at hb <;> simp at hb
 ·have := aB hb;rw [fW];simp at this;rw [if_pos this]
 ·rw [fW] at h1; split at h1 <;> simp at h1
 ·rw [hnoo] at e; cases e
 ·simp [aH] at e
 ·rw [hnoo] at e1; cases e1
 ·simp [aH] at e1
 ·simp [aH] at e1
end
end Go.Bm

/- The end of a function that sees no boxes of others. -/
namespace Go.Bm
open Go.Am
section
variable {P : Program} {X : Nat -> Prop} {φ nG φ' : de} {w w1 w' : World} {N N1 N' : Names} {s s' s1 : St} {Ha : Heap} {B : Nat -> Nat} {base : Nat} {v va : AV} {v' : Value} {c : dN} {a : Act} {call : Nat -> List AV -> Heap -> Option (AV × Heap)}
theorem SB.own1 (h : eW X φ w N s Ha (tm a)) {p : Rt} {k len : Nat} {xs : List AV} (hp : aC s p = some (k,xs)) (hle : len <= xs.length) (hr : bN (Rd X φ w) φ (ct N (.dp k p 0 len)) v') (B' : Nat -> Nat) : SB X φ w B' 0 ⟨[(0,.own k (xs.take len))],[]⟩ (fun i => if i = 0 then v' else undef) := by
 have Fv : ∀ i,get [(0,AV.own k (xs.take len))] i = if i = 0 then .own k (xs.take len) else .any := fun i => by simp only [Am.get]
 have hlen : (xs.take len).length = len := by simp; omega
 have fA : ∀ q k' ys,aC ⟨[(0,.own k (xs.take len))],[]⟩ q = some (k',ys) -> q = .s 0 /\ k' = k /\ ys = xs.take len := by
  intro q k' ys e;have e' := bY.1 e;cases q with
  | s i =>
    simp only [at_,Fv,aj] at e';by_cases hi : i = 0
    ·subst hi; simp at e'; exact ⟨rfl,e'.1.symm,e'.2.symm⟩
    ·rw [if_neg hi] at e'; cases e'
  | sc i j =>
    simp only [at_,Fv] at e';by_cases hi : i = 0
    ·subst hi; simp at e'
    ·rw [if_neg hi] at e'; cases e'
  | c b j => simp [at_,aH] at e'
 have one : ∀ {q},(aC ⟨[(0,.own k (xs.take len))],[]⟩ q).isSome -> q = .s 0 := by
  intro q hq;obtain ⟨⟨k',ys⟩,e⟩ := aW.1 hq;exact (fA q k' ys e).1
 refine ⟨⟨N.β,fun q => N.ν p⟩,Ha,⟨fun i => ?_,fun i => ?_,h.heap,fun q k' ys e => ?_,fun b cs e => ?_,fun q r n e1 e2 _ _ => ?_,fun b q e1 => ?_,fun b d e1 => ?_⟩,fun b hb => by omega,Tw _⟩
 ·show bN _ _ (jS _ i (get [(0,AV.own k (xs.take len))] i)) (if i = 0 then v' else undef);rw [Fv];by_cases e : i = 0
  ·rw [if_pos e,if_pos e];simp only [jS,je,rK,hlen];simp only [ct,qE] at hr;exact hr
  ·rw [if_neg e,if_neg e]; exact .any _ _
 ·show cr _ _ (get [(0,AV.own k (xs.take len))] i);rw [Fv];split <;> trivial
 ·obtain ⟨rfl,rfl,rfl⟩ := fA q k' ys e;exact (h.own p k' xs hp).take
 ·simp [aH] at e
 ·rw [one e1,one e2]
 ·simp [aH] at e1
 ·simp [aH] at e1
theorem aaJ (h : eW X φ w N s Ha (tm a)) (hb : (∀ b,b < base -> N.β b = B b) /\ base <= s.H.length) (hv : bN (Rd X φ w) φ (ct N v) v') (hk : cr (aC s) s.H.length v) (gY : bI v = false) {md : Md} {r : AV} {H' : Heap} (jo : md.sh = false) (hf : aK md base s v = some (r,H')) (B' : Nat -> Nat) :
  H' = [] /\ ∃ φ',SB X φ' w B' 0 ⟨[(0,r)],[]⟩ (fun i => if i = 0 then v' else undef) /\ fB φ w φ' w := by
 have Bc : ∀ a u,Rd X φ w a u -> Rd X [] w a u := fun a u ⟨h1,_,h3⟩ => ⟨h1,bK.nil _,h3⟩;unfold aK at hf;rw [jo] at hf;simp only [aX,if_false] at hf;split at hf
 ·split at hf
  case isFalse => cases hf
  split at hf
  case h_2 => cases hf
  rename_i r' hr;simp at hf;obtain ⟨rfl,rfl⟩ := hf;refine ⟨rfl,?_⟩;unfold VN VM at hr;split at hr
  ·rename_i k p len;split at hr
   case h_2 => cases hr
   rename_i k' xs hp;split at hr
   case isFalse => cases hr
   rename_i hc;obtain ⟨rfl,hle⟩ := hc;simp at hr;subst hr;exact ⟨φ,SB.own1 h hp hle hv B',.refl _ _⟩
  ·simp [bI] at gY
  ·rename_i h1 h2;split at hr
   case isFalse => cases hr
   rename_i pR;simp at hr;subst hr;rw [kG N _ pR] at hv;exact SB.val (base := base) (B := B) ⟨N,Ha,h,hb⟩ pR ((hv.dA (gH _ pR) []).mono Bc (.refl _)) B'
 ·split at hf
  case h_2 => cases hf
  rename_i r' hr;simp at hf;obtain ⟨rfl,rfl⟩ := hf;obtain ⟨p1,p2⟩ := Nw h v r' hr hk;exact ⟨rfl,SB.val (base := base) (B := B) ⟨N,Ha,h,hb⟩ p1 (p2 _ hv) B'⟩
def vl (P : Program) (c : dN) : Prop := ∀ f g md q,c.orc f = some g -> c.fn f = some (md,q) -> ∀ args H r H',(md.sh = true \/ H = []) -> g args H = some (r,H') -> (md.sh = true -> gj H' = true) -> ∀ X φ w B (vargs : Array Value),args.length = vargs.size -> SB X φ w B H.length ⟨dH 0 args,H⟩ (fun i => vargs.getD i undef) -> Am.dL (gZ c) X φ w -> Calls P f vargs w (Kj X φ w B H.length r H')
def ShOK (P : Program) (c : dN) (n : Nat) : Prop := ∀ f md q,c.fn f = some (md,q) -> md.sh = true -> ∀ args H r H',kX c (cq c n) f args H = some (r,H') -> gj H' = true -> ∀ X φ w B (vargs : Array Value),args.length = vargs.size -> SB X φ w B H.length ⟨dH 0 args,H⟩ (fun i => vargs.getD i undef) -> Am.dL (gZ c) X φ w -> Calls P f vargs w (Kj X φ w B H.length r H')
theorem I4 (cO : fk P c) (uT : vl P c) {n : Nat} (hs : N9 P c n) (jo : ShOK P c n) : gO P c (kX c (cq c n)) := by
 intro f md q hf args H r H' hH h jN X φ w B vargs hl IB hg;by_cases hm : md.sh = true
 ·exact jo f md q hf hm args H r H' h (jN hm) X φ w B vargs hl IB hg
 have UK : md.sh = false := by simpa using hm
 have hH' : H = [] := hH.elim (fun e => absurd e hm) id;subst hH';unfold kX at h;split at h
 ·rename_i x CA;unfold JD at CA;split at CA
  case h_2 => cases CA
  rename_i g Kq;rw [h] at CA;replace h := CA;exact uT f g md q Kq hf args [] r H' (.inr rfl) h jN X φ w B vargs hl IB hg
 ·rw [hf] at h;simp only at h;split at h
  case isFalse => cases h
  rename_i hle;obtain ⟨fn,h1,h2⟩ := cO.fn f md q hf;simp only [cj,ab,decide_eq_true_eq] at h2;obtain ⟨⟨⟨⟨hn,aeP⟩,_⟩,hres⟩,rS⟩ := h2;split at rS
  case h_2 => cases rS
  rename_i code hb;have zN : (vargs ++ oP (fn.ntmps - vargs.size) undef).size = q.n := by simp; omega
  have htm : tm { tmps := vargs ++ oP (fn.ntmps - vargs.size) undef,defers := [] } = fun i => vargs.getD i undef := by
   funext i;simp only [tm,aY];by_cases hi : i < vargs.size
   ·rw [qm hi]
   ·rw [GB (by omega),j9];rw [Array.getElem?_eq_none (by omega)];split <;> rfl
  have hS : Ah X φ w B 0 ⟨dH 0 args,[]⟩ { tmps := vargs ++ oP (fn.ntmps - vargs.size) undef,defers := [] } q.n := ⟨by rw [htm]; exact IB,rfl,zN⟩
  have fin : ∀ {e : Ex} {s : St} {vs : List AV},cq c n 0 q.body ⟨dH 0 args,[]⟩ = some (e,s) -> (e = .ret \/ e = .normal) -> nZ c s q.res = some vs -> aK md 0 s (m7 vs) = some (r,H') -> Calls P f vargs w (Kj X φ w B 0 r H') := by
   intro e s vs he hre Ko PI;refine calls_of_wp h1 hb (hs q.n 0 code q.body _ s e (by omega) rS he X φ w B _ hS hg _ fun a' w' φ' hS' s5 => ?_);obtain ⟨N,Ha,vC,hbB⟩ := hS'.sb;obtain ⟨TG,x1,x2,x3,x4⟩ := VE vC (hg.m6 s5) Ko;obtain ⟨v,k1,k2⟩ := BF (P := P) (s := ⟨x8 N s.env,Ha⟩) (ts := a'.tmps) (fun i => by rw [kT]; exact vC.env i) vC.heap hres x1;obtain ⟨rfl,ka,s2,a2⟩ := aaJ vC hbB (x2 _ _ _ k2) x3 x4 UK PI B;have : bodyPost P fn (Kj X φ w B 0 r []) .ret a' w' := ⟨hS'.defers,v,k1,v,ka,rfl,s2,s5.trans a2⟩;rcases hre with rfl | rfl
   ·exact this
   ·exact this
  split at h
  ·rename_i s he;split at h
   ·rename_i vs Ko;exact fin he (.inl rfl) Ko h
   ·cases h
  ·rename_i s he;split at h
   ·rename_i vs Ko;exact fin he (.inr rfl) Ko h
   ·cases h
  ·cases h
end
end Go.Bm

/- Every operation, given the calls that share boxes. -/
namespace Go.Bm
open Go.Am
section
variable {P : Program} {c : dN} {call : Nat -> List AV -> Heap -> Option (AV × Heap)}
def Gz (P : Program) (c : dN) (call : Nat -> List AV -> Heap -> Option (AV × Heap)) : Prop :=
 ∀ X φ w B base s (o : Oper) (a : Act) kd f args md q r H',cG P o.op (kU kd) = true -> SB X φ w B base s (tm a) -> Am.dL (gZ c) X φ w -> getArgs c s.env kd = some (f,args) -> c.fn f = some (md,q) -> md.sh = true -> fx (args.map gI) = true -> gj s.H = true -> aL r = [] -> bI r = false -> gj H' = true -> call f (args.map gI) s.H = some (r,H') -> kY P X φ w B base ⟨jC jP s.env,H'⟩ r o a
theorem Ud (cO : fk P c) (dU : gO P c call) (jo : Gz P c call) {X : Nat -> Prop} {φ : de} {w : World} {B : Nat -> Nat} {base : Nat} {s s1 : St} {o : Oper} {a : Act} {kd : Kd} {v : AV} {fq : Fq} (hk : cG P o.op (kU kd) = true) (h : SB X φ w B base s (tm a)) (hg : Am.dL (gZ c) X φ w) (hs : dI c call kd s = some (v,s1,fq)) : kY P X φ w B base s1 v o a := by
 unfold dI at hs;split at hs
 ·cases hs
 rename_i f args ha;split at hs
 ·cases hs
 rename_i md q hf;split at hs
 ·rename_i hmd;simp only [ab,bt] at hmd;split at hs
  ·cases hs
  rename_i ql hz;split at hs
  case h_2 => cases hs
  rename_i r H' hc;split at hs
  case isFalse => cases hs
  rename_i hr;simp only [aj,aF] at hs;obtain ⟨rfl,rfl,_⟩ := hs;exact Pe cO dU h hg hk ha hf hmd.2 hz hc hr
 ·obtain ⟨nG,h1,a1⟩ := SB.dB (cQ args) h;refine kY.ghost a1 ?_;split at hs
  ·cases hs
  rename_i f1 nC Ns;split at hs
  case isFalse => cases hs
  rename_i X5;subst X5;split at hs
  ·rename_i hm;split at hs
   case isFalse => cases hs
   rename_i hp;split at hs
   case h_2 => cases hs
   rename_i r H' hc;split at hs
   case isFalse => cases hs
   rename_i hr;simp only [aj,aF] at hs;obtain ⟨rfl,rfl,_⟩ := hs;simp only [ab,bt] at hp hr;exact jo X nG w B base _ o a kd f1 nC md q r H' hk h1 (hg.m6 a1) Ns hf hm hp.1 hp.2 (eY.1 hr.1.1) hr.1.2 hr.2 hc
  ·rename_i hm;split at hs
   case isFalse => cases hs
   rename_i hp;split at hs
   case h_2 => cases hs
   rename_i r H' hc;split at hs
   case isFalse => cases hs
   rename_i hr;simp only [aj,aF] at hs;obtain ⟨rfl,rfl,_⟩ := hs;exact Pd cO dU h1 (hg.m6 a1) hk Ns hf (by simpa using hm) hp hc hr
def Kl (w : World) (og : Option Nat) (k : Nat) (ys : List AV) (e : Ending) (w' : World) : Prop :=
 ∃ (g' G1 : Nat) (arr' : Array Value) (e' : TypeId),e = .returned (.slice (some ⟨g',0,none⟩) ys.length G1) /\ ys.length <= G1 /\ G1 * k <= arr'.size /\ w'.heap[g']? = some (.cells arr' e' (0,0)) /\
  (∀ (i : Nat) (d : AV),(aE ys)[i]? = some d -> ∃ u,arr'[i]? = some u /\ bN (fun _ _ => False) [] d u) /\ (og = some g' \/ w.heap.size <= g') /\
  (∀ h,h < w.heap.size -> og ≠ some h -> w'.heap[h]? = w.heap[h]?) /\ w'.os = w.os /\ w'.tape = w.tape /\ w'.output = w.output /\ w.drawn <= w'.drawn /\ w.heap.size <= w'.heap.size
abbrev abC (T : Nat -> Nat -> Addr -> Value -> Prop) (w : World) (og : Option Nat) (k : Nat) (ys : List AV) (e : Ending) (w' : World) : Prop :=
 ∃ (g' G1 : Nat) (arr' : Array Value) (e' : TypeId) (a' : Addr),e = .returned (.slice (some a') ys.length G1) /\ (0 < G1 -> a' = ⟨g',0,none⟩) /\ ys.length <= G1 /\ G1 * k <= arr'.size /\ w'.heap[g']? = some (.cells arr' e' (0,0)) /\
  (∀ (i : Nat) (d : AV),(aE ys)[i]? = some d -> ∃ u,arr'[i]? = some u /\ bN (T g' arr'.size) [] d u) /\ (og = some g' \/ w.heap.size <= g') /\
  (∀ h,h < w.heap.size -> og ≠ some h -> w'.heap[h]? = w.heap[h]?) /\ w'.os = w.os /\ w'.tape = w.tape /\ w'.output = w.output /\ w.drawn <= w'.drawn /\ w.heap.size <= w'.heap.size
def Ob (w : World) (og : Option Nat) (k : Nat) (ys : List AV) (e : Ending) (w' : World) : Prop :=
 abC (fun _ _ _ _ => False) w og k ys e w' \/
 (og = none /\ ys = [] /\ e = .returned (.slice none 0 0) /\ fB [] w [] w')
theorem Kl.n {w : World} {og : Option Nat} {k : Nat} {ys : List AV} {e : Ending} {w' : World} (h : Kl w og k ys e w') : Ob w og k ys e w' := by
 obtain ⟨g',G1,arr',e',h1,h2⟩ := h;exact .inl ⟨g',G1,arr',e',_,h1,fun _ => rfl,h2⟩
def Qm (w : World) (og : Option Nat) (a : Addr) (u : Value) : Prop := og ≠ some a.block /\ w.cell? a = some u /\ ∃ arr te,w.heap[a.block]? = some (.cells arr te (0,0))
def Tv (w : World) (og : Option Nat) (a : Addr) (u : Value) : Prop := og ≠ some a.block /\ w.cell? a = some u
def BesE : AV -> World -> Option Nat -> Addr -> Value -> Prop
 | .func _ _ _ => Tv
 | _ => Qm
def Qg (P : Program) (f : Nat) (g : Nat -> List AV -> List AV -> Option (List AV)) (Q : World -> Option Nat -> Nat -> List AV -> Ending -> World -> Prop) : Prop := ∀ k xs es ys,g k xs es = some ys -> (∀ x ∈ xs,x.cells.length = k) -> (∀ x ∈ xs,∀ d ∈ x.cells,fz d = true) ->
 ((∀ y ∈ ys,y.cells.length = k) /\ ∀ y ∈ ys,∀ d ∈ y.cells,fz d = true) /\
 (xs = [] -> ∀ w (vargs : Array Value),es.length + 1 = vargs.size -> vargs[0]? = some (.slice none 0 0) -> (∀ (i : Nat) (e : AV) (v : Value),es[i]? = some e -> vargs[i + 1]? = some v -> bN (BesE e w none) [] e v) -> Calls P f vargs w (Q w none k ys)) /\
 ∀ w (vargs : Array Value) g0 arr te a cap,w.heap[g0]? = some (.cells arr te (0,0)) -> (∀ (i : Nat) (d : AV),(aE xs)[i]? = some d -> ∃ u,arr[i]? = some u /\ bN (fun _ _ => False) [] d u) -> es.length + 1 = vargs.size -> vargs[0]? = some (.slice (some a) xs.length cap) -> (0 < cap -> a = ⟨g0,0,none⟩) -> xs.length <= cap -> cap * k <= arr.size ->
  (∀ (i : Nat) (e : AV) (v : Value),es[i]? = some e -> vargs[i + 1]? = some v -> bN (BesE e w (some g0)) [] e v) -> Calls P f vargs w (Q w (some g0) k ys)
theorem Qg.weak {P : Program} {f : Nat} {g : Nat -> List AV -> List AV -> Option (List AV)} (h : Qg P f g Kl) : Qg P f g Ob := by
 intro k xs es ys hg h1 h2;obtain ⟨p,q,r⟩ := h k xs es ys hg h1 h2;exact ⟨p,fun a b c d e f => (q a b c d e f).mono fun _ _ z => z.n,fun a b c d e f g h i j k l m n o => (r a b c d e f g h i j k l m n o).mono fun _ _ z => z.n⟩
def Jc (P : Program) (c : dN) : Prop := True
def Y8 (P : Program) (c : dN) : Prop := ∀ f g,c.inp f = some g -> (∃ md q,c.fn f = some (md,q)) /\ ∀ k xs es ys res,g k xs es = some (ys,res) -> (∀ x ∈ xs,x.cells.length = k) -> (∀ x ∈ xs,∀ d ∈ x.cells,fz d = true) ->
 ((ys.length = xs.length /\ (∀ y ∈ ys,y.cells.length = k)) /\ ((∀ y ∈ ys,∀ d ∈ y.cells,fz d = true) /\ ∀ m,res = some m -> m <= xs.length)) /\
 (xs = [] -> ∀ X φ w (vargs : Array Value) v0 y,(y = .dc \/ y = .list k []) -> es.length + 1 = vargs.size -> vargs[0]? = some v0 -> bN (Rd X φ w) φ y v0 -> (∀ (i : Nat) (e : AV) (v : Value),es[i]? = some e -> vargs[i + 1]? = some v -> bN (Rd X φ w) [] e v) ->
  Calls P f vargs w (fun e w' => ∃ v',e = .returned v' /\ bN (Rd X φ w') φ (match res with
   | none => .dW []
   | some _ => y) v' /\ fB [] w [] w')) /\
 ∀ X φ w Ha n rest (vargs : Array Value) v0,b6 X φ w Ha -> aH Ha n = some (aE (xs ++ rest)) -> es.length + 1 = vargs.size -> vargs[0]? = some v0 -> bN (Rd X φ w) φ (.sl k n 0 xs.length) v0 -> (∀ (i : Nat) (e : AV) (v : Value),es[i]? = some e -> vargs[i + 1]? = some v -> bN (Rd X φ w) [] e v) ->
  Calls P f vargs w (fun e w' => ∃ v' φ',e = .returned v' /\ bN (Rd X φ' w') φ' (match res with
   | none => .dW []
   | some m => .sl k n 0 m) v' /\ b6 X φ' w' (Ha.set n (some (aE (ys ++ rest)))) /\ fB φ w φ' w')
def vo (P : Program) (c : dN) : Prop := Y8 P c /\ Jc P c
theorem Jc.none {P : Program} {c : dN} (h : ∀ f,c.eat f = none) : Jc P c := trivial
theorem vo.none {P : Program} {c : dN} (h : ∀ f,c.inp f = none) (h2 : ∀ f,c.eat f = none := by intro _; rfl) : vo P c := ⟨(fun f g hf => by rw [h f] at hf; cases hf),Jc.none h2⟩
theorem less {X : Nat -> Prop} {φ : de} {w : World} {Ha : Heap} (h : b6 X φ w Ha) {n : Nat} {cs cs' : List AV} (hb : aH Ha n = some cs) (hl : cs'.length <= cs.length) (hc : ∀ (i : Nat) (d : AV),cs'[i]? = some d -> ∃ a,cs[i]? = some a /\ Le d a) : b6 X φ w (Ha.set n (some cs')) := by
 refine ⟨by simp [h.len],h.GL,fun b ds vT => ?_,fun b vT => ?_,h.inj⟩
 ·rw [bj] at vT;split at vT
  ·rename_i e;subst e;split at vT
   ·simp at vT;subst vT;obtain ⟨g,sz,arr,e,g1,g2,g3,g4,g5,g6⟩ := h.at hb;refine ⟨g,sz,arr,e,g1,g2,g3,by omega,g5,fun i d hd => ?_⟩;obtain ⟨a,ha,hle⟩ := hc i d hd;obtain ⟨u,u1,u2⟩ := g6 i a ha;exact ⟨u,u1,hle _ _ _ u2⟩
   ·cases vT
  ·exact h.live b ds vT
 ·rw [bj] at vT;split at vT
  ·split at vT <;> simp at vT
  ·exact h.dead b vT
theorem OL {s : St} {p : Rt} {v : AV} (h : at_ s p = some v) : (∀ i,get (setAt s p v).env i = get s.env i) /\ (setAt s p v).H = s.H := by
 cases p with
 | s i =>
   simp only [at_,aj] at h;refine ⟨fun j => ?_,rfl⟩;simp only [setAt,br];split
   ·rename_i e; subst e; exact h.symm
   ·rfl
 | sc i l =>
   simp only [at_] at h;split at h
   ·rename_i cs hc
    have e : cs.set l v = cs := by
     apply cY;intro j;rw [bj];split
     ·rename_i e; subst e; split
      ·exact h.symm
      ·rename_i bA; rw [c9 (by omega)] at h; cases h
     ·rfl
    have hs : setAt s (.sc i l) v = ⟨put s.env i (.agg cs),s.H⟩ := by simp only [setAt,hc,e]
    rw [hs];refine ⟨fun j => ?_,rfl⟩;show get (put s.env i (.agg cs)) j = _;rw [br];split
    ·rename_i e2; subst e2; exact hc.symm
    ·rfl
   ·cases h
 | c b l =>
   simp only [at_] at h;split at h
   ·rename_i cs hc
    have e : cs.set l v = cs := by
     apply cY;intro j;rw [bj];split
     ·rename_i e; subst e; split
      ·exact h.symm
      ·rename_i bA; rw [c9 (by omega)] at h; cases h
     ·rfl
    have hs : setAt s (.c b l) v = ⟨s.env,s.H.set b (some cs)⟩ := by simp only [setAt,hc,e]
    rw [hs];refine ⟨fun j => rfl,?_⟩;show s.H.set b (some cs) = s.H;apply cY;intro j;rw [bj];split
    ·rename_i e2;subst e2;rw [if_pos (dZ hc),qk.1 hc]
    ·rfl
   ·cases h
theorem jX (xs ys : List AV) : aE (xs ++ ys) = aE xs ++ aE ys := by
 induction xs with
 | nil => rfl
 | cons x r ih => simp [aE,ih,du]
theorem wW {xs : List AV} {d : AV} (h : d ∈ aE xs) : ∃ x ∈ xs,d ∈ x.cells := by
 induction xs with
 | nil => simp [aE] at h
 | cons x r ih =>
   simp only [aE,aD] at h;rcases h with h | h
   ·exact ⟨x,by simp,h⟩
   ·obtain ⟨y,hy,hd⟩ := ih h;exact ⟨y,by simp [hy],hd⟩
theorem Qm.weak {w : World} {og : Option Nat} {a : Addr} {u : Value} (h : Qm w og a u) : Tv w og a u := ⟨h.1,h.2.1⟩
theorem eW.N3 {X : Nat -> Prop} {φ nG : de} {w w1 : World} {N : Names} {s : St} {Ha Ha' : Heap} {t : Nat -> Value} (h : eW X φ w N s Ha t) {p : Rt} {kp : Nat} {xs : List AV} (hp : aC s p = some (kp,xs)) (ad : fB φ w nG w1) (hh : b6 X nG w1 Ha') {n : Nat} (hn : N.ν p = some n \/ φ.length <= n) (jN : ∀ m,m ≠ n -> m < Ha.length -> aH Ha' m = aH Ha m) : eW X nG w1 N (setAt (bW (sw p) s) p .any) Ha' t := by
 have hpo : (aC s p).isSome := by rw [hp]; rfl
 obtain ⟨d1,d2,d3⟩ := h.drop hp;have hlen := h.heap.len;refine d1.m6 ad hh (fun q k' zs e => ?_) (fun b GY => ?_)
 ·have e' := e;rw [d2] at e';split at e'
  ·cases e'
  rename_i nq;refine (d1.own q k' zs e).same fun m hmq => ?_;have hml := h.gU (by rw [e']; rfl) hmq;refine jN m ?_ hml;rintro rfl;rcases hn with hn | hn
  ·exact nq (h.inj q p m (by rw [e']; rfl) hpo hmq hn)
  ·omega
 ·have JZ : (aH s.H b).isSome := by
   cases e : aH s.H b with
   | none => rw [d3.Cp b e] at GY; cases GY
   | some _ => rfl
  have hml := h.qB JZ;refine jN _ ?_ hml;intro e;rcases hn with hn | hn
  ·exact h.bx b p JZ hpo (by rw [hn,e])
  ·omega
theorem ads (cO : fk P c) (heat : Jc P c) {X : Nat -> Prop} {φ : de} {w : World} {B : Nat -> Nat} {base : Nat} {s s1 : St} {o : Oper} {a : Act} {f : Nat} {x : E} {es : List E} {v : AV} {fq : Fq} (hk : cG P o.op (kU (.call f (x :: es))) = true) (h : SB X φ w B base s (tm a)) (hg : Am.dL (gZ c) X φ w) {g : Nat -> List AV -> List AV -> Option (List AV)} (Kq : c.eat f = some g) (hs : PS s g (bn c s.env x) (di c s.env es) = some (v,s1,fq)) : kY P X φ w B base s1 v o a := by unfold PS at hs;cases hs
mutual
theorem O4 : ∀ x,pl x = true -> aL x = []
 | .dp _ _ _ _,h => by simp [pl] at h
 | .eK _ _ _ _,h => by simp [pl] at h
 | .agg cs,h => by simp only [pl] at h; simp only [aL]; exact vE cs h
 | .dW cs,h => by simp only [pl] at h; simp only [aL]; exact vE cs h
 | .func _ a b,h => by simp only [pl,ab] at h; simp only [aL,vE a h.1,vE b h.2,iv]
 | .any,_ => rfl | .undef,_ => rfl | .fi,_ => rfl | .eV,_ => rfl | .dc,_ => rfl
 | .int _ _,_ => rfl | .bool _,_ => rfl | .str _,_ => rfl | .list _ _,_ => rfl | .cX _,_ => rfl | .ptr _ _,_ => rfl | .sl _ _ _ _,_ => rfl | .own _ _,_ => rfl
theorem vE : ∀ xs,j5 xs = true -> cQ xs = []
 | [],_ => rfl
 | x :: r,h => by simp only [j5,ab] at h; simp only [cQ,O4 x h.1,vE r h.2,iv]
end
theorem Xm {s s1 : St} {f : Nat} {x : AV} {es : List AV} {v : AV} {fl : Fq} (h : Us c call s f es x = some (v,s1,fl)) : ∃ b md q cs cs',x = .ptr b 0 /\ c.fn f = some (md,q) /\ aH s.H b = some cs /\ (md.sh = true /\ j5 es = true /\ j5 cs = true) /\ call f (.ptr 0 0 :: es) [some cs] = some (v,[some cs']) /\ (pl v = true /\ j5 cs' = true) /\ s1 = ⟨s.env,s.H.set b (some cs')⟩ /\ fl = .lw b := by
 unfold Us at h;split at h
 case h_2 => cases h
 rename_i b;split at h
 case h_2 => cases h
 rename_i md q cs hf hb;split at h
 case isFalse => cases h
 rename_i hp;split at h
 case h_2 => cases h
 rename_i r cs' hc;split at h
 case isFalse => cases h
 rename_i hr;simp only [aj,aF] at h;obtain ⟨rfl,rfl,rfl⟩ := h;exact ⟨b,md,q,cs,cs',rfl,hf,hb,hp,hc,hr,rfl,rfl⟩
theorem uI {s s1 : St} {kd : Kd} {v : AV} {fl : Fq} (h : lj c call s kd = some (some (v,s1,fl))) : ∃ f x es b md q cs cs',kd = .call f (x :: es) /\ c.loc f = true /\ bn c s.env x = .ptr b 0 /\ c.fn f = some (md,q) /\ aH s.H b = some cs /\ (md.sh = true /\ j5 (di c s.env es) = true /\ j5 cs = true) /\ call f (.ptr 0 0 :: di c s.env es) [some cs] = some (v,[some cs']) /\ (pl v = true /\ j5 cs' = true) /\ s1 = ⟨s.env,s.H.set b (some cs')⟩ /\ fl = .lw b := by
 unfold lj at h;split at h
 case h_2 => cases h
 rename_i f x es;split at h
 case isFalse => cases h
 rename_i hl;simp only [aj] at h;obtain ⟨b,md,q,cs,cs',h1,h2,h3,h4,h5,h6,h7,h8⟩ := Xm h;exact ⟨f,x,es,b,md,q,cs,cs',rfl,hl,h1,h2,h3,h4,h5,h6,h7,h8⟩
theorem C1 {s s1 : St} {kd : Kd} {v : AV} {f : Fq} (h : lj c call s kd = some (some (v,s1,f))) : ∃ b,f = .lw b := by
 obtain ⟨_,_,_,b,_,_,_,_,_,_,_,_,_,_,_,_,_,e⟩ := uI h;exact ⟨b,e⟩
theorem AH {e : Env} {H : Heap} {d j : Nat} (hp : ∀ cs,aH H d = some cs -> j5 cs = true) : aC ⟨e,H⟩ (.c d j) = none := by
 cases ho : aC ⟨e,H⟩ (.c d j) with
 | none => rfl
 | some y =>
   obtain ⟨k,xs⟩ := y;have h1 := bY.1 ho;simp only [at_] at h1;split at h1
   ·rename_i ds hd;have := gf (hp ds hd) j _ h1;simp [pl] at this
   ·cases h1
theorem qJ (N : Names) (p : Rt) {z : AV} (hz : pl z = true) : je N p z = z := by
 cases z <;> first | exact kG N _ hz | (simp [pl] at hz; done)
theorem TJ (N : Names) {z : AV} (hz : pl z = true) : fZ N z = z := by
 cases z <;> first | exact kG N _ hz | (simp [pl] at hz; done)
theorem eW.VW {X : Nat -> Prop} {φ nG : de} {w w1 : World} {N : Names} {s : St} {Ha Ha' : Heap} {t : Nat -> Value} (h : eW X φ w N s Ha t) {b : Nat} {cs cs' : List AV} (hb : aH s.H b = some cs) (SM : j5 cs = true) (PE : j5 cs' = true) (ad : fB φ w nG w1) (hh : b6 X nG w1 Ha') (XO : aH Ha' (N.β b) = some cs') (Be : ∀ m,m ≠ N.β b -> aH Ha' m = aH Ha m) : eW X nG w1 N ⟨s.env,s.H.set b (some cs')⟩ Ha' t := by
 have hoa : ∀ p,aC ⟨s.env,s.H.set b (some cs')⟩ p = aC s p := by
  intro p;cases p with
  | s i => rfl
  | sc i j => rfl
  | c d j =>
    by_cases e : d = b
    ·subst e;rw [AH (e := s.env) (H := s.H.set d (some cs')) (d := d) (j := j) fun ds hd => by rw [dF,if_pos ⟨rfl,dZ hb⟩] at hd; cases hd; exact PE];exact (AH (e := s.env) (H := s.H) (d := d) (j := j) fun ds hd => by rw [hb] at hd; cases hd; exact SM).symm
    ·simp only [aC,at_];rw [dF,if_neg (fun h => e h.1)]
 have hfe : aC ⟨s.env,s.H.set b (some cs')⟩ = aC s := funext hoa;have hlen : (s.H.set b (some cs')).length = s.H.length := by simp
 have hblk : ∀ d ds,aH (s.H.set b (some cs')) d = some ds -> (d = b /\ ds = cs') \/ (d ≠ b /\ aH s.H d = some ds) := by
  intro d ds e;by_cases e2 : d = b
  ·subst e2;rw [dF,if_pos ⟨rfl,dZ hb⟩] at e;cases e;exact .inl ⟨rfl,rfl⟩
  ·rw [dF,if_neg (fun h => e2 h.1)] at e;exact .inr ⟨e2,e⟩
 have XN : ∀ d,(aH (s.H.set b (some cs')) d).isSome -> (aH s.H d).isSome := by
  intro d e;obtain ⟨ds,hd⟩ := aW.1 e;rcases hblk d ds hd with ⟨rfl,_⟩ | ⟨_,h2⟩
  ·rw [hb]; rfl
  ·rw [h2]; rfl
 have JZ : (aH s.H b).isSome := by rw [hb]; rfl
 refine ⟨fun i => ad.rep (h.env i),fun i => ?_,hh,fun p k xs e => ?_,fun d ds e => ?_,fun p q n e1 e2 => ?_,fun d p e1 e2 => ?_,fun d e0 e1 e2 e3 => ?_⟩
 ·rw [hfe];show cr _ (s.H.set b (some cs')).length _;rw [hlen]; exact h.GO i
 ·rw [hoa] at e;have ho := h.own p k xs e;cases hn : N.ν p with
  | none => rw [hn] at ho; exact ho
  | some m =>
    rw [hn] at ho;obtain ⟨ds,d1,d2⟩ := ho;have sZ : m ≠ N.β b := fun e2 => h.bx b p JZ (by rw [e]; rfl) (by rw [hn,e2]);exact ⟨ds,by rw [Be _ sZ]; exact d1,d2⟩
 ·rcases hblk d ds e with ⟨rfl,rfl⟩ | ⟨hd,CC⟩
  ·exact ⟨_,XO,rfl,fun j d hd => ⟨wR _ (gf PE j d hd),d,hd,by rw [qJ _ _ (gf PE j d hd)]; exact Le.refl _⟩⟩
  ·obtain ⟨as2,x1,x2,x3⟩ := h.box d ds CC;have sZ : N.β d ≠ N.β b := fun h2 => hd (h.bi d b (by rw [CC]; rfl) JZ h2);refine ⟨as2,by rw [Be _ sZ]; exact x1,x2,fun j d' hd' => ?_⟩;obtain ⟨y1,y2⟩ := x3 j d' hd';refine ⟨?_,y2⟩;rw [hfe];show cr _ (s.H.set b (some cs')).length _;rw [hlen]; exact y1
 ·rw [hoa] at e1 e2; exact h.inj p q n e1 e2
 ·rw [hoa] at e2; exact h.bx d p (XN d e1) e2
 ·exact h.bi d e0 (XN d e1) (XN e0 e2) e3
theorem O5 : ∀ {l : List AV},(∀ y ∈ l,pl y = true) -> j5 l = true
 | [],_ => rfl
 | x :: r,h => by simp only [j5,ab]; exact ⟨h x (by simp),O5 fun y hy => h y (by simp [hy])⟩
theorem J2 : ∀ {l : List AV},(∀ y ∈ l,y.cells = [y]) -> aE l = l
 | [],_ => rfl
 | x :: r,h => by
   simp only [aE];rw [h x (by simp),J2 fun y hy => h y (by simp [hy])];rfl
theorem Ye {x : AV} (h : fz x = true) : x.cells = [x] := by
 have := (lu h).2;cases x <;> first | rfl | (simp [AV.leaf] at this; done)
theorem aae (cO : fk P c) (nS : Y8 P c) {X : Nat -> Prop} {φ : de} {w : World} {B : Nat -> Nat} {base : Nat} {s : St} {o : Oper} {a : Act} {f : Nat} {x : E} {es : List E} {g : Nat -> List AV -> List AV -> Option (List AV × Option Nat)} (hk : cG P o.op (kU (.call f (x :: es))) = true) (h : SB X φ w B base s (tm a)) (hg : Am.dL (gZ c) X φ w) (Kq : c.inp f = some g) {k b len : Nat} {cs ys : List AV} {res : Option Nat} (hx : bn c s.env x = .sl k b 0 len) (hb : aH s.H b = some cs) (hc : k = 1 /\ len <= cs.length /\ UU cs = true /\ j5 (di c s.env es) = true) (GW : g k (cs.take len) (di c s.env es) = some (ys,res)) : kY P X φ w B base ⟨s.env,s.H.set b (some (aE ys ++ cs.drop len))⟩ (JT k b res) o a := by
 obtain ⟨rfl,hle,CB,pR⟩ := hc;obtain ⟨⟨md,q,hf⟩,hI⟩ := nS f g Kq;obtain ⟨N,Ha,h,GY⟩ := h;obtain ⟨vargs,nn,hA,zO⟩ := ny (kd := .call f (x :: es)) (args := bn c s.env x :: di c s.env es) cO h hg hk rfl hf;rw [hx] at hA zO;have hl : (di c s.env es).length + 1 = vargs.size := by have := hA.1; simpa using this
 obtain ⟨v0,UF⟩ := cP (l := vargs) (i := 0) (by omega);have r0 := hA.2 0 _ v0 rfl UF
 have hes : ∀ (i : Nat) (e : AV) (u : Value),(di c s.env es)[i]? = some e -> vargs[i + 1]? = some u -> bN (Rd X φ w) [] e u := fun i e u he hu => by
  have r1 := hA.2 (i + 1) e u (by simpa using he) hu;have GD := gf pR i e he;have ht : fZ N e = e := by cases e <;> first | exact kG N _ GD | (simp [pl] at GD; done)
  rw [ht] at r1;exact r1.dA (gH _ GD) []
 simp only [fZ,ct] at r0;obtain ⟨as,b1,b2,b3⟩ := h.box b cs hb;have hce : ∀ y ∈ cs,y.cells = [y] := fun y hy => Ye (mZ CB y hy);have SM : j5 cs = true := O5 fun y hy => (lu (mZ CB y hy)).1
 have hH1 : b6 X φ w (Ha.set (N.β b) (some cs)) := less h.heap b1 (by omega) fun i d hd => by
  obtain ⟨_,a',a1,a2⟩ := b3 i d hd;rw [qJ N _ (gf SM i d hd)] at a2;exact ⟨a',a1,a2⟩
 have htd : aE (cs.take len ++ cs.drop len) = cs := by rw [Ox]; exact J2 hce
 have bA : (cs.take len).length = len := by rw [bg]; omega
 obtain ⟨⟨⟨j1,j2⟩,j3,j4⟩,_,j6⟩ := hI 1 _ _ ys res GW (fun y hy => by rw [hce y (cH hy)]; rfl) (fun y hy d hd => by
  have Iz := cH hy;rw [hce y Iz] at hd;simp at hd;subst hd;exact mZ CB d Iz)
 have kf := j6 X φ w (Ha.set (N.β b) (some cs)) (N.β b) (cs.drop len) vargs v0 hH1 (by rw [htd,dF,if_pos ⟨rfl,dZ b1⟩]) hl UF (by rw [bA]; exact r0) hes;intro K Q hK;unfold Oper.wp;rw [nn,Oper.upon_enter];refine kf.mono ?_;rintro e w1 ⟨v',nG,rfl,rv,hh,ad⟩;rw [List.set_set,jX,J2 (l := cs.drop len) fun y hy => hce y (cI hy)] at hh
 have hpn : j5 (aE ys ++ cs.drop len) = true := O5 fun y hy => by
  rcases aD.1 hy with hy | hy
  ·obtain ⟨z,hz,hd⟩ := wW hy;exact (lu (j3 z hz y hd)).1
  ·exact (lu (mZ CB y (cI hy))).1
 have gE := h.VW (cs' := aE ys ++ cs.drop len) hb SM hpn ad hh (by rw [dF,if_pos ⟨rfl,dZ b1⟩]) fun m hm => by rw [dF,if_neg (fun h => hm h.1)]
 refine hK v' w1 nG (dV.quiet gE ⟨GY.1,by simpa using GY.2⟩ ?_ ?_ ?_) ad
 ·cases res with
  | none => trivial
  | some m =>
    show b < (s.H.set b _).length;rw [k8]; exact dZ hb
 ·cases res <;> trivial
 ·cases res with
  | none => simpa [JT,vv,ct,kq] using rv
  | some m => simpa [JT,vv,ct] using rv
theorem ado (cO : fk P c) (nS : vo P c) {X : Nat -> Prop} {φ : de} {w : World} {B : Nat -> Nat} {base : Nat} {s s1 : St} {o : Oper} {a : Act} {kd : Kd} {v : AV} {fq : Fq} (hk : cG P o.op (kU kd) = true) (h : SB X φ w B base s (tm a)) (hg : Am.dL (gZ c) X φ w) (hs : nQ c s kd = some (some (v,s1,fq))) : kY P X φ w B base s1 v o a := by
 unfold nQ at hs;split at hs
 case h_2 => cases hs
 rename_i f x es;split at hs
 case h_1 =>
  split at hs
  ·cases hs
  ·rename_i g Kq;simp only [aj] at hs;exact ads cO nS.2 hk h hg Kq hs
 replace nS := nS.1;rename_i g Kq;simp only [aj] at hs;split at hs
 case h_4 => cases hs
 case h_3 =>
  rename_i k b len hx;split at hs
  case h_2 => cases hs
  rename_i cs hb;split at hs
  case isFalse => cases hs
  rename_i hc;split at hs
  case h_2 => cases hs
  rename_i ys res GW;simp only [aj,aF] at hs;obtain ⟨rfl,rfl,_⟩ := hs;exact aae cO nS hk h hg Kq hx hb hc GW
 ·rename_i k hx;split at hs
  case isFalse => cases hs
  rename_i pR;split at hs
  case h_2 => cases hs
  rename_i ys res GW;simp only [aj,aF] at hs;obtain ⟨rfl,rfl,_⟩ := hs;obtain ⟨⟨md,q,hf⟩,hI⟩ := nS f g Kq;obtain ⟨N,Ha,h,hb⟩ := h;obtain ⟨vargs,nn,hA,zO⟩ := ny (kd := .call f (x :: es)) (args := bn c s.env x :: di c s.env es) cO h hg hk rfl hf;rw [hx] at hA zO;have hl : (di c s.env es).length + 1 = vargs.size := by have := hA.1; simpa using this
  obtain ⟨v0,UF⟩ := cP (l := vargs) (i := 0) (by omega);have r0 := hA.2 0 _ v0 rfl UF
  have hes : ∀ (i : Nat) (e : AV) (u : Value),(di c s.env es)[i]? = some e -> vargs[i + 1]? = some u -> bN (Rd X φ w) [] e u := fun i e u he hu => by
   have r1 := hA.2 (i + 1) e u (by simpa using he) hu;have GD := gf pR i e he;have ht : fZ N e = e := by cases e <;> first | exact kG N _ GD | (simp [pl] at GD; done)
   rw [ht] at r1;exact r1.dA (gH _ GD) []
  obtain ⟨_,j3,_⟩ := hI k _ _ ys res GW (fun y hy => by simp at hy) (fun y hy => by simp at hy);simp only [fZ,ct] at r0;have kf := j3 rfl X φ w vargs v0 _ (.inr rfl) hl UF r0 hes;intro K Q hK;unfold Oper.wp;rw [nn,Oper.upon_enter];refine kf.mono ?_;rintro e w1 ⟨v',rfl,rv,ad⟩;have gE : eW X φ w1 N s Ha (tm a) := h.m6 (.of_same ad) (h.heap.of_same ad) h.own (fun _ _ => rfl);refine hK v' w1 φ (dV.quiet gE hb ?_ ?_ ?_) (.of_same ad)
  ·cases res <;> trivial
  ·cases res <;> trivial
  ·cases res with
   | none => simpa [inpL,vv,ct,kq] using rv
   | some m => simpa [inpL,vv,ct] using rv
 rename_i k p len hx;split at hs
 case h_2 => cases hs
 rename_i k' xs hp;split at hs
 case isFalse => cases hs
 rename_i hc;obtain ⟨rfl,hle,pR⟩ := hc;split at hs
 case h_2 => cases hs
 rename_i ys res GW;simp only [aj,aF] at hs;obtain ⟨rfl,rfl,_⟩ := hs;obtain ⟨⟨md,q,hf⟩,hI⟩ := nS f g Kq;obtain ⟨N,Ha,h,hb⟩ := h;obtain ⟨vargs,nn,hA,zO⟩ := ny (kd := .call f (x :: es)) (args := bn c s.env x :: di c s.env es) cO h hg hk rfl hf;rw [hx] at hA zO;have hl : (di c s.env es).length + 1 = vargs.size := by have := hA.1; simpa using this
 obtain ⟨v0,UF⟩ := cP (l := vargs) (i := 0) (by omega);have r0 := hA.2 0 _ v0 rfl UF
 have hes : ∀ (i : Nat) (e : AV) (u : Value),(di c s.env es)[i]? = some e -> vargs[i + 1]? = some u -> bN (Rd X φ w) [] e u := fun i e u he hu => by
  have r1 := hA.2 (i + 1) e u (by simpa using he) hu;have GD := gf pR i e he;have ht : fZ N e = e := by cases e <;> first | exact kG N _ GD | (simp [pl] at GD; done)
  rw [ht] at r1;exact r1.dA (gH _ GD) []
 have fA := h.own p k' xs hp;cases hn : N.ν p with
 | none =>
   rw [hn] at fA;have hxs : xs = [] := fA;subst hxs;have h0 : len = 0 := by simpa using hle
   subst h0;obtain ⟨⟨⟨j1,_⟩,_,j2⟩,j3,_⟩ := hI k' _ _ ys res GW (fun y hy => by simp at hy) (fun y hy => by simp at hy);have hys : ys = [] := by simpa using j1
   subst hys;simp only [fZ,ct,hn] at r0;have kf := j3 (by simp) X φ w vargs v0 _ (.inl rfl) hl UF r0 hes;intro K Q hK;unfold Oper.wp;rw [nn,Oper.upon_enter];refine kf.mono ?_;rintro e w1 ⟨v',rfl,rv,ad⟩;obtain ⟨se,sH⟩ := OL (s := s) (p := p) (v := .own k' []) (bY.1 hp);have gE : eW X φ w1 N (setAt s p (.own k' ([] ++ ([] : List AV).drop 0))) Ha (tm a) := (h.m6 (.of_same ad) (h.heap.of_same ad) h.own (fun _ _ => rfl)).ext se sH;refine hK v' w1 φ (dV.quiet gE ⟨hb.1,by show base <= (setAt s p (.own k' [])).H.length; rw [sH]; exact hb.2⟩ ?_ ?_ ?_) (.of_same ad)
   ·cases res with
    | none => trivial
    | some m =>
      have := j2 m rfl;simp at this;subst this
      exact ⟨[],by
       show aC (setAt s p (.own k' [])) p = _;rw [H9 se sH]; exact hp,by simp⟩
   ·cases res <;> trivial
   ·cases res with
    | none => simpa [Uz,vv,ct,kq] using rv
    | some m => simpa [Uz,vv,ct,hn] using rv
 | some n =>
   rw [hn] at fA;obtain ⟨cs,c1,c2,c3,c4⟩ := fA;have hxs : xs.take len ++ xs.drop len = xs := Ox len xs
   have CB : ∀ y ∈ xs,∀ d ∈ y.cells,fz d = true := by
    intro y hy d hd
    have : d ∈ aE xs := by
     clear c1 c2 c3 c4 GW hp hle hxs hA r0 zO hx UF hes
     induction xs with
     | nil => simp at hy
     | cons z r ih =>
       simp only [aE,aD];rcases aJ.1 hy with e | e
       ·subst e; exact .inl hd
       ·exact .inr (ih e)
    obtain ⟨i,hi⟩ := bD this;exact (c4 i d hi).1
   obtain ⟨⟨⟨j1,j2⟩,j3,j4⟩,_,j6⟩ := hI k' _ _ ys res GW (fun y hy => c3 y (cH hy)) (fun y hy => CB y (cH hy));have bA : (xs.take len).length = len := by simp; omega
   rw [bA] at j1
   have hH1 : b6 X φ w (Ha.set n (some (aE xs))) := less h.heap c1 (by rw [jx c3]; exact c2) fun i d hd => by
    obtain ⟨_,a',b1,_,b2⟩ := c4 i d hd;exact ⟨a',b1,b2⟩
   simp only [fZ,ct,hn,qE] at r0;have kf := j6 X φ w (Ha.set n (some (aE xs))) n (xs.drop len) vargs v0 hH1 (by rw [hxs,dF,if_pos ⟨rfl,dZ c1⟩]) hl UF (by rw [bA]; exact r0) hes;intro K Q hK;unfold Oper.wp;rw [nn,Oper.upon_enter];refine kf.mono ?_;rintro e w1 ⟨v',nG,rfl,rv,hh,ad⟩;rw [List.set_set] at hh
   have Ng : ∀ y ∈ ys ++ xs.drop len,y.cells.length = k' := fun y hy => by
    rcases aD.1 hy with hy | hy
    ·exact j2 y hy
    ·exact c3 y (cI hy)
   have XV : pX (Ha.set n (some (aE (ys ++ xs.drop len)))) (some n) k' (ys ++ xs.drop len) := by
    refine ⟨aE (ys ++ xs.drop len),by rw [dF,if_pos ⟨rfl,dZ c1⟩],by rw [jx Ng]; exact aS _,Ng,fun i d hd => ?_⟩;have hm := wW (bf hd);obtain ⟨y,hy,hdy⟩ := hm
    have hfd : fz d = true := by
     rcases aD.1 hy with hy | hy
     ·exact j3 y hy d hdy
     ·exact CB y (cI hy) d hdy
    exact ⟨hfd,d,hd,(lu hfd).2,Le.refl _⟩
   obtain ⟨gE,jo⟩ := h.upd (xs' := ys ++ xs.drop len) hp hn (by simp; omega) ad hh XV (fun m C2 => by rw [dF,if_neg (fun e => C2 e.1)])
   have fe : aC (setAt s p (.own k' (ys ++ xs.drop len))) p = some (k',ys ++ xs.drop len) := by
    have ua := bY.1 hp;refine bY.2 ?_;rw [Bt ⟨(fun cs e => by cases e),_,ua,(fun cs e => by cases e)⟩ (EP (by rw [hp]; rfl)),if_pos rfl]
   refine hK v' w1 nG (dV.quiet gE ⟨hb.1,by rw [jo.len]; exact hb.2⟩ ?_ ?_ ?_) ad
   ·cases res with
    | none => trivial
    | some m =>
      have := j4 m rfl;refine ⟨_,fe,?_⟩;rw [bu];omega
   ·cases res <;> trivial
   ·cases res with
    | none => simpa [Uz,vv,ct,kq] using rv
    | some m => simpa [Uz,vv,ct,hn] using rv
theorem adi (cO : fk P c) (dU : gO P c call) {X : Nat -> Prop} {φ : de} {w : World} {B : Nat -> Nat} {base : Nat} {s s1 : St} {o : Oper} {a : Act} {kd : Kd} {v : AV} {fq : Fq} (hk : cG P o.op (kU kd) = true) (h : SB X φ w B base s (tm a)) (hg : Am.dL (gZ c) X φ w) (hs : lj c call s kd = some (some (v,s1,fq))) : kY P X φ w B base s1 v o a := by
 obtain ⟨f,x,es,b,md,q,cs,cs',rfl,hl,hx,hf,hb,⟨jo,pR,SM⟩,hc,⟨hpr,PE⟩,rfl,rfl⟩ := uI hs;obtain ⟨N,Ha,h,GY⟩ := h;obtain ⟨vargs,nn,hA,zO⟩ := ny (kd := .call f (x :: es)) (args := bn c s.env x :: di c s.env es) cO h hg hk rfl hf;rw [hx] at hA zO;generalize di c s.env es = as at pR hc hA zO;obtain ⟨bs,b1,b2,b3⟩ := h.box b cs hb;obtain ⟨g,sz,arr,te,g1,g2,g3,g4,g5,g6⟩ := h.heap.at b1;have og : bK φ g := ⟨_,sz,g1⟩
 have ow : ∀ g0,bK [some (g,sz)] g0 -> g0 = g := by
  rintro g0 ⟨i,z,hi⟩;cases i with
  | zero => simp at hi; exact hi.1.symm
  | succ i => simp at hi
 have rdin : ∀ a u,Rd X φ w a u -> Rd (fun g0 => X g0 \/ (bK φ g0 /\ g0 ≠ g)) [some (g,sz)] w a u := fun a u ⟨h1,h2,h3⟩ => ⟨fun h => h.elim h1 (fun h => h2 h.1),fun ho => h2 (by rw [ow _ ho]; exact og),h3⟩
 have hh : b6 (fun g0 => X g0 \/ (bK φ g0 /\ g0 ≠ g)) [some (g,sz)] w [some cs] := by
  refine ⟨rfl,fun g0 h0 => h0.elim (h.heap.GL g0) (fun ho => (h.heap.gU ho.1).1),fun i ds hi => ?_,fun i hi => ?_,fun i i' g0 z z' e1 e2 => ?_⟩
  ·cases i with
   | succ i => simp at hi
   | zero =>
     simp at hi;subst hi;refine ⟨g,sz,arr,te,rfl,g2,g3,by omega,fun h0 => h0.elim g5 (fun h1 => h1.2 rfl),fun j d hd => ?_⟩;obtain ⟨_,a',C4,hle⟩ := b3 j d hd;obtain ⟨u,u1,u2⟩ := g6 j a' C4;have hpd := gf SM j d hd;rw [qJ N _ hpd] at hle;exact ⟨u,u1,((hle _ _ _ u2).dA (gH _ hpd) _).mono rdin (.refl _)⟩
  ·cases i with
   | zero => simp at hi
   | succ i => simp at hi
  ·cases i with
   | succ i => simp at e1
   | zero => cases i' with
     | zero => rfl
     | succ i' => simp at e2
 have Fv : ∀ i,get (dH 0 (AV.ptr 0 0 :: as)) i = (AV.ptr 0 0 :: as)[i]?.getD .any := fun i => by rw [rT]; simp
 have X9 : ∀ i,(get (dH 0 (AV.ptr 0 0 :: as)) i = .ptr 0 0 /\ i = 0) \/ pl (get (dH 0 (AV.ptr 0 0 :: as)) i) = true := fun i => by
  rw [Fv];cases i with
  | zero => exact .inl ⟨rfl,rfl⟩
  | succ i =>
    refine .inr ?_;simp only [jb];cases e : as[i]? with
    | none => rfl
    | some x => exact gf pR i x e
 have gY : ∀ p,aC ⟨dH 0 (AV.ptr 0 0 :: as),[some cs]⟩ p = none := by
  have hw : ∀ i,bI (get (dH 0 (AV.ptr 0 0 :: as)) i) = false := fun i => (X9 i).elim (fun e => by rw [e.1]; rfl) xx;intro p;cases p with
  | s i => exact (dY (s := ⟨dH 0 (AV.ptr 0 0 :: as),[some cs]⟩) (hw i)).1
  | sc i j => exact (dY (s := ⟨dH 0 (AV.ptr 0 0 :: as),[some cs]⟩) (hw i)).2 j
  | c d j =>
    refine AH fun ds hd => ?_;cases d with
    | zero => simp [aH] at hd; subst hd; exact SM
    | succ d => simp [aH] at hd
 have nk : as.length + 1 = vargs.size := by simpa using hA.1
 have IB : SB (fun g0 => X g0 \/ (bK φ g0 /\ g0 ≠ g)) [some (g,sz)] w (fun _ => 0) 1 ⟨dH 0 (AV.ptr 0 0 :: as),[some cs]⟩ (fun i => vargs.getD i undef) := by
  refine ⟨⟨fun _ => 0,fun _ => none⟩,[some cs],⟨fun i => ?_,fun i => ?_,hh,fun p k xs e => ?_,fun d ds e => ?_,fun p q n e1 => ?_,fun d p _ e1 => ?_,fun d e0 e1 e2 _ => ?_⟩,fun b hb => rfl,by simp⟩
  ·show bN _ _ (jS _ i (get (dH 0 (AV.ptr 0 0 :: as)) i)) _;rcases X9 i with ⟨e,rfl⟩ | hp
   ·rw [e];obtain ⟨v0,UF⟩ := cP (l := vargs) (i := 0) (by omega);have r0 := hA.2 0 _ v0 rfl UF;rw [aY,UF];simp only [fZ,ct] at r0;cases r0 with
    | ptr _ _ _ ad gr h' =>
      refine .ptr _ _ _ _ (by simp) fun g0 z e => ?_;simp at e;obtain ⟨rfl,rfl⟩ := e;exact h' g sz g1
   ·rw [As _ _ hp];cases i with
    | zero => rw [Fv] at hp; simp [pl] at hp
    | succ i =>
      rw [Fv] at hp ⊢;simp only [jb] at hp ⊢;cases e : as[i]? with
      | none => exact .any _ _
      | some y =>
        rw [e] at hp;simp only [jJ] at hp ⊢;obtain ⟨v,hv⟩ := cP (l := vargs) (i := i + 1) (by have := aB e; omega);have r0 := hA.2 (i + 1) y v (by simpa using e) hv;rw [TJ N hp] at r0;rw [aY,hv];exact (r0.dA (gH _ hp) _).mono rdin (.refl _)
  ·show cr _ _ (get (dH 0 (AV.ptr 0 0 :: as)) i);rcases X9 i with ⟨e,_⟩ | hp
   ·rw [e]; simp [cr]
   ·exact wR _ hp
  ·rw [gY] at e; cases e
  ·cases d with
   | succ d => simp [aH] at e
   | zero =>
     simp [aH] at e;subst e;exact ⟨cs,rfl,rfl,fun j d hd => ⟨wR _ (gf SM j d hd),d,hd,by rw [qJ _ _ (gf SM j d hd)]; exact Le.refl _⟩⟩
  ·rw [gY] at e1; cases e1
  ·rw [gY] at e1; cases e1
  ·cases d with
   | succ d => simp [aH] at e1
   | zero => cases e0 with
     | succ d => simp [aH] at e2
     | zero => rfl
 have kf := dU f md q hf (AV.ptr 0 0 :: as) [some cs] v [some cs'] (.inl jo) hc (fun _ => by simp [gj,vE _ PE,vf]) _ _ w (fun _ => 0) vargs (by simpa using hA.1) IB (fun g0 => (hg g0).mono rdin (.refl _));intro K Q hK;unfold Oper.wp;rw [nn,Oper.upon_enter];refine kf.mono ?_;rintro e w1 ⟨v',nG,rfl,⟨N1,H1,gE,zP,_⟩,ad⟩;obtain ⟨as1,c1,c2,c3⟩ := gE.box 0 cs' rfl;rw [zP 0 (by simp)] at c1;obtain ⟨g',m9,arr1,te1,k1,k2,k3,k4,k5,k6⟩ := gE.heap.at c1;have hgg := ad.RX.Ic 0 _ (by simp) k1;simp at hgg;obtain ⟨rfl,rfl⟩ := hgg;have ow2 : bK nG g := ⟨0,sz,k1⟩;have abI : ∀ a u,Rd (fun g0 => X g0 \/ (bK φ g0 /\ g0 ≠ g)) nG w1 a u -> Rd X φ w1 a u := fun a u ⟨h1,h2,h3⟩ => ⟨fun h => h1 (.inl h),fun ho => h1 (.inr ⟨ho,fun e => h2 (by rw [e]; exact ow2)⟩),h3⟩;have m6 : fB φ w φ w1 := ⟨ad.os,ad.tape,ad.output,ad.drawn,ad.size,fun g0 bA hno' => ⟨(ad.keep g0 bA (fun ho => hno' (by rw [ow _ ho]; exact og))).1,hno'⟩,.refl _⟩
 have hh2 : b6 X φ w1 (Ha.set (N.β b) (some cs')) := by
  refine ⟨by simp [h.heap.len],fun g0 h0 => gQ (h.heap.GL g0 h0) ad.size,fun m ds hm => ?_,fun m hm => ?_,h.heap.inj⟩
  ·rw [bj] at hm;split at hm
   ·rename_i e;subst e;split at hm
    ·simp at hm;subst hm;refine ⟨g,sz,arr1,te1,g1,k2,k3,by omega,g5,fun j d hd => ?_⟩;obtain ⟨_,a',C4,hle⟩ := c3 j d hd;obtain ⟨u,u1,u2⟩ := k6 j a' C4;have hpd := gf PE j d hd;rw [qJ N1 _ hpd] at hle;exact ⟨u,u1,((hle _ _ _ u2).dA (gH _ hpd) _).mono abI (.refl _)⟩
    ·cases hm
   ·rename_i sZ;obtain ⟨g0,Vq,arr0,e0,p1,p2,p3,p4,p5,p6⟩ := h.heap.live m ds hm;have hg0 : g0 ≠ g := fun e => sZ (h.heap.inj _ _ _ _ _ g1 (e ▸ p1));refine ⟨g0,Vq,arr0,e0,p1,?_,p3,p4,p5,fun j d hd => ?_⟩
    ·rw [(ad.keep g0 (dx.1 p2).1 (fun ho => hg0 (ow _ ho))).1]; exact p2
    ·obtain ⟨u,u1,u2⟩ := p6 j d hd;exact ⟨u,u1,m6.rep u2⟩
  ·rw [bj] at hm;split at hm
   ·split at hm <;> simp at hm
   ·exact h.heap.dead m hm
 have hlen : (s.H.set b (some cs')).length = s.H.length := by simp
 have OK : eW X φ w1 N ⟨s.env,s.H.set b (some cs')⟩ (Ha.set (N.β b) (some cs')) (tm a) := h.VW hb SM PE m6 hh2 (by rw [dF,if_pos ⟨rfl,dZ b1⟩]) fun m hm => by rw [dF,if_neg (fun h => hm h.1)]
 have hno2 := xx hpr;have r0 := gE.env 0;simp only [Am.get,if_true] at r0;rw [As N1 0 hpr] at r0;refine hK v' w1 φ (dV.quiet OK ⟨GY.1,by show base <= (s.H.set b (some cs')).length; rw [hlen]; exact GY.2⟩ (wR v hpr) (mR hno2) ?_) m6;rw [kH N hno2,kG N _ hpr];exact (r0.dA (gH _ hpr) _).mono abI (.refl _)
theorem adf (cO : fk P c) (dU : gO P c call) {X : Nat -> Prop} {φ : de} {w : World} {B : Nat -> Nat} {base : Nat} {s s1 : St} {o : Oper} {a : Act} {v : AV} {fq : Fq} {f i : Nat} {es : List E} (hk : cG P o.op (kU (.call f es)) = true) (h : SB X φ w B base s (tm a)) (hg : Am.dL (gZ c) X φ w) (hs : Mz c call f i s (di c s.env es) = some (v,s1,fq)) : kY P X φ w B base s1 v o a := by unfold Mz at hs;cases hs
theorem vB {s s1 : St} {kd : Kd} {v : AV} {f : Fq} (h : Au c call s kd = some (v,s1,f)) : f = .all /\ aL v = [] := by unfold Au at h;cases h
theorem Qy {s : St} {kd : Kd} {x : AV × St × Fq} (h : Au c call s kd = some x) : ∃ n args H r H',call n args H = some (r,H') /\ ∀ g : Nat -> List AV -> Heap -> Option (AV × Heap),g n args H = some (r,H') -> Au c g s kd = some x := by unfold Au at h;cases h
theorem VS {s : St} {kd : Kd} {x : AV × St × Fq} (h : Au c call s kd = some x) (g : Nat -> List AV -> Heap -> Option (AV × Heap)) : dI c g kd s = none := by unfold Au at h;cases h
theorem iJ {s s1 : St} {kd : Kd} {v : AV} {f : Fq} (h : qj c call kd s = some (v,s1,f)) : dI c call kd s = some (v,s1,f) \/ Au c call s kd = some (v,s1,f) := by
 unfold qj at h;split at h
 ·rename_i x hx;rw [hx];exact .inl h
 ·exact .inr h
theorem py {s : St} {kd : Kd} {x : AV × St × Fq} (h : dI c call kd s = some x) : qj c call kd s = some x := by
 unfold qj;rw [h]
theorem FM {s : St} {kd : Kd} {x : AV × St × Fq} (h : Au c call s kd = some x) : qj c call kd s = some x := by
 unfold qj;rw [VS h];exact h
theorem adb (cO : fk P c) (dU : gO P c call) {X : Nat -> Prop} {φ : de} {w : World} {B : Nat -> Nat} {base : Nat} {s s1 : St} {o : Oper} {a : Act} {kd : Kd} {v : AV} {fq : Fq} (hk : cG P o.op (kU kd) = true) (h : SB X φ w B base s (tm a)) (hg : Am.dL (gZ c) X φ w) (hs : Au c call s kd = some (v,s1,fq)) : kY P X φ w B base s1 v o a := by unfold Au at hs;cases hs
theorem EX (cO : fk P c) (nS : vo P c) (dU : gO P c call) (jo : Gz P c call) {X : Nat -> Prop} {φ : de} {w : World} {B : Nat -> Nat} {base : Nat} {s s1 : St} {o : Oper} {a : Act} {kd : Kd} {v : AV} {fq : Fq} (hk : cG P o.op (kU kd) = true) (h : SB X φ w B base s (tm a)) (hg : Am.dL (gZ c) X φ w) (hs : c7 c call kd s = some (v,s1,fq)) : kY P X φ w B base s1 v o a := by
 unfold c7 at hs;cases hi : nQ c s kd with
 | none =>
   rw [hi] at hs;cases hl : lj c call s kd with
   | none =>
     rw [hl] at hs;simp only [fK] at hs;cases hm : qz c call s kd with
     | none =>
       rw [hm] at hs;rcases iJ hs with hs | hs
       ·exact Ud cO dU jo hk h hg hs
       ·exact adb cO dU hk h hg hs
     | some r =>
       rw [hm] at hs;simp only at hs;subst hs;unfold qz at hm;split at hm
       case h_2 => cases hm
       rename_i f es;split at hm
       case h_2 => cases hm
       rename_i i hi;simp only [aj] at hm;obtain ⟨nG,h1,a1⟩ := SB.dB (cQ ((di c s.env es).set i .undef)) h;exact kY.ghost a1 (adf cO dU hk h1 (hg.m6 a1) hm)
   | some r =>
     rw [hl] at hs;simp only at hs;subst hs;exact adi cO dU hk h hg hl
 | some r =>
   rw [hi] at hs;simp only at hs;subst hs;exact ado cO nS hk h hg hi
theorem acd (cO : fk P c) (nS : vo P c) (dU : gO P c call) (jo : Gz P c call) : Jb P c call := by
 intro X φ w B base s o a kd v s1 f hk hs h hg;cases hc : kQ kd with
 | false => exact ac7 cO.mixed h hg hk hc hs
 | true =>
   cases kd <;> simp [kQ] at hc
   ·simp only [fo] at hs; exact EX cO nS dU jo hk h hg hs
   ·simp only [fo] at hs; exact EX cO nS dU jo hk h hg hs
end
end Go.Bm

/- A call of a function of the program, from a world of which nothing is known but how the arguments read; given what is still to be shown. -/
namespace Go.Bm
open Go.Am
section
variable {P : Program} {c : dN}
theorem OJ (cO : fk P c) (nS : vo P c) (uT : vl P c) (hshc : ∀ call,gO P c call -> Gz P c call) (hdr : ∀ call,gO P c call -> GA P c call) (jo : ∀ n,N9 P c n -> ShOK P c n) (n : Nat) : N9 P c n :=
 Ds (fun call hc => acd cO nS hc (hshc call hc)) hdr (fun n hs => I4 cO uT hs (jo n hs)) n
theorem Vb (cO : fk P c) {call : Nat -> List AV -> Heap -> Option (AV × Heap)} (dU : gO P c call) {f : Nat} {md : Md} {q : fO} (hf : c.fn f = some (md,q)) (jo : md.sh = false) {args : List AV} (hz : j5 args = true) {r : AV} {H' : Heap} (h : call f args [] = some (r,H')) (hr : pl r = true) {w : World} {vargs : Array Value}
  (ha : pM (fun _ => False) [] w args vargs) (hg : Am.dL (gZ c) (fun _ => False) [] w) : Calls P f vargs w (fun e w' => ∃ v,e = .returned v /\ bN (Rd (fun _ => False) [] w') [] r v /\ RowKit.Below w.heap.size w w') := by
 have IB := SB.start (X := fun _ => False) (w := w) (args := args) (vargs := vargs) (fun g hg => hg.elim) hz ha.1 ha.2 (fun _ => 0);refine (dU f md q hf args [] r H' (.inr rfl) h (fun e => by rw [jo] at e; cases e) (fun _ => False) [] w (fun _ => 0) vargs ha.1 IB hg).mono ?_;rintro e w1 ⟨v',nG,rfl,⟨N1,H1,gE,_⟩,a1⟩;have r0 := gE.env 0;simp only [Am.get,if_true] at r0;rw [As N1 0 hr] at r0;refine ⟨v',rfl,(r0.dA (gH _ hr) []).mono (fun a u ⟨h1,_,h3⟩ => ⟨h1,bK.nil _,h3⟩) (.refl _),a1.os,a1.tape,a1.output,a1.size,fun k hk => (a1.keep k hk (bK.nil k)).1⟩
end
end Go.Bm

/- Regions that draw their order: it makes no difference, given that two steps whose order is open commute. -/
namespace Go.Bm
open Go.Am
section
variable {P : Program} {c : dN} {call : Nat -> List AV -> Heap -> Option (AV × Heap)} {T : St -> O -> Fq -> St -> Prop}
abbrev Vj := Nat × Oper × O × Fq
def Qf (P : Program) (c : dN) (T : St -> O -> Fq -> St -> Prop) : Prop :=
 ∀ X φ w B base N ops s s' (o : Oper) a q f,N <= ff -> J9 P N ops o (NG q) = true -> T s q f s' -> Ah X φ w B base s a N -> Am.dL (gZ c) X φ w -> ∀ (K : Act -> World -> Prop) (Q : Exit -> Act -> World -> Prop),(∀ a' w' φ',Ah X φ' w' B base s' a' N -> fB φ w φ' w' -> K a' w') ->
  if Region.wanted o (yielded ops a.tmps) then o.wp P a w K Q \/ (o.asks P a w /\ LetsOut Q) else K (a.put o.dst Vn) w
def Oc (T : St -> O -> Fq -> St -> Prop) : Prop :=
 ∀ s x f s1 y g s2,T s x f s1 -> T s1 y g s2 -> ja x y = true -> im x f y g = true -> ∃ CQ,T s y g CQ /\ T CQ x f s2
def Ki (T : St -> O -> Fq -> St -> Prop) : List Vj -> St -> St -> Prop
 | [],s,sf => s = sf
 | p :: r,s,sf => ∃ s1,T s p.2.2.1 p.2.2.2 s1 /\ Ki T r s1 sf
theorem Ki.Kb (hC : Oc T) {x : Vj} : ∀ {R1 R2 : List Vj} {s sf : St},(∀ p ∈ R1,ja p.2.2.1 x.2.2.1 = true /\ im p.2.2.1 p.2.2.2 x.2.2.1 x.2.2.2 = true) -> Ki T (R1 ++ x :: R2) s sf -> Ki T (x :: (R1 ++ R2)) s sf
 | [],R2,s,sf,_,hr => hr
 | p :: R1,R2,s,sf,h,⟨s1,h1,h2⟩ => by
   obtain ⟨s2,h3,h4⟩ := Ki.Kb hC (fun q hq => h q (by simp [hq])) h2;obtain ⟨Bg,hf⟩ := h p (by simp);obtain ⟨CQ,k1,k2⟩ := hC _ _ _ _ _ _ _ h1 h3 Bg hf;exact ⟨CQ,k1,s2,k2,h4⟩
theorem abx (hT : Qf P c T) (hC : Oc T) {X : Nat -> Prop} {B : Nat -> Nat} {base N : Nat} (hN : N <= ff) {ops : Array Oper} {Q : Exit -> Act -> World -> Prop} {sf : St} :
  ∀ (fuel : Nat) (R : List Vj) (listed : Array Bool) (a : Act) (w : World) (φ : de) (s : St),R.length = fuel -> (∀ i,listed.getD i true = false ↔ ∃ p ∈ R,p.1 = i) -> listed.size = ops.size ->
   Qi ops listed -> (∀ p ∈ R,ops[p.1]? = some p.2.1 /\ J9 P N ops p.2.1 (NG p.2.2.1) = true /\ ∀ e ∈ p.2.1.after,Region.binds .any e = true -> e.on < p.1) ->
   R.Pairwise (fun p q => p.1 < q.1 /\ (Anc ops p.1 q.1 \/ (ja p.2.2.1 q.2.2.1 = true /\ im p.2.2.1 p.2.2.2 q.2.2.1 q.2.2.2 = true))) -> Ki T R s sf -> Ah X φ w B base s a N -> Am.dL (gZ c) X φ w ->
   (∀ a' w' φ',Ah X φ' w' B base sf a' N -> fB φ w φ' w' -> Q .normal a' w') -> wpAny P .any ops Q fuel listed a w := by
 have fin : ∀ {a : Act} {w : World} {φ : de} {s : St},Ki T [] s sf -> Ah X φ w B base s a N -> (∀ a' w' φ',Ah X φ' w' B base sf a' N -> fB φ w φ' w' -> Q .normal a' w') -> Q .normal a w := by
  intro a w φ s hr hs hQ;obtain rfl : s = sf := hr;exact hQ a w φ hs (.refl _ _)
 intro fuel
 induction fuel with
 | zero =>
   intro R listed a w φ s hl hls _ _ _ _ hr hs hg hQ;have hR : R = [] := eI hl;subst hR;refine ⟨?_,fin hr hs hQ⟩;rw [List.eq_nil_iff_forall_not_mem];intro i hi;obtain ⟨h1,_⟩ := mem_ready.1 hi;obtain ⟨p,hp,_⟩ := (hls i).1 h1;cases hp
 | succ fuel ih =>
   intro R listed a w φ s hl hls nk PJ Bf hpw hr hs hg hQ;refine ⟨fun hnil => ?_,fun i hi => ?_⟩
   ·cases R with
    | nil => simp at hl
    | cons p r =>
      exfalso;obtain ⟨h1,h2,h3⟩ := Bf p (by simp)
      have : p.1 ∈ Region.ready .any ops listed := by
       refine mem_ready.2 ⟨(hls p.1).2 ⟨p,by simp,rfl⟩,p.2.1,h1,fun e he hb => ?_⟩;have bA := h3 e he hb;cases hv : listed.getD e.on false with
       | true => rfl
       | false =>
         exfalso
         have hlt2 : e.on < listed.size := by
          rw [nk];have := j8 h1;omega
         have XM : listed.getD e.on true = false := by
          simp [aY,hlt2] at hv ⊢;exact hv
         obtain ⟨q,hq,hq1⟩ := (hls e.on).1 XM;rcases aJ.1 hq with hq | hq
         ·subst hq; omega
         ·have := (Jd hpw hq).1;omega
      rw [hnil] at this;cases this
   ·obtain ⟨hun,o,ho,jN⟩ := mem_ready.1 hi;obtain ⟨x,hx,XK⟩ := (hls i).1 hun;subst XK;obtain ⟨R1,R2,rfl⟩ := List.append_of_mem hx;obtain ⟨h1,h2,h3⟩ := Bf x (by simp);rw [h1] at ho;simp at ho;subst ho;have UH := ep.1 hpw
    have aeV : ∀ p ∈ R1,ja p.2.2.1 x.2.2.1 = true /\ im p.2.2.1 p.2.2.2 x.2.2.1 x.2.2.2 = true := by
     intro p hp;obtain ⟨_,UG⟩ := UH.2.2 p hp x (by simp);rcases UG with hw | hw
     ·exfalso
      have := PJ.Ad hw x.2.1 h1 fun k hk => by
       obtain ⟨e,he,hb,heq⟩ := xI.1 hk;rw [<- heq]; exact jN e he hb
      have hf := (hls p.1).2 ⟨p,by simp [hp],rfl⟩
      have bA : p.1 < listed.size := by
       rw [nk];exact j8 (Bf p (by simp [hp])).1
      simp [aY,bA] at this hf;rw [this] at hf;cases hf
     ·exact hw
    obtain ⟨s1,k1,k2⟩ := Ki.Kb hC aeV hr;unfold wpOp;rw [h1];refine hT X φ w B base N ops s s1 x.2.1 a x.2.2.1 x.2.2.2 hN h2 k1 hs hg _ _ fun a' w' φ' Zh s5 => ?_
    refine ih (R1 ++ R2) _ a' w' φ' _ (by simp at hl ⊢; omega) (fun j => ?_) (by simpa using nk) (fun j oj hj hlj i hi => ?_) (fun p hp => Bf p (by rcases aD.1 hp with h | h <;> simp [h])) ?_ k2 Zh (hg.m6 s5)
     fun a'' Vp nH h'' vO => hQ a'' Vp nH h'' (s5.trans vO)
    ·have hxlt : x.1 < listed.size := by rw [nk]; exact j8 h1
     by_cases hj : j = x.1
     ·subst hj;simp only [aY,Array.getElem?_setIfInBounds_self_of_lt hxlt,jJ];refine ⟨(fun h => by cases h),fun ⟨p,hp,hpx⟩ => ?_⟩;exfalso;rcases aD.1 hp with h | h
      ·have := (UH.2.2 p h x (by simp)).1; omega
      ·have := (Jd UH.2.1 h).1; omega
     ·have sZ : x.1 ≠ j := fun e => hj e.symm;rw [aY,hF sZ,<- aY,hls j];constructor
      ·rintro ⟨p,hp,hpj⟩;refine ⟨p,?_,hpj⟩;simp at hp ⊢;rcases hp with h | h | h
       ·exact .inl h
       ·subst h; exact absurd hpj.symm hj
       ·exact .inr h
      ·rintro ⟨p,hp,hpj⟩;refine ⟨p,?_,hpj⟩;simp at hp ⊢;rcases hp with h | h
       ·exact .inl h
       ·exact .inr (.inr h)
    ·have mono : ∀ k,listed.getD k false = true -> (listed.setIfInBounds x.1 true).getD k false = true := by
      intro k hk;by_cases hkx : x.1 = k
      ·subst hkx;have bA : x.1 < listed.size := by rw [nk]; exact j8 h1
       simp [aY,bA]
      ·rw [aY,hF hkx,<- aY]; exact hk
     by_cases hjx : x.1 = j
     ·subst hjx;rw [h1] at hj;cases hj;obtain ⟨e,he,hb,heq⟩ := xI.1 hi;exact mono i (by rw [<- heq]; exact jN e he hb)
     ·refine mono i (PJ j oj hj ?_ i hi);rw [aY,hF hjx,<- aY] at hlj;exact hlj
    ·refine ep.2 ⟨UH.1,(List.pairwise_cons.1 UH.2.1).2,fun p hp q hq => UH.2.2 p hp q (by simp [hq])⟩

end
end Go.Bm

/- Regions that draw their order, from the machine's own check. -/
namespace Go.Bm
open Go.Am
section
variable {P : Program} {c : dN} {call : Nat -> List AV -> Heap -> Option (AV × Heap)} {T : St -> O -> Fq -> St -> Prop}
def E9 : Nat -> List Oper -> List O -> List Fq -> List Vj
 | k,o :: r,q :: s,f :: t => (k,o,q,f) :: E9 (k + 1) r s t
 | _,_,_,_ => []
theorem rO : ∀ (k : Nat) (os : List Oper) (qs : List O) (fs : List Fq) (j : Nat) (p : Vj),(E9 k os qs fs)[j]? = some p -> p.1 = k + j /\ os[j]? = some p.2.1 /\ qs[j]? = some p.2.2.1 /\ fs[j]? = some p.2.2.2
 | k,[],qs,fs,j,p,h => by simp [E9] at h
 | k,_ :: _,[],fs,j,p,h => by simp [E9] at h
 | k,_ :: _,_ :: _,[],j,p,h => by simp [E9] at h
 | k,o :: r,q :: s,f :: t,j,p,h => by
   simp only [E9] at h;cases j with
   | zero => simp at h; subst h; exact ⟨rfl,rfl,rfl,rfl⟩
   | succ j =>
     simp at h;obtain ⟨h1,h2,h3,h4⟩ := rO (k + 1) r s t j p h;exact ⟨by omega,by simpa using h2,by simpa using h3,by simpa using h4⟩
theorem BU : ∀ (k : Nat) (os : List Oper) (qs : List O) (fs : List Fq),os.length = qs.length -> qs.length = fs.length -> (E9 k os qs fs).length = os.length
 | k,[],[],[],_,_ => rfl
 | k,o :: r,q :: s,f :: t,h1,h2 => by simp [E9]; exact BU (k + 1) r s t (by simpa using h1) (by simpa using h2)
 | _,[],_ :: _,_,h,_ => by simp at h
 | _,_ :: _,[],_,h,_ => by simp at h
 | _,[],[],_ :: _,_,h => by simp at h
 | _,_ :: _,_ :: _,[],_,h => by simp at h
def Y6 (c : dN) (call : Nat -> List AV -> Heap -> Option (AV × Heap)) (T : St -> O -> Fq -> St -> Prop) : Prop := ∀ s q f s',wT q.kd = true -> p8 c call s q = some (s',f) -> (m5 f = true -> T s q f s') /\ T s q .all s'
def Fg (un : List (Nat × Nat)) : Nat -> List Fq -> List Fq
 | _,[] => []
 | k,f :: r => (if ju k k un then .all else f) :: Fg un (k + 1) r
theorem BW (un : List (Nat × Nat)) : ∀ (k : Nat) (fs : List Fq),(Fg un k fs).length = fs.length
 | _,[] => rfl
 | k,f :: r => by simp [Fg,BW un (k + 1) r]
theorem MN (un : List (Nat × Nat)) : ∀ (k : Nat) (fs : List Fq) (j : Nat),(Fg un k fs)[j]? = (fs[j]?).map fun f => if ju (k + j) (k + j) un then .all else f
 | _,[],j => by simp [Fg]
 | k,f :: r,j => by
   cases j with
   | zero => simp [Fg]
   | succ j => simp only [Fg,jb,MN un (k + 1) r]; rw [show k + 1 + j = k + (j + 1) by omega]
theorem Mi (hS : Y6 c call T) (un : List (Nat × Nat)) : ∀ (k : Nat) (os : List Oper) (qs : List O) (s s' : St) (nU : List Fq),os.length = qs.length -> (∀ q ∈ qs,wT q.kd = true) -> kL c call qs s = some (s',nU) -> Gv un k nU = true -> qs.length = nU.length /\ Ki T (E9 k os qs (Fg un k nU)) s s'
 | k,[],[],s,s',nU,_,_,h,_ => by simp [kL] at h; obtain ⟨rfl,rfl⟩ := h; exact ⟨rfl,rfl⟩
 | k,[],_ :: _,_,_,_,hl,_,_,_ => by simp at hl
 | k,_ :: _,[],_,_,_,hl,_,_,_ => by simp at hl
 | k,o :: r,q :: qs,s,s',nU,hl,hk,h,hn => by
   simp only [kL] at h;split at h
   case h_2 => cases h
   rename_i s1 fl1 h1;split at h
   case h_2 => cases h
   rename_i s2 fl2 h2;simp at h;obtain ⟨rfl,rfl⟩ := h;simp only [Gv,ab,er] at hn;obtain ⟨hn1,Zi⟩ := hn;obtain ⟨h4,h5⟩ := Mi hS un (k + 1) r qs _ s2 fl2 (by simpa using hl) (fun q hq => hk q (by simp [hq])) h2 Zi;refine ⟨by simp [h4],s1,?_,h5⟩;have := hS _ _ _ _ (hk q (by simp)) h1;show T s q (if ju k k un then .all else fl1) s1;split
   ·exact this.2
   ·rename_i hp;exact this.1 (hn1.resolve_right hp)
theorem Ib {s s1 : St} {kd : Kd} {v : AV} {f : Fq} (h : fo c call s kd = some (v,s1,f)) (hp : still kd = true) : f = .no := by
 cases kd <;> simp [still] at hp <;> simp only [fo] at h
 all_goals try rw [hp] at h
 all_goals
  (repeat' split at h)
  all_goals first
   | (cases h; done)
   | (rename_i hq; cases hq; done)
   | (simp at h; obtain ⟨rfl,rfl,rfl⟩ := h; rfl)
theorem zU {e : Env} {d : Option Nat} {v : AV} {s s' : St} {f g : Fq} (h : zV e d v s f = some (s',g)) : g = bJ e d f := by
 unfold zV at h;split at h
 ·simp at h;exact h.2.symm
 ·cases h
theorem yw {e : Env} {d : Option Nat} : bJ e d .no = .no \/ bJ e d .no = .bo [] \/ bJ e d .no = .sp := by
 unfold bJ;split
 ·exact .inl rfl
 ·split
  ·exact .inr (.inr rfl)
  ·split
   ·exact .inl rfl
   ·exact .inr (.inl rfl)
theorem KD {s s' : St} {q : O} {f : Fq} (h : p8 c call s q = some (s',f)) (hp : still q.kd = true) : f = .no \/ f = .bo [] \/ f = .sp := by
 unfold p8 at h;split at h
 ·split at h
  ·rename_i v s1 fl ho;rw [Ib ho hp] at h;rw [zU h]; exact yw
  ·cases h
 ·split at h
  ·split at h
   ·split at h
    ·rename_i v s1 fl ho;rw [Ib ho hp] at h;rw [zU h]; exact yw
    ·cases h
   ·rw [zU h]; exact yw
  ·rw [zU h]; exact yw
  ·cases h
theorem xA {un : List (Nat × Nat)} : ∀ {qs : List O} {k : Nat} {s s' : St} {nU : List Fq},kL c call qs s = some (s',nU) -> Gv un k nU = true -> ∀ (j : Nat) (q : O) (f : Fq),qs[j]? = some q -> nU[j]? = some f -> still q.kd = true -> ju (k + j) (k + j) un = false -> f = .no \/ f = .bo []
 | [],_,_,_,_,_,_,j,q,f,hq,_,_,_ => by simp at hq
 | x :: r,k,s,s',nU,h,hn,j,q,f,hq,hf,hp,hb => by
   simp only [kL] at h;split at h
   case h_2 => cases h
   rename_i s1 fl1 h1;split at h
   case h_2 => cases h
   rename_i s2 fl2 h2;simp at h;obtain ⟨rfl,rfl⟩ := h;simp only [Gv,ab,er] at hn;obtain ⟨hn1,Zi⟩ := hn;cases j with
   | zero =>
     simp at hq hf hb;subst hq; subst hf;rw [hb] at hn1;rcases KD h1 hp with e | e | e
     ·exact .inl e
     ·exact .inr e
     ·subst e; simp [m5] at hn1
   | succ j => simp at hq hf; exact xA h2 Zi j q f hq hf hp (by rw [show k + 1 + j = k + (j + 1) by omega]; exact hb)
theorem FZ {N : Nat} {ops : Array Oper} : ∀ {l : List Oper} {qs : List O},pH P N ops l qs = true -> l.length = qs.length /\ ∀ (j : Nat) (o : Oper) (q : O),l[j]? = some o -> qs[j]? = some q -> J9 P N ops o (NG q) = true
 | [],[],_ => ⟨rfl,fun j o q h => by simp at h⟩
 | [],_ :: _,h => by simp [pH] at h
 | _ :: _,[],h => by simp [pH] at h
 | o :: r,q :: s,h => by
   simp only [pH,ab] at h;obtain ⟨hl,hm⟩ := FZ h.2;refine ⟨by simp [hl],fun j o' q' h1 h2 => ?_⟩;cases j with
   | zero => simp at h1 h2; subst h1; subst h2; exact h.1
   | succ j => simp at h1 h2; exact hm j o' q' h1 h2
theorem u6 {un : List (Nat × Nat)} {j : Nat} {ys : List Nat} {q : O} : ∀ {k : Nat} {l : List O},ta un j ys q k l = true -> ∀ (i : Nat) (x : O),l[i]? = some x -> FY un (k + i) j x ys q = true
 | k,[],_,i,x,h => by simp at h
 | k,z :: r,hc,i,x,h => by
   simp only [ta,ab] at hc;cases i with
   | zero => simp at h; subst h; exact hc.1
   | succ i => simp at h; have := u6 hc.2 i x h; rwa [show k + 1 + i = k + (i + 1) by omega] at this
theorem wY {un : List (Nat × Nat)} {ops : Array Oper} : ∀ {ys : List Oper} {qs seen : List O} {Ad : List (List Nat)},mV un Ad seen ys qs = true -> Y9 ops Ad -> Ad.length = seen.length -> (∀ j,ys[j]? = ops[seen.length + j]?) -> ∀ (j : Nat) (y : Oper) (q : O),ys[j]? = some y -> qs[j]? = some q ->
  (∀ e ∈ y.after,Region.binds .any e = true -> e.on < seen.length + j) /\ ∀ (i : Nat) (x : O),(seen ++ qs)[i]? = some x -> i < seen.length + j -> Anc ops i (seen.length + j) \/ ((ju i i un = false /\ ju (seen.length + j) (seen.length + j) un = false) /\ ja x q = true /\ ((still x.kd = true /\ still q.kd = true) \/ ju i (seen.length + j) un = true))
 | [],_,_,_,_,_,_,_,j,y,q,h,_ => by simp at h
 | _ :: _,[],_,_,_,_,_,_,j,y,q,_,h => by simp at h
 | z :: r,p :: s,seen,Ad,hc,hanc,hal,hys,j,y,q,h1,h2 => by
   simp only [mV,ab] at hc;obtain ⟨⟨⟨_,c1⟩,c2⟩,c3⟩ := hc;have hz : ops[seen.length]? = some z := by simpa using (hys 0).symm
   cases j with
   | zero =>
     simp at h1 h2;subst h1; subst h2;refine ⟨fun e he hb => ?_,fun i x hx hi => ?_⟩
     ·have := List.all_eq_true.1 c1 e.on (xI.2 ⟨e,he,hb,rfl⟩);simpa using this
     ·rw [av (by omega)] at hx;have := u6 c2 i x hx;simp only [FY,fD,er,ab,bt] at this;rcases this with h | h
      ·exact .inl (N7 hanc hz i (mem_iff.1 h))
      ·right;exact h
   | succ j =>
     simp at h1 h2
     have aeY : Y9 ops (Ad ++ [Gt Ad z]) := by
      intro k l hl i hi;by_cases hk : k < Ad.length
      ·rw [av hk] at hl; exact hanc k l hl i hi
      ·have hk2 := aB hl;simp at hk2;have hke : k = Ad.length := by omega
       subst hke;simp at hl;subst hl;rw [hal];exact N7 hanc hz i hi
     obtain ⟨k1,k2⟩ := wY c3 aeY (by simp [hal]) (fun m => by have := hys (m + 1); simp at this ⊢; rw [this]; congr 1; omega) j y q h1 h2;simp only [bu,c8,dP] at k1 k2;refine ⟨fun e he hb => by have := k1 e he hb; omega,fun i x hx hi => ?_⟩;have := k2 i x (by simpa using hx) (by omega)
     rwa [show seen.length + (0 + 1) + j = seen.length + (j + 1) by omega] at this
theorem tL {un : List (Nat × Nat)} : ∀ {ys : List Oper} {qs seen : List O} {Ad : List (List Nat)},mV un Ad seen ys qs = true -> ys.length = qs.length -> ∀ q ∈ qs,wT q.kd = true
 | [],[],_,_,_,_,q,hq => by simp at hq
 | [],_ :: _,_,_,_,hl,_,_ => by simp at hl
 | _ :: _,[],_,_,_,hl,_,_ => by simp at hl
 | z :: r,p :: s,seen,Ad,hc,hl,q,hq => by
   simp only [mV,ab] at hc;rcases aJ.1 hq with e | e
   ·subst e; exact hc.1.1.1
   ·exact tL hc.2 (by simpa using hl) q e
theorem BR {os : List O} {nU : List Fq} : ∀ {un : List (Nat × Nat)},zy os nU un = true -> ∀ i j,i ≠ j -> ju i j un = true -> im (os.getD i ⟨none,none,.min []⟩) (nU.getD i .all) (os.getD j ⟨none,none,.min []⟩) (nU.getD j .all) = true
 | [],_,i,j,_,h => by simp [ju] at h
 | p :: r,hk,i,j,sZ,h => by
   obtain ⟨x,y⟩ := p;simp only [zy,ab,er,decide_eq_true_eq] at hk;simp only [ju,er,ab,decide_eq_true_eq] at h;rcases h with ⟨rfl,rfl⟩ | h
   ·exact hk.1.resolve_left sZ
   ·exact BR hk.2 i j sZ h
theorem JG (x y : O) {f g : Fq} (hf : f = .no \/ f = .bo []) (hg : g = .no \/ g = .bo []) : im x f y g = true := by
 have d : ∀ d,xP d (.bo []) = true := fun d => by cases d <;> rfl
 have d' : ∀ d,xP d .no = true := fun d => by cases d <;> rfl
 rcases hf with rfl | rfl <;> rcases hg with rfl | rfl <;> simp [im,Fq.ok,G7,d,d']
theorem Ah.drew {X : Nat -> Prop} {φ : de} {w : World} {B : Nat -> Nat} {base : Nat} {s : St} {a : Act} {N : Nat} (h : Ah X φ w B base s a N) : Ah X φ w.drew B base s a N := by
 obtain ⟨N1,Ha,vC,hb⟩ := h.sb;exact ⟨⟨N1,Ha,vC.m6 (.drew _ _) (vC.heap.of_same (ψ := []) ⟨rfl,rfl,rfl,Nat.le_succ _,aS _,fun g _ h => ⟨rfl,h⟩,.refl _⟩) vC.own (fun _ _ => rfl),hb⟩,h.defers,h.size⟩
theorem Yq (cO : fk P c) (hS : Y6 c call T) (hT : Qf P c T) (hC : Oc T) : GA P c call := by
 intro X φ w B base s s' nU a N id ops os un Q hN hc ho hs hd hr hg hQ;simp only [IV,ab] at hd;obtain ⟨hn,hd⟩ := hd;obtain ⟨hl,hm⟩ := FZ hc;obtain ⟨vR,nn⟩ := Mi hS un 0 ops.toList os s s' nU hl (tL ho hl) hs hn;have hlen := BU 0 ops.toList os (Fg un 0 nU) hl (by rw [BW]; exact vR);have s5 : fB φ w φ w.drew := .drew _ _;have hord := wY (ops := ops) ho (fun j l hl => by simp at hl) rfl (fun j => by simp);have wU : Ah X φ w.drew B base s a N := hr.drew
 refine wp_region_any cO.mixed (abx hT hC (X := X) (B := B) (base := base) hN (sf := s') ops.size (E9 0 ops.toList os (Fg un 0 nU)) _ a w.drew φ s (by simpa using hlen) (fun i => ?_) (by simp) (fun j o _ hl => by simp [aY,j9] at hl; split at hl <;> simp at hl) (fun p hp => ?_) ?_ nn wU (hg.m6 s5)
  fun a' w' φ' h k => hQ a' w' φ' h (s5.trans k))
 ·by_cases hi : i < ops.size
  ·simp only [aY,j9,hi,if_true,jJ,true_iff];obtain ⟨p,hp⟩ := bc (l := E9 0 ops.toList os (Fg un 0 nU)) (i := i) (by rw [hlen]; simpa using hi);exact ⟨p,bf hp,by have := (rO 0 _ _ _ i p hp).1; omega⟩
  ·simp only [aY,j9,hi,if_false,Option.getD_none];refine ⟨(fun h => by cases h),fun ⟨p,hp,XR⟩ => ?_⟩;exfalso;obtain ⟨j,hj⟩ := bD hp;have h1 := (rO 0 _ _ _ j p hj).1;have h2 := aB hj;rw [hlen] at h2;simp at h2;omega
 ·obtain ⟨j,hj⟩ := bD hp;obtain ⟨h1,h2,h3,h4⟩ := rO 0 _ _ _ j p hj;have Vy : p.1 = j := by omega
  obtain ⟨k1,_⟩ := hord j p.2.1 p.2.2.1 h2 h3;refine ⟨by rw [Vy]; simpa using h2,hm j _ _ h2 h3,fun e he hb => ?_⟩;have := k1 e he hb;simp at this;omega
 ·rw [List.pairwise_iff_getElem];intro i j hi hj C3;obtain ⟨h1,h2,h3,h4⟩ := rO 0 _ _ _ i _ (aI hi);obtain ⟨k1,k2,k3,k4⟩ := rO 0 _ _ _ j _ (aI hj);refine ⟨by omega,?_⟩;obtain ⟨_,aeM⟩ := hord j _ _ k2 k3;have := aeM i _ (by simpa using h3) (by simpa using C3);simp only [dP,fD] at this;rcases this with h | h
  ·left; rw [h1,k1]; simpa using h
  ·right;obtain ⟨⟨zP,s4⟩,Bg,h⟩ := h;refine ⟨Bg,?_⟩;rw [MN] at h4 k4;simp only [fD,zP,s4,aX,if_false,Option.map_id'] at h4 k4;rcases h with ⟨h5,h6⟩ | h5
   ·exact JG _ _ (xA hs hn i _ _ h3 h4 h5 (by simpa using zP)) (xA hs hn j _ _ k3 k4 h6 (by simpa using s4))
   ·have := BR hd i j (by omega) h5;simp only [List.getD_eq_getElem?_getD,h3,k3,h4,k4,jJ] at this;exact this
end
end Go.Bm

/- A step up to what can be seen of a state: StepT and SoundT. -/
namespace Go.Bm
open Go.Am
section
variable {P : Program} {c : dN} {call : Nat -> List AV -> Heap -> Option (AV × Heap)}
def dq (s t : St) : Prop := (∀ i,get s.env i = get t.env i) /\ s.H = t.H
theorem dq.rfl' {s : St} : dq s s := ⟨fun _ => rfl,rfl⟩
theorem dq.symm {s t : St} (h : dq s t) : dq t s := ⟨fun i => (h.1 i).symm,h.2.symm⟩
theorem dq.trans {s t u : St} (h : dq s t) (k : dq t u) : dq s u := ⟨fun i => (h.1 i).trans (k.1 i),h.2.trans k.2⟩
theorem Ah.same {X : Nat -> Prop} {φ : de} {w : World} {B : Nat -> Nat} {base : Nat} {s t : St} {a : Act} {N : Nat} (h : Ah X φ w B base s a N) (e : dq s t) : Ah X φ w B base t a N := by
 obtain ⟨N1,Ha,vC,zP,s4⟩ := h.sb;exact ⟨⟨N1,Ha,vC.ext (fun i => (e.1 i).symm) e.2.symm,zP,by rw [<- e.2]; exact s4⟩,h.defers,h.size⟩
def x9 : Fq -> Fq -> Prop
 | _,.all => True
 | .wr sl bs,.wr sl' bs' => (∀ i ∈ sl,i ∈ sl') /\ (match bs,bs' with
   | none,none => True
   | some l,some l' => ∀ b ∈ l,b ∈ l'
   | _,_ => False)
 | f,g => f = g
theorem x9.refl (f : Fq) : x9 f f := by
 cases f <;> try exact rfl
 case wr sl bs => cases bs <;> simp [x9]
 case all => trivial
def TS (c : dN) (call : Nat -> List AV -> Heap -> Option (AV × Heap)) (s : St) (q : O) (f : Fq) (s' : St) : Prop :=
 wT q.kd = true /\ ∃ s0 s1 f0,dq s s0 /\ p8 c call s0 q = some (s1,f0) /\ x9 f0 f /\ dq s1 s'
theorem acM : Y6 c call (TS c call) := fun s q f s' hk h => ⟨fun hf => ⟨hk,s,s',f,dq.rfl',h,.refl f,dq.rfl'⟩,⟨hk,s,s',f,dq.rfl',h,by cases f <;> trivial,dq.rfl'⟩⟩
theorem ZA (Bf : Jb P c call) : Qf P c (TS c call) := by
 intro X φ w B base N ops s s' o a q f hN hc ⟨_,s0,s1,f0,e0,h,_,e1⟩ hr hg K Q hK;have hr0 := hr.same e0
 have hck : cG P o.op (kU q.kd) = true := by
  have := hc;simp only [J9,NG,ab] at this;exact this.2
 exact KB (fun v s2 f hv => Bf X φ w B base s0 o a q.kd v s2 f hck hv hr0.sb hg) hc hN h hr0 fun a' w' φ' wU k' => hK a' w' φ' (wU.same e1) k'
theorem UZ (cO : fk P c) (Bf : Jb P c call) (hC : Oc (TS c call)) : GA P c call := Yq cO acM (ZA Bf) hC
end
end Go.Bm
