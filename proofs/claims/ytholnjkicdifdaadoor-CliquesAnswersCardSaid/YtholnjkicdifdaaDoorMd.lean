/- The machine by value: operations, calls, code. -/
import Derived.Test.YtholnjkicdifdaaDoorMc
import Derived.Scope
import Derived.Sort.Grow
import Derived.Deep.Draws
/- Operations that write: append, clear, stores. -/
set_option linter.unusedSimpArgs false
set_option linter.unusedVariables false
namespace Go.Bm
open Go.Am
section
variable {P : Program} {X : Nat -> Prop} {φ φ' : Phi} {w w' : World} {N N' : Names} {s s1 : St} {Ha Ha' : Heap} {t : Nat -> Value} {B : Nat -> Nat} {base : Nat} {v va : AV} {v' : Value} {c : Cfg} {o : Oper} {a : Act} {kd : Kd}
theorem allLeaf_of {l : List AV} (h : ∀ x ∈ l,x.leaf = true) : allLeaf l = true := by
 induction l with
 | nil => rfl
 | cons y r ih => simp only [allLeaf,Bool.and_eq_true]; exact ⟨h y (by simp),ih fun x hx => h x (by simp [hx])⟩
theorem allLeaf_get {l : List AV} (h : allLeaf l = true) : ∀ x ∈ l,x.leaf = true := by
 induction l with
 | nil => intro x hx; simp at hx
 | cons y r ih =>
   intro x hx;simp only [allLeaf,Bool.and_eq_true] at h;rcases List.mem_cons.1 hx with e | e
   ·subst e; exact h.1
   ·exact ih h.2 x e
theorem flat_take {k : Nat} {xs : List AV} (h : ∀ x ∈ xs,x.cells.length = k) (n : Nat) : flatCells (xs.take n) = (flatCells xs).take (n * k) := by
 induction xs generalizing n with
 | nil => simp [flatCells]
 | cons x r ih =>
   cases n with
   | zero => simp [flatCells]
   | succ n =>
     have hx := h x (by simp);simp only [List.take_succ_cons,flatCells,ih (fun y hy => h y (by simp [hy])) n];rw [List.take_append,hx,Nat.add_mul,Nat.one_mul,List.take_of_length_le (by omega : x.cells.length <= n * k + k),Nat.add_sub_cancel]
theorem flat_drop {k : Nat} {xs : List AV} (h : ∀ x ∈ xs,x.cells.length = k) (n : Nat) : flatCells (xs.drop n) = (flatCells xs).drop (n * k) := by
 induction xs generalizing n with
 | nil => simp [flatCells]
 | cons x r ih =>
   cases n with
   | zero => simp
   | succ n =>
     have hx := h x (by simp);simp only [List.drop_succ_cons,flatCells,ih (fun y hy => h y (by simp [hy])) n];rw [List.drop_append,hx,Nat.add_mul,Nat.one_mul,List.drop_eq_nil_of_le (by omega : x.cells.length <= n * k + k),List.nil_append,Nat.add_sub_cancel]
theorem flat_len {k : Nat} {xs : List AV} (h : ∀ x ∈ xs,x.cells.length = k) : (flatCells xs).length = xs.length * k := (flatCells_get h).1
theorem cont_tr (h : Sim X φ w N s Ha (tm a)) (hg : Am.GlOK (cAm c) X φ w) {k : Nat} {x : E} {o' : Operand} (ho : chkE o' (dnE x) = true) {ys : List AV} (hc : cont s k (opnd c s.env x) = some ys) (hlf : allLeaf (flatCells ys) = true) :
  ∃ news,sliceCells Ha k (Am.ev (cAm c) (trE N s.env) (dnE x)) = some (news,ys.length) /\ news.length = ys.length * k /\ (∀ y ∈ ys,y.cells.length = k) /\ allLeaf news = true /\
   ∀ (i : Nat) (d : AV),(flatCells ys)[i]? = some d -> fz d = true /\ ∃ e,news[i]? = some e /\ e.leaf = true /\ Le d e := by
 have hx := opnd_ok (c := c) (cA := cAm c) h rfl ho;have hok := hx.ok;have r := eval_rep (c := cAm c) (env := trE N s.env) (a := a) (fun i => by rw [get_trE]; exact h.env i) hg ho;rw [hx.ev] at r ⊢;cases e : opnd c s.env x <;> rw [e] at hc hok r <;> try (simp [cont] at hc; done)
 ·rename_i k' xs;simp only [cont] at hc;split at hc
  case isFalse => cases hc
  rename_i hkk;subst hkk;simp at hc;subst hc;simp only [trO,trV,sliceCells,if_true] at r ⊢
  have hcell : (∀ y ∈ xs,y.cells.length = k') /\ ∀ y ∈ xs,∀ d ∈ y.cells,pl d = true := by
   generalize a.eval o' = z at r;cases r with
   | lst _ _ _ ad n cap u hn hcap hk hu h =>
     refine ⟨hk,fun y hy d hd => ?_⟩;obtain ⟨i,hi⟩ := List.getElem?_of_mem hy;obtain ⟨j,hj⟩ := List.getElem?_of_mem hd;exact rep_pl (h i j y d hi hj) rfl
   | lst0 => exact ⟨fun y hy => by simp at hy,fun y hy => by simp at hy⟩
  refine ⟨flatCells xs,rfl,flat_len hcell.1,hcell.1,hlf,fun i d hd => ?_⟩;obtain ⟨i',y,j,h1,h2,_⟩ := (flatCells_get hcell.1).2 i d hd;have hdl := allLeaf_get hlf d (List.mem_of_getElem? hd);refine ⟨?_,d,hd,hdl,Le.refl _⟩;unfold fz;rw [hdl,hcell.2 y (List.mem_of_getElem? h1) d (List.mem_of_getElem? h2)];rfl
 ·rename_i k' xs;have := hx.eo k' xs e;subst this;simp [cont] at hc;subst hc;exact ⟨[],by simp [trO,sliceCells],by simp,fun y hy => by simp at hy,rfl,fun i d hd => by simp [flatCells] at hd⟩
 ·rename_i k' p off len;simp only [cont] at hc;split at hc
  case h_2 => cases hc
  rename_i k'' xs hp;split at hc
  case isFalse => cases hc
  rename_i hcc;obtain ⟨rfl,rfl,hle⟩ := hcc;simp at hc;subst hc;have hown := h.own p k'' xs hp;simp only [trO];rcases bor_tr h hok with ⟨n,hn,e2⟩ | ⟨hn,h0,h1,e2⟩
  ·rw [e2];rw [hn] at hown;obtain ⟨cs,c1,c2,c3,c4⟩ := hown
   have hb : off * k'' + len * k'' <= cs.length := by
    have : (off + len) * k'' <= xs.length * k'' := Nat.mul_le_mul_right k'' hle;rw [Nat.add_mul] at this;omega
   have hys : ∀ y ∈ (xs.drop off).take len,y.cells.length = k'' := fun y hy => c3 y (List.mem_of_mem_drop (List.mem_of_mem_take hy));have hl : ((xs.drop off).take len).length = len := by simp; omega
   have idx : ∀ (i : Nat) (d : AV),(flatCells ((xs.drop off).take len))[i]? = some d -> fz d = true /\ ∃ e,((cs.drop (off * k'')).take (len * k''))[i]? = some e /\ e.leaf = true /\ Le d e := by
    intro i d hd;rw [flat_take (fun y hy => c3 y (List.mem_of_mem_drop hy)),flat_drop c3,List.getElem?_take] at hd;split at hd
    case isFalse => cases hd
    rename_i hi;rw [List.getElem?_drop] at hd;obtain ⟨f1,e,f2,f3,f4⟩ := c4 _ d hd;exact ⟨f1,e,by rw [List.getElem?_take,if_pos hi,List.getElem?_drop]; exact f2,f3,f4⟩
   refine ⟨(cs.drop (off * k'')).take (len * k''),by simp only [sliceCells,c1,hl]; rw [if_pos ⟨trivial,hb⟩],by rw [hl]; simp; omega,hys,allLeaf_of fun x hx => ?_,idx⟩;obtain ⟨i,hi⟩ := List.getElem?_of_mem hx;have hlt := lt_of_getElem? hi;have : i < (flatCells ((xs.drop off).take len)).length := by rw [flat_len hys,hl]; simp at hlt; omega
   obtain ⟨d,hd⟩ := getElem?_some_of this;obtain ⟨_,e,g2,g3,_⟩ := idx i d hd;rw [hi] at g2;cases g2;exact g3
  ·rw [e2];subst h1;exact ⟨[],by simp [sliceCells],by simp,fun y hy => by simp at hy,rfl,fun i d hd => by simp [flatCells] at hd⟩
theorem ok_app0 (hm : P.follows .mixedOrders = true) (h : SB X φ w B base s (tm a)) (hg : Am.GlOK (cAm c) X φ w) {k k' : Nat} {x y : E} (hk : chkK P o.op (dnK (.app k x y)) = true) (hx0 : opnd c s.env x = .own k' []) {ys : List AV} (hy : cont s k (opnd c s.env y) = some ys) (hlf : allLeaf (flatCells ys) = true) (hl : ys.length <= LIM) :
  OkB P X φ w B base s (.own k ys) o a := by
 obtain ⟨N,Ha,h,hb⟩ := h;obtain ⟨⟨o1,h1⟩,o2,h2⟩ := chk_app hk;have hx := opnd_ok (c := c) (cA := cAm c) h rfl h1;obtain ⟨news,n1,n2,n3,n4,n5⟩ := cont_tr h hg h2 hy hlf;by_cases h0 : ys.length = 0
 ·have : ys = [] := List.eq_nil_of_length_eq_zero h0;subst this;refine OkB.of (am_op (va := .nils) (Ha' := Ha) hm h hg hk (by simp only [dnK,aOp,n1,hx.ev,hx0,trO,List.length_nil,if_true]; rfl)) fun v' w' φ' r hh ad => ?_;exact PutOK.quiet (h.adv ad hh h.own (fun _ _ => rfl)) hb trivial (by simp [EO]) r
 ·refine OkB.of (am_op (va := .sl k Ha.length 0 ys.length) (Ha' := Ha ++ [some news]) hm h hg hk (by simp only [dnK,aOp,n1,hx.ev,hx0,trO,if_neg h0,if_pos (⟨hl,n4⟩ : ys.length <= LIM /\ allLeaf news = true)]; rfl)) fun v' w' φ' r hh ad => ?_;exact fresh_ok h hb ad hh (by omega) n3 n5 r
theorem ok_app1 (hm : P.follows .mixedOrders = true) (h : SB X φ w B base s (tm a)) (hg : Am.GlOK (cAm c) X φ w) {k len : Nat} {x y : E} (hk : chkK P o.op (dnK (.app k x y)) = true) {p : Rt} {xs : List AV} (hx0 : opnd c s.env x = .bor k p 0 len) (hp : ownAt s p = some (k,xs)) (hle : len <= xs.length) {ys : List AV} (hy : cont s k (opnd c s.env y) = some ys) (hlf : allLeaf (flatCells ys) = true) (hl : len + ys.length <= LIM) :
  OkB P X φ w B base (setAt (mapSt (sw p) s) p .any) (.own k (xs.take len ++ ys)) o a := by
 obtain ⟨N,Ha,h,hb⟩ := h;obtain ⟨⟨o1,h1⟩,o2,h2⟩ := chk_app hk;have hx := opnd_ok (c := c) (cA := cAm c) h rfl h1;have hok := hx.ok;rw [hx0] at hok;obtain ⟨news,n1,n2,n3,n4,n5⟩ := cont_tr h hg h2 hy hlf;obtain ⟨d1,d2,d3⟩ := h.drop hp;have hb1 : (∀ b,b < base -> N.β b = B b) /\ base <= (setAt (mapSt (sw p) s) p .any).H.length := ⟨hb.1,by rw [d3.len]; exact hb.2⟩;have hown := h.own p k xs hp;rcases bor_tr h hok with ⟨n,hn,e2⟩ | ⟨hn,_,hlen0,e2⟩
 ·rw [hn] at hown;obtain ⟨cs,c1,c2,c3,c4⟩ := hown;have hlk : len * k <= cs.length := Nat.le_trans (Nat.mul_le_mul_right k hle) c2;have hnlt := blk_lt c1;refine OkB.of (am_op (va := .sl k Ha.length 0 (len + ys.length)) (Ha' := Ha.set n none ++ [some (cs.take (len * k) ++ news)]) hm h hg hk (by simp only [dnK,aOp,n1,hx.ev,hx0,trO,e2,Nat.zero_mul,c1,if_pos (⟨trivial,hlk,hl,n4⟩ : True /\ len * k <= cs.length /\ len + ys.length <= LIM /\ allLeaf news = true)]; rfl)) fun v' w' φ' r hh ad => ?_;have hset : ∀ m,m ≠ n -> blk (Ha.set n none) m = blk Ha m := fun m hmn => by unfold blk; rw [List.getElem?_set_ne (Ne.symm hmn)]
  have hall : ∀ m,m ≠ n -> m < Ha.length -> blk (Ha.set n none ++ [some (cs.take (len * k) ++ news)]) m = blk Ha m := fun m hmn hlt => by
   rw [blk_push,if_neg (by simp; omega),hset m hmn]
  have sim1 : Sim X φ' w' N (setAt (mapSt (sw p) s) p .any) (Ha.set n none ++ [some (cs.take (len * k) ++ news)]) (tm a) := by
   refine d1.adv ad hh (fun q k' zs e => ?_) (fun b hbb => ?_)
   ·have e' := e;rw [d2] at e';split at e'
    ·cases e'
    rename_i hqp;refine (d1.own q k' zs e).same fun m hmq => hall m ?_ ?_
    ·rintro rfl;exact hqp (h.inj q p m (by rw [e']; rfl) (by rw [hp]; rfl) hmq hn)
    ·exact h.own_lt (by rw [e']; rfl) hmq
   ·have hbs : (blk s.H b).isSome := by
     cases e : blk s.H b with
     | none => rw [d3.nbox b e] at hbb; cases hbb
     | some _ => rfl
    refine hall _ ?_ (h.box_lt hbs);intro e;exact h.bx b p hbs (by rw [hp]; rfl) (by rw [hn,e])
  have hlen' : (xs.take len ++ ys).length = len + ys.length := by simp; omega
  have htk : ∀ z ∈ xs.take len,z.cells.length = k := fun z hz => c3 z (List.mem_of_mem_take hz);refine PutOK.fresh sim1 hb1 (n := Ha.length) ⟨cs.take (len * k) ++ news,by rw [blk_push,if_pos (by simp)],?_,?_,?_⟩ (fun q hq e => ?_) (fun b hbb e => ?_) (by rw [hlen']; exact r)
  ·rw [hlen',Nat.add_mul,List.length_append,List.length_take,n2]; omega
  ·intro z hz;rcases List.mem_append.1 hz with hz | hz
   ·exact htk z hz
   ·exact n3 z hz
  ·intro i d hd;rw [flatCells_append,flat_take c3] at hd
   have hlt1 : ((flatCells xs).take (len * k)).length = len * k := by
    have := flat_len c3;have : len * k <= xs.length * k := Nat.mul_le_mul_right k hle;rw [List.length_take]; omega
   rw [List.getElem?_append] at hd;rw [hlt1] at hd;split at hd
   ·rename_i hi;rw [List.getElem?_take,if_pos hi] at hd;obtain ⟨f1,e,f2,f3,f4⟩ := c4 i d hd;exact ⟨f1,e,by rw [List.getElem?_append_left (by simp; omega),List.getElem?_take,if_pos hi]; exact f2,f3,f4⟩
   ·rename_i hi;obtain ⟨f1,e,f2,f3,f4⟩ := n5 _ d hd;refine ⟨f1,e,?_,f3,f4⟩;rw [List.getElem?_append_right (by simp; omega)];rw [List.length_take,Nat.min_eq_left hlk];exact f2
  ·have hq' : (ownAt s q).isSome := by
    rw [d2] at hq;split at hq
    ·cases hq
    ·exact hq
   have := h.own_lt hq' e;omega
  ·have hbs : (blk s.H b).isSome := by
    cases e : blk s.H b with
    | none => rw [d3.nbox b e] at hbb; cases hbb
    | some _ => rfl
   have := h.box_lt hbs;omega
 ·rw [hn] at hown;have hxs : xs = [] := hown;subst hxs;subst hlen0
  have simq : ∀ {φ' w' Ha'},Adv φ w φ' w' -> HRel X φ' w' Ha' -> (∀ m,m < Ha.length -> blk Ha' m = blk Ha m) -> Sim X φ' w' N (setAt (mapSt (sw p) s) p .any) Ha' (tm a) := by
   intro φ' w' Ha' ad hh hall;refine d1.adv ad hh (fun q k' zs e => ?_) (fun b hbb => ?_)
   ·exact (d1.own q k' zs e).same fun m hmq => hall m (d1.own_lt (by rw [e]; rfl) hmq)
   ·exact hall _ (d1.box_lt hbb)
  by_cases h0 : ys.length = 0
  ·have : ys = [] := List.eq_nil_of_length_eq_zero h0;subst this;refine OkB.of (am_op (va := .nils) (Ha' := Ha) hm h hg hk (by simp only [dnK,aOp,n1,hx.ev,hx0,trO,e2,List.length_nil,if_true]; rfl)) fun v' w' φ' r hh ad => ?_;exact PutOK.quiet (simq ad hh fun _ _ => rfl) hb1 trivial (by simp [EO]) r
  ·have hl' : ys.length <= LIM := by omega
   refine OkB.of (am_op (va := .sl k Ha.length 0 ys.length) (Ha' := Ha ++ [some news]) hm h hg hk (by simp only [dnK,aOp,n1,hx.ev,hx0,trO,e2,if_neg h0,if_pos (⟨hl',n4⟩ : ys.length <= LIM /\ allLeaf news = true)]; rfl)) fun v' w' φ' r hh ad => ?_;have sim1 := simq ad hh fun m hlt => by rw [blk_push,if_neg (by omega)]
   refine PutOK.fresh sim1 hb1 (n := Ha.length) ⟨news,blk_last _ _,by simp; omega,by simpa using n3,by simpa using n5⟩ (fun q hq e => ?_) (fun b hbb e => ?_) (by simpa using r)
   ·have := d1.own_lt hq e; omega
   ·have := d1.box_lt hbb; omega
end
end Go.Bm

/- Stores and clearing. -/
namespace Go.Bm
open Go.Am
mutual
theorem okV_len {o o' : Rt -> Option (Nat × List AV)} {nb : Nat} (ho : ∀ p k xs,o p = some (k,xs) -> ∃ ys,o' p = some (k,ys) /\ xs.length <= ys.length) : ∀ x,okV o nb x -> okV o' nb x
 | .bor k p off len,h => by simp only [okV] at h ⊢; obtain ⟨xs,e,h2⟩ := h; obtain ⟨ys,e2,h3⟩ := ho p k xs e; exact ⟨ys,e2,by omega⟩
 | .pto k p i off,h => by simp only [okV] at h ⊢; obtain ⟨xs,e,h2⟩ := h; obtain ⟨ys,e2,h3⟩ := ho p k xs e; exact ⟨ys,e2,by omega⟩
 | .ptr b off,h => h
 | .agg cs,h => by simp only [okV] at h ⊢; exact okL_len ho cs h
 | .tup cs,h => by simp only [okV] at h ⊢; exact okL_len ho cs h
 | .func f a b,h => by simp only [okV] at h ⊢; exact ⟨okL_len ho a h.1,okL_len ho b h.2⟩
 | .any,_ => trivial
 | .undef,_ => trivial
 | .nilp,_ => trivial
 | .nilf,_ => trivial
 | .nils,_ => trivial
 | .int _ _,_ => trivial
 | .bool _,_ => trivial
 | .str _,_ => trivial
 | .list _ _,_ => trivial
 | .fptr _,_ => trivial
 | .own _ _,_ => trivial
 | .sl _ _ _ _,h => h
theorem okL_len {o o' : Rt -> Option (Nat × List AV)} {nb : Nat} (ho : ∀ p k xs,o p = some (k,xs) -> ∃ ys,o' p = some (k,ys) /\ xs.length <= ys.length) : ∀ cs,okL o nb cs -> okL o' nb cs
 | [],_ => trivial
 | x :: r,h => ⟨okV_len ho x h.1,okL_len ho r h.2⟩
end
theorem ovw_get {l vs : List AV} {off : Nat} (h : off + vs.length <= l.length) (m : Nat) : (ovw l off vs)[m]? = if m < off then l[m]? else if m < off + vs.length then vs[m - off]? else l[m]? := by
 unfold ovw;have h1 : (l.take off).length = off := by simp; omega
 by_cases a : m < off
 ·rw [if_pos a,List.append_assoc,List.getElem?_append_left (by omega),List.getElem?_take,if_pos a]
 ·rw [if_neg a];by_cases b : m < off + vs.length
  ·rw [if_pos b,List.append_assoc,List.getElem?_append_right (by omega),h1,List.getElem?_append_left (by omega)]
  ·rw [if_neg b,List.getElem?_append_right (by simp; omega),List.getElem?_drop];congr 1;simp; omega
section
variable {P : Program} {X : Nat -> Prop} {φ φ' : Phi} {w w' : World} {N N' : Names} {s s1 : St} {Ha Ha' : Heap} {t : Nat -> Value} {B : Nat -> Nat} {base : Nat} {v va : AV} {v' : Value} {c : Cfg} {o : Oper} {a : Act} {kd : Kd}
theorem trS_set {p : Rt} {k : Nat} {xs xs' : List AV} (hp : ownAt s p = some (k,xs)) (hl : xs'.length = xs.length) (i : Nat) : trS N i (get (setAt s p (.own k xs')).env i) = trS N i (get s.env i) := by
 have hat := ownAt_iff.1 hp;cases p with
 | s j =>
   simp only [at_,Option.some.injEq] at hat;simp only [setAt,get_put];by_cases e : i = j
   ·subst e; rw [if_pos rfl,hat]; simp only [trS,trP,hl]
   ·rw [if_neg e]
 | sc j l =>
   simp only [at_] at hat;cases hg : get s.env j <;> rw [hg] at hat <;> simp at hat
   rename_i ds;have hs : setAt s (.sc j l) (.own k xs') = ⟨put s.env j (.agg (ds.set l (.own k xs'))),s.H⟩ := by simp [setAt,hg]
   rw [hs];simp only [get_put];by_cases e : i = j
   ·subst e;rw [if_pos rfl,hg];simp only [trS];congr 1;apply List.ext_getElem?;intro m;rw [trC_get,trC_get,List.getElem?_set];by_cases hm : l = m
    ·subst hm;rw [if_pos rfl,if_pos (lt_of_getElem? hat),hat];simp only [Option.map_some,trP,hl]
    ·rw [if_neg hm]
   ·rw [if_neg e]
 | c b l =>
   simp only [at_] at hat;cases hg : blk s.H b <;> rw [hg] at hat <;> simp at hat
   simp [setAt,hg]
theorem Sim.upd (h : Sim X φ w N s Ha t) {p : Rt} {k n : Nat} {xs xs' : List AV} (hp : ownAt s p = some (k,xs)) (hn : N.ν p = some n) (hl : xs'.length = xs.length) (ad : Adv φ w φ' w') (hh : HRel X φ' w' Ha') (ho : OwnH Ha' (some n) k xs') (hb : ∀ m,m ≠ n -> blk Ha' m = blk Ha m) :
  Sim X φ' w' N (setAt s p (.own k xs')) Ha' t /\ Shape s (setAt s p (.own k xs')) := by
 have hat := ownAt_iff.1 hp;have hfit : Fits s p (.own k xs') := ⟨(fun cs e => by cases e),_,hat,(fun cs e => by cases e)⟩;have hsh := Shape.set hfit;generalize hs' : setAt s p (.own k xs') = s' at hsh ⊢
 have own : ∀ q,ownAt s' q = if q = p then some (k,xs') else ownAt s q := by
  refine ownAt_key hsh (fun q hq => ?_) (fun q hq => ?_)
  ·have e : at_ s' q = if q = p then some (.own k xs') else at_ s q := by rw [<- hs']; exact at_set hfit hq
   by_cases hqp : q = p
   ·rw [if_pos hqp] at e ⊢; exact ownAt_iff.2 e
   ·rw [if_neg hqp] at e ⊢; exact ownAt_of_at e
  ·rw [if_neg (by rintro rfl; exact hq (ownAt_lf (by rw [hp]; rfl)))];exact ownAt_nlf hq
 have hlen : ∀ q k' ys,ownAt s q = some (k',ys) -> ∃ zs,ownAt s' q = some (k',zs) /\ ys.length <= zs.length := by
  intro q k' ys e;rw [own];by_cases hqp : q = p
  ·subst hqp;rw [hp] at e;cases e;exact ⟨xs',by rw [if_pos rfl],by omega⟩
  ·exact ⟨ys,by rw [if_neg hqp]; exact e,Nat.le_refl _⟩
 have oiff : ∀ {q},(ownAt s' q).isSome -> (ownAt s q).isSome := by
  intro q hq;rw [own] at hq;by_cases hqp : q = p
  ·subst hqp; rw [hp]; rfl
  ·rw [if_neg hqp] at hq; exact hq
 have biff : ∀ {b},(blk s'.H b).isSome -> (blk s.H b).isSome := by
  intro b hb;cases e : blk s.H b with
  | none => rw [hsh.nbox b e] at hb; cases hb
  | some _ => rfl
 have okk : ∀ r y,Lf s' r -> at_ s' r = some y -> okV (ownAt s') s'.H.length y := by
  intro r y hr hy;obtain ⟨hr',x,hx⟩ := hsh.back hr hy;have e : at_ s' r = if r = p then some (.own k xs') else at_ s r := by rw [<- hs']; exact at_set hfit hr'
  rw [e] at hy;by_cases hrp : r = p
  ·rw [if_pos hrp] at hy; cases hy; trivial
  ·rw [if_neg hrp] at hy;rw [hsh.len];exact okV_len hlen y (h.ok_at hy)
 obtain ⟨hk,hkc⟩ := ok_of_at okk;refine ⟨⟨fun i => ?_,hk,hh,fun q k' ys e => ?_,fun b cs e => ?_,fun q r m e1 e2 e3 e4 => h.inj q r m (oiff e1) (oiff e2) e3 e4,fun b q e1 e2 e3 => h.bx b q (biff e1) (oiff e2) e3,fun b d e1 e2 e3 => h.bi b d (biff e1) (biff e2) e3⟩,hsh⟩
 ·rw [<- hs',trS_set hp hl]; exact ad.rep (h.env i)
 ·rw [own] at e;by_cases hqp : q = p
  ·subst hqp;rw [if_pos rfl] at e;cases e;rw [hn];exact ho
  ·rw [if_neg hqp] at e;refine (h.own q k' ys e).same fun m hm => hb m ?_;rintro rfl;exact hqp (h.inj q p m (by rw [e]; rfl) (by rw [hp]; rfl) hm hn)
 ·cases hbs : blk s.H b with
  | none => rw [hsh.nbox b hbs] at e; cases e
  | some cs0 =>
    obtain ⟨ds,q1,q2⟩ := hsh.box b cs0 hbs;rw [e] at q1; cases q1;obtain ⟨as,g1,g2,g3⟩ := h.box b cs0 hbs;refine ⟨as,?_,by omega,fun j d hd => ⟨hkc b cs e j d hd,?_⟩⟩
    ·rw [hb]
     ·exact g1
     ·intro e3; exact h.bx b p (by rw [hbs]; rfl) (by rw [hp]; rfl) (by rw [hn,e3])
    ·obtain ⟨d0,hd0⟩ := getElem?_some_of (l := cs0) (i := j) (by have := lt_of_getElem? hd; omega);obtain ⟨_,a',a1,a2⟩ := g3 j d0 hd0;refine ⟨a',a1,?_⟩;have e3 : at_ s' (.c b j) = if Rt.c b j = p then some (.own k xs') else at_ s (.c b j) := by rw [<- hs']; exact at_set hfit (fun i e => by cases e)
     rw [at_c e,at_c hbs,hd,hd0] at e3;by_cases hrp : Rt.c b j = p
     ·rw [if_pos hrp] at e3;cases e3
      have hat' : d0 = .own k xs := by
       rw [<- hrp,at_c hbs,hd0] at hat;exact Option.some.inj hat
      subst hat';simp only [trP,hl] at a2 ⊢;exact a2
     ·rw [if_neg hrp] at e3;cases e3;exact a2
theorem updE_cells {k off : Nat} {x : AV} {vs : List AV} (hx : x.cells.length = k) (hf : off + vs.length <= k) : (updE k x off vs).cells = ovw x.cells off vs := by
 unfold updE;split
 ·rename_i h;rw [el_cells];obtain ⟨rfl,hl⟩ := h;unfold ovw;rw [List.drop_eq_nil_of_le (by omega)];simp
 ·rw [el_cells]
theorem trOL_pl : ∀ {cs : List AV},fzL cs = true -> trOL N cs = cs
 | [],_ => rfl
 | x :: r,h => by
   simp only [fzL,Bool.and_eq_true] at h;simp only [trOL];rw [trOL_pl h.2];have := (fz_pl h.1).1;congr 1;cases x <;> first | exact tr_pl N _ this | (simp [pl] at this; done)
theorem ok_stP (hm : P.follows .mixedOrders = true) (h : SB X φ w B base s (tm a)) (hg : Am.GlOK (cAm c) X φ w) {k k' i off : Nat} {x y : E} {p : Rt} {xs : List AV} {u : AV} (hk : chkK P o.op (dnK (.st k x y)) = true) (hx0 : opnd c s.env x = .pto k' p i off) (hp : ownAt s p = some (k',xs)) (hu : xs[i]? = some u)
  (h1 : (opnd c s.env y).cells.length = k) (h2 : off + k <= k') (h3 : fzL (opnd c s.env y).cells = true) : OkB P X φ w B base (setAt s p (.own k' (xs.set i (updE k' u off (opnd c s.env y).cells)))) .undef o a := by
 obtain ⟨N,Ha,h,hb⟩ := h;obtain ⟨⟨o1,c1⟩,o2,c2⟩ := chk_st hk;have hx := opnd_ok (c := c) (cA := cAm c) h rfl c1;have hy := opnd_ok (c := c) (cA := cAm c) h rfl c2;have hok := hx.ok;rw [hx0] at hok;obtain ⟨n,hn,e2⟩ := pto_tr h hok;have hown := h.own p k' xs hp;rw [hn] at hown;obtain ⟨cs,q1,q2,q3,q4⟩ := hown;generalize hvs : (opnd c s.env y).cells = vs at h1 h3 ⊢;have hcell : (Am.ev (cAm c) (trE N s.env) (dnE y)).cells = vs := by rw [hy.ev,cells_tr N hy.na,hvs,trOL_pl h3]
 have hlf : allLeaf vs = true := allLeaf_of fun z hz => (fz_pl (fzL_mem h3 z hz)).2;have huk : u.cells.length = k' := q3 u (List.mem_of_getElem? hu);have hilt := lt_of_getElem? hu;have hik : (i + 1) * k' <= xs.length * k' := Nat.mul_le_mul_right k' hilt;rw [Nat.add_mul] at hik;have hfit : i * k' + off + k <= cs.length := by omega
 refine OkB.of (am_op (va := .undef) (Ha' := Ha.set n (some (ovw cs (i * k' + off) vs))) hm h hg hk (by simp only [dnK,aOp,hx.ev,hx0,trO,e2,q1,hcell,if_pos (⟨h1,hfit,hlf⟩ : vs.length = k /\ i * k' + off + k <= cs.length /\ allLeaf vs = true)]; rfl)) fun v' w' φ' r hh ad => ?_;have hcell2 := updE_cells (k := k') (off := off) (vs := vs) huk (by omega)
 have hnew : OwnH (Ha.set n (some (ovw cs (i * k' + off) vs))) (some n) k' (xs.set i (updE k' u off vs)) := by
  refine ⟨ovw cs (i * k' + off) vs,by rw [blk_set,if_pos ⟨rfl,blk_lt q1⟩],?_,?_,?_⟩
  ·rw [List.length_set,ovw_length (by omega)]; exact q2
  ·intro z hz;rcases List.mem_or_eq_of_mem_set hz with hz | rfl
   ·exact q3 z hz
   ·rw [hcell2,ovw_length (by omega),huk]
  ·have hlenk : ∀ z ∈ xs.set i (updE k' u off vs),z.cells.length = k' := by
    intro z hz;rcases List.mem_or_eq_of_mem_set hz with hz | rfl
    ·exact q3 z hz
    ·rw [hcell2,ovw_length (by omega),huk]
   intro m d hd;obtain ⟨i',z,j,z1,z2,z3⟩ := (flatCells_get hlenk).2 m d hd;have hj : j < k' := by rw [<- hlenk z (List.mem_of_getElem? z1)]; exact lt_of_getElem? z2
   rw [List.getElem?_set] at z1;by_cases hii : i = i'
   ·subst hii;rw [if_pos rfl,if_pos hilt] at z1;cases z1;rw [hcell2,ovw_get (by omega)] at z2
    have old : u.cells[j]? = some d -> j < off \/ ¬ j < off + vs.length -> fz d = true /\ ∃ e,(ovw cs (i * k' + off) vs)[m]? = some e /\ e.leaf = true /\ Le d e := by
     intro e hc;obtain ⟨f1,e',f2,f3,f4⟩ := q4 _ d (flat_at q3 hu e);refine ⟨f1,e',?_,f3,f4⟩;rw [z3,ovw_get (by omega)];rcases hc with hc | hc
     ·rw [if_pos (by omega)]; exact f2
     ·rw [if_neg (by omega),if_neg (by omega)]; exact f2
    split at z2
    ·rename_i hc; exact old z2 (.inl hc)
    ·split at z2
     ·rename_i hc1 hc2;have hz := fzL_mem h3 d (List.mem_of_getElem? z2);refine ⟨hz,d,?_,(fz_pl hz).2,Le.refl _⟩;rw [z3,ovw_get (by omega),if_neg (by omega),if_pos (by omega),show i * k' + j - (i * k' + off) = j - off by omega];exact z2
     ·rename_i hc1 hc2; exact old z2 (.inr hc2)
   ·rw [if_neg hii] at z1;obtain ⟨f1,e',f2,f3,f4⟩ := q4 _ d (flat_at q3 z1 z2);refine ⟨f1,e',?_,f3,f4⟩;rw [z3,ovw_get (by omega)];rcases Nat.lt_or_gt_of_ne hii with hlt | hgt
    ·have : (i + 1) * k' <= i' * k' := Nat.mul_le_mul_right k' hlt;rw [Nat.add_mul] at this;rw [if_neg (by omega),if_neg (by omega)];exact f2
    ·have : (i' + 1) * k' <= i * k' := Nat.mul_le_mul_right k' hgt;rw [Nat.add_mul] at this;rw [if_pos (by omega)];exact f2
 obtain ⟨sim1,hsh⟩ := h.upd (xs' := xs.set i (updE k' u off vs)) hp hn (by simp) ad hh hnew (fun m hmn => by rw [blk_set,if_neg (fun e => hmn e.1)]);exact PutOK.quiet sim1 ⟨hb.1,by rw [hsh.len]; exact hb.2⟩ trivial trivial r
end
end Go.Bm

/- Stores into boxes. -/
namespace Go.Bm
open Go.Am
section
variable {P : Program} {X : Nat -> Prop} {φ φ' : Phi} {w w' : World} {N N' : Names} {s s' s1 : St} {Ha Ha' : Heap} {t t' : Nat -> Value} {B : Nat -> Nat} {base : Nat} {v va : AV} {v' : Value} {c : Cfg} {o : Oper} {a : Act} {kd : Kd}
theorem mvBB_spec (i b off : Nat) : ∀ k p x l,mvBB i b off (.bor k p x l) = .bor k (mvRtB i b off p) x l /\ mvBB i b off (.pto k p x l) = .pto k (mvRtB i b off p) x l := fun _ _ _ _ => ⟨rfl,rfl⟩
theorem trS_cells (N : Names) (i : Nat) (v : AV) : (trS N i v).cells.length = v.cells.length /\ ∀ (j : Nat) (d : AV),v.cells[j]? = some d -> (trS N i v).cells[j]? = some (trP N (match v with
  | .agg _ => .sc i j
  | _ => .s i) d) := by
 by_cases ha : ∃ cs,v = .agg cs
 ·obtain ⟨cs,rfl⟩ := ha;simp only [trS,AV.cells];exact ⟨trC_length _ _ _ _,fun j d hd => by rw [trC_get,hd]; simp⟩
 ·have hn : NAgg v := fun cs e => ha ⟨cs,e⟩;have e1 : trS N i v = trP N (.s i) v := by cases v <;> first | rfl | exact absurd rfl (hn _)
  have e2 : v.cells = [v] := by cases v <;> first | rfl | exact absurd rfl (hn _)
  have e3 : (trP N (.s i) v).cells = [trP N (.s i) v] := by
   cases v <;> first
    | rfl
    | exact absurd rfl (hn _)
    | (rename_i k xs; simp only [trP,ownT]; cases N.ν (.s i) <;> rfl)
    | (rename_i k p x l; simp only [trP,trV]; cases N.ν p <;> rfl)
  rw [e1,e2,e3];refine ⟨rfl,fun j d hd => ?_⟩;cases j with
  | zero =>
    simp at hd;subst hd;cases v <;> first | rfl | exact absurd rfl (hn _)
  | succ j => simp at hd
theorem mapB_cells {g : AV -> AV} (hg : LeafG g) (v : AV) : (mapB g v).cells = mapBL g v.cells := by
 by_cases ha : ∃ cs,v = .agg cs
 ·obtain ⟨cs,rfl⟩ := ha;simp [mapB,AV.cells]
 ·have hn : NAgg v := fun cs e => ha ⟨cs,e⟩;have hn2 := mapB_nagg hg hn;have e2 : v.cells = [v] := by cases v <;> first | rfl | exact absurd rfl (hn _)
  rw [e2];simp only [mapBL];generalize mapB g v = y at hn2;cases y <;> first | rfl | exact absurd rfl (hn2 _)
def cellPl (i : Nat) (v : AV) (j : Nat) : Rt :=
 match v with
 | .agg _ => .sc i j
 | _ => .s i
theorem at_cellPl {i : Nat} {j : Nat} {d : AV} (h : (get s.env i).cells[j]? = some d) : at_ s (cellPl i (get s.env i) j) = some d := by
 by_cases ha : ∃ cs,get s.env i = .agg cs
 ·obtain ⟨cs,e⟩ := ha;rw [e] at h ⊢;simp only [cellPl];rw [at_sc e];exact h
 ·have hn : NAgg (get s.env i) := fun cs e => ha ⟨cs,e⟩
  have e2 : (get s.env i).cells = [get s.env i] := by
   generalize get s.env i = v at hn;cases v <;> first | rfl | exact absurd rfl (hn _)
  have e3 : cellPl i (get s.env i) j = .s i := by
   generalize get s.env i = v at hn;cases v <;> first | rfl | exact absurd rfl (hn _)
  rw [e2] at h;rw [e3];cases j with
  | zero => simp at h; rw [<- h]; rfl
  | succ j => simp at h
theorem Sim.toBox (h : Sim X φ w N s Ha t) {i b off k : Nat} {cs as : List AV} (hb : blk s.H b = some cs) (has : blk Ha (N.β b) = some as) (hk : (get s.env i).cells.length = k) (hfit : off + k <= cs.length)
  (hC : ∀ r x,at_ s r = some x -> ∀ p ∈ borOf x,inCells b off k p = false)
  (ad : Adv φ w φ' w') (hh : HRel X φ' w' (Ha.set (N.β b) (some (ovw as off (trS N i (get s.env i)).cells))))
  (he : ∀ j,get s'.env j = if j = i then .any else mapB (mvBB i b off) (get s.env j)) (hH : s'.H = (mapH (mvBB i b off) s.H).set b (some (ovw (mapBL (mvBB i b off) cs) off (mapB (mvBB i b off) (get s.env i)).cells))) (ht : ∀ j,j ≠ i -> t' j = t j) :
  ∃ N',N'.β = N.β /\ Sim X φ' w' N' s' (Ha.set (N.β b) (some (ovw as off (trS N i (get s.env i)).cells))) t' := by
 have hg := mvBB_spec i b off;have hL := leafMvB i b off;generalize hv : get s.env i = v at *;obtain ⟨tc1,tc2⟩ := trS_cells N i v;have hblt := blk_lt hb;have halt := blk_lt has
 have hasl : as.length = cs.length := by
  obtain ⟨as',g1,g2,_⟩ := h.box b cs hb;rw [has] at g1; cases g1; exact g2
 have hcl : (mapB (mvBB i b off) v).cells = mapBL (mvBB i b off) v.cells := mapB_cells hL v
 -- where a place of the new state comes from
 obtain ⟨u,hu1,hu2⟩ : ∃ u : Rt -> Rt,(∀ j,off <= j -> j < off + k -> u (.c b j) = cellPl i v (j - off)) /\ ∀ q,inCells b off k q = false -> u q = q :=
  ⟨fun q => match q with
   | .c d j => if d = b /\ off <= j /\ j < off + k then cellPl i v (j - off) else .c d j
   | q => q,fun j h1 h2 => by simp [h1,h2],fun q hq => by
     cases q with
     | s j => rfl
     | sc j l => rfl
     | c d j =>
       simp only [inCells,Bool.and_eq_false_iff,decide_eq_false_iff_not] at hq;have : ¬ (d = b /\ off <= j /\ j < off + k) := by omega
       simp [this]⟩
 have blkH : ∀ d,blk s'.H d = if d = b then some (ovw (mapBL (mvBB i b off) cs) off (mapBL (mvBB i b off) v.cells)) else (blk s.H d).map (mapBL (mvBB i b off)) := by
  intro d;rw [hH,blk_set,blk_mapH,hcl,mapH_length];by_cases e : d = b
  ·subst e; simp [hblt]
  ·simp [e]
 have atq : ∀ q,inSlot i q = false -> inCells b off k q = false -> at_ s' q = (at_ s q).map (mapB (mvBB i b off)) := by
  intro q h1 h2;cases q with
  | s j => simp only [inSlot,decide_eq_false_iff_not] at h1; simp [at_,he,h1]
  | sc j l =>
    simp only [inSlot,decide_eq_false_iff_not] at h1;have := at_mapSt hL s (.sc j l);simp only [at_,mapSt,get_mapE] at this;simp only [at_,he,if_neg h1];exact this
  | c d j =>
    simp only [at_,blkH];by_cases e : d = b
    ·subst e;simp only [if_true,hb];simp only [inCells,decide_true,Bool.true_and,Bool.and_eq_false_iff,decide_eq_false_iff_not] at h2;rw [ovw_get (by rw [mapBL_length,mapBL_length,hk]; exact hfit),mapBL_length,hk];by_cases c1 : j < off
     ·rw [if_pos c1,mapBL_get]
     ·rw [if_neg c1,if_neg (by omega),mapBL_get]
    ·simp only [if_neg e];cases blk s.H d with
     | none => rfl
     | some ds => simp [mapBL_get]
 have atb : ∀ j,off <= j -> j < off + k -> at_ s' (.c b j) = (v.cells[j - off]?).map (mapB (mvBB i b off)) := by
  intro j h1 h2;simp only [at_,blkH,if_true];rw [ovw_get (by rw [mapBL_length,mapBL_length,hk]; exact hfit),mapBL_length,hk,if_neg (by omega),if_pos h2,mapBL_get]
 have ati : ∀ q,inSlot i q = true -> ownAt s' q = none := by
  intro q hq;cases q with
  | s j => simp only [inSlot,decide_eq_true_eq] at hq; subst hq; unfold ownAt; simp [at_,he]
  | sc j l => simp only [inSlot,decide_eq_true_eq] at hq; subst hq; unfold ownAt; simp [at_,he]
  | c d j => simp [inSlot] at hq
 have cellAt : ∀ j d,v.cells[j]? = some d -> at_ s (cellPl i v j) = some d := fun j d hd => by
  have := at_cellPl (s := s) (i := i) (j := j) (d := d) (by rw [hv]; exact hd)
  rwa [hv] at this
 have own : ∀ q k' xs,ownAt s' q = some (k',xs) -> ownAt s (u q) = some (k',xs) := by
  intro q k' xs e
  have hqi : inSlot i q = false := by
   cases e2 : inSlot i q with
   | true => rw [ati q e2] at e; cases e
   | false => rfl
  have e' := ownAt_iff.1 e;cases hq : inCells b off k q with
  | false =>
    rw [hu2 q hq];rw [atq q hqi hq] at e';cases ha : at_ s q with
    | none => rw [ha] at e'; cases e'
    | some x =>
      rw [ha] at e';simp only [Option.map_some,Option.some.injEq] at e';rw [mapB_own hL] at e';subst e';exact ownAt_iff.2 ha
  | true =>
    cases q with
    | s j => simp [inCells] at hq
    | sc j l => simp [inCells] at hq
    | c d j =>
      simp only [inCells,Bool.and_eq_true,decide_eq_true_eq] at hq;obtain ⟨rfl,h1,h2⟩ := hq;rw [hu1 j h1 h2];rw [atb j h1 h2] at e';cases ha : v.cells[j - off]? with
      | none => rw [ha] at e'; cases e'
      | some x =>
        rw [ha] at e';simp only [Option.map_some,Option.some.injEq] at e';rw [mapB_own hL] at e';subst e';exact ownAt_iff.2 (cellAt _ _ ha)
 have agg_or : (∃ ds,v = .agg ds) \/ (NAgg v /\ v.cells = [v] /\ ∀ j,cellPl i v j = .s i) := by
  by_cases ha : ∃ ds,v = .agg ds
  ·exact .inl ha
  ·have hn : NAgg v := fun ds e => ha ⟨ds,e⟩;refine .inr ⟨hn,?_,fun j => ?_⟩
   ·cases v <;> first | rfl | exact absurd rfl (hn _)
   ·cases v <;> first | rfl | exact absurd rfl (hn _)
 -- an owner that was, where it is now
 have own2 : ∀ p,(ownAt s p).isSome -> inCells b off k p = false -> ownAt s' (mvRtB i b off p) = ownAt s p /\ u (mvRtB i b off p) = p := by
  intro p hp hc;obtain ⟨⟨k',xs⟩,e⟩ := Option.isSome_iff_exists.1 hp;have e' := ownAt_iff.1 e;cases hpi : inSlot i p with
  | false =>
    have hm : mvRtB i b off p = p := by
     cases p with
     | s j => simp only [inSlot,decide_eq_false_iff_not] at hpi; simp [mvRtB,hpi]
     | sc j l => simp only [inSlot,decide_eq_false_iff_not] at hpi; simp [mvRtB,hpi]
     | c d j => rfl
    rw [hm];refine ⟨?_,hu2 p hc⟩;rw [<- ownAt_mapSt hL s p];exact ownAt_of_at (by rw [atq p hpi hc,at_mapSt hL])
  | true =>
    cases p with
    | s j =>
      simp only [inSlot,decide_eq_true_eq] at hpi;subst hpi;simp only [at_,Option.some.injEq] at e';rw [hv] at e';subst e';have hk1 : k = 1 := by rw [<- hk]; rfl
      subst hk1;have hm : mvRtB j b off (.s j) = .c b off := by simp [mvRtB]
      rw [hm,hu1 off (Nat.le_refl _) (by omega)];refine ⟨?_,rfl⟩;rw [e];exact ownAt_iff.2 (by rw [atb off (Nat.le_refl _) (by omega)]; simp [AV.cells,mapB])
    | sc j l =>
      simp only [inSlot,decide_eq_true_eq] at hpi;subst hpi;simp only [at_,hv] at e';split at e'
      case h_2 => cases e'
      rename_i ds;have hl : l < k := by rw [<- hk]; exact lt_of_getElem? e'
      have hm : mvRtB j b off (.sc j l) = .c b (off + l) := by simp [mvRtB]
      rw [hm,hu1 (off + l) (by omega) (by omega)];refine ⟨?_,by simp [cellPl]⟩;rw [e];exact ownAt_iff.2 (by rw [atb (off + l) (by omega) (by omega)]; simp [AV.cells,e',mapB])
    | c d j => simp [inSlot] at hpi
 have back : ∀ q,(ownAt s' q).isSome -> mvRtB i b off (u q) = q := by
  intro q hq
  have hqi : inSlot i q = false := by
   cases e2 : inSlot i q with
   | true => rw [ati q e2] at hq; cases hq
   | false => rfl
  cases hc : inCells b off k q with
  | false =>
    rw [hu2 q hc];cases q with
    | s j => simp only [inSlot,decide_eq_false_iff_not] at hqi; simp [mvRtB,hqi]
    | sc j l => simp only [inSlot,decide_eq_false_iff_not] at hqi; simp [mvRtB,hqi]
    | c d j => rfl
  | true =>
    cases q with
    | s j => simp [inCells] at hc
    | sc j l => simp [inCells] at hc
    | c d j =>
      simp only [inCells,Bool.and_eq_true,decide_eq_true_eq] at hc;obtain ⟨rfl,h1,h2⟩ := hc;rw [hu1 j h1 h2];rcases agg_or with ⟨ds,rfl⟩ | ⟨_,hc1,hp1⟩
      ·simp only [cellPl,mvRtB,if_true];rw [show off + (j - off) = j by omega]
      ·rw [hp1];have : k = 1 := by rw [<- hk,hc1]; rfl
       simp only [mvRtB,if_true];rw [show off = j by omega]
 have hlen : s'.H.length = s.H.length := by rw [hH,List.length_set,mapH_length]
 obtain ⟨N',hβ,hN⟩ : ∃ N' : Names,N'.β = N.β /\ ∀ q,N'.ν q = N.ν (u q) := ⟨⟨N.β,fun q => N.ν (u q)⟩,rfl,fun _ => rfl⟩;have hν : ∀ p,(ownAt s p).isSome -> inCells b off k p = false -> N'.ν (mvRtB i b off p) = N.ν p := fun p hp hc => by rw [hN,(own2 p hp hc).2]
 have bor1 : ∀ {r x},at_ s r = some x -> (∀ p ∈ borOf x,N'.ν (mvRtB i b off p) = N.ν p) /\ okV (ownAt s') s'.H.length (mapB (mvBB i b off) x) := by
  intro r x hx;refine ⟨fun p hp => hν p (h.bor hx p hp) (hC r x hx p hp),?_⟩;rw [hlen];exact ok_mv hg x (fun p hp => (own2 p (h.bor hx p hp) (hC r x hx p hp)).1) (h.ok_at hx)
 have so : ∀ {q},(ownAt s' q).isSome -> (ownAt s (u q)).isSome := by
  intro q hq;obtain ⟨⟨k',xs⟩,e⟩ := Option.isSome_iff_exists.1 hq;rw [own q k' xs e]; rfl
 have sb : ∀ {d},(blk s'.H d).isSome -> (blk s.H d).isSome := by
  intro d hd;rw [blkH] at hd;by_cases e : d = b
  ·subst e; rw [hb]; rfl
  ·rw [if_neg e] at hd;cases e2 : blk s.H d with
   | none => rw [e2] at hd; cases hd
   | some _ => rfl
 refine ⟨N',hβ,⟨fun j => ?_,fun j => ?_,hh,fun q k' xs e => ?_,fun d ds e => ?_,fun p q n e1 e2 e3 e4 => ?_,fun d q e1 e2 e3 => ?_,fun d e e1 e2 e3 => ?_⟩⟩
 ·rw [he];by_cases hji : j = i
  ·rw [if_pos hji]; exact .any _ _
  ·rw [if_neg hji,ht j hji];rw [trS_mv (N := N) (i := j) hβ hg (by rw [hN,hu2 _ rfl]) (fun l => by rw [hN,hu2 _ rfl]) (bor1 (r := .s j) rfl).1];exact ad.rep (h.env j)
 ·rw [he];by_cases hji : j = i
  ·rw [if_pos hji]; trivial
  ·rw [if_neg hji]; exact (bor1 (r := .s j) rfl).2
 ·have e2 := own q k' xs e;rw [hN];refine (h.own _ k' xs e2).same fun n hn => ?_;rw [blk_set,if_neg];rintro ⟨e3,_⟩;exact h.bx b (u q) (by rw [hb]; rfl) (by rw [e2]; rfl) (by rw [hn,e3])
 ·rw [blkH] at e;by_cases hd : d = b
  ·subst hd;rw [if_pos rfl] at e;cases e;refine ⟨ovw as off (trS N i v).cells,by rw [hβ,blk_set,if_pos ⟨rfl,halt⟩],?_,fun j x hx => ?_⟩
   ·rw [ovw_length (by rw [tc1,hk]; omega),ovw_length (by rw [mapBL_length,mapBL_length,hk]; omega),mapBL_length,hasl]
   ·rw [ovw_get (by rw [mapBL_length,mapBL_length,hk]; exact hfit),mapBL_length,hk] at hx
    have outside : (mapBL (mvBB i d off) cs)[j]? = some x -> inCells d off k (.c d j) = false -> (∀ hj : True,(ovw as off (trS N i v).cells)[j]? = as[j]?) -> okV (ownAt s') s'.H.length x /\ ∃ a',(ovw as off (trS N i v).cells)[j]? = some a' /\ Le (trP N' (.c d j) x) a' := by
     intro hx hc hov;rw [mapBL_get] at hx;cases hc0 : cs[j]? with
     | none => rw [hc0] at hx; cases hx
     | some x0 =>
       rw [hc0] at hx;simp at hx;subst hx;obtain ⟨as2,g1,g2,g3⟩ := h.box d cs hb;rw [has] at g1; cases g1;obtain ⟨_,a',a1,a2⟩ := g3 j x0 hc0;have hb2 := bor1 (r := .c d j) (x := x0) (by rw [at_c hb]; exact hc0);refine ⟨hb2.2,a',by rw [hov trivial]; exact a1,?_⟩;rw [trP_mv (N := N) (r := .c d j) hβ hg (fun _ _ _ => by rw [hN,hu2 _ hc]) hb2.1];exact a2
    split at hx
    ·rename_i c1;exact outside hx (by simp [inCells]; omega) (fun _ => by rw [ovw_get (by rw [tc1,hk]; omega),if_pos c1])
    ·split at hx
     ·rename_i c1 c2;rw [mapBL_get] at hx;cases hc0 : v.cells[j - off]? with
      | none => rw [hc0] at hx; cases hx
      | some x0 =>
        rw [hc0] at hx;simp at hx;subst hx;have hb2 := bor1 (cellAt _ _ hc0);refine ⟨hb2.2,trP N (cellPl i v (j - off)) x0,?_,?_⟩
        ·rw [ovw_get (by rw [tc1,hk]; omega),if_neg c1,if_pos (by rw [tc1,hk]; exact c2),tc2 _ _ hc0];cases v <;> rfl
        ·rw [trP_mv (N := N) (r := cellPl i v (j - off)) hβ hg (fun _ _ _ => by rw [hN,hu1 j (by omega) c2]) hb2.1];exact Le.refl _
     ·rename_i c1 c2;exact outside hx (by simp [inCells]; omega) (fun _ => by rw [ovw_get (by rw [tc1,hk]; omega),if_neg c1,if_neg (by rw [tc1,hk]; exact c2)])
  ·rw [if_neg hd] at e;cases hbd : blk s.H d with
   | none => rw [hbd] at e; cases e
   | some ds0 =>
     rw [hbd] at e;simp at e;subst e;obtain ⟨as2,g1,g2,g3⟩ := h.box d ds0 hbd;refine ⟨as2,?_,by rw [mapBL_length]; exact g2,fun j x hx => ?_⟩
     ·rw [hβ,blk_set,if_neg]
      ·exact g1
      ·rintro ⟨e3,_⟩;exact hd (h.bi d b (by rw [hbd]; rfl) (by rw [hb]; rfl) e3)
     ·rw [mapBL_get] at hx;cases hc0 : ds0[j]? with
      | none => rw [hc0] at hx; cases hx
      | some x0 =>
        rw [hc0] at hx;simp at hx;subst hx;obtain ⟨_,a',a1,a2⟩ := g3 j x0 hc0;have hb2 := bor1 (r := .c d j) (x := x0) (by rw [at_c hbd]; exact hc0);refine ⟨hb2.2,a',a1,?_⟩;rw [trP_mv (N := N) (r := .c d j) hβ hg (fun _ _ _ => by rw [hN,hu2 _ (by simp [inCells,hd])]) hb2.1];exact a2
 ·rw [hN] at e3 e4;have := h.inj _ _ n (so e1) (so e2) e3 e4;rw [<- back p e1,this,back q e2]
 ·rw [hN,hβ] at e3;exact h.bx d _ (sb e1) (so e2) e3
 ·rw [hβ] at e3;exact h.bi d e (sb e1) (sb e2) e3
end
end Go.Bm

/- Stores. -/
namespace Go.Bm
open Go.Am
section
variable {P : Program} {X : Nat -> Prop} {φ φ' : Phi} {w w' : World} {N N' : Names} {s s' s1 : St} {Ha Ha' : Heap} {t t' : Nat -> Value} {B : Nat -> Nat} {base : Nat} {v va : AV} {v' : Value} {c : Cfg} {o : Oper} {a : Act} {kd : Kd}
theorem chk_st2 {op : Op} {k : Nat} {x y : E} (h : chkK P op (.st k x y) = true) : ∃ ty xo yo,op = .store ty xo yo /\ sizeIs P ty k = true /\ chkE xo x = true /\ chkE yo y = true := by
 unfold chkK at h;split at h <;> simp_all
 exact ⟨_,_,_,⟨rfl,rfl,rfl⟩,h.1.1,h.1.2,h.2⟩
theorem slot_leaf (h : Sim X φ w N s Ha t) {i : Nat} (hl : allLeaf (get s.env i).cells = true) : allLeaf (trS N i (get s.env i)).cells = true := by
 obtain ⟨h1,h2⟩ := trS_cells N i (get s.env i);refine allLeaf_of fun d hd => ?_;obtain ⟨j,hj⟩ := List.getElem?_of_mem hd;obtain ⟨x,hx⟩ := getElem?_some_of (l := (get s.env i).cells) (i := j) (by have := lt_of_getElem? hj; omega);rw [h2 j x hx] at hj;cases hj;have hxl := allLeaf_get hl x (List.mem_of_getElem? hx);have hok := okL_mem (ok_cells (h.oke i)) x (List.mem_of_getElem? hx);by_cases ho : ∃ k xs,x = .own k xs
 ·obtain ⟨k,xs,rfl⟩ := ho;simp only [trP,ownT];split <;> rfl
 ·have := leaf_tr h hxl hok;cases x <;> first | exact this | exact absurd ⟨_,_,rfl⟩ ho
theorem hasOwnL_get : ∀ {ds : List AV},hasOwnL ds = false -> ∀ x ∈ ds,∀ k xs,x ≠ .own k xs
 | [],_,x,hx => by simp at hx
 | y :: r,h,x,hx => by
   intro k xs e;subst e;obtain ⟨j,hj⟩ := List.getElem?_of_mem hx;exact hasOwnL_eo h j k xs hj
theorem range_none {b off k : Nat} {cs : List AV} (hb : blk s.H b = some cs) (ho : hasOwnL ((cs.drop off).take k) = false) {p : Rt} (hp : (ownAt s p).isSome) : inCells b off k p = false := by
 cases p with
 | s j => rfl
 | sc j l => rfl
 | c d j =>
   cases e : inCells b off k (.c d j) with
   | false => rfl
   | true =>
     simp only [inCells,Bool.and_eq_true,decide_eq_true_eq] at e;obtain ⟨rfl,h1,h2⟩ := e;obtain ⟨⟨k',xs⟩,e2⟩ := Option.isSome_iff_exists.1 hp;have e3 := ownAt_iff.1 e2;rw [at_c hb] at e3;refine absurd rfl (hasOwnL_get ho (.own k' xs) ?_ k' xs);refine List.mem_of_getElem? (i := j - off) ?_;rw [List.getElem?_take,if_pos (by omega),List.getElem?_drop,show off + (j - off) = j by omega];exact e3
theorem ok_stBox (hm : P.follows .mixedOrders = true) (h : SB X φ w B base s (tm a)) (hg : Am.GlOK (cAm c) X φ w) {k b off : Nat} {x y : E} {f : Fq} (hk : chkK P o.op (dnK (.st k x y)) = true) (hx0 : opnd c s.env x = .ptr b off) (hs : stBox s b off k (opnd c s.env y) = some (s',f)) : OkB P X φ w B base s' .undef o a := by
 obtain ⟨N,Ha,h,hbB,hbl⟩ := h;obtain ⟨ty,xo,yo,hop,hsz,c1,c2⟩ := chk_st2 hk;have hx := opnd_ok (c := c) (cA := cAm c) h rfl c1;have hy := opnd_ok (c := c) (cA := cAm c) h rfl c2;have he : ERel X φ w (trE N s.env) a.tmps := fun i => by rw [get_trE]; exact h.env i
 have rx := eval_rep (a := a) he hg c1;have ry := eval_rep (a := a) he hg c2;rw [hx.ev,hx0] at rx;rw [hy.evQ] at ry;simp only [trO,trV] at rx;have hpo : PutOK X φ w N.β s.H.length s (opnd c s.env y) (tm a) (a.eval yo) := PutOK.quiet h ⟨fun _ _ => rfl,Nat.le_refl _⟩ hy.ok hy.EO ry;generalize opnd c s.env y = v at *;unfold stBox at hs;split at hs
 case h_2 => cases hs
 rename_i cs hcs;split at hs
 case isFalse => cases hs
 rename_i hcond;obtain ⟨q1,q2,q3⟩ := hcond;have hblt := blk_lt hcs;split at hs
 ·split at hs
  case h_2 => cases hs
  rename_i hany;split at hs
  case h_2 => cases hs
  rename_i s2 hh;simp at hs;obtain ⟨rfl,_⟩ := hs;obtain ⟨φ1,hsb,ad1⟩ := SB.relB b k off (hpo.put HAND hany);generalize relB b off k ⟨put s.env HAND v,s.H⟩ = s1 at hh hsb;obtain ⟨N1,Ha1,sim1,hb1,hl1⟩ := hsb;have hL := leafMvB HAND b off;unfold handBox at hh;split at hh
  case h_2 => cases hh
  rename_i cs2 hcs2;split at hh
  case isFalse => cases hh
  rename_i hc2;obtain ⟨r1,r2,r3,r4⟩ := hc2;simp at hh;subst hh;simp only [mapSt,blk_mapH,get_mapE] at hcs2 r1 r2 r3 r4 ⊢;cases hcs1 : blk s1.H b with
  | none => rw [hcs1] at hcs2; cases hcs2
  | some cs1 =>
    rw [hcs1] at hcs2;simp at hcs2;subst hcs2;rw [mapB_cells hL] at r1 r4;rw [mapBL_length] at r1 r2
    have hlf : allLeaf (get s1.env HAND).cells = true := by
     refine allLeaf_of fun d hd => ?_;obtain ⟨j,hj⟩ := List.getElem?_of_mem hd;have := allLeaf_get r4 (mapB (mvBB HAND b off) d) (List.mem_of_getElem? (i := j) (by rw [mapBL_get,hj]; rfl));cases d <;> first | rfl | exact this
    have hno : hasOwnL ((cs1.drop off).take k) = false := by
     have key : ∀ {l : List AV},hasOwnL (mapBL (mvBB HAND b off) l) = false -> hasOwnL l = false := by
      intro l
      induction l with
      | nil => intro _; rfl
      | cons z r ih =>
        intro h;simp only [mapBL] at h;cases z <;> simp [mapB,mvBB,hasOwnL] at h ⊢ <;> exact ih h
     apply key
     have : (mapBL (mvBB HAND b off) cs1).drop off = mapBL (mvBB HAND b off) (cs1.drop off) := by
      apply List.ext_getElem?; intro j; rw [List.getElem?_drop,mapBL_get,mapBL_get,List.getElem?_drop]
     rw [this] at r3
     have h2 : (mapBL (mvBB HAND b off) (cs1.drop off)).take k = mapBL (mvBB HAND b off) ((cs1.drop off).take k) := by
      apply List.ext_getElem?; intro j; rw [List.getElem?_take,mapBL_get,mapBL_get,List.getElem?_take]; split <;> rfl
     rw [h2] at r3;exact r3
    obtain ⟨as,g1,g2,g3⟩ := sim1.box b cs1 hcs1;have hβ1 : N1.β b = N.β b := hb1 b hblt;refine OkB.ghost ad1 ?_;have hok := ok_st (P := P) hop sim1.heap g1 hsz (by rw [hβ1]; exact ad1.rep rx) (by have := sim1.env HAND; simp only [if_true] at this; exact this) (by rw [(trS_cells N1 HAND _).1]; exact r1) (by omega) (slot_leaf sim1 hlf);refine OkB.of hok fun v' w' φ' r hh ad => ?_
    obtain ⟨N',e1,sim2⟩ := sim1.toBox (i := HAND) (b := b) (off := off) (k := k) (s' := ⟨put (mapE (mvBB HAND b off) s1.env) HAND .any,(mapH (mvBB HAND b off) s1.H).set b (some (ovw (mapBL (mvBB HAND b off) cs1) off (mapB (mvBB HAND b off) (get s1.env HAND)).cells))⟩) (t' := tm a)
     hcs1 g1 r1 r2 (fun rr z hz p hp => range_none hcs1 hno (sim1.bor hz p hp)) ad hh (fun j => by simp only [get_put,get_mapE]) rfl (fun j hj => by simp [hj])
    refine PutOK.quiet sim2 ⟨fun d hd => ?_,?_⟩ trivial trivial r
    ·rw [e1,hb1 d (by omega)]; exact hbB d hd
    ·simp only [List.length_set,mapH_length]; omega
 ·rename_i hslow;simp at hs;obtain ⟨rfl,_⟩ := hs;obtain ⟨i,hi,_⟩ := get_fresh s.env [];obtain ⟨N1,Ha1,sim1,hb1,hl1⟩ := hpo.put i hi;have hio : hasOwn (get s.env i) = false := by rw [hi]; rfl
  obtain ⟨as,g1,g2,g3⟩ := sim1.box b cs hcs;have hβ1 : N1.β b = N.β b := hb1 b hblt;have gi : get (put s.env i v) i = v := by rw [get_put,if_pos rfl]
  have hlf : allLeaf (get (put s.env i v) i).cells = true := by rw [gi]; exact q3
  have mvid : ∀ {p},(ownAt s p).isSome -> mvRtB i b off p = p := by
   intro p hp;have := any_inSlot hio hp;cases p with
   | s j => simp only [inSlot,decide_eq_false_iff_not] at this; simp [mvRtB,this]
   | sc j l => simp only [inSlot,decide_eq_false_iff_not] at this; simp [mvRtB,this]
   | c d j => rfl
  have hok := ok_st (P := P) hop sim1.heap g1 hsz (by rw [hβ1]; exact rx) (by have := sim1.env i; simp only [if_true] at this; exact this) (by rw [(trS_cells N1 i _).1,gi]; exact q1) (by omega) (slot_leaf sim1 hlf);refine OkB.of hok fun v' w' φ' r hh ad => ?_
  have hnoC : ∀ r z,at_ ⟨put s.env i v,s.H⟩ r = some z -> ∀ p ∈ borOf z,inCells b off k p = false := by
   intro r z hz p hp;simp only [Bool.and_eq_true,not_and,Bool.not_eq_true] at hslow;cases hod : hasOwnL ((cs.drop off).take k) with
   | false => exact range_none (s := ⟨put s.env i v,s.H⟩) hcs hod (sim1.bor hz p hp)
   | true =>
     have hn := hslow hod;simp only [anyB,Bool.or_eq_false_iff] at hn;cases r with
     | s j =>
       simp only [at_,get_put,Option.some.injEq] at hz;subst hz;split at hp
       ·exact anyR_false hn.1 p hp
       ·exact anyE_false hn.2.1 j p hp
     | sc j l =>
       simp only [at_,get_put] at hz;split at hz
       ·rename_i ds hds;split at hds
        ·subst hds;exact anyR_false hn.1 p (by simp only [borOf]; exact borL_mem hz hp)
        ·exact anyE_false hn.2.1 j p (by rw [hds]; simp only [borOf]; exact borL_mem hz hp)
       ·cases hz
     | c d l =>
       simp only [at_] at hz;split at hz
       ·rename_i ds hds;exact anyH_false hn.2.2 d ds hds p (borL_mem hz hp)
       ·cases hz
  obtain ⟨N',e1,sim2⟩ := sim1.toBox (i := i) (b := b) (off := off) (k := k) (s' := ⟨s.env,s.H.set b (some (ovw cs off v.cells))⟩) (t' := tm a) hcs g1 (by rw [gi]; exact q1) q2 hnoC ad hh
   (fun j => by
    simp only [get_put];by_cases hj : j = i
    ·rw [if_pos hj,hj]; exact hi
    ·rw [if_neg hj,if_neg hj,mapB_id (mvBB_spec i b off) _ (fun p hp => mvid (h.bor (r := .s j) rfl p hp))])
   (by
    simp only [gi]
    rw [mapH_id (mvBB_spec i b off) s.H (fun d ds hd p hp => mvid (by
     obtain ⟨j,z,h1,h2⟩ := borL_ex hp;exact h.bor (r := .c d j) (by rw [at_c hd]; exact h1) p h2)),
     mapBL_id (mvBB_spec i b off) cs (fun p hp => mvid (by
     obtain ⟨j,z,h1,h2⟩ := borL_ex hp;exact h.bor (r := .c b j) (by rw [at_c hcs]; exact h1) p h2)),
     mapB_id (mvBB_spec i b off) v (fun p hp => mvid (ok_bor v hpo.ok p hp))])
   (fun j hj => by simp [hj])
  refine PutOK.quiet sim2 ⟨fun d hd => ?_,?_⟩ trivial trivial r
  ·rw [e1,hb1 d (by omega)]; exact hbB d hd
  ·simp only [List.length_set]; omega
end
end Go.Bm

/- Every operation that calls nothing. -/
namespace Go.Bm
open Go.Am
def isCallK : Kd -> Bool
 | .call _ _ => true
 | .callv _ _ => true
 | _ => false
section
variable {P : Program} {X : Nat -> Prop} {φ φ' : Phi} {w w' : World} {N N' : Names} {s s' s1 : St} {Ha Ha' : Heap} {t t' : Nat -> Value} {B : Nat -> Nat} {base : Nat} {v va : AV} {v' : Value} {c : Cfg} {o : Oper} {a : Act} {kd : Kd} {call : Nat -> List AV -> Heap -> Option (AV × Heap)}
theorem ok_clr0 (hm : P.follows .mixedOrders = true) (h : SB X φ w B base s (tm a)) (hg : Am.GlOK (cAm c) X φ w) {k : Nat} {zs : List AV} {x : E} (hk : chkK P o.op (dnK (.clr k zs x)) = true) (hx0 : (∃ k',opnd c s.env x = .own k' []) \/ ∃ k',opnd c s.env x = .list k' []) : OkB P X φ w B base s .undef o a := by
 obtain ⟨N,Ha,h,hb⟩ := h;obtain ⟨_,o1,h1⟩ := chk_clr hk;have hx := opnd_ok (c := c) (cA := cAm c) h rfl h1;refine OkB.of (am_op (va := .undef) (Ha' := Ha) hm h hg hk (fl := .wr Ha.length []) ?_) fun v' w' φ' r hh ad => ?_
 ·rcases hx0 with ⟨k',e⟩ | ⟨k',e⟩ <;> simp only [dnK,aOp,hx.ev,e,trO,trV]
 ·exact PutOK.quiet (h.adv ad hh h.own (fun _ _ => rfl)) hb trivial trivial r
theorem ok_aslb (hm : P.follows .mixedOrders = true) (h : SB X φ w B base s (tm a)) (hg : Am.GlOK (cAm c) X φ w) {n m b off : Nat} {x : E} {hi : Option E} {cs : List AV} (hk : chkK P o.op (dnK (.asl n x hi)) = true) (e1 : opnd c s.env x = .ptr b off) (hbd : bndB c s.env n n hi = some m) (hbk : blk s.H b = some cs) (hl : off + n <= cs.length) : OkB P X φ w B base s (.sl 1 b off m) o a := by
 obtain ⟨N,Ha,h,hb⟩ := h;obtain ⟨⟨o1,h1⟩,h2⟩ := chk_asl hk;have hx := opnd_ok (c := c) (cA := cAm c) h rfl h1;have g2 := bnd_tr (cA := cAm c) h rfl h2 hbd;obtain ⟨as,a1,a2,_⟩ := h.box b cs hbk;refine OkB.of (am_op (va := .sl 1 (N.β b) off m) (Ha' := Ha) hm h hg hk (fl := .rd (N.β b)) ?_) fun v' w' φ' r hh ad => ?_
 ·simp only [dnK,aOp,hx.ev,e1,trO,trV,g2,a1,a2];rw [if_pos hl]
 ·exact PutOK.quiet (h.adv ad hh h.own (fun _ _ => rfl)) hb (blk_lt hbk) trivial r
theorem flat_ovw {k off : Nat} {xs ys : List AV} (h1 : ∀ x ∈ xs,x.cells.length = k) (h2 : ∀ y ∈ ys,y.cells.length = k) : flatCells (ovw xs off ys) = ovw (flatCells xs) (off * k) (flatCells ys) := by
 unfold ovw;rw [flatCells_append,flatCells_append,flat_take h1,flat_drop h1,flat_len h2,Nat.add_mul]
theorem ok_copyB (hm : P.follows .mixedOrders = true) (h : SB X φ w B base s (tm a)) (hg : Am.GlOK (cAm c) X φ w) {k off n : Nat} {x y : E} (hk : chkK P o.op (dnK (.copy k x y)) = true) {p : Rt} {xs ys : List AV} (hx0 : opnd c s.env x = .bor k p off n) (hp : ownAt s p = some (k,xs)) (hle : off + n <= xs.length) (hn0 : n ≠ 0) (hy : cont s k (opnd c s.env y) = some ys) (hlf : allLeaf (flatCells ys) = true) : OkB P X φ w B base (setAt s p (.own k (ovw xs off (ys.take (min ys.length n))))) (.int .i64 (min ys.length n : Nat)) o a := by
 obtain ⟨N,Ha,h,hb⟩ := h;obtain ⟨⟨o1,h1⟩,o2,h2⟩ := chk_copy hk;have hx := opnd_ok (c := c) (cA := cAm c) h rfl h1;have hok := hx.ok;rw [hx0] at hok;obtain ⟨news,n1,n2,n3,n4,n5⟩ := cont_tr h hg h2 hy hlf;have hown := h.own p k xs hp;rcases bor_tr h hok with ⟨b,hn,e2⟩ | ⟨_,_,hlen0,_⟩
 case inr => exact absurd hlen0 hn0
 rw [hn] at hown;obtain ⟨cs,q1,q2,q3,q4⟩ := hown
 have hlk : off * k + n * k <= cs.length := by
  have := Nat.mul_le_mul_right k hle;rw [Nat.add_mul] at this; omega
 generalize hm2 : min ys.length n = m;have hm3 : m <= n /\ m <= ys.length := by omega
 have hmk : m * k <= n * k := Nat.mul_le_mul_right k hm3.1
 have hml : (news.take (m * k)).length = m * k := by
  rw [List.length_take,n2];have := Nat.mul_le_mul_right k hm3.2;omega
 have hty : ∀ z ∈ ys.take m,z.cells.length = k := fun z hz => n3 z (List.mem_of_mem_take hz);have hfl : flatCells (ys.take m) = (flatCells ys).take (m * k) := flat_take n3 m;have hyl : (ys.take m).length = m := by rw [List.length_take]; omega
 have hfl2 : (flatCells (ys.take m)).length = m * k := by rw [flat_len hty,hyl]
 have hxk : off * k + m * k <= (flatCells xs).length := by
  rw [flat_len q3];have := Nat.mul_le_mul_right k hle;rw [Nat.add_mul] at this; omega
 refine OkB.of (am_op (va := .int .i64 (m : Nat)) (Ha' := Ha.set b (some (ovw cs (off * k) (news.take (m * k))))) hm h hg hk (fl := .wr Ha.length [b]) ?_) fun v' w' φ' r hh ad => ?_
 ·simp only [dnK,aOp,n1,hx.ev,hx0,trO,e2,q1,hm2];rw [if_pos ⟨trivial,hlk,n4⟩]
 have hnew : OwnH (Ha.set b (some (ovw cs (off * k) (news.take (m * k))))) (some b) k (ovw xs off (ys.take m)) := by
  refine ⟨ovw cs (off * k) (news.take (m * k)),by rw [blk_set,if_pos ⟨rfl,blk_lt q1⟩],?_,?_,?_⟩
  ·rw [ovw_length (by rw [hyl]; omega),ovw_length (by rw [hml]; omega)]; exact q2
  ·intro z hz;unfold ovw at hz;simp only [List.mem_append] at hz;rcases hz with (hz | hz) | hz
   ·exact q3 z (List.mem_of_mem_take hz)
   ·exact hty z hz
   ·exact q3 z (List.mem_of_mem_drop hz)
  ·intro i d hd;rw [flat_ovw q3 hty,ovw_get (by rw [hfl2]; exact hxk),hfl2] at hd;rw [ovw_get (by rw [hml]; omega),hml];split
   ·rename_i hc; rw [if_pos hc] at hd; exact q4 i d hd
   ·rename_i hc;rw [if_neg hc] at hd;split
    ·rename_i hc2;rw [if_pos hc2,hfl,List.getElem?_take,if_pos (by omega)] at hd;obtain ⟨f1,e,f2,f3,f4⟩ := n5 _ d hd;exact ⟨f1,e,by rw [List.getElem?_take,if_pos (by omega)]; exact f2,f3,f4⟩
    ·rename_i hc2; rw [if_neg hc2] at hd; exact q4 i d hd
 obtain ⟨sim1,hsh⟩ := h.upd (xs' := ovw xs off (ys.take m)) hp hn (ovw_length (by rw [hyl]; omega)) ad hh hnew (fun m' hmn => by rw [blk_set,if_neg (fun e => hmn e.1)]);exact PutOK.quiet sim1 ⟨hb.1,by rw [hsh.len]; exact hb.2⟩ trivial trivial r
theorem ok_copy0 (hm : P.follows .mixedOrders = true) (h : SB X φ w B base s (tm a)) (hg : Am.GlOK (cAm c) X φ w) {k off : Nat} {x y : E} (hk : chkK P o.op (dnK (.copy k x y)) = true) {p : Rt} {ys : List AV} (hx0 : opnd c s.env x = .bor k p off 0) (hy : cont s k (opnd c s.env y) = some ys) (hlf : allLeaf (flatCells ys) = true) : OkB P X φ w B base s (.int .i64 0) o a := by
 obtain ⟨N,Ha,h,hb⟩ := h;obtain ⟨⟨o1,h1⟩,o2,h2⟩ := chk_copy hk;have hx := opnd_ok (c := c) (cA := cAm c) h rfl h1;have hok := hx.ok;rw [hx0] at hok;obtain ⟨news,n1,n2,n3,n4,n5⟩ := cont_tr h hg h2 hy hlf;rcases bor_tr h hok with ⟨b,hn,e2⟩ | ⟨_,_,_,e2⟩
 ·simp only [okV] at hok;obtain ⟨xs,hp,hle⟩ := hok;have hown := h.own p k xs hp;rw [hn] at hown;obtain ⟨cs,q1,q2,q3,q4⟩ := hown
  have hlk : off * k + 0 * k <= cs.length := by
   have := Nat.mul_le_mul_right k hle;rw [Nat.add_mul] at this; omega
  refine OkB.of (am_op (va := .int .i64 0) (Ha' := Ha) hm h hg hk (fl := .wr Ha.length [b]) ?_) fun v' w' φ' r hh ad => PutOK.quiet (h.adv ad hh h.own (fun _ _ => rfl)) hb trivial trivial r;have he : ovw cs (off * k) [] = cs := by unfold ovw; simp
  have hset : Ha.set b (some cs) = Ha := by
   apply List.ext_getElem?;intro i;rw [List.getElem?_set];split
   ·rename_i hbi; subst hbi; rw [if_pos (blk_lt q1)]; exact (blk_some q1).symm
   ·rfl
  simp only [dnK,aOp,n1,hx.ev,hx0,trO,e2,q1];rw [if_pos ⟨trivial,hlk,n4⟩];simp [he,hset]
 ·refine OkB.of (am_op (va := .int .i64 0) (Ha' := Ha) hm h hg hk (fl := .wr Ha.length []) ?_) fun v' w' φ' r hh ad => PutOK.quiet (h.adv ad hh h.own (fun _ _ => rfl)) hb trivial trivial r;simp only [dnK,aOp,n1,hx.ev,hx0,trO,e2]
theorem pure_kd {f : Fq} (h1 : isCallK kd = false) (h2 : opB c call s kd = some (v,s',f)) : (opP c s.env kd = some v /\ s' = s) \/ (∃ zs,kd = .new zs) \/ (∃ x,kd = .box x) \/ (∃ k n zs ps,kd = .bslice k n zs ps) \/ (∃ k zs l cp,kd = .mks k zs l cp) \/ (∃ ag x,kd = .ld ag x) \/ (∃ k x y,kd = .st k x y) \/ (∃ k zs x,kd = .clr k zs x) \/ (∃ k x y,kd = .app k x y) \/ (∃ n x hi,kd = .asl n x hi) \/ (∃ k x y,kd = .copy k x y) := by
 cases kd <;> simp only [opB] at h2 <;> first
  | (left
     split at h2
     ·rename_i u hu;simp only [Option.some.injEq,Prod.mk.injEq] at h2;obtain ⟨rfl,rfl,_⟩ := h2;exact ⟨hu,rfl⟩
     ·cases h2)
  | (right; simp; done)
  | (simp [isCallK] at h1; done)
theorem opB_ok (hm : P.follows .mixedOrders = true) (h : SB X φ w B base s (tm a)) (hg : Am.GlOK (cAm c) X φ w) {f : Fq} (hk : chkK P o.op (dnK kd) = true) (hnc : isCallK kd = false) (hs : opB c call s kd = some (v,s',f)) : OkB P X φ w B base s' v o a := by
 rcases pure_kd hnc hs with ⟨h1,rfl⟩ | ⟨zs,rfl⟩ | ⟨x,rfl⟩ | ⟨k,n,zs,ps,rfl⟩ | ⟨k,zs,l,cp,rfl⟩ | ⟨ag,x,rfl⟩ | ⟨k,x,y,rfl⟩ | ⟨k,zs,x,rfl⟩ | ⟨k,x,y,rfl⟩ | ⟨n,x,hi,rfl⟩ | ⟨k,x,y,rfl⟩
 ·exact ok_pure hm h hg hk h1
 ·simp only [opB,Option.some.injEq,Prod.mk.injEq] at hs;obtain ⟨rfl,rfl,_⟩ := hs;exact ok_new hm h hg hk
 ·simp only [opB] at hs;split at hs
  case isFalse => cases hs
  rename_i hl;simp only [Option.some.injEq,Prod.mk.injEq] at hs;obtain ⟨rfl,rfl,_⟩ := hs;exact ok_box' hm h hg hk hl
 ·simp only [opB] at hs;split at hs
  case h_2 => cases hs
  rename_i cs hf;split at hs
  case isFalse => cases hs
  rename_i hz;simp only [Option.some.injEq,Prod.mk.injEq] at hs;obtain ⟨rfl,rfl,_⟩ := hs;obtain ⟨φ1,h1,a1⟩ := SB.frzAll (partsBor c s.env ps) h;exact OkB.ghost a1 (ok_bslice' hm h1 (hg.adv a1) hk hf hz)
 ·simp only [opB] at hs;split at hs
  case h_2 => cases hs
  rename_i k1 l' k2 cp' e1 e2;split at hs
  case isFalse => cases hs
  rename_i hc;split at hs
  ·rename_i z hz;simp only [Option.some.injEq,Prod.mk.injEq] at hs;obtain ⟨rfl,rfl,_⟩ := hs;exact ok_mksb hm h hg hk hz e1 e2 hc
  ·simp only [Option.some.injEq,Prod.mk.injEq] at hs;obtain ⟨rfl,rfl,_⟩ := hs;exact ok_mks' hm h hg hk e1 e2 hc
 ·simp only [opB] at hs;split at hs
  case h_2 => cases hs
  rename_i u ps hp;split at hs
  case isFalse => cases hs
  simp only [Option.some.injEq,Prod.mk.injEq] at hs;obtain ⟨rfl,rfl,_⟩ := hs;exact ok_ld' hm h hg hk hp
 ·simp only [opB] at hs;split at hs
  ·rename_i k' p i off e0;split at hs
   case h_2 => cases hs
   rename_i s2 f2 h2;simp only [Option.some.injEq,Prod.mk.injEq] at hs;obtain ⟨rfl,rfl,_⟩ := hs;obtain ⟨φ1,h1,a1⟩ := SB.frzAll (borOf (opnd c s.env y)) h;refine OkB.ghost a1 ?_;generalize frzAll (borOf (opnd c s.env y)) s = s3 at h1 h2;unfold stB at h2;split at h2
   ·rename_i b off' e1;exact ok_stBox hm h1 (hg.adv a1) hk e1 h2
   ·rename_i k2 p2 i2 off2 e1;split at h2
    case h_2 => cases h2
    rename_i k3 xs hp;split at h2
    case isFalse => cases h2
    rename_i hkk;subst hkk;split at h2
    case h_2 => cases h2
    rename_i u hu;split at h2
    case isFalse => cases h2
    rename_i hc;simp only [Option.some.injEq,Prod.mk.injEq] at h2;obtain ⟨rfl,_⟩ := h2;exact ok_stP hm h1 (hg.adv a1) hk e1 hp hu hc.1 hc.2.1 hc.2.2
   ·cases h2
  ·rename_i hnp;split at hs
   case h_2 => cases hs
   rename_i s2 f2 h2;simp only [Option.some.injEq,Prod.mk.injEq] at hs;obtain ⟨rfl,rfl,_⟩ := hs;unfold stB at h2;split at h2
   ·rename_i b off' e1;exact ok_stBox hm h hg hk e1 h2
   ·rename_i k2 p2 i2 off2 e1;exact absurd e1 (hnp k2 p2 i2 off2)
   ·cases h2
 ·simp only [opB] at hs;split at hs
  ·rename_i k' e1;simp only [Option.some.injEq,Prod.mk.injEq] at hs;obtain ⟨rfl,rfl,_⟩ := hs;exact ok_clr0 hm h hg hk (.inl ⟨k',e1⟩)
  ·rename_i k' e1;simp only [Option.some.injEq,Prod.mk.injEq] at hs;obtain ⟨rfl,rfl,_⟩ := hs;exact ok_clr0 hm h hg hk (.inr ⟨k',e1⟩)
  ·cases hs
 ·simp only [opB] at hs;split at hs
  case h_2 => cases hs
  rename_i ys hy;split at hs
  case isFalse => cases hs
  rename_i hlf;split at hs
  ·rename_i k' e1;split at hs
   case isFalse => cases hs
   rename_i hl;simp only [Option.some.injEq,Prod.mk.injEq] at hs;obtain ⟨rfl,rfl,_⟩ := hs;exact ok_app0 hm h hg hk e1 hy hlf hl
  ·rename_i k' p len e1;split at hs
   case h_2 => cases hs
   rename_i k'' xs hp;split at hs
   case isFalse => cases hs
   rename_i hc;obtain ⟨rfl,rfl,hle,hl⟩ := hc;simp only [Option.some.injEq,Prod.mk.injEq] at hs;obtain ⟨rfl,rfl,_⟩ := hs;exact ok_app1 hm h hg hk e1 hp hle hy hlf hl
  ·cases hs
 ·simp only [opB] at hs;split at hs
  ·rename_i b off e1;split at hs
   case h_2 => cases hs
   rename_i m cs hbd hbk;split at hs
   case isFalse => cases hs
   rename_i hl;simp only [Option.some.injEq,Prod.mk.injEq] at hs;obtain ⟨rfl,rfl,_⟩ := hs;exact ok_aslb hm h hg hk e1 hbd hbk hl
  ·split at hs
   case h_2 => cases hs
   rename_i u hu;simp only [Option.some.injEq,Prod.mk.injEq] at hs;obtain ⟨rfl,rfl,_⟩ := hs;exact ok_pure hm h hg hk hu
 ·simp only [opB] at hs;split at hs
  case h_2 => cases hs
  rename_i k' p off n e1;split at hs
  ·rename_i hn;subst hn;split at hs
   case h_2 => cases hs
   rename_i ys hy;split at hs
   case isFalse => cases hs
   rename_i hc;obtain ⟨rfl,hl⟩ := hc;simp only [Option.some.injEq,Prod.mk.injEq] at hs;obtain ⟨rfl,rfl,_⟩ := hs;exact ok_copy0 hm h hg hk e1 hy hl
  ·rename_i hn;split at hs
   case h_2 => cases hs
   rename_i k'' xs ys hp hy;split at hs
   case isFalse => cases hs
   rename_i hc;obtain ⟨rfl,rfl,hle,hl⟩ := hc;simp only [Option.some.injEq,Prod.mk.injEq] at hs;obtain ⟨rfl,rfl,_⟩ := hs;exact ok_copyB hm h hg hk e1 hp hle hn hy hl
end
end Go.Bm

/- Calls: arguments by value. -/
namespace Go.Bm
open Go.Am
section
variable {P : Program} {X : Nat -> Prop} {φ φ' : Phi} {w w' : World} {N N' : Names} {s s' s1 : St} {Ha Ha' : Heap} {t t' : Nat -> Value} {B : Nat -> Nat} {base : Nat} {v va : AV} {v' : Value} {c : Cfg} {o : Oper} {a : Act} {kd : Kd} {call : Nat -> List AV -> Heap -> Option (AV × Heap)}
theorem block_list0 (h : HRel X φ w Ha) {n k : Nat} {xs : List AV} (ho : OwnH Ha (some n) k xs) {off len : Nat} (hle : off + len <= xs.length) {v : Value} (r : Rep (Rd X φ w) φ (.sl k n (off * k) len) v) :
  Rep (Rd X [] w) [] (.list k ((xs.drop off).take len)) v := by
 obtain ⟨g,sz,hφ,hX,hc⟩ := own_cells h ho;have hsub : ∀ a u,Rd X φ w a u -> Rd X [] w a u := fun a u ⟨h1,_,h3⟩ => ⟨h1,Owned.nil _,h3⟩;cases r with
 | sl _ _ _ _ _ a cap hb hcap hh =>
   obtain ⟨h1,h2⟩ := hh g sz hφ;by_cases h0 : len = 0
   ·subst h0;simp only [List.take_zero];exact .lst _ _ _ _ _ _ (fun _ _ => undef) rfl hcap (fun x hx => by simp at hx) (fun i j x c hx => by simp at hx) (fun i j x c hx => by simp at hx)
   ·have ha := h1 (by omega);subst ha
    have hx : ∀ (i : Nat) (x : AV),((xs.drop off).take len)[i]? = some x -> xs[off + i]? = some x /\ i < len := by
     intro i x hx;rw [List.getElem?_take] at hx;split at hx
     ·rw [List.getElem?_drop] at hx; exact ⟨hx,‹_›⟩
     ·cases hx
    obtain ⟨cs,q1,q2,hk,q4⟩ := ho;refine .lst _ _ _ _ _ _ (fun i j => (w.cell? ⟨g,(off + i) * k + j,none⟩).getD undef) (by simp; omega) hcap (fun x hm => ?_) (fun i j x c hi hj => ?_) (fun i j x c hi hj => ?_)
    ·exact hk x (List.mem_of_mem_drop (List.mem_of_mem_take hm))
    ·obtain ⟨u,u1,_,_⟩ := hc _ j x c (hx i x hi).1 hj;rw [u1,Addr.add_none,show off * k + (i * k + j) = (off + i) * k + j by rw [Nat.add_mul]; omega];exact ⟨hX,Owned.nil _,u1⟩
    ·obtain ⟨u,u1,_,u3⟩ := hc _ j x c (hx i x hi).1 hj;rw [u1];exact u3.mono hsub (.refl _)
mutual
theorem frzV_rep (h : Sim X φ w N s Ha t) : ∀ (x y : AV),frzV false s x = some y -> okV (ownAt s) s.H.length x -> (pl y = true /\ ∀ v,Rep (Rd X φ w) φ (trV N x) v -> Rep (Rd X [] w) [] y v)
 | .bor k p off len,y,hf,hk => by
   simp only [frzV] at hf;split at hf
   case h_2 => cases hf
   rename_i k' xs hp;split at hf
   case isFalse => cases hf
   rename_i hc;obtain ⟨rfl,hle⟩ := hc;simp at hf;subst hf;refine ⟨rfl,fun v r => ?_⟩;have hown := h.own p k' xs hp;rcases bor_tr h hk with ⟨n,hn,e2⟩ | ⟨hn,h0,h1,e2⟩
   ·rw [e2] at r;rw [hn] at hown;exact block_list0 h.heap hown hle r
   ·rw [e2] at r;subst h1;simp only [List.take_zero];cases r;exact .lst0 _ _
 | .agg cs,y,hf,hk => by
   simp only [frzV] at hf;split at hf
   case h_2 => cases hf
   rename_i ds hd;simp at hf;subst hf;simp only [okV] at hk;obtain ⟨h1,h2,h3⟩ := frzL_rep h cs ds hd hk;refine ⟨h1,fun v r => ?_⟩;simp only [trV] at r;cases r with
   | agg _ _ vs hl hh => exact .agg _ _ _ (by rw [h2,<- trL_length N cs]; exact hl) (fun i d u hd2 hu => h3 i d u hd2 (fun z hz => hh i z u hz hu))
 | .tup cs,y,hf,hk => by
   simp only [frzV] at hf;split at hf
   case h_2 => cases hf
   rename_i ds hd;simp at hf;subst hf;simp only [okV] at hk;obtain ⟨h1,h2,h3⟩ := frzL_rep h cs ds hd hk;refine ⟨h1,fun v r => ?_⟩;simp only [trV] at r;cases r with
   | tup _ _ vs hl hh => exact .tup _ _ _ (by rw [h2,<- trL_length N cs]; exact hl) (fun i d u hd2 hu => h3 i d u hd2 (fun z hz => hh i z u hz hu))
 | .func f a b,y,hf,hk => by
   simp only [frzV] at hf;split at hf
   case h_2 => cases hf
   rename_i a' b' ha hb;simp at hf;subst hf;simp only [okV] at hk;obtain ⟨h1,h2,h3⟩ := frzL_rep h a a' ha hk.1;obtain ⟨k1,k2,k3⟩ := frzL_rep h b b' hb hk.2;refine ⟨by simp only [pl,Bool.and_eq_true]; exact ⟨h1,k1⟩,fun v r => ?_⟩;simp only [trV] at r;cases r with
   | func _ _ _ va _ vb hla hlb hra hrb => exact .func _ _ _ _ _ _ (by rw [h2,<- trL_length N a]; exact hla) (by rw [k2,<- trL_length N b]; exact hlb) (fun i d u hd2 hu => h3 i d u hd2 (fun z hz => hra i z u hz hu)) (fun i d u hd2 hu => k3 i d u hd2 (fun z hz => hrb i z u hz hu))
 | .own _ _,y,hf,hk => by simp [frzV] at hf
 | .pto _ _ _ _,y,hf,hk => by simp [frzV] at hf
 | .ptr _ _,y,hf,hk => by simp [frzV] at hf
 | .sl _ _ _ _,y,hf,hk => by simp [frzV] at hf
 | .any,y,hf,hk => by simp [frzV] at hf
 | .undef,y,hf,hk => by simp [frzV] at hf; subst hf; exact ⟨rfl,fun v r => (r.of_plain rfl []).mono (fun a u ⟨h1,_,h3⟩ => ⟨h1,Owned.nil _,h3⟩) (.refl _)⟩
 | .nilp,y,hf,hk => by simp [frzV] at hf; subst hf; exact ⟨rfl,fun v r => (r.of_plain rfl []).mono (fun a u ⟨h1,_,h3⟩ => ⟨h1,Owned.nil _,h3⟩) (.refl _)⟩
 | .nilf,y,hf,hk => by simp [frzV] at hf; subst hf; exact ⟨rfl,fun v r => (r.of_plain rfl []).mono (fun a u ⟨h1,_,h3⟩ => ⟨h1,Owned.nil _,h3⟩) (.refl _)⟩
 | .nils,y,hf,hk => by simp [frzV] at hf; subst hf; exact ⟨rfl,fun v r => (r.of_plain rfl []).mono (fun a u ⟨h1,_,h3⟩ => ⟨h1,Owned.nil _,h3⟩) (.refl _)⟩
 | .int _ _,y,hf,hk => by simp [frzV] at hf; subst hf; exact ⟨rfl,fun v r => (r.of_plain rfl []).mono (fun a u ⟨h1,_,h3⟩ => ⟨h1,Owned.nil _,h3⟩) (.refl _)⟩
 | .bool _,y,hf,hk => by simp [frzV] at hf; subst hf; exact ⟨rfl,fun v r => (r.of_plain rfl []).mono (fun a u ⟨h1,_,h3⟩ => ⟨h1,Owned.nil _,h3⟩) (.refl _)⟩
 | .str _,y,hf,hk => by simp [frzV] at hf; subst hf; exact ⟨rfl,fun v r => (r.of_plain rfl []).mono (fun a u ⟨h1,_,h3⟩ => ⟨h1,Owned.nil _,h3⟩) (.refl _)⟩
 | .list _ _,y,hf,hk => by simp [frzV] at hf; subst hf; exact ⟨rfl,fun v r => (r.of_plain rfl []).mono (fun a u ⟨h1,_,h3⟩ => ⟨h1,Owned.nil _,h3⟩) (.refl _)⟩
 | .fptr _,y,hf,hk => by simp [frzV] at hf; subst hf; exact ⟨rfl,fun v r => (r.of_plain rfl []).mono (fun a u ⟨h1,_,h3⟩ => ⟨h1,Owned.nil _,h3⟩) (.refl _)⟩
theorem frzL_rep (h : Sim X φ w N s Ha t) : ∀ (xs ys : List AV),frzL false s xs = some ys -> okL (ownAt s) s.H.length xs -> (plL ys = true /\ ys.length = xs.length /\ ∀ (i : Nat) (y : AV) (v : Value),ys[i]? = some y -> (∀ z,(trL N xs)[i]? = some z -> Rep (Rd X φ w) φ z v) -> Rep (Rd X [] w) [] y v)
 | [],ys,hf,_ => by simp [frzL] at hf; subst hf; exact ⟨rfl,rfl,fun i y v hy => by simp at hy⟩
 | x :: r,ys,hf,hk => by
   simp only [frzL] at hf;split at hf
   case h_2 => cases hf
   rename_i y ys' h1 h2;simp at hf;subst hf;obtain ⟨a1,a2⟩ := frzV_rep h x y h1 hk.1;obtain ⟨b1,b2,b3⟩ := frzL_rep h r ys' h2 hk.2;refine ⟨by simp only [plL,Bool.and_eq_true]; exact ⟨a1,b1⟩,by simp [b2],fun i z v hz hv => ?_⟩;cases i with
   | zero => simp [trL] at hz hv; subst hz; exact a2 v hv
   | succ i => simp [trL] at hz hv; exact b3 i z v hz hv
end
theorem frzC_rep (h : Sim X φ w N s Ha t) {r : Rt} {x y : AV} (hx : at_ s r = some x) (hf : frzC x = some y) : (pl y = true /\ y.cells = [y]) /\ ∀ v,Rep (Rd X φ w) φ (trP N r x) v -> Rep (Rd X [] w) [] y v := by
 unfold frzC at hf;split at hf
 ·rename_i k xs;simp at hf;subst hf;refine ⟨⟨rfl,rfl⟩,fun v rv => ?_⟩;have hown := h.own r k xs (ownAt_iff.2 hx);simp only [trP,ownT] at rv;cases hn : N.ν r with
  | none =>
    rw [hn] at hown rv;have : xs = [] := hown;subst this;simp only at rv;cases rv;exact .lst0 _ _
  | some n =>
    rw [hn] at hown rv;have := block_list0 (off := 0) (len := xs.length) h.heap hown (by omega) (v := v) (by simpa using rv);simpa using this
 ·rename_i hno;split at hf
  case isFalse => cases hf
  rename_i hz;simp at hf;subst hf;obtain ⟨h1,h2⟩ := fz_pl hz;refine ⟨⟨h1,by cases x <;> first | rfl | (simp [AV.leaf] at h2; done)⟩,fun v rv => ?_⟩;have e : trP N r x = trV N x := by cases x <;> first | rfl | exact (hno _ _ rfl).elim
  rw [e,tr_pl N x h1] at rv;exact (rv.of_plain (pl_plain _ h1) []).mono (fun a u ⟨h1,_,h3⟩ => ⟨h1,Owned.nil _,h3⟩) (.refl _)
theorem frzCL_get : ∀ {cs ys : List AV},frzCL cs = some ys -> ys.length = cs.length /\ ∀ (i : Nat) (y : AV),ys[i]? = some y -> ∃ x,cs[i]? = some x /\ frzC x = some y
 | [],ys,h => by simp [frzCL] at h; subst h; exact ⟨rfl,fun i y hy => by simp at hy⟩
 | x :: r,ys,h => by
   simp only [frzCL] at h;split at h
   case h_2 => cases h
   rename_i y ys' h1 h2;simp at h;subst h;obtain ⟨k1,k2⟩ := frzCL_get h2;refine ⟨by simp [k1],fun i z hz => ?_⟩;cases i with
   | zero => simp at hz; subst hz; exact ⟨x,rfl,h1⟩
   | succ i => simp at hz; obtain ⟨u,u1,u2⟩ := k2 i z hz; exact ⟨u,by simpa using u1,u2⟩
theorem frzS_rep (h : Sim X φ w N s Ha t) {k b off len : Nat} {y : AV} (hf : frzS s k b off len = some y) : pl y = true /\ ∀ v,Rep (Rd X φ w) φ (trV N (.sl k b off len)) v -> Rep (Rd X [] w) [] y v := by
 unfold frzS at hf;split at hf
 case h_2 => cases hf
 rename_i cs hb;split at hf
 case isFalse => cases hf
 rename_i hc;obtain ⟨rfl,hle⟩ := hc;split at hf
 case h_2 => cases hf
 rename_i ys hy;simp at hf;subst hf;refine ⟨rfl,fun v r => ?_⟩;obtain ⟨as,a1,a2,a3⟩ := h.box b cs hb;obtain ⟨g,sz,arr,e,g1,g2,g3,g4,g5,g6⟩ := h.heap.at a1;obtain ⟨k1,k2⟩ := frzCL_get hy;have hyl : ys.length = len := by rw [k1,List.length_take,List.length_drop]; omega
 simp only [trV] at r;cases r with
 | sl _ _ _ _ _ a cap hb' hcap hh =>
   obtain ⟨h1,h2⟩ := hh g sz g1;by_cases h0 : len = 0
   ·subst h0;have : ys = [] := List.eq_nil_of_length_eq_zero hyl;subst this;exact .lst _ _ _ _ _ _ (fun _ _ => undef) rfl hcap (fun x hx => by simp at hx) (fun i j x c hx => by simp at hx) (fun i j x c hx => by simp at hx)
   ·have ha := h1 (by omega);subst ha
    have cell : ∀ (i : Nat) (y : AV),ys[i]? = some y -> (pl y = true /\ y.cells = [y]) /\ ∃ u,w.cell? ⟨g,off + i,none⟩ = some u /\ Rep (Rd X [] w) [] y u := by
     intro i y hi;obtain ⟨x,x1,x2⟩ := k2 i y hi
     have x3 : cs[off + i]? = some x := by
      rw [List.getElem?_take] at x1;split at x1
      ·rw [List.getElem?_drop] at x1; exact x1
      ·cases x1
     obtain ⟨_,a',b1,b2⟩ := a3 _ x x3;obtain ⟨u,u1,u2⟩ := g6 _ a' b1;obtain ⟨c1,c2⟩ := frzC_rep h (r := .c b (off + i)) (x := x) (by simp only [at_,hb]; exact x3) x2;exact ⟨c1,u,by rw [cell_of_heap g2]; exact u1,c2 u (b2 _ _ _ u2)⟩
    refine .lst _ _ _ _ _ _ (fun i j => (w.cell? ⟨g,off + i,none⟩).getD undef) hyl.symm hcap (fun x hm => ?_) (fun i j x c hi hj => ?_) (fun i j x c hi hj => ?_)
    ·obtain ⟨i,hi⟩ := List.getElem?_of_mem hm;rw [(cell i x hi).1.2]; rfl
    ·obtain ⟨⟨q1,q2⟩,u,u1,u2⟩ := cell i x hi;rw [q2] at hj;have hj0 : j = 0 := by have := lt_of_getElem? hj; simp at this; exact this
     subst hj0;rw [u1,Addr.add_none,show off + (i * 1 + 0) = off + i by omega];exact ⟨g5,Owned.nil _,u1⟩
    ·obtain ⟨⟨q1,q2⟩,u,u1,u2⟩ := cell i x hi;rw [q2] at hj;have hj0 : j = 0 := by have := lt_of_getElem? hj; simp at this; exact this
     subst hj0;simp at hj;subst hj;rw [u1];exact u2
mutual
theorem frzR_rep (h : Sim X φ w N s Ha t) : ∀ (x y : AV),frzR s x = some y -> okV (ownAt s) s.H.length x -> (pl y = true /\ ∀ v,Rep (Rd X φ w) φ (trV N x) v -> Rep (Rd X [] w) [] y v)
 | .sl k b off len,y,hf,_ => by simp only [frzR] at hf; exact frzS_rep h hf
 | .tup cs,y,hf,hk => by
   simp only [frzR] at hf;split at hf
   case h_2 => cases hf
   rename_i ds hd;simp at hf;subst hf;simp only [okV] at hk;obtain ⟨h1,h2,h3⟩ := frzRL_rep h cs ds hd hk;refine ⟨h1,fun v r => ?_⟩;simp only [trV] at r;cases r with
   | tup _ _ vs hl hh => exact .tup _ _ _ (by rw [h2,<- trL_length N cs]; exact hl) (fun i d u hd2 hu => h3 i d u hd2 (fun z hz => hh i z u hz hu))
 | .any,y,hf,hk => frzV_rep h _ y hf hk
 | .undef,y,hf,hk => frzV_rep h _ y hf hk
 | .nilp,y,hf,hk => frzV_rep h _ y hf hk
 | .nilf,y,hf,hk => frzV_rep h _ y hf hk
 | .nils,y,hf,hk => frzV_rep h _ y hf hk
 | .int _ _,y,hf,hk => frzV_rep h _ y hf hk
 | .bool _,y,hf,hk => frzV_rep h _ y hf hk
 | .str _,y,hf,hk => frzV_rep h _ y hf hk
 | .agg _,y,hf,hk => frzV_rep h _ y hf hk
 | .list _ _,y,hf,hk => frzV_rep h _ y hf hk
 | .fptr _,y,hf,hk => frzV_rep h _ y hf hk
 | .ptr _ _,y,hf,hk => frzV_rep h _ y hf hk
 | .func _ _ _,y,hf,hk => frzV_rep h _ y hf hk
 | .own _ _,y,hf,hk => frzV_rep h _ y hf hk
 | .bor _ _ _ _,y,hf,hk => frzV_rep h _ y hf hk
 | .pto _ _ _ _,y,hf,hk => frzV_rep h _ y hf hk
theorem frzRL_rep (h : Sim X φ w N s Ha t) : ∀ (xs ys : List AV),frzRL s xs = some ys -> okL (ownAt s) s.H.length xs -> (plL ys = true /\ ys.length = xs.length /\ ∀ (i : Nat) (y : AV) (v : Value),ys[i]? = some y -> (∀ z,(trL N xs)[i]? = some z -> Rep (Rd X φ w) φ z v) -> Rep (Rd X [] w) [] y v)
 | [],ys,hf,_ => by simp [frzRL] at hf; subst hf; exact ⟨rfl,rfl,fun i y v hy => by simp at hy⟩
 | x :: r,ys,hf,hk => by
   simp only [frzRL] at hf;split at hf
   case h_2 => cases hf
   rename_i y ys' h1 h2;simp at hf;subst hf;obtain ⟨a1,a2⟩ := frzR_rep h x y h1 hk.1;obtain ⟨b1,b2,b3⟩ := frzRL_rep h r ys' h2 hk.2;refine ⟨by simp only [plL,Bool.and_eq_true]; exact ⟨a1,b1⟩,by simp [b2],fun i z v hz hv => ?_⟩;cases i with
   | zero => simp [trL] at hz hv; subst hz; exact a2 v hv
   | succ i => simp [trL] at hz hv; exact b3 i z v hz hv
end
theorem frzA_rep (h : Sim X φ w N s Ha t) : ∀ (xs ys : List AV),frzA s xs = some ys -> okL (ownAt s) s.H.length xs -> (plL ys = true /\ ys.length = xs.length /\ ∀ (i : Nat) (y : AV) (v : Value),ys[i]? = some y -> (∀ z,(trOL N xs)[i]? = some z -> Rep (Rd X φ w) φ z v) -> Rep (Rd X [] w) [] y v)
 | [],ys,hf,_ => by simp [frzA] at hf; subst hf; exact ⟨rfl,rfl,fun i y v hy => by simp at hy⟩
 | x :: r,ys,hf,hk => by
   have gen : ∀ {y ys'},(pl y = true /\ ∀ v,Rep (Rd X φ w) φ (trV N x) v -> Rep (Rd X [] w) [] y v) -> frzA s r = some ys' -> (∀ k l,x ≠ .own k l) -> ys = y :: ys' -> (plL ys = true /\ ys.length = (x :: r).length /\ ∀ (i : Nat) (y : AV) (v : Value),ys[i]? = some y -> (∀ z,(trOL N (x :: r))[i]? = some z -> Rep (Rd X φ w) φ z v) -> Rep (Rd X [] w) [] y v) := by
    intro y ys' h1 h2 hn e;subst e;obtain ⟨a1,a2⟩ := h1;obtain ⟨b1,b2,b3⟩ := frzA_rep h r ys' h2 hk.2;have ex : trO N x = trV N x := by cases x <;> first | rfl | exact absurd rfl (hn _ _)
    refine ⟨by simp only [plL,Bool.and_eq_true]; exact ⟨a1,b1⟩,by simp [b2],fun i z v hz hv => ?_⟩;cases i with
    | zero => simp [trOL] at hz hv; subst hz; rw [ex] at hv; exact a2 v hv
    | succ i => simp [trOL] at hz hv; exact b3 i z v hz hv
   by_cases ho : ∃ k,x = .own k []
   ·obtain ⟨k,rfl⟩ := ho;simp only [frzA] at hf;split at hf
    case h_2 => cases hf
    rename_i ys' h2;simp at hf;subst hf;obtain ⟨b1,b2,b3⟩ := frzA_rep h r ys' h2 hk.2;refine ⟨by simp only [plL,pl,Bool.true_and]; exact b1,by simp [b2],fun i z v hz hv => ?_⟩;cases i with
    | zero =>
      simp [trOL,trO] at hz hv;subst hz;cases hv;exact .lst0 _ _
    | succ i => simp [trOL] at hz hv; exact b3 i z v hz hv
   ·have hn : ∀ k l,x ≠ .own k l := by
     rintro k l rfl;cases l with
     | nil => exact ho ⟨k,rfl⟩
     | cons z l => simp [frzA,frzV] at hf
    by_cases hsl : ∃ k b off len,x = .sl k b off len
    ·obtain ⟨k,b,off,len,rfl⟩ := hsl;simp only [frzA] at hf;split at hf
     case h_2 => cases hf
     rename_i y ys' h1 h2;simp at hf;exact gen (frzS_rep h h1) h2 hn hf.symm
    rw [frzA] at hf
    ·split at hf
     case h_2 => cases hf
     rename_i y ys' h1 h2;simp at hf;exact gen (frzV_rep h x y h1 hk.1) h2 hn hf.symm
    ·exact fun k e => ho ⟨k,e⟩
    ·exact fun k b off len e => hsl ⟨k,b,off,len,e⟩
end
end Go.Bm

/- Calls of functions that see no boxes. -/
namespace Go.Bm
open Go.Am
section
variable {P : Program} {X : Nat -> Prop} {φ φ' : Phi} {w w' : World} {N N' : Names} {s s' s1 : St} {Ha Ha' : Heap} {t t' : Nat -> Value} {B : Nat -> Nat} {base : Nat} {v va : AV} {v' : Value} {c : Cfg} {o : Oper} {a : Act} {kd : Kd} {call : Nat -> List AV -> Heap -> Option (AV × Heap)}
def RetB (X : Nat -> Prop) (φ : Phi) (w : World) (B : Nat -> Nat) (base : Nat) (r : AV) (H' : Heap) (e : Ending) (w' : World) : Prop :=
 ∃ v' φ',e = .returned v' /\ SB X φ' w' B base ⟨[(0,r)],H'⟩ (fun i => if i = 0 then v' else undef) /\ Adv φ w φ' w'
def CallOKB (P : Program) (c : Cfg) (call : Nat -> List AV -> Heap -> Option (AV × Heap)) : Prop :=
 ∀ f md q,c.fn f = some (md,q) -> ∀ args H r H',(md.sh = true \/ H = []) -> call f args H = some (r,H') -> (md.sh = true -> allB H' = true) -> ∀ X φ w B (vargs : Array Value),args.length = vargs.size -> SB X φ w B H.length ⟨mkEnv 0 args,H⟩ (fun i => vargs.getD i undef) -> Am.GlOK (cAm c) X φ w -> Calls P f vargs w (RetB X φ w B H.length r H')
theorem run_callFuncB (hok : CfgOKB P c) {f : Nat} {m : Md} {q : AFn} (hf : c.fn f = some (m,q)) (vargs : Array Value) : (callFunc f vargs).run P w = .ok (.enter f vargs) w := by
 obtain ⟨fn,h1,h2⟩ := hok.fn f m q hf;simp only [chkFB,Bool.and_eq_true,Bool.not_eq_true'] at h2;obtain ⟨⟨⟨_,hname⟩,_⟩,hbody⟩ := h2
 have hb : fn.body.isNone = false := by
  cases hfb : fn.body with
  | none => rw [hfb] at hbody; cases hbody
  | some b => rfl
 simp only [callFunc,Sem.run_bind,run_program,Result.andThen_ok,h1,hname,hb,Bool.false_eq_true,if_false,Sem.run_pure]
def Args (R : Addr -> Value -> Prop) (φ : Phi) (N : Names) (xs : List AV) (vs : Array Value) : Prop := xs.length = vs.size /\ ∀ (i : Nat) (x : AV) (v : Value),xs[i]? = some x -> vs[i]? = some v -> Rep R φ (trO N x) v
theorem Args.append {R : Addr -> Value -> Prop} {xs ys : List AV} {vs us : Array Value} (h : Args R φ N xs vs) (k : Args R φ N ys us) : Args R φ N (xs ++ ys) (vs ++ us) := by
 refine ⟨by simp [h.1,k.1],fun i x v hx hv => ?_⟩;by_cases hi : i < xs.length
 ·rw [List.getElem?_append_left hi] at hx;rw [Array.getElem?_append_left (by have := h.1; omega)] at hv;exact h.2 i x v hx hv
 ·rw [List.getElem?_append_right (by omega)] at hx;rw [Array.getElem?_append_right (by have := h.1; omega),<- h.1] at hv;exact k.2 _ x v hx hv
theorem chk_call {op : Op} {f : Nat} {ys : List E} (h : chkK P op (.call f ys) = true) : ∃ ca : Call,op = .call ca /\ ca.callee = .value (.func f) /\ chkEs ca.args.toList ys = true := by
 unfold chkK at h;split at h <;> simp_all
theorem chk_callv {op : Op} {y : E} {ys : List E} (h : chkK P op (.callv y ys) = true) : ∃ (ca : Call) (x : Operand),op = .call ca /\ ca.callee = .value x /\ chkE x y = true /\ chkEs ca.args.toList ys = true := by
 unfold chkK at h;split at h <;> simp_all
theorem enter_call0 (hok : CfgOKB P c) (h : Sim X φ w N s Ha (tm a)) (hg : Am.GlOK (cAm c) X φ w) (hk : chkK P o.op (dnK kd) = true) {f : Nat} {args : List AV} (ha : getArgs0 c s.env kd = some (f,args)) {md : Md} {q : AFn} (hf : c.fn f = some (md,q)) :
  ∃ vargs : Array Value,(execOp a.eval o).run P w = .ok (.enter f vargs) w /\ Args (Rd X φ w) φ N args vargs /\ okL (ownAt s) s.H.length args := by
 have he : ERel X φ w (trE N s.env) a.tmps := fun i => by rw [get_trE]; exact h.env i
 have evs_of : ∀ {os : Array Operand} {xs : List E},chkEs os.toList (dnEs xs) = true -> Args (Rd X φ w) φ N (opnds c s.env xs) (os.map a.eval) /\ okL (ownAt s) s.H.length (opnds c s.env xs) := by
  intro os xs hk;obtain ⟨e1,e2⟩ := opnds_ok (cA := cAm c) h rfl hk;obtain ⟨hl,hr⟩ := evals_rep (a := a) he hg hk;rw [e1,trOL_length] at hl;refine ⟨⟨by simpa using hl,fun i x v hx hv => ?_⟩,e2⟩;refine hr i (trO N x) v (by rw [e1,trOL_get,hx]; rfl) (by simpa using hv)
 cases kd <;> simp only [getArgs0,reduceCtorEq] at ha
 case call f' ys =>
  simp only [Option.some.injEq,Prod.mk.injEq] at ha;obtain ⟨rfl,rfl⟩ := ha;obtain ⟨ca,hop,hca,hargs⟩ := chk_call hk;obtain ⟨e1,e2⟩ := evs_of hargs;refine ⟨ca.args.map a.eval,?_,e1,e2⟩;simp only [execOp,hop,resolve,hca,Act.eval,Deferred.ofValue,invoke,Sem.run_bind,Sem.run_pure,Result.andThen_ok,Array.empty_append,Array.append_empty];exact run_callFuncB hok hf _
 case callv y ys =>
  obtain ⟨ca,x,hop,hca,hx,hargs⟩ := chk_callv hk;have ho := opnd_ok (c := c) (cA := cAm c) h rfl hx;have rx := eval_rep (a := a) he hg hx;rw [ho.ev] at rx;have hok' := ho.ok;cases e : opnd c s.env y <;> rw [e] at ha rx hok' <;> try (simp at ha; done)
  rename_i fn as bs;cases fn <;> simp only [reduceCtorEq] at ha
  rename_i f';split at ha
  ·cases ha
  rename_i hno;simp only [Bool.or_eq_true,not_or,Bool.not_eq_true] at hno;simp only [Option.some.injEq,Prod.mk.injEq] at ha;obtain ⟨rfl,rfl⟩ := ha;obtain ⟨e1,e2⟩ := evs_of hargs;simp only [trO,trV] at rx;simp only [okV] at hok';generalize hax : a.eval x = ax at rx;cases rx with
  | func _ _ _ va _ vb hla hlb hra hrb =>
    rw [trL_length] at hla hlb;have c1 : Args (Rd X φ w) φ N as va := ⟨hla,fun i x v hx hv => hra i _ v (by rw [<- trOL_trL N hno.1,trOL_get,hx]; rfl) hv⟩;have c3 : Args (Rd X φ w) φ N bs vb := ⟨hlb,fun i x v hx hv => hrb i _ v (by rw [<- trOL_trL N hno.2,trOL_get,hx]; rfl) hv⟩;refine ⟨va ++ ca.args.map a.eval ++ vb,?_,(c1.append e1).append c3,okL_append (okL_append hok'.1 e2) hok'.2⟩;simp only [execOp,hop,resolve,hca,hax,Deferred.ofValue,invoke,Sem.run_bind,Sem.run_pure,Result.andThen_ok];exact run_callFuncB hok hf _
mutual
theorem nob_rep {R : Addr -> Value -> Prop} {φ : Phi} (N : Names) : ∀ (x : AV) {v : Value},Rep R φ (trV N x) v -> Rep R φ (trV N (nob x)) v
 | .bor k p off n,v,r => by
   unfold nob;split
   ·rename_i h; subst h;simp only [trV] at r ⊢;split at r
    ·cases r with
     | sl _ _ _ _ _ a cap hb hc h => exact .lst _ _ _ _ _ _ (fun _ _ => undef) rfl hc (fun x hx => by simp at hx) (fun i j x c hx => by simp at hx) (fun i j x c hx => by simp at hx)
    ·cases r; exact .lst0 _ _
   ·exact r
 | .agg cs,v,r => by
   simp only [nob,trV] at r ⊢;cases r with
   | agg _ _ vs hl h =>
     obtain ⟨l1,l2⟩ := nobL_rep (R := R) (φ := φ) N cs;refine .agg _ _ _ (by rw [trL_length,l1,<- trL_length N cs]; exact hl) fun i c u hc hu => ?_;rw [trL_get] at hc;cases e : (nobL cs)[i]? with
     | none => rw [e] at hc; cases hc
     | some y =>
       rw [e] at hc;simp only [Option.map_some,Option.some.injEq] at hc;subst hc;obtain ⟨x,hx⟩ := getElem?_some_of (l := cs) (i := i) (by have := lt_of_getElem? e; omega);exact l2 i x y u hx e (h i _ u (by rw [trL_get,hx]; rfl) hu)
 | .any,v,r => r | .undef,v,r => r | .nilp,v,r => r | .nilf,v,r => r | .nils,v,r => r
 | .int _ _,v,r => r | .bool _,v,r => r | .str _,v,r => r | .tup _,v,r => r
 | .list _ _,v,r => r | .fptr _,v,r => r | .ptr _ _,v,r => r | .sl _ _ _ _,v,r => r
 | .func _ _ _,v,r => r | .own _ _,v,r => r | .pto _ _ _ _,v,r => r
theorem nobL_rep {R : Addr -> Value -> Prop} {φ : Phi} (N : Names) : ∀ (cs : List AV),(nobL cs).length = cs.length /\ ∀ (i : Nat) (x y : AV) (v : Value),cs[i]? = some x -> (nobL cs)[i]? = some y -> Rep R φ (trV N x) v -> Rep R φ (trV N y) v
 | [] => ⟨rfl,fun i x y v hx => by simp at hx⟩
 | c :: r => by
   obtain ⟨l1,l2⟩ := nobL_rep (R := R) (φ := φ) N r;refine ⟨by simp [nobL,l1],fun i x y v hx hy rr => ?_⟩;cases i with
   | zero => simp [nobL] at hx hy; subst hx; subst hy; exact nob_rep N c rr
   | succ i => exact l2 i x y v (by simpa using hx) (by simpa [nobL] using hy) rr
end
theorem nob_repO {R : Addr -> Value -> Prop} {φ : Phi} (N : Names) (x : AV) {v : Value} (r : Rep R φ (trO N x) v) : Rep R φ (trO N (nob x)) v := by
 by_cases h : ∃ k xs,x = .own k xs
 ·obtain ⟨k,xs,rfl⟩ := h;simpa [nob] using r
 ·have e1 : trO N x = trV N x := by cases x <;> first | rfl | exact absurd ⟨_,_,rfl⟩ h
  have e2 : trO N (nob x) = trV N (nob x) := by
   cases x <;> simp only [nob] <;> first | rfl | exact absurd ⟨_,_,rfl⟩ h | (split <;> rfl)
  rw [e2];rw [e1] at r;exact nob_rep N x r
mutual
theorem nob_ok {o : Rt -> Option (Nat × List AV)} {nb : Nat} : ∀ (x : AV),okV o nb x -> okV o nb (nob x)
 | .bor k p off n,h => by
   unfold nob;split
   ·trivial
   ·exact h
 | .agg cs,h => by
   simp only [nob,okV] at h ⊢;exact nobL_ok cs h
 | .any,h => h | .undef,h => h | .nilp,h => h | .nilf,h => h | .nils,h => h
 | .int _ _,h => h | .bool _,h => h | .str _,h => h | .tup _,h => h
 | .list _ _,h => h | .fptr _,h => h | .ptr _ _,h => h | .sl _ _ _ _,h => h
 | .func _ _ _,h => h | .own _ _,h => h | .pto _ _ _ _,h => h
theorem nobL_ok {o : Rt -> Option (Nat × List AV)} {nb : Nat} : ∀ (cs : List AV),okL o nb cs -> okL o nb (nobL cs)
 | [],_ => trivial
 | x :: r,h => ⟨nob_ok x h.1,nobL_ok r h.2⟩
end
theorem nobL_get : ∀ (cs : List AV) (i : Nat),(nobL cs)[i]? = (cs[i]?).map nob
 | [],i => by simp [nobL]
 | x :: r,i => by cases i <;> simp [nobL,nobL_get r]
theorem enter_call (hok : CfgOKB P c) (h : Sim X φ w N s Ha (tm a)) (hg : Am.GlOK (cAm c) X φ w) (hk : chkK P o.op (dnK kd) = true) {f : Nat} {args : List AV} (ha : getArgs c s.env kd = some (f,args)) {md : Md} {q : AFn} (hf : c.fn f = some (md,q)) :
  ∃ vargs : Array Value,(execOp a.eval o).run P w = .ok (.enter f vargs) w /\ Args (Rd X φ w) φ N args vargs /\ okL (ownAt s) s.H.length args := by
 unfold getArgs at ha;cases h0 : getArgs0 c s.env kd with
 | none => rw [h0] at ha; cases ha
 | some z =>
   obtain ⟨f0,args0⟩ := z;rw [h0] at ha;simp only [Option.some.injEq,Prod.mk.injEq] at ha;obtain ⟨rfl,rfl⟩ := ha;obtain ⟨vargs,h1,h2,h3⟩ := enter_call0 hok h hg hk h0 hf;refine ⟨vargs,h1,?_⟩;split
   ·refine ⟨⟨?_,fun i x v hx hv => ?_⟩,nobL_ok _ h3⟩
    ·have l1 := (nobL_rep (R := Rd X φ w) (φ := φ) N args0).1;rw [l1]; exact h2.1
    ·rw [nobL_get] at hx;cases e : args0[i]? with
     | none => rw [e] at hx; cases hx
     | some y =>
       rw [e] at hx;simp only [Option.map_some,Option.some.injEq] at hx;subst hx;exact nob_repO N y (h2.2 i y v e hv)
   ·exact ⟨h2,h3⟩
theorem trS_pl (N : Names) (i : Nat) {x : AV} (h : pl x = true) : trS N i x = x := by
 by_cases ha : ∃ cs,x = .agg cs
 ·obtain ⟨cs,rfl⟩ := ha;simp only [trS];simp only [pl] at h;congr 1;apply List.ext_getElem?;intro j;rw [trC_get];cases hc : cs[j]? with
  | none => rfl
  | some d =>
    simp only [Option.map_some]
    have hd : pl d = true := by
     have : ∀ {l : List AV},plL l = true -> ∀ z ∈ l,pl z = true := by
      intro l
      induction l with
      | nil => intro _ z hz; simp at hz
      | cons y r ih =>
        intro h z hz;simp only [plL,Bool.and_eq_true] at h;rcases List.mem_cons.1 hz with e | e
        ·subst e; exact h.1
        ·exact ih h.2 z e
     exact this h d (List.mem_of_getElem? hc)
    congr 1;cases d <;> first | exact tr_pl N _ hd | (simp [pl] at hd; done)
 ·have hn : NAgg x := fun cs e => ha ⟨cs,e⟩;cases x <;> first | exact tr_pl N _ h | exact absurd rfl (hn _) | (simp [pl] at h; done)
theorem pl_own {x : AV} (h : pl x = true) : hasOwn x = false := by
 cases x <;> first | rfl | (simp [pl] at h; done) | skip
 rename_i cs;simp only [pl] at h;simp only [hasOwn]
 induction cs with
 | nil => rfl
 | cons y r ih =>
   simp only [plL,Bool.and_eq_true] at h;have h1 := h.1;cases y <;> first | exact ih h.2 | (simp [pl] at h1; done)
theorem plL_get' : ∀ {l : List AV},plL l = true -> ∀ (i : Nat) (z : AV),l[i]? = some z -> pl z = true
 | [],_,i,z,hz => by simp at hz
 | y :: r,h,i,z,hz => by
   simp only [plL,Bool.and_eq_true] at h;cases i with
   | zero => simp at hz; subst hz; exact h.1
   | succ i => exact plL_get' h.2 i z (by simpa using hz)
theorem SB.start {args : List AV} {vargs : Array Value} (hx : ∀ g,X g -> g < w.heap.size) (hp : plL args = true) (hl : args.length = vargs.size) (hr : ∀ (i : Nat) (x : AV) (v : Value),args[i]? = some x -> vargs[i]? = some v -> Rep (Rd X [] w) [] x v) (B : Nat -> Nat) :
  SB X [] w B 0 ⟨mkEnv 0 args,[]⟩ (fun i => vargs.getD i undef) := by
 have hgi : ∀ i,get (mkEnv 0 args) i = args[i]?.getD .any := fun i => by rw [get_mkEnv]; simp
 have hpl : ∀ i,pl (get (mkEnv 0 args) i) = true := fun i => by
  rw [hgi];cases e : args[i]? with
  | none => rfl
  | some x => exact plL_get' hp i x e
 have hno : ∀ p,ownAt ⟨mkEnv 0 args,[]⟩ p = none := by
  intro p;cases p with
  | s i => exact (hasOwn_at (s := ⟨mkEnv 0 args,[]⟩) (pl_own (hpl i))).1
  | sc i j => exact (hasOwn_at (s := ⟨mkEnv 0 args,[]⟩) (pl_own (hpl i))).2 j
  | c b j => unfold ownAt; simp [at_,blk]
 refine ⟨⟨fun _ => 0,fun _ => none⟩,[],⟨fun i => ?_,fun i => ok_pl _ (hpl i),⟨rfl,hx,fun b cs hb => by simp at hb,fun b hb => by simp at hb,fun b b' g sz sz' h1 => by simp at h1⟩,fun p k xs e => ?_,fun b cs e => ?_,fun p q n e1 => ?_,fun b p e1 => ?_,fun b d e1 => ?_⟩,fun b hb => by omega,Nat.zero_le _⟩
 ·rw [trS_pl _ _ (hpl i),hgi];cases e : args[i]? with
  | none => exact .any _ _
  | some x =>
    obtain ⟨v,hv⟩ := agetElem?_some_of (l := vargs) (i := i) (by have := lt_of_getElem? e; omega);simp only [Option.getD_some];rw [Array.getD_eq_getD_getElem?,hv];exact hr i x v e hv
 ·rw [hno] at e; cases e
 ·simp [blk] at e
 ·rw [hno] at e1; cases e1
 ·simp [blk] at e1
 ·simp [blk] at e1
end
end Go.Bm

/- Calls of functions that see no boxes: what comes back. -/
namespace Go.Bm
open Go.Am
mutual
theorem clean_rep {R R' : Addr -> Value -> Prop} {φ φ' : Phi} {N N' : Names} : ∀ x,clean x = true -> ∀ v,Rep R φ (trV N x) v -> Rep R' φ' (trV N' x) v
 | .list k xs,h,v,r => by
   simp only [clean,List.isEmpty_iff] at h;subst h;simp only [trV] at r ⊢;cases r with
   | lst _ _ _ a n cap u hn hcap hk hu hh => subst hn; exact .lst _ _ _ _ _ _ u rfl hcap hk (fun i j x c hx => by simp at hx) (fun i j x c hx => by simp at hx)
   | lst0 => exact .lst0 _ _
 | .agg cs,h,v,r => by
   simp only [clean] at h;simp only [trV] at r ⊢;cases r with
   | agg _ _ vs hl hh => exact .agg _ _ _ (by rw [trL_length] at hl ⊢; exact hl) (fun i d u hd hu => clean_repL cs h i d u hd (fun z hz => hh i z u hz hu))
 | .tup cs,h,v,r => by
   simp only [clean] at h;simp only [trV] at r ⊢;cases r with
   | tup _ _ vs hl hh => exact .tup _ _ _ (by rw [trL_length] at hl ⊢; exact hl) (fun i d u hd hu => clean_repL cs h i d u hd (fun z hz => hh i z u hz hu))
 | .own _ _,_,v,_ => .any _ _
 | .fptr _,h,_,_ => by simp [clean] at h
 | .any,h,_,_ => by simp [clean] at h
 | .func _ _ _,h,_,_ => by simp [clean] at h
 | .bor _ _ _ _,h,_,_ => by simp [clean] at h
 | .pto _ _ _ _,h,_,_ => by simp [clean] at h
 | .ptr _ _,h,_,_ => by simp [clean] at h
 | .sl _ _ _ _,h,_,_ => by simp [clean] at h
 | .undef,_,v,r => by simp only [trV] at r ⊢; cases r; exact .undef _
 | .nilp,_,v,r => by simp only [trV] at r ⊢; cases r; exact .nilp _
 | .nilf,_,v,r => by simp only [trV] at r ⊢; cases r; exact .nilf _
 | .nils,_,v,r => by simp only [trV] at r ⊢; cases r; exact .nils _
 | .int _ _,_,v,r => by simp only [trV] at r ⊢; cases r; exact .int _ _ _
 | .bool _,_,v,r => by simp only [trV] at r ⊢; cases r; exact .bool _ _
 | .str _,_,v,r => by simp only [trV] at r ⊢; cases r; exact .str _ _
theorem clean_repL {R R' : Addr -> Value -> Prop} {φ φ' : Phi} {N N' : Names} : ∀ cs,cleanL cs = true -> ∀ (i : Nat) (d : AV) (u : Value),(trL N' cs)[i]? = some d -> (∀ z,(trL N cs)[i]? = some z -> Rep R φ z u) -> Rep R' φ' d u
 | [],_,i,d,u,h,_ => by simp [trL] at h
 | x :: r,hc,i,d,u,h,hz => by
   simp only [cleanL,Bool.and_eq_true] at hc;cases i with
   | zero => simp [trL] at h hz; subst h; exact clean_rep x hc.1 u hz
   | succ i => simp [trL] at h hz; exact clean_repL r hc.2 i d u h hz
end
mutual
theorem clean_ok {o : Rt -> Option (Nat × List AV)} {nb : Nat} : ∀ x,clean x = true -> okV o nb x
 | .list _ _,_ => trivial
 | .agg cs,h => by simp only [clean] at h; exact clean_okL cs h
 | .tup cs,h => by simp only [clean] at h; exact clean_okL cs h
 | .own _ _,_ => trivial
 | .fptr _,h => by simp [clean] at h
 | .any,h => by simp [clean] at h
 | .func _ _ _,h => by simp [clean] at h
 | .bor _ _ _ _,h => by simp [clean] at h
 | .pto _ _ _ _,h => by simp [clean] at h
 | .ptr _ _,h => by simp [clean] at h
 | .sl _ _ _ _,h => by simp [clean] at h
 | .undef,_ => trivial
 | .nilp,_ => trivial
 | .nilf,_ => trivial
 | .nils,_ => trivial
 | .int _ _,_ => trivial
 | .bool _,_ => trivial
 | .str _,_ => trivial
theorem clean_okL {o : Rt -> Option (Nat × List AV)} {nb : Nat} : ∀ cs,cleanL cs = true -> okL o nb cs
 | [],_ => trivial
 | x :: r,h => by simp only [cleanL,Bool.and_eq_true] at h; exact ⟨clean_ok x h.1,clean_okL r h.2⟩
end
theorem clean_cells {x : AV} (h : clean x = true) : ∀ d ∈ x.cells,clean d = true := by
 have all : ∀ {l : List AV},cleanL l = true -> ∀ z ∈ l,clean z = true := by
  intro l
  induction l with
  | nil => intro _ z hz; simp at hz
  | cons y r ih =>
    intro h z hz;simp only [cleanL,Bool.and_eq_true] at h;rcases List.mem_cons.1 hz with e | e
    ·subst e; exact h.1
    ·exact ih h.2 z e
 intro d hd;by_cases ha : ∃ cs,x = .agg cs
 ·obtain ⟨cs,rfl⟩ := ha;simp only [clean] at h;exact all h d hd
 ·have : x.cells = [x] := by cases x <;> first | rfl | exact absurd ⟨_,rfl⟩ ha
  rw [this] at hd;simp at hd;subst hd;exact h
theorem cleanL_mem {l : List AV} (h : cleanL l = true) : ∀ z ∈ l,clean z = true := by
 induction l with
 | nil => intro z hz; simp at hz
 | cons y r ih =>
   intro z hz;simp only [cleanL,Bool.and_eq_true] at h;rcases List.mem_cons.1 hz with e | e
   ·subst e; exact h.1
   ·exact ih h.2 z e
theorem trS_trV (N : Names) (i : Nat) {x : AV} (h : hasOwn x = false) : trS N i x = trV N x := by
 by_cases ha : ∃ cs,x = .agg cs
 ·obtain ⟨cs,rfl⟩ := ha;simp only [hasOwn] at h;simp only [trS,trV];congr 1;apply List.ext_getElem?;intro j;rw [trC_get,trL_get];cases hc : cs[j]? with
  | none => rfl
  | some d =>
    simp only [Option.map_some];congr 1;have := hasOwnL_get h d (List.mem_of_getElem? hc);cases d <;> first | rfl | exact absurd rfl (this _ _)
 ·cases x <;> first | rfl | exact absurd ⟨_,rfl⟩ ha | (simp [hasOwn] at h; done)
section
variable {P : Program} {X : Nat -> Prop} {φ φ1 φ' : Phi} {w w1 w' : World} {N N1 N' : Names} {s s' s1 : St} {Ha H1 Ha' : Heap} {t t1 t' : Nat -> Value} {B : Nat -> Nat} {base : Nat} {v va : AV} {v' : Value} {c : Cfg} {o : Oper} {a : Act} {kd : Kd} {call : Nat -> List AV -> Heap -> Option (AV × Heap)}
theorem adopt (h : Sim X φ w N s Ha t) (hb : (∀ b,b < base -> N.β b = B b) /\ base <= s.H.length) (ad : Adv [] w φ1 w1) {k : Nat} {xs : List AV} {H' : Heap} (h1 : Sim X φ1 w1 N1 ⟨[(0,.own k xs)],H'⟩ H1 t1) (hc : cleanL xs = true) :
  ∃ φ',PutOK X φ' w1 B base s (.own k xs) t (t1 0) /\ Adv φ w φ' w1 := by
 have ho1 : ownAt ⟨[(0,.own k xs)],H'⟩ (.s 0) = some (k,xs) := rfl;have hown := h1.own (.s 0) k xs ho1;have hr := h1.env 0;simp only [Am.get,if_true,trS,trP,ownT] at hr;cases hn : N1.ν (.s 0) with
 | none =>
   rw [hn] at hown hr;have hx : xs = [] := hown;subst hx;refine ⟨φ,PutOK.quiet (h.adv (.of_same ad) (h.heap.of_same ad) h.own (fun _ _ => rfl)) hb trivial (by simp [EO]) ?_,.of_same ad⟩;simp only at hr;simp only [trQ];generalize t1 0 = z at hr ⊢;cases hr;exact .nils _
 | some n1 =>
   rw [hn] at hown hr;simp only at hr;obtain ⟨g,sz,hφ,hX,hcell⟩ := own_cells h1.heap hown;obtain ⟨cs,c1,c2,c3,c4⟩ := hown;obtain ⟨g',sz',arr,e,f1,f2,f3,f4,f5,f6⟩ := h1.heap.at c1;rw [hφ] at f1;cases f1;have hgs : w.heap.size <= g := Nat.le_of_not_lt fun hlt => (ad.keep g hlt (Owned.nil g)).2 ⟨n1,sz,hφ⟩;have hfl := flat_len c3
   have adv : Adv φ w (φ ++ [some (g,sz)]) w1 := by
    refine ⟨ad.os,ad.tape,ad.output,ad.drawn,ad.size,fun g0 hlt hno => ⟨(ad.keep g0 hlt (Owned.nil g0)).1,fun ho => ?_⟩,⟨by simp,fun b p hb hp => by rwa [List.getElem?_append_left hb] at hp⟩⟩;rcases owned_append ho with h2 | h2
    ·exact hno h2
    ·simp at h2; omega
   have hh : HRel X (φ ++ [some (g,sz)]) w1 (Ha ++ [some (flatCells xs)]) := by
    refine ⟨by simp [h.heap.len],fun g0 hg0 => Nat.lt_of_lt_of_le (h.heap.xlt g0 hg0) ad.size,fun b ds hbd => ?_,fun b hbd => ?_,fun b b' g0 sz0 sz1 e1 e2 => ?_⟩
    ·by_cases hlt : b < Ha.length
     ·rw [List.getElem?_append_left hlt] at hbd;obtain ⟨g0,sz0,arr0,e0,p1,p2,p3,p4,p5,p6⟩ := h.heap.live b ds hbd;refine ⟨g0,sz0,arr0,e0,by rw [List.getElem?_append_left (by rw [h.heap.len]; exact hlt)]; exact p1,?_,p3,p4,p5,fun i d hd => ?_⟩
      ·rw [(ad.keep g0 (Array.getElem?_eq_some_iff.1 p2).1 (Owned.nil g0)).1]; exact p2
      ·obtain ⟨u,u1,u2⟩ := p6 i d hd;exact ⟨u,u1,adv.rep u2⟩
     ·have hbe : b = Ha.length := by have := lt_of_getElem? hbd; simp at this; omega
      subst hbe;simp at hbd;subst hbd;refine ⟨g,sz,arr,e,by rw [<- h.heap.len]; simp,f2,f3,by omega,hX,fun i d hd => ?_⟩;obtain ⟨i',z,j,z1,z2,z3⟩ := (flatCells_get c3).2 i d hd;obtain ⟨u,u1,u2,u3⟩ := hcell i' j z d z1 z2;refine ⟨u,by rw [cell_of_heap f2] at u1; rw [z3]; exact u1,?_⟩;have hcl := clean_cells (cleanL_mem hc z (List.mem_of_getElem? z1)) d (List.mem_of_getElem? z2);have hpl := (fz_pl u2).1;have := clean_rep (N := N) (N' := N) (R' := Rd X (φ ++ [some (g,sz)]) w1) (φ' := φ ++ [some (g,sz)]) d hcl u (by rw [tr_pl N _ hpl]; exact u3)
      rwa [tr_pl N _ hpl] at this
    ·by_cases hlt : b < Ha.length
     ·rw [List.getElem?_append_left hlt] at hbd;rw [List.getElem?_append_left (by rw [h.heap.len]; exact hlt)];exact h.heap.dead b hbd
     ·have hbe : b = Ha.length := by have := lt_of_getElem? hbd; simp at this; omega
      subst hbe;simp at hbd
    ·have new : ∀ (b g0 sz0 : Nat),(φ ++ [some (g,sz)])[b]? = some (some (g0,sz0)) -> (b < φ.length /\ φ[b]? = some (some (g0,sz0)) /\ g0 < w.heap.size) \/ (b = φ.length /\ g0 = g) := by
      intro b g0 sz0 hb;by_cases hlt : b < φ.length
      ·rw [List.getElem?_append_left hlt] at hb;exact .inl ⟨hlt,hb,(h.heap.own_lt ⟨b,sz0,hb⟩).1⟩
      ·have hb' := lt_of_getElem? hb;simp at hb';have hbe : b = φ.length := by omega
       subst hbe;simp at hb;exact .inr ⟨rfl,hb.1.symm⟩
     rcases new b g0 sz0 e1 with ⟨l1,q1,g1⟩ | ⟨l1,g1⟩ <;> rcases new b' g0 sz1 e2 with ⟨l2,q2,g2⟩ | ⟨l2,g2⟩
     ·exact h.heap.inj b b' g0 sz0 sz1 q1 q2
     ·omega
     ·omega
     ·omega
   refine ⟨φ ++ [some (g,sz)],fresh_ok h hb adv hh (by omega) c3 (fun i d hd => ?_) ?_,adv⟩
   ·obtain ⟨i',z,j,z1,z2,z3⟩ := (flatCells_get c3).2 i d hd;obtain ⟨u,u1,u2,u3⟩ := hcell i' j z d z1 z2;exact ⟨u2,d,hd,(fz_pl u2).2,Le.refl _⟩
   ·generalize t1 0 = z at hr;cases hr with
    | sl _ _ _ _ _ ad' cap hb' hcap hh' =>
      refine .sl _ _ _ _ _ _ _ (by simp [h.heap.len]) hcap fun g0 sz0 e0 => ?_;rw [<- h.heap.len] at e0;simp at e0;obtain ⟨rfl,rfl⟩ := e0;exact hh' g sz hφ
theorem gl_sub {X' : Nat -> Prop} (hg : Am.GlOK (cAm c) X φ w) (hx : ∀ g,X' g -> X g \/ Owned φ g) : Am.GlOK (cAm c) X' [] w := fun g => (hg g).mono (fun a u ⟨h1,h2,h3⟩ => ⟨fun h => (hx _ h).elim h1 h2,Owned.nil _,h3⟩) (.refl _)
theorem ok_call_cl (hok : CfgOKB P c) (hcall : CallOKB P c call) (h : SB X φ w B base s (tm a)) (hg : Am.GlOK (cAm c) X φ w) (hk : chkK P o.op (dnK kd) = true) {f : Nat} {args args' : List AV} (ha : getArgs c s.env kd = some (f,args)) {md : Md} {q : AFn} (hf : c.fn f = some (md,q)) (hsh : md.sh = false) (hz : frzA s args = some args') {r : AV} {H' : Heap} (hc : call f args' [] = some (r,H')) (hr : okRes r = true) : OkB P X φ w B base s r o a := by
 obtain ⟨N,Ha,h,hb⟩ := h;obtain ⟨vargs,hrun,hA,hokl⟩ := enter_call hok h hg hk ha hf;obtain ⟨z1,z2,z3⟩ := frzA_rep h args args' hz hokl
 have hsb := SB.start (X := X) (w := w) (args := args') (vargs := vargs) h.heap.xlt z1 (by rw [z2]; exact hA.1) (fun i x v hx hv => z3 i x v hx (fun z hz => by
  rw [trOL_get] at hz;cases hai : args[i]? with
  | none => rw [hai] at hz; cases hz
  | some y => rw [hai] at hz; simp at hz; subst hz; exact hA.2 i y v hai hv)) (fun _ => 0)
 have hcalls := hcall f md q hf args' [] r H' (.inr rfl) hc (fun e => by rw [hsh] at e; cases e) X [] w (fun _ => 0) vargs (by rw [z2]; exact hA.1) hsb (gl_sub hg fun g h => .inl h);intro K Q hK;unfold Oper.wp;rw [hrun,Oper.upon_enter];refine hcalls.mono ?_;rintro e w1 ⟨v',φ1,rfl,⟨N1,H1,sim1,_⟩,ad⟩;unfold okRes at hr;simp only [Bool.and_eq_true] at hr;by_cases ho : ∃ k xs,r = .own k xs
 ·obtain ⟨k,xs,rfl⟩ := ho;obtain ⟨φ',hp,ad'⟩ := adopt h hb ad sim1 (by simpa [clean] using hr.1);exact hK v' w1 φ' (by simpa using hp) ad'
 ·have hno : hasOwn r = false := by
   have := hr.2;cases r <;> first | exact absurd ⟨_,_,rfl⟩ ho | simpa using this
  refine hK v' w1 φ (PutOK.quiet (h.adv (.of_same ad) (h.heap.of_same ad) h.own (fun _ _ => rfl)) hb (clean_ok r hr.1) (hasOwn_eo hno) ?_) (.of_same ad);have r0 := sim1.env 0;simp only [Am.get,if_true] at r0;rw [trS_trV N1 0 hno] at r0;rw [trQ_trV N hno];exact clean_rep r hr.1 v' r0
theorem ok_call_pl (hok : CfgOKB P c) (hcall : CallOKB P c call) (h : SB X φ w B base s (tm a)) (hg : Am.GlOK (cAm c) X φ w) (hk : chkK P o.op (dnK kd) = true) {f : Nat} {args : List AV} (ha : getArgs c s.env kd = some (f,args)) {md : Md} {q : AFn} (hf : c.fn f = some (md,q)) (hsh : md.sh = false) (hz : plL (args.map nilL) = true) {r : AV} {H' : Heap} (hc : call f (args.map nilL) [] = some (r,H')) (hr : pl r = true) : OkB P X φ w B base s r o a := by
 obtain ⟨N,Ha,h,hb⟩ := h;obtain ⟨vargs,hrun,hA,hokl⟩ := enter_call hok h hg hk ha hf;have hsub : ∀ a u,Rd X φ w a u -> Rd (fun g => X g \/ Owned φ g) [] w a u := fun a u ⟨h1,h2,h3⟩ => ⟨fun h => h.elim h1 h2,Owned.nil _,h3⟩
 have hsb := SB.start (X := fun g => X g \/ Owned φ g) (w := w) (args := args.map nilL) (vargs := vargs) (fun g hg => hg.elim (h.heap.xlt g) (fun ho => (h.heap.own_lt ho).1)) hz (by simpa using hA.1) (fun i x v hx hv => by
  rw [List.getElem?_map] at hx;cases hai : args[i]? with
  | none => rw [hai] at hx; cases hx
  | some y =>
    rw [hai] at hx;simp at hx;subst hx;have r0 := hA.2 i y v hai hv;have hpy := plL_get' hz i (nilL y) (by rw [List.getElem?_map,hai]; rfl);by_cases ho : ∃ k,y = .own k []
    ·obtain ⟨k,rfl⟩ := ho;simp only [trO] at r0;cases r0;exact .lst0 _ _
    ·have hn : nilL y = y := by
      unfold nilL;split
      ·rename_i k; exact absurd ⟨k,rfl⟩ ho
      ·rfl
     rw [hn] at hpy ⊢;have hy : trO N y = y := by cases y <;> first | exact tr_pl N _ hpy | (simp [pl] at hpy; done)
     rw [hy] at r0;exact (r0.of_plain (pl_plain _ hpy) []).mono hsub (.refl _)) (fun _ => 0)
 have hcalls := hcall f md q hf (args.map nilL) [] r H' (.inr rfl) hc (fun e => by rw [hsh] at e; cases e) (fun g => X g \/ Owned φ g) [] w (fun _ => 0) vargs (by simpa using hA.1) hsb (gl_sub hg fun g h => h);intro K Q hK;unfold Oper.wp;rw [hrun,Oper.upon_enter];refine hcalls.mono ?_;rintro e w1 ⟨v',φ1,rfl,⟨N1,H1,sim1,_⟩,ad⟩;have hno := pl_own hr;refine hK v' w1 φ (PutOK.quiet (h.adv (.of_same ad) (h.heap.of_same ad) h.own (fun _ _ => rfl)) hb (ok_pl r hr) (hasOwn_eo hno) ?_) (.of_same ad);have r0 := sim1.env 0;simp only [Am.get,if_true] at r0;rw [trS_pl N1 0 hr] at r0;rw [trQ_trV N hno,tr_pl N _ hr];exact ((r0.of_plain (pl_plain _ hr) []).mono (fun a u ⟨h1,_,h3⟩ => ⟨fun h => h1 (.inl h),fun h => h1 (.inr h),h3⟩) (.refl _)).mono0 φ
end
end Go.Bm

/- Regions in the order of the text; their ends. -/
namespace Go.Bm
open Go.Am
section
variable {P : Program} {X : Nat -> Prop} {φ φ1 φ' : Phi} {w w1 w' : World} {N1 N' : Names} {s s' s1 : St} {B : Nat -> Nat} {base : Nat} {v va : AV} {v' : Value} {c : Cfg} {o : Oper} {a : Act} {kd : Kd} {call : Nat -> List AV -> Heap -> Option (AV × Heap)}
structure SRB (X : Nat -> Prop) (φ : Phi) (w : World) (B : Nat -> Nat) (base : Nat) (s : St) (a : Act) (N : Nat) : Prop where
 sb : SB X φ w B base s (tm a)
 defers : a.defers = []
 size : a.tmps.size = N
theorem tm_put {a : Act} {d : Option Nat} {v' : Value} (hd : ∀ i,d = some i -> i < a.tmps.size) (j : Nat) : tm (a.put d v') j = if some j = d then v' else tm a j := by
 cases d with
 | none => simp [tm,Act.put]
 | some i =>
   have hi := hd i rfl;simp only [tm,Act.put,Array.getD_eq_getD_getElem?];by_cases e : j = i
   ·subst e; simp [hi]
   ·simp [Array.getElem?_setIfInBounds_ne (Ne.symm e),e]
theorem SRB.put {N : Nat} (h : SRB X φ w B base s a N) (hN : N <= HAND) {d : Option Nat} (hd : ∀ i,d = some i -> i < N) (hp : PutOK X φ' w' B base s1 v (tm a) v') (hs : putdB s1 d v = some s') : ∃ φ'',SRB X φ'' w' B base s' (a.put d v') N /\ Adv φ' w' φ'' w' := by
 obtain ⟨φ'',h1,a1⟩ := putd_ok (t' := tm (a.put d v')) hp hs (fun e => by have := hd HAND e; omega) (fun j => tm_put (fun i hi => by rw [h.size]; exact hd i hi) j);obtain ⟨h2,h3⟩ := put_sz a d v';exact ⟨φ'',⟨h1,by rw [h3]; exact h.defers,by rw [h2]; exact h.size⟩,a1⟩
theorem PutOK.undef (h : SB X φ w B base s (tm a)) : PutOK X φ w B base s .undef (tm a) Go.undef := by
 obtain ⟨N,Ha,h,hb⟩ := h;exact PutOK.quiet h hb trivial trivial (.undef _)
theorem step_okB {N : Nat} {ops : Array Oper} {q : O} {fl : Fq} (hop : ∀ v s1 f,opB c call s q.kd = some (v,s1,f) -> OkB P X φ w B base s1 v o a) (hc : chkO P N ops o (dnOp q) = true) (hN : N <= HAND)
  (hs : stepB c call s q = some (s',fl)) (hr : SRB X φ w B base s a N) {K : Act -> World -> Prop} {Q : Exit -> Act -> World -> Prop} (hK : ∀ a' w' φ',SRB X φ' w' B base s' a' N -> Adv φ w φ' w' -> K a' w') :
  if Region.wanted o (yielded ops a.tmps) then o.wp P a w K Q \/ (o.asks P a w /\ LetsOut Q) else K (a.put o.dst Go.undef) w := by
 simp only [chkO,dnOp,Bool.and_eq_true,decide_eq_true_eq] at hc;obtain ⟨⟨⟨hdst0,hd⟩,hgd⟩,_⟩ := hc;have hdst : o.dst = q.dst := of_decide_eq_true hdst0
 have hd' : ∀ i,o.dst = some i -> i < N := by
  intro i hi;rw [<- hdst,hi] at hd;simpa using hd
 have run : ∀ {v s1 f fl'},opB c call s q.kd = some (v,s1,f) -> finO s.env q.dst v s1 f = some (s',fl') -> o.wp P a w K Q := by
  intro v s1 f fl' hv hf;unfold finO at hf;split at hf
  case h_2 => cases hf
  rename_i s2 hp;simp only [Option.some.injEq,Prod.mk.injEq] at hf;obtain ⟨rfl,_⟩ := hf;refine hop v s1 f hv K Q fun v' w' φ' hput ad => ?_;rw [<- hdst] at hp;obtain ⟨φ'',h1,a1⟩ := hr.put hN hd' hput hp;exact hK _ _ φ'' h1 (ad.trans a1)
 have no : ∀ {fl'},finO s.env q.dst .undef s .no = some (s',fl') -> K (a.put o.dst Go.undef) w := by
  intro fl' hf;unfold finO at hf;split at hf
  case h_2 => cases hf
  rename_i s2 hp;simp only [Option.some.injEq,Prod.mk.injEq] at hf;obtain ⟨rfl,_⟩ := hf;rw [<- hdst] at hp;obtain ⟨φ'',h1,a1⟩ := hr.put hN hd' (PutOK.undef hr.sb) hp;exact hK _ _ φ'' h1 a1
 have hslot : ∀ (g : Nat),∃ N1 Ha,Rep (Rd X φ w) φ (trS N1 g (get s.env g)) (tm a g) /\ Sim X φ w N1 s Ha (tm a) := fun g => by
  obtain ⟨N1,Ha,h,_⟩ := hr.sb;exact ⟨N1,Ha,h.env g,h⟩
 unfold stepB at hs;split at hs
 ·rename_i hgn;rw [hgn] at hgd;split at hgd
  ·rename_i h1 _;rw [if_pos (by simp [Region.wanted,h1])];split at hs
   ·rename_i v s1 f hv;exact .inl (run hv hs)
   ·cases hs
  ·rename_i h2; simp at h2
  ·cases hgd
 ·rename_i g want hgn;rw [hgn] at hgd;split at hgd
  ·rename_i h2; simp at h2
  ·rename_i j want' g' want'' h1 h2;simp only [Bool.and_eq_true,decide_eq_true_eq] at hgd;obtain ⟨hj,rfl⟩ := hgd;simp at h2;obtain ⟨rfl,rfl⟩ := h2;obtain ⟨N1,Ha,hrep,_⟩ := hslot g;split at hs
   ·rename_i b hb;rw [hb] at hrep;simp only [trS,trP,trV] at hrep;have hv := rep_bool hrep;have hy : yielded ops a.tmps j = some b := by unfold yielded; rw [hj]; simp only [Option.bind_some]; rw [getD_bool hv]
    by_cases hbw : b = want
    ·subst hbw;rw [if_pos (by simp [Region.wanted,h1,hy])];simp only [if_true] at hs;split at hs
     ·rename_i v s1 f hv;exact .inl (run hv hs)
     ·cases hs
    ·rw [if_neg (by simp [Region.wanted,h1,hy,hbw])];rw [if_neg hbw] at hs;exact no hs
   ·rename_i hb;rw [hb] at hrep;simp only [trS,trP,trV] at hrep;generalize hv : tm a g = vg at hrep;cases hrep
    have hy : yielded ops a.tmps j = none := by
     unfold yielded;rw [hj];simp only [Option.bind_some];rcases getD_undef hv with h | h <;> rw [h]
    rw [if_neg (by simp [Region.wanted,h1,hy])];exact no hs
   ·cases hs
  ·cases hgd
def OpsOK (P : Program) (c : Cfg) (call : Nat -> List AV -> Heap -> Option (AV × Heap)) : Prop :=
 ∀ X φ w B base s o a kd v s1 f,chkK P o.op (dnK kd) = true -> opB c call s kd = some (v,s1,f) -> SB X φ w B base s (tm a) -> Am.GlOK (cAm c) X φ w -> OkB P X φ w B base s1 v o a
theorem ops_okB (hops : OpsOK P c call) {N : Nat} (hN : N <= HAND) {ops : Array Oper} {Q : Exit -> Act -> World -> Prop} : ∀ (l : List Oper) (qs : List O) (k : Nat) (s s' : St) (fls : List Fq) (a : Act) (w : World) (φ : Phi),
  (∀ j,l[j]? = ops[k + j]?) -> chkOsB P N ops l qs = true -> opsB c call qs s = some (s',fls) -> SRB X φ w B base s a N -> Am.GlOK (cAm c) X φ w -> (∀ a' w' φ',SRB X φ' w' B base s' a' N -> Adv φ w φ' w' -> Q .normal a' w') ->
  wpOps P ops Q (List.range' k l.length) a w
 | [],qs,k,s,s',fls,a,w,φ,_,hc,hs,hr,hg,hQ => by
   cases qs with
   | nil =>
     simp [opsB] at hs;obtain ⟨rfl,rfl⟩ := hs;exact hQ a w φ hr (.refl _ _)
   | cons q r => simp [chkOsB] at hc
 | o :: l,qs,k,s,s',fls,a,w,φ,hl,hc,hs,hr,hg,hQ => by
   cases qs with
   | nil => simp [chkOsB] at hc
   | cons q r =>
     simp only [chkOsB,Bool.and_eq_true] at hc;simp only [opsB] at hs;split at hs
     case h_2 => cases hs
     rename_i s1 fl1 h1;split at hs
     case h_2 => cases hs
     rename_i s2 fl2 h2;simp at hs;obtain ⟨rfl,rfl⟩ := hs;have h0 : ops[k]? = some o := by simpa using (hl 0).symm
     rw [List.length_cons,List.range'_succ,wpOps_cons];unfold wpOp;rw [h0]
     have hck : chkK P o.op (dnK q.kd) = true := by
      have := hc.1;simp only [chkO,dnOp,Bool.and_eq_true] at this;exact this.2
     refine step_okB (fun v s1 f hv => hops X φ w B base s o a q.kd v s1 f hck hv hr.sb hg) hc.1 hN h1 hr fun a' w' φ' hr' k' => ?_;exact ops_okB hops hN l r (k + 1) s1 s2 fl2 a' w' φ' (fun j => by have := hl (j + 1); simpa [Nat.add_assoc,Nat.add_comm 1 j] using this) hc.2 h2 hr' (hg.adv k') fun a'' w'' φ'' h'' k'' => hQ a'' w'' φ'' h'' (k'.trans k'')
theorem hasOwnE_get {keep : List Nat} : ∀ {e : Env},hasOwnE keep e = false -> ∀ i,mem i keep = false -> hasOwn (get e i) = false
 | [],_,i,_ => rfl
 | (j,v) :: r,h,i,hi => by
   simp only [hasOwnE,Bool.or_eq_false_iff] at h;simp only [Am.get];split
   ·rename_i e;subst e;rw [hi] at h;simpa using h.1
   ·exact hasOwnE_get h.2 i hi
theorem get_keepIn' (keep : List Nat) : ∀ (env : Env) (i : Nat),get (keepIn keep env) i = if mem i keep = true then get env i else .any
 | [],i => by simp [keepIn,Am.get]
 | (j,u) :: r,i => by
   have ih := get_keepIn' keep r i;unfold keepIn;split
   ·rename_i hm;simp only [Am.get];by_cases e : i = j
    ·subst e; simp [hm]
    ·rw [if_neg e,if_neg e]; exact ih
   ·rename_i hm;rw [ih];simp only [Am.get];by_cases e : i = j
    ·subst e; simp [hm]
    ·rw [if_neg e]
theorem endK_ok {t : Nat -> Value} (h : SB X φ w B base s t) {keep : List Nat} (ho : hasOwnE keep s.env = false) : SB X φ w B base (endK base keep s) t := by
 obtain ⟨N,Ha,h,hb,hl⟩ := h
 have h1 : Sim X φ w N ⟨keepIn keep s.env,s.H⟩ Ha t := h.keep (fun i => by
  rw [get_keepIn'];cases hm : mem i keep with
  | true => exact .inl (by simp)
  | false => exact .inr ⟨by simp,hasOwnE_get ho i hm⟩) rfl
 refine ⟨N,Ha,h1.trim (base0 := base) s.H.length,hb,?_⟩
 have len : ∀ (n : Nat) (H : Heap),base <= H.length -> base <= (trim base (keepIn keep s.env) n H).length := by
  intro n
  induction n with
  | zero => intro H h; exact h
  | succ n ih =>
    intro H h;simp only [trim];split
    ·rename_i hc;exact ih _ (by simp; omega)
    ·exact h
 exact len _ _ hl
theorem endR_ok {t : Nat -> Value} (h : SB X φ w B base s t) {keep : List Nat} (he : endR base keep s = some s') : ∃ φ',SB X φ' w B base s' t /\ Adv φ w φ' w := by
 unfold endR at he;split at he
 ·split at he
  ·cases he
  rename_i ho;simp at he ho;subst he;obtain ⟨φ1,h1,a1⟩ := SB.dropAll keep s.env h;exact ⟨φ1,endK_ok h1 ho,a1⟩
 ·rename_i ho;simp at he ho;subst he;exact ⟨φ,endK_ok h ho,.refl _ _⟩
end
end Go.Bm

/- A run of the compact code by value is a run of the dump's code. -/
namespace Go.Bm
open Go.Am
section
variable {P : Program} {c : Cfg}
def DrawOK (P : Program) (c : Cfg) (call : Nat -> List AV -> Heap -> Option (AV × Heap)) : Prop :=
 ∀ X φ w B base s s' fls a N id ops os un (Q : Exit -> Act -> World -> Prop),N <= HAND -> chkOsB P N ops ops.toList os = true -> chkOrderB un [] [] ops.toList os = true -> opsB c call os s = some (s',fls) -> drawB os fls un = true -> SRB X φ w B base s a N -> Am.GlOK (cAm c) X φ w ->
  (∀ a' w' φ',SRB X φ' w' B base s' a' N -> Adv φ w φ' w' -> Q .normal a' w') -> (Code.region id ops true).wp P Q a w
def SndB (P : Program) (c : Cfg) (n : Nat) : Prop := ∀ (N base : Nat) (code : Code) (cd : C) (s s' : St) (e : Ex),N <= HAND -> chkB P N code cd = true -> codeB c n base cd s = some (e,s') -> ∀ X φ w B a,SRB X φ w B base s a N -> Am.GlOK (cAm c) X φ w ->
 ∀ Q : Exit -> Act -> World -> Prop,(∀ a' w' φ',SRB X φ' w' B base s' a' N -> Adv φ w φ' w' -> Q e.to a' w') -> code.wp P Q a w
theorem snd_allB (H1 : ∀ call,CallOKB P c call -> OpsOK P c call) (H2 : ∀ call,CallOKB P c call -> DrawOK P c call) (H3 : ∀ n,SndB P c n -> CallOKB P c (callW c (codeB c n))) : ∀ n,SndB P c n
 | 0 => fun N base code cd s s' e _ _ h => by simp [codeB] at h
 | n + 1 => by
   have ih := snd_allB H1 H2 H3 n;have hcall := H3 n ih;intro N base code cd s s' e hN hc h X φ w B a hr hg Q hQ;unfold chkB at hc;split at hc
   case h_1 => simp [codeB] at h; obtain ⟨rfl,rfl⟩ := h; exact wp_skip (hQ a w φ hr (.refl _ _))
   case h_2 => simp [codeB] at h; obtain ⟨rfl,rfl⟩ := h; exact wp_ret (hQ a w φ hr (.refl _ _))
   case h_3 =>
    simp only [decide_eq_true_eq] at hc;subst hc;simp [codeB] at h; obtain ⟨rfl,rfl⟩ := h; exact wp_exit (hQ a w φ hr (.refl _ _))
   case h_4 =>
    rename_i id ops d os dr un keep;simp only [Bool.and_eq_true,decide_eq_true_eq] at hc;obtain ⟨⟨rfl,hcs⟩,ho⟩ := hc;simp only [codeB] at h;split at h
    case h_2 => cases h
    rename_i s1 fls hs;split at h
    case isFalse => cases h
    rename_i hd;split at h
    case h_2 => cases h
    rename_i s2 he;simp at h;obtain ⟨rfl,rfl⟩ := h
    have hQ' : ∀ a' w' φ',SRB X φ' w' B base s1 a' N -> Adv φ w φ' w' -> Q .normal a' w' := fun a' w' φ' h k => by
     obtain ⟨φ'',h2,a2⟩ := endR_ok h.sb he;exact hQ a' w' φ'' ⟨h2,h.defers,h.size⟩ (k.trans a2)
    cases d with
    | false =>
      refine wp_region ?_;rw [List.range_eq_range',<- Array.length_toList];exact ops_okB (H1 _ hcall) hN ops.toList os 0 s s1 fls a w φ (fun j => by simp) hcs hs hr hg hQ'
    | true =>
      simp at ho;exact H2 _ hcall X φ w B base s s1 fls a N id ops os un Q hN hcs ho hs (by simpa using hd) hr hg hQ'
   case h_5 =>
    rename_i x y cx cy;simp only [Bool.and_eq_true] at hc;simp only [codeB] at h;refine wp_seq ?_;cases h1 : codeB c n base cx s with
    | none => rw [h1] at h; cases h
    | some p =>
      obtain ⟨e1,s1⟩ := p;rw [h1] at h;cases e1 with
      | normal =>
        simp only at h;exact ih N base x cx s s1 .normal hN hc.1 h1 X φ w B a hr hg _ fun a' w' φ' hr' k => ih N base y cy s1 s' e hN hc.2 h X φ' w' B a' hr' (hg.adv k) Q fun a'' w'' φ'' hr'' k'' => hQ a'' w'' φ'' hr'' (k.trans k'')
      | exit id => simp at h; obtain ⟨rfl,rfl⟩ := h; exact ih N base x cx s s1 _ hN hc.1 h1 X φ w B a hr hg _ fun a' w' φ' hr' k => hQ a' w' φ' hr' k
      | ret => simp at h; obtain ⟨rfl,rfl⟩ := h; exact ih N base x cx s s1 _ hN hc.1 h1 X φ w B a hr hg _ fun a' w' φ' hr' k => hQ a' w' φ' hr' k
   case h_6 =>
    rename_i x ca cb y da db;simp only [Bool.and_eq_true] at hc;simp only [codeB] at h;split at h
    case h_2 => cases h
    rename_i t ht
    have r : a.eval x = .bool t := by
     obtain ⟨N1,Ha,hsim,_⟩ := hr.sb;have ho := opnd_ok (c := c) (cA := cAm c) hsim rfl hc.1.1;have := eval_rep (c := cAm c) (env := trE N1 s.env) (a := a) (fun i => by rw [get_trE]; exact hsim.env i) hg hc.1.1;rw [ho.ev,ht] at this;exact rep_bool this
    refine wp_cond (t := t) r ?_;cases t with
    | true => simp at h ⊢; exact ih N base ca da s s' e hN hc.1.2 h X φ w B a hr hg Q hQ
    | false => simp at h ⊢; exact ih N base cb db s s' e hN hc.2 h X φ w B a hr hg Q hQ
   case h_7 =>
    rename_i i b j x;simp only [Bool.and_eq_true,decide_eq_true_eq] at hc;obtain ⟨rfl,hc⟩ := hc;simp only [codeB] at h;refine wp_block ?_;cases h1 : codeB c n base x s with
    | none => rw [h1] at h; cases h
    | some p =>
      obtain ⟨e1,s1⟩ := p;rw [h1] at h;refine ih N base b x s s1 e1 hN hc h1 X φ w B a hr hg _ fun a' w' φ' hr' k => ?_;cases e1 with
      | normal => simp at h; obtain ⟨rfl,rfl⟩ := h; exact hQ a' w' φ' hr' k
      | ret => simp at h; obtain ⟨rfl,rfl⟩ := h; exact hQ a' w' φ' hr' k
      | exit id =>
        simp only at h;split at h
        ·rename_i hid;simp at h; obtain ⟨rfl,rfl⟩ := h;simp only [Ex.to,Exit.inBlock,hid,if_true];exact hQ a' w' φ' hr' k
        ·rename_i hid;simp at h; obtain ⟨rfl,rfl⟩ := h;simp only [Ex.to,Exit.inBlock,hid,if_false];exact hQ a' w' φ' hr' k
   case h_8 =>
    rename_i b x;simp only [codeB] at h
    have key : ∀ m,m <= n -> ∀ s a w φ,codeB c m base (.loop x) s = some (e,s') -> SRB X φ w B base s a N -> Am.GlOK (cAm c) X φ w -> (∀ a' w' φ',SRB X φ' w' B base s' a' N -> Adv φ w φ' w' -> Q e.to a' w') -> LW P b Q a w := by
     intro m
     induction m with
     | zero => intro _ s a w φ h; simp [codeB] at h
     | succ m ihm =>
       intro hm s a w φ h hr hg hQ;simp only [codeB] at h;refine LW.step ?_;have ihb : SndB P c m := snd_allB H1 H2 H3 m;cases h1 : codeB c m base x s with
       | none => rw [h1] at h; cases h
       | some p =>
         obtain ⟨e1,s1⟩ := p;rw [h1] at h;refine ihb N base b x s s1 e1 hN hc h1 X φ w B a hr hg _ fun a' w' φ' hr' k => ?_;cases e1 with
         | normal => simp only at h; exact ihm (by omega) s1 a' w' φ' h hr' (hg.adv k) fun a'' w'' φ'' hr'' k'' => hQ a'' w'' φ'' hr'' (k.trans k'')
         | exit id => simp at h; obtain ⟨rfl,rfl⟩ := h; exact hQ a' w' φ' hr' k
         | ret => simp at h; obtain ⟨rfl,rfl⟩ := h; exact hQ a' w' φ' hr' k
    refine LW.loop (LW.step ?_);cases h1 : codeB c n base x s with
    | none => rw [h1] at h; cases h
    | some p =>
      obtain ⟨e1,s1⟩ := p;rw [h1] at h;refine ih N base b x s s1 e1 hN hc h1 X φ w B a hr hg _ fun a' w' φ' hr' k => ?_;cases e1 with
      | normal => simp only at h; exact key n (Nat.le_refl _) s1 a' w' φ' h hr' (hg.adv k) fun a'' w'' φ'' hr'' k'' => hQ a'' w'' φ'' hr'' (k.trans k'')
      | exit id => simp at h; obtain ⟨rfl,rfl⟩ := h; exact hQ a' w' φ' hr' k
      | ret => simp at h; obtain ⟨rfl,rfl⟩ := h; exact hQ a' w' φ' hr' k
   case h_9 => simp [codeB] at h; obtain ⟨rfl,rfl⟩ := h; exact wp_label (hQ a w φ hr (.refl _ _))
   case h_10 =>
    rename_i b x;simp only [codeB] at h;cases n with
    | zero => simp [codeB] at h
    | succ n' =>
      rw [show codeB c (n' + 1) base .skip s = some (.normal,s) from rfl] at h;simp only at h;refine wp_scope_straight (ih N base b x s s' e hN hc h X φ w B a hr hg _ fun a' w' φ' hr' k => ?_);have hq := hQ a' w' φ' hr' k;cases e <;> exact hq
   case h_11 => cases hc
end
end Go.Bm

/- What a function returns. -/
namespace Go.Bm
open Go.Am
section
variable {P : Program} {X : Nat -> Prop} {φ φ1 φ' : Phi} {w w1 w' : World} {N N1 N' : Names} {s s' s1 : St} {Ha : Heap} {B : Nat -> Nat} {base : Nat} {v va : AV} {v' : Value} {c : Cfg} {a : Act} {call : Nat -> List AV -> Heap -> Option (AV × Heap)}
theorem res_tr (h : Sim X φ w N s Ha (tm a)) (hg : Am.GlOK (cAm c) X φ w) {rv : Rv} {x : AV} (hx : resV c s rv = some x) : ∃ xa,resA Ha (trE N s.env) rv = some xa /\ Le (trV N x) xa /\ okV (ownAt s) s.H.length x /\ hasOwn x = false := by
 cases rv with
 | t i =>
   simp only [resV,Option.some.injEq] at hx;subst hx;refine ⟨_,rfl,?_,ok_lend h i,lend_own _ _⟩;rw [get_trE,<- tr_lend];exact Le.refl _
 | c i ag =>
   simp only [resV] at hx;split at hx
   case h_2 => cases hx
   rename_i u ps hp;simp at hx;subst hx;obtain ⟨va,fl,e,hle,h2,h3⟩ := ld_tr (a := a) h hg (x := .t i) (o' := .tmp i) (by simp [dnE,chkE]) hp
   have hno : hasOwn u = false := by
    have rd : ∀ {cs : List AV},rdN ag cs = some u -> hasOwn u = false := by
     intro cs hu;unfold rdN at hu;split at hu
     case h_2 => cases hu
     split at hu
     ·cases hu
     rename_i hno;simp at hu hno;subst hu;exact hno
    unfold peek at hp;split at hp
    ·split at hp
     ·rename_i hu; simp at hp; obtain ⟨rfl,_⟩ := hp; exact rd hu
     ·cases hp
    ·split at hp
     ·split at hp
      ·rename_i hu; simp at hp; obtain ⟨rfl,_⟩ := hp; exact rd hu
      ·cases hp
     ·cases hp
    ·split at hp
     ·split at hp
      ·split at hp
       ·split at hp
        ·rename_i hu; simp at hp; obtain ⟨rfl,_⟩ := hp; exact rd hu
        ·cases hp
       ·cases hp
      ·cases hp
     ·cases hp
    ·cases hp
   rw [trQ_trV N hno] at hle;refine ⟨va,?_,hle,h2,hno⟩;simp only [dnK,dnE,aOp,Am.ev] at e;simp only [resA];split at e
   ·rename_i cs hcs;rw [hcs];split at e
    ·rename_i u' hu'; simp at e; obtain ⟨rfl,_⟩ := e; exact hu'
    ·cases e
   ·rename_i b off hcs;rw [hcs];split at e
    ·rename_i cs hb;simp only [hb];split at e
     ·rename_i u' hu'; simp at e; obtain ⟨rfl,_⟩ := e; exact hu'
     ·cases e
    ·cases e
   ·cases e
theorem ress_tr (h : Sim X φ w N s Ha (tm a)) (hg : Am.GlOK (cAm c) X φ w) : ∀ {rvs : List Rv} {xs : List AV},resVs c s rvs = some xs -> ∃ xas,resL Ha (trE N s.env) rvs = some xas /\ xas.length = xs.length /\ (∀ (i : Nat) (x y : AV),xs[i]? = some x -> xas[i]? = some y -> Le (trV N x) y) /\ okL (ownAt s) s.H.length xs /\ ∀ x ∈ xs,hasOwn x = false
 | [],xs,hx => by simp [resVs] at hx; subst hx; exact ⟨[],rfl,rfl,fun i x y h => by simp at h,trivial,fun x hx => by simp at hx⟩
 | r :: rs,xs,hx => by
   simp only [resVs] at hx;split at hx
   case h_2 => cases hx
   rename_i u us h1 h2;simp at hx;subst hx;obtain ⟨xa,a1,a2,a3,a4⟩ := res_tr h hg h1;obtain ⟨xas,b1,b2,b3,b4,b5⟩ := ress_tr h hg h2;refine ⟨xa :: xas,by simp only [resL,a1,b1],by simp [b2],fun i x y hx hy => ?_,⟨a3,b4⟩,fun x hx => ?_⟩
   ·cases i with
    | zero => simp at hx hy; subst hx hy; exact a2
    | succ i => simp at hx hy; exact b3 i x y hx hy
   ·rcases List.mem_cons.1 hx with e | e
    ·subst e; exact a4
    ·exact b5 x e
theorem tup_tr (h : Sim X φ w N s Ha (tm a)) (hg : Am.GlOK (cAm c) X φ w) {rvs : List Rv} {xs : List AV} (hx : resVs c s rvs = some xs) : ∃ xas,resL Ha (trE N s.env) rvs = some xas /\ Le (trV N (tupOf xs)) (tupOf xas) /\ okV (ownAt s) s.H.length (tupOf xs) /\ hasOwn (tupOf xs) = false := by
 obtain ⟨xas,b1,b2,b3,b4,b5⟩ := ress_tr h hg hx;refine ⟨xas,b1,?_⟩
 match xs,xas,b2 with
 | [],[],_ => exact ⟨Le.refl _,trivial,rfl⟩
 | [x],[y],_ => exact ⟨b3 0 x y rfl rfl,b4.1,b5 x (by simp)⟩
 | x :: x2 :: xs,y :: y2 :: ys,hl =>
   refine ⟨fun R φ v r => ?_,b4,rfl⟩;simp only [tupOf,trV] at r ⊢;cases r with
   | tup _ _ vs hl2 hh => exact .tup _ _ _ (by rw [trL_length,<- hl]; exact hl2) (fun i d u hd hu => by
     rw [trL_get] at hd;cases hc : (x :: x2 :: xs)[i]? with
     | none => rw [hc] at hd; cases hd
     | some z =>
       rw [hc] at hd;simp at hd;subst hd;obtain ⟨y',hy'⟩ := getElem?_some_of (l := y :: y2 :: ys) (i := i) (by have := lt_of_getElem? hc; omega);exact b3 i z y' hc hy' _ _ _ (hh i y' u hy' hu))
theorem SB.val (h : SB X φ w B base s (tm a)) {r : AV} (hp : pl r = true) {v' : Value} (hr : Rep (Rd X [] w) [] r v') (B' : Nat -> Nat) : ∃ φ',SB X φ' w B' 0 ⟨[(0,r)],[]⟩ (fun i => if i = 0 then v' else undef) /\ Adv φ w φ' w := by
 obtain ⟨N,Ha,h,hb⟩ := h
 have hno : ∀ g,¬ Owned (List.replicate φ.length none) g := fun g ⟨b,sz,e⟩ => by
  rw [List.getElem?_replicate] at e;split at e <;> simp at e
 refine ⟨List.replicate φ.length none,?_,⟨rfl,rfl,rfl,Nat.le_refl _,Nat.le_refl _,fun g hg ho => ⟨rfl,hno g⟩,⟨by simp,fun b p hb e => by rw [List.getElem?_replicate] at e; split at e <;> simp at e⟩⟩⟩;have hgi : ∀ i,get [(0,r)] i = if i = 0 then r else .any := fun i => by simp only [Am.get]
 have hpl : ∀ i,pl (get [(0,r)] i) = true := fun i => by rw [hgi]; split; exact hp; rfl
 have hnoo : ∀ p,ownAt ⟨[(0,r)],[]⟩ p = none := by
  intro p;cases p with
  | s i => exact (hasOwn_at (s := ⟨[(0,r)],[]⟩) (pl_own (hpl i))).1
  | sc i j => exact (hasOwn_at (s := ⟨[(0,r)],[]⟩) (pl_own (hpl i))).2 j
  | c b j => unfold ownAt; simp [at_,blk]
 refine ⟨⟨fun _ => 0,fun _ => none⟩,List.replicate φ.length none,⟨fun i => ?_,fun i => ok_pl _ (hpl i),⟨by simp,h.heap.xlt,fun b cs hb => ?_,fun b hb => ?_,fun b b' g sz sz' h1 => ?_⟩,fun p k xs e => ?_,fun b cs e => ?_,fun p q n e1 => ?_,fun b p e1 => ?_,fun b d e1 => ?_⟩,fun b hb => by omega,Nat.zero_le _⟩
 ·have hr2 : Rep (Rd X (List.replicate φ.length none) w) (List.replicate φ.length none) r v' := (hr.mono (R' := Rd X (List.replicate φ.length none) w) (fun a u h => ⟨h.1,hno _,h.2.2⟩) (.refl _)).mono0 _;show Rep _ _ (trS _ i (get [(0,r)] i)) (if i = 0 then v' else undef);rw [trS_pl _ _ (hpl i),hgi];by_cases e : i = 0
  ·rw [if_pos e,if_pos e]; exact hr2
  ·rw [if_neg e,if_neg e]; exact .any _ _
 ·rw [List.getElem?_replicate] at hb; split at hb <;> simp at hb
 ·have := lt_of_getElem? hb;rw [List.getElem?_replicate];simp at this;rw [if_pos this]
 ·rw [List.getElem?_replicate] at h1; split at h1 <;> simp at h1
 ·rw [hnoo] at e; cases e
 ·simp [blk] at e
 ·rw [hnoo] at e1; cases e1
 ·simp [blk] at e1
 ·simp [blk] at e1
end
end Go.Bm

/- The end of a function that sees no boxes of others. -/
namespace Go.Bm
open Go.Am
section
variable {P : Program} {X : Nat -> Prop} {φ φ1 φ' : Phi} {w w1 w' : World} {N N1 N' : Names} {s s' s1 : St} {Ha : Heap} {B : Nat -> Nat} {base : Nat} {v va : AV} {v' : Value} {c : Cfg} {a : Act} {call : Nat -> List AV -> Heap -> Option (AV × Heap)}
theorem SB.own1 (h : Sim X φ w N s Ha (tm a)) {p : Rt} {k len : Nat} {xs : List AV} (hp : ownAt s p = some (k,xs)) (hle : len <= xs.length) (hr : Rep (Rd X φ w) φ (trV N (.bor k p 0 len)) v') (B' : Nat -> Nat) : SB X φ w B' 0 ⟨[(0,.own k (xs.take len))],[]⟩ (fun i => if i = 0 then v' else undef) := by
 have hgi : ∀ i,get [(0,AV.own k (xs.take len))] i = if i = 0 then .own k (xs.take len) else .any := fun i => by simp only [Am.get]
 have hlen : (xs.take len).length = len := by simp; omega
 have hown : ∀ q k' ys,ownAt ⟨[(0,.own k (xs.take len))],[]⟩ q = some (k',ys) -> q = .s 0 /\ k' = k /\ ys = xs.take len := by
  intro q k' ys e;have e' := ownAt_iff.1 e;cases q with
  | s i =>
    simp only [at_,hgi,Option.some.injEq] at e';by_cases hi : i = 0
    ·subst hi; simp at e'; exact ⟨rfl,e'.1.symm,e'.2.symm⟩
    ·rw [if_neg hi] at e'; cases e'
  | sc i j =>
    simp only [at_,hgi] at e';by_cases hi : i = 0
    ·subst hi; simp at e'
    ·rw [if_neg hi] at e'; cases e'
  | c b j => simp [at_,blk] at e'
 have one : ∀ {q},(ownAt ⟨[(0,.own k (xs.take len))],[]⟩ q).isSome -> q = .s 0 := by
  intro q hq;obtain ⟨⟨k',ys⟩,e⟩ := Option.isSome_iff_exists.1 hq;exact (hown q k' ys e).1
 refine ⟨⟨N.β,fun q => N.ν p⟩,Ha,⟨fun i => ?_,fun i => ?_,h.heap,fun q k' ys e => ?_,fun b cs e => ?_,fun q r n e1 e2 _ _ => ?_,fun b q e1 => ?_,fun b d e1 => ?_⟩,fun b hb => by omega,Nat.zero_le _⟩
 ·show Rep _ _ (trS _ i (get [(0,AV.own k (xs.take len))] i)) (if i = 0 then v' else undef);rw [hgi];by_cases e : i = 0
  ·rw [if_pos e,if_pos e];simp only [trS,trP,ownT,hlen];simp only [trV,Nat.zero_mul] at hr;exact hr
  ·rw [if_neg e,if_neg e]; exact .any _ _
 ·show okV _ _ (get [(0,AV.own k (xs.take len))] i);rw [hgi];split <;> trivial
 ·obtain ⟨rfl,rfl,rfl⟩ := hown q k' ys e;exact (h.own p k' xs hp).take
 ·simp [blk] at e
 ·rw [one e1,one e2]
 ·simp [blk] at e1
 ·simp [blk] at e1
theorem fin_okB (h : Sim X φ w N s Ha (tm a)) (hb : (∀ b,b < base -> N.β b = B b) /\ base <= s.H.length) (hv : Rep (Rd X φ w) φ (trV N v) v') (hk : okV (ownAt s) s.H.length v) (hno : hasOwn v = false) {md : Md} {r : AV} {H' : Heap} (hsh : md.sh = false) (hf : finB md base s v = some (r,H')) (B' : Nat -> Nat) :
  H' = [] /\ ∃ φ',SB X φ' w B' 0 ⟨[(0,r)],[]⟩ (fun i => if i = 0 then v' else undef) /\ Adv φ w φ' w := by
 have hsub : ∀ a u,Rd X φ w a u -> Rd X [] w a u := fun a u ⟨h1,_,h3⟩ => ⟨h1,Owned.nil _,h3⟩;unfold finB at hf;rw [hsh] at hf;simp only [Bool.false_eq_true,if_false] at hf;split at hf
 ·split at hf
  case isFalse => cases hf
  split at hf
  case h_2 => cases hf
  rename_i r' hr;simp at hf;obtain ⟨rfl,rfl⟩ := hf;refine ⟨rfl,?_⟩;unfold takeR takeV at hr;split at hr
  ·rename_i k p len;split at hr
   case h_2 => cases hr
   rename_i k' xs hp;split at hr
   case isFalse => cases hr
   rename_i hc;obtain ⟨rfl,hle⟩ := hc;simp at hr;subst hr;exact ⟨φ,SB.own1 h hp hle hv B',.refl _ _⟩
  ·simp [hasOwn] at hno
  ·rename_i h1 h2;split at hr
   case isFalse => cases hr
   rename_i hpl;simp at hr;subst hr;rw [tr_pl N _ hpl] at hv;exact SB.val (base := base) (B := B) ⟨N,Ha,h,hb⟩ hpl ((hv.of_plain (pl_plain _ hpl) []).mono hsub (.refl _)) B'
 ·split at hf
  case h_2 => cases hf
  rename_i r' hr;simp at hf;obtain ⟨rfl,rfl⟩ := hf;obtain ⟨p1,p2⟩ := frzR_rep h v r' hr hk;exact ⟨rfl,SB.val (base := base) (B := B) ⟨N,Ha,h,hb⟩ p1 (p2 _ hv) B'⟩
def OrcOKB (P : Program) (c : Cfg) : Prop := ∀ f g md q,c.orc f = some g -> c.fn f = some (md,q) -> ∀ args H r H',(md.sh = true \/ H = []) -> g args H = some (r,H') -> (md.sh = true -> allB H' = true) -> ∀ X φ w B (vargs : Array Value),args.length = vargs.size -> SB X φ w B H.length ⟨mkEnv 0 args,H⟩ (fun i => vargs.getD i undef) -> Am.GlOK (cAm c) X φ w -> Calls P f vargs w (RetB X φ w B H.length r H')
def ShOK (P : Program) (c : Cfg) (n : Nat) : Prop := ∀ f md q,c.fn f = some (md,q) -> md.sh = true -> ∀ args H r H',callW c (codeB c n) f args H = some (r,H') -> allB H' = true -> ∀ X φ w B (vargs : Array Value),args.length = vargs.size -> SB X φ w B H.length ⟨mkEnv 0 args,H⟩ (fun i => vargs.getD i undef) -> Am.GlOK (cAm c) X φ w -> Calls P f vargs w (RetB X φ w B H.length r H')
theorem callW_okB (hok : CfgOKB P c) (horc : OrcOKB P c) {n : Nat} (hs : SndB P c n) (hsh : ShOK P c n) : CallOKB P c (callW c (codeB c n)) := by
 intro f md q hf args H r H' hH h hall X φ w B vargs hl hsb hg;by_cases hm : md.sh = true
 ·exact hsh f md q hf hm args H r H' h (hall hm) X φ w B vargs hl hsb hg
 have hm' : md.sh = false := by simpa using hm
 have hH' : H = [] := hH.elim (fun e => absurd e hm) id;subst hH';unfold callW at h;split at h
 ·rename_i x hgo;unfold orcA at hgo;split at hgo
  case h_2 => cases hgo
  rename_i g hgf;rw [h] at hgo;replace h := hgo;exact horc f g md q hgf hf args [] r H' (.inr rfl) h hall X φ w B vargs hl hsb hg
 ·rw [hf] at h;simp only at h;split at h
  case isFalse => cases h
  rename_i hle;obtain ⟨fn,h1,h2⟩ := hok.fn f md q hf;simp only [chkFB,Bool.and_eq_true,decide_eq_true_eq] at h2;obtain ⟨⟨⟨⟨hn,hhand⟩,_⟩,hres⟩,hbody⟩ := h2;split at hbody
  case h_2 => cases hbody
  rename_i code hb;have hsize : (vargs ++ Array.replicate (fn.ntmps - vargs.size) undef).size = q.n := by simp; omega
  have htm : tm { tmps := vargs ++ Array.replicate (fn.ntmps - vargs.size) undef,defers := [] } = fun i => vargs.getD i undef := by
   funext i;simp only [tm,Array.getD_eq_getD_getElem?];by_cases hi : i < vargs.size
   ·rw [Array.getElem?_append_left hi]
   ·rw [Array.getElem?_append_right (by omega),Array.getElem?_replicate];rw [Array.getElem?_eq_none (by omega)];split <;> rfl
  have hS : SRB X φ w B 0 ⟨mkEnv 0 args,[]⟩ { tmps := vargs ++ Array.replicate (fn.ntmps - vargs.size) undef,defers := [] } q.n := ⟨by rw [htm]; exact hsb,rfl,hsize⟩
  have fin : ∀ {e : Ex} {s : St} {vs : List AV},codeB c n 0 q.body ⟨mkEnv 0 args,[]⟩ = some (e,s) -> (e = .ret \/ e = .normal) -> resVs c s q.res = some vs -> finB md 0 s (tupOf vs) = some (r,H') -> Calls P f vargs w (RetB X φ w B 0 r H') := by
   intro e s vs he hre hvs hfin;refine calls_of_wp h1 hb (hs q.n 0 code q.body _ s e (by omega) hbody he X φ w B _ hS hg _ fun a' w' φ' hS' hadv => ?_);obtain ⟨N,Ha,sim,hbB⟩ := hS'.sb;obtain ⟨xas,x1,x2,x3,x4⟩ := tup_tr sim (hg.adv hadv) hvs;obtain ⟨v,k1,k2⟩ := run_results (P := P) (s := ⟨trE N s.env,Ha⟩) (ts := a'.tmps) (fun i => by rw [get_trE]; exact sim.env i) sim.heap hres x1;obtain ⟨rfl,φ2,s2,a2⟩ := fin_okB sim hbB (x2 _ _ _ k2) x3 x4 hm' hfin B;have : bodyPost P fn (RetB X φ w B 0 r []) .ret a' w' := ⟨hS'.defers,v,k1,v,φ2,rfl,s2,hadv.trans a2⟩;rcases hre with rfl | rfl
   ·exact this
   ·exact this
  split at h
  ·rename_i s he;split at h
   ·rename_i vs hvs;exact fin he (.inl rfl) hvs h
   ·cases h
  ·rename_i s he;split at h
   ·rename_i vs hvs;exact fin he (.inr rfl) hvs h
   ·cases h
  ·cases h
end
end Go.Bm

/- Every operation, given the calls that share boxes. -/
namespace Go.Bm
open Go.Am
section
variable {P : Program} {c : Cfg} {call : Nat -> List AV -> Heap -> Option (AV × Heap)}
def ShCall (P : Program) (c : Cfg) (call : Nat -> List AV -> Heap -> Option (AV × Heap)) : Prop :=
 ∀ X φ w B base s (o : Oper) (a : Act) kd f args md q r H',chkK P o.op (dnK kd) = true -> SB X φ w B base s (tm a) -> Am.GlOK (cAm c) X φ w -> getArgs c s.env kd = some (f,args) -> c.fn f = some (md,q) -> md.sh = true -> plpL (args.map nilL) = true -> allB s.H = true -> borOf r = [] -> hasOwn r = false -> allB H' = true -> call f (args.map nilL) s.H = some (r,H') -> OkB P X φ w B base ⟨mapE swC s.env,H'⟩ r o a
theorem ok_doCall (hok : CfgOKB P c) (hcall : CallOKB P c call) (hsh : ShCall P c call) {X : Nat -> Prop} {φ : Phi} {w : World} {B : Nat -> Nat} {base : Nat} {s s1 : St} {o : Oper} {a : Act} {kd : Kd} {v : AV} {fq : Fq} (hk : chkK P o.op (dnK kd) = true) (h : SB X φ w B base s (tm a)) (hg : Am.GlOK (cAm c) X φ w) (hs : doCallO c call kd s = some (v,s1,fq)) : OkB P X φ w B base s1 v o a := by
 unfold doCallO at hs;split at hs
 ·cases hs
 rename_i f args ha;split at hs
 ·cases hs
 rename_i md q hf;split at hs
 ·rename_i hmd;simp only [Bool.and_eq_true,Bool.not_eq_true'] at hmd;split at hs
  ·cases hs
  rename_i args' hz;split at hs
  case h_2 => cases hs
  rename_i r H' hc;split at hs
  case isFalse => cases hs
  rename_i hr;simp only [Option.some.injEq,Prod.mk.injEq] at hs;obtain ⟨rfl,rfl,_⟩ := hs;exact ok_call_cl hok hcall h hg hk ha hf hmd.2 hz hc hr
 ·obtain ⟨φ1,h1,a1⟩ := SB.frzAll (borL args) h;refine OkB.ghost a1 ?_;split at hs
  ·cases hs
  rename_i f1 args1 ha1;split at hs
  case isFalse => cases hs
  rename_i hff;subst hff;split at hs
  ·rename_i hm;split at hs
   case isFalse => cases hs
   rename_i hp;split at hs
   case h_2 => cases hs
   rename_i r H' hc;split at hs
   case isFalse => cases hs
   rename_i hr;simp only [Option.some.injEq,Prod.mk.injEq] at hs;obtain ⟨rfl,rfl,_⟩ := hs;simp only [Bool.and_eq_true,Bool.not_eq_true'] at hp hr;exact hsh X φ1 w B base _ o a kd f1 args1 md q r H' hk h1 (hg.adv a1) ha1 hf hm hp.1 hp.2 (List.isEmpty_iff.1 hr.1.1) hr.1.2 hr.2 hc
  ·rename_i hm;split at hs
   case isFalse => cases hs
   rename_i hp;split at hs
   case h_2 => cases hs
   rename_i r H' hc;split at hs
   case isFalse => cases hs
   rename_i hr;simp only [Option.some.injEq,Prod.mk.injEq] at hs;obtain ⟨rfl,rfl,_⟩ := hs;exact ok_call_pl hok hcall h1 (hg.adv a1) hk ha1 hf (by simpa using hm) hp hc hr
def EatPost (w : World) (og : Option Nat) (k : Nat) (ys : List AV) (e : Ending) (w' : World) : Prop :=
 ∃ (g' cap' : Nat) (arr' : Array Value) (e' : TypeId),e = .returned (.slice (some ⟨g',0,none⟩) ys.length cap') /\ ys.length <= cap' /\ cap' * k <= arr'.size /\ w'.heap[g']? = some (.cells arr' e' (0,0)) /\
  (∀ (i : Nat) (d : AV),(flatCells ys)[i]? = some d -> ∃ u,arr'[i]? = some u /\ Rep (fun _ _ => False) [] d u) /\ (og = some g' \/ w.heap.size <= g') /\
  (∀ h,h < w.heap.size -> og ≠ some h -> w'.heap[h]? = w.heap[h]?) /\ w'.os = w.os /\ w'.tape = w.tape /\ w'.output = w.output /\ w.drawn <= w'.drawn /\ w.heap.size <= w'.heap.size
abbrev OwnPost (T : Nat -> Nat -> Addr -> Value -> Prop) (w : World) (og : Option Nat) (k : Nat) (ys : List AV) (e : Ending) (w' : World) : Prop :=
 ∃ (g' cap' : Nat) (arr' : Array Value) (e' : TypeId) (a' : Addr),e = .returned (.slice (some a') ys.length cap') /\ (0 < cap' -> a' = ⟨g',0,none⟩) /\ ys.length <= cap' /\ cap' * k <= arr'.size /\ w'.heap[g']? = some (.cells arr' e' (0,0)) /\
  (∀ (i : Nat) (d : AV),(flatCells ys)[i]? = some d -> ∃ u,arr'[i]? = some u /\ Rep (T g' arr'.size) [] d u) /\ (og = some g' \/ w.heap.size <= g') /\
  (∀ h,h < w.heap.size -> og ≠ some h -> w'.heap[h]? = w.heap[h]?) /\ w'.os = w.os /\ w'.tape = w.tape /\ w'.output = w.output /\ w.drawn <= w'.drawn /\ w.heap.size <= w'.heap.size
def EatPostN (w : World) (og : Option Nat) (k : Nat) (ys : List AV) (e : Ending) (w' : World) : Prop :=
 OwnPost (fun _ _ _ _ => False) w og k ys e w' \/
 (og = none /\ ys = [] /\ e = .returned (.slice none 0 0) /\ Adv [] w [] w')
theorem EatPost.n {w : World} {og : Option Nat} {k : Nat} {ys : List AV} {e : Ending} {w' : World} (h : EatPost w og k ys e w') : EatPostN w og k ys e w' := by
 obtain ⟨g',cap',arr',e',h1,h2⟩ := h;exact .inl ⟨g',cap',arr',e',_,h1,fun _ => rfl,h2⟩
def Beside (w : World) (og : Option Nat) (a : Addr) (u : Value) : Prop := og ≠ some a.block /\ w.cell? a = some u /\ ∃ arr te,w.heap[a.block]? = some (.cells arr te (0,0))
def Beside0 (w : World) (og : Option Nat) (a : Addr) (u : Value) : Prop := og ≠ some a.block /\ w.cell? a = some u
def BesE : AV -> World -> Option Nat -> Addr -> Value -> Prop
 | .func _ _ _ => Beside0
 | _ => Beside
def EatCon (P : Program) (f : Nat) (g : Nat -> List AV -> List AV -> Option (List AV)) (Q : World -> Option Nat -> Nat -> List AV -> Ending -> World -> Prop) : Prop := ∀ k xs es ys,g k xs es = some ys -> (∀ x ∈ xs,x.cells.length = k) -> (∀ x ∈ xs,∀ d ∈ x.cells,fz d = true) ->
 ((∀ y ∈ ys,y.cells.length = k) /\ ∀ y ∈ ys,∀ d ∈ y.cells,fz d = true) /\
 (xs = [] -> ∀ w (vargs : Array Value),es.length + 1 = vargs.size -> vargs[0]? = some (.slice none 0 0) -> (∀ (i : Nat) (e : AV) (v : Value),es[i]? = some e -> vargs[i + 1]? = some v -> Rep (BesE e w none) [] e v) -> Calls P f vargs w (Q w none k ys)) /\
 ∀ w (vargs : Array Value) g0 arr te a cap,w.heap[g0]? = some (.cells arr te (0,0)) -> (∀ (i : Nat) (d : AV),(flatCells xs)[i]? = some d -> ∃ u,arr[i]? = some u /\ Rep (fun _ _ => False) [] d u) -> es.length + 1 = vargs.size -> vargs[0]? = some (.slice (some a) xs.length cap) -> (0 < cap -> a = ⟨g0,0,none⟩) -> xs.length <= cap -> cap * k <= arr.size ->
  (∀ (i : Nat) (e : AV) (v : Value),es[i]? = some e -> vargs[i + 1]? = some v -> Rep (BesE e w (some g0)) [] e v) -> Calls P f vargs w (Q w (some g0) k ys)
theorem EatCon.weak {P : Program} {f : Nat} {g : Nat -> List AV -> List AV -> Option (List AV)} (h : EatCon P f g EatPost) : EatCon P f g EatPostN := by
 intro k xs es ys hg h1 h2;obtain ⟨p,q,r⟩ := h k xs es ys hg h1 h2;exact ⟨p,fun a b c d e f => (q a b c d e f).mono fun _ _ z => z.n,fun a b c d e f g h i j k l m n o => (r a b c d e f g h i j k l m n o).mono fun _ _ z => z.n⟩
def EatOK (P : Program) (c : Cfg) : Prop := True
def InpOK0 (P : Program) (c : Cfg) : Prop := ∀ f g,c.inp f = some g -> (∃ md q,c.fn f = some (md,q)) /\ ∀ k xs es ys res,g k xs es = some (ys,res) -> (∀ x ∈ xs,x.cells.length = k) -> (∀ x ∈ xs,∀ d ∈ x.cells,fz d = true) ->
 ((ys.length = xs.length /\ (∀ y ∈ ys,y.cells.length = k)) /\ ((∀ y ∈ ys,∀ d ∈ y.cells,fz d = true) /\ ∀ m,res = some m -> m <= xs.length)) /\
 (xs = [] -> ∀ X φ w (vargs : Array Value) v0 y,(y = .nils \/ y = .list k []) -> es.length + 1 = vargs.size -> vargs[0]? = some v0 -> Rep (Rd X φ w) φ y v0 -> (∀ (i : Nat) (e : AV) (v : Value),es[i]? = some e -> vargs[i + 1]? = some v -> Rep (Rd X φ w) [] e v) ->
  Calls P f vargs w (fun e w' => ∃ v',e = .returned v' /\ Rep (Rd X φ w') φ (match res with
   | none => .tup []
   | some _ => y) v' /\ Adv [] w [] w')) /\
 ∀ X φ w Ha n rest (vargs : Array Value) v0,HRel X φ w Ha -> blk Ha n = some (flatCells (xs ++ rest)) -> es.length + 1 = vargs.size -> vargs[0]? = some v0 -> Rep (Rd X φ w) φ (.sl k n 0 xs.length) v0 -> (∀ (i : Nat) (e : AV) (v : Value),es[i]? = some e -> vargs[i + 1]? = some v -> Rep (Rd X φ w) [] e v) ->
  Calls P f vargs w (fun e w' => ∃ v' φ',e = .returned v' /\ Rep (Rd X φ' w') φ' (match res with
   | none => .tup []
   | some m => .sl k n 0 m) v' /\ HRel X φ' w' (Ha.set n (some (flatCells (ys ++ rest)))) /\ Adv φ w φ' w')
def InpOK (P : Program) (c : Cfg) : Prop := InpOK0 P c /\ EatOK P c
theorem EatOK.none {P : Program} {c : Cfg} (h : ∀ f,c.eat f = none) : EatOK P c := trivial
theorem InpOK.none {P : Program} {c : Cfg} (h : ∀ f,c.inp f = none) (h2 : ∀ f,c.eat f = none := by intro _; rfl) : InpOK P c := ⟨(fun f g hf => by rw [h f] at hf; cases hf),EatOK.none h2⟩
theorem less {X : Nat -> Prop} {φ : Phi} {w : World} {Ha : Heap} (h : HRel X φ w Ha) {n : Nat} {cs cs' : List AV} (hb : blk Ha n = some cs) (hl : cs'.length <= cs.length) (hc : ∀ (i : Nat) (d : AV),cs'[i]? = some d -> ∃ a,cs[i]? = some a /\ Le d a) : HRel X φ w (Ha.set n (some cs')) := by
 refine ⟨by simp [h.len],h.xlt,fun b ds hbd => ?_,fun b hbd => ?_,h.inj⟩
 ·rw [List.getElem?_set] at hbd;split at hbd
  ·rename_i e;subst e;split at hbd
   ·simp at hbd;subst hbd;obtain ⟨g,sz,arr,e,g1,g2,g3,g4,g5,g6⟩ := h.at hb;refine ⟨g,sz,arr,e,g1,g2,g3,by omega,g5,fun i d hd => ?_⟩;obtain ⟨a,ha,hle⟩ := hc i d hd;obtain ⟨u,u1,u2⟩ := g6 i a ha;exact ⟨u,u1,hle _ _ _ u2⟩
   ·cases hbd
  ·exact h.live b ds hbd
 ·rw [List.getElem?_set] at hbd;split at hbd
  ·split at hbd <;> simp at hbd
  ·exact h.dead b hbd
theorem setAt_self {s : St} {p : Rt} {v : AV} (h : at_ s p = some v) : (∀ i,get (setAt s p v).env i = get s.env i) /\ (setAt s p v).H = s.H := by
 cases p with
 | s i =>
   simp only [at_,Option.some.injEq] at h;refine ⟨fun j => ?_,rfl⟩;simp only [setAt,get_put];split
   ·rename_i e; subst e; exact h.symm
   ·rfl
 | sc i l =>
   simp only [at_] at h;split at h
   ·rename_i cs hc
    have e : cs.set l v = cs := by
     apply List.ext_getElem?;intro j;rw [List.getElem?_set];split
     ·rename_i e; subst e; split
      ·exact h.symm
      ·rename_i hlt; rw [List.getElem?_eq_none (by omega)] at h; cases h
     ·rfl
    have hs : setAt s (.sc i l) v = ⟨put s.env i (.agg cs),s.H⟩ := by simp only [setAt,hc,e]
    rw [hs];refine ⟨fun j => ?_,rfl⟩;show get (put s.env i (.agg cs)) j = _;rw [get_put];split
    ·rename_i e2; subst e2; exact hc.symm
    ·rfl
   ·cases h
 | c b l =>
   simp only [at_] at h;split at h
   ·rename_i cs hc
    have e : cs.set l v = cs := by
     apply List.ext_getElem?;intro j;rw [List.getElem?_set];split
     ·rename_i e; subst e; split
      ·exact h.symm
      ·rename_i hlt; rw [List.getElem?_eq_none (by omega)] at h; cases h
     ·rfl
    have hs : setAt s (.c b l) v = ⟨s.env,s.H.set b (some cs)⟩ := by simp only [setAt,hc,e]
    rw [hs];refine ⟨fun j => rfl,?_⟩;show s.H.set b (some cs) = s.H;apply List.ext_getElem?;intro j;rw [List.getElem?_set];split
    ·rename_i e2;subst e2;rw [if_pos (blk_lt hc),blk_iff.1 hc]
    ·rfl
   ·cases h
theorem flatCells_app (xs ys : List AV) : flatCells (xs ++ ys) = flatCells xs ++ flatCells ys := by
 induction xs with
 | nil => rfl
 | cons x r ih => simp [flatCells,ih,List.append_assoc]
theorem flatCells_mem {xs : List AV} {d : AV} (h : d ∈ flatCells xs) : ∃ x ∈ xs,d ∈ x.cells := by
 induction xs with
 | nil => simp [flatCells] at h
 | cons x r ih =>
   simp only [flatCells,List.mem_append] at h;rcases h with h | h
   ·exact ⟨x,by simp,h⟩
   ·obtain ⟨y,hy,hd⟩ := ih h;exact ⟨y,by simp [hy],hd⟩
theorem Beside.weak {w : World} {og : Option Nat} {a : Addr} {u : Value} (h : Beside w og a u) : Beside0 w og a u := ⟨h.1,h.2.1⟩
theorem eat_heap {X : Nat -> Prop} {φ : Phi} {w w' : World} {Ha : Heap} (h : HRel X φ w Ha) {n : Nat} {og : Option Nat} (h1 : ∀ g,og = some g -> ∃ sz,φ[n]? = some (some (g,sz))) (h2 : og = none -> φ.length <= n) {k : Nat} {ys : List AV} (hk : ∀ y ∈ ys,y.cells.length = k) {e : Ending} {T : Nat -> Nat -> Addr -> Value -> Prop} (hp : OwnPost T w og k ys e w') (hT : ∀ g' sz a u,T g' sz a u -> Rd X (φ.set n none ++ [some (g',sz)]) w' a u) :
  ∃ φ' v',e = .returned v' /\ HRel X φ' w' (Ha.set n none ++ [some (flatCells ys)]) /\ Adv φ w φ' w' /\ Rep (Rd X φ' w') φ' (.sl k Ha.length 0 ys.length) v' := by
 obtain ⟨g',cap',arr',e',a',rfl,haa,hcap,hsz,hg',hcell,hgo,hkeep,ho1,ho2,ho3,ho4,ho5⟩ := hp;have hlen := h.len;have hog : ∀ g,og = some g -> Owned φ g := fun g e => by obtain ⟨sz,q⟩ := h1 g e; exact ⟨n,sz,q⟩
 have hfl := flat_len hk
 have sub : ∀ {b : Nat} {p : Nat × Nat},(φ.set n none)[b]? = some (some p) -> φ[b]? = some (some p) /\ b ≠ n := by
  intro b p hb;rw [List.getElem?_set] at hb;split at hb
  ·split at hb <;> simp at hb
  ·rename_i hne; exact ⟨hb,fun e => hne e.symm⟩
 have notg : ∀ {b g0 sz0 : Nat},b ≠ n -> φ[b]? = some (some (g0,sz0)) -> og ≠ some g0 := by
  intro b g0 sz0 hb hφ e;obtain ⟨sz,q⟩ := h1 g0 e;exact hb (h.inj b n g0 sz0 sz hφ q)
 have adv : Adv φ w (φ.set n none ++ [some (g',arr'.size)]) w' := by
  refine ⟨ho1,ho2,ho3,ho4,ho5,fun g0 hlt hno => ⟨hkeep g0 hlt fun e => hno (hog g0 e),fun ho => ?_⟩,⟨by simp,fun b p hb hp => ?_⟩⟩
  ·rcases owned_append ho with q | q
   ·exact hno (owned_set q)
   ·simp only at q;subst q;rcases hgo with e | e
    ·exact hno (hog _ e)
    ·omega
  ·rw [List.getElem?_append_left (by simpa using hb)] at hp;exact (sub hp).1
 refine ⟨φ.set n none ++ [some (g',arr'.size)],_,rfl,?_,adv,?_⟩
 ·refine ⟨by simp [hlen],fun g0 hg0 => Nat.lt_of_lt_of_le (h.xlt g0 hg0) ho5,fun b ds hbd => ?_,fun b hbd => ?_,fun b b' g0 sz0 sz1 e1 e2 => ?_⟩
  ·by_cases hlt : b < Ha.length
   ·rw [List.getElem?_append_left (by simpa using hlt)] at hbd;rw [List.getElem?_set] at hbd;split at hbd
    ·split at hbd <;> simp at hbd
    rename_i hne;obtain ⟨g0,sz0,arr0,e0,p1,p2,p3,p4,p5,p6⟩ := h.live b ds hbd;refine ⟨g0,sz0,arr0,e0,by rw [List.getElem?_append_left (by simp; omega),List.getElem?_set_ne hne]; exact p1,?_,p3,p4,p5,fun i d hd => ?_⟩
    ·rw [hkeep g0 (Array.getElem?_eq_some_iff.1 p2).1 (notg (Ne.symm hne) p1)]; exact p2
    ·obtain ⟨u,u1,u2⟩ := p6 i d hd;exact ⟨u,u1,adv.rep u2⟩
   ·have hbe : b = Ha.length := by have := lt_of_getElem? hbd; simp at this; omega
    subst hbe;rw [List.getElem?_append_right (by simp)] at hbd;simp at hbd;subst hbd;refine ⟨g',arr'.size,arr',e',?_,hg',rfl,?_,?_,fun i d hd => ?_⟩
    ·rw [List.getElem?_append_right (by simp; omega)]; simp [hlen]
    ·rw [hfl];exact Nat.le_trans (Nat.mul_le_mul_right k hcap) hsz
    ·intro hX;rcases hgo with q | q
     ·obtain ⟨sz,hφ⟩ := h1 _ q;cases hb : Ha[n]? with
      | none =>
        have := lt_of_getElem? hφ;rw [List.getElem?_eq_none_iff] at hb;omega
      | some z =>
        cases z with
        | none => have := h.dead n hb; rw [this] at hφ; cases hφ
        | some cs =>
          obtain ⟨g0,sz0,arr0,e0,p1,p2,p3,p4,p5,p6⟩ := h.live n cs hb;rw [p1] at hφ;cases hφ;exact p5 hX
     ·have := h.xlt _ hX; omega
    ·obtain ⟨u,u1,u2⟩ := hcell i d hd;exact ⟨u,u1,(u2.mono (fun a u h => hT _ _ a u h) (.refl _)).mono0 _⟩
  ·by_cases hlt : b < Ha.length
   ·rw [List.getElem?_append_left (by simpa using hlt)] at hbd;rw [List.getElem?_append_left (by simp; omega)];rw [List.getElem?_set] at hbd ⊢;by_cases e : n = b
    ·subst e; simp [show n < φ.length by omega]
    ·rw [if_neg e] at hbd ⊢; exact h.dead b hbd
   ·have hbe : b = Ha.length := by have := lt_of_getElem? hbd; simp at this; omega
    subst hbe;rw [List.getElem?_append_right (by simp)] at hbd;simp at hbd
  ·have new : ∀ (b g0 sz0 : Nat),(φ.set n none ++ [some (g',arr'.size)])[b]? = some (some (g0,sz0)) -> (b < φ.length /\ φ[b]? = some (some (g0,sz0)) /\ b ≠ n /\ g0 < w.heap.size) \/ (b = φ.length /\ g0 = g') := by
    intro b g0 sz0 hb;by_cases hlt : b < φ.length
    ·rw [List.getElem?_append_left (by simpa using hlt)] at hb;obtain ⟨q1,q2⟩ := sub hb;exact .inl ⟨hlt,q1,q2,(h.own_lt ⟨b,sz0,q1⟩).1⟩
    ·have hb' := lt_of_getElem? hb;simp at hb';have hbe : b = φ.length := by omega
     subst hbe;rw [List.getElem?_append_right (by simp)] at hb;simp at hb;exact .inr ⟨rfl,hb.1.symm⟩
   have mix : ∀ {b sz0},φ[b]? = some (some (g',sz0)) -> b ≠ n -> g' < w.heap.size -> False := fun {b sz0} q hb hlt => by
    rcases hgo with e | e
    ·exact notg hb q e
    ·omega
   rcases new b g0 sz0 e1 with ⟨l1,q1,d1,g1⟩ | ⟨l1,g1⟩ <;> rcases new b' g0 sz1 e2 with ⟨l2,q2,d2,g2⟩ | ⟨l2,g2⟩
   ·exact h.inj b b' g0 sz0 sz1 q1 q2
   ·subst g2; exact (mix q1 d1 g1).elim
   ·subst g1; exact (mix q2 d2 g2).elim
   ·omega
 ·refine .sl _ _ _ _ _ _ _ (by simp [hlen]) hcap fun g0 sz0 e0 => ?_;rw [List.getElem?_append_right (by simp; omega)] at e0;simp [hlen] at e0;obtain ⟨rfl,rfl⟩ := e0;exact ⟨haa,by omega⟩
theorem Sim.away {X : Nat -> Prop} {φ φ1 : Phi} {w w1 : World} {N : Names} {s : St} {Ha Ha' : Heap} {t : Nat -> Value} (h : Sim X φ w N s Ha t) {p : Rt} {kp : Nat} {xs : List AV} (hp : ownAt s p = some (kp,xs)) (ad : Adv φ w φ1 w1) (hh : HRel X φ1 w1 Ha') {n : Nat} (hn : N.ν p = some n \/ φ.length <= n) (hall : ∀ m,m ≠ n -> m < Ha.length -> blk Ha' m = blk Ha m) : Sim X φ1 w1 N (setAt (mapSt (sw p) s) p .any) Ha' t := by
 have hpo : (ownAt s p).isSome := by rw [hp]; rfl
 obtain ⟨d1,d2,d3⟩ := h.drop hp;have hlen := h.heap.len;refine d1.adv ad hh (fun q k' zs e => ?_) (fun b hbb => ?_)
 ·have e' := e;rw [d2] at e';split at e'
  ·cases e'
  rename_i hqp;refine (d1.own q k' zs e).same fun m hmq => ?_;have hml := h.own_lt (by rw [e']; rfl) hmq;refine hall m ?_ hml;rintro rfl;rcases hn with hn | hn
  ·exact hqp (h.inj q p m (by rw [e']; rfl) hpo hmq hn)
  ·omega
 ·have hbs : (blk s.H b).isSome := by
   cases e : blk s.H b with
   | none => rw [d3.nbox b e] at hbb; cases hbb
   | some _ => rfl
  have hml := h.box_lt hbs;refine hall _ ?_ hml;intro e;rcases hn with hn | hn
  ·exact h.bx b p hbs hpo (by rw [hn,e])
  ·omega
theorem heap_kill {X : Nat -> Prop} {φ : Phi} {w w' : World} {Ha : Heap} (h : HRel X φ w Ha) {n : Nat} {og : Option Nat} (h1 : ∀ g,og = some g -> ∃ sz,φ[n]? = some (some (g,sz))) (hkeep : ∀ g,g < w.heap.size -> og ≠ some g -> w'.heap[g]? = w.heap[g]?) (ho1 : w'.os = w.os) (ho2 : w'.tape = w.tape) (ho3 : w'.output = w.output) (ho4 : w.drawn <= w'.drawn) (ho5 : w.heap.size <= w'.heap.size) : HRel X (φ.set n none) w' (Ha.set n none) /\ Adv φ w (φ.set n none) w' := by
 have hlen := h.len;have hog : ∀ g,og = some g -> Owned φ g := fun g e => by obtain ⟨sz,q⟩ := h1 g e; exact ⟨n,sz,q⟩
 have sub : ∀ {b : Nat} {p : Nat × Nat},(φ.set n none)[b]? = some (some p) -> φ[b]? = some (some p) /\ b ≠ n := by
  intro b p hb;rw [List.getElem?_set] at hb;split at hb
  ·split at hb <;> simp at hb
  ·rename_i hne; exact ⟨hb,fun e => hne e.symm⟩
 have notg : ∀ {b g0 sz0 : Nat},b ≠ n -> φ[b]? = some (some (g0,sz0)) -> og ≠ some g0 := by
  intro b g0 sz0 hb hφ e;obtain ⟨sz,q⟩ := h1 g0 e;exact hb (h.inj b n g0 sz0 sz hφ q)
 have adv : Adv φ w (φ.set n none) w' := ⟨ho1,ho2,ho3,ho4,ho5,fun g0 hlt hno => ⟨hkeep g0 hlt fun e => hno (hog g0 e),fun ho => hno (owned_set ho)⟩,⟨by simp,fun b p _ hp => (sub hp).1⟩⟩;refine ⟨⟨by simp [hlen],fun g0 hg0 => Nat.lt_of_lt_of_le (h.xlt g0 hg0) ho5,fun b ds hbd => ?_,fun b hbd => ?_,fun b b' g0 sz0 sz1 e1 e2 => h.inj b b' g0 sz0 sz1 (sub e1).1 (sub e2).1⟩,adv⟩
 ·rw [List.getElem?_set] at hbd;split at hbd
  ·split at hbd <;> simp at hbd
  rename_i hne;obtain ⟨g0,sz0,arr0,e0,p1,p2,p3,p4,p5,p6⟩ := h.live b ds hbd;refine ⟨g0,sz0,arr0,e0,by rw [List.getElem?_set_ne hne]; exact p1,?_,p3,p4,p5,fun i d hd => ?_⟩
  ·rw [hkeep g0 (Array.getElem?_eq_some_iff.1 p2).1 (notg (Ne.symm hne) p1)]; exact p2
  ·obtain ⟨u,u1,u2⟩ := p6 i d hd;exact ⟨u,u1,adv.rep u2⟩
 ·rw [List.getElem?_set] at hbd ⊢;by_cases e : n = b
  ·subst e;rw [if_pos rfl] at hbd ⊢;split at hbd
   ·rw [if_pos (by omega)]
   ·cases hbd
  ·rw [if_neg e] at hbd ⊢; exact h.dead b hbd
theorem own_fin {X : Nat -> Prop} {φ : Phi} {w : World} {B : Nat -> Nat} {base : Nat} {N : Names} {s : St} {Ha : Heap} {t : Nat -> Value} (h : Sim X φ w N s Ha t) (hb : (∀ b,b < base -> N.β b = B b) /\ base <= s.H.length) {p : Rt} {kp : Nat} {xs ys : List AV} (hp : ownAt s p = some (kp,xs)) {k : Nat} {T : Nat -> Nat -> Addr -> Value -> Prop} {n : Nat} {og : Option Nat} (h1 : ∀ g,og = some g -> ∃ sz,φ[n]? = some (some (g,sz))) (h2 : og = none -> φ.length <= n) (hn : N.ν p = some n \/ φ.length <= n) (hys : (∀ y ∈ ys,y.cells.length = k) /\ ∀ y ∈ ys,∀ d ∈ y.cells,fz d = true) {e : Ending} {w1 : World} (hpost : OwnPost T w og k ys e w1 \/ (og = none /\ ys = [] /\ e = .returned (.slice none 0 0) /\ Adv [] w [] w1)) (hT : ∀ g' sz a u,T g' sz a u -> Rd X (φ.set n none ++ [some (g',sz)]) w1 a u) :
  ∃ v',e = .returned v' /\ ∃ φ1,PutOK X φ1 w1 B base (setAt (mapSt (sw p) s) p .any) (.own k ys) t v' /\ Adv φ w φ1 w1 := by
  have hpo : (ownAt s p).isSome := by rw [hp]; rfl
  obtain ⟨d1,d2,d3⟩ := h.drop hp;have hb1 : (∀ b,b < base -> N.β b = B b) /\ base <= (setAt (mapSt (sw p) s) p .any).H.length := ⟨hb.1,by rw [d3.len]; exact hb.2⟩;have hlen := h.heap.len;rcases hpost with hpost | hnil
  case inr =>
   obtain ⟨_,rfl,rfl,ad⟩ := hnil;have sim1 : Sim X φ w1 N (setAt (mapSt (sw p) s) p .any) Ha t := d1.adv (.of_same ad) (h.heap.of_same ad) d1.own (fun _ _ => rfl);refine ⟨_,rfl,φ,PutOK.quiet sim1 hb1 ?_ ?_ ?_,.of_same ad⟩
   ·trivial
   ·trivial
   ·simp only [trQ]; exact .nils _
  obtain ⟨φ1,v',rfl,hh,ad,rv⟩ := eat_heap h.heap h1 h2 hys.1 hpost hT;refine ⟨v',rfl,φ1,?_,ad⟩
  have hall : ∀ m,m ≠ n -> m < Ha.length -> blk (Ha.set n none ++ [some (flatCells ys)]) m = blk Ha m := fun m hmn hlt => by
   rw [blk_push,if_neg (by simp; omega)];unfold blk; rw [List.getElem?_set_ne (Ne.symm hmn)]
  have sim1 : Sim X φ1 w1 N (setAt (mapSt (sw p) s) p .any) (Ha.set n none ++ [some (flatCells ys)]) t := h.away hp ad hh hn hall;refine PutOK.fresh sim1 hb1 (n := Ha.length) ⟨flatCells ys,by rw [blk_push,if_pos (by simp)],by rw [flat_len hys.1]; exact Nat.le_refl _,hys.1,fun i d hd => ?_⟩ (fun q hq e => ?_) (fun b hbb e => ?_) rv
  ·obtain ⟨y,hy,hdy⟩ := flatCells_mem (List.mem_of_getElem? hd);have hfd := hys.2 y hy d hdy;exact ⟨hfd,d,hd,(fz_pl hfd).2,Le.refl _⟩
  ·have hq' : (ownAt s q).isSome := by
    rw [d2] at hq;split at hq
    ·cases hq
    ·exact hq
   have := h.own_lt hq' e;omega
  ·have hbs : (blk s.H b).isSome := by
    cases e : blk s.H b with
    | none => rw [d3.nbox b e] at hbb; cases hbb
    | some _ => rfl
   have := h.box_lt hbs;omega
theorem ok_eat (hok : CfgOKB P c) (heat : EatOK P c) {X : Nat -> Prop} {φ : Phi} {w : World} {B : Nat -> Nat} {base : Nat} {s s1 : St} {o : Oper} {a : Act} {f : Nat} {x : E} {es : List E} {v : AV} {fq : Fq} (hk : chkK P o.op (dnK (.call f (x :: es))) = true) (h : SB X φ w B base s (tm a)) (hg : Am.GlOK (cAm c) X φ w) {g : Nat -> List AV -> List AV -> Option (List AV)} (hgf : c.eat f = some g) (hs : eatV s g (opnd c s.env x) (opnds c s.env es) = some (v,s1,fq)) : OkB P X φ w B base s1 v o a := by unfold eatV at hs;cases hs
mutual
theorem pl_bor : ∀ x,pl x = true -> borOf x = []
 | .bor _ _ _ _,h => by simp [pl] at h
 | .pto _ _ _ _,h => by simp [pl] at h
 | .agg cs,h => by simp only [pl] at h; simp only [borOf]; exact pl_borL cs h
 | .tup cs,h => by simp only [pl] at h; simp only [borOf]; exact pl_borL cs h
 | .func _ a b,h => by simp only [pl,Bool.and_eq_true] at h; simp only [borOf,pl_borL a h.1,pl_borL b h.2,List.append_nil]
 | .any,_ => rfl | .undef,_ => rfl | .nilp,_ => rfl | .nilf,_ => rfl | .nils,_ => rfl
 | .int _ _,_ => rfl | .bool _,_ => rfl | .str _,_ => rfl | .list _ _,_ => rfl | .fptr _,_ => rfl | .ptr _ _,_ => rfl | .sl _ _ _ _,_ => rfl | .own _ _,_ => rfl
theorem pl_borL : ∀ xs,plL xs = true -> borL xs = []
 | [],_ => rfl
 | x :: r,h => by simp only [plL,Bool.and_eq_true] at h; simp only [borL,pl_bor x h.1,pl_borL r h.2,List.append_nil]
end
theorem locV_get {s s1 : St} {f : Nat} {x : AV} {es : List AV} {v : AV} {fl : Fq} (h : locV c call s f es x = some (v,s1,fl)) : ∃ b md q cs cs',x = .ptr b 0 /\ c.fn f = some (md,q) /\ blk s.H b = some cs /\ (md.sh = true /\ plL es = true /\ plL cs = true) /\ call f (.ptr 0 0 :: es) [some cs] = some (v,[some cs']) /\ (pl v = true /\ plL cs' = true) /\ s1 = ⟨s.env,s.H.set b (some cs')⟩ /\ fl = .lw b := by
 unfold locV at h;split at h
 case h_2 => cases h
 rename_i b;split at h
 case h_2 => cases h
 rename_i md q cs hf hb;split at h
 case isFalse => cases h
 rename_i hp;split at h
 case h_2 => cases h
 rename_i r cs' hc;split at h
 case isFalse => cases h
 rename_i hr;simp only [Option.some.injEq,Prod.mk.injEq] at h;obtain ⟨rfl,rfl,rfl⟩ := h;exact ⟨b,md,q,cs,cs',rfl,hf,hb,hp,hc,hr,rfl,rfl⟩
theorem locB_get {s s1 : St} {kd : Kd} {v : AV} {fl : Fq} (h : locB c call s kd = some (some (v,s1,fl))) : ∃ f x es b md q cs cs',kd = .call f (x :: es) /\ c.loc f = true /\ opnd c s.env x = .ptr b 0 /\ c.fn f = some (md,q) /\ blk s.H b = some cs /\ (md.sh = true /\ plL (opnds c s.env es) = true /\ plL cs = true) /\ call f (.ptr 0 0 :: opnds c s.env es) [some cs] = some (v,[some cs']) /\ (pl v = true /\ plL cs' = true) /\ s1 = ⟨s.env,s.H.set b (some cs')⟩ /\ fl = .lw b := by
 unfold locB at h;split at h
 case h_2 => cases h
 rename_i f x es;split at h
 case isFalse => cases h
 rename_i hl;simp only [Option.some.injEq] at h;obtain ⟨b,md,q,cs,cs',h1,h2,h3,h4,h5,h6,h7,h8⟩ := locV_get h;exact ⟨f,x,es,b,md,q,cs,cs',rfl,hl,h1,h2,h3,h4,h5,h6,h7,h8⟩
theorem locB_fl {s s1 : St} {kd : Kd} {v : AV} {f : Fq} (h : locB c call s kd = some (some (v,s1,f))) : ∃ b,f = .lw b := by
 obtain ⟨_,_,_,b,_,_,_,_,_,_,_,_,_,_,_,_,_,e⟩ := locB_get h;exact ⟨b,e⟩
theorem plain_box {e : Env} {H : Heap} {d j : Nat} (hp : ∀ cs,blk H d = some cs -> plL cs = true) : ownAt ⟨e,H⟩ (.c d j) = none := by
 cases ho : ownAt ⟨e,H⟩ (.c d j) with
 | none => rfl
 | some y =>
   obtain ⟨k,xs⟩ := y;have h1 := ownAt_iff.1 ho;simp only [at_] at h1;split at h1
   ·rename_i ds hd;have := plL_get' (hp ds hd) j _ h1;simp [pl] at this
   ·cases h1
theorem trP_plain (N : Names) (p : Rt) {z : AV} (hz : pl z = true) : trP N p z = z := by
 cases z <;> first | exact tr_pl N _ hz | (simp [pl] at hz; done)
theorem trO_plain (N : Names) {z : AV} (hz : pl z = true) : trO N z = z := by
 cases z <;> first | exact tr_pl N _ hz | (simp [pl] at hz; done)
theorem Sim.setBox {X : Nat -> Prop} {φ φ1 : Phi} {w w1 : World} {N : Names} {s : St} {Ha Ha' : Heap} {t : Nat -> Value} (h : Sim X φ w N s Ha t) {b : Nat} {cs cs' : List AV} (hb : blk s.H b = some cs) (hpc : plL cs = true) (hpc' : plL cs' = true) (ad : Adv φ w φ1 w1) (hh : HRel X φ1 w1 Ha') (hset : blk Ha' (N.β b) = some cs') (hother : ∀ m,m ≠ N.β b -> blk Ha' m = blk Ha m) : Sim X φ1 w1 N ⟨s.env,s.H.set b (some cs')⟩ Ha' t := by
 have hoa : ∀ p,ownAt ⟨s.env,s.H.set b (some cs')⟩ p = ownAt s p := by
  intro p;cases p with
  | s i => rfl
  | sc i j => rfl
  | c d j =>
    by_cases e : d = b
    ·subst e;rw [plain_box (e := s.env) (H := s.H.set d (some cs')) (d := d) (j := j) fun ds hd => by rw [blk_set,if_pos ⟨rfl,blk_lt hb⟩] at hd; cases hd; exact hpc'];exact (plain_box (e := s.env) (H := s.H) (d := d) (j := j) fun ds hd => by rw [hb] at hd; cases hd; exact hpc).symm
    ·simp only [ownAt,at_];rw [blk_set,if_neg (fun h => e h.1)]
 have hfe : ownAt ⟨s.env,s.H.set b (some cs')⟩ = ownAt s := funext hoa;have hlen : (s.H.set b (some cs')).length = s.H.length := by simp
 have hblk : ∀ d ds,blk (s.H.set b (some cs')) d = some ds -> (d = b /\ ds = cs') \/ (d ≠ b /\ blk s.H d = some ds) := by
  intro d ds e;by_cases e2 : d = b
  ·subst e2;rw [blk_set,if_pos ⟨rfl,blk_lt hb⟩] at e;cases e;exact .inl ⟨rfl,rfl⟩
  ·rw [blk_set,if_neg (fun h => e2 h.1)] at e;exact .inr ⟨e2,e⟩
 have hsome : ∀ d,(blk (s.H.set b (some cs')) d).isSome -> (blk s.H d).isSome := by
  intro d e;obtain ⟨ds,hd⟩ := Option.isSome_iff_exists.1 e;rcases hblk d ds hd with ⟨rfl,_⟩ | ⟨_,h2⟩
  ·rw [hb]; rfl
  ·rw [h2]; rfl
 have hbs : (blk s.H b).isSome := by rw [hb]; rfl
 refine ⟨fun i => ad.rep (h.env i),fun i => ?_,hh,fun p k xs e => ?_,fun d ds e => ?_,fun p q n e1 e2 => ?_,fun d p e1 e2 => ?_,fun d e0 e1 e2 e3 => ?_⟩
 ·rw [hfe];show okV _ (s.H.set b (some cs')).length _;rw [hlen]; exact h.oke i
 ·rw [hoa] at e;have ho := h.own p k xs e;cases hn : N.ν p with
  | none => rw [hn] at ho; exact ho
  | some m =>
    rw [hn] at ho;obtain ⟨ds,d1,d2⟩ := ho;have hne : m ≠ N.β b := fun e2 => h.bx b p hbs (by rw [e]; rfl) (by rw [hn,e2]);exact ⟨ds,by rw [hother _ hne]; exact d1,d2⟩
 ·rcases hblk d ds e with ⟨rfl,rfl⟩ | ⟨hd,hd2⟩
  ·exact ⟨_,hset,rfl,fun j d hd => ⟨ok_pl _ (plL_get' hpc' j d hd),d,hd,by rw [trP_plain _ _ (plL_get' hpc' j d hd)]; exact Le.refl _⟩⟩
  ·obtain ⟨as2,x1,x2,x3⟩ := h.box d ds hd2;have hne : N.β d ≠ N.β b := fun h2 => hd (h.bi d b (by rw [hd2]; rfl) hbs h2);refine ⟨as2,by rw [hother _ hne]; exact x1,x2,fun j d' hd' => ?_⟩;obtain ⟨y1,y2⟩ := x3 j d' hd';refine ⟨?_,y2⟩;rw [hfe];show okV _ (s.H.set b (some cs')).length _;rw [hlen]; exact y1
 ·rw [hoa] at e1 e2; exact h.inj p q n e1 e2
 ·rw [hoa] at e2; exact h.bx d p (hsome d e1) e2
 ·exact h.bi d e0 (hsome d e1) (hsome e0 e2) e3
theorem plL_of : ∀ {l : List AV},(∀ y ∈ l,pl y = true) -> plL l = true
 | [],_ => rfl
 | x :: r,h => by simp only [plL,Bool.and_eq_true]; exact ⟨h x (by simp),plL_of fun y hy => h y (by simp [hy])⟩
theorem flat_id : ∀ {l : List AV},(∀ y ∈ l,y.cells = [y]) -> flatCells l = l
 | [],_ => rfl
 | x :: r,h => by
   simp only [flatCells];rw [h x (by simp),flat_id fun y hy => h y (by simp [hy])];rfl
theorem fz_cells {x : AV} (h : fz x = true) : x.cells = [x] := by
 have := (fz_pl h).2;cases x <;> first | rfl | (simp [AV.leaf] at this; done)
theorem ok_inpS (hok : CfgOKB P c) (hinp : InpOK0 P c) {X : Nat -> Prop} {φ : Phi} {w : World} {B : Nat -> Nat} {base : Nat} {s : St} {o : Oper} {a : Act} {f : Nat} {x : E} {es : List E} {g : Nat -> List AV -> List AV -> Option (List AV × Option Nat)} (hk : chkK P o.op (dnK (.call f (x :: es))) = true) (h : SB X φ w B base s (tm a)) (hg : Am.GlOK (cAm c) X φ w) (hgf : c.inp f = some g) {k b len : Nat} {cs ys : List AV} {res : Option Nat} (hx : opnd c s.env x = .sl k b 0 len) (hb : blk s.H b = some cs) (hc : k = 1 /\ len <= cs.length /\ fzL cs = true /\ plL (opnds c s.env es) = true) (hgr : g k (cs.take len) (opnds c s.env es) = some (ys,res)) : OkB P X φ w B base ⟨s.env,s.H.set b (some (flatCells ys ++ cs.drop len))⟩ (inpS k b res) o a := by
 obtain ⟨rfl,hle,hfz,hpl⟩ := hc;obtain ⟨⟨md,q,hf⟩,hI⟩ := hinp f g hgf;obtain ⟨N,Ha,h,hbb⟩ := h;obtain ⟨vargs,hrun,hA,hokl⟩ := enter_call0 (kd := .call f (x :: es)) (args := opnd c s.env x :: opnds c s.env es) hok h hg hk rfl hf;rw [hx] at hA hokl;have hl : (opnds c s.env es).length + 1 = vargs.size := by have := hA.1; simpa using this
 obtain ⟨v0,hv0⟩ := agetElem?_some_of (l := vargs) (i := 0) (by omega);have r0 := hA.2 0 _ v0 rfl hv0
 have hes : ∀ (i : Nat) (e : AV) (u : Value),(opnds c s.env es)[i]? = some e -> vargs[i + 1]? = some u -> Rep (Rd X φ w) [] e u := fun i e u he hu => by
  have r1 := hA.2 (i + 1) e u (by simpa using he) hu;have hpe := plL_get' hpl i e he;have ht : trO N e = e := by cases e <;> first | exact tr_pl N _ hpe | (simp [pl] at hpe; done)
  rw [ht] at r1;exact r1.of_plain (pl_plain _ hpe) []
 simp only [trO,trV] at r0;obtain ⟨as,b1,b2,b3⟩ := h.box b cs hb;have hce : ∀ y ∈ cs,y.cells = [y] := fun y hy => fz_cells (fzL_mem hfz y hy);have hpc : plL cs = true := plL_of fun y hy => (fz_pl (fzL_mem hfz y hy)).1
 have hH1 : HRel X φ w (Ha.set (N.β b) (some cs)) := less h.heap b1 (by omega) fun i d hd => by
  obtain ⟨_,a',a1,a2⟩ := b3 i d hd;rw [trP_plain N _ (plL_get' hpc i d hd)] at a2;exact ⟨a',a1,a2⟩
 have htd : flatCells (cs.take len ++ cs.drop len) = cs := by rw [List.take_append_drop]; exact flat_id hce
 have hlt : (cs.take len).length = len := by rw [List.length_take]; omega
 obtain ⟨⟨⟨j1,j2⟩,j3,j4⟩,_,j6⟩ := hI 1 _ _ ys res hgr (fun y hy => by rw [hce y (List.mem_of_mem_take hy)]; rfl) (fun y hy d hd => by
  have hy' := List.mem_of_mem_take hy;rw [hce y hy'] at hd;simp at hd;subst hd;exact fzL_mem hfz d hy')
 have hcalls := j6 X φ w (Ha.set (N.β b) (some cs)) (N.β b) (cs.drop len) vargs v0 hH1 (by rw [htd,blk_set,if_pos ⟨rfl,blk_lt b1⟩]) hl hv0 (by rw [hlt]; exact r0) hes;intro K Q hK;unfold Oper.wp;rw [hrun,Oper.upon_enter];refine hcalls.mono ?_;rintro e w1 ⟨v',φ1,rfl,rv,hh,ad⟩;rw [List.set_set,flatCells_app,flat_id (l := cs.drop len) fun y hy => hce y (List.mem_of_mem_drop hy)] at hh
 have hpn : plL (flatCells ys ++ cs.drop len) = true := plL_of fun y hy => by
  rcases List.mem_append.1 hy with hy | hy
  ·obtain ⟨z,hz,hd⟩ := flatCells_mem hy;exact (fz_pl (j3 z hz y hd)).1
  ·exact (fz_pl (fzL_mem hfz y (List.mem_of_mem_drop hy))).1
 have sim1 := h.setBox (cs' := flatCells ys ++ cs.drop len) hb hpc hpn ad hh (by rw [blk_set,if_pos ⟨rfl,blk_lt b1⟩]) fun m hm => by rw [blk_set,if_neg (fun h => hm h.1)]
 refine hK v' w1 φ1 (PutOK.quiet sim1 ⟨hbb.1,by simpa using hbb.2⟩ ?_ ?_ ?_) ad
 ·cases res with
  | none => trivial
  | some m =>
    show b < (s.H.set b _).length;rw [List.length_set]; exact blk_lt hb
 ·cases res <;> trivial
 ·cases res with
  | none => simpa [inpS,trQ,trV,trL] using rv
  | some m => simpa [inpS,trQ,trV] using rv
theorem ok_inp (hok : CfgOKB P c) (hinp : InpOK P c) {X : Nat -> Prop} {φ : Phi} {w : World} {B : Nat -> Nat} {base : Nat} {s s1 : St} {o : Oper} {a : Act} {kd : Kd} {v : AV} {fq : Fq} (hk : chkK P o.op (dnK kd) = true) (h : SB X φ w B base s (tm a)) (hg : Am.GlOK (cAm c) X φ w) (hs : inpB c s kd = some (some (v,s1,fq))) : OkB P X φ w B base s1 v o a := by
 unfold inpB at hs;split at hs
 case h_2 => cases hs
 rename_i f x es;split at hs
 case h_1 =>
  split at hs
  ·cases hs
  ·rename_i g hgf;simp only [Option.some.injEq] at hs;exact ok_eat hok hinp.2 hk h hg hgf hs
 replace hinp := hinp.1;rename_i g hgf;simp only [Option.some.injEq] at hs;split at hs
 case h_4 => cases hs
 case h_3 =>
  rename_i k b len hx;split at hs
  case h_2 => cases hs
  rename_i cs hb;split at hs
  case isFalse => cases hs
  rename_i hc;split at hs
  case h_2 => cases hs
  rename_i ys res hgr;simp only [Option.some.injEq,Prod.mk.injEq] at hs;obtain ⟨rfl,rfl,_⟩ := hs;exact ok_inpS hok hinp hk h hg hgf hx hb hc hgr
 ·rename_i k hx;split at hs
  case isFalse => cases hs
  rename_i hpl;split at hs
  case h_2 => cases hs
  rename_i ys res hgr;simp only [Option.some.injEq,Prod.mk.injEq] at hs;obtain ⟨rfl,rfl,_⟩ := hs;obtain ⟨⟨md,q,hf⟩,hI⟩ := hinp f g hgf;obtain ⟨N,Ha,h,hb⟩ := h;obtain ⟨vargs,hrun,hA,hokl⟩ := enter_call0 (kd := .call f (x :: es)) (args := opnd c s.env x :: opnds c s.env es) hok h hg hk rfl hf;rw [hx] at hA hokl;have hl : (opnds c s.env es).length + 1 = vargs.size := by have := hA.1; simpa using this
  obtain ⟨v0,hv0⟩ := agetElem?_some_of (l := vargs) (i := 0) (by omega);have r0 := hA.2 0 _ v0 rfl hv0
  have hes : ∀ (i : Nat) (e : AV) (u : Value),(opnds c s.env es)[i]? = some e -> vargs[i + 1]? = some u -> Rep (Rd X φ w) [] e u := fun i e u he hu => by
   have r1 := hA.2 (i + 1) e u (by simpa using he) hu;have hpe := plL_get' hpl i e he;have ht : trO N e = e := by cases e <;> first | exact tr_pl N _ hpe | (simp [pl] at hpe; done)
   rw [ht] at r1;exact r1.of_plain (pl_plain _ hpe) []
  obtain ⟨_,j3,_⟩ := hI k _ _ ys res hgr (fun y hy => by simp at hy) (fun y hy => by simp at hy);simp only [trO,trV] at r0;have hcalls := j3 rfl X φ w vargs v0 _ (.inr rfl) hl hv0 r0 hes;intro K Q hK;unfold Oper.wp;rw [hrun,Oper.upon_enter];refine hcalls.mono ?_;rintro e w1 ⟨v',rfl,rv,ad⟩;have sim1 : Sim X φ w1 N s Ha (tm a) := h.adv (.of_same ad) (h.heap.of_same ad) h.own (fun _ _ => rfl);refine hK v' w1 φ (PutOK.quiet sim1 hb ?_ ?_ ?_) (.of_same ad)
  ·cases res <;> trivial
  ·cases res <;> trivial
  ·cases res with
   | none => simpa [inpL,trQ,trV,trL] using rv
   | some m => simpa [inpL,trQ,trV] using rv
 rename_i k p len hx;split at hs
 case h_2 => cases hs
 rename_i k' xs hp;split at hs
 case isFalse => cases hs
 rename_i hc;obtain ⟨rfl,hle,hpl⟩ := hc;split at hs
 case h_2 => cases hs
 rename_i ys res hgr;simp only [Option.some.injEq,Prod.mk.injEq] at hs;obtain ⟨rfl,rfl,_⟩ := hs;obtain ⟨⟨md,q,hf⟩,hI⟩ := hinp f g hgf;obtain ⟨N,Ha,h,hb⟩ := h;obtain ⟨vargs,hrun,hA,hokl⟩ := enter_call0 (kd := .call f (x :: es)) (args := opnd c s.env x :: opnds c s.env es) hok h hg hk rfl hf;rw [hx] at hA hokl;have hl : (opnds c s.env es).length + 1 = vargs.size := by have := hA.1; simpa using this
 obtain ⟨v0,hv0⟩ := agetElem?_some_of (l := vargs) (i := 0) (by omega);have r0 := hA.2 0 _ v0 rfl hv0
 have hes : ∀ (i : Nat) (e : AV) (u : Value),(opnds c s.env es)[i]? = some e -> vargs[i + 1]? = some u -> Rep (Rd X φ w) [] e u := fun i e u he hu => by
  have r1 := hA.2 (i + 1) e u (by simpa using he) hu;have hpe := plL_get' hpl i e he;have ht : trO N e = e := by cases e <;> first | exact tr_pl N _ hpe | (simp [pl] at hpe; done)
  rw [ht] at r1;exact r1.of_plain (pl_plain _ hpe) []
 have hown := h.own p k' xs hp;cases hn : N.ν p with
 | none =>
   rw [hn] at hown;have hxs : xs = [] := hown;subst hxs;have h0 : len = 0 := by simpa using hle
   subst h0;obtain ⟨⟨⟨j1,_⟩,_,j2⟩,j3,_⟩ := hI k' _ _ ys res hgr (fun y hy => by simp at hy) (fun y hy => by simp at hy);have hys : ys = [] := by simpa using j1
   subst hys;simp only [trO,trV,hn] at r0;have hcalls := j3 (by simp) X φ w vargs v0 _ (.inl rfl) hl hv0 r0 hes;intro K Q hK;unfold Oper.wp;rw [hrun,Oper.upon_enter];refine hcalls.mono ?_;rintro e w1 ⟨v',rfl,rv,ad⟩;obtain ⟨se,sH⟩ := setAt_self (s := s) (p := p) (v := .own k' []) (ownAt_iff.1 hp);have sim1 : Sim X φ w1 N (setAt s p (.own k' ([] ++ ([] : List AV).drop 0))) Ha (tm a) := (h.adv (.of_same ad) (h.heap.of_same ad) h.own (fun _ _ => rfl)).ext se sH;refine hK v' w1 φ (PutOK.quiet sim1 ⟨hb.1,by show base <= (setAt s p (.own k' [])).H.length; rw [sH]; exact hb.2⟩ ?_ ?_ ?_) (.of_same ad)
   ·cases res with
    | none => trivial
    | some m =>
      have := j2 m rfl;simp at this;subst this
      exact ⟨[],by
       show ownAt (setAt s p (.own k' [])) p = _;rw [ownAt_ext se sH]; exact hp,by simp⟩
   ·cases res <;> trivial
   ·cases res with
    | none => simpa [inpV,trQ,trV,trL] using rv
    | some m => simpa [inpV,trQ,trV,hn] using rv
 | some n =>
   rw [hn] at hown;obtain ⟨cs,c1,c2,c3,c4⟩ := hown;have hxs : xs.take len ++ xs.drop len = xs := List.take_append_drop len xs
   have hfz : ∀ y ∈ xs,∀ d ∈ y.cells,fz d = true := by
    intro y hy d hd
    have : d ∈ flatCells xs := by
     clear c1 c2 c3 c4 hgr hp hle hxs hA r0 hokl hx hv0 hes
     induction xs with
     | nil => simp at hy
     | cons z r ih =>
       simp only [flatCells,List.mem_append];rcases List.mem_cons.1 hy with e | e
       ·subst e; exact .inl hd
       ·exact .inr (ih e)
    obtain ⟨i,hi⟩ := List.getElem?_of_mem this;exact (c4 i d hi).1
   obtain ⟨⟨⟨j1,j2⟩,j3,j4⟩,_,j6⟩ := hI k' _ _ ys res hgr (fun y hy => c3 y (List.mem_of_mem_take hy)) (fun y hy => hfz y (List.mem_of_mem_take hy));have hlt : (xs.take len).length = len := by simp; omega
   rw [hlt] at j1
   have hH1 : HRel X φ w (Ha.set n (some (flatCells xs))) := less h.heap c1 (by rw [flat_len c3]; exact c2) fun i d hd => by
    obtain ⟨_,a',b1,_,b2⟩ := c4 i d hd;exact ⟨a',b1,b2⟩
   simp only [trO,trV,hn,Nat.zero_mul] at r0;have hcalls := j6 X φ w (Ha.set n (some (flatCells xs))) n (xs.drop len) vargs v0 hH1 (by rw [hxs,blk_set,if_pos ⟨rfl,blk_lt c1⟩]) hl hv0 (by rw [hlt]; exact r0) hes;intro K Q hK;unfold Oper.wp;rw [hrun,Oper.upon_enter];refine hcalls.mono ?_;rintro e w1 ⟨v',φ1,rfl,rv,hh,ad⟩;rw [List.set_set] at hh
   have hlen' : ∀ y ∈ ys ++ xs.drop len,y.cells.length = k' := fun y hy => by
    rcases List.mem_append.1 hy with hy | hy
    ·exact j2 y hy
    ·exact c3 y (List.mem_of_mem_drop hy)
   have hnew : OwnH (Ha.set n (some (flatCells (ys ++ xs.drop len)))) (some n) k' (ys ++ xs.drop len) := by
    refine ⟨flatCells (ys ++ xs.drop len),by rw [blk_set,if_pos ⟨rfl,blk_lt c1⟩],by rw [flat_len hlen']; exact Nat.le_refl _,hlen',fun i d hd => ?_⟩;have hm := flatCells_mem (List.mem_of_getElem? hd);obtain ⟨y,hy,hdy⟩ := hm
    have hfd : fz d = true := by
     rcases List.mem_append.1 hy with hy | hy
     ·exact j3 y hy d hdy
     ·exact hfz y (List.mem_of_mem_drop hy) d hdy
    exact ⟨hfd,d,hd,(fz_pl hfd).2,Le.refl _⟩
   obtain ⟨sim1,hsh⟩ := h.upd (xs' := ys ++ xs.drop len) hp hn (by simp; omega) ad hh hnew (fun m hmn => by rw [blk_set,if_neg (fun e => hmn e.1)])
   have hop : ownAt (setAt s p (.own k' (ys ++ xs.drop len))) p = some (k',ys ++ xs.drop len) := by
    have hat := ownAt_iff.1 hp;refine ownAt_iff.2 ?_;rw [at_set ⟨(fun cs e => by cases e),_,hat,(fun cs e => by cases e)⟩ (ownAt_lf (by rw [hp]; rfl)),if_pos rfl]
   refine hK v' w1 φ1 (PutOK.quiet sim1 ⟨hb.1,by rw [hsh.len]; exact hb.2⟩ ?_ ?_ ?_) ad
   ·cases res with
    | none => trivial
    | some m =>
      have := j4 m rfl;refine ⟨_,hop,?_⟩;rw [List.length_append];omega
   ·cases res <;> trivial
   ·cases res with
    | none => simpa [inpV,trQ,trV,trL] using rv
    | some m => simpa [inpV,trQ,trV,hn] using rv
theorem ok_loc (hok : CfgOKB P c) (hcall : CallOKB P c call) {X : Nat -> Prop} {φ : Phi} {w : World} {B : Nat -> Nat} {base : Nat} {s s1 : St} {o : Oper} {a : Act} {kd : Kd} {v : AV} {fq : Fq} (hk : chkK P o.op (dnK kd) = true) (h : SB X φ w B base s (tm a)) (hg : Am.GlOK (cAm c) X φ w) (hs : locB c call s kd = some (some (v,s1,fq))) : OkB P X φ w B base s1 v o a := by
 obtain ⟨f,x,es,b,md,q,cs,cs',rfl,hl,hx,hf,hb,⟨hsh,hpl,hpc⟩,hc,⟨hpr,hpc'⟩,rfl,rfl⟩ := locB_get hs;obtain ⟨N,Ha,h,hbb⟩ := h;obtain ⟨vargs,hrun,hA,hokl⟩ := enter_call0 (kd := .call f (x :: es)) (args := opnd c s.env x :: opnds c s.env es) hok h hg hk rfl hf;rw [hx] at hA hokl;generalize opnds c s.env es = as at hpl hc hA hokl;obtain ⟨bs,b1,b2,b3⟩ := h.box b cs hb;obtain ⟨g,sz,arr,te,g1,g2,g3,g4,g5,g6⟩ := h.heap.at b1;have og : Owned φ g := ⟨_,sz,g1⟩
 have ow : ∀ g0,Owned [some (g,sz)] g0 -> g0 = g := by
  rintro g0 ⟨i,z,hi⟩;cases i with
  | zero => simp at hi; exact hi.1.symm
  | succ i => simp at hi
 have rdin : ∀ a u,Rd X φ w a u -> Rd (fun g0 => X g0 \/ (Owned φ g0 /\ g0 ≠ g)) [some (g,sz)] w a u := fun a u ⟨h1,h2,h3⟩ => ⟨fun h => h.elim h1 (fun h => h2 h.1),fun ho => h2 (by rw [ow _ ho]; exact og),h3⟩
 have hh : HRel (fun g0 => X g0 \/ (Owned φ g0 /\ g0 ≠ g)) [some (g,sz)] w [some cs] := by
  refine ⟨rfl,fun g0 h0 => h0.elim (h.heap.xlt g0) (fun ho => (h.heap.own_lt ho.1).1),fun i ds hi => ?_,fun i hi => ?_,fun i i' g0 z z' e1 e2 => ?_⟩
  ·cases i with
   | succ i => simp at hi
   | zero =>
     simp at hi;subst hi;refine ⟨g,sz,arr,te,rfl,g2,g3,by omega,fun h0 => h0.elim g5 (fun h1 => h1.2 rfl),fun j d hd => ?_⟩;obtain ⟨_,a',ha',hle⟩ := b3 j d hd;obtain ⟨u,u1,u2⟩ := g6 j a' ha';have hpd := plL_get' hpc j d hd;rw [trP_plain N _ hpd] at hle;exact ⟨u,u1,((hle _ _ _ u2).of_plain (pl_plain _ hpd) _).mono rdin (.refl _)⟩
  ·cases i with
   | zero => simp at hi
   | succ i => simp at hi
  ·cases i with
   | succ i => simp at e1
   | zero => cases i' with
     | zero => rfl
     | succ i' => simp at e2
 have hgi : ∀ i,get (mkEnv 0 (AV.ptr 0 0 :: as)) i = (AV.ptr 0 0 :: as)[i]?.getD .any := fun i => by rw [get_mkEnv]; simp
 have hcase : ∀ i,(get (mkEnv 0 (AV.ptr 0 0 :: as)) i = .ptr 0 0 /\ i = 0) \/ pl (get (mkEnv 0 (AV.ptr 0 0 :: as)) i) = true := fun i => by
  rw [hgi];cases i with
  | zero => exact .inl ⟨rfl,rfl⟩
  | succ i =>
    refine .inr ?_;simp only [List.getElem?_cons_succ];cases e : as[i]? with
    | none => rfl
    | some x => exact plL_get' hpl i x e
 have hno : ∀ p,ownAt ⟨mkEnv 0 (AV.ptr 0 0 :: as),[some cs]⟩ p = none := by
  have hw : ∀ i,hasOwn (get (mkEnv 0 (AV.ptr 0 0 :: as)) i) = false := fun i => (hcase i).elim (fun e => by rw [e.1]; rfl) pl_own;intro p;cases p with
  | s i => exact (hasOwn_at (s := ⟨mkEnv 0 (AV.ptr 0 0 :: as),[some cs]⟩) (hw i)).1
  | sc i j => exact (hasOwn_at (s := ⟨mkEnv 0 (AV.ptr 0 0 :: as),[some cs]⟩) (hw i)).2 j
  | c d j =>
    refine plain_box fun ds hd => ?_;cases d with
    | zero => simp [blk] at hd; subst hd; exact hpc
    | succ d => simp [blk] at hd
 have hsz : as.length + 1 = vargs.size := by simpa using hA.1
 have hsb : SB (fun g0 => X g0 \/ (Owned φ g0 /\ g0 ≠ g)) [some (g,sz)] w (fun _ => 0) 1 ⟨mkEnv 0 (AV.ptr 0 0 :: as),[some cs]⟩ (fun i => vargs.getD i undef) := by
  refine ⟨⟨fun _ => 0,fun _ => none⟩,[some cs],⟨fun i => ?_,fun i => ?_,hh,fun p k xs e => ?_,fun d ds e => ?_,fun p q n e1 => ?_,fun d p _ e1 => ?_,fun d e0 e1 e2 _ => ?_⟩,fun b hb => rfl,by simp⟩
  ·show Rep _ _ (trS _ i (get (mkEnv 0 (AV.ptr 0 0 :: as)) i)) _;rcases hcase i with ⟨e,rfl⟩ | hp
   ·rw [e];obtain ⟨v0,hv0⟩ := agetElem?_some_of (l := vargs) (i := 0) (by omega);have r0 := hA.2 0 _ v0 rfl hv0;rw [Array.getD_eq_getD_getElem?,hv0];simp only [trO,trV] at r0;cases r0 with
    | ptr _ _ _ ad hb' h' =>
      refine .ptr _ _ _ _ (by simp) fun g0 z e => ?_;simp at e;obtain ⟨rfl,rfl⟩ := e;exact h' g sz g1
   ·rw [trS_pl _ _ hp];cases i with
    | zero => rw [hgi] at hp; simp [pl] at hp
    | succ i =>
      rw [hgi] at hp ⊢;simp only [List.getElem?_cons_succ] at hp ⊢;cases e : as[i]? with
      | none => exact .any _ _
      | some y =>
        rw [e] at hp;simp only [Option.getD_some] at hp ⊢;obtain ⟨v,hv⟩ := agetElem?_some_of (l := vargs) (i := i + 1) (by have := lt_of_getElem? e; omega);have r0 := hA.2 (i + 1) y v (by simpa using e) hv;rw [trO_plain N hp] at r0;rw [Array.getD_eq_getD_getElem?,hv];exact (r0.of_plain (pl_plain _ hp) _).mono rdin (.refl _)
  ·show okV _ _ (get (mkEnv 0 (AV.ptr 0 0 :: as)) i);rcases hcase i with ⟨e,_⟩ | hp
   ·rw [e]; simp [okV]
   ·exact ok_pl _ hp
  ·rw [hno] at e; cases e
  ·cases d with
   | succ d => simp [blk] at e
   | zero =>
     simp [blk] at e;subst e;exact ⟨cs,rfl,rfl,fun j d hd => ⟨ok_pl _ (plL_get' hpc j d hd),d,hd,by rw [trP_plain _ _ (plL_get' hpc j d hd)]; exact Le.refl _⟩⟩
  ·rw [hno] at e1; cases e1
  ·rw [hno] at e1; cases e1
  ·cases d with
   | succ d => simp [blk] at e1
   | zero => cases e0 with
     | succ d => simp [blk] at e2
     | zero => rfl
 have hcalls := hcall f md q hf (AV.ptr 0 0 :: as) [some cs] v [some cs'] (.inl hsh) hc (fun _ => by simp [allB,pl_borL _ hpc',anyR]) _ _ w (fun _ => 0) vargs (by simpa using hA.1) hsb (fun g0 => (hg g0).mono rdin (.refl _));intro K Q hK;unfold Oper.wp;rw [hrun,Oper.upon_enter];refine hcalls.mono ?_;rintro e w1 ⟨v',φ1,rfl,⟨N1,H1,sim1,hb1,_⟩,ad⟩;obtain ⟨as1,c1,c2,c3⟩ := sim1.box 0 cs' rfl;rw [hb1 0 (by simp)] at c1;obtain ⟨g',sz',arr1,te1,k1,k2,k3,k4,k5,k6⟩ := sim1.heap.at c1;have hgg := ad.phi.old 0 _ (by simp) k1;simp at hgg;obtain ⟨rfl,rfl⟩ := hgg;have ow2 : Owned φ1 g := ⟨0,sz,k1⟩;have rdout : ∀ a u,Rd (fun g0 => X g0 \/ (Owned φ g0 /\ g0 ≠ g)) φ1 w1 a u -> Rd X φ w1 a u := fun a u ⟨h1,h2,h3⟩ => ⟨fun h => h1 (.inl h),fun ho => h1 (.inr ⟨ho,fun e => h2 (by rw [e]; exact ow2)⟩),h3⟩;have adv : Adv φ w φ w1 := ⟨ad.os,ad.tape,ad.output,ad.drawn,ad.size,fun g0 hlt hno' => ⟨(ad.keep g0 hlt (fun ho => hno' (by rw [ow _ ho]; exact og))).1,hno'⟩,.refl _⟩
 have hh2 : HRel X φ w1 (Ha.set (N.β b) (some cs')) := by
  refine ⟨by simp [h.heap.len],fun g0 h0 => Nat.lt_of_lt_of_le (h.heap.xlt g0 h0) ad.size,fun m ds hm => ?_,fun m hm => ?_,h.heap.inj⟩
  ·rw [List.getElem?_set] at hm;split at hm
   ·rename_i e;subst e;split at hm
    ·simp at hm;subst hm;refine ⟨g,sz,arr1,te1,g1,k2,k3,by omega,g5,fun j d hd => ?_⟩;obtain ⟨_,a',ha',hle⟩ := c3 j d hd;obtain ⟨u,u1,u2⟩ := k6 j a' ha';have hpd := plL_get' hpc' j d hd;rw [trP_plain N1 _ hpd] at hle;exact ⟨u,u1,((hle _ _ _ u2).of_plain (pl_plain _ hpd) _).mono rdout (.refl _)⟩
    ·cases hm
   ·rename_i hne;obtain ⟨g0,sz0,arr0,e0,p1,p2,p3,p4,p5,p6⟩ := h.heap.live m ds hm;have hg0 : g0 ≠ g := fun e => hne (h.heap.inj _ _ _ _ _ g1 (e ▸ p1));refine ⟨g0,sz0,arr0,e0,p1,?_,p3,p4,p5,fun j d hd => ?_⟩
    ·rw [(ad.keep g0 (Array.getElem?_eq_some_iff.1 p2).1 (fun ho => hg0 (ow _ ho))).1]; exact p2
    ·obtain ⟨u,u1,u2⟩ := p6 j d hd;exact ⟨u,u1,adv.rep u2⟩
  ·rw [List.getElem?_set] at hm;split at hm
   ·split at hm <;> simp at hm
   ·exact h.heap.dead m hm
 have hlen : (s.H.set b (some cs')).length = s.H.length := by simp
 have sim2 : Sim X φ w1 N ⟨s.env,s.H.set b (some cs')⟩ (Ha.set (N.β b) (some cs')) (tm a) := h.setBox hb hpc hpc' adv hh2 (by rw [blk_set,if_pos ⟨rfl,blk_lt b1⟩]) fun m hm => by rw [blk_set,if_neg (fun h => hm h.1)]
 have hno2 := pl_own hpr;have r0 := sim1.env 0;simp only [Am.get,if_true] at r0;rw [trS_pl N1 0 hpr] at r0;refine hK v' w1 φ (PutOK.quiet sim2 ⟨hbb.1,by show base <= (s.H.set b (some cs')).length; rw [hlen]; exact hbb.2⟩ (ok_pl v hpr) (hasOwn_eo hno2) ?_) adv;rw [trQ_trV N hno2,tr_pl N _ hpr];exact (r0.of_plain (pl_plain _ hpr) _).mono rdout (.refl _)
theorem ok_mov (hok : CfgOKB P c) (hcall : CallOKB P c call) {X : Nat -> Prop} {φ : Phi} {w : World} {B : Nat -> Nat} {base : Nat} {s s1 : St} {o : Oper} {a : Act} {v : AV} {fq : Fq} {f i : Nat} {es : List E} (hk : chkK P o.op (dnK (.call f es)) = true) (h : SB X φ w B base s (tm a)) (hg : Am.GlOK (cAm c) X φ w) (hs : movV c call f i s (opnds c s.env es) = some (v,s1,fq)) : OkB P X φ w B base s1 v o a := by
 unfold movV at hs;split at hs
 case h_2 => cases hs
 rename_i md q k p len hf hai;split at hs
 case h_2 => cases hs
 rename_i k' xs hp;split at hs
 case isFalse => cases hs
 rename_i hc;obtain ⟨hsh,rfl,rfl,hpl⟩ := hc;split at hs
 case h_2 => cases hs
 rename_i k2 ys H' hcl;simp only [Option.some.injEq,Prod.mk.injEq] at hs;obtain ⟨rfl,rfl,_⟩ := hs;obtain ⟨N,Ha,h,hb⟩ := h;obtain ⟨vargs,hrun,hA,hokl⟩ := enter_call0 (kd := .call f es) (args := opnds c s.env es) hok h hg hk rfl hf;generalize opnds c s.env es = args at hai hpl hcl hA hokl;have hil : i < args.length := lt_of_getElem? hai;have hown := h.own p k' xs hp;have hpo : (ownAt s p).isSome := by rw [hp]; rfl
 obtain ⟨vi,hvi⟩ := agetElem?_some_of (l := vargs) (i := i) (by have := hA.1; omega);have ri := hA.2 i _ vi hai hvi;simp only [trO,trV,Nat.zero_mul] at ri
 -- the other arguments
 have oth : ∀ (j : Nat) (x : AV) (u : Value),j ≠ i -> ((args.map nilL).set i (.own k' xs))[j]? = some x -> vargs[j]? = some u -> pl x = true /\ Rep (Rd X φ w) [] x u := by
  intro j x u hj hx hu;rw [List.getElem?_set_ne (Ne.symm hj),List.getElem?_map] at hx;cases haj : args[j]? with
  | none => rw [haj] at hx; cases hx
  | some y =>
    rw [haj] at hx;simp at hx;subst hx;have hpy := plL_get' hpl j (nilL y) (by rw [List.getElem?_set_ne (Ne.symm hj),List.getElem?_map,haj]; rfl);refine ⟨hpy,?_⟩;have r0 := hA.2 j y u haj hu;by_cases ho : ∃ k,y = .own k []
    ·obtain ⟨k,rfl⟩ := ho;simp only [trO] at r0;cases r0;exact .lst0 _ _
    ·have hn : nilL y = y := by
      unfold nilL;split
      ·rename_i k; exact absurd ⟨k,rfl⟩ ho
      ·rfl
     rw [hn] at hpy ⊢;have hy : trO N y = y := by cases y <;> first | exact tr_pl N _ hpy | (simp [pl] at hpy; done)
     rw [hy] at r0;exact r0.of_plain (pl_plain _ hpy) []
 have hgi : ∀ j,Am.get (mkEnv 0 ((args.map nilL).set i (.own k' xs))) j = ((args.map nilL).set i (.own k' xs))[j]?.getD .any := fun j => by rw [get_mkEnv]; simp
 have hgii : Am.get (mkEnv 0 ((args.map nilL).set i (.own k' xs))) i = .own k' xs := by rw [hgi,List.getElem?_set]; simp [hil]
 have hgo : ∀ j,j ≠ i -> pl (Am.get (mkEnv 0 ((args.map nilL).set i (.own k' xs))) j) = true := by
  intro j hj;rw [hgi];cases e : ((args.map nilL).set i (.own k' xs))[j]? with
  | none => rfl
  | some x =>
    rw [List.getElem?_set_ne (Ne.symm hj)] at e;exact plL_get' hpl j x (by rw [List.getElem?_set_ne (Ne.symm hj)]; exact e)
 have howns : ∀ p',(ownAt ⟨mkEnv 0 ((args.map nilL).set i (.own k' xs)),[]⟩ p').isSome -> p' = .s i := by
  intro p' e;cases p' with
  | s j =>
    by_cases hj : j = i
    ·rw [hj]
    ·rw [(hasOwn_at (s := ⟨mkEnv 0 ((args.map nilL).set i (.own k' xs)),[]⟩) (pl_own (hgo j hj))).1] at e; cases e
  | sc j l =>
    by_cases hj : j = i
    ·subst hj;unfold ownAt at_ at e;simp only [hgii] at e;cases e
    ·rw [(hasOwn_at (s := ⟨mkEnv 0 ((args.map nilL).set i (.own k' xs)),[]⟩) (pl_own (hgo j hj))).2 l] at e; cases e
  | c b j => unfold ownAt at e; simp [at_,blk] at e
 have hownii : ownAt ⟨mkEnv 0 ((args.map nilL).set i (.own k' xs)),[]⟩ (.s i) = some (k',xs) := by
  unfold ownAt at_;simp only [hgii]
 -- the callee's state, with the block that goes over, or none
 have start : ∀ (og : Option Nat) (X' : Nat -> Prop) (φc : Phi) (Hac : Heap) (ν : Option Nat),(∀ a u,Rd X φ w a u -> Rd X' φc w a u) -> HRel X' φc w Hac -> OwnH Hac ν k' xs -> Rep (Rd X' φc w) φc (match ν with
   | some n => .sl k' n 0 xs.length
   | none => .nils) vi -> SB X' φc w (fun _ => 0) 0 ⟨mkEnv 0 ((args.map nilL).set i (.own k' xs)),[]⟩ (fun j => vargs.getD j undef) := by
  intro og X' φc Hac ν hsub hh ho rv;refine ⟨⟨fun _ => 0,fun p' => if p' = .s i then ν else none⟩,Hac,⟨fun j => ?_,fun j => ?_,hh,fun p' k0 xs0 e => ?_,fun b cs e => by simp [blk] at e,fun p' q' m e1 e2 => ?_,fun b p' e1 => by simp [blk] at e1,fun b d e1 => by simp [blk] at e1⟩,fun b hb => by omega,Nat.zero_le _⟩
  ·by_cases hj : j = i
   ·subst hj;rw [hgii];simp only [trS,trP,ownT,if_true];rw [Array.getD_eq_getD_getElem?,hvi];exact rv
   ·rw [trS_pl _ _ (hgo j hj)];rw [hgi];cases e : ((args.map nilL).set i (.own k' xs))[j]? with
    | none => exact .any _ _
    | some x =>
      have hjl := lt_of_getElem? e;simp at hjl;obtain ⟨u,hu⟩ := agetElem?_some_of (l := vargs) (i := j) (by have := hA.1; omega);simp only [Option.getD_some];rw [Array.getD_eq_getD_getElem?,hu];obtain ⟨hpx,rx⟩ := oth j x u hj e hu;exact ((rx.mono hsub (.refl _)).of_plain (pl_plain _ hpx) _)
  ·by_cases hj : j = i
   ·subst hj; show okV _ _ (Am.get _ j); rw [hgii]; trivial
   ·exact ok_pl _ (hgo j hj)
  ·have := howns p' (by rw [e]; rfl);subst this;rw [hownii] at e;cases e;simp only [if_true];exact ho
  ·rw [howns p' e1,howns q' e2]; exact fun _ _ => rfl
 -- the end
 have fin : ∀ (n : Nat) (og : Option Nat) (X' : Nat -> Prop) (φc : Phi),(∀ g,og = some g -> ∃ sz,φ[n]? = some (some (g,sz))) -> (og = none -> φ.length <= n) -> (N.ν p = some n \/ φ.length <= n) -> (∀ g,X g -> X' g) -> (∀ g,Owned φ g -> og ≠ some g -> X' g) -> (∀ g,Owned φc g -> og = some g) -> ∀ {e : Ending} {w1 : World},RetB X' φc w (fun _ => 0) 0 (.own k2 ys) H' e w1 -> ∃ v',e = .returned v' /\ ∃ φ1,PutOK X φ1 w1 B base (setAt (mapSt (sw p) s) p .any) (.own k2 ys) (tm a) v' /\ Adv φ w φ1 w1 := by
  intro n og X' φc h1 h2 hn hX hX2 hφc e w1 hr;obtain ⟨v',φ1,rfl,⟨N1,H1,sim1,_⟩,ad⟩ := hr;have hkeep : ∀ g,g < w.heap.size -> og ≠ some g -> w1.heap[g]? = w.heap[g]? /\ ¬ Owned φ1 g := fun g hlt hg => ad.keep g hlt fun ho => hg (hφc g ho);have ho1 : ownAt ⟨[(0,.own k2 ys)],H'⟩ (.s 0) = some (k2,ys) := rfl;have hown1 := sim1.own (.s 0) k2 ys ho1;have r0 := sim1.env 0;simp only [Am.get,if_true,trS,trP,ownT] at r0;cases hν : N1.ν (.s 0) with
  | none =>
    rw [hν] at hown1 r0;have hy0 : ys = [] := hown1;subst hy0;simp only at r0;cases r0;obtain ⟨hh,ad2⟩ := heap_kill h.heap h1 (fun g hlt hg => (hkeep g hlt hg).1) ad.os ad.tape ad.output ad.drawn ad.size;have sim2 := h.away hp ad2 hh hn fun m hmn _ => by unfold blk; rw [List.getElem?_set_ne (Ne.symm hmn)]
    obtain ⟨_,_,d3⟩ := h.drop hp;exact ⟨_,rfl,_,PutOK.quiet sim2 ⟨hb.1,by rw [d3.len]; exact hb.2⟩ trivial rfl (.nils _),ad2⟩
  | some n1 =>
    rw [hν] at hown1 r0;simp only at r0;obtain ⟨g',sz',hφ1,hX1,hcell⟩ := own_cells sim1.heap hown1;obtain ⟨cs,c1,c2,c3,c4⟩ := hown1;obtain ⟨g3,sz3,arr,te,f1,f2,f3,f4,f5,f6⟩ := sim1.heap.at c1;rw [hφ1] at f1;cases f1
    have hys : (∀ y ∈ ys,y.cells.length = k2) /\ ∀ y ∈ ys,∀ d ∈ y.cells,fz d = true := by
     refine ⟨c3,fun y hy d hd => ?_⟩;obtain ⟨i',hi'⟩ := List.getElem?_of_mem hy;obtain ⟨j,hj⟩ := List.getElem?_of_mem hd;obtain ⟨_,_,q,_⟩ := hcell i' j y d hi' hj;exact q
    have hgo1 : og = some g' \/ w.heap.size <= g' := by
     by_cases hlt : g' < w.heap.size
     ·left;apply Classical.byContradiction;intro hne;exact (hkeep g' hlt hne).2 ⟨n1,sz',hφ1⟩
     ·right; omega
    generalize hv : v' = vv at r0;cases r0 with
    | sl _ _ _ _ _ ad0 cap hb' hcap hh =>
      obtain ⟨ha1,ha2⟩ := hh g' sz' hφ1;subst hv;refine own_fin (T := fun g2 _ a u => Rd X' φ1 w1 a u /\ a.block ≠ g2) h hb hp h1 h2 hn hys (.inl ⟨g',cap,arr,te,ad0,rfl,ha1,hcap,by omega,f2,fun i' d hd => ?_,hgo1,fun g hlt hg => (hkeep g hlt hg).1,ad.os,ad.tape,ad.output,ad.drawn,ad.size⟩) ?_
      ·obtain ⟨i2,z,j,z1,z2,z3⟩ := (flatCells_get c3).2 i' d hd;obtain ⟨u,u1,u2,u3⟩ := hcell i2 j z d z1 z2;refine ⟨u,by rw [cell_of_heap f2] at u1; rw [z3]; exact u1,u3.mono (fun a u hr => ⟨hr,fun e => hr.2.1 ⟨n1,sz',by rw [e]; exact hφ1⟩⟩) (.refl _)⟩
      ·rintro g2 sz2 a u ⟨⟨q1,q2,q3⟩,q4⟩;refine ⟨fun hx => q1 (hX _ hx),fun ho => ?_,q3⟩;rcases owned_append ho with ho | ho
       ·refine q1 (hX2 _ (owned_set ho) fun e => ?_);obtain ⟨sz,e2⟩ := h1 _ e;obtain ⟨b,sz0,e3⟩ := ho;rw [List.getElem?_set] at e3;split at e3
        ·split at e3 <;> simp at e3
        ·rename_i hne;exact hne (h.heap.inj n b _ _ _ e2 e3)
       ·exact q4 ho
 cases hν : N.ν p with
 | none =>
   rw [hν] at hown ri;have hx0 : xs = [] := hown;subst hx0;have hcalls := hcall f md q hf _ [] _ H' (.inr rfl) hcl (fun e => by rw [hsh] at e; cases e) (fun g => X g \/ Owned φ g) [] w (fun _ => 0) vargs (by simpa using hA.1) (start none (fun g => X g \/ Owned φ g) [] [] none (fun a u ⟨h1,h2,h3⟩ => ⟨fun h => h.elim h1 h2,Owned.nil _,h3⟩) ⟨rfl,fun g hg => hg.elim (h.heap.xlt g) (fun ho => (h.heap.own_lt ho).1),fun b cs hb => by simp at hb,fun b hb => by simp at hb,fun b b' g sz sz' h1 => by simp at h1⟩ rfl (by cases ri; exact .nils _)) (gl_sub hg fun g h => h);intro K Q hK;unfold Oper.wp;rw [hrun,Oper.upon_enter];refine hcalls.mono ?_;intro e w1 hr;obtain ⟨v',rfl,φ1,hput,ad⟩ := fin φ.length none _ [] (fun _ h => by cases h) (fun _ => Nat.le_refl _) (.inr (Nat.le_refl _)) (fun g h => .inl h) (fun g h _ => .inr h) (fun g h => (Owned.nil g h).elim) hr;exact hK v' w1 φ1 hput ad
 | some n =>
   rw [hν] at hown ri;obtain ⟨g2,sz2,hφ2,hX2,hc3⟩ := own_cells h.heap hown;obtain ⟨cs,c1,c2,c3,c4⟩ := hown;obtain ⟨g3,sz,arr,te,b1,b2,b3,b4,b5,b6⟩ := h.heap.at c1;rw [hφ2] at b1;cases b1
   have one : ∀ g,Owned [some (g2,sz2)] g -> g = g2 := by
    rintro g ⟨b,s0,e⟩;cases b with
    | zero => simp at e; exact e.1.symm
    | succ b => simp at e
   have hsub : ∀ a u,Rd X φ w a u -> Rd (fun g => X g \/ (Owned φ g /\ g ≠ g2)) [some (g2,sz2)] w a u := fun a u ⟨h1,h2,h3⟩ => ⟨fun h => h.elim h1 fun q => h2 q.1,fun ho => h2 ⟨n,sz2,by rw [one _ ho]; exact hφ2⟩,h3⟩
   have hh : HRel (fun g => X g \/ (Owned φ g /\ g ≠ g2)) [some (g2,sz2)] w [some (flatCells xs)] := by
    refine ⟨rfl,fun g hg => hg.elim (h.heap.xlt g) (fun ho => (h.heap.own_lt ho.1).1),fun b ds hb => ?_,fun b hb => ?_,fun b b' g sz sz' e1 e2 => ?_⟩
    ·cases b with
     | succ b => simp at hb
     | zero =>
       simp at hb;subst hb;refine ⟨g2,sz2,arr,te,rfl,b2,b3,by rw [flat_len c3]; omega,fun h => h.elim hX2 fun q => q.2 rfl,fun i' d hd => ?_⟩;obtain ⟨i2,z,j,z1,z2,z3⟩ := (flatCells_get c3).2 i' d hd;obtain ⟨u,u1,u2,u3⟩ := hc3 i2 j z d z1 z2;exact ⟨u,by rw [cell_of_heap b2] at u1; rw [z3]; exact u1,(u3.mono hsub (.refl _)).mono0 _⟩
    ·cases b with
     | succ b => simp at hb
     | zero => simp at hb
    ·cases b with
     | succ b => simp at e1
     | zero => cases b' with
       | succ b' => simp at e2
       | zero => rfl
   have hg' : Am.GlOK (cAm c) (fun g => X g \/ (Owned φ g /\ g ≠ g2)) [some (g2,sz2)] w := fun g => (hg g).mono hsub (.refl _)
   have ho' : OwnH [some (flatCells xs)] (some 0) k' xs := ⟨flatCells xs,rfl,by rw [flat_len c3]; exact Nat.le_refl _,c3,fun i' d hd => by
    obtain ⟨i2,z,j,z1,z2,z3⟩ := (flatCells_get c3).2 i' d hd;obtain ⟨u,u1,u2,u3⟩ := hc3 i2 j z d z1 z2;exact ⟨u2,d,hd,(fz_pl u2).2,Le.refl _⟩⟩
   have rv : Rep (Rd (fun g => X g \/ (Owned φ g /\ g ≠ g2)) [some (g2,sz2)] w) [some (g2,sz2)] (.sl k' 0 0 xs.length) vi := by
    simp only at ri;generalize vi = vv at ri;cases ri with
    | sl _ _ _ _ _ ad cap hb' hcap hh' =>
      obtain ⟨ha1,ha2⟩ := hh' g2 sz2 hφ2;refine .sl _ _ _ _ _ _ _ (by simp) hcap fun g0 sz0 e0 => ?_;simp at e0;obtain ⟨rfl,rfl⟩ := e0;exact ⟨ha1,ha2⟩
   have hcalls := hcall f md q hf _ [] _ H' (.inr rfl) hcl (fun e => by rw [hsh] at e; cases e) _ _ w (fun _ => 0) vargs (by simpa using hA.1) (start (some g2) _ _ _ (some 0) hsub hh ho' rv) hg';intro K Q hK;unfold Oper.wp;rw [hrun,Oper.upon_enter];refine hcalls.mono ?_;intro e w1 hr;obtain ⟨v',rfl,φ1,hput,ad⟩ := fin n (some g2) _ [some (g2,sz2)] (fun g e => by cases e; exact ⟨sz2,hφ2⟩) (fun e => by cases e) (.inl hν) (fun g h => .inl h) (fun g h hne => .inr ⟨h,fun e => hne (by rw [e])⟩) (fun g h => by rw [one g h]) hr;exact hK v' w1 φ1 hput ad
theorem snkB_fl {s s1 : St} {kd : Kd} {v : AV} {f : Fq} (h : snkB c call s kd = some (v,s1,f)) : f = .all /\ borOf v = [] := by unfold snkB at h;cases h
theorem snkB_of {s : St} {kd : Kd} {x : AV × St × Fq} (h : snkB c call s kd = some x) : ∃ n args H r H',call n args H = some (r,H') /\ ∀ g : Nat -> List AV -> Heap -> Option (AV × Heap),g n args H = some (r,H') -> snkB c g s kd = some x := by unfold snkB at h;cases h
theorem snk_none {s : St} {kd : Kd} {x : AV × St × Fq} (h : snkB c call s kd = some x) (g : Nat -> List AV -> Heap -> Option (AV × Heap)) : doCallO c g kd s = none := by unfold snkB at h;cases h
theorem doCallP_or {s s1 : St} {kd : Kd} {v : AV} {f : Fq} (h : doCallP c call kd s = some (v,s1,f)) : doCallO c call kd s = some (v,s1,f) \/ snkB c call s kd = some (v,s1,f) := by
 unfold doCallP at h;split at h
 ·rename_i x hx;rw [hx];exact .inl h
 ·exact .inr h
theorem doCallP_of {s : St} {kd : Kd} {x : AV × St × Fq} (h : doCallO c call kd s = some x) : doCallP c call kd s = some x := by
 unfold doCallP;rw [h]
theorem doCallP_sn {s : St} {kd : Kd} {x : AV × St × Fq} (h : snkB c call s kd = some x) : doCallP c call kd s = some x := by
 unfold doCallP;rw [snk_none h];exact h
theorem ok_snk (hok : CfgOKB P c) (hcall : CallOKB P c call) {X : Nat -> Prop} {φ : Phi} {w : World} {B : Nat -> Nat} {base : Nat} {s s1 : St} {o : Oper} {a : Act} {kd : Kd} {v : AV} {fq : Fq} (hk : chkK P o.op (dnK kd) = true) (h : SB X φ w B base s (tm a)) (hg : Am.GlOK (cAm c) X φ w) (hs : snkB c call s kd = some (v,s1,fq)) : OkB P X φ w B base s1 v o a := by unfold snkB at hs;cases hs
theorem ok_doCallB (hok : CfgOKB P c) (hinp : InpOK P c) (hcall : CallOKB P c call) (hsh : ShCall P c call) {X : Nat -> Prop} {φ : Phi} {w : World} {B : Nat -> Nat} {base : Nat} {s s1 : St} {o : Oper} {a : Act} {kd : Kd} {v : AV} {fq : Fq} (hk : chkK P o.op (dnK kd) = true) (h : SB X φ w B base s (tm a)) (hg : Am.GlOK (cAm c) X φ w) (hs : doCallB c call kd s = some (v,s1,fq)) : OkB P X φ w B base s1 v o a := by
 unfold doCallB at hs;cases hi : inpB c s kd with
 | none =>
   rw [hi] at hs;cases hl : locB c call s kd with
   | none =>
     rw [hl] at hs;simp only [doCallM] at hs;cases hm : movB c call s kd with
     | none =>
       rw [hm] at hs;rcases doCallP_or hs with hs | hs
       ·exact ok_doCall hok hcall hsh hk h hg hs
       ·exact ok_snk hok hcall hk h hg hs
     | some r =>
       rw [hm] at hs;simp only at hs;subst hs;unfold movB at hm;split at hm
       case h_2 => cases hm
       rename_i f es;split at hm
       case h_2 => cases hm
       rename_i i hi;simp only [Option.some.injEq] at hm;obtain ⟨φ1,h1,a1⟩ := SB.frzAll (borL ((opnds c s.env es).set i .undef)) h;exact OkB.ghost a1 (ok_mov hok hcall hk h1 (hg.adv a1) hm)
   | some r =>
     rw [hl] at hs;simp only at hs;subst hs;exact ok_loc hok hcall hk h hg hl
 | some r =>
   rw [hi] at hs;simp only at hs;subst hs;exact ok_inp hok hinp hk h hg hi
theorem opsOK (hok : CfgOKB P c) (hinp : InpOK P c) (hcall : CallOKB P c call) (hsh : ShCall P c call) : OpsOK P c call := by
 intro X φ w B base s o a kd v s1 f hk hs h hg;cases hc : isCallK kd with
 | false => exact opB_ok hok.mixed h hg hk hc hs
 | true =>
   cases kd <;> simp [isCallK] at hc
   ·simp only [opB] at hs; exact ok_doCallB hok hinp hcall hsh hk h hg hs
   ·simp only [opB] at hs; exact ok_doCallB hok hinp hcall hsh hk h hg hs
end
end Go.Bm

/- A call of a function of the program, from a world of which nothing is known but how the arguments read; given what is still to be shown. -/
namespace Go.Bm
open Go.Am
section
variable {P : Program} {c : Cfg}
theorem snd_givenB (hok : CfgOKB P c) (hinp : InpOK P c) (horc : OrcOKB P c) (hshc : ∀ call,CallOKB P c call -> ShCall P c call) (hdr : ∀ call,CallOKB P c call -> DrawOK P c call) (hsh : ∀ n,SndB P c n -> ShOK P c n) (n : Nat) : SndB P c n :=
 snd_allB (fun call hc => opsOK hok hinp hc (hshc call hc)) hdr (fun n hs => callW_okB hok horc hs (hsh n hs)) n
theorem calls_ofB (hok : CfgOKB P c) {call : Nat -> List AV -> Heap -> Option (AV × Heap)} (hcall : CallOKB P c call) {f : Nat} {md : Md} {q : AFn} (hf : c.fn f = some (md,q)) (hsh : md.sh = false) {args : List AV} (hz : plL args = true) {r : AV} {H' : Heap} (h : call f args [] = some (r,H')) (hr : pl r = true) {w : World} {vargs : Array Value}
  (ha : ARel (fun _ => False) [] w args vargs) (hg : Am.GlOK (cAm c) (fun _ => False) [] w) : Calls P f vargs w (fun e w' => ∃ v,e = .returned v /\ Rep (Rd (fun _ => False) [] w') [] r v /\ RowKit.Below w.heap.size w w') := by
 have hsb := SB.start (X := fun _ => False) (w := w) (args := args) (vargs := vargs) (fun g hg => hg.elim) hz ha.1 ha.2 (fun _ => 0);refine (hcall f md q hf args [] r H' (.inr rfl) h (fun e => by rw [hsh] at e; cases e) (fun _ => False) [] w (fun _ => 0) vargs ha.1 hsb hg).mono ?_;rintro e w1 ⟨v',φ1,rfl,⟨N1,H1,sim1,_⟩,a1⟩;have r0 := sim1.env 0;simp only [Am.get,if_true] at r0;rw [trS_pl N1 0 hr] at r0;refine ⟨v',rfl,(r0.of_plain (pl_plain _ hr) []).mono (fun a u ⟨h1,_,h3⟩ => ⟨h1,Owned.nil _,h3⟩) (.refl _),a1.os,a1.tape,a1.output,a1.size,fun k hk => (a1.keep k hk (Owned.nil k)).1⟩
end
end Go.Bm

/- Regions that draw their order: it makes no difference, given that two steps whose order is open commute. -/
namespace Go.Bm
open Go.Am
section
variable {P : Program} {c : Cfg} {call : Nat -> List AV -> Heap -> Option (AV × Heap)} {T : St -> O -> Fq -> St -> Prop}
abbrev EntB := Nat × Oper × O × Fq
def SoundT (P : Program) (c : Cfg) (T : St -> O -> Fq -> St -> Prop) : Prop :=
 ∀ X φ w B base N ops s s' (o : Oper) a q f,N <= HAND -> chkO P N ops o (dnOp q) = true -> T s q f s' -> SRB X φ w B base s a N -> Am.GlOK (cAm c) X φ w -> ∀ (K : Act -> World -> Prop) (Q : Exit -> Act -> World -> Prop),(∀ a' w' φ',SRB X φ' w' B base s' a' N -> Adv φ w φ' w' -> K a' w') ->
  if Region.wanted o (yielded ops a.tmps) then o.wp P a w K Q \/ (o.asks P a w /\ LetsOut Q) else K (a.put o.dst Go.undef) w
def CommT (T : St -> O -> Fq -> St -> Prop) : Prop :=
 ∀ s x f s1 y g s2,T s x f s1 -> T s1 y g s2 -> apartO x y = true -> okPair x f y g = true -> ∃ s1',T s y g s1' /\ T s1' x f s2
def RunB (T : St -> O -> Fq -> St -> Prop) : List EntB -> St -> St -> Prop
 | [],s,sf => s = sf
 | p :: r,s,sf => ∃ s1,T s p.2.2.1 p.2.2.2 s1 /\ RunB T r s1 sf
theorem RunB.bubble (hC : CommT T) {x : EntB} : ∀ {R1 R2 : List EntB} {s sf : St},(∀ p ∈ R1,apartO p.2.2.1 x.2.2.1 = true /\ okPair p.2.2.1 p.2.2.2 x.2.2.1 x.2.2.2 = true) -> RunB T (R1 ++ x :: R2) s sf -> RunB T (x :: (R1 ++ R2)) s sf
 | [],R2,s,sf,_,hr => hr
 | p :: R1,R2,s,sf,h,⟨s1,h1,h2⟩ => by
   obtain ⟨s2,h3,h4⟩ := RunB.bubble hC (fun q hq => h q (by simp [hq])) h2;obtain ⟨hap,hf⟩ := h p (by simp);obtain ⟨s1',k1,k2⟩ := hC _ _ _ _ _ _ _ h1 h3 hap hf;exact ⟨s1',k1,s2,k2,h4⟩
theorem any_okB (hT : SoundT P c T) (hC : CommT T) {X : Nat -> Prop} {B : Nat -> Nat} {base N : Nat} (hN : N <= HAND) {ops : Array Oper} {Q : Exit -> Act -> World -> Prop} {sf : St} :
  ∀ (fuel : Nat) (R : List EntB) (listed : Array Bool) (a : Act) (w : World) (φ : Phi) (s : St),R.length = fuel -> (∀ i,listed.getD i true = false ↔ ∃ p ∈ R,p.1 = i) -> listed.size = ops.size ->
   Closed ops listed -> (∀ p ∈ R,ops[p.1]? = some p.2.1 /\ chkO P N ops p.2.1 (dnOp p.2.2.1) = true /\ ∀ e ∈ p.2.1.after,Region.binds .any e = true -> e.on < p.1) ->
   R.Pairwise (fun p q => p.1 < q.1 /\ (Anc ops p.1 q.1 \/ (apartO p.2.2.1 q.2.2.1 = true /\ okPair p.2.2.1 p.2.2.2 q.2.2.1 q.2.2.2 = true))) -> RunB T R s sf -> SRB X φ w B base s a N -> Am.GlOK (cAm c) X φ w ->
   (∀ a' w' φ',SRB X φ' w' B base sf a' N -> Adv φ w φ' w' -> Q .normal a' w') -> wpAny P .any ops Q fuel listed a w := by
 have fin : ∀ {a : Act} {w : World} {φ : Phi} {s : St},RunB T [] s sf -> SRB X φ w B base s a N -> (∀ a' w' φ',SRB X φ' w' B base sf a' N -> Adv φ w φ' w' -> Q .normal a' w') -> Q .normal a w := by
  intro a w φ s hr hs hQ;obtain rfl : s = sf := hr;exact hQ a w φ hs (.refl _ _)
 intro fuel
 induction fuel with
 | zero =>
   intro R listed a w φ s hl hls _ _ _ _ hr hs hg hQ;have hR : R = [] := List.eq_nil_of_length_eq_zero hl;subst hR;refine ⟨?_,fin hr hs hQ⟩;rw [List.eq_nil_iff_forall_not_mem];intro i hi;obtain ⟨h1,_⟩ := mem_ready.1 hi;obtain ⟨p,hp,_⟩ := (hls i).1 h1;cases hp
 | succ fuel ih =>
   intro R listed a w φ s hl hls hsz hcl hops hpw hr hs hg hQ;refine ⟨fun hnil => ?_,fun i hi => ?_⟩
   ·cases R with
    | nil => simp at hl
    | cons p r =>
      exfalso;obtain ⟨h1,h2,h3⟩ := hops p (by simp)
      have : p.1 ∈ Region.ready .any ops listed := by
       refine mem_ready.2 ⟨(hls p.1).2 ⟨p,by simp,rfl⟩,p.2.1,h1,fun e he hb => ?_⟩;have hlt := h3 e he hb;cases hv : listed.getD e.on false with
       | true => rfl
       | false =>
         exfalso
         have hlt2 : e.on < listed.size := by
          rw [hsz];have := alt_of_getElem? h1;omega
         have hv2 : listed.getD e.on true = false := by
          simp [Array.getD_eq_getD_getElem?,hlt2] at hv ⊢;exact hv
         obtain ⟨q,hq,hq1⟩ := (hls e.on).1 hv2;rcases List.mem_cons.1 hq with hq | hq
         ·subst hq; omega
         ·have := (List.rel_of_pairwise_cons hpw hq).1;omega
      rw [hnil] at this;cases this
   ·obtain ⟨hun,o,ho,hall⟩ := mem_ready.1 hi;obtain ⟨x,hx,hxi⟩ := (hls i).1 hun;subst hxi;obtain ⟨R1,R2,rfl⟩ := List.append_of_mem hx;obtain ⟨h1,h2,h3⟩ := hops x (by simp);rw [h1] at ho;simp at ho;subst ho;have hpw' := List.pairwise_append.1 hpw
    have hcomm : ∀ p ∈ R1,apartO p.2.2.1 x.2.2.1 = true /\ okPair p.2.2.1 p.2.2.2 x.2.2.1 x.2.2.2 = true := by
     intro p hp;obtain ⟨_,hrel⟩ := hpw'.2.2 p hp x (by simp);rcases hrel with hw | hw
     ·exfalso
      have := hcl.anc hw x.2.1 h1 fun k hk => by
       obtain ⟨e,he,hb,heq⟩ := mem_direct.1 hk;rw [<- heq]; exact hall e he hb
      have hf := (hls p.1).2 ⟨p,by simp [hp],rfl⟩
      have hlt : p.1 < listed.size := by
       rw [hsz];exact alt_of_getElem? (hops p (by simp [hp])).1
      simp [Array.getD_eq_getD_getElem?,hlt] at this hf;rw [this] at hf;cases hf
     ·exact hw
    obtain ⟨s1,k1,k2⟩ := RunB.bubble hC hcomm hr;unfold wpOp;rw [h1];refine hT X φ w B base N ops s s1 x.2.1 a x.2.2.1 x.2.2.2 hN h2 k1 hs hg _ _ fun a' w' φ' hs' hadv => ?_
    refine ih (R1 ++ R2) _ a' w' φ' _ (by simp at hl ⊢; omega) (fun j => ?_) (by simpa using hsz) (fun j oj hj hlj i hi => ?_) (fun p hp => hops p (by rcases List.mem_append.1 hp with h | h <;> simp [h])) ?_ k2 hs' (hg.adv hadv)
     fun a'' w'' φ'' h'' k'' => hQ a'' w'' φ'' h'' (hadv.trans k'')
    ·have hxlt : x.1 < listed.size := by rw [hsz]; exact alt_of_getElem? h1
     by_cases hj : j = x.1
     ·subst hj;simp only [Array.getD_eq_getD_getElem?,Array.getElem?_setIfInBounds_self_of_lt hxlt,Option.getD_some];refine ⟨(fun h => by cases h),fun ⟨p,hp,hpx⟩ => ?_⟩;exfalso;rcases List.mem_append.1 hp with h | h
      ·have := (hpw'.2.2 p h x (by simp)).1; omega
      ·have := (List.rel_of_pairwise_cons hpw'.2.1 h).1; omega
     ·have hne : x.1 ≠ j := fun e => hj e.symm;rw [Array.getD_eq_getD_getElem?,Array.getElem?_setIfInBounds_ne hne,<- Array.getD_eq_getD_getElem?,hls j];constructor
      ·rintro ⟨p,hp,hpj⟩;refine ⟨p,?_,hpj⟩;simp at hp ⊢;rcases hp with h | h | h
       ·exact .inl h
       ·subst h; exact absurd hpj.symm hj
       ·exact .inr h
      ·rintro ⟨p,hp,hpj⟩;refine ⟨p,?_,hpj⟩;simp at hp ⊢;rcases hp with h | h
       ·exact .inl h
       ·exact .inr (.inr h)
    ·have mono : ∀ k,listed.getD k false = true -> (listed.setIfInBounds x.1 true).getD k false = true := by
      intro k hk;by_cases hkx : x.1 = k
      ·subst hkx;have hlt : x.1 < listed.size := by rw [hsz]; exact alt_of_getElem? h1
       simp [Array.getD_eq_getD_getElem?,hlt]
      ·rw [Array.getD_eq_getD_getElem?,Array.getElem?_setIfInBounds_ne hkx,<- Array.getD_eq_getD_getElem?]; exact hk
     by_cases hjx : x.1 = j
     ·subst hjx;rw [h1] at hj;cases hj;obtain ⟨e,he,hb,heq⟩ := mem_direct.1 hi;exact mono i (by rw [<- heq]; exact hall e he hb)
     ·refine mono i (hcl j oj hj ?_ i hi);rw [Array.getD_eq_getD_getElem?,Array.getElem?_setIfInBounds_ne hjx,<- Array.getD_eq_getD_getElem?] at hlj;exact hlj
    ·refine List.pairwise_append.2 ⟨hpw'.1,(List.pairwise_cons.1 hpw'.2.1).2,fun p hp q hq => hpw'.2.2 p hp q (by simp [hq])⟩

end
end Go.Bm

/- Regions that draw their order, from the machine's own check. -/
namespace Go.Bm
open Go.Am
section
variable {P : Program} {c : Cfg} {call : Nat -> List AV -> Heap -> Option (AV × Heap)} {T : St -> O -> Fq -> St -> Prop}
def mkRB : Nat -> List Oper -> List O -> List Fq -> List EntB
 | k,o :: r,q :: s,f :: t => (k,o,q,f) :: mkRB (k + 1) r s t
 | _,_,_,_ => []
theorem mkRB_get : ∀ (k : Nat) (os : List Oper) (qs : List O) (fs : List Fq) (j : Nat) (p : EntB),(mkRB k os qs fs)[j]? = some p -> p.1 = k + j /\ os[j]? = some p.2.1 /\ qs[j]? = some p.2.2.1 /\ fs[j]? = some p.2.2.2
 | k,[],qs,fs,j,p,h => by simp [mkRB] at h
 | k,_ :: _,[],fs,j,p,h => by simp [mkRB] at h
 | k,_ :: _,_ :: _,[],j,p,h => by simp [mkRB] at h
 | k,o :: r,q :: s,f :: t,j,p,h => by
   simp only [mkRB] at h;cases j with
   | zero => simp at h; subst h; exact ⟨rfl,rfl,rfl,rfl⟩
   | succ j =>
     simp at h;obtain ⟨h1,h2,h3,h4⟩ := mkRB_get (k + 1) r s t j p h;exact ⟨by omega,by simpa using h2,by simpa using h3,by simpa using h4⟩
theorem mkRB_length : ∀ (k : Nat) (os : List Oper) (qs : List O) (fs : List Fq),os.length = qs.length -> qs.length = fs.length -> (mkRB k os qs fs).length = os.length
 | k,[],[],[],_,_ => rfl
 | k,o :: r,q :: s,f :: t,h1,h2 => by simp [mkRB]; exact mkRB_length (k + 1) r s t (by simpa using h1) (by simpa using h2)
 | _,[],_ :: _,_,h,_ => by simp at h
 | _,_ :: _,[],_,h,_ => by simp at h
 | _,[],[],_ :: _,_,h => by simp at h
 | _,_ :: _,_ :: _,[],_,h => by simp at h
def StepT (c : Cfg) (call : Nat -> List AV -> Heap -> Option (AV × Heap)) (T : St -> O -> Fq -> St -> Prop) : Prop := ∀ s q f s',konst q.kd = true -> stepB c call s q = some (s',f) -> (cwF f = true -> T s q f s') /\ T s q .all s'
def labs (un : List (Nat × Nat)) : Nat -> List Fq -> List Fq
 | _,[] => []
 | k,f :: r => (if pairIn k k un then .all else f) :: labs un (k + 1) r
theorem labs_length (un : List (Nat × Nat)) : ∀ (k : Nat) (fs : List Fq),(labs un k fs).length = fs.length
 | _,[] => rfl
 | k,f :: r => by simp [labs,labs_length un (k + 1) r]
theorem labs_get (un : List (Nat × Nat)) : ∀ (k : Nat) (fs : List Fq) (j : Nat),(labs un k fs)[j]? = (fs[j]?).map fun f => if pairIn (k + j) (k + j) un then .all else f
 | _,[],j => by simp [labs]
 | k,f :: r,j => by
   cases j with
   | zero => simp [labs]
   | succ j => simp only [labs,List.getElem?_cons_succ,labs_get un (k + 1) r]; rw [show k + 1 + j = k + (j + 1) by omega]
theorem opsB_run (hS : StepT c call T) (un : List (Nat × Nat)) : ∀ (k : Nat) (os : List Oper) (qs : List O) (s s' : St) (fls : List Fq),os.length = qs.length -> (∀ q ∈ qs,konst q.kd = true) -> opsB c call qs s = some (s',fls) -> allCW un k fls = true -> qs.length = fls.length /\ RunB T (mkRB k os qs (labs un k fls)) s s'
 | k,[],[],s,s',fls,_,_,h,_ => by simp [opsB] at h; obtain ⟨rfl,rfl⟩ := h; exact ⟨rfl,rfl⟩
 | k,[],_ :: _,_,_,_,hl,_,_,_ => by simp at hl
 | k,_ :: _,[],_,_,_,hl,_,_,_ => by simp at hl
 | k,o :: r,q :: qs,s,s',fls,hl,hk,h,hn => by
   simp only [opsB] at h;split at h
   case h_2 => cases h
   rename_i s1 fl1 h1;split at h
   case h_2 => cases h
   rename_i s2 fl2 h2;simp at h;obtain ⟨rfl,rfl⟩ := h;simp only [allCW,Bool.and_eq_true,Bool.or_eq_true] at hn;obtain ⟨hn1,hn2⟩ := hn;obtain ⟨h4,h5⟩ := opsB_run hS un (k + 1) r qs _ s2 fl2 (by simpa using hl) (fun q hq => hk q (by simp [hq])) h2 hn2;refine ⟨by simp [h4],s1,?_,h5⟩;have := hS _ _ _ _ (hk q (by simp)) h1;show T s q (if pairIn k k un then .all else fl1) s1;split
   ·exact this.2
   ·rename_i hp;exact this.1 (hn1.resolve_right hp)
theorem opB_still {s s1 : St} {kd : Kd} {v : AV} {f : Fq} (h : opB c call s kd = some (v,s1,f)) (hp : still kd = true) : f = .no := by
 cases kd <;> simp [still] at hp <;> simp only [opB] at h
 all_goals try rw [hp] at h
 all_goals
  (repeat' split at h)
  all_goals first
   | (cases h; done)
   | (rename_i hq; cases hq; done)
   | (simp at h; obtain ⟨rfl,rfl,rfl⟩ := h; rfl)
theorem finO_fl {e : Env} {d : Option Nat} {v : AV} {s s' : St} {f g : Fq} (h : finO e d v s f = some (s',g)) : g = relab e d f := by
 unfold finO at h;split at h
 ·simp at h;exact h.2.symm
 ·cases h
theorem relab_no {e : Env} {d : Option Nat} : relab e d .no = .no \/ relab e d .no = .bo [] \/ relab e d .no = .sp := by
 unfold relab;split
 ·exact .inl rfl
 ·split
  ·exact .inr (.inr rfl)
  ·split
   ·exact .inl rfl
   ·exact .inr (.inl rfl)
theorem stepB_still {s s' : St} {q : O} {f : Fq} (h : stepB c call s q = some (s',f)) (hp : still q.kd = true) : f = .no \/ f = .bo [] \/ f = .sp := by
 unfold stepB at h;split at h
 ·split at h
  ·rename_i v s1 fl ho;rw [opB_still ho hp] at h;rw [finO_fl h]; exact relab_no
  ·cases h
 ·split at h
  ·split at h
   ·split at h
    ·rename_i v s1 fl ho;rw [opB_still ho hp] at h;rw [finO_fl h]; exact relab_no
    ·cases h
   ·rw [finO_fl h]; exact relab_no
  ·rw [finO_fl h]; exact relab_no
  ·cases h
theorem opsB_still {un : List (Nat × Nat)} : ∀ {qs : List O} {k : Nat} {s s' : St} {fls : List Fq},opsB c call qs s = some (s',fls) -> allCW un k fls = true -> ∀ (j : Nat) (q : O) (f : Fq),qs[j]? = some q -> fls[j]? = some f -> still q.kd = true -> pairIn (k + j) (k + j) un = false -> f = .no \/ f = .bo []
 | [],_,_,_,_,_,_,j,q,f,hq,_,_,_ => by simp at hq
 | x :: r,k,s,s',fls,h,hn,j,q,f,hq,hf,hp,hb => by
   simp only [opsB] at h;split at h
   case h_2 => cases h
   rename_i s1 fl1 h1;split at h
   case h_2 => cases h
   rename_i s2 fl2 h2;simp at h;obtain ⟨rfl,rfl⟩ := h;simp only [allCW,Bool.and_eq_true,Bool.or_eq_true] at hn;obtain ⟨hn1,hn2⟩ := hn;cases j with
   | zero =>
     simp at hq hf hb;subst hq; subst hf;rw [hb] at hn1;rcases stepB_still h1 hp with e | e | e
     ·exact .inl e
     ·exact .inr e
     ·subst e; simp [cwF] at hn1
   | succ j => simp at hq hf; exact opsB_still h2 hn2 j q f hq hf hp (by rw [show k + 1 + j = k + (j + 1) by omega]; exact hb)
theorem chkOsB_get {N : Nat} {ops : Array Oper} : ∀ {l : List Oper} {qs : List O},chkOsB P N ops l qs = true -> l.length = qs.length /\ ∀ (j : Nat) (o : Oper) (q : O),l[j]? = some o -> qs[j]? = some q -> chkO P N ops o (dnOp q) = true
 | [],[],_ => ⟨rfl,fun j o q h => by simp at h⟩
 | [],_ :: _,h => by simp [chkOsB] at h
 | _ :: _,[],h => by simp [chkOsB] at h
 | o :: r,q :: s,h => by
   simp only [chkOsB,Bool.and_eq_true] at h;obtain ⟨hl,hm⟩ := chkOsB_get h.2;refine ⟨by simp [hl],fun j o' q' h1 h2 => ?_⟩;cases j with
   | zero => simp at h1 h2; subst h1; subst h2; exact h.1
   | succ j => simp at h1 h2; exact hm j o' q' h1 h2
theorem chkBeforeB_get {un : List (Nat × Nat)} {j : Nat} {ys : List Nat} {q : O} : ∀ {k : Nat} {l : List O},chkBeforeB un j ys q k l = true -> ∀ (i : Nat) (x : O),l[i]? = some x -> chkPairB un (k + i) j x ys q = true
 | k,[],_,i,x,h => by simp at h
 | k,z :: r,hc,i,x,h => by
   simp only [chkBeforeB,Bool.and_eq_true] at hc;cases i with
   | zero => simp at h; subst h; exact hc.1
   | succ i => simp at h; have := chkBeforeB_get hc.2 i x h; rwa [show k + 1 + i = k + (i + 1) by omega] at this
theorem chkOrderB_get {un : List (Nat × Nat)} {ops : Array Oper} : ∀ {ys : List Oper} {qs seen : List O} {anc : List (List Nat)},chkOrderB un anc seen ys qs = true -> AncOK ops anc -> anc.length = seen.length -> (∀ j,ys[j]? = ops[seen.length + j]?) -> ∀ (j : Nat) (y : Oper) (q : O),ys[j]? = some y -> qs[j]? = some q ->
  (∀ e ∈ y.after,Region.binds .any e = true -> e.on < seen.length + j) /\ ∀ (i : Nat) (x : O),(seen ++ qs)[i]? = some x -> i < seen.length + j -> Anc ops i (seen.length + j) \/ ((pairIn i i un = false /\ pairIn (seen.length + j) (seen.length + j) un = false) /\ apartO x q = true /\ ((still x.kd = true /\ still q.kd = true) \/ pairIn i (seen.length + j) un = true))
 | [],_,_,_,_,_,_,_,j,y,q,h,_ => by simp at h
 | _ :: _,[],_,_,_,_,_,_,j,y,q,_,h => by simp at h
 | z :: r,p :: s,seen,anc,hc,hanc,hal,hys,j,y,q,h1,h2 => by
   simp only [chkOrderB,Bool.and_eq_true] at hc;obtain ⟨⟨⟨_,c1⟩,c2⟩,c3⟩ := hc;have hz : ops[seen.length]? = some z := by simpa using (hys 0).symm
   cases j with
   | zero =>
     simp at h1 h2;subst h1; subst h2;refine ⟨fun e he hb => ?_,fun i x hx hi => ?_⟩
     ·have := List.all_eq_true.1 c1 e.on (mem_direct.2 ⟨e,he,hb,rfl⟩);simpa using this
     ·rw [List.getElem?_append_left (by omega)] at hx;have := chkBeforeB_get c2 i x hx;simp only [chkPairB,Nat.zero_add,Bool.or_eq_true,Bool.and_eq_true,Bool.not_eq_true'] at this;rcases this with h | h
      ·exact .inl (ancOf_ok hanc hz i (mem_iff.1 h))
      ·right;exact h
   | succ j =>
     simp at h1 h2
     have hanc' : AncOK ops (anc ++ [ancOf anc z]) := by
      intro k l hl i hi;by_cases hk : k < anc.length
      ·rw [List.getElem?_append_left hk] at hl; exact hanc k l hl i hi
      ·have hk2 := lt_of_getElem? hl;simp at hk2;have hke : k = anc.length := by omega
       subst hke;simp at hl;subst hl;rw [hal];exact ancOf_ok hanc hz i hi
     obtain ⟨k1,k2⟩ := chkOrderB_get c3 hanc' (by simp [hal]) (fun m => by have := hys (m + 1); simp at this ⊢; rw [this]; congr 1; omega) j y q h1 h2;simp only [List.length_append,List.length_cons,List.length_nil] at k1 k2;refine ⟨fun e he hb => by have := k1 e he hb; omega,fun i x hx hi => ?_⟩;have := k2 i x (by simpa using hx) (by omega)
     rwa [show seen.length + (0 + 1) + j = seen.length + (j + 1) by omega] at this
theorem chkOrderB_konst {un : List (Nat × Nat)} : ∀ {ys : List Oper} {qs seen : List O} {anc : List (List Nat)},chkOrderB un anc seen ys qs = true -> ys.length = qs.length -> ∀ q ∈ qs,konst q.kd = true
 | [],[],_,_,_,_,q,hq => by simp at hq
 | [],_ :: _,_,_,_,hl,_,_ => by simp at hl
 | _ :: _,[],_,_,_,hl,_,_ => by simp at hl
 | z :: r,p :: s,seen,anc,hc,hl,q,hq => by
   simp only [chkOrderB,Bool.and_eq_true] at hc;rcases List.mem_cons.1 hq with e | e
   ·subst e; exact hc.1.1.1
   ·exact chkOrderB_konst hc.2 (by simpa using hl) q e
theorem okDrawB_get {os : List O} {fls : List Fq} : ∀ {un : List (Nat × Nat)},okDrawB os fls un = true -> ∀ i j,i ≠ j -> pairIn i j un = true -> okPair (os.getD i ⟨none,none,.min []⟩) (fls.getD i .all) (os.getD j ⟨none,none,.min []⟩) (fls.getD j .all) = true
 | [],_,i,j,_,h => by simp [pairIn] at h
 | p :: r,hk,i,j,hne,h => by
   obtain ⟨x,y⟩ := p;simp only [okDrawB,Bool.and_eq_true,Bool.or_eq_true,decide_eq_true_eq] at hk;simp only [pairIn,Bool.or_eq_true,Bool.and_eq_true,decide_eq_true_eq] at h;rcases h with ⟨rfl,rfl⟩ | h
   ·exact hk.1.resolve_left hne
   ·exact okDrawB_get hk.2 i j hne h
theorem okPair_still (x y : O) {f g : Fq} (hf : f = .no \/ f = .bo []) (hg : g = .no \/ g = .bo []) : okPair x f y g = true := by
 have d : ∀ d,dstOff d (.bo []) = true := fun d => by cases d <;> rfl
 have d' : ∀ d,dstOff d .no = true := fun d => by cases d <;> rfl
 rcases hf with rfl | rfl <;> rcases hg with rfl | rfl <;> simp [okPair,Fq.ok,wrOff,d,d']
theorem SRB.drew {X : Nat -> Prop} {φ : Phi} {w : World} {B : Nat -> Nat} {base : Nat} {s : St} {a : Act} {N : Nat} (h : SRB X φ w B base s a N) : SRB X φ w.drew B base s a N := by
 obtain ⟨N1,Ha,sim,hb⟩ := h.sb;exact ⟨⟨N1,Ha,sim.adv (.drew _ _) (sim.heap.of_same (ψ := []) ⟨rfl,rfl,rfl,Nat.le_succ _,Nat.le_refl _,fun g _ h => ⟨rfl,h⟩,.refl _⟩) sim.own (fun _ _ => rfl),hb⟩,h.defers,h.size⟩
theorem draw_okB (hok : CfgOKB P c) (hS : StepT c call T) (hT : SoundT P c T) (hC : CommT T) : DrawOK P c call := by
 intro X φ w B base s s' fls a N id ops os un Q hN hc ho hs hd hr hg hQ;simp only [drawB,Bool.and_eq_true] at hd;obtain ⟨hn,hd⟩ := hd;obtain ⟨hl,hm⟩ := chkOsB_get hc;obtain ⟨hlf,hrun⟩ := opsB_run hS un 0 ops.toList os s s' fls hl (chkOrderB_konst ho hl) hs hn;have hlen := mkRB_length 0 ops.toList os (labs un 0 fls) hl (by rw [labs_length]; exact hlf);have hadv : Adv φ w φ w.drew := .drew _ _;have hord := chkOrderB_get (ops := ops) ho (fun j l hl => by simp at hl) rfl (fun j => by simp);have hr' : SRB X φ w.drew B base s a N := hr.drew
 refine wp_region_any hok.mixed (any_okB hT hC (X := X) (B := B) (base := base) hN (sf := s') ops.size (mkRB 0 ops.toList os (labs un 0 fls)) _ a w.drew φ s (by simpa using hlen) (fun i => ?_) (by simp) (fun j o _ hl => by simp [Array.getD_eq_getD_getElem?,Array.getElem?_replicate] at hl; split at hl <;> simp at hl) (fun p hp => ?_) ?_ hrun hr' (hg.adv hadv)
  fun a' w' φ' h k => hQ a' w' φ' h (hadv.trans k))
 ·by_cases hi : i < ops.size
  ·simp only [Array.getD_eq_getD_getElem?,Array.getElem?_replicate,hi,if_true,Option.getD_some,true_iff];obtain ⟨p,hp⟩ := getElem?_some_of (l := mkRB 0 ops.toList os (labs un 0 fls)) (i := i) (by rw [hlen]; simpa using hi);exact ⟨p,List.mem_of_getElem? hp,by have := (mkRB_get 0 _ _ _ i p hp).1; omega⟩
  ·simp only [Array.getD_eq_getD_getElem?,Array.getElem?_replicate,hi,if_false,Option.getD_none];refine ⟨(fun h => by cases h),fun ⟨p,hp,hpi⟩ => ?_⟩;exfalso;obtain ⟨j,hj⟩ := List.getElem?_of_mem hp;have h1 := (mkRB_get 0 _ _ _ j p hj).1;have h2 := lt_of_getElem? hj;rw [hlen] at h2;simp at h2;omega
 ·obtain ⟨j,hj⟩ := List.getElem?_of_mem hp;obtain ⟨h1,h2,h3,h4⟩ := mkRB_get 0 _ _ _ j p hj;have h1' : p.1 = j := by omega
  obtain ⟨k1,_⟩ := hord j p.2.1 p.2.2.1 h2 h3;refine ⟨by rw [h1']; simpa using h2,hm j _ _ h2 h3,fun e he hb => ?_⟩;have := k1 e he hb;simp at this;omega
 ·rw [List.pairwise_iff_getElem];intro i j hi hj hij;obtain ⟨h1,h2,h3,h4⟩ := mkRB_get 0 _ _ _ i _ (List.getElem?_eq_getElem hi);obtain ⟨k1,k2,k3,k4⟩ := mkRB_get 0 _ _ _ j _ (List.getElem?_eq_getElem hj);refine ⟨by omega,?_⟩;obtain ⟨_,hpair⟩ := hord j _ _ k2 k3;have := hpair i _ (by simpa using h3) (by simpa using hij);simp only [List.length_nil,Nat.zero_add] at this;rcases this with h | h
  ·left; rw [h1,k1]; simpa using h
  ·right;obtain ⟨⟨hb1,hb2⟩,hap,h⟩ := h;refine ⟨hap,?_⟩;rw [labs_get] at h4 k4;simp only [Nat.zero_add,hb1,hb2,Bool.false_eq_true,if_false,Option.map_id'] at h4 k4;rcases h with ⟨h5,h6⟩ | h5
   ·exact okPair_still _ _ (opsB_still hs hn i _ _ h3 h4 h5 (by simpa using hb1)) (opsB_still hs hn j _ _ k3 k4 h6 (by simpa using hb2))
   ·have := okDrawB_get hd i j (by omega) h5;simp only [List.getD_eq_getElem?_getD,h3,k3,h4,k4,Option.getD_some] at this;exact this
end
end Go.Bm

/- A step up to what can be seen of a state: StepT and SoundT. -/
namespace Go.Bm
open Go.Am
section
variable {P : Program} {c : Cfg} {call : Nat -> List AV -> Heap -> Option (AV × Heap)}
def Same (s t : St) : Prop := (∀ i,get s.env i = get t.env i) /\ s.H = t.H
theorem Same.rfl' {s : St} : Same s s := ⟨fun _ => rfl,rfl⟩
theorem Same.symm {s t : St} (h : Same s t) : Same t s := ⟨fun i => (h.1 i).symm,h.2.symm⟩
theorem Same.trans {s t u : St} (h : Same s t) (k : Same t u) : Same s u := ⟨fun i => (h.1 i).trans (k.1 i),h.2.trans k.2⟩
theorem SRB.same {X : Nat -> Prop} {φ : Phi} {w : World} {B : Nat -> Nat} {base : Nat} {s t : St} {a : Act} {N : Nat} (h : SRB X φ w B base s a N) (e : Same s t) : SRB X φ w B base t a N := by
 obtain ⟨N1,Ha,sim,hb1,hb2⟩ := h.sb;exact ⟨⟨N1,Ha,sim.ext (fun i => (e.1 i).symm) e.2.symm,hb1,by rw [<- e.2]; exact hb2⟩,h.defers,h.size⟩
def LeF : Fq -> Fq -> Prop
 | _,.all => True
 | .wr sl bs,.wr sl' bs' => (∀ i ∈ sl,i ∈ sl') /\ (match bs,bs' with
   | none,none => True
   | some l,some l' => ∀ b ∈ l,b ∈ l'
   | _,_ => False)
 | f,g => f = g
theorem LeF.refl (f : Fq) : LeF f f := by
 cases f <;> try exact rfl
 case wr sl bs => cases bs <;> simp [LeF]
 case all => trivial
def TS (c : Cfg) (call : Nat -> List AV -> Heap -> Option (AV × Heap)) (s : St) (q : O) (f : Fq) (s' : St) : Prop :=
 konst q.kd = true /\ ∃ s0 s1 f0,Same s s0 /\ stepB c call s0 q = some (s1,f0) /\ LeF f0 f /\ Same s1 s'
theorem stepTS : StepT c call (TS c call) := fun s q f s' hk h => ⟨fun hf => ⟨hk,s,s',f,Same.rfl',h,.refl f,Same.rfl'⟩,⟨hk,s,s',f,Same.rfl',h,by cases f <;> trivial,Same.rfl'⟩⟩
theorem soundTS (hops : OpsOK P c call) : SoundT P c (TS c call) := by
 intro X φ w B base N ops s s' o a q f hN hc ⟨_,s0,s1,f0,e0,h,_,e1⟩ hr hg K Q hK;have hr0 := hr.same e0
 have hck : chkK P o.op (dnK q.kd) = true := by
  have := hc;simp only [chkO,dnOp,Bool.and_eq_true] at this;exact this.2
 exact step_okB (fun v s2 f hv => hops X φ w B base s0 o a q.kd v s2 f hck hv hr0.sb hg) hc hN h hr0 fun a' w' φ' hr' k' => hK a' w' φ' (hr'.same e1) k'
theorem draw_comm (hok : CfgOKB P c) (hops : OpsOK P c call) (hC : CommT (TS c call)) : DrawOK P c call := draw_okB hok stepTS (soundTS hops) hC
end
end Go.Bm
