/- The machine by value: open orders, shared boxes; the whole. -/
import Derived.Test.YtmoginoicilobabGreatMd
import Derived.ProofKit
import Derived.WalkKit
import Derived.OpenShut
/- What a pure operation answers depends on the slots it reads. -/
set_option linter.unusedSimpArgs false
set_option linter.unusedVariables false
open Array renaming getD_eq_getD_getElem? → a8, replicate → nG
open Bool renaming and_eq_true → aa, false_eq_true → bW, not_eq_true' → bH, or_eq_false_iff → eO, or_eq_true → e9
open Classical renaming choose → yq, choose_spec → iY
open List renaming getElem?_drop → aQ, getElem?_eq_getElem → ai, getElem?_eq_none → eF, getElem?_map → dQ, getElem?_of_mem → br, getElem?_set_ne → cP, head?_eq_getElem? → sZ, isEmpty_iff → fa, length_set → dw, mem_append → aC, mem_append_left → RD, mem_append_right → PG, mem_cons → aU, mem_of_getElem? → aR, mem_of_mem_drop → cF, mem_of_mem_take → cD, mem_singleton → cV, range → kB, set_append_left → RB
open Nat renaming le_max_left → uS, le_max_right → sV, le_refl → aT
open Option renaming isSome_iff_exists → aW, map_some → cX
open Option.some renaming inj → cK, injEq → ah
open Prod.mk renaming injEq → aF
namespace Go.Bm
open Go.Am
section
variable {P : Program} {c : eG} {call : Nat -> List AV -> Heap -> Option (AV × Heap)}
theorem b9 {e1 e2 : Env} {x : E} (h : ∀ i ∈ x.slot,eY i (get e1 i) = eY i (get e2 i)) : bn c e1 x = bn c e2 x := by
 cases x with
 | t i => exact h i (by simp [E.slot])
 | k x => rfl
 | g i => rfl
theorem fH {e1 e2 : Env} : ∀ {xs : List E},(∀ i ∈ kP xs,eY i (get e1 i) = eY i (get e2 i)) -> dq c e1 xs = dq c e2 xs
 | [],_ => rfl
 | x :: r,h => by
   simp only [kP,aC] at h;simp only [dq];rw [b9 fun i hi => h i (.inl hi),fH fun i hi => h i (.inr hi)]
theorem pB {e1 e2 : Env} : ∀ {ps : List (Nat × Nat × E)} {zs : List AV},(∀ i ∈ nK ps,eY i (get e1 i) = eY i (get e2 i)) -> nf c e1 zs ps = nf c e2 zs ps
 | [],_,_ => by simp [nf]
 | (o,s,x) :: r,zs,h => by
   simp only [nK,aC] at h;simp only [nf];rw [b9 (c := c) fun i hi => h i (.inl hi)];split
   ·exact pB fun i hi => h i (.inr hi)
   ·rfl
theorem oH {e1 e2 : Env} : ∀ {ps : List (Nat × Nat × E)},(∀ i ∈ nK ps,eY i (get e1 i) = eY i (get e2 i)) -> gj c e1 ps = gj c e2 ps
 | [],_ => by simp [gj]
 | (o,s,x) :: r,h => by
   simp only [nK,aC] at h;simp only [gj];rw [b9 (c := c) fun i hi => h i (.inl hi),oH fun i hi => h i (.inr hi)]
theorem yc {e1 e2 : Env} {d m : Nat} {x : Option E} (h : ∀ i ∈ Hi x,eY i (get e1 i) = eY i (get e2 i)) : yd c e1 d m x = yd c e2 d m x := by
 cases x with
 | none => rfl
 | some x => simp only [yd]; rw [b9 h]
theorem HQ {e1 e2 : Env} {kd : Kd} (h : ∀ i ∈ kd.reads,eY i (get e1 i) = eY i (get e2 i)) : Qy c e1 kd = Qy c e2 kd := by
 cases kd <;> simp only [Kd.reads,aC] at h <;> simp only [Qy]
 case pick x y z => rw [b9 (c := c) fun i hi => h i (.inl hi),b9 (c := c) fun i hi => h i (.inr (.inl hi)),b9 (c := c) fun i hi => h i (.inr (.inr hi))]
 case build => rw [pB (c := c) h]
 case rT k x lo hi => rw [b9 (c := c) fun i hi => h i (.inl hi)]; simp only [yc (c := c) fun i hi => h i (.inr (.inl hi)),yc (c := c) fun i hi => h i (.inr (.inr hi))]
 case IK n x u => rw [b9 (c := c) fun i hi => h i (.inl hi)]
 case min => rw [fH (c := c) h]
 case max => rw [fH (c := c) h]
 case TK => rw [fH (c := c) fun i hi => h i (.inl hi),fH (c := c) fun i hi => h i (.inr hi)]
 all_goals first
  | rfl
  | rw [b9 (c := c) h]
  | rw [b9 (c := c) fun i hi => h i (.inl hi),b9 (c := c) fun i hi => h i (.inr hi)]
theorem Fu {e1 e2 : Env} {kd : Kd} (h : ∀ i ∈ kd.reads,eY i (get e1 i) = eY i (get e2 i)) : mA c e1 kd = mA c e2 kd := by
 cases kd <;> simp only [mA]
 case call => rw [fH (c := c) h]
 case jr =>
  simp only [Kd.reads,aC] at h;rw [b9 (c := c) fun i hi => h i (.inl hi),fH (c := c) fun i hi => h i (.inr hi)]
theorem hZ {e1 e2 : Env} {kd : Kd} (h : ∀ i ∈ kd.reads,eY i (get e1 i) = eY i (get e2 i)) : getArgs c e1 kd = getArgs c e2 kd := by
 unfold getArgs;rw [Fu h]
def Seen (ps : List Rt) (s t : St) : Prop := ∀ p ∈ ps,az t p = az s p /\ ∀ b l,p = .c b l -> aJ t.H b = aJ s.H b
theorem Qv {s t : St} {ag : Option Nat} {x v : AV} {ps : List Rt} (h : xE s ag x = some (v,ps)) (hs : Seen ps s t) : xE t ag x = some (v,ps) := by
 unfold xE at h ⊢;split at h
 ·exact h
 ·rename_i b off;split at h
  case h_2 => cases h
  rename_i cs hb;split at h
  case h_2 => cases h
  rename_i u hu;simp only [ah,aF] at h;obtain ⟨rfl,rfl⟩ := h;have := (hs _ (cV.2 rfl)).2 b _ rfl;simp only [this,hb,hu]
 ·rename_i k p i off;split at h
  case h_2 => cases h
  rename_i k' xs ho;split at h
  case isFalse => cases h
  rename_i hk;split at h
  case h_2 => cases h
  rename_i y hy;split at h
  case h_2 => cases h
  rename_i u hu;simp at h;obtain ⟨rfl,rfl⟩ := h;have := (hs p (by simp)).1;simp only [this,ho,hk,if_true,hy,hu]
 ·cases h
def o9 (b j : Nat) (s t : St) : Prop := ∀ cs,aJ s.H b = some cs -> ∃ ds,aJ t.H b = some ds /\ (eP (.c b) 0 ds)[j]? = (eP (.c b) 0 cs)[j]?
def wa (f : Fq) (s t : St) : Prop := (∀ ps,f = .rd ps -> Seen ps s t) /\ ∀ b j,f = .rc b j -> o9 b j s t
theorem rq (f : Nat -> Rt) : ∀ {cs ds : List AV} {j i : Nat},cs[i]? = ds[i]? -> (eP f j cs)[i]? = (eP f j ds)[i]?
 | [],[],_,_,_ => rfl
 | [],d :: ds,j,0,h => by simp at h
 | c :: cs,[],j,0,h => by simp at h
 | [],d :: ds,j,i + 1,h => by
   have := rq f (cs := []) (ds := ds) (j := j + 1) (i := i) (by simpa using h);cases d <;> simpa [eP] using this
 | c :: cs,[],j,i + 1,h => by
   have := rq f (cs := cs) (ds := []) (j := j + 1) (i := i) (by simpa using h);cases c <;> simpa [eP] using this
 | c :: cs,d :: ds,j,0,h => by
   simp at h;subst h;cases c <;> simp [eP]
 | c :: cs,d :: ds,j,i + 1,h => by
   have := rq f (cs := cs) (ds := ds) (j := j + 1) (i := i) (by simpa using h);cases c <;> cases d <;> simpa [eP] using this
theorem abw {ag : Option Nat} {cs ds : List AV} {k : Nat} {p : Rt} {o l : Nat} (h : Jk ag cs = some (.dA k p o l)) (e : ds[0]? = cs[0]?) : Jk ag ds = some (.dA k p o l) := by
 unfold Jk zQ at h ⊢;cases ag with
 | some n => simp only at h ⊢; (repeat' split at h) <;> simp_all
 | none =>
   simp only at h ⊢;have : ds.head? = cs.head? := by rw [sZ,sZ]; exact e
   rw [this]; exact h
theorem Vh {s t : St} {ag : Option Nat} {x v : AV} {ps : List Rt} (h : xE s ag x = some (v,ps)) (hs : wa (ug x v ps) s t) : xE t ag x = some (v,ps) := by
 by_cases hx : ∃ b off k o l,x = .ptr b off /\ v = .dA k (.c b off) o l
 ·obtain ⟨b,off,k,o,l,rfl,rfl⟩ := hx;have hs' := hs.2 b off (by simp [ug]);unfold xE at h ⊢;simp only at h ⊢;split at h
  case h_2 => cases h
  rename_i cs hb;split at h
  case h_2 => cases h
  rename_i u hu;simp only [ah,aF] at h;obtain ⟨rfl,h2⟩ := h;obtain ⟨ds,d1,d2⟩ := hs' cs hb
  have : Jk ag ((eP (.c b) 0 ds).drop off) = some (.dA k (.c b off) o l) := abw hu (by
   rw [aQ,aQ];simpa using d2)
  simp only [d1,this,h2]
 ·refine Qv h (hs.1 ps ?_);unfold ug;split
  ·rename_i b off k d j o l;split
   ·rename_i hc;obtain ⟨rfl,rfl⟩ := hc;exact absurd ⟨_,_,_,_,_,rfl,rfl⟩ hx
   ·rfl
  ·rfl
end
end Go.Bm

/- Operations that change nothing that is there: what they answer depends on the slots they read and on the places they name. -/
namespace Go.Bm
open Go.Am
section
variable {P : Program} {c : eG} {call : Nat -> List AV -> Heap -> Option (AV × Heap)}
theorem Seen.left {ps qs : List Rt} {s t : St} (h : Seen (ps ++ qs) s t) : Seen ps s t := fun p hp => h p (by simp [hp])
theorem Seen.right {ps qs : List Rt} {s t : St} (h : Seen (ps ++ qs) s t) : Seen qs s t := fun p hp => h p (by simp [hp])
mutual
theorem Fv {b : Bool} {s t : St} : ∀ x,Seen (aN x) s t -> kN b t x = kN b s x
 | .dA k p off len,h => by simp only [kN]; rw [(h p (by simp [aN])).1]
 | .agg cs,h => by simp only [kN]; rw [oN cs (by simpa [aN] using h)]
 | .dD cs,h => by simp only [kN]; rw [oN cs (by simpa [aN] using h)]
 | .func f a b',h => by
   have h' : Seen (df a ++ df b') s t := by simpa [aN] using h
   simp only [kN]; rw [oN a h'.left,oN b' h'.right]
 | .own _ _,_ => rfl
 | .ptr _ _,_ => rfl
 | .eW _ _ _ _,_ => rfl
 | .sl _ _ _ _,_ => rfl
 | .any,_ => rfl
 | .undef,_ => rfl
 | .bool _,_ => rfl
 | .int _ _,_ => rfl
 | .fk,_ => rfl
 | .fu,_ => rfl
 | .dJ,_ => rfl
 | .str _,_ => rfl
 | .dI _,_ => rfl
 | .list _ _,_ => rfl
theorem oN {b : Bool} {s t : St} : ∀ xs,Seen (df xs) s t -> Cy b t xs = Cy b s xs
 | [],_ => rfl
 | x :: r,h => by
   have h' : Seen (aN x ++ df r) s t := by simpa [df] using h
   simp only [Cy]; rw [Fv x h'.left,oN r h'.right]
end
theorem Rb {s t : St} {k : Nat} {x : AV} (h : Seen (aN x) s t) : cont t k x = cont s k x := by
 cases x <;> try rfl
 case dA k' p off len => simp only [cont]; rw [(h p (by simp [aN])).1]
 case own k' xs => cases xs <;> rfl
theorem Q2 {s t : St} {k b off len : Nat} (h : Seen [.c b 1] s t) : OP t k b off len = OP s k b off len := by
 unfold OP;rw [(h _ (cV.2 rfl)).2 b 1 rfl]
theorem Fy {s t : St} : ∀ xs,Seen (df xs ++ Dt xs) s t -> rF t xs = rF s xs
 | [],_ => rfl
 | x :: r,h => by
   have hb : Seen (aN x ++ df r) s t := by simpa [df] using h.left
   have hsl : Seen (Dt r) s t := fun p hp => h p (aC.2 (.inr (by cases x <;> simp [Dt,hp])));have ih := Fy r fun p hp => (aC.1 hp).elim (fun q => hb.right p q) (hsl p);have hx := Fv (b := false) x hb.left;cases x <;> try (simp only [rF]; rw [hx,ih]; done)
   case sl k b off len =>
    simp only [rF];rw [ih,Q2 fun p hp => h p (aC.2 (.inr (by simp [Dt,cV.1 hp])))]
   case own k xs =>
    cases xs with
    | nil => simp only [rF]; rw [ih]
    | cons y ys => simp only [rF]; rw [hx,ih]
def calm : Fq -> Bool
 | .no | .rc _ _ | .rd _ | .al _ => true
 | _ => false
def yg (s s1 : St) (kd : Kd) (f : Fq) (v : AV) (g : St -> Option (AV × St × Fq)) : Prop :=
 ∃ T,s1 = ⟨s.env,s.H ++ T⟩ /\ (T = [] \/ ∃ z,T = [z] /\ f = .al s.H.length) /\ ∀ t : St,(∀ i ∈ kd.reads,eY i (get t.env i) = eY i (get s.env i)) -> wa f s t -> (∀ n,f = .al n -> t.H.length = n) -> g t = some (v,⟨t.env,t.H ++ T⟩,f)
theorem uf (x v : AV) (ps : List Rt) : ug x v ps = .rd ps \/ ∃ b j,ug x v ps = .rc b j := by
 unfold ug;split
 ·split
  ·exact .inr ⟨_,_,rfl⟩
  ·exact .inl rfl
 ·exact .inl rfl
theorem yg.still {s : St} {kd : Kd} {f : Fq} {v : AV} {g : St -> Option (AV × St × Fq)} (h : ∀ t : St,(∀ i ∈ kd.reads,eY i (get t.env i) = eY i (get s.env i)) -> wa f s t -> g t = some (v,t,f)) : yg s s kd f v g :=
 ⟨[],by simp,.inl rfl,fun t h1 h2 _ => by rw [h t h1 h2]; simp⟩
end
end Go.Bm

/- Every calm operation depends on what it names alone. -/
namespace Go.Bm
open Go.Am
section
variable {P : Program} {c : eG} {call : Nat -> List AV -> Heap -> Option (AV × Heap)}
theorem Xi {s s' : St} {b off k : Nat} {v : AV} {f : Fq} (h : vQ s b off k v = some (s',f)) : calm f = false := by
 unfold vQ at h
 repeat' split at h
 all_goals first
  | (cases h; done)
  | (simp at h; obtain ⟨_,rfl⟩ := h; rfl)
theorem PO {s s' : St} {k : Nat} {a v : AV} {f : Fq} (h : Ps s k a v = some (s',f)) : calm f = false := by
 unfold Ps at h;split at h
 ·exact Xi h
 ·repeat' split at h
  all_goals first
   | (cases h; done)
   | (simp at h; obtain ⟨_,rfl⟩ := h; rfl)
 ·cases h
theorem vA (s : St) (l : List Rt) : kX s l = .all \/ ∃ sl bs,kX s l = .wr sl bs := by
 unfold kX;split
 ·split
  ·exact .inr ⟨_,_,rfl⟩
  ·exact .inl rfl
 ·exact .inl rfl
theorem Cd (s : St) (l : List Rt) : calm (kX s l) = false := by rcases vA s l with e | ⟨_,_,e⟩ <;> rw [e] <;> rfl
theorem AU (s : St) (l ps : List Rt) : (kX s l = .bo ps) = False := by rcases vA s l with e | ⟨_,_,e⟩ <;> rw [e] <;> simp
theorem vB (s : St) (l : List Rt) (n : Nat) : (kX s l = .al n) = False := by rcases vA s l with e | ⟨_,_,e⟩ <;> rw [e] <;> simp
theorem AS (s : St) (l : List Rt) (n : Nat) : (kX s l = .lw n) = False := by rcases vA s l with e | ⟨_,_,e⟩ <;> rw [e] <;> simp
theorem OZ {s s1 : St} {kd : Kd} {v : AV} {f : Fq} (h : eh c call kd s = some (v,s1,f)) (hf : calm f = true) : yg s s1 kd f v (eh c call kd) := by
 unfold eh at h;split at h
 ·cases h
 rename_i f0 args ha;split at h
 ·cases h
 rename_i md q hq;split at h
 ·rename_i hm;split at h
  ·cases h
  rename_i pE hz;split at h
  case h_2 => cases h
  rename_i r H' hc;split at h
  case isFalse => cases h
  rename_i hr;simp at h;obtain ⟨rfl,rfl,rfl⟩ := h;refine .still fun t h1 h2 => ?_
  have hs : Seen (df args ++ Dt args) s t := by
   by_cases he : (df args ++ Dt args).isEmpty = true
   ·rw [fa.1 he]; intro p hp; simp at hp
   ·exact h2.1 _ (by simp [he] <;> simpa using he)
  unfold eh;rw [hZ h1,ha];simp only [hq,hm,if_true,Fy args hs,hz,hc,hr];simp
 ·rename_i hm;split at h
  ·cases h
  rename_i f1 mC KF;split at h
  case isFalse => cases h
  rename_i hff;split at h
  ·repeat' split at h
   all_goals first
    | (cases h; done)
    | (simp at h; obtain ⟨_,_,rfl⟩ := h; exfalso; simp [calm] at hf; done)
    | (simp at h; obtain ⟨_,_,rfl⟩ := h; exfalso; revert hf; split <;> simp [calm])
  ·rename_i jv;split at h
   case isFalse => cases h
   rename_i hp;split at h
   case h_2 => cases h
   rename_i r H' hc;split at h
   case isFalse => cases h
   rename_i hr;simp at h;obtain ⟨rfl,rfl,rfl⟩ := h
   have he : df args = [] := by
    cases hb : df args with
    | nil => rfl
    | cons x y => rw [hb] at hf; simp [Cd] at hf
   rw [he] at KF ⊢;simp only [dV] at KF ⊢;refine .still fun t h1 h2 => ?_;unfold eh;rw [hZ h1,ha];simp only [hq,hm,he,dV,bW,if_false];rw [hZ h1,KF];simp only [hff,if_true,jv,hp,hc,hr,bW,if_false];simp
theorem vu {s : St} {kd : Kd} (h : mw c s kd = none) (t : St) : mw c t kd = none := by
 unfold mw at h ⊢;split at h
 ·split at h
  ·rename_i f x es hi;split at h
   ·rename_i he; simp only [hi,he]
   ·cases h
  ·cases h
 ·rfl
theorem Au {s : St} {kd : Kd} (h : lq c call s kd = none) (t : St) : lq c call t kd = none := by
 unfold lq at h ⊢;split at h
 ·rename_i f x es;split at h
  ·cases h
  ·rename_i hl;exact if_neg hl
 ·rfl
theorem acM {s s1 : St} {g : Nat -> List AV -> List AV -> Option (List AV)} {x : AV} {es : List AV} {v : AV} {f : Fq} (h : G5 s g x es = some (v,s1,f)) : ∃ sl bs,f = .wr sl bs \/ f = .all := by
 unfold G5 at h
 (repeat' split at h) <;> simp at h
 ·obtain ⟨_,_,h⟩ := h; exact ⟨[],none,.inr h.symm⟩
 ·obtain ⟨_,_,h⟩ := h; exact ⟨_,_,.inl h.symm⟩
theorem y9 {s s1 : St} {kd : Kd} {v : AV} {f : Fq} (h : mw c s kd = some (some (v,s1,f))) : ∃ sl bs,f = .wr sl bs \/ f = .all := by
 unfold mw at h;split at h
 case h_2 => cases h
 split at h
 case h_1 =>
  split at h
  ·cases h
  ·simp only [ah] at h;exact acM h
 simp only [ah] at h
 (repeat' split at h) <;> simp at h
 all_goals first
  | exact ⟨_,_,.inl h.2.2.symm⟩
  | exact ⟨[],none,.inr h.2.2.symm⟩
theorem Aq {aiF : Nat -> List AV -> Heap -> Option (AV × Heap)} {s : St} {kd : Kd} (h : pP c call s kd = none) (t : St) : pP c aiF t kd = none := by
 unfold pP at h ⊢;split at h
 ·split at h
  ·cases h
  ·rename_i hm;simp only [hm]
 ·rfl
theorem vj {s s1 : St} {kd : Kd} {v : AV} {f : Fq} (h : pP c call s kd = some (some (v,s1,f))) : f = .all /\ ∃ k ys,v = .own k ys := by
 unfold pP at h;split at h
 case h_2 => cases h
 split at h
 case h_2 => cases h
 simp only [ah] at h;unfold NY at h
 (repeat' split at h) <;> first
  | (cases h; done)
  | (simp only [ah,aF] at h; exact ⟨h.2.2.symm,_,_,h.1.symm⟩)
theorem KM {s s1 : St} {kd : Kd} {v : AV} {f : Fq} (h : fR c call kd s = some (v,s1,f)) (hf : calm f = true) : yg s s1 kd f v (fR c call kd) := by
 unfold fR at h;cases hm : pP c call s kd with
 | some r =>
   rw [hm] at h;simp only at h;subst h;obtain ⟨rfl,_⟩ := vj hm;simp [calm] at hf
 | none =>
   rw [hm] at h;rcases iU h with h | h
   ·obtain ⟨T,h1,h2,h3⟩ := OZ h hf;refine ⟨T,h1,h2,fun t a b d => ?_⟩;unfold fR;rw [Aq hm t];exact oP (h3 t a b d)
   ·obtain ⟨rfl,_⟩ := u5 h;simp [calm] at hf
theorem zm {s s1 : St} {kd : Kd} {v : AV} {f : Fq} (h : dE c call kd s = some (v,s1,f)) (hf : calm f = true) : yg s s1 kd f v (dE c call kd) := by
 unfold dE at h;cases hi : mw c s kd with
 | some r =>
   rw [hi] at h;simp only at h;subst h;obtain ⟨sl,bs,rfl | rfl⟩ := y9 hi <;> simp [calm] at hf
 | none =>
   rw [hi] at h;cases hl : lq c call s kd with
   | some r =>
     rw [hl] at h;simp only at h;subst h;obtain ⟨b,rfl⟩ := CT hl;simp [calm] at hf
   | none =>
     rw [hl] at h;obtain ⟨T,h1,h2,h3⟩ := KM h hf;refine ⟨T,h1,h2,fun t a b d => ?_⟩;unfold dE;rw [vu hi t,Au hl t];exact h3 t a b d
end
end Go.Bm

/- Every operation that is calm depends on what it names alone. -/
namespace Go.Bm
open Go.Am
section
variable {P : Program} {c : eG} {call : Nat -> List AV -> Heap -> Option (AV × Heap)}
theorem Zs {s s1 : St} {kd : Kd} {v : AV} {f : Fq} (h : ft c call s kd = some (v,s1,f)) (hf : calm f = true) : yg s s1 kd f v (fun t => ft c call t kd) := by
 have pure : ∀ {kd : Kd} {v : AV} {s1 : St} {f : Fq},(match Qy c s.env kd with
   | some v => some (v,s,Fq.no)
   | none => none) = some (v,s1,f) -> yg s s1 kd f v (fun t => match Qy c t.env kd with
   | some v => some (v,t,Fq.no)
   | none => none) := by
  intro kd v s1 f h;split at h
  case h_2 => cases h
  rename_i u hu;simp at h;obtain ⟨rfl,rfl,rfl⟩ := h;refine .still fun t h1 _ => ?_;simp only [HQ (c := c) h1,hu]
 cases kd
 case call f0 xs => simp only [ft] at h ⊢; exact zm h hf
 case jr x xs => simp only [ft] at h ⊢; exact zm h hf
 case ld ag x =>
  simp only [ft] at h;split at h
  case h_2 => cases h
  rename_i u ps hp;split at h
  case isFalse => cases h
  rename_i hl;simp at h;obtain ⟨rfl,rfl,rfl⟩ := h;refine .still fun t h1 h2 => ?_;simp only [ft,b9 (c := c) h1,Vh hp h2,hl,if_true]
 case copy k x y =>
  exfalso;simp only [ft] at h
  (repeat' split at h) <;> first
   | (cases h; done)
   | (simp only [ah,aF] at h; obtain ⟨_,_,rfl⟩ := h; first
     | (simp [calm] at hf; done)
     | (rcases uA _ _ with e | ⟨_,_,_,_,e⟩ <;> rw [e] at hf <;> simp [calm] at hf))
 case IK n x hi =>
  simp only [ft] at h;split at h
  ·rename_i b off hx;split at h
   case h_2 => cases h
   rename_i m cs hm hb;split at h
   case isFalse => cases h
   rename_i hl;simp at h;obtain ⟨rfl,rfl,rfl⟩ := h;refine .still fun t h1 h2 => ?_;simp only [Kd.reads,aC] at h1;have e := ((h2.1 _ rfl) _ (cV.2 rfl)).2 b 1 rfl;have VR : yd c t.env n n hi = some m := by rw [yc (c := c) fun i hi => h1 i (.inr hi)]; exact hm
   simp only [ft,b9 (c := c) fun i hi => h1 i (.inl hi),hx,VR,e,hb,hl,if_true]
  ·rename_i iB;split at h
   case h_2 => cases h
   rename_i u hu;simp at h;obtain ⟨rfl,rfl,rfl⟩ := h;refine .still fun t h1 _ => ?_;have e := HQ (c := c) h1;simp only [Kd.reads,aC] at h1;have ex : bn c t.env x = bn c s.env x := b9 (c := c) fun i hi => h1 i (.inl hi);simp only [ft,ex,e,hu]
 case new zs =>
  simp only [ft] at h;simp at h;obtain ⟨rfl,rfl,rfl⟩ := h;exact ⟨_,rfl,.inr ⟨_,rfl,rfl⟩,fun t _ _ h3 => by simp only [ft]; rw [h3 _ rfl]⟩
 case box x =>
  simp only [ft] at h;split at h
  case isFalse => cases h
  rename_i hl;simp at h;obtain ⟨rfl,rfl,rfl⟩ := h;refine ⟨_,rfl,.inr ⟨_,rfl,rfl⟩,fun t h1 _ h3 => ?_⟩;simp only [ft,b9 (c := c) h1,hl,if_true];rw [h3 _ rfl]
 case eE k n zs ps =>
  simp only [ft] at h;split at h
  case h_2 => cases h
  rename_i cs hc;split at h
  case isFalse => cases h
  rename_i hz;simp at h;obtain ⟨rfl,rfl,rfl⟩ := h
  have he : gj c s.env ps = [] := by
   cases hb : gj c s.env ps with
   | nil => rfl
   | cons x y => rw [hb] at hf; simp [Cd] at hf
  rw [he] at hc ⊢;simp only [dV] at hc ⊢;refine .still fun t h1 _ => ?_;simp only [ft,oH (c := c) h1,he,dV,pB (c := c) h1,hc,hz,if_true];simp
 case st k a v =>
  exfalso;simp only [ft] at h;split at h
  ·split at h
   case h_2 => cases h
   rename_i hh;have h4 := PO hh;simp only [ah,aF] at h;obtain ⟨_,_,h5⟩ := h;rw [<- h5] at hf;split at hf
   ·rw [hf] at h4; cases h4
   ·simp [calm] at hf
  ·split at h
   case h_2 => cases h
   rename_i hh;have h4 := PO hh;simp only [ah,aF] at h;obtain ⟨_,_,h5⟩ := h;rw [<- h5] at hf;rw [hf] at h4;cases h4
 case app k x y =>
  simp only [ft] at h;split at h
  case h_2 => cases h
  rename_i ys hy;split at h
  case isFalse => cases h
  rename_i hl;split at h
  ·rename_i k' hx;split at h
   case isFalse => cases h
   rename_i hle;simp at h;obtain ⟨rfl,rfl,rfl⟩ := h;refine .still fun t h1 h2 => ?_;simp only [Kd.reads,aC] at h1;simp only [ft];rw [b9 (c := c) fun i hi => h1 i (.inl hi),b9 (c := c) fun i hi => h1 i (.inr hi),Rb (h2.1 _ rfl),hy];simp only [hl,if_true,hx,hle]
  ·exfalso
   repeat' split at h
   all_goals first
    | (cases h; done)
    | (simp at h; obtain ⟨_,_,rfl⟩ := h; simp [calm] at hf)
  ·cases h
 case Kn k zs l cp =>
  simp only [ft] at h;split at h
  case h_2 => cases h
  rename_i k1 n1 k2 n2 e1 e2;split at h
  case isFalse => cases h
  rename_i hb;split at h
  ·rename_i z hz;simp at h;obtain ⟨rfl,rfl,rfl⟩ := h;refine ⟨_,rfl,.inr ⟨_,rfl,rfl⟩,fun t h1 _ h3 => ?_⟩;simp only [Kd.reads,aC] at h1;simp only [ft];rw [b9 (c := c) fun i hi => h1 i (.inl hi),b9 (c := c) fun i hi => h1 i (.inr hi),e1,e2];simp only [hb,and_self,if_true,hz];rw [h3 _ rfl]
  ·rename_i hz;simp at h;obtain ⟨rfl,rfl,rfl⟩ := h;refine .still fun t h1 h2 => ?_;simp only [Kd.reads,aC] at h1;simp only [ft];rw [b9 (c := c) fun i hi => h1 i (.inl hi),b9 (c := c) fun i hi => h1 i (.inr hi),e1,e2];simp only [hb,and_self,if_true,hz]
 case Ur k zs x =>
  simp only [ft] at h;split at h
  case h_3 => cases h
  all_goals
   rename_i e1;simp at h;obtain ⟨rfl,rfl,rfl⟩ := h;refine .still fun t h1 h2 => ?_;simp only [ft,b9 (c := c) h1,e1]
 all_goals
  simp only [ft] at h ⊢;exact pure h
end
end Go.Bm

/- A state without shadowed entries: who mentions a place, by what can be read. -/
namespace Go.Bm
open Go.Am
section
def J7 : List Nat -> Env -> Env
 | _,[] => []
 | sn,(i,v) :: r => if mem i sn then J7 sn r else (i,v) :: J7 (i :: sn) r
theorem KG : ∀ (sn : List Nat) (e : Env) (i : Nat),get (J7 sn e) i = if mem i sn = true then .any else get e i
 | sn,[],i => by simp [J7,Am.get]
 | sn,(j,v) :: r,i => by
   unfold J7;by_cases hj : mem j sn = true
   ·rw [if_pos hj,KG sn r i];by_cases hi : mem i sn = true
    ·simp [hi]
    ·simp only [hi,bW,if_false,Am.get];have : j ≠ i := fun e => hi (e ▸ hj);have h2 : i ≠ j := fun e => this e.symm;simp [hi,h2]
   ·rw [if_neg hj];simp only [Am.get];rw [KG (j :: sn) r i];by_cases GY : j = i
    ·subst GY;simp [hj]
    ·have h2 : i ≠ j := fun e => GY e.symm
     have : mem i (j :: sn) = mem i sn := by
      conv => lhs; unfold mem
      rw [if_neg h2]
     simp only [this,h2,if_false]
theorem Pj {f : Rt -> Bool} : ∀ {e : Env} {i : Nat},uL f (aN (get e i)) = true -> Gk f e = true
 | [],i,h => by simp [Am.get,aN,uL] at h
 | (j,v) :: r,i,h => by
   simp only [Am.get] at h;simp only [Gk,e9];split at h
   ·exact .inl h
   ·exact .inr (Pj h)
theorem Gj {f : Rt -> Bool} : ∀ {sn : List Nat} {e : Env},Gk f (J7 sn e) = true -> ∃ i,mem i sn = false /\ uL f (aN (Am.get e i)) = true
 | sn,[],h => by simp [J7,Gk] at h
 | sn,(j,v) :: r,h => by
   unfold J7 at h;by_cases hj : mem j sn = true
   ·rw [if_pos hj] at h;obtain ⟨i,h1,h2⟩ := Gj h;have sO : i ≠ j := fun e => by rw [e,hj] at h1; cases h1
    exact ⟨i,h1,by simp only [Am.get]; rw [if_neg sO]; exact h2⟩
   ·rw [if_neg hj] at h;simp only [Gk,e9] at h;rcases h with h | h
    ·exact ⟨j,by simpa using hj,by simp only [Am.get,if_true]; exact h⟩
    ·obtain ⟨i,h1,h2⟩ := Gj h
     have sO : i ≠ j := fun e => by
      rw [e] at h1;unfold mem at h1;simp at h1
     refine ⟨i,?_,by simp only [Am.get]; rw [if_neg sO]; exact h2⟩;unfold mem at h1;rw [if_neg sO] at h1;exact h1
def ND (s : St) : St := ⟨J7 [] s.env,s.H⟩
theorem lR (s : St) : dL s (ND s) := ⟨fun i => by simp only [ND]; rw [KG]; simp [mem],rfl⟩
end
end Go.Bm

/- A step is an operation's value, put to its slot; what a calm operation and one that writes a few places are worth. -/
namespace Go.Bm
open Go.Am
section
variable {P : Program} {c : eG} {call : Nat -> List AV -> Heap -> Option (AV × Heap)}
def Cf (c : eG) (call : Nat -> List AV -> Heap -> Option (AV × Heap)) (s : St) (q : O) : Option (AV × St × Fq) :=
 match q.guard with
 | none => ft c call s q.kd
 | some (g,want) => match get s.env g with
   | .bool b => if b = want then ft c call s q.kd else some (.undef,s,.no)
   | .undef => some (.undef,s,.no)
   | _ => none
theorem tg (s : St) (q : O) : po c call s q = match Cf c call s q with
  | some (v,s',fl) => zj s.env q.dst v s' fl
  | none => none := by
 unfold po Cf;cases hg : q.guard with
 | none => rfl
 | some p =>
   obtain ⟨g,want⟩ := p;simp only;generalize get s.env g = u;cases u <;> try rfl
   rename_i b;simp only;by_cases hb : b = want
   ·simp only [hb,if_true]; rfl
   ·simp only [hb,if_false]
def jt (s : St) (d : Option Nat) (v : AV) : St := match d with
 | none => s
 | some d => ⟨put s.env d v,s.H⟩
theorem gL (s : St) (d : Option Nat) (v : AV) : (jt s d v).H = s.H := by cases d <;> rfl
theorem ep (s : St) (d : Option Nat) (v : AV) (i : Nat) : get (jt s d v).env i = if d = some i then v else get s.env i := by
 cases d with
 | none => simp [jt]
 | some d =>
   simp only [jt,bu];by_cases h : i = d
   ·subst h; simp
   ·have : d ≠ i := fun e => h e.symm;simp [h,this]
theorem Vf {s t : St} (h : dL s t) (d : Option Nat) (v : AV) : dL (jt s d v) (jt t d v) :=
 ⟨fun i => by rw [ep,ep,h.1 i],by rw [gL,gL]; exact h.2⟩
def Ev (c : eG) (call : Nat -> List AV -> Heap -> Option (AV × Heap)) (s : St) (q : O) (v : AV) (s1 : St) (f : Fq) : Prop :=
 vX q.kd = true /\ ∃ s0 t1,dL s s0 /\ Cf c call s0 q = some (v,t1,f) /\ dL t1 s1
theorem Ev.same {s t s1 t1 : St} {q : O} {v : AV} {f : Fq} (h : Ev c call s q v s1 f) (e : dL s t) (e1 : dL s1 t1) : Ev c call t q v t1 f := by
 obtain ⟨hk,s0,u1,a,b,d⟩ := h;exact ⟨hk,s0,u1,e.symm.trans a,b,d.trans e1⟩
structure Rx (c : eG) (call : Nat -> List AV -> Heap -> Option (AV × Heap)) (s : St) (q : O) (v : AV) (s1 : St) (f : Fq) (X : Heap) : Prop where
 st : dL s1 ⟨s.env,s.H ++ X⟩
 nw : (X = [] /\ ∀ n,f ≠ .al n) \/ ∃ z,X = [z] /\ f = .al s.H.length
 go : ∀ t : St,(∀ i ∈ q.reads,eY i (get t.env i) = eY i (get s.env i)) -> wa f s t -> (∀ n,f = .al n -> t.H.length = n) -> Ev c call t q v ⟨t.env,t.H ++ X⟩ f
 val : ∀ V : Rt -> Prop,(∀ i ∈ q.reads,(∀ p ∈ aN (get s.env i),¬ V p) /\ ¬ V (.s i) /\ ∀ j,¬ V (.sc i j)) ->
  (∀ ps,f = .rd ps -> ∀ b,Rt.c b 0 ∈ ps -> ∀ cs,aJ s.H b = some cs -> (∀ p ∈ df cs,¬ V p) /\ (bJ cs = true -> ∀ j,¬ V (.c b j))) ->
  (∀ b j,f = .rc b j -> ∀ cs c,aJ s.H b = some cs -> cs[j]? = some c -> (∀ p ∈ aN c,¬ V p) /\ (∀ k xs,c = .own k xs -> ¬ V (.c b j))) -> ∀ p ∈ aN v,¬ V p
structure LwEv (c : eG) (call : Nat -> List AV -> Heap -> Option (AV × Heap)) (s : St) (q : O) (v : AV) (s1 : St) (b : Nat) (cs cs' : List AV) : Prop where
 bl : aJ s.H b = some cs
 st : dL s1 ⟨s.env,s.H.set b (some cs')⟩
 go : ∀ t : St,(∀ i ∈ q.reads,get t.env i = get s.env i) -> aJ t.H b = some cs -> Ev c call t q v ⟨t.env,t.H.set b (some cs')⟩ (.lw b)
structure WrEv (c : eG) (call : Nat -> List AV -> Heap -> Option (AV × Heap)) (s : St) (q : O) (v : AV) (s1 : St) (sl : List Nat) (bs : Option (List Nat)) (V : Rt -> Prop) : Prop where
 env : ∀ i,i ∉ sl -> i + kA ∉ sl -> get s1.env i = get s.env i
 hd : ∀ i,i ∉ sl -> eY i (get s1.env i) = eY i (get s.env i)
 keep : ∀ i,bN (get s.env i) = false -> aN (get s.env i) = [] -> get s1.env i = get s.env i
 heap : ∀ l,bs = some l -> ∀ b,lC b l = false -> aJ s1.H b = aJ s.H b
 cell : ∀ l,bs = some l -> ∀ b j,b ∉ l -> jV b j ∉ l -> o9 b j s s1 /\ o9 b j s1 s
 v1 : ∀ i,i ∉ sl -> (∀ p ∈ aN (get s.env i),¬ V p) /\ ¬ V (.s i) /\ ∀ j,¬ V (.sc i j)
 v2 : ∀ l,bs = some l -> ∀ b,lC b l = false -> b + kA ∉ l -> ∀ cs,aJ s.H b = some cs -> (∀ p ∈ df cs,¬ V p) /\ (bJ cs = true -> ∀ j,¬ V (.c b j))
 v3 : ∀ l,bs = some l -> ∀ b j,b ∉ l -> b + kA ∉ l -> jV b j ∉ l -> ∀ cs c,aJ s.H b = some cs -> cs[j]? = some c -> (∀ p ∈ aN c,¬ V p) /\ (∀ k xs,c = .own k xs -> ¬ V (.c b j))
 go : ∀ d u,d ∉ q.reads -> d ∉ sl -> d + kA ∉ sl -> (∀ p ∈ aN u,¬ V p) -> ∃ t1 sl',Ev c call ⟨put s.env d u,s.H⟩ q v t1 (.wr sl' bs) /\ (∀ i ∈ sl',i ∈ sl) /\ dL t1 ⟨put s1.env d u,s1.H⟩
end
end Go.Bm

/- Two steps whose order is open commute, given what single operations are worth. -/
namespace Go.Bm
open Go.Am
section
variable {P : Program} {c : eG} {call : Nat -> List AV -> Heap -> Option (AV × Heap)}
def nA (c : eG) (call : Nat -> List AV -> Heap -> Option (AV × Heap)) : Prop := ∀ s q v s1 f,Ev c call s q v s1 f -> calm f = true -> ∃ X,Rx c call s q v s1 f X
def zx (c : eG) (call : Nat -> List AV -> Heap -> Option (AV × Heap)) : Prop := ∀ s q v s1 sl bs,Ev c call s q v s1 (.wr sl bs) -> ∃ V,WrEv c call s q v s1 sl bs V
def zA (c : eG) (call : Nat -> List AV -> Heap -> Option (AV × Heap)) : Prop := ∀ s q v s1 b,Ev c call s q v s1 (.lw b) -> ∃ cs cs',LwEv c call s q v s1 b cs cs'
theorem ahf {s s1 : St} {q : O} {v : AV} {f : Fq} (h : Cf c call s q = some (v,s1,f)) : ∀ ps,f ≠ .bo ps := by
 have fc : ∀ {kd : Kd} {v : AV} {s1 : St} {f : Fq},ft c call s kd = some (v,s1,f) -> ∀ ps,f ≠ .bo ps := by
  intro kd v s1 f h ps e;subst e
  have st : ∀ {s s' : St} {k : Nat} {a v : AV},Ps s k a v ≠ some (s',.bo ps) := by
   intro s s' k a v h;unfold Ps vQ at h
   repeat' split at h
   all_goals first
    | (cases h; done)
    | (simp at h; done)
  have ic : ∀ {kd : Kd},mw c s kd ≠ some (some (v,s1,.bo ps)) := fun h => by
   obtain ⟨sl,bs,e | e⟩ := y9 h <;> cases e
  have oc : ∀ {kd : Kd},dE c call kd s ≠ some (v,s1,.bo ps) := by
   intro kd h;unfold dE at h;split at h
   ·rename_i r hi; subst h; exact ic hi
   split at h
   ·rename_i r hi; subst h; obtain ⟨b,e⟩ := CT hi; cases e
   unfold fR at h;split at h
   ·rename_i r hi; subst h; obtain ⟨e,_⟩ := vj hi; cases e
   ·replace h := (iU h).resolve_right fun h => by obtain ⟨e,_⟩ := u5 h; cases e
    unfold eh at h
    (repeat' split at h)
    all_goals first
     | (cases h; done)
     | (simp [AU] at h; done)
     | (simp at h; obtain ⟨_,_,h5⟩ := h; revert h5; split <;> simp [AU])
  cases kd <;> simp only [ft] at h
  case call => exact oc h
  case jr => exact oc h
  case st k a v =>
   split at h
   ·split at h
    case h_2 => cases h
    rename_i hh;simp only [ah,aF] at h;obtain ⟨_,_,h5⟩ := h;split at h5
    ·rw [h5] at hh; exact st hh
    ·cases h5
   ·split at h
    case h_2 => cases h
    rename_i hh;simp only [ah,aF] at h;obtain ⟨_,_,h5⟩ := h;rw [h5] at hh;exact st hh
  all_goals
   (repeat' split at h)
   all_goals first
    | (cases h; done)
    | (simp at h; done)
    | (simp [AU] at h; done)
    | (simp at h; obtain ⟨_,_,h5⟩ := h; rcases uf _ _ _ with e | ⟨b,j,e⟩ <;> rw [e] at h5 <;> cases h5; done)
    | (simp at h; obtain ⟨_,_,h5⟩ := h; rcases uA _ _ with e | ⟨_,_,_,_,e⟩ <;> rw [e] at h5 <;> cases h5; done)
    | (simp at h; obtain ⟨_,_,h5⟩ := h; revert h5; split <;> simp)
 unfold Cf at h;split at h
 ·exact fc h
 ·split at h
  ·split at h
   ·exact fc h
   ·simp at h; obtain ⟨_,_,rfl⟩ := h; intro ps; simp
  ·simp at h; obtain ⟨_,_,rfl⟩ := h; intro ps; simp
  ·cases h
theorem Ev.fl {s s1 : St} {q : O} {v : AV} {f : Fq} (h : Ev c call s q v s1 f) : ∀ ps,f ≠ .bo ps := let ⟨_,_,_,_,b,_⟩ := h; ahf b
theorem je {e e' : Env} {d : Option Nat} {f : Fq} (h : ∀ i,d = some i -> get e i = get e' i) : bR e d f = bR e' d f := by
 unfold bR;cases d with
 | none => rfl
 | some d => simp only; rw [h d rfl]
theorem px {e : Env} {d : Option Nat} {f : Fq} (h : mg (bR e d f) = true) : ∀ i,d = some i -> bN (get e i) = false := by
 rintro i rfl;unfold bR at h;cases hh : bN (get e i) with
 | false => rfl
 | true => simp [hh,mg] at h
theorem mn {e : Env} {d : Option Nat} {sl : List Nat} {bs : Option (List Nat)} (h : mg (bR e d (.wr sl bs)) = true) : bR e d (.wr sl bs) = .wr sl bs /\ ∀ i,d = some i -> bN (get e i) = false /\ aN (get e i) = [] := by
 refine ⟨?_,fun i hi => ⟨px h i hi,?_⟩⟩
 ·unfold bR at h ⊢;cases d with
  | none => rfl
  | some d =>
    simp only at h ⊢;split at h
    ·simp [mg] at h
    rename_i h1;rw [if_neg h1];split at h
    ·rename_i h2; rw [if_pos h2]
    ·simp [mg] at h
 ·subst hi;unfold bR at h;simp only at h;split at h
  ·simp [mg] at h
  ·split at h
   ·rename_i h2; exact fa.1 h2
   ·simp [mg] at h
theorem tj {e : Env} {d : Option Nat} {b : Nat} (h : mg (bR e d (.lw b)) = true) : bR e d (.lw b) = .lw b /\ ∀ i,d = some i -> bN (get e i) = false /\ aN (get e i) = [] := by
 refine ⟨?_,fun i hi => ⟨px h i hi,?_⟩⟩
 ·unfold bR at h ⊢;cases d with
  | none => rfl
  | some d =>
    simp only at h ⊢;split at h
    ·simp [mg] at h
    rename_i h1;rw [if_neg h1];split at h
    ·rename_i h2; rw [if_pos h2]
    ·simp [mg] at h
 ·subst hi;unfold bR at h;simp only at h;split at h
  ·simp [mg] at h
  ·split at h
   ·rename_i h2; exact fa.1 h2
   ·simp [mg] at h
theorem tl {e : Env} {d : Option Nat} {f : Fq} (h : mg (bR e d f) = true) : mg f = true := by
 unfold bR at h;split at h
 ·exact h
 ·split at h
  ·simp [mg] at h
  ·split at h
   ·exact h
   ·split at h
    ·rfl
    ·rfl
    ·rfl
    ·simp [mg] at h
theorem Bg {e e' : Env} {d : Option Nat} {sl sl' : List Nat} {bs bs' : Option (List Nat)} (h : ∀ i,d = some i -> bN (get e i) = false /\ aN (get e i) = []) : bR e d (.wr sl bs) = .wr sl bs := by
 unfold bR;cases d with
 | none => rfl
 | some d => simp [h d rfl]
theorem TS.out (HC : nA c call) (HW : zx c call) (HL : zA c call) {s s' : St} {q : O} {f : Fq} (h : TS c call s q f s') (hf : mg f = true) : ∃ v s1 f1,Ev c call s q v s1 f1 /\ mg (bR s.env q.dst f1) = true /\ ym (bR s.env q.dst f1) f /\ dL s' (jt s1 q.dst v) := by
 obtain ⟨hk,s0,t1,f0,e0,yk,hle,e1⟩ := h;rw [tg] at yk;split at yk
 case h_2 => cases yk
 rename_i v u1 f1 he;have hfl := zi yk;have VO : bR s0.env q.dst f1 = bR s.env q.dst f1 := je fun i _ => (e0.1 i).symm
 have hcw : mg (bR s.env q.dst f1) = true := by
  rw [<- VO,<- hfl];cases f0 <;> cases f <;> simp [ym,mg] at hle hf ⊢
 have hev : Ev c call s q v u1 f1 := ⟨hk,s0,u1,e0,he,dL.rfl'⟩;refine ⟨v,u1,f1,hev,hcw,by rw [<- VO,<- hfl]; exact hle,?_⟩;unfold zj at yk;split at yk
 case h_2 => cases yk
 rename_i u2 hp;simp only [ah,aF] at yk;obtain ⟨rfl,_⟩ := yk;refine e1.symm.trans ?_;cases hd : q.dst with
 | none => rw [hd] at hp; simp [vU] at hp; subst hp; exact dL.rfl'
 | some d =>
   rw [hd] at hp
   have iB : bN (get u1.env d) = false := by
    have h0 := px hcw d hd;have Lg := tl hcw;by_cases OE : calm f1 = true
    ·obtain ⟨X,hX⟩ := HC _ _ _ _ _ hev OE;rw [hX.st.1 d];exact h0
    ·cases f1 <;> simp [calm,mg] at OE Lg
     case wr sl bs =>
      obtain ⟨V,hV⟩ := HW _ _ _ _ _ _ hev;have h2 := (mn hcw).2 d hd;rw [hV.keep d h2.1 h2.2];exact h0
     case lw b =>
      obtain ⟨cs,cs',hL⟩ := HL _ _ _ _ _ hev;rw [hL.st.1 d];exact h0
     case bo => exact absurd rfl (hev.fl _)
   simp only [vU,Vg,LJ,iB,Bool.false_and,bW,if_false,ah] at hp;subst hp;exact dL.rfl'
theorem TS.mk (HC : nA c call) (HW : zx c call) (HL : zA c call) {s s1 s' : St} {q : O} {v : AV} {f f1 : Fq} (hev : Ev c call s q v s1 f1) (hcw : mg (bR s.env q.dst f1) = true) (hle : ym (bR s.env q.dst f1) f) (hs : dL s' (jt s1 q.dst v)) : TS c call s q f s' := by
 have hev' := hev;obtain ⟨hk,s0,t1,e0,he,e1⟩ := hev';have VO : bR s0.env q.dst f1 = bR s.env q.dst f1 := je fun i _ => (e0.1 i).symm
 have xQ : vU t1 q.dst v = some (jt t1 q.dst v) := by
  cases hd : q.dst with
  | none => rfl
  | some d =>
    have iB : bN (get t1.env d) = false := by
     have h0 := px hcw d hd;have Lg := tl hcw;rw [e1.1 d];by_cases OE : calm f1 = true
     ·obtain ⟨X,hX⟩ := HC _ _ _ _ _ hev OE;rw [hX.st.1 d];exact h0
     ·cases f1 <;> simp [calm,mg] at OE Lg
      case wr sl bs =>
       obtain ⟨V,hV⟩ := HW _ _ _ _ _ _ hev;have h2 := (mn hcw).2 d hd;rw [hV.keep d h2.1 h2.2];exact h0
      case lw b =>
       obtain ⟨cs,cs',hL⟩ := HL _ _ _ _ _ hev;rw [hL.st.1 d];exact h0
      case bo => exact absurd rfl (hev.fl _)
    simp only [vU,Vg,LJ,iB,Bool.false_and,bW,if_false,jt]
 refine ⟨hk,s0,jt t1 q.dst v,bR s.env q.dst f1,e0,?_,hle,(Vf e1 _ _).trans hs.symm⟩;rw [tg,he];simp only [zj,xQ,VO]
end
end Go.Bm

/- Two steps whose order is open commute. -/
namespace Go.Bm
open Go.Am
section
variable {P : Program} {c : eG} {call : Nat -> List AV -> Heap -> Option (AV × Heap)}
theorem fI {d : Nat} : ∀ {ps : List Rt},gJ d ps = true -> ∀ p ∈ ps,(∀ i,p = .s i -> i ≠ d) /\ ∀ i j,p = .sc i j -> i ≠ d
 | [],_,p,hp => by simp at hp
 | q :: r,h,p,hp => by
   have ih : gJ d r = true -> p ∈ r -> _ := fun h hp => fI (d := d) h p hp;rcases aU.1 hp with e | e
   ·subst e;cases p with
    | s i => simp only [gJ,aa,decide_eq_true_eq] at h; exact ⟨(fun k hk => by cases hk; exact h.1),fun k j hk => by cases hk⟩
    | sc i j => simp only [gJ,aa,decide_eq_true_eq] at h; exact ⟨(fun k hk => by cases hk),fun k l hk => (by cases hk; exact h.1)⟩
    | c b j => exact ⟨(fun k hk => by cases hk),fun k l hk => by cases hk⟩
   ·have h' : gJ d r = true := by
     cases q <;> simp only [gJ,aa] at h
     ·exact h.2
     ·exact h.2
     ·exact h
    exact ih h' e
theorem rM {sl : List Nat} {bs : Option (List Nat)} : ∀ {ps : List Rt},mZ sl bs ps = true -> ∀ p ∈ ps,(∀ i,p = .s i -> i ∉ sl /\ i + kA ∉ sl) /\ (∀ i j,p = .sc i j -> i ∉ sl /\ i + kA ∉ sl) /\ ∀ b j,p = .c b j -> ∃ l,bs = some l /\ lC b l = false /\ (j = 0 -> b + kA ∉ l)
 | [],_,p,hp => by simp at hp
 | q :: r,h,p,hp => by
   have nm : ∀ {i : Nat} {l : List Nat},mem i l = false -> i ∉ l := fun h hi => by rw [mem_iff.2 hi] at h; cases h
   rcases aU.1 hp with e | e
   ·subst e;cases p with
    | s i => simp only [mZ,aa,bH] at h; exact ⟨fun k hk => (by cases hk; exact ⟨nm h.1.1,nm h.1.2⟩),(fun k j hk => by cases hk),fun k j hk => by cases hk⟩
    | sc i j => simp only [mZ,aa,bH] at h; exact ⟨(fun k hk => by cases hk),(fun k l hk => (by cases hk; exact ⟨nm h.1.1,nm h.1.2⟩)),fun k j hk => by cases hk⟩
    | c b j =>
      simp only [mZ,aa] at h;refine ⟨(fun k hk => by cases hk),(fun k l hk => by cases hk),fun k l hk => ?_⟩;cases hk;cases bs with
      | none => simp at h
      | some l =>
        simp only [aa,bH,e9,decide_eq_true_eq] at h;exact ⟨l,rfl,h.1.1,fun e => h.1.2.elim (fun q => absurd e q) nm⟩
   ·have h' : mZ sl bs r = true := by
     cases q <;> simp only [mZ,aa] at h <;> exact h.2
    exact rM h' p e
theorem EY {sl : List Nat} : ∀ {l : List Nat},EZ sl l = true -> ∀ i ∈ l,i ∉ sl
 | [],_,i,hi => by simp at hi
 | j :: r,h,i,hi => by
   simp only [EZ,aa,bH] at h;rcases aU.1 hi with e | e
   ·subst e; intro hm; rw [mem_iff.2 hm] at h; cases h.1
   ·exact EY h.2 i e
theorem kS {n : Nat} : ∀ {ps : List Rt},gq n ps = true -> ∀ b j,Rt.c b j ∈ ps -> b < n
 | [],_,b,j,h => by simp at h
 | q :: r,h,b,j,hp => by
   rcases aU.1 hp with e | e
   ·subst e; simp only [gq,aa,decide_eq_true_eq] at h; exact h.1
   ·have h' : gq n r = true := by cases q <;> simp only [gq,aa] at h <;> first | exact h | exact h.2
    exact kS h' b j e
theorem Seen.mk' {ps : List Rt} {s t : St} (h1 : ∀ p ∈ ps,(∀ i,p = .s i -> get t.env i = get s.env i) /\ (∀ i j,p = .sc i j -> get t.env i = get s.env i) /\ ∀ b j,p = .c b j -> aJ t.H b = aJ s.H b) : Seen ps s t := by
 intro p hp;obtain ⟨a,b,d⟩ := h1 p hp;refine ⟨?_,fun k l e => d k l e⟩;cases p with
 | s i => simp only [az,at_]; rw [a i rfl]
 | sc i j => simp only [az,at_]; rw [b i j rfl]
 | c k j => simp only [az,at_]; rw [d k j rfl]
theorem uK {x y : O} (h : jk x y = true) : (∀ i,x.dst = some i -> i ∉ y.reads /\ y.dst ≠ some i) /\ ∀ i,y.dst = some i -> i ∉ x.reads /\ x.dst ≠ some i := by
 have nm : ∀ {i : Nat} {l : List Nat},mem i l = false -> i ∉ l := fun h hi => by rw [mem_iff.2 hi] at h; cases h
 unfold jk at h;simp only [aa] at h;obtain ⟨h1,h2⟩ := h;refine ⟨fun i hi => ?_,fun i hi => ?_⟩
 ·rw [hi] at h1;simp only [aa,bH,decide_eq_true_eq] at h1;exact ⟨nm h1.1,h1.2⟩
 ·rw [hi] at h2;simp only [bH] at h2;refine ⟨nm h2,fun e => ?_⟩;rw [e] at h1;simp only [aa,bH,decide_eq_true_eq] at h1;exact h1.2 hi
def zP : Fq -> List Rt
 | .rd ps => ps
 | .bo ps => ps
 | .rc b _ => [.c b 0]
 | _ => []
theorem lK {e : Env} {d : Option Nat} {f : Fq} (h : mg (bR e d f) = true) (hc : calm f = true) : zP (bR e d f) = zP f /\ (∀ n,f = .al n -> bR e d f = .al n) /\ (∀ n,bR e d f = .al n -> f = .al n) /\ ((∀ ps,bR e d f ≠ .bo ps) -> bR e d f = f /\ ∀ i,d = some i -> aN (get e i) = []) := by
 unfold bR at h ⊢;cases d with
 | none => exact ⟨rfl,fun n h => h,fun n h => h,fun _ => ⟨rfl,fun i hi => by cases hi⟩⟩
 | some d =>
   simp only at h ⊢;split at h
   ·simp [mg] at h
   rename_i h1;rw [if_neg h1];split at h
   ·rename_i h2;rw [if_pos h2];exact ⟨rfl,fun n h => h,fun n h => h,fun _ => ⟨rfl,fun i hi => by cases hi; exact fa.1 h2⟩⟩
   ·rename_i h2;rw [if_neg h2];cases f <;> simp [calm,mg] at hc h ⊢ <;> simp [zP]
theorem ym.cw {f g : Fq} (h : ym f g) (hg : mg g = true) : (∀ sl bs,f ≠ .wr sl bs) -> f = g := by
 intro hn;cases f <;> cases g <;> simp [ym,mg] at h hg hn ⊢ <;> exact h
theorem HU {f g : Fq} (h : f.ok g = true) : mg f = true /\ mg g = true := by
 cases f <;> cases g <;> simp [Fq.ok,mg] at h ⊢
theorem ZF {f g : Fq} {n m : Nat} (h : f.ok g = true) (hf : f = .al n) : g ≠ .al m := by
 subst hf; intro e; subst e; simp [Fq.ok] at h
theorem Zw {f g : Fq} {n : Nat} (h : f.ok g = true) (hf : f = .al n) : gq n (zP g) = true := by
 subst hf; cases g <;> simp [Fq.ok,zP,gq] at h ⊢ <;> exact h
theorem Tt {f g : Fq} {n : Nat} (h : f.ok g = true) (hg : g = .al n) : gq n (zP f) = true := by
 subst hg; cases f <;> simp [Fq.ok,zP,gq] at h ⊢ <;> exact h
theorem ib {d : Option Nat} {f : Fq} (h : xX d f = true) (hf : mg f = true) : ∀ i,d = some i -> gJ i (zP f) = true := by
 rintro i rfl;cases f <;> simp [xX,zP,gJ] at h ⊢ <;> exact h
theorem Hc {sl : List Nat} {bs : Option (List Nat)} {y : O} {g : Fq} (h : Hd (.wr sl bs) y g = true) : (∀ i ∈ y.reads,i ∉ sl) /\ (∀ i,y.dst = some i -> i ∉ sl /\ i + kA ∉ sl) /\ (∀ ps,g = .rd ps -> mZ sl bs ps = true) /\ ∀ b j,g = .rc b j -> ∃ l,bs = some l /\ b ∉ l /\ b + kA ∉ l /\ jV b j ∉ l := by
 have nm : ∀ {i : Nat} {l : List Nat},mem i l = false -> i ∉ l := fun h hi => by rw [mem_iff.2 hi] at h; cases h
 simp only [Hd,aa] at h;obtain ⟨⟨h1,h2⟩,h3⟩ := h;refine ⟨EY h1,fun i hi => ?_,fun ps hp => ?_,fun b j hp => ?_⟩
 ·rw [hi] at h2; simp only [aa,bH] at h2; exact ⟨nm h2.1,nm h2.2⟩
 ·subst hp; exact h3
 ·subst hp;cases bs with
  | none => simp [KY] at h3
  | some l =>
    simp only [KY,aa,bH] at h3;exact ⟨l,rfl,nm h3.1,nm h3.2.1,nm h3.2.2⟩
theorem vJ {H X : Heap} {b : Nat} (h : b < H.length) : aJ (H ++ X) b = aJ H b := by
 unfold aJ; rw [List.getElem?_append_left h]
theorem qK {b : Nat} : ∀ {l : List Nat},lC b l = true ↔ ∃ x ∈ l,x = b \/ uh b x = true
 | [] => by simp [lC]
 | x :: r => by
   simp only [lC,e9,decide_eq_true_eq,qK (l := r),aU,exists_eq_or_imp];exact ⟨fun h => h.elim (fun h => .inl (.inl h)) (fun h => h.elim (fun h => .inl (.inr h)) .inr),fun h => h.elim (fun h => h.elim .inl (fun h => .inr (.inl h))) (fun h => .inr (.inr h))⟩
theorem II {b : Nat} {l l' : List Nat} (h : ∀ x ∈ l,x ∈ l') (hb : lC b l' = false) : lC b l = false := by
 cases e : lC b l with
 | false => rfl
 | true =>
   obtain ⟨x,h1,h2⟩ := qK.1 e;rw [qK.2 ⟨x,h x h1,h2⟩] at hb;cases hb
theorem jG {b : Nat} {l : List Nat} (h : lC b l = false) : b ∉ l /\ ∀ j,jV b j ∉ l := by
 refine ⟨fun hb => ?_,fun j hb => ?_⟩
 ·rw [qK.2 ⟨b,hb,.inl rfl⟩] at h; cases h
 ·rw [qK.2 ⟨_,hb,.inr (by
   unfold uh jV we;simp only [aa,decide_eq_true_eq];refine ⟨by omega,by omega,?_⟩;rw [Nat.add_sub_cancel_left];exact Nat.mul_mod_left _ _)⟩] at h
  cases h
theorem o9.of_eq {b j : Nat} {s t : St} (h : aJ t.H b = aJ s.H b) : o9 b j s t := fun cs hc => ⟨cs,by rw [h]; exact hc,rfl⟩
theorem Wj (HC : nA c call) (HW : zx c call) (HL : zA c call) {s s1 s2 u1 u2 : St} {x y : O} {f g f1 g1 : Fq} {vx vy : AV} (hx : Ev c call s x vx u1 f1) (Ua : mg (bR s.env x.dst f1) = true) (Cv : ym (bR s.env x.dst f1) f) (Pv : dL s1 (jt u1 x.dst vx)) (hy : Ev c call s1 y vy u2 g1) (VV : mg (bR s1.env y.dst g1) = true) (Cu : ym (bR s1.env y.dst g1) g) (T2 : dL s2 (jt u2 y.dst vy)) (Py : calm f1 = true) (GZ : calm g1 = true) (yl : jk x y = true) (dy : iz x f y g = true) :
  ∃ GM,TS c call s y g GM /\ TS c call GM x f s2 := by
 obtain ⟨ax,ay⟩ := uK yl;simp only [iz,aa] at dy;obtain ⟨⟨dy,VX,AQ⟩,_⟩ := dy;obtain ⟨cf,cg⟩ := HU dy;obtain ⟨X,hX⟩ := HC _ _ _ _ _ hx Py;obtain ⟨Y,hY⟩ := HC _ _ _ _ _ hy GZ;obtain ⟨r1,r2,r3,_⟩ := lK Ua Py;obtain ⟨q1,q2,q3,_⟩ := lK VV GZ
 have nwx : ∀ sl bs,bR s.env x.dst f1 ≠ .wr sl bs := fun sl bs e => by
  have := tl Ua;unfold bR at e;cases f1 <;> simp [calm] at Py <;> (repeat' split at e) <;> simp_all
 have nwy : ∀ sl bs,bR s1.env y.dst g1 ≠ .wr sl bs := fun sl bs e => by
  unfold bR at e;cases g1 <;> simp [calm] at GZ <;> (repeat' split at e) <;> simp_all
 have ef : bR s.env x.dst f1 = f := Cv.cw cf nwx;have eg : bR s1.env y.dst g1 = g := Cu.cw cg nwy;have Cc : ∀ i,get s1.env i = if x.dst = some i then vx else get s.env i := fun i => by rw [Pv.1,ep,hX.st.1]
 have H1 : s1.H = s.H ++ X := by rw [Pv.2,gL,hX.st.2]
 have KL : ∀ i,x.dst = some i -> y.dst ≠ some i := fun i h => (ax i h).2
 -- y from s
 have yr : ∀ i ∈ y.reads,get s.env i = get s1.env i := fun i hi => by
  rw [Cc,if_neg];intro e;exact (ax i e).1 hi
 have yu : ∀ ps,g1 = .rd ps -> Seen ps s1 s := fun ps sX => by
  have uq : zP g = ps := by rw [<- eg,q1,sX]; rfl
  refine Seen.mk' fun p hp => ⟨fun i e => ?_,fun i j e => ?_,fun b j e => ?_⟩
  ·rw [Cc,if_neg];intro e2;have := ib VX cg i e2;rw [uq] at this;exact (fI this p hp).1 i e rfl
  ·rw [Cc,if_neg];intro e2;have := ib VX cg i e2;rw [uq] at this;exact (fI this p hp).2 i j e rfl
  ·subst e;rw [H1];rcases hX.nw with ⟨e,_⟩ | ⟨z,e,e2⟩
   ·rw [e]; simp
   ·have := Zw dy (by rw [<- ef]; exact r2 _ e2);rw [uq] at this;exact (vJ (kS this b j hp)).symm
 have yu : wa g1 s1 s := ⟨yu,fun b j hg => by
  refine .of_eq ?_;rw [H1];rcases hX.nw with ⟨e,_⟩ | ⟨z,e,e2⟩
  ·rw [e]; simp
  ·have := Zw dy (by rw [<- ef]; exact r2 _ e2);rw [show zP g = [.c b 0] by rw [<- eg,q1,hg]; rfl] at this;exact (vJ (kS this b 0 (by simp))).symm⟩
 have yal : ∀ n,g1 = .al n -> s.H.length = n := fun n hn => by
  rcases hX.nw with ⟨e,_⟩ | ⟨z,e,e2⟩
  ·rcases hY.nw with ⟨e3,e4⟩ | ⟨z3,e3,e4⟩
   ·exact absurd hn (e4 n)
   ·rw [e4] at hn; cases hn; rw [H1,e]; simp
  ·exfalso;exact ZF dy (by rw [<- ef]; exact r2 _ e2) (by rw [<- eg]; exact q2 n hn)
 have H8 := hY.go s (fun i hi => by rw [yr i hi]) yu yal
 have gy : ∀ i,y.dst = some i -> get s1.env i = get s.env i := fun i hi => by
  rw [Cc,if_neg];intro e;exact KL i e hi
 have RX : bR s.env y.dst g1 = bR s1.env y.dst g1 := je fun i hi => (gy i hi).symm;refine ⟨jt ⟨s.env,s.H ++ Y⟩ y.dst vy,TS.mk HC HW HL H8 (by rw [RX]; exact VV) (by rw [RX]; exact Cu) dL.rfl',?_⟩
 -- x from there
 generalize ht : jt ⟨s.env,s.H ++ Y⟩ y.dst vy = t;have gt : ∀ i,get t.env i = if y.dst = some i then vy else get s.env i := fun i => by rw [<- ht,ep]
 have Ht : t.H = s.H ++ Y := by rw [<- ht,gL]
 have Hl : s.H.length <= s1.H.length := by rw [H1]; simp
 have xr : ∀ i ∈ x.reads,get t.env i = get s.env i := fun i hi => by
  rw [gt,if_neg];intro e;exact (ay i e).1 hi
 have yw : ∀ ps,f1 = .rd ps -> Seen ps s t := fun ps sX => by
  have uq : zP f = ps := by rw [<- ef,r1,sX]; rfl
  refine Seen.mk' fun p hp => ⟨fun i e => ?_,fun i j e => ?_,fun b j e => ?_⟩
  ·rw [gt,if_neg];intro e2;have := ib AQ cf i e2;rw [uq] at this;exact (fI this p hp).1 i e rfl
  ·rw [gt,if_neg];intro e2;have := ib AQ cf i e2;rw [uq] at this;exact (fI this p hp).2 i j e rfl
  ·subst e;rw [Ht];rcases hY.nw with ⟨e,_⟩ | ⟨z,e,e2⟩
   ·rw [e]; simp
   ·have h6 := Tt dy (by rw [<- eg]; exact q2 _ e2);rw [uq] at h6;have h7 := kS h6 b j hp;rcases hX.nw with ⟨e3,_⟩ | ⟨z3,e3,e4⟩
    ·rw [H1,e3] at h7;exact vJ (by simpa using h7)
    ·rw [sX] at e4; cases e4
 have yw : wa f1 s t := ⟨yw,fun b j hg => by
  refine .of_eq ?_;rw [Ht];rcases hY.nw with ⟨e,_⟩ | ⟨z,e,e2⟩
  ·rw [e]; simp
  ·have h6 := Tt dy (by rw [<- eg]; exact q2 _ e2);rw [show zP f = [.c b 0] by rw [<- ef,r1,hg]; rfl] at h6;have h7 := kS h6 b 0 (by simp);rcases hX.nw with ⟨e3,_⟩ | ⟨z3,e3,e4⟩
   ·rw [H1,e3] at h7;exact vJ (by simpa using h7)
   ·rw [hg] at e4; cases e4⟩
 have xal : ∀ n,f1 = .al n -> t.H.length = n := fun n hn => by
  rcases hX.nw with ⟨_,e⟩ | ⟨z,e,e2⟩
  ·exact absurd hn (e n)
  ·rcases hY.nw with ⟨e3,_⟩ | ⟨z3,e3,e4⟩
   ·rw [Ht,e3]; rw [hn] at e2; cases e2; simp
   ·exfalso;exact ZF dy (by rw [<- ef]; exact r2 _ hn) (by rw [<- eg]; exact q2 _ e4)
 have AJ := hX.go t (fun i hi => by rw [xr i hi]) yw xal
 have gx : ∀ i,x.dst = some i -> get t.env i = get s.env i := fun i hi => by
  rw [gt,if_neg];exact KL i hi
 have RY : bR t.env x.dst f1 = bR s.env x.dst f1 := je gx;refine TS.mk HC HW HL AJ (by rw [RY]; exact Ua) (by rw [RY]; exact Cv) ⟨fun i => ?_,?_⟩
 ·rw [T2.1,ep,hY.st.1,ep];show (if y.dst = some i then vy else get s1.env i) = (if x.dst = some i then vx else get t.env i);rw [Cc,gt];by_cases e1 : x.dst = some i
  ·have := KL i e1;simp [e1,this]
  ·simp [e1]
 ·rw [T2.2,gL,hY.st.2,gL];show s1.H ++ Y = t.H ++ X;rw [H1,Ht];rcases hX.nw with ⟨e,_⟩ | ⟨z,e,e2⟩
  ·rw [e]; simp
  ·rcases hY.nw with ⟨e3,_⟩ | ⟨z3,e3,e4⟩
   ·rw [e3]; simp
   ·exact absurd (by rw [<- eg]; exact q2 _ e4) (ZF dy (by rw [<- ef]; exact r2 _ e2))
theorem ym.sub {sl sl' : List Nat} {bs bs' : Option (List Nat)} (h : ym (.wr sl bs) (.wr sl' bs')) : ∀ i ∈ sl,i ∈ sl' := h.1
theorem ym.Hb {f : Fq} {sl : List Nat} {bs : Option (List Nat)} (h : ym (.wr sl bs) f) (hc : mg f = true) : ∃ sl' bs',f = .wr sl' bs' := by
 cases f <;> simp [ym,mg] at h hc ⊢
theorem aie {f : Fq} {sl : List Nat} {bs : Option (List Nat)} (h : f.ok (.wr sl bs) = true) : (∀ ps,f ≠ .bo ps) /\ (∀ n,f ≠ .al n) := by
 cases f <;> simp [Fq.ok] at h ⊢
theorem Zu {f : Fq} {sl : List Nat} {bs : Option (List Nat)} (h : Fq.ok (.wr sl bs) f = true) : (∀ ps,f ≠ .bo ps) /\ (∀ n,f ≠ .al n) /\ ∀ sl bs,f ≠ .wr sl bs := by
 cases f <;> simp [Fq.ok] at h ⊢
theorem acV (HC : nA c call) (HW : zx c call) (HL : zA c call) {s s1 s2 u1 u2 : St} {x y : O} {f g f1 : Fq} {U0 : List Nat} {F7 : Option (List Nat)} {vx vy : AV} (hx : Ev c call s x vx u1 f1) (Ua : mg (bR s.env x.dst f1) = true) (Cv : ym (bR s.env x.dst f1) f) (Pv : dL s1 (jt u1 x.dst vx)) (hy : Ev c call s1 y vy u2 (.wr U0 F7)) (VV : mg (bR s1.env y.dst (.wr U0 F7)) = true) (Cu : ym (bR s1.env y.dst (.wr U0 F7)) g) (T2 : dL s2 (jt u2 y.dst vy)) (Py : calm f1 = true) (yl : jk x y = true) (dy : iz x f y g = true) :
  ∃ GM,TS c call s y g GM /\ TS c call GM x f s2 := by
 obtain ⟨ax,ay⟩ := uK yl;simp only [iz,aa] at dy;obtain ⟨⟨dy,VX,AQ⟩,_,hw⟩ := dy;obtain ⟨cf,cg⟩ := HU dy;obtain ⟨X,hX⟩ := HC _ _ _ _ _ hx Py;obtain ⟨V,hV⟩ := HW _ _ _ _ _ _ hy;obtain ⟨r1,r2,r3,r4⟩ := lK Ua Py;obtain ⟨q1,q2⟩ := mn VV;rw [q1] at Cu;obtain ⟨sl,bs,rfl⟩ := Cu.Hb cg;obtain ⟨o1,o2⟩ := aie dy
 have nwx : ∀ sl bs,bR s.env x.dst f1 ≠ .wr sl bs := fun sl bs e => by
  unfold bR at e;cases f1 <;> simp [calm] at Py <;> (repeat' split at e) <;> simp_all
 have ef : bR s.env x.dst f1 = f := Cv.cw cf nwx;obtain ⟨e1,hbx⟩ := r4 (fun ps e => o1 ps (ef ▸ e));have ef' : f1 = f := e1 ▸ ef
 have hX0 : X = [] := by
  rcases hX.nw with ⟨e,_⟩ | ⟨z,e,e2⟩
  ·exact e
  ·exact absurd (ef' ▸ e2) (o2 _)
 subst hX0;obtain ⟨w1,w2,w3,w4⟩ := Hc hw;have sub : ∀ {i : Nat},i ∉ sl -> i ∉ U0 := fun h hi => h (Cu.sub _ hi);have KL : ∀ i,x.dst = some i -> y.dst ≠ some i := fun i h => (ax i h).2;have Cc : ∀ i,get s1.env i = if x.dst = some i then vx else get s.env i := fun i => by rw [Pv.1,ep,hX.st.1]
 have H1 : s1.H = s.H := by rw [Pv.2,gL,hX.st.2]; simp
 -- y from s
 have ze : ∃ t1 sl',Ev c call s y vy t1 (.wr sl' F7) /\ (∀ i ∈ sl',i ∈ U0) /\ (∀ i,get t1.env i = if x.dst = some i then get s.env i else get u2.env i) /\ t1.H = u2.H := by
  cases hd : x.dst with
  | none =>
    refine ⟨u2,U0,hy.same ⟨fun i => ?_,H1⟩ dL.rfl',fun i hi => hi,fun i => by simp,rfl⟩;rw [Cc,hd]; simp
  | some d =>
    obtain ⟨t1,sl',h1,h2,h3⟩ := hV.go d (get s.env d) (fun h => (ax d hd).1 h) (sub (w2 d hd).1) (sub (w2 d hd).2) (fun p hp => by rw [hbx d hd] at hp; simp at hp);refine ⟨t1,sl',h1.same ⟨fun i => ?_,H1⟩ dL.rfl',h2,fun i => ?_,h3.2⟩
    ·show get (put s1.env d (get s.env d)) i = get s.env i;rw [bu];split
     ·rename_i e; rw [e]
     ·rename_i e;rw [Cc,hd,if_neg];simp; exact fun h => e h.symm
    ·rw [h3.1];show get (put u2.env d (get s.env d)) i = _;rw [bu];by_cases e : i = d
     ·subst e; simp
     ·have : d ≠ i := fun h => e h.symm;simp [e,this]
 obtain ⟨t1,sl',H8,hsl',gt1,Ht1⟩ := ze
 have gy : ∀ i,y.dst = some i -> get s1.env i = get s.env i := fun i hi => by
  rw [Cc,if_neg];intro e;exact KL i e hi
 have RX : bR s.env y.dst (.wr sl' F7) = .wr sl' F7 := Bg (sl' := sl') (bs' := F7) (e' := s.env) fun i hi => by rw [<- gy i hi]; exact q2 i hi
 have ley : ym (.wr sl' F7) (.wr sl bs) := ⟨fun i hi => Cu.1 i (hsl' i hi),Cu.2⟩;refine ⟨jt t1 y.dst vy,TS.mk HC HW HL H8 (by rw [RX]; rfl) (by rw [RX]; exact ley) dL.rfl',?_⟩;generalize ht : jt t1 y.dst vy = t;have gt : ∀ i,get t.env i = if y.dst = some i then vy else if x.dst = some i then get s.env i else get u2.env i := fun i => by rw [<- ht,ep,gt1]
 have Ht : t.H = u2.H := by rw [<- ht,gL,Ht1]
 have KW : ∀ i,i ∉ sl -> i + kA ∉ sl -> y.dst ≠ some i -> get t.env i = get s.env i := fun i hi hi2 hd => by
  rw [gt,if_neg hd];split
  ·rfl
  ·rename_i e;rw [hV.env i (sub hi) (sub hi2),Cc,if_neg e]
 have aa4 : ∀ i,i ∉ sl -> y.dst ≠ some i -> eY i (get t.env i) = eY i (get s.env i) := fun i hi hd => by
  rw [gt,if_neg hd];split
  ·rfl
  ·rename_i e;rw [hV.hd i (sub hi),Cc,if_neg e]
 have xr : ∀ i ∈ x.reads,eY i (get t.env i) = eY i (get s.env i) := fun i hi => aa4 i (w1 i hi) fun e => (ay i e).1 hi
 have yw : ∀ ps,f1 = .rd ps -> Seen ps s t := fun ps sX => by
  have uq : f = .rd ps := by rw [<- ef']; exact sX
  refine Seen.mk' fun p hp => ?_;obtain ⟨a1,a2,a3⟩ := rM (w3 ps uq) p hp
  have ns : ∀ i,y.dst = some i -> (∀ k,p = .s k -> k ≠ i) /\ ∀ k j,p = .sc k j -> k ≠ i := fun i hi => by
   have := ib AQ cf i hi;rw [uq] at this;exact fI this p hp
  refine ⟨fun i e => KW i (a1 i e).1 (a1 i e).2 fun h => (ns i h).1 i e rfl,fun i j e => KW i (a2 i j e).1 (a2 i j e).2 fun h => (ns i h).2 i j e rfl,fun b j e => ?_⟩;obtain ⟨l,e5,e6,_⟩ := a3 b j e;subst e5;have h8 := Cu.2;cases F7 with
  | none => simp at h8
  | some l0 =>
    rw [Ht,hV.heap l0 rfl b (II h8 e6),H1]
 have yw : wa f1 s t := ⟨yw,fun b j sX => by
  have uq : f = .rc b j := by rw [<- ef']; exact sX
  obtain ⟨l,e5,e6,e7,e8⟩ := w4 b j uq;subst e5;have h8 := Cu.2;cases F7 with
  | none => simp at h8
  | some l0 =>
    have h9 := (hV.cell l0 rfl b j (fun h => e6 (h8 b h)) (fun h => e8 (h8 _ h))).1;intro cs hc;rw [<- H1] at hc;rw [Ht];exact h9 cs hc⟩
 have xal : ∀ n,f1 = .al n -> t.H.length = n := fun n hn => absurd (ef' ▸ hn) (o2 n);have AJ := hX.go t xr yw xal;have gx : ∀ i,x.dst = some i -> get t.env i = get s.env i := fun i hi => KW i (w2 i hi).1 (w2 i hi).2 (KL i hi);have RY : bR t.env x.dst f1 = bR s.env x.dst f1 := je gx;refine TS.mk HC HW HL AJ (by rw [RY]; exact Ua) (by rw [RY]; exact Cv) ⟨fun i => ?_,?_⟩
 ·rw [T2.1,ep,ep];show (if y.dst = some i then vy else get u2.env i) = (if x.dst = some i then vx else get t.env i);rw [gt];by_cases e1 : x.dst = some i
  ·have := KL i e1;simp only [e1,this,if_true,if_false];rw [hV.env i (sub (w2 i e1).1) (sub (w2 i e1).2),Cc,if_pos e1]
  ·simp [e1]
 ·rw [T2.2,gL,gL];show u2.H = t.H ++ [];rw [Ht]; simp
theorem acT (HC : nA c call) (HW : zx c call) (HL : zA c call) {s s1 s2 u1 u2 : St} {x y : O} {f g g1 : Fq} {U0 : List Nat} {F7 : Option (List Nat)} {vx vy : AV} (hx : Ev c call s x vx u1 (.wr U0 F7)) (Ua : mg (bR s.env x.dst (.wr U0 F7)) = true) (Cv : ym (bR s.env x.dst (.wr U0 F7)) f) (Pv : dL s1 (jt u1 x.dst vx)) (hy : Ev c call s1 y vy u2 g1) (VV : mg (bR s1.env y.dst g1) = true) (Cu : ym (bR s1.env y.dst g1) g) (T2 : dL s2 (jt u2 y.dst vy)) (GZ : calm g1 = true) (yl : jk x y = true) (dy : iz x f y g = true) :
  ∃ GM,TS c call s y g GM /\ TS c call GM x f s2 := by
 obtain ⟨ax,ay⟩ := uK yl;simp only [iz,aa] at dy;obtain ⟨⟨dy,VX,AQ⟩,hw,_⟩ := dy;obtain ⟨cf,cg⟩ := HU dy;obtain ⟨V,hV⟩ := HW _ _ _ _ _ _ hx;obtain ⟨Y,hY⟩ := HC _ _ _ _ _ hy GZ;obtain ⟨r1,r2⟩ := mn Ua;obtain ⟨q1,q2,q3,q4⟩ := lK VV GZ;rw [r1] at Cv;obtain ⟨sl,bs,rfl⟩ := Cv.Hb cf;obtain ⟨o1,o2,_⟩ := Zu dy
 have nwy : ∀ sl bs,bR s1.env y.dst g1 ≠ .wr sl bs := fun sl bs e => by
  unfold bR at e;cases g1 <;> simp [calm] at GZ <;> (repeat' split at e) <;> simp_all
 have eg : bR s1.env y.dst g1 = g := Cu.cw cg nwy;obtain ⟨e1,_⟩ := q4 (fun ps e => o1 ps (eg ▸ e));have eg' : g1 = g := e1 ▸ eg
 have hY0 : Y = [] := by
  rcases hY.nw with ⟨e,_⟩ | ⟨z,e,e2⟩
  ·exact e
  ·exact absurd (eg' ▸ e2) (o2 _)
 subst hY0;obtain ⟨w1,w2,w3,w4⟩ := Hc hw;have sub : ∀ {i : Nat},i ∉ sl -> i ∉ U0 := fun h hi => h (Cv.sub _ hi);have KL : ∀ i,x.dst = some i -> y.dst ≠ some i := fun i h => (ax i h).2;have Cc : ∀ i,get s1.env i = if x.dst = some i then vx else get u1.env i := fun i => by rw [Pv.1,ep]
 have H1 : s1.H = u1.H := by rw [Pv.2,gL]
 have KW : ∀ i,i ∉ sl -> i + kA ∉ sl -> x.dst ≠ some i -> get s.env i = get s1.env i := fun i hi hi2 hd => by rw [Cc,if_neg hd,hV.env i (sub hi) (sub hi2)]
 have aa4 : ∀ i,i ∉ sl -> x.dst ≠ some i -> eY i (get s.env i) = eY i (get s1.env i) := fun i hi hd => by rw [Cc,if_neg hd,hV.hd i (sub hi)]
 have aeS : ∀ b j,g1 = .rc b j -> ∃ l,F7 = some l /\ b ∉ l /\ b + kA ∉ l /\ jV b j ∉ l := fun b j sX => by
  obtain ⟨l,e5,e6,e7,e8⟩ := w4 b j (by rw [<- eg']; exact sX);subst e5;have h8 := Cv.2;cases F7 with
  | none => simp at h8
  | some l0 => exact ⟨l0,rfl,fun h => e6 (h8 b h),fun h => e7 (h8 _ h),fun h => e8 (h8 _ h)⟩
 have boxes : ∀ {ps : List Rt},g1 = .rd ps -> ∀ b j,Rt.c b j ∈ ps -> ∃ l,F7 = some l /\ lC b l = false /\ (j = 0 -> b + kA ∉ l) := fun {ps} sX b j hp => by
  have uq : g = .rd ps := by rw [<- eg']; exact sX
  obtain ⟨_,_,a3⟩ := rM (w3 ps uq) _ hp;obtain ⟨l,e5,e6,e7⟩ := a3 b j rfl;subst e5;have h8 := Cv.2;cases F7 with
  | none => simp at h8
  | some l0 => exact ⟨l0,rfl,II h8 e6,fun e h => e7 e (h8 _ h)⟩
 have yr : ∀ i ∈ y.reads,eY i (get s.env i) = eY i (get s1.env i) := fun i hi => aa4 i (w1 i hi) fun e => (ax i e).1 hi
 have yu : ∀ ps,g1 = .rd ps -> Seen ps s1 s := fun ps sX => by
  have uq : g = .rd ps := by rw [<- eg']; exact sX
  refine Seen.mk' fun p hp => ?_;obtain ⟨a1,a2,_⟩ := rM (w3 ps uq) p hp
  have ns : ∀ i,x.dst = some i -> (∀ k,p = .s k -> k ≠ i) /\ ∀ k j,p = .sc k j -> k ≠ i := fun i hi => by
   have := ib VX cg i hi;rw [uq] at this;exact fI this p hp
  refine ⟨fun i e => KW i (a1 i e).1 (a1 i e).2 fun h => (ns i h).1 i e rfl,fun i j e => KW i (a2 i j e).1 (a2 i j e).2 fun h => (ns i h).2 i j e rfl,fun b j e => ?_⟩;subst e;obtain ⟨l,e5,e6,_⟩ := boxes sX b j hp;rw [H1,hV.heap l e5 b e6]
 have yu : wa g1 s1 s := ⟨yu,fun b j sX => by
  obtain ⟨l,e5,e6,e7,e8⟩ := aeS b j sX;intro cs hc;rw [H1] at hc;exact (hV.cell l e5 b j e6 e8).2 cs hc⟩
 have yal : ∀ n,g1 = .al n -> s.H.length = n := fun n hn => absurd (eg' ▸ hn) (o2 n);have H8 := hY.go s yr yu yal;have gy : ∀ i,y.dst = some i -> get s1.env i = get s.env i := fun i hi => (KW i (w2 i hi).1 (w2 i hi).2 (fun e => KL i e hi)).symm;have RX : bR s.env y.dst g1 = bR s1.env y.dst g1 := je fun i hi => (gy i hi).symm;refine ⟨jt ⟨s.env,s.H ++ []⟩ y.dst vy,TS.mk HC HW HL H8 (by rw [RX]; exact VV) (by rw [RX]; exact Cu) dL.rfl',?_⟩
 have ahQ : ∀ p ∈ aN vy,¬ V p := by
  obtain ⟨Y',hYs⟩ := HC _ _ _ _ _ H8 GZ;refine hYs.val V (fun i hi => hV.v1 i (sub (w1 i hi))) (fun ps sX b hp cs hb => ?_) fun b j sX cs c0 hb hc => ?_
  ·obtain ⟨l0,e5,e6,e7⟩ := boxes sX b 0 hp;exact hV.v2 l0 e5 b e6 (e7 rfl) cs hb
  ·obtain ⟨l0,e5,e6,e7,e8⟩ := aeS b j sX;exact hV.v3 l0 e5 b j e6 e7 e8 cs c0 hb hc
 have ze : ∃ t1 sl',Ev c call (jt ⟨s.env,s.H ++ []⟩ y.dst vy) x vx t1 (.wr sl' F7) /\ (∀ i ∈ sl',i ∈ U0) /\ dL t1 (jt u1 y.dst vy) := by
  cases hd : y.dst with
  | none => exact ⟨u1,U0,hx.same ⟨fun i => rfl,by simp [jt]⟩ dL.rfl',fun i hi => hi,dL.rfl'⟩
  | some d =>
    obtain ⟨t1,sl',h1,h2,h3⟩ := hV.go d vy (fun h => (ay d hd).1 h) (sub (w2 d hd).1) (sub (w2 d hd).2) ahQ;exact ⟨t1,sl',h1.same ⟨fun i => rfl,by simp [jt]⟩ dL.rfl',h2,h3⟩
 obtain ⟨t1,sl',AJ,hsl',ht1⟩ := ze;have gx : ∀ i,x.dst = some i -> get (jt ⟨s.env,s.H ++ []⟩ y.dst vy).env i = get s.env i := fun i hi => by rw [ep,if_neg (KL i hi)]
 have RY : bR (jt ⟨s.env,s.H ++ []⟩ y.dst vy).env x.dst (.wr sl' F7) = .wr sl' F7 := Bg (sl' := sl') (bs' := F7) (e' := s.env) fun i hi => by rw [gx i hi]; exact r2 i hi
 have lex : ym (.wr sl' F7) (.wr sl bs) := ⟨fun i hi => Cv.1 i (hsl' i hi),Cv.2⟩;refine TS.mk HC HW HL AJ (by rw [RY]; rfl) (by rw [RY]; exact lex) ⟨fun i => ?_,?_⟩
 ·rw [T2.1,ep,hY.st.1,ep,ht1.1,ep];show (if y.dst = some i then vy else get s1.env i) = (if x.dst = some i then vx else if y.dst = some i then vy else get u1.env i);rw [Cc];by_cases e1 : x.dst = some i
  ·have := KL i e1;simp [e1,this]
  ·simp [e1]
 ·rw [T2.2,gL,hY.st.2,gL,ht1.2,gL];show s1.H ++ [] = u1.H;rw [H1]; simp
theorem ym.N9 {f : Fq} {b : Nat} (h : ym (.lw b) f) (hc : mg f = true) : f = .lw b := by
 cases f <;> simp [ym,mg] at h hc ⊢
 exact h.symm
theorem aeE {f : Fq} {b : Nat} (h : f.ok (.lw b) = true) : (∀ ps,f ≠ .bo ps) /\ (∀ n,f = .al n -> b < n) /\ (∀ ps,f = .rd ps -> oJ b ps = true) /\ (∀ d j,f = .rc d j -> d ≠ b) /\ (∀ sl bs,f ≠ .wr sl bs) /\ ∀ d,f ≠ .lw d := by
 cases f <;> simp [Fq.ok] at h ⊢ <;> exact h
theorem Zz {f : Fq} {b : Nat} (h : Fq.ok (.lw b) f = true) : (∀ ps,f ≠ .bo ps) /\ (∀ n,f = .al n -> b < n) /\ (∀ ps,f = .rd ps -> oJ b ps = true) /\ (∀ d j,f = .rc d j -> d ≠ b) /\ (∀ sl bs,f ≠ .wr sl bs) /\ ∀ d,f ≠ .lw d := by
 cases f <;> simp [Fq.ok] at h ⊢ <;> exact h
theorem xH {b : Nat} : ∀ {ps : List Rt},oJ b ps = true -> ∀ d j,Rt.c d j ∈ ps -> d ≠ b
 | [],_,d,j,h => by simp at h
 | q :: r,h,d,j,hp => by
   rcases aU.1 hp with e | e
   ·subst e; simp only [oJ,aa,decide_eq_true_eq] at h; exact h.1
   ·have h' : oJ b r = true := by cases q <;> simp only [oJ,aa] at h <;> first | exact h | exact h.2
    exact xH h' d j e
theorem acW (HC : nA c call) (HW : zx c call) (HL : zA c call) {s s1 s2 u1 u2 : St} {x y : O} {f g f1 : Fq} {b : Nat} {vx vy : AV} (hx : Ev c call s x vx u1 f1) (Ua : mg (bR s.env x.dst f1) = true) (Cv : ym (bR s.env x.dst f1) f) (Pv : dL s1 (jt u1 x.dst vx)) (hy : Ev c call s1 y vy u2 (.lw b)) (VV : mg (bR s1.env y.dst (.lw b)) = true) (Cu : ym (bR s1.env y.dst (.lw b)) g) (T2 : dL s2 (jt u2 y.dst vy)) (Py : calm f1 = true) (yl : jk x y = true) (dy : iz x f y g = true) :
  ∃ GM,TS c call s y g GM /\ TS c call GM x f s2 := by
 obtain ⟨ax,ay⟩ := uK yl;simp only [iz,aa] at dy;obtain ⟨⟨dy,VX,AQ⟩,_⟩ := dy;obtain ⟨cf,cg⟩ := HU dy;obtain ⟨X,hX⟩ := HC _ _ _ _ _ hx Py;obtain ⟨cs,cs',hY⟩ := HL _ _ _ _ _ hy;obtain ⟨r1,r2,r3,r4⟩ := lK Ua Py;obtain ⟨q1,q2⟩ := tj VV;have hly' := Cu;rw [q1] at hly';have hg := hly'.N9 cg;subst hg;obtain ⟨o1,o2,o3,o4,_,_⟩ := aeE dy
 have nwx : ∀ sl bs,bR s.env x.dst f1 ≠ .wr sl bs := fun sl bs e => by
  unfold bR at e;cases f1 <;> simp [calm] at Py <;> (repeat' split at e) <;> simp_all
 have ef : bR s.env x.dst f1 = f := Cv.cw cf nwx;obtain ⟨e1,_⟩ := r4 (fun ps e => o1 ps (ef ▸ e));have ef' : f1 = f := e1 ▸ ef;subst ef';have Cc : ∀ i,get s1.env i = if x.dst = some i then vx else get s.env i := fun i => by rw [Pv.1,ep,hX.st.1]
 have H1 : s1.H = s.H ++ X := by rw [Pv.2,gL,hX.st.2]
 have KL : ∀ i,x.dst = some i -> y.dst ≠ some i := fun i h => (ax i h).2
 have blt : b < s.H.length := by
  have h1 := eL hY.bl;rcases hX.nw with ⟨e,_⟩ | ⟨z,e,e2⟩
  ·rw [H1,e] at h1; simpa using h1
  ·exact o2 _ e2
 have G3 : aJ s.H b = some cs := by
  have h1 := hY.bl;rw [H1,vJ blt] at h1;exact h1
 have yr : ∀ i ∈ y.reads,get s.env i = get s1.env i := fun i hi => by
  rw [Cc,if_neg];intro e;exact (ax i e).1 hi
 have H8 := hY.go s yr G3
 have gy : ∀ i,y.dst = some i -> get s1.env i = get s.env i := fun i hi => by
  rw [Cc,if_neg];intro e;exact KL i e hi
 have RX : bR s.env y.dst (.lw b) = bR s1.env y.dst (.lw b) := je fun i hi => (gy i hi).symm;refine ⟨jt ⟨s.env,s.H.set b (some cs')⟩ y.dst vy,TS.mk HC HW HL H8 (by rw [RX]; exact VV) (by rw [RX]; exact Cu) dL.rfl',?_⟩;generalize ht : jt ⟨s.env,s.H.set b (some cs')⟩ y.dst vy = t;have gt : ∀ i,get t.env i = if y.dst = some i then vy else get s.env i := fun i => by rw [<- ht,ep]
 have Ht : t.H = s.H.set b (some cs') := by rw [<- ht,gL]
 have xr : ∀ i ∈ x.reads,get t.env i = get s.env i := fun i hi => by
  rw [gt,if_neg];intro e;exact (ay i e).1 hi
 have hbx : ∀ d,d ≠ b -> aJ t.H d = aJ s.H d := fun d hd => by rw [Ht,dO,if_neg (fun h => hd h.1)]
 have yw : wa f1 s t := by
  refine ⟨fun ps sX => Seen.mk' fun p hp => ⟨fun i e => ?_,fun i j e => ?_,fun d j e => ?_⟩,fun d j hf => .of_eq (hbx d (o4 d j hf))⟩
  ·rw [gt,if_neg];intro e2;have := ib AQ cf i e2;rw [sX] at this;exact (fI (show gJ i ps = true from this) p hp).1 i e rfl
  ·rw [gt,if_neg];intro e2;have := ib AQ cf i e2;rw [sX] at this;exact (fI (show gJ i ps = true from this) p hp).2 i j e rfl
  ·subst e;exact hbx d (xH (o3 ps sX) d j hp)
 have xal : ∀ n,f1 = .al n -> t.H.length = n := fun n hn => by
  rcases hX.nw with ⟨_,e⟩ | ⟨z,e,e2⟩
  ·exact absurd hn (e n)
  ·rw [hn] at e2; cases e2; rw [Ht]; simp
 have AJ := hX.go t (fun i hi => by rw [xr i hi]) yw xal
 have gx : ∀ i,x.dst = some i -> get t.env i = get s.env i := fun i hi => by
  rw [gt,if_neg];exact KL i hi
 have RY : bR t.env x.dst f1 = bR s.env x.dst f1 := je gx;refine TS.mk HC HW HL AJ (by rw [RY]; exact Ua) (by rw [RY]; exact Cv) ⟨fun i => ?_,?_⟩
 ·rw [T2.1,ep,hY.st.1,ep];show (if y.dst = some i then vy else get s1.env i) = if x.dst = some i then vx else get t.env i;rw [Cc,gt];by_cases h1 : x.dst = some i
  ·simp [h1,KL i h1]
  ·simp [h1]
 ·rw [T2.2,gL,hY.st.2,gL];show s1.H.set b (some cs') = t.H ++ X;rw [H1,Ht,RB _ _ blt]
theorem acU (HC : nA c call) (HW : zx c call) (HL : zA c call) {s s1 s2 u1 u2 : St} {x y : O} {f g g1 : Fq} {b : Nat} {vx vy : AV} (hx : Ev c call s x vx u1 (.lw b)) (Ua : mg (bR s.env x.dst (.lw b)) = true) (Cv : ym (bR s.env x.dst (.lw b)) f) (Pv : dL s1 (jt u1 x.dst vx)) (hy : Ev c call s1 y vy u2 g1) (VV : mg (bR s1.env y.dst g1) = true) (Cu : ym (bR s1.env y.dst g1) g) (T2 : dL s2 (jt u2 y.dst vy)) (GZ : calm g1 = true) (yl : jk x y = true) (dy : iz x f y g = true) :
  ∃ GM,TS c call s y g GM /\ TS c call GM x f s2 := by
 obtain ⟨ax,ay⟩ := uK yl;simp only [iz,aa] at dy;obtain ⟨⟨dy,VX,AQ⟩,_⟩ := dy;obtain ⟨cf,cg⟩ := HU dy;obtain ⟨cs,cs',hX⟩ := HL _ _ _ _ _ hx;obtain ⟨Y,hY⟩ := HC _ _ _ _ _ hy GZ;obtain ⟨q1,q2⟩ := tj Ua;have hlx' := Cv;rw [q1] at hlx';have hf := hlx'.N9 cf;subst hf;obtain ⟨o1,o2,o3,o4,_,_⟩ := Zz dy;obtain ⟨r1,r2,r3,r4⟩ := lK VV GZ
 have nwy : ∀ sl bs,bR s1.env y.dst g1 ≠ .wr sl bs := fun sl bs e => by
  unfold bR at e;cases g1 <;> simp [calm] at GZ <;> (repeat' split at e) <;> simp_all
 have eg : bR s1.env y.dst g1 = g := Cu.cw cg nwy;obtain ⟨e1,_⟩ := r4 (fun ps e => o1 ps (eg ▸ e));have eg' : g1 = g := e1 ▸ eg;subst eg';have Cc : ∀ i,get s1.env i = if x.dst = some i then vx else get s.env i := fun i => by rw [Pv.1,ep,hX.st.1]
 have H1 : s1.H = s.H.set b (some cs') := by rw [Pv.2,gL,hX.st.2]
 have KL : ∀ i,x.dst = some i -> y.dst ≠ some i := fun i h => (ax i h).2;have blt : b < s.H.length := eL hX.bl;have hbx : ∀ d,d ≠ b -> aJ s.H d = aJ s1.H d := fun d hd => by rw [H1,dO,if_neg (fun h => hd h.1)]
 have yr : ∀ i ∈ y.reads,get s.env i = get s1.env i := fun i hi => by
  rw [Cc,if_neg];intro e;exact (ax i e).1 hi
 have yu : wa g1 s1 s := by
  refine ⟨fun ps sX => Seen.mk' fun p hp => ⟨fun i e => ?_,fun i j e => ?_,fun d j e => ?_⟩,fun d j hf => .of_eq (hbx d (o4 d j hf))⟩
  ·rw [Cc,if_neg];intro e2;have := ib VX cg i e2;rw [sX] at this;exact (fI (show gJ i ps = true from this) p hp).1 i e rfl
  ·rw [Cc,if_neg];intro e2;have := ib VX cg i e2;rw [sX] at this;exact (fI (show gJ i ps = true from this) p hp).2 i j e rfl
  ·subst e;exact hbx d (xH (o3 ps sX) d j hp)
 have yal : ∀ n,g1 = .al n -> s.H.length = n := fun n hn => by
  rcases hY.nw with ⟨_,e⟩ | ⟨z,e,e2⟩
  ·exact absurd hn (e n)
  ·rw [hn] at e2; cases e2; rw [H1]; simp
 have H8 := hY.go s (fun i hi => by rw [yr i hi]) yu yal
 have gy : ∀ i,y.dst = some i -> get s1.env i = get s.env i := fun i hi => by
  rw [Cc,if_neg];intro e;exact KL i e hi
 have RX : bR s.env y.dst g1 = bR s1.env y.dst g1 := je fun i hi => (gy i hi).symm;refine ⟨jt ⟨s.env,s.H ++ Y⟩ y.dst vy,TS.mk HC HW HL H8 (by rw [RX]; exact VV) (by rw [RX]; exact Cu) dL.rfl',?_⟩;generalize ht : jt ⟨s.env,s.H ++ Y⟩ y.dst vy = t;have gt : ∀ i,get t.env i = if y.dst = some i then vy else get s.env i := fun i => by rw [<- ht,ep]
 have Ht : t.H = s.H ++ Y := by rw [<- ht,gL]
 have xr : ∀ i ∈ x.reads,get t.env i = get s.env i := fun i hi => by
  rw [gt,if_neg];intro e;exact (ay i e).1 hi
 have AJ := hX.go t xr (by rw [Ht,vJ blt]; exact hX.bl)
 have gx : ∀ i,x.dst = some i -> get t.env i = get s.env i := fun i hi => by
  rw [gt,if_neg];exact KL i hi
 have RY : bR t.env x.dst (.lw b) = bR s.env x.dst (.lw b) := je gx;refine TS.mk HC HW HL AJ (by rw [RY]; exact Ua) (by rw [RY]; exact Cv) ⟨fun i => ?_,?_⟩
 ·rw [T2.1,ep,hY.st.1,ep];show (if y.dst = some i then vy else get s1.env i) = if x.dst = some i then vx else get t.env i;rw [Cc,gt];by_cases h1 : x.dst = some i
  ·simp [h1,KL i h1]
  ·simp [h1]
 ·rw [T2.2,gL,hY.st.2,gL];show s1.H ++ Y = t.H.set b (some cs');rw [H1,Ht,RB _ _ blt]
theorem ahj (HC : nA c call) (HW : zx c call) (HL : zA c call) : Pn (TS c call) := by
 intro s x f s1 y g s2 hx hy yl dy;have GX := dy;simp only [iz,aa] at GX;obtain ⟨cf,cg⟩ := HU GX.1.1;obtain ⟨vx,u1,f1,x1,x2,x3,x4⟩ := hx.out HC HW HL cf;obtain ⟨vy,u2,g1,y1,y2,y3,y4⟩ := hy.out HC HW HL cg;have c1 := tl x2;have c2 := tl y2;by_cases Py : calm f1 = true
 ·by_cases GZ : calm g1 = true
  ·exact Wj HC HW HL x1 x2 x3 x4 y1 y2 y3 y4 Py GZ yl dy
  ·cases g1 <;> simp [calm,mg] at GZ c2
   case wr sl bs => exact acV HC HW HL x1 x2 x3 x4 y1 y2 y3 y4 Py yl dy
   case bo => exact absurd rfl (y1.fl _)
   case lw b => exact acW HC HW HL x1 x2 x3 x4 y1 y2 y3 y4 Py yl dy
 ·cases f1 <;> simp [calm,mg] at Py c1
  case wr sl bs =>
   by_cases GZ : calm g1 = true
   ·exact acT HC HW HL x1 x2 x3 x4 y1 y2 y3 y4 GZ yl dy
   ·cases g1 <;> simp [calm,mg] at GZ c2
    case wr sl' bs' =>
     exfalso;rw [(mn x2).1] at x3;rw [(mn y2).1] at y3;obtain ⟨_,_,rfl⟩ := x3.Hb cf;obtain ⟨_,_,rfl⟩ := y3.Hb cg;exact (Zu GX.1.1).2.2 _ _ rfl
    case bo => exact absurd rfl (y1.fl _)
    case lw b =>
     exfalso;rw [(mn x2).1] at x3;rw [(tj y2).1] at y3;obtain ⟨_,_,rfl⟩ := x3.Hb cf;have := y3.N9 cg;subst this;exact (aeE GX.1.1).2.2.2.2.1 _ _ rfl
  case bo => exact absurd rfl (x1.fl _)
  case lw b =>
   by_cases GZ : calm g1 = true
   ·exact acU HC HW HL x1 x2 x3 x4 y1 y2 y3 y4 GZ yl dy
   ·exfalso;rw [(tj x2).1] at x3;have hf := x3.N9 cf;subst hf;obtain ⟨_,_,_,_,o5,o6⟩ := Zz GX.1.1;cases g1 <;> simp [calm,mg] at GZ c2
    case wr sl' bs' =>
     rw [(mn y2).1] at y3;obtain ⟨_,_,rfl⟩ := y3.Hb cg;exact o5 _ _ rfl
    case bo => exact absurd rfl (y1.fl _)
    case lw d =>
     rw [(tj y2).1] at y3;exact o6 _ (y3.N9 cg)
end
end Go.Bm

/- What the value of a calm operation mentions was read. -/
namespace Go.Bm
open Go.Am
section
variable {P : Program} {c : eG} {call : Nat -> List AV -> Heap -> Option (AV × Heap)} {V : Rt -> Prop}
def K3 (V : Rt -> Prop) (x : AV) : Prop := ∀ p ∈ aN x,¬ V p
theorem fJ {p : Rt} : ∀ {cs : List AV},p ∈ df cs ↔ ∃ x ∈ cs,p ∈ aN x
 | [] => by simp [df]
 | x :: r => by simp [df,fJ (cs := r)]
theorem Ay {f : Nat -> Rt} {p : Rt} : ∀ {cs : List AV} {j : Nat},p ∈ df (eP f j cs) -> p ∈ df cs \/ ∃ i,p = f i
 | [],j,h => by simp [eP,df] at h
 | x :: r,j,h => by
   have ih := fun h => Ay (f := f) (p := p) (cs := r) (j := j + 1) h;cases x <;> simp only [eP,df,aN,aC,List.nil_append,aU,List.not_mem_nil,or_false] at h ih ⊢
   case own k xs =>
    rcases h with h | h
    ·exact .inr ⟨j,h⟩
    ·exact ih h
   all_goals first
    | exact ih h
    | (rcases h with h | h
       ·exact .inl (.inl h)
       ·rcases ih h with h | h
        ·exact .inl (.inr h)
        ·exact .inr h)
theorem aac {i : Nat} {x : AV} {p : Rt} (h : p ∈ aN (eY i x)) : p ∈ aN x \/ p = .s i \/ ∃ j,p = .sc i j := by
 cases x <;> simp only [eY] at h
 case own k xs => simp [aN] at h; exact .inr (.inl h)
 case agg cs =>
  simp only [aN] at h ⊢;rcases Ay h with h | h
  ·exact .inl h
  ·exact .inr (.inr h)
 all_goals exact .inl h
def CD (V : Rt -> Prop) (env : Env) (l : List Nat) : Prop := ∀ i ∈ l,(∀ p ∈ aN (get env i),¬ V p) /\ ¬ V (.s i) /\ ∀ j,¬ V (.sc i j)
theorem CD.left {env : Env} {l m : List Nat} (h : CD V env (l ++ m)) : CD V env l := fun i hi => h i (by simp [hi])
theorem CD.right {env : Env} {l m : List Nat} (h : CD V env (l ++ m)) : CD V env m := fun i hi => h i (by simp [hi])
theorem jL {env : Env} {x : E} (hk : kE x = true) (h : CD V env x.slot) : K3 V (bn c env x) := by
 intro p hp;cases x with
 | t i =>
   simp only [bn] at hp;obtain ⟨h1,h2,h3⟩ := h i (by simp [E.slot]);rcases aac hp with e | e | ⟨j,e⟩
   ·exact h1 p e
   ·subst e; exact h2
   ·subst e; exact h3 j
 | k x => simp only [bn] at hp; simp only [kE,fa] at hk; rw [hk] at hp; simp at hp
 | g i => simp [bn,aN] at hp
theorem ER {env : Env} : ∀ {xs : List E},kEs xs = true -> CD V env (kP xs) -> ∀ p ∈ df (dq c env xs),¬ V p
 | [],_,_,p,hp => by simp [dq,df] at hp
 | x :: r,hk,h,p,hp => by
   simp only [kEs,aa] at hk;simp only [kP] at h;simp only [dq,df,aC] at hp;rcases hp with hp | hp
   ·exact jL hk.1 h.left p hp
   ·exact ER hk.2 h.right p hp
theorem K3.cells {x : AV} (h : K3 V x) : ∀ d ∈ x.cells,K3 V d := by
 intro d hd p hp;by_cases ha : ∃ cs,x = .agg cs
 ·obtain ⟨cs,rfl⟩ := ha;exact h p (by simp only [aN]; exact fJ.2 ⟨d,hd,hp⟩)
 ·have : x.cells = [x] := by cases x <;> first | rfl | exact absurd ⟨_,rfl⟩ ha
  rw [this] at hd;simp at hd;subst hd;exact h p hp
theorem OU {env : Env} : ∀ {ps : List (Nat × Nat × E)} {zs cs : List AV},kPs ps = true -> CD V env (nK ps) -> (∀ d ∈ zs,K3 V d) -> nf c env zs ps = some cs -> ∀ d ∈ cs,K3 V d
 | [],zs,cs,_,_,hz,hf => by simp [nf] at hf; subst hf; exact hz
 | (o,n,x) :: r,zs,cs,hk,h,hz,hf => by
   simp only [kPs,aa] at hk;simp only [nK] at h;simp only [nf] at hf;split at hf
   case isFalse => cases hf
   refine OU hk.2 h.right (fun d hd => ?_) hf;unfold iZ at hd;simp only [aC] at hd;rcases hd with (hd | hd) | hd
   ·exact hz d (cD hd)
   ·exact (jL hk.1 h.left).cells d hd
   ·exact hz d (cF hd)
theorem afe {ag : Option Nat} {cs : List AV} {v : AV} (h : ∀ d ∈ cs,K3 V d) (hv : zQ ag cs = some v) : K3 V v := by
 unfold zQ at hv;split at hv
 ·split at hv
  ·simp at hv; subst hv;intro p hp;simp only [aN] at hp;obtain ⟨d,hd,hp⟩ := fJ.1 hp;exact h d (cD hd) p hp
  ·cases hv
 ·exact h v (List.mem_of_mem_head? hv)
theorem P9 {ag : Option Nat} {cs : List AV} {v : AV} (h : ∀ d ∈ cs,K3 V d) (hv : Jk ag cs = some v) : K3 V v := by
 unfold Jk at hv;split at hv
 ·rename_i u hu;split at hv
  ·cases hv
  ·simp at hv; subst hv; exact afe h hu
 ·cases hv
theorem K3.nil {v : AV} (h : aN v = []) : K3 V v := fun p hp => by rw [h] at hp; simp at hp
theorem aa3 {op : BinOp} {x y v : AV} (h : Gc op x y = some v) : aN v = [] := by
 unfold Gc at h;split at h
 ·split at h
  ·split at h <;> simp at h; subst h; rfl
  ·split at h <;> simp at h; subst h; rfl
  ·split at h
   ·unfold arith at h
    split at h <;> first
     | (simp at h; subst h; rfl)
     | (split at h <;> simp at h <;> (subst h; rfl))
     | cases h
   ·cases h
 ·cases h
theorem abi {op : UnOp} {x v : AV} (h : W2 op x = some v) : aN v = [] := by
 unfold W2 at h;split at h <;> simp at h <;> (subst h; rfl)
theorem NZ {mx : Bool} : ∀ {r : List AV} {k : IntKind} {a : Int} {v : AV},yX mx (.int k a) r = some v -> aN v = []
 | [],k,a,v,h => by simp [yX] at h; subst h; rfl
 | y :: r,k,a,v,h => by
   cases y <;> simp only [yX] at h <;> try (cases h; done)
   exact NZ h
theorem N6 {mx : Bool} {l : List AV} {v : AV} (h : xK mx l = some v) : aN v = [] := by
 unfold xK at h;split at h
 ·exact NZ h
 ·cases h
theorem agv {env : Env} {kd : Kd} {v : AV} (hv : Qy c env kd = some v) (hk : vX kd = true) (h : CD V env kd.reads) : K3 V v := by
 cases kd <;> simp only [Qy] at hv <;> simp only [vX,aa] at hk <;> simp only [Kd.reads] at h
 case mv x => simp at hv; subst hv; exact jL hk h
 case pick t a b =>
  split at hv
  ·simp at hv; subst hv;split
   ·exact jL hk.2.1 h.right.left
   ·exact jL hk.2.2 h.right.right
  ·cases hv
 case build zs ps =>
  split at hv
  ·rename_i cs hf;simp at hv; subst hv
   have hz : ∀ d ∈ zs,K3 V d := fun d hd p hp => by
    have := fJ.2 ⟨d,hd,hp⟩;rw [fa.1 hk.1] at this;simp at this
   intro p hp;simp only [aN] at hp;obtain ⟨d,hd,hp⟩ := fJ.1 hp;exact OU hk.2 h hz hf d hd p hp
  ·cases hv
 case kU x =>
  have ho := jL (c := c) hk h;split at hv
  ·simp at hv; subst hv; exact .nil rfl
  ·simp at hv; subst hv; exact .nil rfl
  ·rename_i e;simp at hv; subst hv;rw [e] at ho; exact ho
  ·cases hv
 case bin => exact .nil (aa3 hv)
 case eq => split at hv <;> simp at hv; subst hv; exact .nil rfl
 case un => exact .nil (abi hv)
 case CB => split at hv <;> simp at hv; subst hv; exact .nil rfl
 case TK fn a b =>
  split at hv
  ·cases hv
  ·simp at hv; subst hv;intro p hp;simp only [aN,aC] at hp;rcases hp with hp | hp
   ·exact ER hk.1 h.left p hp
   ·exact ER hk.2 h.right p hp
 case rT k x lo hi =>
  have ho := jL (c := c) hk.1 h.left;split at hv
  case h_2 => cases hv
  split at hv
  case h_2 => cases hv
  split at hv
  case h_2 => cases hv
  split at hv
  ·split at hv <;> simp at hv; subst hv; exact .nil rfl
  ·split at hv <;> simp at hv; subst hv; exact .nil rfl
  ·rename_i e;rw [e] at ho;split at hv <;> simp at hv; subst hv
   intro p hp; exact ho p (by simpa [aN] using hp)
  ·split at hv <;> simp at hv; subst hv; exact .nil rfl
  ·cases hv
 case IK n x hi =>
  cases hi with
  | some y => simp at hv
  | none =>
  (repeat' split at hv) <;> simp at hv
  obtain ⟨_,rfl⟩ := hv;exact .nil rfl
 case cC off x =>
  have ho := jL (c := c) hk h;split at hv
  ·simp at hv; subst hv; exact .nil rfl
  ·simp at hv; subst hv; exact .nil rfl
  ·rename_i e;rw [e] at ho;simp at hv; subst hv;intro p hp; exact ho p (by simpa [aN] using hp)
  ·cases hv
 case V9 off ag x =>
  have ho := jL (c := c) hk h;split at hv
  ·rename_i cs e;rw [e] at ho;exact P9 (fun d hd p hp => ho p (by simp only [aN]; exact fJ.2 ⟨d,cF hd,hp⟩)) hv
  ·cases hv
 case gw k x i =>
  have ho := jL (c := c) hk.1 h.left;split at hv
  ·(repeat' split at hv) <;> simp at hv; subst hv; exact .nil rfl
  ·rename_i e;rw [e] at ho
   (repeat' split at hv) <;> simp at hv; subst hv
   intro p hp; exact ho p (by simpa [aN] using hp)
  ·(repeat' split at hv) <;> simp at hv; subst hv; exact .nil rfl
  ·cases hv
 case Fi n k x i =>
  have ho := jL (c := c) hk.1 h.left;split at hv
  case h_2 => cases hv
  split at hv
  ·simp at hv; subst hv; exact .nil rfl
  ·simp at hv; subst hv; exact .nil rfl
  ·rename_i e;rw [e] at ho;simp at hv; subst hv;intro p hp; exact ho p (by simpa [aN] using hp)
  ·cases hv
 case ix n k ag x i =>
  have ho := jL (c := c) hk.1 h.left;split at hv
  case h_2 => cases hv
  split at hv
  ·rename_i cs e;rw [e] at ho;exact P9 (fun d hd p hp => ho p (by simp only [aN]; exact fJ.2 ⟨d,cF hd,hp⟩)) hv
  ·cases hv
 case VE tab i => (repeat' split at hv) <;> simp at hv; subst hv; exact .nil rfl
 case ext i x =>
  have ho := jL (c := c) hk h;split at hv
  ·rename_i vs e;rw [e] at ho;split at hv
   ·rename_i u hu;split at hv <;> simp at hv; subst hv
    intro p hp; exact ho p (by simp only [aN]; exact fJ.2 ⟨u,aR hu,hp⟩)
   ·cases hv
  ·cases hv
 case len => split at hv <;> simp at hv; subst hv; exact .nil rfl
 case min => exact .nil (N6 hv)
 case max => exact .nil (N6 hv)
 all_goals (cases hv; done)
mutual
theorem Ix : ∀ x,clean x = true -> aN x = []
 | .dA _ _ _ _,h => by simp [clean] at h
 | .eW _ _ _ _,h => by simp [clean] at h
 | .agg cs,h => by simp only [clean] at h; simp only [aN]; exact ya cs h
 | .dD cs,h => by simp only [clean] at h; simp only [aN]; exact ya cs h
 | .func _ _ _,h => by simp [clean] at h
 | .any,_ => rfl | .undef,_ => rfl | .fk,_ => rfl | .fu,_ => rfl | .dJ,_ => rfl
 | .int _ _,_ => rfl | .bool _,_ => rfl | .str _,_ => rfl | .list _ _,_ => rfl | .dI _,_ => rfl | .ptr _ _,_ => rfl | .sl _ _ _ _,_ => rfl | .own _ _,_ => rfl
theorem ya : ∀ xs,fK xs = true -> df xs = []
 | [],_ => rfl
 | x :: r,h => by simp only [fK,aa] at h; simp only [df,Ix x h.1,ya r h.2,List.append_nil]
end
theorem Wg {s s1 : St} {kd : Kd} {v : AV} {f : Fq} (h : dE c call kd s = some (v,s1,f)) : aN v = [] \/ ∃ sl bs,f = .wr sl bs \/ f = .all := by
 unfold dE at h;split at h
 ·rename_i r hi;subst h;obtain ⟨sl,bs,e⟩ := y9 hi;exact .inr ⟨sl,bs,e⟩
 split at h
 ·rename_i r hi;subst h;obtain ⟨_,_,_,_,_,_,_,_,_,_,_,_,_,_,_,hr,_,_⟩ := ua hi;exact .inl (Qt _ hr.1)
 unfold fR at h;split at h
 ·rename_i r hi;subst h;exact .inr ⟨[],none,.inr (vj hi).1⟩
 rcases iU h with h | h
 case inr => exact .inl (u5 h).2
 unfold eh at h;split at h
 ·cases h
 split at h
 ·cases h
 split at h
 ·split at h
  ·cases h
  split at h
  case h_2 => cases h
  split at h
  case isFalse => cases h
  rename_i hr;simp at h;obtain ⟨rfl,_,_⟩ := h;simp only [NB,aa] at hr;exact .inl (Ix _ hr.1)
 ·split at h
  ·cases h
  split at h
  case isFalse => cases h
  split at h
  ·split at h
   case isFalse => cases h
   split at h
   case h_2 => cases h
   split at h
   case isFalse => cases h
   rename_i hr;simp only [ah,aF] at h;simp only [aa] at hr;obtain ⟨rfl,_,_⟩ := h;exact .inl (fa.1 hr.1.1)
  ·split at h
   case isFalse => cases h
   split at h
   case h_2 => cases h
   split at h
   case isFalse => cases h
   rename_i hr;simp at h;obtain ⟨rfl,_,_⟩ := h;exact .inl (Qt _ hr)
theorem Oc (f : Nat -> Rt) : ∀ (j : Nat) (cs : List AV),bJ cs = false -> eP f j cs = cs
 | _,[],_ => rfl
 | j,x :: r,h => by
   cases x with
   | own k xs => simp [bJ] at h
   | _ => simp only [bJ] at h; simp only [eP,Oc f (j + 1) r h]
theorem aae {x v : AV} {ps : List Rt} {b j : Nat} (h : ug x v ps = .rc b j) : ∃ k o l,x = .ptr b j /\ v = .dA k (.c b j) o l := by
 unfold ug at h;split at h
 ·split at h
  ·rename_i hc;obtain ⟨rfl,rfl⟩ := hc;cases h;exact ⟨_,_,_,rfl,rfl⟩
  ·cases h
 ·cases h
theorem agx {s s1 : St} {kd : Kd} {v : AV} {f : Fq} (hv : ft c call s kd = some (v,s1,f)) (hf : calm f = true) (hk : vX kd = true) (h : CD V s.env kd.reads)
  (hb : ∀ ps,f = .rd ps -> ∀ b,Rt.c b 0 ∈ ps -> ∀ cs,aJ s.H b = some cs -> (∀ p ∈ df cs,¬ V p) /\ (bJ cs = true -> ∀ j,¬ V (.c b j)))
  (GD : ∀ b j,f = .rc b j -> ∀ cs c,aJ s.H b = some cs -> cs[j]? = some c -> (∀ p ∈ aN c,¬ V p) /\ (∀ k xs,c = .own k xs -> ¬ V (.c b j))) : K3 V v := by
 have pure : ∀ {kd : Kd},vX kd = true -> CD V s.env kd.reads -> (match Qy c s.env kd with
   | some v => some (v,s,Fq.no)
   | none => none) = some (v,s1,f) -> K3 V v := by
  intro kd hk h h2;split at h2
  case h_2 => cases h2
  rename_i u hu;simp at h2;obtain ⟨rfl,_,_⟩ := h2;exact agv hu hk h
 have aeT : ∀ {kd : Kd},dE c call kd s = some (v,s1,f) -> K3 V v := by
  intro kd h2;rcases Wg h2 with e | ⟨sl,bs,e | e⟩
  ·exact .nil e
  ·subst e; simp [calm] at hf
  ·subst e; simp [calm] at hf
 cases kd
 case call => simp only [ft] at hv; exact aeT hv
 case jr => simp only [ft] at hv; exact aeT hv
 case new => simp only [ft] at hv; simp at hv; obtain ⟨rfl,_,_⟩ := hv; exact .nil rfl
 case box => simp only [ft] at hv; split at hv <;> simp at hv; obtain ⟨rfl,_,_⟩ := hv; exact .nil rfl
 case eE => simp only [ft] at hv; (repeat' split at hv) <;> simp at hv <;> (obtain ⟨rfl,_,_⟩ := hv; exact .nil rfl)
 case Kn => simp only [ft] at hv; (repeat' split at hv) <;> simp at hv <;> (obtain ⟨rfl,_,_⟩ := hv; exact .nil rfl)
 case Ur => simp only [ft] at hv; (repeat' split at hv) <;> simp at hv <;> (obtain ⟨rfl,_,_⟩ := hv; exact .nil rfl)
 case app => simp only [ft] at hv; (repeat' split at hv) <;> simp at hv <;> (obtain ⟨rfl,_,_⟩ := hv; exact .nil rfl)
 case st => simp only [ft] at hv; (repeat' split at hv) <;> simp at hv <;> (obtain ⟨rfl,_,_⟩ := hv; exact .nil rfl)
 case copy => simp only [ft] at hv; (repeat' split at hv) <;> simp at hv <;> (obtain ⟨rfl,_,_⟩ := hv; exact .nil rfl)
 case IK n x hi =>
  simp only [ft] at hv;split at hv
  ·(repeat' split at hv) <;> simp at hv <;> (obtain ⟨rfl,_,_⟩ := hv; exact .nil rfl)
  ·exact pure hk h hv
 case ld ag x =>
  simp only [ft] at hv;split at hv
  case h_2 => cases hv
  rename_i u ps hp;split at hv
  case isFalse => cases hv
  rename_i hl;simp at hv;obtain ⟨rfl,rfl,hlab⟩ := hv;by_cases hy : ∃ b off k o l,bn c s.env x = .ptr b off /\ u = .dA k (.c b off) o l
  ·obtain ⟨b,off,k,o,l,e,rfl⟩ := hy;rw [e] at hp hlab;have hbc' := GD b off (by rw [<- hlab]; simp [ug]);simp only [xE] at hp;split at hp
   case h_2 => cases hp
   rename_i cs dC;split at hp
   case h_2 => cases hp
   rename_i u' hu;simp at hp;obtain ⟨rfl,_⟩ := hp
   have hz : ((eP (.c b) 0 cs).drop off)[0]? = some (.dA k (.c b off) o l) := by
    unfold Jk zQ at hu;cases ag with
    | some n => simp only at hu; (repeat' split at hu) <;> simp_all
    | none =>
      simp only at hu;rw [<- sZ]
      (repeat' split at hu) <;> simp_all
   rw [aQ,Nat.add_zero] at hz
   have hg : ∀ (cs : List AV) (j i : Nat),(eP (.c b) j cs)[i]? = some (.dA k (.c b off) o l) -> ∃ c0,cs[i]? = some c0 /\ ((∃ k xs,c0 = .own k xs) \/ c0 = .dA k (.c b off) o l) := by
    intro cs
    induction cs with
    | nil => intro j i h; simp [eP] at h
    | cons d r ih =>
      intro j i h;cases i with
      | zero =>
        refine ⟨d,rfl,?_⟩
        cases d <;> first
         | exact .inl ⟨_,_,rfl⟩
         | (simp [eP] at h; done)
         | (simp [eP] at h; right; simp [h])
      | succ i =>
        obtain ⟨c0,h1,h2⟩ := ih (j + 1) i (by cases d <;> simpa [eP] using h);exact ⟨c0,by simpa using h1,h2⟩
   obtain ⟨c0,h1,h2⟩ := hg cs 0 off hz;obtain ⟨q1,q2⟩ := hbc' cs c0 dC h1;intro p hp;simp [aN] at hp;subst hp;rcases h2 with h2 | h2
   ·obtain ⟨k0,xs0,e0⟩ := h2; exact q2 k0 xs0 e0
   ·subst h2; exact q1 _ (by simp [aN])
  have hlab : f = .rd ps := by
   rw [<- hlab];rcases uf (bn c s.env x) u ps with e | ⟨b,j,e⟩
   ·exact e
   ·obtain ⟨k,o,l,e1,e2⟩ := aae e;exact absurd ⟨b,j,k,o,l,e1,e2⟩ hy
  subst hlab;by_cases hx : ∃ b off,bn c s.env x = .ptr b off
  ·obtain ⟨b,off,e⟩ := hx;rw [e] at hp;simp only [xE] at hp;split at hp
   case h_2 => cases hp
   rename_i cs dC;split at hp
   case h_2 => cases hp
   rename_i u' hu;simp at hp;obtain ⟨rfl,rfl⟩ := hp;by_cases hz : aN u' = []
   ·exact .nil hz
   obtain ⟨b1,b2⟩ := hb _ rfl b (by simp [hz]) cs dC;refine P9 (fun d hd p hp => ?_) hu;have := fJ.2 ⟨d,cF hd,hp⟩;cases ho : bJ cs with
   | false => rw [Oc _ _ _ ho] at this; exact b1 p this
   | true =>
     rcases Ay this with h3 | ⟨i,h3⟩
     ·exact b1 p h3
     ·subst h3; exact b2 ho i
  ·refine .nil ?_;unfold ldOK at hl;split at hl
   ·rename_i e; exact absurd ⟨_,_,e⟩ hx
   ·exact fa.1 hl
 all_goals
  simp only [ft] at hv;exact pure hk h hv
end
end Go.Bm

/- What single operations are worth: regions that draw their order are sound. -/
namespace Go.Bm
open Go.Am
section
variable {P : Program} {c : eG} {call : Nat -> List AV -> Heap -> Option (AV × Heap)} {V : Rt -> Prop}
theorem dL.own {s t : St} (h : dL s t) (p : Rt) : az t p = az s p := by
 cases p with
 | s i => simp only [az,at_,h.1 i]
 | sc i j => simp only [az,at_,h.1 i]
 | c b j => simp only [az,at_,h.2]
theorem Seen.of_same {s s0 t : St} {ps : List Rt} (e : dL s s0) (h : Seen ps s t) : Seen ps s0 t := fun p hp => ⟨by rw [(h p hp).1,e.own],fun b l hb => by rw [(h p hp).2 b l hb,e.2]⟩
theorem o9.of_same {s s0 t : St} {b j : Nat} (e : dL s s0) (h : o9 b j s t) : o9 b j s0 t := fun cs hc => h cs (by rw [e.2]; exact hc)
theorem agy {s s1 : St} {kd : Kd} {v : AV} {n : Nat} (h : ft c call s kd = some (v,s1,.al n)) : ∃ z,s1 = ⟨s.env,s.H ++ [z]⟩ := by
 have nc : ∀ {kd : Kd},dE c call kd s ≠ some (v,s1,.al n) := by
  intro kd h;unfold dE at h;split at h
  ·rename_i r hi;subst h;obtain ⟨sl,bs,e | e⟩ := y9 hi <;> cases e
  split at h
  ·rename_i r hi;subst h;obtain ⟨b,e⟩ := CT hi;cases e
  unfold fR at h;split at h
  ·rename_i r hi;subst h;obtain ⟨e,_⟩ := vj hi;cases e
  replace h := (iU h).resolve_right fun h => by obtain ⟨e,_⟩ := u5 h; cases e
  unfold eh at h
  (repeat' split at h) <;> simp [vB] at h
  all_goals (obtain ⟨_,_,h⟩ := h; revert h; split <;> simp [vB])
 have ns : ∀ {s s' : St} {k : Nat} {a v : AV} {f : Fq},Ps s k a v = some (s',f) -> f ≠ .al n := by
  intro s s' k a v f h e;have := PO h;rw [e] at this;simp [calm] at this
 cases kd <;> simp only [ft] at h
 case new => simp at h; exact ⟨_,h.2.1.symm⟩
 case box => split at h <;> simp at h; exact ⟨_,h.2.1.symm⟩
 case call => exact absurd h nc
 case jr => exact absurd h nc
 case st =>
  exfalso;split at h
  ·split at h
   case h_2 => cases h
   rename_i hh;simp only [ah,aF] at h;obtain ⟨_,_,h5⟩ := h;split at h5
   ·exact ns hh h5
   ·cases h5
  ·split at h
   case h_2 => cases h
   rename_i hh;simp only [ah,aF] at h;exact ns hh h.2.2
 case ld =>
  exfalso;split at h
  case h_2 => cases h
  split at h
  case isFalse => cases h
  simp only [ah,aF] at h;obtain ⟨_,_,h5⟩ := h;rcases uf _ _ _ with e | ⟨b,j,e⟩ <;> rw [e] at h5 <;> cases h5
 case Kn =>
  split at h
  case h_2 => cases h
  split at h
  case isFalse => cases h
  split at h
  ·simp at h; exact ⟨_,h.2.1.symm⟩
  ·simp at h
 case eE =>
  exfalso
  (repeat' split at h) <;> simp [vB] at h
  all_goals (obtain ⟨_,_,h⟩ := h; revert h; split <;> simp [vB])
 case copy =>
  exfalso
  (repeat' split at h) <;> simp at h
  obtain ⟨_,_,h5⟩ := h;rcases uA _ _ with e | ⟨_,_,_,_,e⟩ <;> rw [e] at h5 <;> cases h5
 all_goals
  exfalso
  (repeat' split at h) <;> simp at h
theorem HZ {i : Nat} {x : AV} {b : Bool} (h : eY i x = .bool b) : x = .bool b := by
 cases x <;> simp [eY] at h <;> simp [h]
theorem QN {i : Nat} {x : AV} (h : eY i x = .undef) : x = .undef := by
 cases x <;> simp [eY] at h <;> rfl
theorem adl : nA c call := by
 intro s q v s1 f ⟨hk,s0,t1,e0,he,e1⟩ hc
 have op : ft c call s0 q.kd = some (v,t1,f) -> (∀ t : St,(∀ i ∈ q.reads,eY i (get t.env i) = eY i (get s.env i)) -> Cf c call t q = ft c call t q.kd) -> ∃ X,Rx c call s q v s1 f X := by
  intro h ze;obtain ⟨T,k1,k2,k3⟩ := Zs h hc;have hr : ∀ i ∈ q.kd.reads,i ∈ q.reads := fun i hi => by simp [O.reads,hi]
  refine ⟨T,⟨e1.symm.trans ⟨fun i => by rw [k1]; exact (e0.1 i).symm,by rw [k1]; show s0.H ++ T = s.H ++ T; rw [e0.2]⟩,?_,fun t h1 h2 h3 => ?_,fun V h1 h2 h2c => ?_⟩⟩
  ·rcases k2 with e | ⟨z,e,e2⟩
   ·by_cases hal : ∃ n,f = .al n
    ·obtain ⟨n,rfl⟩ := hal;obtain ⟨z,hz⟩ := agy h;rw [k1,e] at hz;simp at hz
    ·exact .inl ⟨e,fun n hn => hal ⟨n,hn⟩⟩
   ·exact .inr ⟨z,e,by rw [e0.2]; exact e2⟩
  ·refine ⟨hk,t,_,dL.rfl',?_,dL.rfl'⟩;rw [ze t h1];exact k3 t (fun i hi => by rw [h1 i (hr i hi),e0.1]) ⟨fun ps sX => (h2.1 ps sX).of_same e0,fun b j hf => (h2.2 b j hf).of_same e0⟩ h3
  ·exact agx h hc hk (fun i hi => by rw [<- e0.1]; exact h1 i (hr i hi)) (fun ps sX b hp cs hb => h2 ps sX b hp cs (by rw [e0.2]; exact hb)) fun b j hf cs c0 hb AR => h2c b j hf cs c0 (by rw [e0.2]; exact hb) AR
 have un : f = .no -> v = .undef -> t1 = s0 -> (∀ t : St,(∀ i ∈ q.reads,eY i (get t.env i) = eY i (get s.env i)) -> Cf c call t q = some (.undef,t,.no)) -> ∃ X,Rx c call s q v s1 f X := by
  intro hf hv ht ze;subst hf hv ht;refine ⟨[],⟨e1.symm.trans ⟨fun i => (e0.1 i).symm,by show t1.H = s.H ++ []; rw [e0.2]; simp⟩,.inl ⟨rfl,fun n h => by cases h⟩,fun t h1 _ _ => ⟨hk,t,t,dL.rfl',ze t h1,⟨fun i => rfl,by simp⟩⟩,fun V _ _ _ p hp => by simp [aN] at hp⟩⟩
 unfold Cf at he;cases hg : q.guard with
 | none =>
   rw [hg] at he;exact op he fun t _ => by unfold Cf; rw [hg]
 | some gp =>
   obtain ⟨g,want⟩ := gp;rw [hg] at he;simp only at he;have B8 : g ∈ q.reads := by simp [O.reads,hg]
   split at he
   ·rename_i b hb;split at he
    ·rename_i QY;refine op he fun t h1 => ?_;unfold Cf;rw [hg];have im : get t.env g = .bool b := HZ (by rw [h1 g B8,e0.1 g,hb]; rfl);simp only [im,QY,if_true]
    ·rename_i QY;simp only [ah,aF] at he;refine un he.2.2.symm he.1.symm he.2.1.symm fun t h1 => ?_;unfold Cf;rw [hg];have im : get t.env g = .bool b := HZ (by rw [h1 g B8,e0.1 g,hb]; rfl);simp only [im,QY,if_false]
   ·rename_i hb;simp only [ah,aF] at he;refine un he.2.2.symm he.1.symm he.2.1.symm fun t h1 => ?_;unfold Cf;rw [hg];have im : get t.env g = .undef := QN (by rw [h1 g B8,e0.1 g,hb]; rfl);simp only [im]
   ·cases he

/-! Operations that write a few places -/
mutual
theorem yY {g : AV -> AV} : ∀ x,(∀ k p o l,p ∈ aN x -> g (.dA k p o l) = .dA k p o l /\ g (.eW k p o l) = .eW k p o l) -> cU g x = x
 | .dA k p o l,h => by simp only [cU]; exact (h k p o l (by simp [aN])).1
 | .eW k p o l,h => by simp only [cU]; exact (h k p o l (by simp [aN])).2
 | .agg cs,h => by simp only [cU]; rw [lU cs (by simpa only [aN] using h)]
 | .dD cs,h => by simp only [cU]; rw [lU cs (by simpa only [aN] using h)]
 | .func f a b,h => by
   simp only [aN,aC] at h;simp only [cU]; rw [lU a fun k p o l hp => h k p o l (.inl hp),lU b fun k p o l hp => h k p o l (.inr hp)]
 | .any,_ => rfl | .undef,_ => rfl | .fk,_ => rfl | .fu,_ => rfl | .dJ,_ => rfl
 | .int _ _,_ => rfl | .bool _,_ => rfl | .str _,_ => rfl | .list _ _,_ => rfl | .dI _,_ => rfl | .ptr _ _,_ => rfl | .sl _ _ _ _,_ => rfl | .own _ _,_ => rfl
theorem lU {g : AV -> AV} : ∀ xs,(∀ k p o l,p ∈ df xs -> g (.dA k p o l) = .dA k p o l /\ g (.eW k p o l) = .eW k p o l) -> dp g xs = xs
 | [],_ => rfl
 | x :: r,h => by
   simp only [df,aC] at h;simp only [dp]; rw [yY x fun k p o l hp => h k p o l (.inl hp),lU r fun k p o l hp => h k p o l (.inr hp)]
end
theorem Aw {f : Nat -> Rt} : ∀ {cs : List AV} {j l k : Nat} {xs xs' : List AV},cs[l]? = some (.own k xs) -> xs'.length = xs.length -> eP f j (cs.set l (.own k xs')) = eP f j cs
 | [],j,l,k,xs,xs',h,_ => by simp at h
 | x :: r,j,0,k,xs,xs',h,hl => by
   simp at h;subst h;simp only [List.set_cons_zero,eP,hl]
 | x :: r,j,l + 1,k,xs,xs',h,hl => by
   have ih := Aw (f := f) (j := j + 1) (by simpa using h) hl;rw [List.set_cons_succ];cases x <;> simp only [eP,ih]
theorem PV {s : St} {p : Rt} {k : Nat} {xs xs' : List AV} (h : az s p = some (k,xs)) (hl : xs'.length = xs.length) (i : Nat) : eY i (get (setAt s p (.own k xs')).env i) = eY i (get s.env i) := by
 cases p with
 | s j =>
   simp only [setAt,bu];by_cases e : i = j
   ·subst e;rw [if_pos rfl];simp only [az,at_] at h;split at h
    ·rename_i k2 xs2 e2;simp at h;obtain ⟨rfl,rfl⟩ := h;simp at e2;rw [e2];simp only [eY,hl]
    ·cases h
   ·rw [if_neg e]
 | sc j l =>
   simp only [az,at_] at h;simp only [setAt];split
   ·rename_i cs dC;rw [dC] at h;simp only [bu];by_cases e : i = j
    ·subst e;rw [if_pos rfl,dC];simp only at h;split at h
     ·rename_i k2 xs2 e2;simp at h;obtain ⟨rfl,rfl⟩ := h;simp only [eY,Aw e2 hl]
     ·cases h
    ·rw [if_neg e]
   ·rfl
 | c b j =>
   simp only [setAt];split <;> rfl
theorem qz {i : Nat} : ∀ {l : List Nat},i + kA ∈ marks l ↔ i ∈ l
 | [] => by simp [marks]
 | j :: r => by simp [marks,qz (l := r)]
theorem fx {s : St} {p : Rt} {v : AV} {i : Nat} (h : i ∉ rootOf p) : get (setAt s p v).env i = get s.env i := by
 cases p with
 | s j => simp only [rootOf,cV] at h; simp only [setAt,bu,if_neg h]
 | sc j l =>
   simp only [rootOf,cV] at h;simp only [setAt];split
   ·simp only [bu,if_neg h]
   ·rfl
 | c b j => simp only [setAt]; split <;> rfl
theorem nC {s : St} {p : Rt} {v : AV} {b : Nat} (h : b ∉ jF p) : aJ (setAt s p v).H b = aJ s.H b := by
 cases p with
 | s j => rfl
 | sc j l => simp only [setAt]; split <;> rfl
 | c d j =>
   simp only [jF,cV] at h;simp only [setAt];split
   ·rw [dO,if_neg (fun e => h e.1)]
   ·rfl
theorem wx {s t : St} (h : dL s t) (p : Rt) (v : AV) : dL (setAt s p v) (setAt t p v) := by
 cases p with
 | s j => exact ⟨fun i => by simp only [setAt,bu,h.1 i],h.2⟩
 | sc j l =>
   simp only [setAt];rw [h.1 j];split
   ·exact ⟨fun i => by simp only [bu,h.1 i],h.2⟩
   ·exact h
 | c b j =>
   simp only [setAt];rw [h.2];split
   ·exact ⟨h.1,rfl⟩
   ·exact h
theorem nB {s : St} {p : Rt} {v u : AV} {d : Nat} (h : d ∉ rootOf p) : dL (setAt ⟨put s.env d u,s.H⟩ p v) ⟨put (setAt s p v).env d u,(setAt s p v).H⟩ := by
 cases p with
 | s j =>
   simp only [rootOf,cV] at h;refine ⟨fun i => ?_,rfl⟩;simp only [setAt,bu];by_cases e : i = j
   ·subst e;have : i ≠ d := fun e => h e.symm;simp [this]
   ·simp [e]
 | sc j l =>
   simp only [rootOf,cV] at h;have hj : j ≠ d := fun e => h e.symm;simp only [setAt,bu,if_neg hj];split
   ·refine ⟨fun i => ?_,rfl⟩;simp only [bu];by_cases e : i = j
    ·subst e; simp [hj]
    ·simp [e]
   ·exact dL.rfl'
 | c b j =>
   simp only [setAt];split
   ·exact dL.rfl'
   ·exact dL.rfl'
theorem qt {s : St} {p : Rt} {y : Nat × List AV} (h : az s p = some y) : ∀ i ∈ rootOf p,bN (get s.env i) = true := by
 intro i hi;obtain ⟨k,xs⟩ := y;have h := cH.1 h;cases p with
 | s j =>
   simp only [rootOf,cV] at hi; subst hi;simp only [at_,ah] at h;rw [h]; rfl
 | sc j l =>
   simp only [rootOf,cV] at hi; subst hi;simp only [at_] at h;split at h
   ·rename_i cs hc;rw [hc];simp only [bN]
    have : ∀ {cs : List AV} {l : Nat},cs[l]? = some (.own k xs) -> bJ cs = true := by
     intro cs
     induction cs with
     | nil => intro l h; simp at h
     | cons x r ih =>
       intro l h;cases l with
       | zero => simp at h; subst h; rfl
       | succ l => simp at h; cases x <;> simp only [bJ] <;> exact ih h
    exact this h
   ·cases h
 | c b j => simp [rootOf] at hi
theorem kz {s : St} {p : Rt} {d : Nat} {u : AV} (h : d ∉ rootOf p) : az ⟨put s.env d u,s.H⟩ p = az s p := by
 cases p with
 | s j =>
   simp only [rootOf,cV] at h;have hj : j ≠ d := fun e => h e.symm;simp only [az,at_,bu,if_neg hj]
 | sc j l =>
   simp only [rootOf,cV] at h;have hj : j ≠ d := fun e => h e.symm;simp only [az,at_,bu,if_neg hj]
 | c b j => rfl
structure sU (c : eG) (call : Nat -> List AV -> Heap -> Option (AV × Heap)) (s : St) (kd : Kd) (v : AV) (s1 : St) (sl : List Nat) (bs : Option (List Nat)) (V : Rt -> Prop) : Prop where
 env : ∀ i,i ∉ sl -> i + kA ∉ sl -> get s1.env i = get s.env i
 hd : ∀ i,i ∉ sl -> eY i (get s1.env i) = eY i (get s.env i)
 keep : ∀ i,bN (get s.env i) = false -> aN (get s.env i) = [] -> get s1.env i = get s.env i
 heap : ∀ l,bs = some l -> ∀ b,b ∉ l -> aJ s1.H b = aJ s.H b
 v1 : ∀ i,i ∉ sl -> (∀ p ∈ aN (get s.env i),¬ V p) /\ ¬ V (.s i) /\ ∀ j,¬ V (.sc i j)
 v2 : ∀ l,bs = some l -> ∀ b,b ∉ l -> b + kA ∉ l -> ∀ cs,aJ s.H b = some cs -> (∀ p ∈ df cs,¬ V p) /\ (bJ cs = true -> ∀ j,¬ V (.c b j))
 go : ∀ d u,d ∉ kd.reads -> d ∉ sl -> d + kA ∉ sl -> K3 V u -> ∃ t0 t1 sl',dL t0 ⟨put s.env d u,s.H⟩ /\ ft c call t0 kd = some (v,t1,.wr sl' bs) /\ (∀ i ∈ sl',i ∈ sl) /\ dL t1 ⟨put s1.env d u,s1.H⟩
structure Rq (c : eG) (call : Nat -> List AV -> Heap -> Option (AV × Heap)) (s : St) (kd : Kd) (v : AV) (s1 : St) (sl : List Nat) (bs : Option (List Nat)) (V : Rt -> Prop) : Prop where
 env : ∀ i,i ∉ sl -> i + kA ∉ sl -> get s1.env i = get s.env i
 hd : ∀ i,i ∉ sl -> eY i (get s1.env i) = eY i (get s.env i)
 keep : ∀ i,bN (get s.env i) = false -> aN (get s.env i) = [] -> get s1.env i = get s.env i
 heap : ∀ l,bs = some l -> ∀ b,lC b l = false -> aJ s1.H b = aJ s.H b
 cell : ∀ l,bs = some l -> ∀ b j,b ∉ l -> jV b j ∉ l -> o9 b j s s1 /\ o9 b j s1 s
 v1 : ∀ i,i ∉ sl -> (∀ p ∈ aN (get s.env i),¬ V p) /\ ¬ V (.s i) /\ ∀ j,¬ V (.sc i j)
 v2 : ∀ l,bs = some l -> ∀ b,lC b l = false -> b + kA ∉ l -> ∀ cs,aJ s.H b = some cs -> (∀ p ∈ df cs,¬ V p) /\ (bJ cs = true -> ∀ j,¬ V (.c b j))
 v3 : ∀ l,bs = some l -> ∀ b j,b ∉ l -> b + kA ∉ l -> jV b j ∉ l -> ∀ cs c,aJ s.H b = some cs -> cs[j]? = some c -> (∀ p ∈ aN c,¬ V p) /\ (∀ k xs,c = .own k xs -> ¬ V (.c b j))
 go : ∀ d u,d ∉ kd.reads -> d ∉ sl -> d + kA ∉ sl -> K3 V u -> ∃ t0 t1 sl',dL t0 ⟨put s.env d u,s.H⟩ /\ ft c call t0 kd = some (v,t1,.wr sl' bs) /\ (∀ i ∈ sl',i ∈ sl) /\ dL t1 ⟨put s1.env d u,s1.H⟩
theorem Fo : ∀ {cs : List AV} {j k : Nat} {xs : List AV},cs[j]? = some (.own k xs) -> bJ cs = true
 | [],j,k,xs,h => by simp at h
 | c :: r,0,k,xs,h => by simp at h; subst h; rfl
 | c :: r,j + 1,k,xs,h => by
   have := Fo (cs := r) (j := j) (by simpa using h);cases c <;> simp [bJ,this]
theorem sU.up {s s1 : St} {kd : Kd} {v : AV} {sl : List Nat} {bs : Option (List Nat)} : (∃ V,sU c call s kd v s1 sl bs V) -> ∃ V,Rq c call s kd v s1 sl bs V := by
 rintro ⟨V,h⟩;refine ⟨V,⟨h.env,h.hd,h.keep,fun l hl b hb => h.heap l hl b (jG hb).1,fun l hl b j hb _ => ⟨.of_eq (h.heap l hl b hb),.of_eq (h.heap l hl b hb).symm⟩,h.v1,fun l hl b hb => h.v2 l hl b (jG hb).1,fun l hl b j h1 h2 _ cs c0 hb hc => ?_,h.go⟩⟩;obtain ⟨a1,a2⟩ := h.v2 l hl b h1 h2 cs hb;exact ⟨fun p hp => a1 p (fJ.2 ⟨c0,aR hc,hp⟩),fun k xs e => a2 (Fo (e ▸ hc)) j⟩
theorem qM {f : Rt -> Bool} : ∀ {l : List Rt},uL f l = true ↔ ∃ p ∈ l,f p = true
 | [] => by simp [uL]
 | p :: r => by simp [uL,qM (l := r)]
theorem Gh {f : Rt -> Bool} : ∀ {H : Heap} {b : Nat} {cs : List AV},Gi f H = false -> aJ H b = some cs -> ∀ p ∈ df cs,f p = false
 | [],b,cs,_,h => by simp [aJ] at h
 | none :: r,b,cs,ha,h => by
   cases b with
   | zero => simp [aJ] at h
   | succ b => exact Gh (H := r) (b := b) (by simpa [Gi] using ha) (by simpa [aJ] using h)
 | some ds :: r,b,cs,ha,h => by
   simp only [Gi,eO] at ha;cases b with
   | zero =>
     simp [aJ] at h;subst h;intro p hp;cases hf : f p with
     | false => rfl
     | true => rw [qM.2 ⟨p,hp,hf⟩] at ha; simp at ha
   | succ b => exact Gh (H := r) (b := b) ha.2 (by simpa [aJ] using h)
theorem my {p : Rt} : ∀ {l : List Rt},za p l = true ↔ p ∈ l
 | [] => by simp [za]
 | q :: r => by rw [za,e9,decide_eq_true_eq,my (l := r),aU]; exact ⟨fun h => h.imp Eq.symm id,fun h => h.imp Eq.symm id⟩
theorem jd {p : Rt} : ∀ {e : Env} {i : Nat},za p (aN (Am.get e i)) = true \/ (isRoot p i = true /\ Am.get e i ≠ .any) -> i ∈ jo p e
 | [],i,h => by simp [Am.get,aN,za] at h
 | (j,v) :: r,i,h => by
   simp only [Am.get] at h;simp only [jo];by_cases e : i = j
   ·subst e;simp only [if_true] at h
    have : (za p (aN v) || isRoot p i) = true := by
     rcases h with h | h
     ·simp [h]
     ·simp [h.1]
    rw [if_pos this]; simp
   ·rw [if_neg e] at h;have := jd h;split
    ·simp [this]
    ·exact this
theorem u7 {p : Rt} : ∀ {sn : List Nat} {e : Env} {i : Nat},i ∈ jo p (J7 sn e) -> mem i sn = false /\ (za p (aN (Am.get e i)) = true \/ isRoot p i = true)
 | sn,[],i,h => by simp [J7,jo] at h
 | sn,(j,v) :: r,i,h => by
   have XS : ∀ {sn' : List Nat},i ∈ jo p (J7 sn' r) -> mem j sn' = true -> mem i sn' = false /\ (za p (aN (Am.get ((j,v) :: r) i)) = true \/ isRoot p i = true) := by
    intro sn' h hj;obtain ⟨h1,h2⟩ := u7 h;have sO : i ≠ j := fun e => by rw [e,hj] at h1; cases h1
    exact ⟨h1,by simp only [Am.get]; rw [if_neg sO]; exact h2⟩
   unfold J7 at h;by_cases hj : mem j sn = true
   ·rw [if_pos hj] at h;exact XS h hj
   ·rw [if_neg hj] at h;simp only [jo] at h
    have tail : i ∈ jo p (J7 (j :: sn) r) -> mem i sn = false /\ (za p (aN (Am.get ((j,v) :: r) i)) = true \/ isRoot p i = true) := fun h => by
     obtain ⟨h1,h2⟩ := XS h (by simp [mem]);unfold mem at h1;split at h1
     ·cases h1
     ·exact ⟨h1,h2⟩
    split at h
    ·rename_i hc;rcases aU.1 h with e | h
     ·subst e;refine ⟨by simpa using hj,?_⟩;simp only [Am.get,if_true];simpa using hc
     ·exact tail h
    ·exact tail h
theorem gP {p : Rt} : ∀ {H : Heap} {k b : Nat} {cs : List AV},aJ H b = some cs -> p ∈ df cs -> k + b ∈ nM p k H
 | [],k,b,cs,h,_ => by simp [aJ] at h
 | none :: r,k,b,cs,h,hp => by
   cases b with
   | zero => simp [aJ] at h
   | succ b =>
     have := gP (H := r) (k := k + 1) (b := b) (by simpa [aJ] using h) hp;simp only [nM]; rwa [show k + (b + 1) = k + 1 + b by omega]
 | some ds :: r,k,b,cs,h,hp => by
   cases b with
   | zero =>
     simp [aJ] at h;subst h;simp [nM,my.2 hp]
   | succ b =>
     have := gP (H := r) (k := k + 1) (b := b) (by simpa [aJ] using h) hp;simp only [nM];rw [show k + (b + 1) = k + 1 + b by omega];split
     ·simp [this]
     ·exact this
theorem qh : ∀ {e : Env} {i : Nat},bU (aN (Am.get e i)) = true -> i ∈ bZ e
 | [],i,h => by simp [Am.get,aN,bU] at h
 | (j,v) :: r,i,h => by
   simp only [Am.get] at h;simp only [bZ];by_cases e : i = j
   ·subst e;simp only [if_true] at h;rw [if_pos h]; simp
   ·rw [if_neg e] at h;have := qh h;split
    ·simp [this]
    ·exact this
theorem Hj : ∀ {sn : List Nat} {e : Env} {i : Nat},i ∈ bZ (J7 sn e) -> mem i sn = false /\ bU (aN (Am.get e i)) = true
 | sn,[],i,h => by simp [J7,bZ] at h
 | sn,(j,v) :: r,i,h => by
   have XS : ∀ {sn' : List Nat},i ∈ bZ (J7 sn' r) -> mem j sn' = true -> mem i sn' = false /\ bU (aN (Am.get ((j,v) :: r) i)) = true := by
    intro sn' h hj;obtain ⟨h1,h2⟩ := Hj h;have sO : i ≠ j := fun e => by rw [e,hj] at h1; cases h1
    exact ⟨h1,by simp only [Am.get]; rw [if_neg sO]; exact h2⟩
   unfold J7 at h;by_cases hj : mem j sn = true
   ·rw [if_pos hj] at h;exact XS h hj
   ·rw [if_neg hj] at h;simp only [bZ] at h
    have tail : i ∈ bZ (J7 (j :: sn) r) -> mem i sn = false /\ bU (aN (Am.get ((j,v) :: r) i)) = true := fun h => by
     obtain ⟨h1,h2⟩ := XS h (by simp [mem]);unfold mem at h1;split at h1
     ·cases h1
     ·exact ⟨h1,h2⟩
    split at h
    ·rename_i hc;rcases aU.1 h with e | h
     ·subst e;refine ⟨by simpa using hj,?_⟩;simp only [Am.get,if_true];exact hc
     ·exact tail h
    ·exact tail h
theorem AF : ∀ {l : List Rt},bU l = true ↔ ∃ p ∈ l,bp p = false
 | [] => by simp [bU]
 | p :: r => by cases p <;> simp [bU,bp,AF (l := r)]
theorem AE {l : List Rt} (h : bU l = false) : ∀ p ∈ l,bp p = true := by
 intro p hp;cases hn : bp p with
 | true => rfl
 | false => rw [AF.2 ⟨p,hp,hn⟩] at h; cases h
theorem kf (s : St) (i : Nat) : get (ND s).env i = get s.env i := ((lR s).1 i).symm
end
end Go.Bm

/- Every operation that writes a few places; regions that draw their order are sound. -/
namespace Go.Bm
open Go.Am
section
variable {P : Program} {c : eG} {call : Nat -> List AV -> Heap -> Option (AV × Heap)} {V : Rt -> Prop}
theorem cT {i : Nat} {l m : List Nat} (h : i ∉ l ++ m) : i ∉ l /\ i ∉ m := by simpa using h
theorem kG {p : Rt} {i : Nat} : isRoot p i = true ↔ i ∈ rootOf p := by
 cases p <;> simp [isRoot,rootOf,eq_comm]
theorem CG {x : AV} (h : ∀ p ∈ aN x,bp p = true) : cU fi x = x := yY x fun k p o l hp => by
 have := h p hp;cases p <;> simp [bp] at this <;> simp [fi]
theorem yU {l : List Nat} : ∀ {H H' : Heap} {k : Nat} {r : List Nat},ja l k H H' = some r -> ∀ b,k + b ∉ l -> aJ H' b = aJ H b /\ ((k + b) + kA ∉ r -> ∀ cs,aJ H b = some cs -> bJ cs = false /\ df cs = [])
 | [],[],k,r,_,b,_ => ⟨rfl,fun _ cs h => by simp [aJ] at h⟩
 | [],_ :: _,k,r,h,b,_ => by simp [ja] at h
 | _ :: _,[],k,r,h,b,_ => by simp [ja] at h
 | x :: H,y :: H',k,r,h,b,hb => by
   unfold ja at h;split at h
   case h_2 => cases h
   rename_i r0 h0;cases b with
   | zero =>
     have hm : mem k l = false := by
      cases hh : mem k l with
      | false => rfl
      | true => exact absurd (mem_iff.1 hh) (by simpa using hb)
     rw [hm] at h;simp only [bW,if_false] at h;split at h
     case isFalse => cases h
     rename_i he;have e := adp he;subst e;refine ⟨rfl,fun hr cs dC => ?_⟩
     have hx : x = some cs := by
      unfold aJ at dC;simp only [List.getElem?_cons_zero] at dC;cases x with
      | none => simp at dC
      | some d => simp at dC; rw [dC]
     subst hx;cases hc : F5 (some cs) with
     | false =>
       rw [hc] at h;simp at h;subst h;exact absurd (by simp) hr
     | true =>
       simp only [F5,aa,bH] at hc;exact ⟨hc.1,fa.1 hc.2⟩
   | succ b =>
     have ih := yU h0 b (by rw [show k + 1 + b = k + (b + 1) by omega]; exact hb);have e : ∀ z (G : Heap),aJ (z :: G) (b + 1) = aJ G b := fun z G => by simp [aJ]
     rw [e,e];refine ⟨ih.1,fun hr => ih.2 fun hm => hr ?_⟩;rw [show k + 1 + b = k + (b + 1) by omega] at hm;split at h
     ·cases h; exact hm
     ·split at h
      ·simp at h;subst h;split
       ·exact hm
       ·exact List.mem_cons_of_mem _ hm
      ·cases h
theorem aaz {p : Rt} {k : Nat} {xs : List AV} {x : AV} (h : p ∉ aN x) : cU (fb p k xs) x = x := yY x fun k' q o l hq => by
 have : q ≠ p := fun e => h (e ▸ hq);constructor <;> simp [fb,this]
theorem acF {p : Rt} {k : Nat} {xs : List AV} {x : List AV} (h : p ∉ df x) : dp (fb p k xs) x = x := lU x fun k' q o l hq => by
 have : q ≠ p := fun e => h (e ▸ hq);constructor <;> simp [fb,this]
theorem WV {s : St} {p : Rt} {k : Nat} {xs : List AV} {kd : Kd} {v : AV} (hp : az s p = some (k,xs))
  (ze : ∀ t : St,(∀ i ∈ kd.reads,get t.env i = get s.env i) -> az t p = some (k,xs) -> ft c call t kd = some (v,setAt (bP (fb p k xs) t) p (.list k xs),.wr (jo p t.env) (some (jF p ++ nM p 0 t.H)))) :
  ∃ V,sU c call s kd v (setAt (bP (fb p k xs) s) p (.list k xs)) (jo p s.env) (some (jF p ++ nM p 0 s.H)) V := by
 have pz := qt hp;have pq : ∀ i ∈ rootOf p,i ∈ jo p s.env := fun i hi => jd (.inr ⟨kG.2 hi,fun e => by have := pz i hi; rw [e] at this; cases this⟩);have iA : ∀ {i : Nat},i ∉ jo p s.env -> p ∉ aN (get s.env i) /\ i ∉ rootOf p := fun {i} hi => ⟨fun e => hi (jd (.inl (my.2 e))),fun e => hi (pq i e)⟩
 have uy : ∀ i,p ∉ aN (get s.env i) -> i ∉ rootOf p -> get (setAt (bP (fb p k xs) s) p (.list k xs)).env i = get s.env i := fun i h1 h2 => by
  rw [fx h2];show get (ji (fb p k xs) s.env) i = _;rw [dt,aaz h1]
 have ahc : ∀ b,b ∉ jF p ++ nM p 0 s.H -> aJ (setAt (bP (fb p k xs) s) p (.list k xs)).H b = aJ s.H b := fun b hb => by
  rw [nC fun hm => hb (RD _ hm)];show aJ (fy (fb p k xs) s.H) b = _;rw [dW];cases dC : aJ s.H b with
  | none => rfl
  | some cs =>
    simp only [cX,ah];refine acF fun hm => hb ?_;have := gP (k := 0) dC hm;exact PG _ (by simpa using this)
 refine ⟨fun q => q = p,⟨fun i hi _ => ?_,fun i hi => ?_,fun i h1 h2 => ?_,fun l hl b hb => ?_,fun i hi => ⟨fun q hq e => ?_,fun e => ?_,fun j e => ?_⟩,fun l hl b hb m8 cs dC => ⟨fun q hq e => ?_,fun _ j e => ?_⟩,fun d u hd kc _ hu => ?_⟩⟩
 ·obtain ⟨h1,h2⟩ := iA hi;exact uy i h1 h2
 ·obtain ⟨h1,h2⟩ := iA hi;rw [uy i h1 h2]
 ·exact uy i (by rw [h2]; simp) fun hi => by rw [pz i hi] at h1; cases h1
 ·cases hl;exact ahc b hb
 ·subst e;exact (iA hi).1 hq
 ·subst e;exact (iA hi).2 (by simp [rootOf])
 ·subst e;exact (iA hi).2 (by simp [rootOf])
 ·subst e;cases hl;have := gP (k := 0) dC hq;exact hb (PG _ (by simpa using this))
 ·subst e;cases hl;exact hb (RD _ (by simp [jF]))
 ·obtain ⟨hd3,hd4⟩ := iA kc
  let t0 : St := ND ⟨put s.env d u,s.H⟩
  have B5 : dL t0 ⟨put s.env d u,s.H⟩ := (lR _).symm;have hg : ∀ i,get t0.env i = if i = d then u else get s.env i := fun i => by rw [kf,bu]
  have own : az t0 p = az s p := by rw [<- B5.own p]; exact kz hd4
  have GB : p ∉ aN u := fun hm => hu p hm rfl;refine ⟨t0,setAt (bP (fb p k xs) t0) p (.list k xs),jo p t0.env,B5,ze t0 (fun i hi => by rw [hg,if_neg]; intro e; subst e; exact hd hi) (own.trans hp),fun i hi => ?_,?_⟩
  ·obtain ⟨_,h2⟩ := u7 hi;have : get (put s.env d u) i = get t0.env i := (kf ⟨put s.env d u,s.H⟩ i).symm;simp only [this,hg] at h2;rcases h2 with h2 | h2
   ·split at h2
    ·exact absurd (my.1 h2) GB
    ·exact jd (.inl h2)
   ·exact pq i (kG.1 h2)
  ·have h5 : dL (bP (fb p k xs) t0) ⟨put (bP (fb p k xs) s).env d u,(bP (fb p k xs) s).H⟩ := ⟨fun i => by
    show get (ji (fb p k xs) t0.env) i = get (put (ji (fb p k xs) s.env) d u) i;rw [dt,hg,bu,dt];split
    ·exact aaz GB
    ·rfl,rfl⟩
   exact (wx h5 p (.list k xs)).trans (nB hd4)
theorem abe {s s1 : St} {kd : Kd} {v : AV} {sl : List Nat} {bs : Option (List Nat)} (im : ∀ t,ft c call t kd = dE c call kd t) (hi : mw c s kd = none) (hl : lq c call s kd = none) (hmv : pP c call s kd = none) (h : eh c call kd s = some (v,s1,.wr sl bs)) : ∃ V,sU c call s kd v s1 sl bs V := by
 unfold eh at h;split at h
 ·cases h
 rename_i f args ha;split at h
 ·cases h
 rename_i md q hf;split at h
 ·rename_i hm;split at h
  ·cases h
  split at h
  case h_2 => cases h
  split at h
  case isFalse => cases h
  simp only [ah,aF] at h;obtain ⟨_,_,h⟩ := h;split at h <;> cases h
 rename_i hm;split at h
 ·cases h
 rename_i f1 mC KF;split at h
 case isFalse => cases h
 rename_i hff;split at h
 ·rename_i jv;split at h
  case isFalse => cases h
  rename_i hp;split at h
  case h_2 => cases h
  rename_i r H' hc;split at h
  case isFalse => cases h
  rename_i hr;simp only [ah,aF] at h;obtain ⟨rfl,rfl,h⟩ := h
  have he : df args = [] := by
   cases hb : df args with
   | nil => rfl
   | cons x y => simp [hb] at h
  rw [he] at h KF hp hc;simp only [dV] at KF hp hc;simp at h;obtain ⟨rfl,rfl⟩ := h
  have off : ∀ l,Ak (oF mC) (ja (oF mC) 0 s.H H') = some l -> ∀ b,b ∉ l -> aJ H' b = aJ s.H b /\ (b + kA ∉ l -> ∀ cs,aJ s.H b = some cs -> bJ cs = false /\ df cs = []) := by
   intro l hl b hb;cases ho : ja (oF mC) 0 s.H H' with
   | none => rw [ho] at hl; cases hl
   | some r =>
     rw [ho] at hl;have hl : some (oF mC ++ r) = some l := hl;cases hl;have m8 := cT hb;have := yU ho b (by simpa using m8.1);refine ⟨this.1,fun h2 => this.2 ?_⟩;have := (cT h2).2;simpa using this
  refine ⟨fun p => bp p = false,⟨fun i hi _ => ?_,fun i hi => ?_,fun i h1 h2 => ?_,fun l hl b hb => ?_,fun i hi => ⟨fun p hp => ?_,by simp [bp],fun j => by simp [bp]⟩,fun l hl b hb m8 cs dC => ?_,fun d u hd kc _ hu => ?_⟩⟩
  ·simp only [he,dV,dt];refine CG (AE ?_);cases hh : bU (aN (get s.env i)) with
   | false => rfl
   | true => exact absurd (qh hh) hi
  ·simp only [he,dV,dt];rw [CG (AE ?_)];cases hh : bU (aN (get s.env i)) with
   | false => rfl
   | true => exact absurd (qh hh) hi
  ·simp only [he,dV,dt];exact CG fun p hp => by rw [h2] at hp; simp at hp
  ·exact (off l hl b hb).1
  ·have : bU (aN (get s.env i)) = false := by
    cases hh : bU (aN (get s.env i)) with
    | false => rfl
    | true => exact absurd (qh hh) hi
   rw [AE this p hp]; simp
  ·obtain ⟨o1,o2⟩ := (off l hl b hb).2 m8 cs dC;exact ⟨fun p hp => (by rw [o2] at hp; cases hp),fun ho => (by rw [o1] at ho; cases ho)⟩
  ·let t0 : St := ND ⟨put s.env d u,s.H⟩
   have hg : ∀ i,get t0.env i = if i = d then u else get s.env i := fun i => by rw [kf,bu]
   have hH : t0.H = s.H := rfl
   have hrd : ∀ i ∈ kd.reads,get t0.env i = get s.env i := fun i hi => by
    rw [hg,if_neg]; intro e; subst e; exact hd hi
   refine ⟨t0,⟨ji fi t0.env,H'⟩,bZ t0.env,(lR _).symm,?_,fun i hi => ?_,?_,rfl⟩
   ·rw [im];unfold dE;rw [vu hi,Au hl];simp only [fR,Aq hmv];apply oP;unfold eh;rw [hZ (e1 := t0.env) (e2 := s.env) fun i hi => by rw [hrd i hi],ha];simp only [hf,hm,he,dV,bW,if_false];rw [hZ (e1 := t0.env) (e2 := s.env) fun i hi => by rw [hrd i hi],KF];simp only [hff,if_true,jv,hH,hp,hc,hr];simp
    first
     | done
     | rfl
     | (congr 1)
   ·obtain ⟨_,h2⟩ := Hj hi;have : get (put s.env d u) i = get t0.env i := (kf ⟨put s.env d u,s.H⟩ i).symm;simp only [this,hg] at h2;split at h2
    ·rename_i e;subst e;obtain ⟨p,hp,hn⟩ := AF.1 h2;exact absurd hn (hu p hp)
    ·exact qh h2
   ·intro i;simp only [he,dV,dt,hg,bu];split
    ·refine CG fun p hp => ?_;have := hu p hp;simpa using this
    ·rfl
 ·rename_i jv;split at h
  case isFalse => cases h
  rename_i hp0;split at h
  case h_2 => cases h
  rename_i r H' hc;split at h
  case isFalse => cases h
  rename_i qO;simp only [ah,aF] at h;obtain ⟨rfl,rfl,h⟩ := h;split at h
  ·cases h
  unfold kX at h;split at h
  case h_2 => cases h
  rename_i p hbr;split at h
  case h_2 => cases h
  rename_i y hp;obtain ⟨k,xs⟩ := y;simp only [Fq.wr.injEq] at h;obtain ⟨rfl,rfl⟩ := h
  have AP : ∀ t : St,az t p = some (k,xs) -> dV (df args) t = setAt (bP (fb p k xs) t) p (.list k xs) := fun t ht => by
   rw [hbr];simp only [dV,Fw,ht]
  rw [AP s hp];refine WV hp fun t ht hpt => ?_;rw [im];unfold dE;rw [vu hi,Au hl];simp only [fR,Aq hmv];apply oP;unfold eh;rw [hZ (e1 := t.env) (e2 := s.env) fun i hi => by rw [ht i hi],ha];simp only [hf,hm,bW,if_false];rw [AP t hpt];rw [AP s hp] at KF
  have hk : getArgs c (setAt (bP (fb p k xs) t) p (.list k xs)).env kd = some (f1,mC) := by
   rw [<- KF];refine hZ fun i hi => ?_
   have e0 : get (bP (fb p k xs) t).env i = get (bP (fb p k xs) s).env i := by
    show get (ji (fb p k xs) t.env) i = get (ji (fb p k xs) s.env) i;rw [dt,dt,ht i hi]
   have e1 : get (setAt (bP (fb p k xs) t) p (.list k xs)).env i = get (setAt (bP (fb p k xs) s) p (.list k xs)).env i := by
    by_cases hr : i ∈ rootOf p
    ·cases p with
     | s i0 =>
       simp [rootOf] at hr; subst hr;simp only [setAt];rw [bu,bu,if_pos rfl,if_pos rfl]
     | sc i0 j =>
       simp [rootOf] at hr; subst hr;simp only [setAt,e0];split
       ·rw [bu,bu,if_pos rfl,if_pos rfl]
       ·exact e0
     | c b j => simp [rootOf] at hr
    ·rw [fx hr,fx hr]; exact e0
   rw [e1]
  rw [hk];simp only [hff,if_true,jv,bW,if_false,hp0,hc,qO];simp [hbr,kX,hpt]
theorem UM {s s1 : St} {k n : Nat} {zs : List AV} {ps : List (Nat × Nat × E)} {v : AV} {sl : List Nat} {bs : Option (List Nat)} (h : ft c call s (.eE k n zs ps) = some (v,s1,.wr sl bs)) : ∃ V,sU c call s (.eE k n zs ps) v s1 sl bs V := by
 simp only [ft] at h;split at h
 case h_2 => cases h
 rename_i cs hc;split at h
 case isFalse => cases h
 rename_i hz;simp only [ah,aF] at h;obtain ⟨rfl,rfl,h⟩ := h;split at h
 ·cases h
 unfold kX at h;split at h
 case h_2 => cases h
 rename_i p hbr;split at h
 case h_2 => cases h
 rename_i y hp;obtain ⟨k',xs⟩ := y;simp only [Fq.wr.injEq] at h;obtain ⟨rfl,rfl⟩ := h
 have AP : ∀ t : St,az t p = some (k',xs) -> dV (gj c s.env ps) t = setAt (bP (fb p k' xs) t) p (.list k' xs) := fun t ht => by
  rw [hbr];simp only [dV,Fw,ht]
 rw [AP s hp] at hc ⊢;refine WV hp fun t ht hpt => ?_;have hpb : gj c t.env ps = gj c s.env ps := oH fun i hi => by rw [ht i hi]
 have hk : nf c (setAt (bP (fb p k' xs) t) p (.list k' xs)).env (rep zs n) ps = some cs := by
  rw [<- hc];refine pB fun i hi => ?_
  have e0 : get (bP (fb p k' xs) t).env i = get (bP (fb p k' xs) s).env i := by
   show get (ji (fb p k' xs) t.env) i = get (ji (fb p k' xs) s.env) i;rw [dt,dt,ht i hi]
  have e1 : get (setAt (bP (fb p k' xs) t) p (.list k' xs)).env i = get (setAt (bP (fb p k' xs) s) p (.list k' xs)).env i := by
   by_cases hr : i ∈ rootOf p
   ·cases p with
    | s i0 =>
      simp [rootOf] at hr; subst hr;simp only [setAt];rw [bu,bu,if_pos rfl,if_pos rfl]
    | sc i0 j =>
      simp [rootOf] at hr; subst hr;simp only [setAt,e0];split
      ·rw [bu,bu,if_pos rfl,if_pos rfl]
      ·exact e0
    | c b j => simp [rootOf] at hr
   ·rw [fx hr,fx hr]; exact e0
  rw [e1]
 simp only [ft,hpb,AP t hpt,hk,hz,if_true];simp [hbr,kX,hpt]
theorem xP {b off k : Nat} : ∀ {s : St} {v : AV},Gl (dh b off k) s v = false -> (∀ i,∀ p ∈ aN (get s.env i),dh b off k p = false) /\ (∀ d cs,aJ s.H d = some cs -> ∀ p ∈ df cs,dh b off k p = false) /\ ∀ p ∈ aN v,dh b off k p = false := by
 intro s v h;simp only [Gl,eO] at h;obtain ⟨h1,h2,h3⟩ := h;refine ⟨fun i p hp => ?_,fun d cs hb => Gh h3 hb,fun p hp => ?_⟩
 ·cases hh : dh b off k p with
  | false => rfl
  | true => rw [Pj (i := i) (qM.2 ⟨p,hp,hh⟩)] at h2; cases h2
 ·cases hh : dh b off k p with
  | false => rfl
  | true => rw [qM.2 ⟨p,hp,hh⟩] at h1; cases h1
theorem acv {p : Rt} {b : Nat} (h : lC b (Uc p) = false) : b ∉ jF p := by
 cases p with
 | s i => simp [jF]
 | sc i j => simp [jF]
 | c d j =>
   have := (jG h).2 99999;simp only [Uc,jF,cV] at this ⊢;intro e;subst e;exact this rfl
theorem o9.CP {b j : Nat} {s t : St} (h : ∀ cs,aJ s.H b = some cs -> ∃ ds,aJ t.H b = some ds /\ ds[j]? = cs[j]?) : o9 b j s t := fun cs hc => by
 obtain ⟨ds,a,e⟩ := h cs hc;exact ⟨ds,a,rq _ e⟩
theorem PU {s : St} {p : Rt} {k : Nat} {xs xs' : List AV} (hp : az s p = some (k,xs)) (hl : xs'.length = xs.length) (b j : Nat) : o9 b j s (setAt s p (.own k xs')) /\ o9 b j (setAt s p (.own k xs')) s := by
 cases p with
 | s i => exact ⟨.of_eq rfl,.of_eq rfl⟩
 | sc i l =>
   have e : (setAt s (.sc i l) (.own k xs')).H = s.H := by simp only [setAt]; split <;> rfl
   exact ⟨.of_eq (by rw [e]),.of_eq (by rw [e])⟩
 | c d l =>
   have h1 := cH.1 hp;simp only [at_] at h1;split at h1
   case h_2 => cases h1
   rename_i cs dC;have e : (setAt s (.c d l) (.own k xs')).H = s.H.set d (some (cs.set l (.own k xs'))) := by simp only [setAt,dC]
   have hb : ∀ c,aJ (setAt s (.c d l) (.own k xs')).H c = if c = d then some (cs.set l (.own k xs')) else aJ s.H c := fun c => by
    rw [e,dO];by_cases q : c = d
    ·rw [if_pos ⟨q,by subst q; exact eL dC⟩,if_pos q]
    ·rw [if_neg (fun h => q h.1),if_neg q]
   by_cases q : b = d
   ·subst q;have lc := Aw (f := fun i => Rt.c b i) (j := 0) h1 hl;refine ⟨fun ds kc => ⟨_,by rw [hb,if_pos rfl],?_⟩,fun ds kc => ⟨cs,dC,?_⟩⟩
    ·rw [dC] at kc; cases kc;exact congrArg (·[j]?) lc
    ·rw [hb,if_pos rfl] at kc; cases kc;exact (congrArg (·[j]?) lc).symm
   ·exact ⟨.of_eq (by rw [hb,if_neg q]),.of_eq (by rw [hb,if_neg q])⟩
theorem ahE {s s1 : St} {k : Nat} {x y : E} {v : AV} {sl : List Nat} {bs : Option (List Nat)} (h : ft c call s (.st k x y) = some (v,s1,.wr sl bs)) : ∃ V,Rq c call s (.st k x y) v s1 sl bs V := by
 have hcg : ∀ {d : Nat} {u : AV} {e : Env},(∀ i,get e i = if i = d then u else get s.env i) -> d ∉ (Kd.st k x y).reads -> bn c e x = bn c s.env x /\ bn c e y = bn c s.env y := by
  intro d u e he hd;simp only [Kd.reads,aC,not_or] at hd;exact ⟨b9 fun i hi => by rw [he,if_neg]; intro e; subst e; exact hd.1 hi,b9 fun i hi => by rw [he,if_neg]; intro e; subst e; exact hd.2 hi⟩
 have GC : ∀ {d : Nat} {u : AV},∀ i,get (put s.env d u) i = if i = d then u else get s.env i := fun i => bu _ _ _ _;simp only [ft] at h;split at h
 ·rename_i k' p i off hx;split at h
  case h_2 => cases h
  rename_i s2 f hh;simp only [ah,aF] at h;obtain ⟨rfl,rfl,h⟩ := h
  have he : aN (bn c s.env y) = [] := by
   cases hb : aN (bn c s.env y) with
   | nil => rfl
   | cons a b => rw [hb] at h; simp at h
  rw [he] at h hh;simp at h;subst h;rw [show dV [] s = s from rfl,hx] at hh;simp only [Ps] at hh;split at hh
  case h_2 => cases hh
  rename_i k2 xs hp;split at hh
  case isFalse => cases hh
  rename_i hk;split at hh
  case h_2 => cases hh
  rename_i z hz;by_cases hc : (bn c s.env y).cells.length = k /\ off + k <= k' /\ Q1 (bn c s.env y).cells = true
  case neg => rw [if_neg hc] at hh; cases hh
  rw [if_pos hc] at hh;simp only [ah,aF,Fq.wr.injEq] at hh;obtain ⟨rfl,rfl,rfl⟩ := hh;have pz := qt hp;refine ⟨fun _ => False,⟨fun i _ hi => fx fun hm => hi (qz.2 hm),fun i _ => PV (hk ▸ hp) (dw ..) i,(fun i h1 h2 => fx fun hi => by rw [pz i hi] at h1; cases h1),fun l hl b hb => (by cases hl; exact nC (acv hb)),fun l hl b j hb hbj => (by cases hl; exact PU (hk ▸ hp) (dw ..) b j),fun i hi => ⟨fun _ _ => id,id,fun _ => id⟩,fun l hl b hb m8 cs dC => ⟨fun _ _ => id,fun _ _ => id⟩,fun l hl b j _ _ _ cs c0 _ _ => ⟨fun _ _ => id,fun _ _ _ => id⟩,fun d u hd _ hds0 hu => ?_⟩⟩;have kc : d ∉ rootOf p := fun hm => hds0 (qz.2 hm);obtain ⟨e1,e2⟩ := hcg (GC (d := d) (u := u)) hd;refine ⟨⟨put s.env d u,s.H⟩,_,marks (rootOf p),dL.rfl',?_,fun i hi => hi,nB kc⟩;simp only [ft,e1,hx,e2,he];rw [show dV [] ⟨put s.env d u,s.H⟩ = (⟨put s.env d u,s.H⟩ : St) from rfl,e1,hx,e2];simp only [Ps,kz kc,hp,hk,if_true,hz];rw [if_pos hc];simp
 ·rename_i hnp;split at h
  case h_2 => cases h
  rename_i s2 f hh;simp only [ah,aF] at h;obtain ⟨rfl,rfl,rfl⟩ := h;unfold Ps at hh;split at hh
  ·rename_i b off hx;unfold vQ at hh;split at hh
   case h_2 => cases hh
   rename_i cs hb;split at hh
   case isFalse => cases hh
   rename_i hc;split at hh
   ·split at hh
    ·split at hh <;> simp at hh
    ·cases hh
   ·rename_i OI;simp only [ah,aF,Fq.wr.injEq] at hh;obtain ⟨rfl,rfl,rfl⟩ := hh
    have Ud : bJ ((cs.drop off).take k) = true -> Gl (dh b off k) s (bn c s.env y) = false := fun ho => by
     rw [ho] at OI; simpa using OI
    apply sU.up;refine ⟨fun p => bJ ((cs.drop off).take k) = true /\ dh b off k p = true,⟨fun i hi _ => rfl,fun i hi => rfl,fun i h1 h2 => rfl,fun l hl d hd => ?_,fun i hi => ⟨fun p hp hV => ?_,fun hV => by simp [dh] at hV,fun j hV => by simp [dh] at hV⟩,fun l hl d hd AQ ds kc => ⟨fun p hp hV => ?_,fun _ j hV => ?_⟩,fun d u hd kc _ hu => ?_⟩⟩
    ·cases hl;have : d ≠ b := by simpa using hd
     show aJ (s.H.set b _) d = aJ s.H d;rw [dO,if_neg (fun e => this e.1)]
    ·rw [(xP (Ud hV.1)).1 i p hp] at hV; cases hV.2
    ·rw [(xP (Ud hV.1)).2.1 d ds kc p hp] at hV; cases hV.2
    ·cases hl;have : d ≠ b := by simpa using hd
     simp [dh,this] at hV
    ·let t0 : St := ND ⟨put s.env d u,s.H⟩
     have hg : ∀ i,get t0.env i = if i = d then u else get s.env i := fun i => by rw [kf,bu]
     have hH : t0.H = s.H := rfl;obtain ⟨e1,e2⟩ := hcg hg hd;refine ⟨t0,⟨t0.env,s.H.set b (some (iZ cs off (bn c s.env y).cells))⟩,[],(lR _).symm,?_,fun i hi => hi,(lR _).symm.1,rfl⟩
     have aiv : (bJ ((cs.drop off).take k) && Gl (dh b off k) t0 (bn c s.env y)) = false := by
      cases ho : bJ ((cs.drop off).take k) with
      | false => rfl
      | true =>
        obtain ⟨n1,n2,n3⟩ := xP (Ud ho)
        have nR : ∀ {l : List Rt},(∀ p ∈ l,dh b off k p = false) -> uL (dh b off k) l = false := by
         intro l hl;cases hh : uL (dh b off k) l with
         | false => rfl
         | true => obtain ⟨p,hp,hq⟩ := qM.1 hh; rw [hl p hp] at hq; cases hq
        have h0 := Ud ho;simp only [Gl,eO] at h0;simp only [Gl,Bool.true_and,eO];refine ⟨h0.1,?_,by rw [hH]; exact h0.2.2⟩;cases hh : Gk (dh b off k) t0.env with
        | false => rfl
        | true =>
          obtain ⟨i,_,h2⟩ := Gj hh;have : get (put s.env d u) i = get t0.env i := (kf ⟨put s.env d u,s.H⟩ i).symm;simp only [this,hg] at h2;split at h2
          ·obtain ⟨p,hp,hq⟩ := qM.1 h2;exact absurd ⟨ho,hq⟩ (hu p hp)
          ·rw [nR (n1 i)] at h2; cases h2
     simp only [ft,e1,hx,e2,Ps,vQ,hH,hb];rw [if_pos hc];simp only [aiv,bW,if_false]
  ·rename_i k2 p2 i2 off2 e1;exact absurd e1 (hnp k2 p2 i2 off2)
  ·cases hh
theorem wz {q : Rt} : ∀ {l : List Rt},q ∈ l -> ∀ i ∈ rootOf q,i ∈ pM l
 | [],h,i,_ => by simp at h
 | r :: l,h,i,hi => by
   simp only [pM,aC];rcases aU.1 h with e | e
   ·subst e; exact .inl hi
   ·exact .inr (wz e i hi)
theorem aaK {s t : St} {k : Nat} {x : AV} (h : ∀ p ∈ aN x,az t p = az s p) : cont t k x = cont s k x := by
 cases x <;> try rfl
 case dA k' p off len => simp only [cont]; rw [h p (by simp [aN])]
 case own k' xs => cases xs <;> rfl
theorem I9 {p : Rt} {x : AV} (h : p ∉ aN x) : cU (sw p) x = x := yY x fun k q o l hq => by
 have : q ≠ p := fun e => h (e ▸ hq);simp [sw,this]
theorem uZ {p : Rt} {x : List AV} (h : p ∉ df x) : dp (sw p) x = x := lU x fun k q o l hq => by
 have : q ≠ p := fun e => h (e ▸ hq);simp [sw,this]
theorem rK {p : Rt} {b : Nat} {m : List Nat} (h : lC b (cellOf p ++ m) = false) : b ∉ jF p := by
 intro hb;cases p with
 | s i => simp [jF] at hb
 | sc i j => simp [jF] at hb
 | c d j =>
   simp [jF] at hb;subst hb;exact (jG h).2 j (by simp [cellOf])
theorem ae0 {s s1 : St} {k : Nat} {x y : E} {v : AV} {sl : List Nat} {bs : Option (List Nat)} (h : ft c call s (.app k x y) = some (v,s1,.wr sl bs)) : ∃ V,Rq c call s (.app k x y) v s1 sl bs V := by
 simp only [ft] at h;split at h
 case h_2 => cases h
 rename_i ys hy;split at h
 case isFalse => cases h
 rename_i hl;split at h
 ·split at h <;> simp at h
 case h_3 => cases h
 rename_i k' p len hx;split at h
 case h_2 => cases h
 rename_i k2 xs hp;split at h
 case isFalse => cases h
 rename_i hc;simp only [ah,aF,Fq.wr.injEq] at h;obtain ⟨rfl,rfl,rfl,rfl⟩ := h;have pz := qt hp;have pq : ∀ i ∈ rootOf p,i ∈ jo p s.env := fun i hi => jd (.inr ⟨kG.2 hi,fun e => by have := pz i hi; rw [e] at this; cases this⟩);have iA : ∀ {i : Nat},i ∉ jo p s.env -> p ∉ aN (get s.env i) /\ i ∉ rootOf p := fun {i} hi => ⟨fun e => hi (jd (.inl (my.2 e))),fun e => hi (pq i e)⟩
 have uy : ∀ i,p ∉ aN (get s.env i) -> i ∉ rootOf p -> get (setAt (bP (sw p) s) p .any).env i = get s.env i := fun i h1 h2 => by
  rw [fx h2];show get (ji (sw p) s.env) i = _;rw [dt,I9 h1]
 refine ⟨fun q => q = p,⟨fun i hi _ => ?_,fun i hi => ?_,fun i h1 h2 => ?_,fun l hl b hb => ?_,fun l hl b j hb hbj => ?_,fun i hi => ⟨fun q hq e => ?_,fun e => ?_,fun j e => ?_⟩,fun l hl b hb m8 cs dC => ⟨fun q hq e => ?_,fun _ j e => ?_⟩,fun l hl b j hb m8 hbj cs c0 dC AR => ⟨fun q hq e => ?_,fun k0 xs0 e0 e => ?_⟩,fun d u hd kc hds2 hu => ?_⟩⟩
 ·obtain ⟨h1,h2⟩ := iA (cT hi).1;exact uy i h1 h2
 ·obtain ⟨h1,h2⟩ := iA (cT hi).1;rw [uy i h1 h2]
 ·exact uy i (by rw [h2]; simp) fun hi => by rw [pz i hi] at h1; cases h1
 ·cases hl;have pg : b ∉ jF p := rK hb;have m8 := (cT (jG hb).1).2;rw [nC pg];show aJ (fy (sw p) s.H) b = _;rw [dW];cases dC : aJ s.H b with
  | none => rfl
  | some cs =>
    simp only [cX,ah];refine uZ fun hm => m8 ?_;have := gP (k := 0) dC hm;simpa using this
 ·cases hl;obtain ⟨pg,m8⟩ := cT hb;obtain ⟨VT,_⟩ := cT hbj
  have hsw : ∀ cs,aJ s.H b = some cs -> dp (sw p) cs = cs := fun cs dC => uZ fun hm => m8 (by
   have := gP (k := 0) dC hm;simpa using this)
  have hn : aJ s.H b = none -> aJ (setAt (bP (sw p) s) p .any).H b = none := fun hn => by
   cases p with
   | s i => show aJ (fy (sw _) s.H) b = none; rw [dW,hn]; rfl
   | sc i l =>
     simp only [setAt];split <;> (show aJ (fy (sw _) s.H) b = none; rw [dW,hn]; rfl)
   | c d l =>
     simp only [setAt];split
     ·rename_i cs dC;have hcs' : aJ (fy (sw (.c d l)) s.H) d = some cs := dC;show aJ ((fy (sw (.c d l)) s.H).set d _) b = none;rw [dO];by_cases e : b = d
      ·subst e; rw [dW,hn] at hcs'; cases hcs'
      ·rw [if_neg (fun h => e h.1),dW,hn]; rfl
     ·show aJ (fy (sw _) s.H) b = none; rw [dW,hn]; rfl
  have hs : ∀ cs,aJ s.H b = some cs -> ∃ ds,aJ (setAt (bP (sw p) s) p .any).H b = some ds /\ ds[j]? = cs[j]? := fun cs dC => by
   have hm : aJ (fy (sw p) s.H) b = some cs := by rw [dW,dC,cX,hsw cs dC]
   cases p with
   | s i => exact ⟨cs,hm,rfl⟩
   | sc i l =>
     simp only [setAt];split <;> exact ⟨cs,hm,rfl⟩
   | c d l =>
     simp only [setAt];split
     ·rename_i es Cw;have hes' : aJ (fy (sw (.c d l)) s.H) d = some es := Cw;show ∃ ds,aJ ((fy (sw (.c d l)) s.H).set d _) b = some ds /\ _;rw [dO];by_cases e : b = d
      ·subst e;rw [hm] at hes';cases hes';refine ⟨cs.set l .any,by rw [if_pos ⟨rfl,eL hm⟩],?_⟩;rw [cP];intro e2;subst e2;exact VT (by simp [cellOf])
      ·rw [if_neg (fun h => e h.1)];exact ⟨cs,hm,rfl⟩
     ·exact ⟨cs,hm,rfl⟩
  refine ⟨.CP hs,.CP fun ds kc => ?_⟩;cases dC : aJ s.H b with
  | none => rw [hn dC] at kc; cases kc
  | some cs =>
    obtain ⟨ds',h1,h2⟩ := hs cs dC;rw [h1] at kc;cases kc;exact ⟨cs,rfl,h2.symm⟩
 ·subst e;exact (iA (cT hi).1).1 hq
 ·subst e;exact (iA (cT hi).1).2 (by simp [rootOf])
 ·subst e;exact (iA (cT hi).1).2 (by simp [rootOf])
 ·subst e;cases hl;obtain ⟨pg,m8⟩ := cT (jG hb).1;have := gP (k := 0) dC hq;exact m8 (by simpa using this)
 ·subst e;cases hl;exact rK hb (by simp [jF])
 ·subst e;cases hl;obtain ⟨pg,m8⟩ := cT hb;have := gP (k := 0) dC (fJ.2 ⟨c0,aR AR,hq⟩);exact m8 (by simpa using this)
 ·subst e;cases hl;exact (cT hbj).1 (by simp [cellOf])
 ·have VX := (cT kc).1;have AQ : d ∉ pM (aN (bn c s.env y)) := fun hm => (cT hds2).2 (qz.2 hm);obtain ⟨hd3,hd4⟩ := iA VX
  let t0 : St := ND ⟨put s.env d u,s.H⟩
  have B5 : dL t0 ⟨put s.env d u,s.H⟩ := (lR _).symm;have hg : ∀ i,get t0.env i = if i = d then u else get s.env i := fun i => by rw [kf,bu]
  have hH : t0.H = s.H := rfl;simp only [Kd.reads,aC,not_or] at hd;have e1 : bn c t0.env x = bn c s.env x := b9 fun i hi => by rw [hg,if_neg]; intro e; subst e; exact hd.1 hi
  have e2 : bn c t0.env y = bn c s.env y := b9 fun i hi => by rw [hg,if_neg]; intro e; subst e; exact hd.2 hi
  have own : ∀ q,d ∉ rootOf q -> az t0 q = az s q := fun q hq => by rw [<- B5.own q]; exact kz hq
  have e3 : cont t0 k (bn c s.env y) = cont s k (bn c s.env y) := aaK fun q hq => own q fun hr => AQ (wz hq d hr);have GB : p ∉ aN u := fun hm => hu p hm rfl;refine ⟨t0,setAt (bP (sw p) t0) p .any,jo p t0.env ++ marks (pM (aN (bn c s.env y))),B5,?_,fun i hi => ?_,?_⟩
  ·simp only [ft,e1,e2,e3,hy,hl,if_true,hx,own p hd4,hp];rw [if_pos hc];rfl
  ·rcases aC.1 hi with hi | hi
   ·obtain ⟨_,h2⟩ := u7 hi;have : get (put s.env d u) i = get t0.env i := (kf ⟨put s.env d u,s.H⟩ i).symm;simp only [this,hg] at h2;refine aC.2 (.inl ?_);rcases h2 with h2 | h2
    ·split at h2
     ·exact absurd (my.1 h2) GB
     ·exact jd (.inl h2)
    ·exact pq i (kG.1 h2)
   ·exact aC.2 (.inr hi)
  ·have h5 : dL (bP (sw p) t0) ⟨put (bP (sw p) s).env d u,(bP (sw p) s).H⟩ := ⟨fun i => by
    show get (ji (sw p) t0.env) i = get (put (ji (sw p) s.env) d u) i;rw [dt,hg,bu,dt];split
    ·exact I9 GB
    ·rfl,rfl⟩
   exact (wx h5 p .any).trans (nB hd4)
theorem Q4 {s t : St} {p : Rt} {x : AV} (hn : GU x = false) (h : ∀ q ∈ aN x,az t q = az s q) : OY t p x = OY s p x := by
 have e : ∀ u : St,OY u p x = FI u p x := fun u => by cases x <;> first | rfl | (simp [GU] at hn; done)
 rw [e,e];clear e hn;unfold FI;split
 ·rfl
 ·rename_i k q off len;rw [h q (by simp [aN])]
 ·rfl
theorem FH {s t : St} {p : Rt} : ∀ {xs : List AV},Ph xs = false -> (∀ q ∈ df xs,az t q = az s q) -> Cz t p xs = Cz s p xs
 | [],_,_ => rfl
 | x :: r,hn,h => by
   simp only [df,aC] at h;simp only [Ph,eO] at hn;unfold Cz;rw [Q4 hn.1 fun q hq => h q (.inl hq),FH hn.2 fun q hq => h q (.inr hq)]
theorem aeZ {s s1 : St} {f : Nat} {x : E} {es : List E} {g : Nat -> List AV -> List AV -> Option (List AV)} {v : AV} {sl : List Nat} {bs : Option (List Nat)} (hi : c.inp f = none) (Ib : c.eat f = some g) (h : G5 s g (bn c s.env x) (dq c s.env es) = some (v,s1,.wr sl bs)) : ∃ V,Rq c call s (.call f (x :: es)) v s1 sl bs V := by
 unfold G5 at h;split at h
 case h_2 => cases h
 rename_i k p len hx;split at h
 case h_2 => cases h
 rename_i k' xs hp;split at h
 case isFalse => cases h
 rename_i hc;split at h
 case h_2 => cases h
 rename_i es' Cw;split at h
 case h_2 => cases h
 rename_i ys B8;simp only [ah,aF] at h;obtain ⟨rfl,rfl,h⟩ := h;split at h
 ·cases h
 rename_i hnf;rw [Bool.not_eq_true] at hnf;simp only [Fq.wr.injEq] at h;obtain ⟨rfl,rfl⟩ := h;have pz := qt hp;have pq : ∀ i ∈ rootOf p,i ∈ jo p s.env := fun i hi => jd (.inr ⟨kG.2 hi,fun e => by have := pz i hi; rw [e] at this; cases this⟩);have iA : ∀ {i : Nat},i ∉ jo p s.env -> p ∉ aN (get s.env i) /\ i ∉ rootOf p := fun {i} hi => ⟨fun e => hi (jd (.inl (my.2 e))),fun e => hi (pq i e)⟩
 have uy : ∀ i,p ∉ aN (get s.env i) -> i ∉ rootOf p -> get (setAt (bP (sw p) s) p .any).env i = get s.env i := fun i h1 h2 => by
  rw [fx h2];show get (ji (sw p) s.env) i = _;rw [dt,I9 h1]
 refine ⟨fun q => q = p,⟨fun i hi _ => ?_,fun i hi => ?_,fun i h1 h2 => ?_,fun l hl b hb => ?_,fun l hl b j hb hbj => ?_,fun i hi => ⟨fun q hq e => ?_,fun e => ?_,fun j e => ?_⟩,fun l hl b hb m8 cs dC => ⟨fun q hq e => ?_,fun _ j e => ?_⟩,fun l hl b j hb m8 hbj cs c0 dC AR => ⟨fun q hq e => ?_,fun k0 xs0 e0 e => ?_⟩,fun d u hd kc hds2 hu => ?_⟩⟩
 ·obtain ⟨h1,h2⟩ := iA (cT hi).1;exact uy i h1 h2
 ·obtain ⟨h1,h2⟩ := iA (cT hi).1;rw [uy i h1 h2]
 ·exact uy i (by rw [h2]; simp) fun hi => by rw [pz i hi] at h1; cases h1
 ·cases hl;have pg : b ∉ jF p := rK hb;have m8 := (cT (jG hb).1).2;rw [nC pg];show aJ (fy (sw p) s.H) b = _;rw [dW];cases dC : aJ s.H b with
  | none => rfl
  | some cs =>
    simp only [cX,ah];refine uZ fun hm => m8 ?_;have := gP (k := 0) dC hm;simpa using this
 ·cases hl;obtain ⟨pg,m8⟩ := cT hb;obtain ⟨VT,_⟩ := cT hbj
  have hsw : ∀ cs,aJ s.H b = some cs -> dp (sw p) cs = cs := fun cs dC => uZ fun hm => m8 (by
   have := gP (k := 0) dC hm;simpa using this)
  have hn : aJ s.H b = none -> aJ (setAt (bP (sw p) s) p .any).H b = none := fun hn => by
   cases p with
   | s i => show aJ (fy (sw _) s.H) b = none; rw [dW,hn]; rfl
   | sc i l =>
     simp only [setAt];split <;> (show aJ (fy (sw _) s.H) b = none; rw [dW,hn]; rfl)
   | c d l =>
     simp only [setAt];split
     ·rename_i cs dC;have hcs' : aJ (fy (sw (.c d l)) s.H) d = some cs := dC;show aJ ((fy (sw (.c d l)) s.H).set d _) b = none;rw [dO];by_cases e : b = d
      ·subst e; rw [dW,hn] at hcs'; cases hcs'
      ·rw [if_neg (fun h => e h.1),dW,hn]; rfl
     ·show aJ (fy (sw _) s.H) b = none; rw [dW,hn]; rfl
  have hs : ∀ cs,aJ s.H b = some cs -> ∃ ds,aJ (setAt (bP (sw p) s) p .any).H b = some ds /\ ds[j]? = cs[j]? := fun cs dC => by
   have hm : aJ (fy (sw p) s.H) b = some cs := by rw [dW,dC,cX,hsw cs dC]
   cases p with
   | s i => exact ⟨cs,hm,rfl⟩
   | sc i l =>
     simp only [setAt];split <;> exact ⟨cs,hm,rfl⟩
   | c d l =>
     simp only [setAt];split
     ·rename_i es Cw;have hes' : aJ (fy (sw (.c d l)) s.H) d = some es := Cw;show ∃ ds,aJ ((fy (sw (.c d l)) s.H).set d _) b = some ds /\ _;rw [dO];by_cases e : b = d
      ·subst e;rw [hm] at hes';cases hes';refine ⟨cs.set l .any,by rw [if_pos ⟨rfl,eL hm⟩],?_⟩;rw [cP];intro e2;subst e2;exact VT (by simp [cellOf])
      ·rw [if_neg (fun h => e h.1)];exact ⟨cs,hm,rfl⟩
     ·exact ⟨cs,hm,rfl⟩
  refine ⟨.CP hs,.CP fun ds kc => ?_⟩;cases dC : aJ s.H b with
  | none => rw [hn dC] at kc; cases kc
  | some cs =>
    obtain ⟨ds',h1,h2⟩ := hs cs dC;rw [h1] at kc;cases kc;exact ⟨cs,rfl,h2.symm⟩
 ·subst e;exact (iA (cT hi).1).1 hq
 ·subst e;exact (iA (cT hi).1).2 (by simp [rootOf])
 ·subst e;exact (iA (cT hi).1).2 (by simp [rootOf])
 ·subst e;cases hl;obtain ⟨pg,m8⟩ := cT (jG hb).1;have := gP (k := 0) dC hq;exact m8 (by simpa using this)
 ·subst e;cases hl;exact rK hb (by simp [jF])
 ·subst e;cases hl;obtain ⟨pg,m8⟩ := cT hb;have := gP (k := 0) dC (fJ.2 ⟨c0,aR AR,hq⟩);exact m8 (by simpa using this)
 ·subst e;cases hl;exact (cT hbj).1 (by simp [cellOf])
 ·have VX := (cT kc).1;have AQ : d ∉ pM (df (dq c s.env es)) := fun hm => (cT hds2).2 (qz.2 hm);obtain ⟨hd3,hd4⟩ := iA VX
  let t0 : St := ND ⟨put s.env d u,s.H⟩
  have B5 : dL t0 ⟨put s.env d u,s.H⟩ := (lR _).symm;have hg : ∀ i,get t0.env i = if i = d then u else get s.env i := fun i => by rw [kf,bu]
  have hH : t0.H = s.H := rfl;simp only [Kd.reads,kP,aC,not_or] at hd;have e1 : bn c t0.env x = bn c s.env x := b9 fun i hi => by rw [hg,if_neg]; intro e; subst e; exact hd.1 hi
  have e2 : dq c t0.env es = dq c s.env es := fH fun i hi => by rw [hg,if_neg]; intro e; subst e; exact hd.2 hi
  have own : ∀ q,d ∉ rootOf q -> az t0 q = az s q := fun q hq => by rw [<- B5.own q]; exact kz hq
  have e3 : Cz t0 p (dq c s.env es) = Cz s p (dq c s.env es) := FH hnf fun q hq => own q fun hr => AQ (wz hq d hr);have GB : p ∉ aN u := fun hm => hu p hm rfl;refine ⟨t0,setAt (bP (sw p) t0) p .any,jo p t0.env ++ marks (pM (df (dq c s.env es))),B5,?_,fun i hi => ?_,?_⟩
  ·simp only [ft,dE,mw,hi,Ib,e1,e2,G5,hx,own p hd4,hp];rw [if_pos hc];simp only [e3,Cw,B8,hnf];rfl
  ·rcases aC.1 hi with hi | hi
   ·obtain ⟨_,h2⟩ := u7 hi;have : get (put s.env d u) i = get t0.env i := (kf ⟨put s.env d u,s.H⟩ i).symm;simp only [this,hg] at h2;refine aC.2 (.inl ?_);rcases h2 with h2 | h2
    ·split at h2
     ·exact absurd (my.1 h2) GB
     ·exact jd (.inl h2)
    ·exact pq i (kG.1 h2)
   ·exact aC.2 (.inr hi)
  ·have h5 : dL (bP (sw p) t0) ⟨put (bP (sw p) s).env d u,(bP (sw p) s).H⟩ := ⟨fun i => by
    show get (ji (sw p) t0.env) i = get (put (ji (sw p) s.env) d u) i;rw [dt,hg,bu,dt];split
    ·exact I9 GB
    ·rfl,rfl⟩
   exact (wx h5 p .any).trans (nB hd4)
theorem aeY {s s1 : St} {kd : Kd} {v : AV} {sl : List Nat} {bs : Option (List Nat)} (hni : ∀ f x es,kd = .call f (x :: es) -> c.inp f ≠ none) (im : ∀ t,ft c call t kd = dE c call kd t) (h : mw c s kd = some (some (v,s1,.wr sl bs))) : ∃ V,sU c call s kd v s1 sl bs V := by
 have h0 := h;unfold mw at h;split at h
 case h_2 => cases h
 rename_i f x es;split at h
 case h_1 =>
  rename_i Ld;exact absurd Ld (hni _ _ _ rfl)
 rename_i g Ib;simp only [ah] at h;split at h
 case h_4 => cases h
 case h_3 =>
  exfalso
  (repeat' split at h) <;> simp at h
 ·rename_i k hx;split at h
  case isFalse => cases h
  rename_i qO;split at h
  case h_2 => cases h
  rename_i ys res B8;simp only [ah,aF,Fq.wr.injEq] at h;obtain ⟨rfl,rfl,rfl,rfl⟩ := h;refine ⟨fun _ => False,⟨fun i hi _ => rfl,fun i hi => rfl,fun i h1 h2 => rfl,fun l hl b hb => rfl,fun i hi => ⟨fun _ _ => id,id,fun _ => id⟩,fun l hl b hb m8 cs dC => ⟨fun _ _ => id,fun _ _ => id⟩,fun d u hd kc _ hu => ?_⟩⟩;have GC : ∀ i,get (put s.env d u) i = if i = d then u else get s.env i := fun i => bu _ _ _ _;simp only [Kd.reads,kP,aC,not_or] at hd;have e1 : bn c (put s.env d u) x = bn c s.env x := b9 fun i hi => by rw [GC,if_neg]; intro e; subst e; exact hd.1 hi
  have e2 : dq c (put s.env d u) es = dq c s.env es := fH fun i hi => by rw [GC,if_neg]; intro e; subst e; exact hd.2 hi
  refine ⟨⟨put s.env d u,s.H⟩,⟨put s.env d u,s.H⟩,[],dL.rfl',?_,fun i hi => hi,dL.rfl'⟩;rw [im];unfold dE mw;simp only [Ib,e1,hx,e2];rw [if_pos qO];simp only [B8]
 rename_i k p len hx;split at h
 case h_2 => cases h
 rename_i k' xs hp;split at h
 case isFalse => cases h
 rename_i hc;split at h
 case h_2 => cases h
 rename_i ys res B8;simp only [ah,aF,Fq.wr.injEq] at h;obtain ⟨rfl,rfl,rfl,rfl⟩ := h;have pz := qt hp;refine ⟨fun _ => False,⟨fun i hi _ => fx hi,(fun i hi => by rw [fx hi]),(fun i h1 h2 => fx fun hi => by rw [pz i hi] at h1; cases h1),fun l hl b hb => (by cases hl; exact nC hb),fun i hi => ⟨fun _ _ => id,id,fun _ => id⟩,fun l hl b hb m8 cs dC => ⟨fun _ _ => id,fun _ _ => id⟩,fun d u hd kc _ hu => ?_⟩⟩;have GC : ∀ i,get (put s.env d u) i = if i = d then u else get s.env i := fun i => bu _ _ _ _;simp only [Kd.reads,kP,aC,not_or] at hd;have e1 : bn c (put s.env d u) x = bn c s.env x := b9 fun i hi => by rw [GC,if_neg]; intro e; subst e; exact hd.1 hi
 have e2 : dq c (put s.env d u) es = dq c s.env es := fH fun i hi => by rw [GC,if_neg]; intro e; subst e; exact hd.2 hi
 refine ⟨⟨put s.env d u,s.H⟩,_,rootOf p,dL.rfl',?_,fun i hi => hi,nB kc⟩;rw [im];unfold dE mw;simp only [Ib,e1,hx,kz kc,hp,e2];rw [if_pos hc];simp only [B8]
theorem abd {s s1 : St} {k : Nat} {x y : E} {v : AV} {sl : List Nat} {bs : Option (List Nat)} (h : ft c call s (.copy k x y) = some (v,s1,.wr sl bs)) : ∃ V,sU c call s (.copy k x y) v s1 sl bs V := by
 have im : ∀ t,ft c call t (.copy k x y) = match bn c t.env x with
   | .dA k' p off n => if n = 0 then (match cont t k (bn c t.env y) with
     | some ys => if k' = k /\ bq (aA ys) = true then some (.int .i64 0,t,.all) else none
     | none => none) else match az t p,cont t k (bn c t.env y) with
     | some (vp,xs),some ys => if k' = k /\ vp = k /\ off + n <= xs.length /\ bq (aA ys) = true then some (.int .i64 (min ys.length n : Nat),setAt t p (.own k (iZ xs off (ys.take (min ys.length n)))),O4 p (bn c t.env y)) else none
     | _,_ => none
   | _ => none := fun t => rfl
 rw [im] at h;split at h
 case h_2 => cases h
 rename_i k' p off n hx;split at h
 ·exfalso
  (repeat' split at h) <;> simp at h
 rename_i hn;split at h
 case h_2 => cases h
 rename_i vp xs ys hp hy;split at h
 case isFalse => cases h
 rename_i hc;simp only [ah,aF] at h;obtain ⟨rfl,rfl,hl⟩ := h;rcases uA p (bn c s.env y) with e | ⟨ky,oy,ly,ey,e⟩
 ·rw [e] at hl; cases hl
 rw [e] at hl;simp only [Fq.wr.injEq] at hl;obtain ⟨rfl,rfl⟩ := hl;have pz := qt hp;refine ⟨fun _ => False,⟨fun i hi _ => fx hi,(fun i hi => by rw [fx hi]),(fun i h1 h2 => fx fun hi => by rw [pz i hi] at h1; cases h1),fun l hl b hb => (by cases hl; exact nC hb),fun i hi => ⟨fun _ _ => id,id,fun _ => id⟩,fun l hl b hb m8 cs dC => ⟨fun _ _ => id,fun _ _ => id⟩,fun d u hd kc _ hu => ?_⟩⟩;have GC : ∀ i,get (put s.env d u) i = if i = d then u else get s.env i := fun i => bu _ _ _ _;simp only [Kd.reads,kP,aC,not_or] at hd;have e1 : bn c (put s.env d u) x = bn c s.env x := b9 fun i hi => by rw [GC,if_neg]; intro e; subst e; exact hd.1 hi
 have e2 : bn c (put s.env d u) y = bn c s.env y := b9 fun i hi => by rw [GC,if_neg]; intro e; subst e; exact hd.2 hi
 have e3 : cont (⟨put s.env d u,s.H⟩ : St) k (bn c s.env y) = cont s k (bn c s.env y) := by
  rw [ey];simp only [cont,kz kc]
 refine ⟨⟨put s.env d u,s.H⟩,_,rootOf p,dL.rfl',?_,fun i hi => hi,nB kc⟩;rw [im];simp only [e1,hx,kz kc,hp,e2,e3,hy];rw [if_neg hn,if_pos hc,e]
theorem abc {s s1 : St} {kd : Kd} {v : AV} {sl : List Nat} {bs : Option (List Nat)} (im : ∀ t,ft c call t kd = dE c call kd t) (h : mw c s kd = some (some (v,s1,.wr sl bs))) : ∃ V,Rq c call s kd v s1 sl bs V := by
 by_cases hex : ∃ f x es,kd = .call f (x :: es) /\ c.inp f = none
 case neg =>
  exact sU.up (aeY (fun f x es e hn => hex ⟨f,x,es,e,hn⟩) im h)
 case pos =>
  obtain ⟨f,x,es,rfl,Ld⟩ := hex;simp only [mw,Ld] at h;split at h
  ·cases h
  ·rename_i g Ib;simp only [ah] at h;exact aeZ Ld Ib h
theorem Lq {s s1 : St} {kd : Kd} {v : AV} {sl : List Nat} {bs : Option (List Nat)} (im : ∀ t,ft c call t kd = dE c call kd t) (h : ft c call s kd = some (v,s1,.wr sl bs)) : ∃ V,Rq c call s kd v s1 sl bs V := by
 rw [im] at h;unfold dE at h;cases hi : mw c s kd with
 | none =>
   rw [hi] at h;cases hl : lq c call s kd with
   | none =>
     rw [hl] at h;simp only [fR] at h;cases hm : pP c call s kd with
     | none =>
       rw [hm] at h;replace h := (iU h).resolve_right fun h => by obtain ⟨e,_⟩ := u5 h; cases e
       exact sU.up (abe im hi hl hm h)
     | some r =>
       rw [hm] at h;simp only at h;subst h;obtain ⟨e,_⟩ := vj hm;cases e
   | some r =>
     rw [hl] at h;simp only at h;subst h;obtain ⟨b,e⟩ := CT hl;cases e
 | some r =>
   rw [hi] at h;simp only at h;subst h;exact abc im hi
theorem wrOp {s s1 : St} {kd : Kd} {v : AV} {sl : List Nat} {bs : Option (List Nat)} (h : ft c call s kd = some (v,s1,.wr sl bs)) : ∃ V,Rq c call s kd v s1 sl bs V := by
 cases kd
 case call => exact Lq (fun _ => rfl) h
 case jr => exact Lq (fun _ => rfl) h
 case st => exact ahE h
 case app => exact ae0 h
 case copy => exact sU.up (abd h)
 case eE => exact sU.up (UM h)
 case ld =>
  exfalso;simp only [ft] at h;split at h
  case h_2 => cases h
  split at h
  case isFalse => cases h
  simp only [ah,aF] at h;obtain ⟨_,_,h5⟩ := h;rcases uf _ _ _ with e | ⟨b,j,e⟩ <;> rw [e] at h5 <;> cases h5
 all_goals
  exfalso;simp only [ft] at h
  (repeat' split at h) <;> simp at h
theorem ahF : zx c call := by
 intro s q v s1 sl bs ⟨hk,s0,t1,e0,he,e1⟩
 have op : ft c call s0 q.kd = some (v,t1,.wr sl bs) -> (∀ t : St,(∀ i ∈ q.reads,get t.env i = get s.env i) -> Cf c call t q = ft c call t q.kd) -> ∃ V,WrEv c call s q v s1 sl bs V := by
  intro h ze;obtain ⟨V,hV⟩ := wrOp h;have hr : ∀ i ∈ q.kd.reads,i ∈ q.reads := fun i hi => by simp [O.reads,hi]
  refine ⟨V,⟨fun i hi hi2 => by rw [<- e1.1,hV.env i hi hi2,e0.1],fun i hi => by rw [<- e1.1,hV.hd i hi,e0.1],fun i h1 h2 => by rw [<- e1.1,hV.keep i (by rw [<- e0.1]; exact h1) (by rw [<- e0.1]; exact h2),e0.1],fun l hl b hb => by rw [<- e1.2,hV.heap l hl b hb,e0.2],fun l hl b j h1 h2 => (by
   have := hV.cell l hl b j h1 h2;unfold o9 at this ⊢;rw [e0.2,<- e1.2]; exact this),fun i hi => by rw [e0.1]; exact hV.v1 i hi,fun l hl b hb m8 cs dC => hV.v2 l hl b hb m8 cs (by rw [<- e0.2]; exact dC),fun l hl b j h1 h2 h3 cs c0 hb hc => hV.v3 l hl b j h1 h2 h3 cs c0 (by rw [<- e0.2]; exact hb) hc,fun d u hd kc hds2 hu => ?_⟩⟩
  obtain ⟨t0,t2,sl',h1,h2,h3,h4⟩ := hV.go d u (fun h => hd (hr d h)) kc hds2 hu;have h6 : dL (⟨put s0.env d u,s0.H⟩ : St) ⟨put s.env d u,s.H⟩ := ⟨fun i => by simp only [bu,e0.1],e0.2.symm⟩;have hs : dL (⟨put s.env d u,s.H⟩ : St) t0 := (h1.trans h6).symm;refine ⟨t2,sl',⟨hk,t0,t2,hs,?_,dL.rfl'⟩,h3,h4.trans ⟨fun i => by simp only [bu,e1.1],e1.2⟩⟩;rw [ze t0 fun i hi => ?_]
  ·exact h2
  ·rw [<- hs.1 i];show get (put s.env d u) i = _;rw [bu,if_neg];intro e; subst e; exact hd hi
 unfold Cf at he;cases hg : q.guard with
 | none =>
   rw [hg] at he;exact op he fun t _ => by unfold Cf; rw [hg]
 | some gp =>
   obtain ⟨g,want⟩ := gp;rw [hg] at he;simp only at he;have B8 : g ∈ q.reads := by simp [O.reads,hg]
   split at he
   ·rename_i b hb;split at he
    ·rename_i QY;refine op he fun t h1 => ?_;unfold Cf;rw [hg];simp only [h1 g B8,e0.1 g,hb,QY,if_true]
    ·cases he
   ·cases he
   ·cases he
theorem lwOp {s s1 : St} {kd : Kd} {v : AV} {b : Nat} (h : ft c call s kd = some (v,s1,.lw b)) : (∀ t,ft c call t kd = dE c call kd t) /\ mw c s kd = none /\ lq c call s kd = some (some (v,s1,.lw b)) := by
 have nc : ∀ {kd : Kd},dE c call kd s = some (v,s1,.lw b) -> mw c s kd = none /\ lq c call s kd = some (some (v,s1,.lw b)) := by
  intro kd h;unfold dE at h;cases hi : mw c s kd with
  | some r =>
    rw [hi] at h;simp only at h;subst h;obtain ⟨sl,bs,e | e⟩ := y9 hi <;> cases e
  | none =>
    rw [hi] at h;cases hl : lq c call s kd with
    | some r =>
      rw [hl] at h;simp only at h;subst h;exact ⟨rfl,rfl⟩
    | none =>
      rw [hl] at h;simp only [fR] at h;exfalso;split at h
      ·rename_i r hm;subst h;obtain ⟨e,_⟩ := vj hm;cases e
      replace h := (iU h).resolve_right fun h => by obtain ⟨e,_⟩ := u5 h; cases e
      unfold eh at h
      (repeat' split at h)
      all_goals first
       | (cases h; done)
       | (simp [AS] at h; done)
       | (simp at h; obtain ⟨_,_,h5⟩ := h; revert h5; split <;> simp [AS]; done)
       | (simp only [ah,aF] at h; obtain ⟨_,_,h5⟩ := h; split at h5 <;> cases h5)
 have ns : ∀ {s s' : St} {k : Nat} {a v : AV},Ps s k a v ≠ some (s',.lw b) := by
  intro s s' k a v h;unfold Ps vQ at h
  repeat' split at h
  all_goals first
   | (cases h; done)
   | (simp at h; done)
 cases kd
 case call => exact ⟨fun _ => rfl,nc h⟩
 case jr => exact ⟨fun _ => rfl,nc h⟩
 case st k a v =>
  exfalso;simp only [ft] at h;split at h
  ·split at h
   case h_2 => cases h
   rename_i hh;simp only [ah,aF] at h;obtain ⟨_,_,h5⟩ := h;split at h5
   ·rw [h5] at hh; exact ns hh
   ·cases h5
  ·split at h
   case h_2 => cases h
   rename_i hh;simp only [ah,aF] at h;obtain ⟨_,_,h5⟩ := h;rw [h5] at hh;exact ns hh
 all_goals
  exfalso;simp only [ft] at h
  (repeat' split at h)
  all_goals first
   | (cases h; done)
   | (simp at h; done)
   | (simp [AS] at h; done)
   | (simp at h; obtain ⟨_,_,h5⟩ := h; rcases uf _ _ _ with e | ⟨b,j,e⟩ <;> rw [e] at h5 <;> cases h5; done)
   | (simp at h; obtain ⟨_,_,h5⟩ := h; rcases uA _ _ with e | ⟨_,_,_,_,e⟩ <;> rw [e] at h5 <;> cases h5; done)
   | (simp at h; obtain ⟨_,_,h5⟩ := h; revert h5; split <;> simp)
theorem aij : zA c call := by
 intro s q v s1 b ⟨hk,s0,t1,e0,he,e1⟩
 have op : ft c call s0 q.kd = some (v,t1,.lw b) -> (∀ t : St,(∀ i ∈ q.reads,get t.env i = get s.env i) -> Cf c call t q = ft c call t q.kd) -> ∃ cs cs',LwEv c call s q v s1 b cs cs' := by
  intro h ze;obtain ⟨im,hi,hl⟩ := lwOp h;obtain ⟨f,x,es,b',md,q',cs,cs',hkd,h1,h2,h3,h4,h5,h6,h7,h8,h9⟩ := ua hl;simp only [Fq.lw.injEq] at h9;subst h9;have Ld : ∀ i ∈ kP (x :: es),i ∈ q.reads := fun i hi => by simp [O.reads,hkd,Kd.reads,hi]
  refine ⟨cs,cs',⟨by rw [e0.2]; exact h4,?_,fun t ht hbt => ?_⟩⟩
  ·refine e1.symm.trans ?_;rw [h8];exact ⟨fun i => (e0.1 i).symm,by show s0.H.set b (some cs') = s.H.set b (some cs'); rw [e0.2]⟩
  ·refine ⟨hk,t,⟨t.env,t.H.set b (some cs')⟩,dL.rfl',?_,dL.rfl'⟩;rw [ze t ht,im];unfold dE;rw [vu hi t]
   have bO : lq c call t q.kd = some (some (v,⟨t.env,t.H.set b (some cs')⟩,.lw b)) := by
    have e2 : bn c t.env x = bn c s0.env x := b9 fun i hi => by rw [ht i (Ld i (by simp [kP,hi])),e0.1 i]
    have e3 : dq c t.env es = dq c s0.env es := fH fun i hi => by rw [ht i (Ld i (by simp [kP,hi])),e0.1 i]
    rw [hkd];unfold lq;simp only;rw [if_pos h1];unfold Vy;rw [e2,e3,h2];simp only [h3,hbt];rw [if_pos h5,h6];simp only;rw [if_pos h7]
   rw [bO]
 unfold Cf at he;cases hg : q.guard with
 | none =>
   rw [hg] at he;exact op he fun t _ => by unfold Cf; rw [hg]
 | some gp =>
   obtain ⟨g,want⟩ := gp;rw [hg] at he;simp only at he;have B8 : g ∈ q.reads := by simp [O.reads,hg]
   split at he
   ·rename_i b hb;split at he
    ·rename_i QY;refine op he fun t h1 => ?_;unfold Cf;rw [hg];simp only [h1 g B8,e0.1 g,hb,QY,if_true]
    ·cases he
   ·cases he
   ·cases he
theorem ahh (dy : fm P c) (AN : IU P c call) : Gw P c call := Wf dy AN (ahj adl ahF aij)
end
end Go.Bm

/- The end of a function that sees boxes of others. -/
namespace Go.Bm
open Go.Am
mutual
theorem J0 {o o' : Rt -> Option (Nat × List AV)} {nb NG : Nat} (hn : nb <= NG) : ∀ x,fG x = true -> cZ o nb x -> cZ o' NG x
 | .ptr b off,_,h => by simp only [cZ] at h ⊢; omega
 | .agg cs,hp,h => by simp only [fG] at hp; simp only [cZ] at h ⊢; exact yK hn cs hp h
 | .dD cs,hp,h => by simp only [fG] at hp; simp only [cZ] at h ⊢; exact yK hn cs hp h
 | .func f a b,hp,h => by simp only [fG,aa] at hp; simp only [cZ] at h ⊢; exact ⟨yK hn a hp.1 h.1,yK hn b hp.2 h.2⟩
 | .own _ _,hp,_ => by simp [fG] at hp
 | .dA _ _ _ _,hp,_ => by simp [fG] at hp
 | .eW _ _ _ _,hp,_ => by simp [fG] at hp
 | .sl _ b _ _,_,h => by simp only [cZ] at h ⊢; omega
 | .any,_,_ => trivial | .undef,_,_ => trivial | .fk,_,_ => trivial | .fu,_,_ => trivial | .dJ,_,_ => trivial
 | .int _ _,_,_ => trivial | .bool _,_,_ => trivial | .str _,_,_ => trivial | .list _ _,_,_ => trivial | .dI _,_,_ => trivial
theorem yK {o o' : Rt -> Option (Nat × List AV)} {nb NG : Nat} (hn : nb <= NG) : ∀ xs,dx xs = true -> jU o nb xs -> jU o' NG xs
 | [],_,_ => trivial
 | x :: r,hp,h => by simp only [dx,aa] at hp; exact ⟨J0 hn x hp.1 h.1,yK hn r hp.2 h.2⟩
end
theorem yJ {x : AV} (h : fG x = true) : bN x = false := by
 cases x <;> first | rfl | (simp [fG] at h; done) | skip
 rename_i cs;simp only [fG] at h;simp only [bN]
 induction cs with
 | nil => rfl
 | cons y r ih =>
   simp only [dx,aa] at h;have h1 := h.1;cases y <;> first | exact ih h.2 | (simp [fG] at h1; done)
theorem TR : jI fP := by
 intro k r o l;cases r <;> exact ⟨⟨(fun cs e => by cases e),(fun k xs e => by cases e)⟩,⟨(fun cs e => by cases e),(fun k xs e => by cases e)⟩⟩
section
variable {P : Program} {X : Nat -> Prop} {φ j5 φ' : dF} {w w1 w' : World} {N N1 N' : Names} {s s' s1 : St} {Ha : Heap} {B : Nat -> Nat} {base : Nat} {v va : AV} {v' : Value} {c : eG} {a : Act} {call : Nat -> List AV -> Heap -> Option (AV × Heap)} {t : Nat -> Value}
theorem Tn {s s' : St} (h : s'.H = s.H) (b j : Nat) : az s' (.c b j) = az s (.c b j) := by simp only [az,at_,h]
theorem vf (r : AV) (i : Nat) : get [(0,r)] i = if i = 0 then r else .any := by simp only [Am.get]
theorem eV.leave (h : eV X φ w N s Ha t) {i0 : Nat} {r : AV} (hr : get s.env i0 = r) (hp : fG r = true) : eV X φ w N ⟨[(0,r)],fy fP s.H⟩ Ha (fun i => if i = 0 then t i0 else undef) := by
 have iB := yJ hp
 have slot : ∀ i,(∀ k xs,get [(0,r)] i ≠ .own k xs) /\ (az ⟨[(0,r)],fy fP s.H⟩ (.s i) = none /\ ∀ j,az ⟨[(0,r)],fy fP s.H⟩ (.sc i j) = none) := by
  intro i
  have h0 : bN (get (⟨[(0,r)],fy fP s.H⟩ : St).env i) = false := by
   show bN (get [(0,r)] i) = false;rw [vf]; split
   ·exact iB
   ·rfl
  refine ⟨fun k xs e => ?_,eJ h0⟩;have h1 : bN (get [(0,r)] i) = false := h0;rw [e] at h1; cases h1
 have box : ∀ b j,az ⟨[(0,r)],fy fP s.H⟩ (.c b j) = az s (.c b j) := fun b j => by
  rw [<- iK TR s (.c b j)];exact Tn rfl b j
 have own : ∀ {p},(az ⟨[(0,r)],fy fP s.H⟩ p).isSome -> az ⟨[(0,r)],fy fP s.H⟩ p = az s p /\ ∃ b j,p = .c b j := by
  intro p hp;cases p with
  | s i => rw [(slot i).2.1] at hp; cases hp
  | sc i j => rw [(slot i).2.2 j] at hp; cases hp
  | c b j => exact ⟨box b j,b,j,rfl⟩
 have hlen : (fy fP s.H).length = s.H.length := fX _ _;have back : ∀ b,(aJ (fy fP s.H) b).isSome -> (aJ s.H b).isSome := fun b hb => by rw [dW] at hb; simpa using hb
 have hl : ∀ k p a l,(cZ (az s) s.H.length (.dA k p a l) -> cZ (az ⟨[(0,r)],fy fP s.H⟩) s.H.length (fP (.dA k p a l)) /\ Le (cW N (fP (.dA k p a l))) (cW N (.dA k p a l))) /\ (cZ (az s) s.H.length (.eW k p a l) -> cZ (az ⟨[(0,r)],fy fP s.H⟩) s.H.length (fP (.eW k p a l)) /\ Le (cW N (fP (.eW k p a l))) (cW N (.eW k p a l))) := by
  intro k p a l;cases p with
  | s i => exact ⟨fun _ => ⟨trivial,Le.any _⟩,fun _ => ⟨trivial,Le.any _⟩⟩
  | sc i j => exact ⟨fun _ => ⟨trivial,Le.any _⟩,fun _ => ⟨trivial,Le.any _⟩⟩
  | c b j =>
    refine ⟨fun h => ⟨?_,Le.refl _⟩,fun h => ⟨?_,Le.refl _⟩⟩
    ·simp only [fP,cZ] at h ⊢; rw [box]; exact h
    ·simp only [fP,cZ] at h ⊢; rw [box]; exact h
 refine ⟨fun i => ?_,fun i => ?_,h.heap,fun p k xs e => ?_,fun b cs e => ?_,fun p q n e1 e2 e3 e4 => ?_,fun b p e1 e2 e3 => ?_,fun b d e1 e2 e3 => h.bi b d (back b e1) (back d e2) e3⟩
 ·show bI _ _ (j9 N i (get [(0,r)] i)) (if i = 0 then t i0 else undef);rw [vf];by_cases e : i = 0
  ·subst e;simp only [if_true];have := h.env i0;rw [hr,uW N i0 iB] at this;rw [uW N 0 iB];exact this
  ·rw [if_neg e,if_neg e]; exact .any _ _
 ·show cZ _ _ (get [(0,r)] i);rw [vf,hlen];split
  ·have := h.GQ i0;rw [hr] at this;exact J0 (aT _) r hp this
  ·trivial
 ·have := own (p := p) (by rw [e]; rfl);rw [this.1] at e;exact h.own p k xs e
 ·have hb : aJ (fy fP s.H) b = some cs := e;rw [dW] at hb;cases hc : aJ s.H b with
  | none => rw [hc] at hb; cases hb
  | some ds =>
    rw [hc] at hb;simp at hb;subst hb;obtain ⟨as,g1,g2,g3⟩ := h.box b ds hc;refine ⟨as,g1,by rw [cI]; exact g2,fun j d hd => ?_⟩;rw [eI] at hd;cases hj : ds[j]? with
    | none => rw [hj] at hd; cases hd
    | some d0 =>
      rw [hj] at hd;simp at hd;subst hd;obtain ⟨g4,a',g5,g6⟩ := g3 j d0 hj;obtain ⟨k1,k2⟩ := kF (N := N) (N' := N) (o := az s) (o' := az ⟨[(0,r)],fy fP s.H⟩) (nb := s.H.length) (g := fP) rfl TR hl (r := .c b j) (x := d0) (fun _ _ _ => rfl) g4;refine ⟨?_,a',g5,k2.trans g6⟩;show cZ _ (fy fP s.H).length _;rw [hlen]; exact k1
 ·rw [(own e1).1] at e1;rw [(own e2).1] at e2;exact h.inj p q n e1 e2 e3 e4
 ·have e2' : (az s p).isSome := by rw [<- (own e2).1]; exact e2
  exact h.bx b p (back b e1) e2' e3
theorem W5 {env : Env} {base : Nat} : ∀ (n : Nat) (H : Heap),base <= H.length -> base <= (trim base env n H).length := by
 intro n
 induction n with
 | zero => intro H h; exact h
 | succ n ih =>
   intro H h;simp only [trim];split
   ·exact ih _ (by simp; omega)
   ·exact h
theorem eV.env0 {H : Heap} {r1 r2 : AV} (h : eV X φ w N ⟨[(0,r1)],H⟩ Ha t) (h1 : fG r1 = true) (h2 : fG r2 = true) (hk : cZ (fun _ => none) H.length r2) (hr : bI (Rd X φ w) φ (cW N r2) v') : eV X φ w N ⟨[(0,r2)],H⟩ Ha (fun i => if i = 0 then v' else undef) := by
 have slot : ∀ {r : AV},fG r = true -> ∀ i,bN (get (⟨[(0,r)],H⟩ : St).env i) = false := fun {r} hp i => by
  show bN (get [(0,r)] i) = false;rw [vf]; split
  ·exact yJ hp
  ·rfl
 have own : ∀ p,az ⟨[(0,r2)],H⟩ p = az ⟨[(0,r1)],H⟩ p := by
  intro p;cases p with
  | s i => rw [(eJ (slot h2 i)).1,(eJ (slot h1 i)).1]
  | sc i j => rw [(eJ (slot h2 i)).2 j,(eJ (slot h1 i)).2 j]
  | c b j => exact Tn rfl b j
 refine ⟨fun i => ?_,fun i => ?_,h.heap,fun p k xs e => ?_,fun b cs e => ?_,fun p q n e1 e2 => ?_,fun b p e1 e2 => ?_,h.bi⟩
 ·show bI _ _ (j9 N i (get [(0,r2)] i)) (if i = 0 then v' else undef);rw [vf];by_cases e : i = 0
  ·rw [if_pos e,if_pos e,uW N i (yJ h2)]; exact hr
  ·rw [if_neg e,if_neg e]; exact .any _ _
 ·show cZ _ _ (get [(0,r2)] i);rw [vf];split
  ·exact J0 (aT _) r2 h2 hk
  ·trivial
 ·rw [own] at e; exact h.own p k xs e
 ·obtain ⟨as,g1,g2,g3⟩ := h.box b cs e;refine ⟨as,g1,g2,fun j c hc => ⟨kT (fun p _ => own p) (aT _) c (g3 j c hc).1,(g3 j c hc).2⟩⟩
 ·rw [own] at e1 e2; exact h.inj p q n e1 e2
 ·rw [own] at e2; exact h.bx b p e1 e2
theorem acD (h : eV X φ w N s Ha (tm a)) (hb : (∀ b,b < base -> N.β b = B b) /\ base <= s.H.length) (hv : bI (Rd X φ w) φ (cW N v) v') (hk : cZ (az s) s.H.length v) {r : AV} {H' : Heap} (hf : finX base s v = some (r,H')) :
  ∃ φ',SB X φ' w B base ⟨[(0,r)],H'⟩ (fun i => if i = 0 then v' else undef) /\ fo φ w φ' w := by unfold finX at hf;cases hf
theorem acB (h : eV X φ w N s Ha (tm a)) (hb : (∀ b,b < base -> N.β b = B b) /\ base <= s.H.length) (hv : bI (Rd X φ w) φ (cW N v) v') (hk : cZ (az s) s.H.length v) (iB : bN v = false) {r : AV} {H' : Heap} (hf : eB base s v = some (r,H')) :
  ∃ φ',SB X φ' w B base ⟨[(0,r)],H'⟩ (fun i => if i = 0 then v' else undef) /\ fo φ w φ' w := by
 unfold eB at hf;split at hf
 case h_2 => cases hf
 rename_i OI;simp only at hf;split at hf
 case isFalse => cases hf
 rename_i hp;simp only [ah,aF] at hf;obtain ⟨rfl,rfl⟩ := hf;have xQ := dY.quiet (t := tm a) h hb hk (lZ iB) (by rw [kO N iB]; exact hv);obtain ⟨ks,⟨N2,Ha2,PR,m8⟩,a2⟩ := SB.dV (aN v) (xQ.put fg OI);have h3 := PR.leave (i0 := fg) rfl hp;simp only [if_true] at h3;refine ⟨ks,⟨N2,Ha2,?_,m8.1,?_⟩,a2⟩
 ·exact eV.trim (base0 := base) _ h3
 ·exact W5 _ _ (by rw [fX]; exact m8.2)
theorem shOK (dy : fm P c) (ur : uR P c) {n : Nat} (hs : Pl P c n) : ShOK P c n := by
 intro f md q hf hm args H r H' h jD X φ w B vargs hl H9 hg;unfold k7 at h;split at h
 ·rename_i x ze;unfold EN at ze;split at ze
  case h_2 => cases ze
  rename_i g Ib;rw [h] at ze;replace h := ze;exact ur f g md q Ib hf args H r H' (.inl hm) h (fun _ => jD) X φ w B vargs hl H9 hg
 ·rw [hf] at h;simp only at h;split at h
  case isFalse => cases h
  rename_i hle;obtain ⟨fn,h1,h2⟩ := dy.fn f md q hf;simp only [bF,aa,decide_eq_true_eq] at h2;obtain ⟨⟨⟨⟨hn,ais⟩,_⟩,hres⟩,qE⟩ := h2;split at qE
  case h_2 => cases qE
  rename_i code hb;have zb : (vargs ++ nG (fn.ntmps - vargs.size) undef).size = q.n := by simp; omega
  have htm : tm { tmps := vargs ++ nG (fn.ntmps - vargs.size) undef,defers := [] } = fun i => vargs.getD i undef := by
   funext i;simp only [tm,a8];by_cases hi : i < vargs.size
   ·rw [Array.getElem?_append_left hi]
   ·rw [Array.getElem?_append_right (by omega),Array.getElem?_replicate];rw [Array.getElem?_eq_none (by omega)];split <;> rfl
  have hS : zy X φ w B H.length ⟨ei 0 args,H⟩ { tmps := vargs ++ nG (fn.ntmps - vargs.size) undef,defers := [] } q.n := ⟨by rw [htm]; exact H9,rfl,zb⟩
  have fin : ∀ {e : Ex} {s : St} {vs : List AV},c8 c n H.length q.body ⟨ei 0 args,H⟩ = some (e,s) -> (e = .ret \/ e = .normal) -> nO c s q.res = some vs -> aZ md H.length s (m6 vs) = some (r,H') -> Calls P f vargs w (G7 X φ w B H.length r H') := by
   intro e s vs he hre um QW;refine calls_of_wp h1 hb (hs q.n H.length code q.body _ s e (by omega) qE he X φ w B _ hS hg _ fun a' w' φ' hS' rE => ?_);obtain ⟨N,Ha,u6,hbB⟩ := hS'.sb;obtain ⟨UL,x1,x2,x3,x4⟩ := W3 u6 (hg.lj rE) um;obtain ⟨v,k1,k2⟩ := Bf (P := P) (s := ⟨yj N s.env,Ha⟩) (ts := a'.tmps) (fun i => by rw [kW]; exact u6.env i) u6.heap hres x1;unfold aZ at QW;rw [hm,if_pos rfl] at QW
   have aiu : ∃ ks,SB X ks w' B H.length ⟨[(0,r)],H'⟩ (fun i => if i = 0 then v else undef) /\ fo φ' w' ks w' := by
    split at QW
    ·exact acD u6 hbB (x2 _ _ _ k2) x3 QW
    ·exact acB u6 hbB (x2 _ _ _ k2) x3 x4 QW
   obtain ⟨ks,s2,a2⟩ := aiu;have : bodyPost P fn (G7 X φ w B H.length r H') .ret a' w' := ⟨hS'.defers,v,k1,v,ks,rfl,s2,rE.trans a2⟩;rcases hre with rfl | rfl
   ·exact this
   ·exact this
  split at h
  ·rename_i s he;split at h
   ·rename_i vs um;exact fin he (.inl rfl) um h
   ·cases h
  ·rename_i s he;split at h
   ·rename_i vs um;exact fin he (.inr rfl) um h
   ·cases h
  ·cases h
end
end Go.Bm

/- A state whose older heap holds no more than what is referred to; calls of functions that share boxes. -/
namespace Go.Bm
open Go.Am
mutual
def iQ (G : Nat -> Prop) : AV -> Prop
 | .ptr b _ => G b
 | .sl _ b _ _ => G b
 | .agg cs => me G cs
 | .dD cs => me G cs
 | .func _ a b => me G a /\ me G b
 | _ => True
def me (G : Nat -> Prop) : List AV -> Prop
 | [] => True
 | x :: r => iQ G x /\ me G r
end
theorem mq {G : Nat -> Prop} : ∀ {cs : List AV},me G cs ↔ ∀ (i : Nat) (c : AV),cs[i]? = some c -> iQ G c
 | [] => by simp [me]
 | x :: r => by
   simp only [me,mq (cs := r)];constructor
   ·rintro ⟨h1,h2⟩ i c hc;cases i with
    | zero => simp at hc; exact hc ▸ h1
    | succ i => exact h2 i c (by simpa using hc)
   ·intro h;exact ⟨h 0 x rfl,fun i c hc => h (i + 1) c (by simpa using hc)⟩
theorem bI.refs {R R' : Addr -> Value -> Prop} (hR : ∀ a u,R a u -> R' a u) {G : Nat -> Prop} {φ : dF} {x : AV} {v : Value} (h : bI R φ x v) : ∀ {φ' : dF},iQ G x -> φ.length <= φ'.length -> (∀ b,G b -> ∀ p,φ'[b]? = some (some p) -> φ[b]? = some (some p)) -> bI R' φ' x v := by
 induction h with
 | any => intro φ' _ _ _; exact .any _ _
 | undef => intro φ' _ _ _; exact .undef _
 | fk => intro φ' _ _ _; exact .fk _
 | fu => intro φ' _ _ _; exact .fu _
 | dJ => intro φ' _ _ _; exact .dJ _
 | int => intro φ' _ _ _; exact .int _ _ _
 | bool => intro φ' _ _ _; exact .bool _ _
 | str => intro φ' _ _ _; exact .str _ _
 | agg φ cs vs hl h ih => intro φ' hx hp hb; simp only [iQ] at hx; exact .agg _ _ _ hl fun i c v h1 h2 => ih i c v h1 h2 (mq.1 hx i c h1) hp hb
 | dD φ cs vs hl h ih => intro φ' hx hp hb; simp only [iQ] at hx; exact .dD _ _ _ hl fun i c v h1 h2 => ih i c v h1 h2 (mq.1 hx i c h1) hp hb
 | func φ f as va bs vb zE zD ha hb iha VJ => intro φ' hx hp CZ; simp only [iQ] at hx; exact .func _ _ _ _ _ _ zE zD (fun i c v h1 h2 => iha i c v h1 h2 (mq.1 hx.1 i c h1) hp CZ) (fun i c v h1 h2 => VJ i c v h1 h2 (mq.1 hx.2 i c h1) hp CZ)
 | qC φ k xs a n cap u hn fD hk hu h ih => intro φ' _ _ _; exact .qC _ _ _ _ _ _ u hn fD hk (fun i j x c h1 h2 => hR _ _ (hu i j x c h1 h2)) (fun i j x c h1 h2 => (h i j x c h1 h2).mono hR (.refl _))
 | jC => intro φ' _ _ _; exact .jC _ _
 | dI φ cs a u hu h ih => intro φ' _ _ _; exact .dI _ _ _ u (fun j c h1 => hR _ _ (hu j c h1)) (fun j c h1 => (h j c h1).mono hR (.refl _))
 | ptr φ b off a hb h => intro φ' hx hp im; exact .ptr _ _ _ _ (by omega) fun g sz e => h g sz (im b hx _ e)
 | sl φ k b off len a cap hb hc h => intro φ' hx hp im; exact .sl _ _ _ _ _ _ _ (by omega) hc fun g sz e => h g sz (im b hx _ e)
mutual
theorem Jj {G : Nat -> Prop} {N : Names} {o : Rt -> Option (Nat × List AV)} {nb : Nat} (eZ : ∀ b,b < nb -> G (N.β b)) (lh : ∀ p,(o p).isSome -> ∀ n,N.ν p = some n -> G n) : ∀ x,cZ o nb x -> iQ G (cW N x)
 | .dA k p off len,h => by
   simp only [cZ] at h; obtain ⟨xs,e,_⟩ := h;simp only [cW];cases hn : N.ν p with
   | none => exact trivial
   | some n => exact lh p (by rw [e]; rfl) n hn
 | .eW k p i off,h => by
   simp only [cZ] at h; obtain ⟨xs,e,_⟩ := h;simp only [cW];cases hn : N.ν p with
   | none => exact trivial
   | some n => exact lh p (by rw [e]; rfl) n hn
 | .ptr b off,h => by simp only [cZ] at h; simp only [cW,iQ]; exact eZ b h
 | .agg cs,h => by simp only [cZ] at h; simp only [cW,iQ]; exact tp eZ lh cs h
 | .dD cs,h => by simp only [cZ] at h; simp only [cW,iQ]; exact tp eZ lh cs h
 | .func f a b,h => by simp only [cZ] at h; simp only [cW,iQ]; exact ⟨tp eZ lh a h.1,tp eZ lh b h.2⟩
 | .any,_ => trivial | .undef,_ => trivial | .fk,_ => trivial | .fu,_ => trivial | .dJ,_ => trivial
 | .int _ _,_ => trivial | .bool _,_ => trivial | .str _,_ => trivial | .list _ _,_ => trivial | .dI _,_ => trivial | .own _ _,_ => trivial
 | .sl _ b _ _,h => by simp only [cZ] at h; simp only [cW,iQ]; exact eZ b h
theorem tp {G : Nat -> Prop} {N : Names} {o : Rt -> Option (Nat × List AV)} {nb : Nat} (eZ : ∀ b,b < nb -> G (N.β b)) (lh : ∀ p,(o p).isSome -> ∀ n,N.ν p = some n -> G n) : ∀ xs,jU o nb xs -> me G (kt N xs)
 | [],_ => trivial
 | x :: r,h => ⟨Jj eZ lh x h.1,tp eZ lh r h.2⟩
end
mutual
theorem Sc {G : Nat -> Prop} : ∀ x,pl x = true -> iQ G x
 | .agg cs,h => by simp only [pl] at h; simp only [iQ]; exact tr cs h
 | .dD cs,h => by simp only [pl] at h; simp only [iQ]; exact tr cs h
 | .func f a b,h => by simp only [pl,aa] at h; simp only [iQ]; exact ⟨tr a h.1,tr b h.2⟩
 | .ptr _ _,h => by simp [pl] at h
 | .sl _ _ _ _,h => by simp [pl] at h
 | .dA _ _ _ _,_ => trivial | .eW _ _ _ _,_ => trivial
 | .any,_ => trivial | .undef,_ => trivial | .fk,_ => trivial | .fu,_ => trivial | .dJ,_ => trivial
 | .int _ _,_ => trivial | .bool _,_ => trivial | .str _,_ => trivial | .list _ _,_ => trivial | .dI _,_ => trivial | .own _ _,_ => trivial
theorem tr {G : Nat -> Prop} : ∀ xs,dK xs = true -> me G xs
 | [],_ => trivial
 | x :: r,h => by simp only [dK,aa] at h; exact ⟨Sc x h.1,tr r h.2⟩
end
theorem XR {G : Nat -> Prop} {N : Names} {o : Rt -> Option (Nat × List AV)} {nb : Nat} (eZ : ∀ b,b < nb -> G (N.β b)) (lh : ∀ p,(o p).isSome -> ∀ n,N.ν p = some n -> G n) {r : Rt} {x : AV} (hr : ∀ k xs,x = .own k xs -> (o r).isSome) (h : cZ o nb x) : iQ G (iH N r x) := by
 cases x <;> simp only [iH] <;> first | exact Jj eZ lh _ h | skip
 rename_i k xs;simp only [pd];cases hn : N.ν r with
 | none => exact trivial
 | some n => exact lh r (hr k xs rfl) n hn
mutual
theorem CN {o o' : Rt -> Option (Nat × List AV)} {nb NG : Nat} (hn : nb <= NG) : ∀ x,(∀ p ∈ aN x,o' p = o p) -> cZ o nb x -> cZ o' NG x
 | .dA k p off len,ho,h => by simp only [cZ] at h ⊢; obtain ⟨xs,e,h2⟩ := h; exact ⟨xs,by rw [ho p (by simp [aN])]; exact e,h2⟩
 | .eW k p i off,ho,h => by simp only [cZ] at h ⊢; obtain ⟨xs,e,h2⟩ := h; exact ⟨xs,by rw [ho p (by simp [aN])]; exact e,h2⟩
 | .ptr b off,_,h => by simp only [cZ] at h ⊢; omega
 | .agg cs,ho,h => by simp only [cZ] at h ⊢; exact yS hn cs (by simpa only [aN] using ho) h
 | .dD cs,ho,h => by simp only [cZ] at h ⊢; exact yS hn cs (by simpa only [aN] using ho) h
 | .func f a b,ho,h => by
   simp only [aN,aC] at ho;simp only [cZ] at h ⊢; exact ⟨yS hn a (fun p hp => ho p (.inl hp)) h.1,yS hn b (fun p hp => ho p (.inr hp)) h.2⟩
 | .any,_,_ => trivial | .undef,_,_ => trivial | .fk,_,_ => trivial | .fu,_,_ => trivial | .dJ,_,_ => trivial
 | .int _ _,_,_ => trivial | .bool _,_,_ => trivial | .str _,_,_ => trivial | .list _ _,_,_ => trivial | .dI _,_,_ => trivial | .own _ _,_,_ => trivial
 | .sl _ b _ _,_,h => by simp only [cZ] at h ⊢; omega
theorem yS {o o' : Rt -> Option (Nat × List AV)} {nb NG : Nat} (hn : nb <= NG) : ∀ xs,(∀ p ∈ df xs,o' p = o p) -> jU o nb xs -> jU o' NG xs
 | [],_,_ => trivial
 | x :: r,ho,h => by
   simp only [df,aC] at ho;exact ⟨CN hn x (fun p hp => ho p (.inl hp)) h.1,yS hn r (fun p hp => ho p (.inr hp)) h.2⟩
end
theorem zw : ∀ {H : Heap},dz H = true -> (∀ b,b < H.length -> (aJ H b).isSome) /\ ∀ b cs,aJ H b = some cs -> ∀ p ∈ df cs,bp p = false
 | [],_ => ⟨fun b hb => by simp at hb,fun b cs h => by simp [aJ] at h⟩
 | none :: r,h => by simp [dz] at h
 | some ds :: r,h => by
   simp only [dz,aa,bH] at h;obtain ⟨h1,h2⟩ := zw h.2;refine ⟨fun b hb => ?_,fun b cs hb => ?_⟩
   ·cases b with
    | zero => simp [aJ]
    | succ b => have := h1 b (by simpa using hb); simpa [aJ] using this
   ·cases b with
    | zero =>
      simp [aJ] at hb;subst hb;intro p hp;exact jH h.1 p hp
    | succ b => exact h2 b cs (by simpa [aJ] using hb)
section
variable {P : Program} {X : Nat -> Prop} {φ j5 φ' : dF} {w w1 w' : World} {N N1 N' : Names} {s s' s1 : St} {Ha : Heap} {B : Nat -> Nat} {base : Nat} {v va : AV} {v' : Value} {c : eG} {a : Act} {call : Nat -> List AV -> Heap -> Option (AV × Heap)} {t : Nat -> Value}
structure Norm (X : Nat -> Prop) (φ : dF) (w : World) (N : Names) (s : St) (t : Nat -> Value) (ks : dF) (H2 : Heap) : Prop where
 u6 : eV (fun g => X g \/ (bM φ g /\ ¬ bM ks g)) ks w N s H2 t
 lj : fo φ w ks w
 good : ∀ n,(aJ H2 n).isSome -> (∃ b,(aJ s.H b).isSome /\ N.β b = n) \/ ∃ p,(az s p).isSome /\ N.ν p = some n
 refs : ∀ n cs,aJ H2 n = some cs -> ∀ c ∈ cs,iQ (fun m => (aJ H2 m).isSome) c
 sub : ∀ (n : Nat) (p : Nat × Nat),ks[n]? = some (some p) -> φ[n]? = some (some p)
 live : ∀ (n : Nat) (p : Nat × Nat),ks[n]? = some (some p) -> (aJ H2 n).isSome
 len : ks.length = φ.length
theorem eV.norm (h : eV X φ w N s Ha t) (jD : ∀ b,b < s.H.length -> (aJ s.H b).isSome) : ∃ ks H2,Norm X φ w N s t ks H2 := by
 have hP : ∀ n,∃ B : PB,(∀ b cs,aJ s.H b = some cs -> N.β b = n -> B = some (PM N (.c b) 0 cs)) /\ (∀ p k xs,az s p = some (k,xs) -> N.ν p = some n -> B = some (aA xs)) /\ (B.isSome -> (∃ b,(aJ s.H b).isSome /\ N.β b = n) \/ ∃ p,(az s p).isSome /\ N.ν p = some n) := by
  intro n;by_cases h1 : ∃ b cs,aJ s.H b = some cs /\ N.β b = n
  ·obtain ⟨b,cs,hb,hn⟩ := h1;refine ⟨some (PM N (.c b) 0 cs),fun b' cs' im Pw => ?_,fun p k xs hp Pw => ?_,fun _ => .inl ⟨b,by rw [hb]; rfl,hn⟩⟩
   ·have e := h.bi b b' (by rw [hb]; rfl) (by rw [im]; rfl) (by rw [hn,Pw]);subst e;rw [hb] at im; cases im; rfl
   ·exact absurd (by rw [Pw,hn]) (h.bx b p (by rw [hb]; rfl) (by rw [hp]; rfl))
  ·by_cases h2 : ∃ p k xs,az s p = some (k,xs) /\ N.ν p = some n
   ·obtain ⟨p,k,xs,hp,hn⟩ := h2;refine ⟨some (aA xs),fun b cs hb Pw => absurd ⟨b,cs,hb,Pw⟩ h1,fun p' k' xs' T5 Pw => ?_,fun _ => .inr ⟨p,by rw [hp]; rfl,hn⟩⟩;have e := h.inj p p' n (by rw [hp]; rfl) (by rw [T5]; rfl) hn Pw;subst e;rw [hp] at T5; cases T5; rfl
   ·exact ⟨none,fun b cs hb hn => absurd ⟨b,cs,hb,hn⟩ h1,fun p k xs hp hn => absurd ⟨p,k,xs,hp,hn⟩ h2,fun e => by cases e⟩
 obtain ⟨G,hG⟩ := Classical.axiomOfChoice hP;obtain ⟨H2,CW,hH2⟩ := ux Ha.length G;obtain ⟨ks,hlφ,AH⟩ : ∃ ks : dF,ks.length = φ.length /\ ∀ m,m < φ.length -> ks[m]? = some (if (G m).isSome then (φ[m]?).join else none) := ⟨(kB φ.length).map fun m => if (G m).isSome then (φ[m]?).join else none,by simp,fun m hm => by simp [hm]⟩;have hlen := h.heap.len
 have blk2 : ∀ n,n < Ha.length -> aJ H2 n = G n := fun n hn => by
  unfold aJ; rw [hH2 n hn]; cases G n <;> rfl
 have sub : ∀ (n : Nat) (p : Nat × Nat),ks[n]? = some (some p) -> φ[n]? = some (some p) /\ (G n).isSome := by
  intro n p hn;have bO := au hn;rw [hlφ] at bO;rw [AH n bO] at hn;split at hn
  ·rename_i hg;simp at hn;refine ⟨?_,hg⟩;cases e : φ[n]? with
   | none => rw [e] at hn; cases hn
   | some q => rw [e] at hn; simp at hn; rw [hn]
  ·simp at hn
 have Zq : ∀ g,bM ks g -> bM φ g := fun g ⟨b,sz,e⟩ => ⟨b,sz,(sub b _ e).1⟩;have lj : fo φ w ks w := ⟨rfl,rfl,rfl,aT _,aT _,fun g _ iB => ⟨rfl,fun ho => iB (Zq g ho)⟩,⟨by omega,fun b p _ hp => (sub b p hp).1⟩⟩;have hR : ∀ a u,Rd X φ w a u -> Rd (fun g => X g \/ (bM φ g /\ ¬ bM ks g)) ks w a u := fun a u ⟨h1,h2,h3⟩ => ⟨fun hx => hx.elim h1 fun hh => h2 hh.1,fun ho => h2 (Zq _ ho),h3⟩;have mono : ∀ {x : AV} {u : Value},bI (Rd X φ w) φ x u -> bI (Rd (fun g => X g \/ (bM φ g /\ ¬ bM ks g)) ks w) ks x u := fun r => r.mono hR lj.Tk
 have boxG : ∀ b cs,aJ s.H b = some cs -> aJ H2 (N.β b) = some (PM N (.c b) 0 cs) := fun b cs hb => by
  rw [blk2 _ (h.oX (by rw [hb]; rfl))];exact (hG (N.β b)).1 b cs hb rfl
 have ownG : ∀ p k xs n,az s p = some (k,xs) -> N.ν p = some n -> aJ H2 n = some (aA xs) := fun p k xs n hp hn => by
  rw [blk2 _ (h.gn (by rw [hp]; rfl) hn)];exact (hG n).2.1 p k xs hp hn
 have ag1 : ∀ n,(G n).isSome -> n < Ha.length -> ∀ e,φ[n]? = some e -> ks[n]? = some e := fun n hg hn e he => by
  rw [AH n (by omega),if_pos hg,he]; rfl
 have aap : cJ (fun g => X g \/ (bM φ g /\ ¬ bM ks g)) ks w H2 := by
  refine ⟨by omega,fun g hg => hg.elim (h.heap.Df g) (fun ho => (h.heap.gn ho.1).1),fun n cs hn => ?_,fun n hn => ?_,fun n n' g sz lk e1 e2 => h.heap.inj n n' g sz lk (sub _ _ e1).1 (sub _ _ e2).1⟩
  ·have bO : n < Ha.length := by have := au hn; omega
   rw [hH2 n bO] at hn;simp only [ah] at hn;have hg : (G n).isSome := by rw [hn]; rfl
   have fin : ∀ {as : List AV},aJ Ha n = some as -> (∀ (i : Nat) (d : AV),cs[i]? = some d -> ∃ a,as[i]? = some a /\ Le d a) -> cs.length <= as.length -> ∃ (g sz : Nat) (arr : Array Value) (e : TypeId),ks[n]? = some (some (g,sz)) /\ w.heap[g]? = some (.cells arr e (0,0)) /\ arr.size = sz /\ cs.length <= sz /\ ¬ (X g \/ (bM φ g /\ ¬ bM ks g)) /\ ∀ (i : Nat) (d : AV),cs[i]? = some d -> ∃ u,arr[i]? = some u /\ bI (Rd (fun g => X g \/ (bM φ g /\ ¬ bM ks g)) ks w) ks d u := by
    intro as has dC hle;obtain ⟨g,sz,arr,e,g1,g2,g3,g4,g5,g6⟩ := h.heap.at has;have h2 := ag1 n hg bO _ g1;refine ⟨g,sz,arr,e,h2,g2,g3,by omega,fun hx => hx.elim g5 fun hh => hh.2 ⟨n,sz,h2⟩,fun i d hd => ?_⟩;obtain ⟨a,ha,hle2⟩ := dC i d hd;obtain ⟨u,u1,u2⟩ := g6 i a ha;exact ⟨u,u1,mono (hle2 _ _ _ u2)⟩
   rcases (hG n).2.2 hg with ⟨b,hb,hbn⟩ | ⟨p,hp,hpn⟩
   ·obtain ⟨ds,kc⟩ := aW.1 hb;have := (hG n).1 b ds kc hbn;rw [hn] at this;simp at this;subst this;obtain ⟨as,a1,a2,a3⟩ := h.box b ds kc;rw [hbn] at a1;refine fin a1 (fun i d hd => ?_) (by rw [hM]; omega);rw [fO] at hd;cases hi : ds[i]? with
    | none => rw [hi] at hd; cases hd
    | some d0 =>
      rw [hi] at hd;simp at hd;subst hd;obtain ⟨_,a',b1,b2⟩ := a3 i d0 hi;exact ⟨a',b1,b2⟩
   ·obtain ⟨⟨k,xs⟩,hpx⟩ := aW.1 hp;have := (hG n).2.1 p k xs hpx hpn;rw [hn] at this;simp at this;subst this;have ho := h.own p k xs hpx;rw [hpn] at ho;obtain ⟨Un,c1,c2,c3,c4⟩ := ho;refine fin c1 (fun i d hd => ?_) (by rw [gC c3]; exact c2);obtain ⟨_,a',b1,_,b2⟩ := c4 i d hd;exact ⟨a',b1,b2⟩
  ·have bO : n < Ha.length := by have := au hn; omega
   rw [hH2 n bO] at hn;simp only [ah] at hn;rw [AH n (by omega),hn];rfl
 refine ⟨ks,H2,⟨⟨fun i => mono (h.env i),h.GQ,aap,fun p k xs e => ?_,fun b cs e => ?_,h.inj,h.bx,h.bi⟩,lj,fun n hn => ?_,fun n cs hn d hd => ?_,fun n p hp => (sub n p hp).1,fun n p hp => ?_,hlφ⟩⟩
 ·have ho := h.own p k xs e;cases hn : N.ν p with
  | none => rw [hn] at ho; exact ho
  | some n =>
    rw [hn] at ho;obtain ⟨Un,c1,c2,c3,c4⟩ := ho;refine ⟨aA xs,ownG p k xs n e hn,by rw [gC c3]; exact aT _,c3,fun i d hd => ?_⟩;obtain ⟨f1,_⟩ := c4 i d hd;exact ⟨f1,d,hd,(iC f1).2,Le.refl _⟩
 ·obtain ⟨as,a1,a2,a3⟩ := h.box b cs e;refine ⟨_,boxG b cs e,hM _ _ _ _,fun j d hd => ?_⟩;obtain ⟨b1,_⟩ := a3 j d hd;exact ⟨b1,iH N (.c b j) d,by rw [fO,hd]; simp,Le.refl _⟩
 ·obtain ⟨cs,dC⟩ := aW.1 hn;have bO : n < Ha.length := by have := eL dC; omega
  exact (hG n).2.2 (by rw [<- blk2 n bO]; exact hn)
 ·have eZ : ∀ b,b < s.H.length -> (aJ H2 (N.β b)).isSome := fun b hb => by
   obtain ⟨ds,kc⟩ := aW.1 (jD b hb);rw [boxG b ds kc]; rfl
  have lh : ∀ p,(az s p).isSome -> ∀ n,N.ν p = some n -> (aJ H2 n).isSome := fun p hp n hn => by
   obtain ⟨⟨k,xs⟩,hpx⟩ := aW.1 hp;rw [ownG p k xs n hpx hn]; rfl
  have bO : n < Ha.length := by have := eL hn; omega
  rcases (hG n).2.2 (by rw [<- blk2 n bO,hn]; rfl) with ⟨b,hb,hbn⟩ | ⟨p,hp,hpn⟩
  ·obtain ⟨ds,kc⟩ := aW.1 hb;have e := boxG b ds kc;rw [hbn,hn] at e;cases e;obtain ⟨j,hj⟩ := br hd;rw [fO] at hj;cases hi : ds[j]? with
   | none => rw [hi] at hj; cases hj
   | some d0 =>
     rw [hi] at hj;simp at hj;subst hj;obtain ⟨as,a1,a2,a3⟩ := h.box b ds kc
     exact XR (o := az s) (nb := s.H.length) eZ lh (r := .c b j) (fun k xs e => by
      have : az s (.c b j) = some (k,xs) := cH.2 (by simp only [at_,kc,hi,e]);rw [this]; rfl) (a3 j d0 hi).1
  ·obtain ⟨⟨k,xs⟩,hpx⟩ := aW.1 hp;have e := ownG p k xs n hpx hpn;rw [hn] at e;cases e;have ho := h.own p k xs hpx;rw [hpn] at ho;obtain ⟨Un,c1,c2,c3,c4⟩ := ho;obtain ⟨j,hj⟩ := br hd;exact Sc d (iC (c4 j d hj).1).1
 ·have bO : n < Ha.length := by have := au hp; omega
  rw [blk2 n bO];exact (sub n p hp).2
end
end Go.Bm

/- Calls of functions that share boxes. -/
namespace Go.Bm
open Go.Am
section
variable {P : Program} {X : Nat -> Prop} {φ j5 φ' : dF} {w w1 w' : World} {N N1 N' : Names} {s s' s1 : St} {Ha : Heap} {B : Nat -> Nat} {base : Nat} {v va : AV} {v' : Value} {c : eG} {o : Oper} {a : Act} {kd : Kd} {call : Nat -> List AV -> Heap -> Option (AV × Heap)} {t : Nat -> Value}
theorem tQ : ∀ {l : List AV},dx l = true -> ∀ (i : Nat) (z : AV),l[i]? = some z -> fG z = true
 | [],_,i,z,hz => by simp at hz
 | y :: r,h,i,z,hz => by
   simp only [dx,aa] at h;cases i with
   | zero => simp at hz; subst hz; exact h.1
   | succ i => exact tQ h.2 i z (by simpa using hz)
theorem eV.enter (h : eV X φ w N s Ha t) (jD : dz s.H = true) {args : List AV} {vargs : Array Value} (hp : dx args = true) (ho : ∀ (i : Nat) (x : AV),args[i]? = some x -> cZ (az s) s.H.length x) (hr : ∀ (i : Nat) (x : AV) (v : Value),args[i]? = some x -> vargs[i]? = some v -> bI (Rd X φ w) φ (cW N x) v) (hl : args.length = vargs.size) :
  eV X φ w N ⟨ei 0 args,s.H⟩ Ha (fun i => vargs.getD i undef) := by
 have CX : ∀ i,get (ei 0 args) i = args[i]?.getD .any := fun i => by rw [qF]; simp
 have iB : ∀ i,bN (get (ei 0 args) i) = false := fun i => by
  rw [CX];cases e : args[i]? with
  | none => rfl
  | some x => exact yJ (tQ hp i x e)
 have own : ∀ {p},(az ⟨ei 0 args,s.H⟩ p).isSome -> ∃ b j,p = .c b j := by
  intro p T5;cases p with
  | s i => rw [(eJ (s := ⟨ei 0 args,s.H⟩) (iB i)).1] at T5; cases T5
  | sc i j => rw [(eJ (s := ⟨ei 0 args,s.H⟩) (iB i)).2 j] at T5; cases T5
  | c b j => exact ⟨b,j,rfl⟩
 have box : ∀ b j,az ⟨ei 0 args,s.H⟩ (.c b j) = az s (.c b j) := fun b j => rfl;obtain ⟨_,hbor⟩ := zw jD;have aaj : ∀ {p : Rt},bp p = false -> ∃ b j,p = .c b j := fun {p} hp => by cases p <;> simp [bp] at hp; exact ⟨_,_,rfl⟩
 refine ⟨fun i => ?_,fun i => ?_,h.heap,fun p k xs e => ?_,fun b cs e => ?_,fun p q n e1 e2 e3 e4 => ?_,fun b p e1 e2 e3 => ?_,h.bi⟩
 ·show bI _ _ (j9 N i (get (ei 0 args) i)) _;rw [uW N i (iB i),CX];cases e : args[i]? with
  | none => exact .any _ _
  | some x =>
    obtain ⟨v,hv⟩ := cv (l := vargs) (i := i) (by have := au e; omega);simp only [Option.getD_some];rw [a8,hv];exact hr i x v e hv
 ·show cZ _ _ (get (ei 0 args) i);rw [CX];cases e : args[i]? with
  | none => trivial
  | some x => exact J0 (aT _) x (tQ hp i x e) (ho i x e)
 ·obtain ⟨b,j,rfl⟩ := own (p := p) (by rw [e]; rfl);exact h.own _ k xs e
 ·obtain ⟨as,g1,g2,g3⟩ := h.box b cs e;refine ⟨as,g1,g2,fun j d hd => ?_⟩;obtain ⟨g4,g5⟩ := g3 j d hd;refine ⟨CN (aT _) d (fun p T5 => ?_) g4,g5⟩;obtain ⟨b',j',rfl⟩ := aaj (hbor b cs e p (kg hd T5));rfl
 ·obtain ⟨b,j,rfl⟩ := own e1;obtain ⟨b',j',rfl⟩ := own e2;exact h.inj _ _ n e1 e2 e3 e4
 ·obtain ⟨b',j,rfl⟩ := own e2;exact h.bx b (.c b' j) e1 e2 e3
theorem shared (h : eV X φ w N s Ha t) (hb : (∀ b,b < base -> N.β b = B b) /\ base <= s.H.length) {env0 : Env} {t0 : Nat -> Value} {ks : dF} {H2 : Heap} (hn : Norm X φ w N ⟨env0,s.H⟩ t0 ks H2) (h0 : ∀ i,bN (get env0 i) = false)
  {r : AV} {H' H1 : Heap} {t1 : Nat -> Value} (fZ : eV (fun g => X g \/ (bM φ g /\ ¬ bM ks g)) j5 w1 N1 ⟨[(0,r)],H'⟩ H1 t1) (ad : fo ks w j5 w1) (eZ : ∀ b,b < s.H.length -> N1.β b = N.β b) (hle : s.H.length <= H'.length) (Ie : dz H' = true) (hbr : aN r = []) (iB : bN r = false) :
  ∃ φ',dY X φ' w1 B base ⟨ji fi s.env,H'⟩ r t (t1 0) /\ fo φ w φ' w1 := by
 obtain ⟨T8,hbor⟩ := zw Ie;have aaj : ∀ {p : Rt},bp p = false -> ∃ b j,p = .c b j := fun {p} hp => by cases p <;> simp [bp] at hp; exact ⟨_,_,rfl⟩
 obtain ⟨G9,H3,h3⟩ := fZ.norm T8;have l3 := h3.u6.heap.len;have l1 := h.heap.len;have l2 := hn.len;have l2h := hn.u6.heap.len;have pl : uQ ks G9 := ad.Tk.trans h3.lj.Tk;have hlen : φ.length <= G9.length := by have := pl.len; omega
 have ad2 : fo ks w G9 w1 := ad.trans h3.lj
 -- hidden: known to the caller, not to the callee
 let pc : Nat -> Bool := fun n => decide (n < φ.length) && !(ks[n]?.join).isSome
 have hid3 : ∀ n,pc n = true -> G9[n]? = some none /\ aJ H3 n = none := by
  intro n hh;simp only [pc,aa,decide_eq_true_eq,bH] at hh;obtain ⟨bO,hj⟩ := hh;obtain ⟨e,he⟩ := aV (l := G9) (i := n) (by omega)
  have h3n : G9[n]? = some none := by
   cases e with
   | none => exact he
   | some p =>
     have := pl.HT n p (by omega) he;rw [this] at hj; simp at hj
  refine ⟨h3n,?_⟩;cases hb3 : aJ H3 n with
  | none => rfl
  | some cs =>
    obtain ⟨g,sz,arr,ty,g1,_⟩ := h3.u6.heap.at hb3;rw [h3n] at g1; cases g1
 have HY : ∀ n,(aJ H3 n).isSome -> pc n = false := fun n hb3 => by
  cases hh : pc n with
  | false => rfl
  | true => rw [(hid3 n hh).2] at hb3; cases hb3
 obtain ⟨UK,hl4,hφ4⟩ : ∃ UK : dF,UK.length = G9.length /\ ∀ m,m < G9.length -> UK[m]? = if pc m then φ[m]? else G9[m]? := by
  refine ⟨(kB G9.length).map fun m => if pc m then (φ[m]?).join else (G9[m]?).join,by simp,fun m hm => ?_⟩;simp only [dQ,List.getElem?_range hm,cX];split
  ·rename_i hh;have bO : m < φ.length := by simp only [pc,aa,decide_eq_true_eq] at hh; exact hh.1
   rw [ai bO]; rfl
  ·rw [ai hm]; rfl
 obtain ⟨H4,hlh4,hH4⟩ := ux H3.length fun m => if pc m then (Ha[m]?).join else (H3[m]?).join
 have PI : ∀ n,pc n = true -> UK[n]? = φ[n]? := fun n hh => by
  have bO : n < φ.length := by simp only [pc,aa,decide_eq_true_eq] at hh; exact hh.1
  rw [hφ4 n (by omega),if_pos hh]
 have Lp : ∀ n,pc n = false -> UK[n]? = G9[n]? := fun n hh => by
  by_cases bO : n < G9.length
  ·rw [hφ4 n bO,hh]; rfl
  ·rw [eF (by omega),eF (by omega)]
 have H4h : ∀ n,pc n = true -> H4[n]? = Ha[n]? := fun n hh => by
  have bO : n < φ.length := by simp only [pc,aa,decide_eq_true_eq] at hh; exact hh.1
  rw [hH4 n (by omega),if_pos hh,ai (by omega)]; rfl
 have H4n : ∀ n,pc n = false -> H4[n]? = H3[n]? := fun n hh => by
  by_cases bO : n < H3.length
  ·rw [hH4 n bO,hh,ai bO]; rfl
  ·rw [eF (by omega),eF (by omega)]
 have aiG : ∀ n,pc n = true -> aJ H4 n = aJ Ha n := fun n hh => by unfold aJ; rw [H4h n hh]
 have aeU : ∀ n,pc n = false -> aJ H4 n = aJ H3 n := fun n hh => by unfold aJ; rw [H4n n hh]
 have own4 : ∀ {g},bM UK g -> (∃ n sz,pc n = true /\ φ[n]? = some (some (g,sz))) \/ ∃ n sz,pc n = false /\ G9[n]? = some (some (g,sz)) := by
  rintro g ⟨n,sz,e⟩;cases hh : pc n with
  | true => rw [PI n hh] at e; exact .inl ⟨n,sz,hh,e⟩
  | false => rw [Lp n hh] at e; exact .inr ⟨n,sz,hh,e⟩
 have hidX : ∀ {n g sz},pc n = true -> φ[n]? = some (some (g,sz)) -> bM φ g /\ ¬ bM ks g := by
  intro n g sz hh e;refine ⟨⟨n,sz,e⟩,fun ⟨m,lk,e'⟩ => ?_⟩;have := h.heap.inj n m g sz lk e (hn.sub m _ e');subst this;simp only [pc,aa,decide_eq_true_eq,bH] at hh;rw [e'] at hh; simp at hh
 have sub2 : ∀ {g},bM ks g -> bM φ g := fun ⟨m,sz,e⟩ => ⟨m,sz,hn.sub m _ e⟩
 have lj : fo φ w UK w1 := by
  refine ⟨ad2.os,ad2.tape,ad2.output,ad2.drawn,ad2.size,fun g hg iB => ?_,⟨by omega,fun n p bO hp => ?_⟩⟩
  ·obtain ⟨k1,k2⟩ := ad2.keep g hg (fun ho => iB (sub2 ho));refine ⟨k1,fun ho => ?_⟩;rcases own4 ho with ⟨n,sz,_,e⟩ | ⟨n,sz,_,e⟩
   ·exact iB ⟨n,sz,e⟩
   ·exact k2 ⟨n,sz,e⟩
  ·cases hh : pc n with
   | true => rwa [PI n hh] at hp
   | false =>
     rw [Lp n hh] at hp;exact hn.sub n p (pl.HT n p (by omega) hp)
 -- values of the callee
 have hR : ∀ a u,Rd (fun g => (X g \/ (bM φ g /\ ¬ bM ks g)) \/ (bM j5 g /\ ¬ bM G9 g)) G9 w1 a u -> Rd X UK w1 a u := fun a u ⟨p1,p2,p3⟩ => ⟨fun hx => p1 (.inl (.inl hx)),fun ho => by
  rcases own4 ho with ⟨n,sz,hh,e⟩ | ⟨n,sz,_,e⟩
  ·exact p1 (.inl (.inr (hidX hh e)))
  ·exact p2 ⟨n,sz,e⟩,p3⟩
 have tr34 : ∀ {x : AV} {u : Value},iQ (fun m => (aJ H3 m).isSome) x -> bI (Rd (fun g => (X g \/ (bM φ g /\ ¬ bM ks g)) \/ (bM j5 g /\ ¬ bM G9 g)) G9 w1) G9 x u -> bI (Rd X UK w1) UK x u := fun hx r => bI.refs hR r hx (by omega) fun b hb4 p hp => by rwa [Lp b (HY b hb4)] at hp
 have aap : cJ X UK w1 H4 := by
  refine ⟨by omega,fun g hg => Nat.lt_of_lt_of_le (h.heap.Df g hg) ad2.size,fun n cs e => ?_,fun n e => ?_,fun n n' g sz lk e1 e2 => ?_⟩
  ·cases hh : pc n with
   | true =>
     rw [H4h n hh] at e;obtain ⟨g,sz,arr,ty,g1,g2,g3,g4,g5,g6⟩ := h.heap.live n cs e;have hx := hidX hh g1;refine ⟨g,sz,arr,ty,by rw [PI n hh]; exact g1,?_,g3,g4,g5,fun i d hd => ?_⟩
     ·rw [(ad2.keep g (h.heap.gn hx.1).1 hx.2).1]; exact g2
     ·obtain ⟨u,u1,u2⟩ := g6 i d hd;exact ⟨u,u1,lj.rep u2⟩
   | false =>
     rw [H4n n hh] at e;obtain ⟨g,sz,arr,ty,g1,g2,g3,g4,g5,g6⟩ := h3.u6.heap.live n cs e;refine ⟨g,sz,arr,ty,by rw [Lp n hh]; exact g1,g2,g3,g4,fun hx => g5 (.inl (.inl hx)),fun i d hd => ?_⟩;obtain ⟨u,u1,u2⟩ := g6 i d hd;exact ⟨u,u1,tr34 (h3.refs n cs (rL.2 e) d (aR hd)) u2⟩
  ·cases hh : pc n with
   | true => rw [H4h n hh] at e; rw [PI n hh]; exact h.heap.dead n e
   | false => rw [H4n n hh] at e; rw [Lp n hh]; exact h3.u6.heap.dead n e
  ·have mix : ∀ {n n' sz lk},pc n = true -> pc n' = false -> φ[n]? = some (some (g,sz)) -> G9[n']? = some (some (g,lk)) -> False := by
    intro n n' sz lk hh hh' e1 e2;obtain ⟨cs,dC⟩ := aW.1 (h3.live n' _ e2);obtain ⟨g',sz2,arr,ty,g1,_,_,_,g5,_⟩ := h3.u6.heap.at dC;rw [e2] at g1; cases g1;exact g5 (.inl (.inr (hidX hh e1)))
   cases hh : pc n with
   | true =>
     rw [PI n hh] at e1;cases hh' : pc n' with
     | true => rw [PI n' hh'] at e2; exact h.heap.inj n n' g sz lk e1 e2
     | false => rw [Lp n' hh'] at e2; exact (mix hh hh' e1 e2).elim
   | false =>
     rw [Lp n hh] at e1;cases hh' : pc n' with
     | true => rw [PI n' hh'] at e2; exact (mix hh' hh e2 e1).elim
     | false => rw [Lp n' hh'] at e2; exact h3.u6.heap.inj n n' g sz lk e1 e2
 -- names
 let Nb : Names := ⟨N1.β,N.ν⟩
 let N4 : Names := ⟨N1.β,fun p => match p with
  | .c b j => N1.ν (.c b j)
  | p => N.ν p⟩
 have Zp : ∀ i,az ⟨ji fi s.env,H'⟩ (.s i) = az s (.s i) := fun i => by
  rw [<- iK vo s (.s i)]; rfl
 have Qw : ∀ i j,az ⟨ji fi s.env,H'⟩ (.sc i j) = az s (.sc i j) := fun i j => by
  rw [<- iK vo s (.sc i j)]; rfl
 have aic : ∀ b j,az ⟨ji fi s.env,H'⟩ (.c b j) = az ⟨[(0,r)],H'⟩ (.c b j) := fun b j => rfl
 have Jb : ∀ {p},(az ⟨ji fi s.env,H'⟩ p).isSome -> ((∃ b j,p = .c b j) /\ az ⟨ji fi s.env,H'⟩ p = az ⟨[(0,r)],H'⟩ p /\ N4.ν p = N1.ν p) \/ ((∀ b j,p ≠ .c b j) /\ az ⟨ji fi s.env,H'⟩ p = az s p /\ N4.ν p = N.ν p) := by
  intro p hp;cases p with
  | s i => exact .inr ⟨(fun _ _ e => by cases e),Zp i,rfl⟩
  | sc i j => exact .inr ⟨(fun _ _ e => by cases e),Qw i j,rfl⟩
  | c b j => exact .inl ⟨⟨b,j,rfl⟩,aic b j,rfl⟩
 -- blocks of slots are hidden
 have KC : ∀ {p n},(∀ b j,p ≠ .c b j) -> (az s p).isSome -> N.ν p = some n -> pc n = true := by
  intro p n T4 hp hnu;have bO : n < Ha.length := h.gn hp hnu;simp only [pc,aa,decide_eq_true_eq,bH];refine ⟨by omega,?_⟩;cases e : (ks[n]?).join with
  | none => rfl
  | some q =>
    exfalso
    have e' : ks[n]? = some (some q) := by
     cases e2 : ks[n]? with
     | none => rw [e2] at e; cases e
     | some z => rw [e2] at e; simp at e; rw [e]
    rcases hn.good n (hn.live n q e') with ⟨b,pg,m8⟩ | ⟨p',hp1,hp2⟩
    ·exact h.bx b p pg hp (by rw [hnu,<- m8])
    ·have hc : ∃ b j,p' = .c b j := by
      cases p' with
      | s i => rw [(eJ (s := ⟨env0,s.H⟩) (h0 i)).1] at hp1; cases hp1
      | sc i j => rw [(eJ (s := ⟨env0,s.H⟩) (h0 i)).2 j] at hp1; cases hp1
      | c b j => exact ⟨b,j,rfl⟩
     obtain ⟨b,j,rfl⟩ := hc;have := h.inj p (.c b j) n hp hp1 hnu hp2;exact T4 b j this
 have box3 : ∀ b,(aJ H' b).isSome -> (aJ H3 (N1.β b)).isSome := fun b im => by
  obtain ⟨cs,dC⟩ := aW.1 im;obtain ⟨as,a1,_⟩ := h3.u6.box b cs dC;rw [a1]; rfl
 have own3 : ∀ {p n},(az ⟨[(0,r)],H'⟩ p).isSome -> N1.ν p = some n -> (aJ H3 n).isSome := by
  intro p n hp hnu;obtain ⟨⟨k,xs⟩,e⟩ := aW.1 hp;have := h3.u6.own p k xs e;rw [hnu] at this;obtain ⟨cs,h1,_⟩ := this;rw [h1]; rfl
 have hl : ∀ k p a l,(cZ (az s) s.H.length (.dA k p a l) -> cZ (az ⟨ji fi s.env,H'⟩) s.H.length (fi (.dA k p a l)) /\ Le (cW N4 (fi (.dA k p a l))) (cW Nb (.dA k p a l))) /\ (cZ (az s) s.H.length (.eW k p a l) -> cZ (az ⟨ji fi s.env,H'⟩) s.H.length (fi (.eW k p a l)) /\ Le (cW N4 (fi (.eW k p a l))) (cW Nb (.eW k p a l))) := by
  intro k p a l;cases p with
  | s i =>
    refine ⟨fun h => ⟨?_,Le.refl _⟩,fun h => ⟨?_,Le.refl _⟩⟩
    ·simp only [fi,cZ] at h ⊢; rw [Zp]; exact h
    ·simp only [fi,cZ] at h ⊢; rw [Zp]; exact h
  | sc i j =>
    refine ⟨fun h => ⟨?_,Le.refl _⟩,fun h => ⟨?_,Le.refl _⟩⟩
    ·simp only [fi,cZ] at h ⊢; rw [Qw]; exact h
    ·simp only [fi,cZ] at h ⊢; rw [Qw]; exact h
  | c b j => exact ⟨fun _ => ⟨trivial,Le.any _⟩,fun _ => ⟨trivial,Le.any _⟩⟩
 have hsim : eV X UK w1 N4 ⟨ji fi s.env,H'⟩ H4 t := by
  refine ⟨fun i => ?_,fun i => ?_,aap,fun p k xs e => ?_,fun b cs e => ?_,fun p q n e1 e2 e3 e4 => ?_,fun b p e1 e2 e3 => ?_,fun b d e1 e2 e3 => h3.u6.bi b d e1 e2 e3⟩
  ·show bI _ _ (j9 N4 i (get (ji fi s.env) i)) _;rw [dt];have r0 := lj.rep (h.env i);have e0 : j9 N i (get s.env i) = j9 Nb i (get s.env i) := Dn (N := Nb) (N' := N) (o := az s) (nb := s.H.length) (fun b im => (eZ b im).symm) (fun _ _ => rfl) rfl (fun _ => rfl) (h.GQ i);rw [e0] at r0;refine aad (N := Nb) (N' := N4) (x := get s.env i) (y := cU fi (get s.env i)) (fun cs dC => ⟨dp fi cs,by rw [dC]; rfl,cI _ _,fun j c d hc hd => ?_⟩) (fun hna => ⟨kD vo hna,?_⟩) _ _ _ r0
   ·rw [eI,hc] at hd;simp at hd;subst hd;have dy := h.GQ i;rw [dC] at dy;simp only [cZ] at dy;exact (kF (N := Nb) (N' := N4) (o := az s) (o' := az ⟨ji fi s.env,H'⟩) (nb := s.H.length) (g := fi) rfl vo hl (r := .sc i j) (fun _ _ _ => rfl) (iv.1 dy j c hc)).2
   ·exact (kF (N := Nb) (N' := N4) (o := az s) (o' := az ⟨ji fi s.env,H'⟩) (nb := s.H.length) (g := fi) rfl vo hl (r := .s i) (fun _ _ _ => rfl) (h.GQ i)).2
  ·show cZ _ H'.length (get (ji fi s.env) i);rw [dt];exact kT (fun _ _ => rfl) hle _ (Kq (N := Nb) (N' := N4) (o := az s) (o' := az ⟨ji fi s.env,H'⟩) (nb := s.H.length) (g := fi) rfl vo hl _ (h.GQ i)).1
  ·rcases Jb (p := p) (by rw [e]; rfl) with ⟨⟨b,j,rfl⟩,e1,e2⟩ | ⟨T4,e1,e2⟩
   ·rw [e1] at e;rw [e2];exact (h3.u6.own _ k xs e).same fun n hnu => aeU n (HY n (own3 (by rw [e]; rfl) hnu))
   ·rw [e1] at e;rw [e2];exact (h.own p k xs e).same fun n hnu => aiG n (KC T4 (by rw [e]; rfl) hnu)
  ·obtain ⟨as,a1,a2,a3⟩ := h3.u6.box b cs e;refine ⟨as,by show aJ H4 (N1.β b) = _; rw [aeU _ (HY _ (by rw [a1]; rfl))]; exact a1,a2,fun j d hd => ?_⟩;obtain ⟨b1,a',b2,b3⟩ := a3 j d hd;have hbx : ∀ p ∈ aN d,∃ b j,p = .c b j := fun p hp => aaj (hbor b cs e p (kg hd hp));refine ⟨CN (aT _) d (fun p hp => ?_) b1,a',b2,?_⟩
   ·obtain ⟨b',j',rfl⟩ := hbx p hp; rfl
   ·have : iH N4 (.c b j) d = iH N1 (.c b j) d := Hf (N := N1) (N' := N4) rfl (fun _ _ _ => rfl) fun p hp => by obtain ⟨b',j',rfl⟩ := hbx p hp; rfl
    rw [this]; exact b3
  ·rcases Jb e1 with ⟨Lg,o1,u1⟩ | ⟨Lg,o1,u1⟩ <;> rcases Jb e2 with ⟨Ic,o2,u2⟩ | ⟨Ic,o2,u2⟩ <;> rw [o1] at e1 <;> rw [o2] at e2 <;> rw [u1] at e3 <;> rw [u2] at e4
   ·exact h3.u6.inj p q n e1 e2 e3 e4
   ·have a1 := HY n (own3 e1 e3);have a2 := KC Ic e2 e4;rw [a1] at a2; cases a2
   ·have a1 := HY n (own3 e2 e4);have a2 := KC Lg e1 e3;rw [a1] at a2; cases a2
   ·exact h.inj p q n e1 e2 e3 e4
  ·rcases Jb e2 with ⟨Ic,o2,u2⟩ | ⟨Ic,o2,u2⟩ <;> rw [o2] at e2 <;> rw [u2] at e3
   ·exact h3.u6.bx b p e1 e2 e3
   ·have a1 := HY _ (box3 b e1);have a2 := KC Ic e2 e3;have a3 : pc (N1.β b) = true := a2;rw [a1] at a3; cases a3
 have hr0 := h3.u6.env 0;simp only [Am.get,if_true] at hr0;rw [uW N1 0 iB] at hr0;have hok0 := h3.u6.GQ 0;simp only [Am.get,if_true] at hok0;refine ⟨UK,dY.quiet hsim ⟨fun b im => ?_,Nat.le_trans hb.2 hle⟩ (CN (aT _) r (fun p hp => by rw [hbr] at hp; simp at hp) hok0) (lZ iB) ?_,lj⟩
 ·show N1.β b = B b;rw [eZ b (by have := hb.2; omega)]; exact hb.1 b im
 ·rw [kO N4 iB];have : cW N4 r = cW N1 r := Dm (N := N1) (N' := N4) rfl fun p hp => by rw [hbr] at hp; simp at hp
  rw [this];refine tr34 (Jj (o := az ⟨[(0,r)],H'⟩) (nb := H'.length) (fun b im => box3 b (T8 b im)) (fun p hp n hnu => own3 hp hnu) r hok0) hr0
theorem Xq (dy : fm P c) (eU : hJ P c call) : Gv P c call := by
 intro X φ w B base s o a kd f args md q r H' hk h hg ha hf hm hp jD hbr iB Ie hc;obtain ⟨N,Ha,h,hb⟩ := h;obtain ⟨vargs,jw,hA,sY⟩ := xW dy h hg hk ha hf
 have hent : eV X φ w N ⟨ei 0 (args.map hO),s.H⟩ Ha (fun i => vargs.getD i undef) := by
  refine h.enter jD hp (fun i x hx => ?_) (fun i x v hx hv => ?_) (by simpa using hA.1)
  ·rw [dQ] at hx;cases OJ : args[i]? with
   | none => rw [OJ] at hx; cases hx
   | some y =>
     rw [OJ] at hx;simp at hx;subst hx;have hy := iv.1 sY i y OJ;unfold hO;split
     ·trivial
     ·exact hy
  ·rw [dQ] at hx;cases OJ : args[i]? with
   | none => rw [OJ] at hx; cases hx
   | some y =>
     rw [OJ] at hx;simp at hx;subst hx;have r0 := hA.2 i y v OJ hv;have hpy := tQ hp i (hO y) (by rw [dQ,OJ]; rfl);by_cases ho : ∃ k,y = .own k []
     ·obtain ⟨k,rfl⟩ := ho;simp only [fM] at r0;cases r0;exact .jC _ _
     ·have hn : hO y = y := by
       unfold hO;split
       ·rename_i k; exact absurd ⟨k,rfl⟩ ho
       ·rfl
      rw [hn] at hpy ⊢;have hy : fM N y = cW N y := by cases y <;> first | rfl | (simp [fG] at hpy; done)
      rw [hy] at r0;exact r0
 obtain ⟨T8,_⟩ := zw jD;obtain ⟨ks,H2,hn⟩ := hent.norm T8
 have h0 : ∀ i,bN (get (ei 0 (args.map hO)) i) = false := fun i => by
  rw [qF];simp only [Nat.zero_le,if_true,Nat.sub_zero];cases e : (args.map hO)[i]? with
  | none => rfl
  | some x => exact yJ (tQ hp i x e)
 have iS := eU f md q hf (args.map hO) s.H r H' (.inl hm) hc (fun _ => Ie) (fun g => X g \/ (bM φ g /\ ¬ bM ks g)) ks w N.β vargs (by simpa using hA.1) ⟨N,H2,hn.u6,fun _ _ => rfl,aT _⟩ (fun g => (hg g).mono (fun a u ⟨h1,h2,h3⟩ => ⟨fun hx => hx.elim h1 fun hh => h2 hh.1,fun ⟨m,sz,e⟩ => h2 ⟨m,sz,hn.sub m _ e⟩,h3⟩) (.refl _));intro K Q hK;unfold Oper.wp;rw [jw,Oper.upon_enter];refine iS.mono ?_;rintro e w1 ⟨v',j5,rfl,⟨N1,H1,fZ,pg,hle⟩,ad⟩;obtain ⟨φ',xQ,ad'⟩ := shared h hb hn h0 fZ ad pg hle Ie hbr iB;exact hK v' w1 φ' (by simpa using xQ) ad'
end
end Go.Bm

/- The machine by value is sound. -/
namespace Go.Bm
open Go.Am
section
variable {P : Program} {c : eG}
theorem Xk (dy : fm P c) (mY : zB P c) (ur : uR P c) (n : Nat) : Pl P c n :=
 PQ dy mY ur (fun call hc => Xq dy hc) (fun call hc => ahh dy (aeD dy mY hc (Xq dy hc))) (fun n hs => shOK dy ur hs) n
theorem ahs (dy : fm P c) (mY : zB P c) (ur : uR P c) (n : Nat) : hJ P c (nh c n) := ID dy ur (Xk dy mY ur n) (shOK dy ur (Xk dy mY ur n))
theorem aaW (dy : fm P c) (mY : zB P c) (ur : uR P c) {n f : Nat} {md : Md} {q : eR} (hf : c.fn f = some (md,q)) (jv : md.sh = false) {args : List AV} (hz : dK args = true) {r : AV} {H' : Heap} (h : nh c n f args [] = some (r,H')) (hr : pl r = true) {w : World} {vargs : Array Value}
  (ha : pY (fun _ => False) [] w args vargs) (hg : Am.ek (iq c) (fun _ => False) [] w) : Calls P f vargs w (fun e w' => ∃ v,e = .returned v /\ bI (Rd (fun _ => False) [] w') [] r v /\ RowKit.Below w.heap.size w w') :=
 Ww dy (ahs dy mY ur n) hf jv hz h hr ha hg
end
end Go.Bm

/- More fuel gives the same; runs without counting fuel. -/
namespace Go.Bm
open Go.Am
section
variable {c : eG}
abbrev k9 := Nat -> List AV -> Heap -> Option (AV × Heap)
def LeC (f g : k9) : Prop := ∀ n a H r,f n a H = some r -> g n a H = some r
theorem Q5 {f g : k9} (h : LeC f g) {kd : Kd} {s : St} {x : AV × St × Fq} (e : eh c f kd s = some x) : eh c g kd s = some x := by
 unfold eh at e ⊢;split at e
 ·cases e
 rename_i n args ha
 try simp only [ha]
 split at e
 ·cases e
 rename_i md q hf
 try simp only [hf]
 split at e
 ·rename_i hm
  try rw [if_pos hm]
  split at e
  ·cases e
  rename_i pE hz
  try simp only [hz]
  split at e
  case h_2 => cases e
  rename_i r H' hc;rw [h _ _ _ _ hc];exact e
 ·rename_i hm
  try rw [if_neg hm]
  split at e
  ·cases e
  rename_i n1 mC KF
  try simp only [KF]
  split at e
  case isFalse => cases e
  rename_i hff
  try rw [if_pos hff]
  split at e
  ·rename_i jv
   try rw [if_pos jv]
   split at e
   case isFalse => cases e
   rename_i hp
   try rw [if_pos hp]
   split at e
   case h_2 => cases e
   rename_i r H' hc;rw [h _ _ _ _ hc];exact e
  ·rename_i jv
   try rw [if_neg jv]
   split at e
   case isFalse => cases e
   rename_i hp
   try rw [if_pos hp]
   split at e
   case h_2 => cases e
   rename_i r H' hc;rw [h _ _ _ _ hc];exact e
theorem E8 {f : k9} {s : St} {kd : Kd} (h : lq c f s kd = none) (g : k9) : lq c g s kd = none := by
 unfold lq at h ⊢;split at h
 ·split at h
  ·cases h
  ·rename_i hl;exact if_neg hl
 ·rfl
theorem TO {f : k9} {s : St} {kd : Kd} {v : AV} {s1 : St} {fl : Fq} (h : lq c f s kd = some (some (v,s1,fl))) : ∃ n args H r H',f n args H = some (r,H') /\ ∀ g : k9,g n args H = some (r,H') -> lq c g s kd = some (some (v,s1,fl)) := by
 obtain ⟨n,x,es,b,md,q,cs,cs',rfl,h1,h2,h3,h4,h5,h6,h7,rfl,rfl⟩ := ua h;refine ⟨_,_,_,_,_,h6,fun g hg => ?_⟩;unfold lq;simp only;rw [if_pos h1];unfold Vy;rw [h2];simp only [h3,h4];rw [if_pos h5,hg];simp only;rw [if_pos h7]
theorem aco {f g : k9} (h : LeC f g) {kd : Kd} {s : St} {x : AV × St × Fq} (e : lq c f s kd = some (some x)) : lq c g s kd = some (some x) := by
 obtain ⟨v,s1,fl⟩ := x;obtain ⟨n,args,H,r,H',h1,h2⟩ := TO e;exact h2 g (h _ _ _ _ h1)
theorem acj {f : k9} {fn i : Nat} {s : St} {xs : List AV} {x : AV × St × Fq} (e : NY c f fn i s xs = some x) : ∃ n args H r H',f n args H = some (r,H') /\ ∀ g : k9,g n args H = some (r,H') -> NY c g fn i s xs = some x := by unfold NY at e;cases e
theorem HX {f : k9} {kd : Kd} {s : St} {x : AV × St × Fq} (e : pP c f s kd = some (some x)) : ∃ n args H r H',f n args H = some (r,H') /\ ∀ g : k9,g n args H = some (r,H') -> pP c g s kd = some (some x) := by
 unfold pP at e;split at e
 case h_2 => cases e
 rename_i fn es;split at e
 case h_2 => cases e
 rename_i i hi;simp only [ah] at e;obtain ⟨n,args,H,r,H',h1,h2⟩ := acj e;exact ⟨n,args,H,r,H',h1,fun g hg => by simp only [pP,hi,h2 g hg]⟩
theorem xJ {f : k9} {kd : Kd} {s : St} (h : pP c f s kd = none) (g : k9) : pP c g s kd = none := by
 unfold pP at h ⊢;split at h
 ·split at h
  ·cases h
  ·rename_i hm;simp only [hm]
 ·rfl
theorem Q6 {f g : k9} (h : LeC f g) {kd : Kd} {s : St} {x : AV × St × Fq} (e : fR c f kd s = some x) : fR c g kd s = some x := by
 unfold fR at e ⊢;cases hm : pP c f s kd with
 | none =>
   rw [hm] at e;rw [xJ hm g];obtain ⟨v,s1,fl⟩ := x;rcases iU e with e | e
   ·exact oP (Q5 h e)
   ·obtain ⟨n,args,H,r,H',h1,h2⟩ := RQ e;exact FK (h2 g (h _ _ _ _ h1))
 | some r =>
   rw [hm] at e;simp only at e;subst e;obtain ⟨n,args,H,r,H',h1,h2⟩ := HX hm;rw [h2 g (h _ _ _ _ h1)]
theorem FL {f g : k9} (h : LeC f g) {kd : Kd} {s : St} {x : AV × St × Fq} (e : dE c f kd s = some x) : dE c g kd s = some x := by
 unfold dE at e ⊢;cases hi : mw c s kd with
 | some r => rw [hi] at e; exact e
 | none =>
   rw [hi] at e;cases hl : lq c f s kd with
   | none => rw [hl] at e; rw [E8 hl g]; exact Q6 h e
   | some r =>
     rw [hl] at e;simp only at e;subst e;rw [aco h hl]
theorem ES {f g : k9} {s : St} {kd : Kd} (h : kV kd = false) : ft c f s kd = ft c g s kd := by
 cases kd <;> first | rfl | (simp [kV] at h)
theorem J3 {f g : k9} (h : LeC f g) {kd : Kd} {s : St} {x : AV × St × Fq} (e : ft c f s kd = some x) : ft c g s kd = some x := by
 cases hk : kV kd with
 | false => rw [<- ES (f := f) hk]; exact e
 | true =>
   cases kd <;> simp [kV] at hk
   ·simp only [ft] at e ⊢; exact FL h e
   ·simp only [ft] at e ⊢; exact FL h e
theorem Dq {f g : k9} (h : LeC f g) {s : St} {o : O} {x : St × Fq} (e : po c f s o = some x) : po c g s o = some x := by
 have op : ∀ {y : AV × St × Fq} {K : AV × St × Fq -> Option (St × Fq)},ft c f s o.kd = some y -> ft c g s o.kd = some y := fun h' => J3 h h';rw [tg] at e ⊢;cases hv : Cf c f s o with
 | none => rw [hv] at e; cases e
 | some y =>
   have : Cf c g s o = some y := by
    unfold Cf at hv ⊢;split at hv
    ·exact J3 h hv
    ·split at hv
     ·split at hv
      ·rename_i hb; simp only [hb,if_true]; exact J3 h hv
      ·rename_i hb; simp only [hb,if_false]; exact hv
     ·exact hv
     ·cases hv
   rw [hv] at e;rw [this];exact e
theorem CM {f g : k9} (h : LeC f g) : ∀ {os : List O} {s : St} {x : St × List Fq},pf c f os s = some x -> pf c g os s = some x
 | [],s,x,e => e
 | o :: r,s,x,e => by
   simp only [pf] at e ⊢;split at e
   case h_2 => cases e
   rename_i s1 fl h1;rw [Dq h h1];simp only;split at e
   case h_2 => cases e
   rename_i s2 m9 h2;rw [CM h h2];exact e
def LeR (f g : Nat -> C -> St -> Option (Ex × St)) : Prop := ∀ b cd s x,f b cd s = some x -> g b cd s = some x
theorem F6 {f g : Nat -> C -> St -> Option (Ex × St)} (h : LeR f g) : LeC (k7 c f) (k7 c g) := by
 intro n a H r e;unfold k7 at e ⊢;split at e
 ·exact e
 split at e
 ·cases e
 split at e
 case isFalse => cases e
 rename_i md fn hf hl;simp only [hl,if_true];split at e
 ·rename_i s' hs; rw [h _ _ _ _ hs]; exact e
 ·rename_i s' hs; rw [h _ _ _ _ hs]; exact e
 ·cases e
theorem FN : ∀ n,LeR (c8 c n) (c8 c (n + 1))
 | 0 => fun b cd s x e => by simp [c8] at e
 | n + 1 => by
   have ih := FN n;intro b cd s x e;unfold c8 at e ⊢;cases cd with
   | skip => exact e
   | ret => exact e
   | exit i => exact e
   | aH os dr un keep =>
     simp only at e ⊢;split at e
     case h_2 => cases e
     rename_i s' m9 hs;rw [CM (F6 ih) hs];exact e
   | seq a b' =>
     simp only at e ⊢;cases h1 : c8 c n b a s with
     | none => rw [h1] at e; cases e
     | some y =>
       obtain ⟨ex,s1⟩ := y;rw [h1] at e;rw [ih _ _ _ _ h1];cases ex with
       | normal => exact ih _ _ _ _ e
       | exit i => exact e
       | ret => exact e
   | cond y a b' =>
     simp only at e ⊢;split at e
     ·rename_i t ht;split at e
      ·rename_i h1; simp only [h1,if_true]; exact ih _ _ _ _ e
      ·rename_i h1; simp only [h1,if_false,bW]; exact ih _ _ _ _ e
     ·cases e
   | aJ i b' =>
     simp only at e ⊢;cases h1 : c8 c n b b' s with
     | none => rw [h1] at e; cases e
     | some y =>
       rw [h1] at e;rw [ih _ _ _ _ h1];exact e
   | loop b' =>
     simp only at e ⊢;cases h1 : c8 c n b b' s with
     | none => rw [h1] at e; cases e
     | some y =>
       obtain ⟨ex,s1⟩ := y;rw [h1] at e;rw [ih _ _ _ _ h1];cases ex with
       | normal => exact ih _ _ _ _ e
       | exit i => exact e
       | ret => exact e
theorem oQ {n m : Nat} (h : n <= m) : LeR (c8 c n) (c8 c m) := by
 induction h with
 | refl => exact fun _ _ _ _ e => e
 | step _ ih => exact fun b cd s x e => FN _ b cd s x (ih b cd s x e)
open Classical in
noncomputable def bL (c : eG) (b : Nat) (cd : C) (s : St) : Option (Ex × St) := if h : ∃ n x,c8 c n b cd s = some x then some (yq (iY h)) else none
theorem di {b : Nat} {cd : C} {s : St} {x : Ex × St} : bL c b cd s = some x ↔ ∃ n,c8 c n b cd s = some x := by
 unfold bL;constructor
 ·intro e;split at e
  ·rename_i h;have := iY (iY h);exact ⟨_,cK e ▸ this⟩
  ·cases e
 ·rintro ⟨n,e⟩;have h : ∃ n x,c8 c n b cd s = some x := ⟨n,x,e⟩;rw [dif_pos h];have := iY (iY h);have h1 := oQ (uS n (yq h)) _ _ _ _ e;have h2 := oQ (sV n (yq h)) _ _ _ _ this;rw [h1] at h2;cases h2;rfl
noncomputable def aY (c : eG) (f : Nat) (args : List AV) (H : Heap) : Option (AV × Heap) := k7 c (bL c) f args H
theorem kI (n : Nat) : LeR (c8 c n) (bL c) := fun b cd s x e => di.2 ⟨n,e⟩
theorem vI (n : Nat) : LeC (nh c n) (aY c) := F6 (kI n)
theorem kJ {f : Nat} {args : List AV} {H : Heap} {r : AV × Heap} : aY c f args H = some r ↔ ∃ n,nh c n f args H = some r := by
 constructor
 ·intro e;unfold aY k7 at e;split at e
  case h_1 =>
   rename_i g hg;exact ⟨0,by unfold nh k7; rw [hg]; exact e⟩
  rename_i ho;split at e
  ·cases e
  rename_i md fn hf;split at e
  case isFalse => cases e
  rename_i hl;split at e
  ·rename_i s' hs;obtain ⟨n,hn⟩ := di.1 hs;exact ⟨n,by unfold nh k7; simp only [ho,hf,hl,if_true,hn]; exact e⟩
  ·rename_i s' hs;obtain ⟨n,hn⟩ := di.1 hs;exact ⟨n,by unfold nh k7; simp only [ho,hf,hl,if_true,hn]; exact e⟩
  ·cases e
 ·rintro ⟨n,e⟩;exact vI n _ _ _ _ e
theorem Pd {n m : Nat} (h : n <= m) : LeC (nh c n) (nh c m) := F6 (oQ h)
theorem Tr {s : St} {kd : Kd} {x : AV × St × Fq} : ft c (aY c) s kd = some x ↔ ∃ n,ft c (nh c n) s kd = some x := by
 constructor
 ·intro e;cases hk : kV kd with
  | false => exact ⟨0,by rw [ES (g := aY c) hk]; exact e⟩
  | true =>
    have key0 : ∀ {kd : Kd},eh c (aY c) kd s = some x -> ∃ n,eh c (nh c n) kd s = some x := by
     intro kd e;unfold eh at e;split at e
     ·cases e
     rename_i f args ha;split at e
     ·cases e
     rename_i md q hf;split at e
     ·rename_i hm;split at e
      ·cases e
      rename_i pE hz;split at e
      case h_2 => cases e
      rename_i r H' hc;obtain ⟨n,hn⟩ := kJ.1 hc;refine ⟨n,?_⟩;unfold eh;simp only [ha,hf,hm,if_true,hz,hn];exact e
     ·rename_i hm;split at e
      ·cases e
      rename_i f1 mC KF;split at e
      case isFalse => cases e
      rename_i hff;split at e
      ·rename_i jv;split at e
       case isFalse => cases e
       rename_i hp;split at e
       case h_2 => cases e
       rename_i r H' hc;obtain ⟨n,hn⟩ := kJ.1 hc;refine ⟨n,?_⟩;unfold eh;rw [ha];simp only [hf];rw [if_neg hm,KF];simp only;rw [if_pos hff,if_pos jv,if_pos hp,hn];exact e
      ·rename_i jv;split at e
       case isFalse => cases e
       rename_i hp;split at e
       case h_2 => cases e
       rename_i r H' hc;obtain ⟨n,hn⟩ := kJ.1 hc;refine ⟨n,?_⟩;unfold eh;rw [ha];simp only [hf];rw [if_neg hm,KF];simp only;rw [if_pos hff,if_neg jv,if_pos hp,hn];exact e
    have key1 : ∀ {kd : Kd},fR c (aY c) kd s = some x -> ∃ n,fR c (nh c n) kd s = some x := by
     intro kd e;unfold fR at e ⊢;cases hm : pP c (aY c) s kd with
     | none =>
       rw [hm] at e;obtain ⟨v,s1,fl⟩ := x;rcases iU e with e | e
       ·obtain ⟨n,hn⟩ := key0 e;exact ⟨n,by rw [xJ hm]; exact oP hn⟩
       ·obtain ⟨m,args,H,r,H',h1,h2⟩ := RQ e;obtain ⟨n,hn⟩ := kJ.1 h1;exact ⟨n,by rw [xJ hm]; exact FK (h2 _ hn)⟩
     | some r =>
       rw [hm] at e;simp only at e;subst e;obtain ⟨m,args,H,r,H',h1,h2⟩ := HX hm;obtain ⟨n,hn⟩ := kJ.1 h1;exact ⟨n,by rw [h2 _ hn]⟩
    have key : ∀ {kd : Kd},dE c (aY c) kd s = some x -> ∃ n,dE c (nh c n) kd s = some x := by
     intro kd e;unfold dE at e ⊢;cases hi : mw c s kd with
     | some r => rw [hi] at e; exact ⟨0,e⟩
     | none =>
       rw [hi] at e;cases hl : lq c (aY c) s kd with
       | none =>
         rw [hl] at e;obtain ⟨n,hn⟩ := key1 e;exact ⟨n,by rw [E8 hl]; exact hn⟩
       | some r =>
         rw [hl] at e;simp only at e;subst e;obtain ⟨m,args,H,r,H',h1,h2⟩ := TO (v := x.1) (s1 := x.2.1) (fl := x.2.2) hl;obtain ⟨n,hn⟩ := kJ.1 h1;exact ⟨n,by rw [h2 _ hn]⟩
    cases kd <;> simp [kV] at hk
    ·simp only [ft] at e ⊢; exact key e
    ·simp only [ft] at e ⊢; exact key e
 ·rintro ⟨n,e⟩;exact J3 (vI n) e
theorem UY {s : St} {o : O} {x : St × Fq} : po c (aY c) s o = some x ↔ ∃ n,po c (nh c n) s o = some x := by
 constructor
 ·intro e;rw [tg] at e;cases hv : Cf c (aY c) s o with
  | none => rw [hv] at e; cases e
  | some y =>
    have : ∃ n,Cf c (nh c n) s o = some y := by
     unfold Cf at hv ⊢;split at hv
     ·obtain ⟨n,hn⟩ := Tr.1 hv;exact ⟨n,hn⟩
     ·split at hv
      ·split at hv
       ·rename_i hb;obtain ⟨n,hn⟩ := Tr.1 hv;exact ⟨n,by simp only [hb,if_true]; exact hn⟩
       ·rename_i hb; exact ⟨0,by simp only [hb,if_false]; exact hv⟩
      ·exact ⟨0,hv⟩
      ·cases hv
    obtain ⟨n,hn⟩ := this;refine ⟨n,?_⟩;rw [hv] at e;rw [tg,hn];exact e
 ·rintro ⟨n,e⟩;exact Dq (vI n) e
theorem EP : ∀ {os : List O} {s : St} {x : St × List Fq},pf c (aY c) os s = some x ↔ ∃ n,pf c (nh c n) os s = some x
 | [],s,x => ⟨fun e => ⟨0,e⟩,fun ⟨_,e⟩ => e⟩
 | o :: r,s,x => by
   constructor
   ·intro e;simp only [pf] at e;split at e
    case h_2 => cases e
    rename_i s1 fl h1;split at e
    case h_2 => cases e
    rename_i s2 m9 h2;obtain ⟨n,hn⟩ := UY.1 h1;obtain ⟨m,hm⟩ := EP.1 h2;refine ⟨max n m,?_⟩;simp only [pf];rw [Dq (Pd (uS n m)) hn];simp only;rw [CM (Pd (sV n m)) hm];exact e
   ·rintro ⟨n,e⟩;exact CM (vI n) e
theorem yM {α : Type} {a b : Option α} (h : ∀ x,a = some x ↔ b = some x) : a = b := by
 cases a with
 | none => cases b with
   | none => rfl
   | some y => exact ((h y).2 rfl)
 | some x => exact ((h x).1 rfl).symm
variable {b : Nat} {s : St}
theorem Re : bL c b .skip s = some (.normal,s) := di.2 ⟨1,rfl⟩
theorem Wk : bL c b .ret s = some (.ret,s) := di.2 ⟨1,rfl⟩
theorem Rf {i : Nat} : bL c b (.exit i) s = some (.exit i,s) := di.2 ⟨1,rfl⟩
noncomputable def LA (c : eG) (b : Nat) (y : C) : Option (Ex × St) -> Option (Ex × St)
 | some (.normal,s') => bL c b y s'
 | r => r
def regL (dr : Bool) (os : List O) (un : List (Nat × Nat)) (base : Nat) (keep : List Nat) : Option (St × List Fq) -> Option (Ex × St)
 | some (s',m9) => if dr = false \/ It os m9 un = true then (match Wb base keep s' with
   | some s2 => some (.normal,s2)
   | none => none) else none
 | none => none
def blkL (i : Nat) : Option (Ex × St) -> Option (Ex × St)
 | some (.exit j,s') => if j = i then some (.normal,s') else some (.exit j,s')
 | r => r
theorem qJ {x y : C} : bL c b (.seq x y) s = LA c b y (bL c b x s) := by
 apply yM;intro z;constructor
 ·intro e;obtain ⟨n,hn⟩ := di.1 e;cases n with
  | zero => simp [c8] at hn
  | succ n =>
    simp only [c8] at hn;cases h1 : c8 c n b x s with
    | none => rw [h1] at hn; cases hn
    | some w =>
      obtain ⟨ex,s1⟩ := w;rw [h1] at hn;rw [kI n _ _ _ _ h1];cases ex with
      | normal => exact kI n _ _ _ _ hn
      | exit i => exact hn
      | ret => exact hn
 ·intro e;cases h1 : bL c b x s with
  | none => rw [h1] at e; cases e
  | some w =>
    obtain ⟨ex,s1⟩ := w;rw [h1] at e;obtain ⟨n,hn⟩ := di.1 h1;cases ex with
    | normal =>
      obtain ⟨m,hm⟩ := di.1 e;refine di.2 ⟨max n m + 1,?_⟩;simp only [c8];rw [oQ (uS n m) _ _ _ _ hn];exact oQ (sV n m) _ _ _ _ hm
    | exit i => exact di.2 ⟨n + 1,by simp only [c8]; rw [hn]; exact e⟩
    | ret => exact di.2 ⟨n + 1,by simp only [c8]; rw [hn]; exact e⟩
theorem x7 {x : C} : bL c b (.loop x) s = LA c b (.loop x) (bL c b x s) := by
 apply yM;intro z;constructor
 ·intro e;obtain ⟨n,hn⟩ := di.1 e;cases n with
  | zero => simp [c8] at hn
  | succ n =>
    simp only [c8] at hn;cases h1 : c8 c n b x s with
    | none => rw [h1] at hn; cases hn
    | some w =>
      obtain ⟨ex,s1⟩ := w;rw [h1] at hn;rw [kI n _ _ _ _ h1];cases ex with
      | normal => exact kI n _ _ _ _ hn
      | exit i => exact hn
      | ret => exact hn
 ·intro e;cases h1 : bL c b x s with
  | none => rw [h1] at e; cases e
  | some w =>
    obtain ⟨ex,s1⟩ := w;rw [h1] at e;obtain ⟨n,hn⟩ := di.1 h1;cases ex with
    | normal =>
      obtain ⟨m,hm⟩ := di.1 e;refine di.2 ⟨max n m + 1,?_⟩;simp only [c8];rw [oQ (uS n m) _ _ _ _ hn];exact oQ (sV n m) _ _ _ _ hm
    | exit i => exact di.2 ⟨n + 1,by simp only [c8]; rw [hn]; exact e⟩
    | ret => exact di.2 ⟨n + 1,by simp only [c8]; rw [hn]; exact e⟩
theorem Iw {i : Nat} {x : C} : bL c b (.aJ i x) s = blkL i (bL c b x s) := by
 apply yM;intro z;constructor
 ·intro e;obtain ⟨n,hn⟩ := di.1 e;cases n with
  | zero => simp [c8] at hn
  | succ n =>
    simp only [c8] at hn;cases h1 : c8 c n b x s with
    | none => rw [h1] at hn; cases hn
    | some w => rw [h1] at hn; rw [kI n _ _ _ _ h1]; exact hn
 ·intro e;cases h1 : bL c b x s with
  | none => rw [h1] at e; cases e
  | some w =>
    obtain ⟨n,hn⟩ := di.1 h1;rw [h1] at e;exact di.2 ⟨n + 1,by simp only [c8]; rw [hn]; exact e⟩
theorem Rg {v : E} {t : Bool} {x y : C} (h : bn c s.env v = .bool t) : bL c b (.cond v x y) s = if t then bL c b x s else bL c b y s := by
 apply yM;intro z;constructor
 ·intro e;obtain ⟨n,hn⟩ := di.1 e;cases n with
  | zero => simp [c8] at hn
  | succ n =>
    simp only [c8,h] at hn;cases t with
    | true => exact kI n _ _ _ _ hn
    | false => exact kI n _ _ _ _ hn
 ·intro e;cases t with
  | true => obtain ⟨n,hn⟩ := di.1 e; exact di.2 ⟨n + 1,by simp only [c8,h]; exact hn⟩
  | false => obtain ⟨n,hn⟩ := di.1 e; exact di.2 ⟨n + 1,by simp only [c8,h]; exact hn⟩
theorem Wl {os : List O} {dr : Bool} {un : List (Nat × Nat)} {keep : List Nat} : bL c b (.aH os dr un keep) s = regL dr os un b keep (pf c (aY c) os s) := by
 apply yM;intro z;constructor
 ·intro e;obtain ⟨n,hn⟩ := di.1 e;cases n with
  | zero => simp [c8] at hn
  | succ n =>
    simp only [c8] at hn;split at hn
    case h_2 => cases hn
    rename_i s' m9 h1;rw [EP.2 ⟨n,h1⟩];exact hn
 ·intro e;cases h1 : pf c (aY c) os s with
  | none => rw [h1] at e; cases e
  | some w =>
    obtain ⟨n,hn⟩ := EP.1 h1;rw [h1] at e;refine di.2 ⟨n + 1,?_⟩;simp only [c8];have Pw : pf c (k7 c (c8 c n)) os s = some w := hn;rw [Pw];exact e
theorem aaX {f : Nat} {md : Md} {q : eR} {args : List AV} {H : Heap} (ho : c.orc f = none) (hf : c.fn f = some (md,q)) (hl : args.length <= q.n) : aY c f args H = (match bL c H.length q.body ⟨ei 0 args,H⟩ with
  | some (.ret,s) => (match nO c s q.res with
    | some vs => aZ md H.length s (m6 vs)
    | none => none)
  | some (.normal,s) => (match nO c s q.res with
    | some vs => aZ md H.length s (m6 vs)
    | none => none)
  | _ => none) := by
 unfold aY k7;simp only [EN,ho,hf,hl,if_true];generalize bL c H.length q.body ⟨ei 0 args,H⟩ = z;cases z with
 | none => rfl
 | some w =>
   obtain ⟨e,s⟩ := w;cases e <;> rfl
end
end Go.Bm

/- Arguments that came in, by value; answers that are bools. -/
namespace Go.Am
open Go.ChangeShapes Go.WideShapes
def Pm (k : IntKind) (w : World) (a : Option Addr) (len cap : Nat) (zs : List Int) : Prop :=
 (a = none /\ len = 0 /\ cap = 0 /\ zs = []) \/
 ∃ x,a = some x /\ len <= cap /\ cap <= maxLen /\ zs.length = cap /\ (∀ i,i < zs.length -> w.cell? (x.add i) = some (.int k (zs.getD i 0))) /\ ∀ n ∈ zs,(Lit.int k n).wf = true
theorem XD {k : IntKind} {w : World} {a : Option Addr} {len cap : Nat} {zs : List Int} (h : Pm k w a len cap zs) : bI (Rd (fun _ => False) [] w) [] (.list 1 ((zs.take len).map (AV.int k))) (.slice a len cap) := by
 rcases h with ⟨rfl,rfl,rfl,rfl⟩ | ⟨x,rfl,hl,hm,hz,fQ,hwz⟩
 ·exact .jC _ _
 ·refine .qC _ 1 _ x len cap (fun i _ => .int k (zs.getD i 0)) (by simp; omega) hl ?_ ?_ ?_
  ·intro y hy;obtain ⟨n,_,rfl⟩ := List.mem_map.mp hy;rfl
  ·intro i j y c hy hc;have hi : i < ((zs.take len).map (AV.int k)).length := (List.getElem?_eq_some_iff.mp hy).1;simp at hi;rw [dQ] at hy;cases GW : (zs.take len)[i]? with
   | none => rw [GW] at hy; cases hy
   | some n =>
     rw [GW] at hy;cases hy;cases j with
     | succ j => simp [AV.cells] at hc
     | zero => exact ⟨id,bM.nil _,by simpa using fQ i (by omega)⟩
  ·intro i j y c hy hc;rw [dQ] at hy;cases GW : (zs.take len)[i]? with
   | none => rw [GW] at hy; cases hy
   | some n =>
     rw [GW] at hy;cases hy;cases j with
     | succ j => simp [AV.cells] at hc
     | zero =>
       simp [AV.cells] at hc;subst hc
       have e : zs.getD i 0 = n := by
        rw [List.getElem?_take] at GW;split at GW
        ·simp [List.getD,GW]
        ·cases GW
       rw [e];exact .int _ _ _
theorem pY.nil {X : Nat -> Prop} {φ : dF} {w : World} : pY X φ w [] #[] := ⟨rfl,fun i x v h => by simp at h⟩
theorem pY.cons {X : Nat -> Prop} {φ : dF} {w : World} {x : AV} {v : Value} {xs : List AV} {vs : List Value} (h : bI (Rd X φ w) φ x v) (r : pY X φ w xs vs.toArray) : pY X φ w (x :: xs) (v :: vs).toArray := by
 obtain ⟨r1,r2⟩ := r;refine ⟨by simpa using r1,fun i y u hy hu => ?_⟩;cases i with
 | zero =>
   simp at hy hu;subst hy hu;exact h
 | succ i =>
   refine r2 i y u (by simpa using hy) (by simpa using hu)
theorem LU {R : Addr -> Value -> Prop} {φ : dF} {b : Bool} {v : Value} (h : bI R φ (.bool b) v) : v = .bool b := by cases h; rfl
end Go.Am
namespace Go.Bm
open Go.Am
theorem Pc {P : Program} {c : eG} (dy : fm P c) (mY : zB P c) (ur : uR P c) {f : Nat} {md : Md} {q : eR} (hf : c.fn f = some (md,q)) (jv : md.sh = false) {args : List AV} {b : Bool} {H' : Heap} (h : aY c f args [] = some (.bool b,H')) (hz : dK args = true) {w : World} {vargs : Array Value}
  (ha : pY (fun _ => False) [] w args vargs) (hg : Am.ek (iq c) (fun _ => False) [] w) : Calls P f vargs w (fun e w' => e = .returned (.bool b) /\ RowKit.Below w.heap.size w w') := by
 obtain ⟨n,hn⟩ := kJ.1 h;refine (aaW dy mY ur hf jv hz hn rfl ha hg).mono ?_;rintro e w' ⟨v,rfl,hr,hb⟩;rw [LU hr];exact ⟨rfl,hb⟩
theorem V2 {c : eG} (h : ∀ g,c.gl g = []) {w : World} : Am.ek (iq c) (fun _ => False) [] w := by
 intro g;show bI _ [] (.dI (c.gl g)) _;rw [h g];exact .dI _ _ _ (fun _ => undef) (fun j c hj => by simp at hj) (fun j c hj => by simp at hj)
end Go.Bm

/- Calls that are known ahead: a table of runs, each proved by itself. -/
namespace Go.Bm
open Go.Am
structure Fact where
 f : Nat
 args : List AV
 H : Heap
 r : AV
 H' : Heap
end Go.Bm
