/- The machine by value: open orders, shared boxes; the whole. -/
import Derived.Test.YteomjfokokneoaaDoorMd
import Derived.ProofKit
import Derived.WalkKit
import Derived.OpenShut
/- What a pure operation answers depends on the slots it reads. -/
set_option linter.unusedSimpArgs false
set_option linter.unusedVariables false
open Array renaming getD_eq_getD_getElem? → aY, replicate → oP
open Bool renaming and_eq_true → ab, false_and → fE, false_eq_true → aX, not_eq_true' → bt, or_eq_false_iff → fg, or_eq_true → er
open Classical renaming choose → yf, choose_spec → iO
open List renaming getD_eq_getElem?_getD → cM, getElem?_drop → aV, getElem?_eq_getElem → aI, getElem?_eq_none → c9, getElem?_map → df, getElem?_of_mem → bD, head?_eq_getElem? → tW, isEmpty_iff → eY, length_set → k8, mem_append → aD, mem_cons → aJ, mem_of_getElem? → bf, mem_of_mem_drop → cI, mem_of_mem_take → cH, mem_singleton → cv, range → pN, set_append_left → Qn
open Nat renaming le_max_left → vp, le_max_right → tP, le_refl → aS
open Option renaming isSome_iff_exists → aW, map_some → cJ
open Option.some renaming inj → dm, injEq → aj
open Prod.mk renaming injEq → aF
namespace Go.Bm
open Go.Am
section
variable {P : Program} {c : dN} {call : Nat -> List AV -> Heap -> Option (AV × Heap)}
theorem bQ {e1 e2 : Env} {x : E} (h : ∀ i ∈ x.slot,eG i (get e1 i) = eG i (get e2 i)) : bn c e1 x = bn c e2 x := by
 cases x with
 | t i => exact h i (by simp [E.slot])
 | k x => rfl
 | g i => rfl
theorem fX {e1 e2 : Env} : ∀ {xs : List E},(∀ i ∈ lk xs,eG i (get e1 i) = eG i (get e2 i)) -> di c e1 xs = di c e2 xs
 | [],_ => rfl
 | x :: r,h => by
   simp only [lk,aD] at h;simp only [di];rw [bQ fun i hi => h i (.inl hi),fX fun i hi => h i (.inr hi)]
theorem qi {e1 e2 : Env} : ∀ {ps : List (Nat × Nat × E)} {zs : List AV},(∀ i ∈ oU ps,eG i (get e1 i) = eG i (get e2 i)) -> n8 c e1 zs ps = n8 c e2 zs ps
 | [],_,_ => by simp [n8]
 | (o,s,x) :: r,zs,h => by
   simp only [oU,aD] at h;simp only [n8];rw [bQ (c := c) fun i hi => h i (.inl hi)];split
   ·exact qi fun i hi => h i (.inr hi)
   ·rfl
theorem ph {e1 e2 : Env} : ∀ {ps : List (Nat × Nat × E)},(∀ i ∈ oU ps,eG i (get e1 i) = eG i (get e2 i)) -> gg c e1 ps = gg c e2 ps
 | [],_ => by simp [gg]
 | (o,s,x) :: r,h => by
   simp only [oU,aD] at h;simp only [gg];rw [bQ (c := c) fun i hi => h i (.inl hi),ph fun i hi => h i (.inr hi)]
theorem xT {e1 e2 : Env} {d m : Nat} {x : Option E} (h : ∀ i ∈ Hf x,eG i (get e1 i) = eG i (get e2 i)) : xU c e1 d m x = xU c e2 d m x := by
 cases x with
 | none => rfl
 | some x => simp only [xU]; rw [bQ h]
theorem Ia {e1 e2 : Env} {kd : Kd} (h : ∀ i ∈ kd.reads,eG i (get e1 i) = eG i (get e2 i)) : Pb c e1 kd = Pb c e2 kd := by
 cases kd <;> simp only [Kd.reads,aD] at h <;> simp only [Pb]
 case pick x y z => rw [bQ (c := c) fun i hi => h i (.inl hi),bQ (c := c) fun i hi => h i (.inr (.inl hi)),bQ (c := c) fun i hi => h i (.inr (.inr hi))]
 case build => rw [qi (c := c) h]
 case Av k x lo hi => rw [bQ (c := c) fun i hi => h i (.inl hi)]; simp only [xT (c := c) fun i hi => h i (.inr (.inl hi)),xT (c := c) fun i hi => h i (.inr (.inr hi))]
 case I8 n x u => rw [bQ (c := c) fun i hi => h i (.inl hi)]
 case min => rw [fX (c := c) h]
 case max => rw [fX (c := c) h]
 case GC => rw [fX (c := c) fun i hi => h i (.inl hi),fX (c := c) fun i hi => h i (.inr hi)]
 all_goals first
  | rfl
  | rw [bQ (c := c) h]
  | rw [bQ (c := c) fun i hi => h i (.inl hi),bQ (c := c) fun i hi => h i (.inr hi)]
theorem Fz {e1 e2 : Env} {kd : Kd} (h : ∀ i ∈ kd.reads,eG i (get e1 i) = eG i (get e2 i)) : nu c e1 kd = nu c e2 kd := by
 cases kd <;> simp only [nu]
 case call => rw [fX (c := c) h]
 case gw =>
  simp only [Kd.reads,aD] at h;rw [bQ (c := c) fun i hi => h i (.inl hi),fX (c := c) fun i hi => h i (.inr hi)]
theorem gV {e1 e2 : Env} {kd : Kd} (h : ∀ i ∈ kd.reads,eG i (get e1 i) = eG i (get e2 i)) : getArgs c e1 kd = getArgs c e2 kd := by
 unfold getArgs;rw [Fz h]
def Seen (ps : List Rt) (s t : St) : Prop := ∀ p ∈ ps,aC t p = aC s p /\ ∀ b l,p = .c b l -> aH t.H b = aH s.H b
theorem O6 {s t : St} {ag : Option Nat} {x v : AV} {ps : List Rt} (h : xy s ag x = some (v,ps)) (hs : Seen ps s t) : xy t ag x = some (v,ps) := by
 unfold xy at h ⊢;split at h
 ·exact h
 ·rename_i b off;split at h
  case h_2 => cases h
  rename_i cs hb;split at h
  case h_2 => cases h
  rename_i u hu;simp only [aj,aF] at h;obtain ⟨rfl,rfl⟩ := h;have := (hs _ (cv.2 rfl)).2 b _ rfl;simp only [this,hb,hu]
 ·rename_i k p i off;split at h
  case h_2 => cases h
  rename_i k' xs ho;split at h
  case isFalse => cases h
  rename_i hk;split at h
  case h_2 => cases h
  rename_i y hy;split at h
  case h_2 => cases h
  rename_i u hu;simp at h;obtain ⟨rfl,rfl⟩ := h;have := (hs p (by simp)).1;simp only [this,ho,hk,if_true,hy,hu]
 ·cases h
def pL (b j : Nat) (s t : St) : Prop := ∀ cs,aH s.H b = some cs -> ∃ ds,aH t.H b = some ds /\ (fh (.c b) 0 ds)[j]? = (fh (.c b) 0 cs)[j]?
def wZ (f : Fq) (s t : St) : Prop := (∀ ps,f = .rd ps -> Seen ps s t) /\ ∀ b j,f = .rc b j -> pL b j s t
theorem sU (f : Nat -> Rt) : ∀ {cs ds : List AV} {j i : Nat},cs[i]? = ds[i]? -> (fh f j cs)[i]? = (fh f j ds)[i]?
 | [],[],_,_,_ => rfl
 | [],d :: ds,j,0,h => by simp at h
 | c :: cs,[],j,0,h => by simp at h
 | [],d :: ds,j,i + 1,h => by
   have := sU f (cs := []) (ds := ds) (j := j + 1) (i := i) (by simpa using h);cases d <;> simpa [fh] using this
 | c :: cs,[],j,i + 1,h => by
   have := sU f (cs := cs) (ds := []) (j := j + 1) (i := i) (by simpa using h);cases c <;> simpa [fh] using this
 | c :: cs,d :: ds,j,0,h => by
   simp at h;subst h;cases c <;> simp [fh]
 | c :: cs,d :: ds,j,i + 1,h => by
   have := sU f (cs := cs) (ds := ds) (j := j + 1) (i := i) (by simpa using h);cases c <;> cases d <;> simpa [fh] using this
theorem ZN {ag : Option Nat} {cs ds : List AV} {k : Nat} {p : Rt} {o l : Nat} (h : Jp ag cs = some (.dp k p o l)) (e : ds[0]? = cs[0]?) : Jp ag ds = some (.dp k p o l) := by
 unfold Jp AE at h ⊢;cases ag with
 | some n => simp only at h ⊢; (repeat' split at h) <;> simp_all
 | none =>
   simp only at h ⊢;have : ds.head? = cs.head? := by rw [tW,tW]; exact e
   rw [this]; exact h
theorem Ua {s t : St} {ag : Option Nat} {x v : AV} {ps : List Rt} (h : xy s ag x = some (v,ps)) (hs : wZ (uL x v ps) s t) : xy t ag x = some (v,ps) := by
 by_cases hx : ∃ b off k o l,x = .ptr b off /\ v = .dp k (.c b off) o l
 ·obtain ⟨b,off,k,o,l,rfl,rfl⟩ := hx;have Zh := hs.2 b off (by simp [uL]);unfold xy at h ⊢;simp only at h ⊢;split at h
  case h_2 => cases h
  rename_i cs hb;split at h
  case h_2 => cases h
  rename_i u hu;simp only [aj,aF] at h;obtain ⟨rfl,h2⟩ := h;obtain ⟨ds,d1,d2⟩ := Zh cs hb
  have : Jp ag ((fh (.c b) 0 ds).drop off) = some (.dp k (.c b off) o l) := ZN hu (by
   rw [aV,aV];simpa using d2)
  simp only [d1,this,h2]
 ·refine O6 h (hs.1 ps ?_);unfold uL;split
  ·rename_i b off k d j o l;split
   ·rename_i hc;obtain ⟨rfl,rfl⟩ := hc;exact absurd ⟨_,_,_,_,_,rfl,rfl⟩ hx
   ·rfl
  ·rfl
end
end Go.Bm

/- Operations that change nothing that is there: what they answer depends on the slots they read and on the places they name. -/
namespace Go.Bm
open Go.Am
section
variable {P : Program} {c : dN} {call : Nat -> List AV -> Heap -> Option (AV × Heap)}
theorem Seen.left {ps qs : List Rt} {s t : St} (h : Seen (ps ++ qs) s t) : Seen ps s t := fun p hp => h p (by simp [hp])
theorem Seen.right {ps qs : List Rt} {s t : St} (h : Seen (ps ++ qs) s t) : Seen qs s t := fun p hp => h p (by simp [hp])
mutual
theorem FA {b : Bool} {s t : St} : ∀ x,Seen (aL x) s t -> kg b t x = kg b s x
 | .dp k p off len,h => by simp only [kg]; rw [(h p (by simp [aL])).1]
 | .agg cs,h => by simp only [kg]; rw [px cs (by simpa [aL] using h)]
 | .dW cs,h => by simp only [kg]; rw [px cs (by simpa [aL] using h)]
 | .func f a b',h => by
   have h' : Seen (cQ a ++ cQ b') s t := by simpa [aL] using h
   simp only [kg]; rw [px a h'.left,px b' h'.right]
 | .own _ _,_ => rfl
 | .ptr _ _,_ => rfl
 | .eK _ _ _ _,_ => rfl
 | .sl _ _ _ _,_ => rfl
 | .any,_ => rfl
 | .undef,_ => rfl
 | .bool _,_ => rfl
 | .int _ _,_ => rfl
 | .fi,_ => rfl
 | .eV,_ => rfl
 | .dc,_ => rfl
 | .str _,_ => rfl
 | .cX _,_ => rfl
 | .list _ _,_ => rfl
theorem px {b : Bool} {s t : St} : ∀ xs,Seen (cQ xs) s t -> CF b t xs = CF b s xs
 | [],_ => rfl
 | x :: r,h => by
   have h' : Seen (aL x ++ cQ r) s t := by simpa [cQ] using h
   simp only [CF]; rw [FA x h'.left,px r h'.right]
end
theorem PY {s t : St} {k : Nat} {x : AV} (h : Seen (aL x) s t) : cont t k x = cont s k x := by
 cases x <;> try rfl
 case dp k' p off len => simp only [cont]; rw [(h p (by simp [aL])).1]
 case own k' xs => cases xs <;> rfl
theorem PN {s t : St} {k b off len : Nat} (h : Seen [.c b 1] s t) : Nv t k b off len = Nv s k b off len := by
 unfold Nv;rw [(h _ (cv.2 rfl)).2 b 1 rfl]
theorem FD {s t : St} : ∀ xs,Seen (cQ xs ++ Dt xs) s t -> s6 t xs = s6 s xs
 | [],_ => rfl
 | x :: r,h => by
   have hb : Seen (aL x ++ cQ r) s t := by simpa [cQ] using h.left
   have hsl : Seen (Dt r) s t := fun p hp => h p (aD.2 (.inr (by cases x <;> simp [Dt,hp])));have ih := FD r fun p hp => (aD.1 hp).elim (fun q => hb.right p q) (hsl p);have hx := FA (b := false) x hb.left;cases x <;> try (simp only [s6]; rw [hx,ih]; done)
   case sl k b off len =>
    simp only [s6];rw [ih,PN fun p hp => h p (aD.2 (.inr (by simp [Dt,cv.1 hp])))]
   case own k xs =>
    cases xs with
    | nil => simp only [s6]; rw [ih]
    | cons y ys => simp only [s6]; rw [hx,ih]
def calm : Fq -> Bool
 | .no | .rc _ _ | .rd _ | .al _ => true
 | _ => false
def xX (s s1 : St) (kd : Kd) (f : Fq) (v : AV) (g : St -> Option (AV × St × Fq)) : Prop :=
 ∃ T,s1 = ⟨s.env,s.H ++ T⟩ /\ (T = [] \/ ∃ z,T = [z] /\ f = .al s.H.length) /\ ∀ t : St,(∀ i ∈ kd.reads,eG i (get t.env i) = eG i (get s.env i)) -> wZ f s t -> (∀ n,f = .al n -> t.H.length = n) -> g t = some (v,⟨t.env,t.H ++ T⟩,f)
theorem uK (x v : AV) (ps : List Rt) : uL x v ps = .rd ps \/ ∃ b j,uL x v ps = .rc b j := by
 unfold uL;split
 ·split
  ·exact .inr ⟨_,_,rfl⟩
  ·exact .inl rfl
 ·exact .inl rfl
theorem xX.still {s : St} {kd : Kd} {f : Fq} {v : AV} {g : St -> Option (AV × St × Fq)} (h : ∀ t : St,(∀ i ∈ kd.reads,eG i (get t.env i) = eG i (get s.env i)) -> wZ f s t -> g t = some (v,t,f)) : xX s s kd f v g :=
 ⟨[],by simp,.inl rfl,fun t h1 h2 _ => by rw [h t h1 h2]; simp⟩
end
end Go.Bm

/- Every calm operation depends on what it names alone. -/
namespace Go.Bm
open Go.Am
section
variable {P : Program} {c : dN} {call : Nat -> List AV -> Heap -> Option (AV × Heap)}
theorem VP {s s' : St} {b off k : Nat} {v : AV} {f : Fq} (h : wm s b off k v = some (s',f)) : calm f = false := by
 unfold wm at h
 repeat' split at h
 all_goals first
  | (cases h; done)
  | (simp at h; obtain ⟨_,rfl⟩ := h; rfl)
theorem OH {s s' : St} {k : Nat} {a v : AV} {f : Fq} (h : Og s k a v = some (s',f)) : calm f = false := by
 unfold Og at h;split at h
 ·exact VP h
 ·repeat' split at h
  all_goals first
   | (cases h; done)
   | (simp at h; obtain ⟨_,rfl⟩ := h; rfl)
 ·cases h
theorem vU (s : St) (l : List Rt) : kh s l = .all \/ ∃ sl bs,kh s l = .wr sl bs := by
 unfold kh;split
 ·split
  ·split
   ·exact .inr ⟨_,_,rfl⟩
   ·exact .inl rfl
  ·exact .inl rfl
 ·exact .inl rfl
theorem Cc (s : St) (l : List Rt) : calm (kh s l) = false := by rcases vU s l with e | ⟨_,_,e⟩ <;> rw [e] <;> rfl
theorem Bj (s : St) (l ps : List Rt) : (kh s l = .bo ps) = False := by rcases vU s l with e | ⟨_,_,e⟩ <;> rw [e] <;> simp
theorem vV (s : St) (l : List Rt) (n : Nat) : (kh s l = .al n) = False := by rcases vU s l with e | ⟨_,_,e⟩ <;> rw [e] <;> simp
theorem Bi (s : St) (l : List Rt) (n : Nat) : (kh s l = .lw n) = False := by rcases vU s l with e | ⟨_,_,e⟩ <;> rw [e] <;> simp
theorem ND {s s1 : St} {kd : Kd} {v : AV} {f : Fq} (h : dI c call kd s = some (v,s1,f)) (hf : calm f = true) : xX s s1 kd f v (dI c call kd) := by
 unfold dI at h;split at h
 ·cases h
 rename_i f0 args ha;split at h
 ·cases h
 rename_i md q hq;split at h
 ·rename_i hm;split at h
  ·cases h
  rename_i ql hz;split at h
  case h_2 => cases h
  rename_i r H' hc;split at h
  case isFalse => cases h
  rename_i hr;simp at h;obtain ⟨rfl,rfl,rfl⟩ := h;refine .still fun t h1 h2 => ?_
  have hs : Seen (cQ args ++ Dt args) s t := by
   by_cases he : (cQ args ++ Dt args).isEmpty = true
   ·rw [eY.1 he]; intro p hp; simp at hp
   ·exact h2.1 _ (by simp [he] <;> simpa using he)
  unfold dI;rw [gV h1,ha];simp only [hq,hm,if_true,FD args hs,hz,hc,hr];simp
 ·rename_i hm;split at h
  ·cases h
  rename_i f1 nC Ns;split at h
  case isFalse => cases h
  rename_i X5;split at h
  ·repeat' split at h
   all_goals first
    | (cases h; done)
    | (simp at h; obtain ⟨_,_,rfl⟩ := h; exfalso; simp [calm] at hf; done)
    | (simp at h; obtain ⟨_,_,rfl⟩ := h; exfalso; revert hf; split <;> simp [calm])
  ·rename_i jo;split at h
   case isFalse => cases h
   rename_i hp;split at h
   case h_2 => cases h
   rename_i r H' hc;split at h
   case isFalse => cases h
   rename_i hr;simp at h;obtain ⟨rfl,rfl,rfl⟩ := h
   have he : cQ args = [] := by
    cases hb : cQ args with
    | nil => rfl
    | cons x y => rw [hb] at hf; simp [Cc] at hf
   rw [he] at Ns ⊢;simp only [dB] at Ns ⊢;refine .still fun t h1 h2 => ?_;unfold dI;rw [gV h1,ha];simp only [hq,hm,he,dB,aX,if_false];rw [gV h1,Ns];simp only [X5,if_true,jo,hp,hc,hr,aX,if_false];simp
theorem vQ {s : St} {kd : Kd} (h : nQ c s kd = none) (t : St) : nQ c t kd = none := by
 unfold nQ at h ⊢;split at h
 ·split at h
  ·rename_i f x es hi;split at h
   ·rename_i he; simp only [hi,he]
   ·cases h
  ·cases h
 ·rfl
theorem AW {s : St} {kd : Kd} (h : lj c call s kd = none) (t : St) : lj c call t kd = none := by
 unfold lj at h ⊢;split at h
 ·rename_i f x es;split at h
  ·cases h
  ·rename_i hl;exact if_neg hl
 ·rfl
theorem aaQ {s s1 : St} {g : Nat -> List AV -> List AV -> Option (List AV)} {x : AV} {es : List AV} {v : AV} {f : Fq} (h : PS s g x es = some (v,s1,f)) : ∃ sl bs,f = .wr sl bs \/ f = .all := by unfold PS at h;cases h
theorem zL {s s1 : St} {kd : Kd} {v : AV} {f : Fq} (h : nQ c s kd = some (some (v,s1,f))) : ∃ sl bs,f = .wr sl bs \/ f = .all := by
 unfold nQ at h;split at h
 case h_2 => cases h
 split at h
 case h_1 =>
  split at h
  ·cases h
  ·simp only [aj] at h;exact aaQ h
 simp only [aj] at h
 (repeat' split at h) <;> simp at h
 all_goals first
  | exact ⟨_,_,.inl h.2.2.symm⟩
  | exact ⟨[],none,.inr h.2.2.symm⟩
theorem AP {ae1 : Nat -> List AV -> Heap -> Option (AV × Heap)} {s : St} {kd : Kd} (h : qz c call s kd = none) (t : St) : qz c ae1 t kd = none := by
 unfold qz at h ⊢;split at h
 ·split at h
  ·cases h
  ·rename_i hm;simp only [hm]
 ·rfl
theorem vI {s s1 : St} {kd : Kd} {v : AV} {f : Fq} (h : qz c call s kd = some (some (v,s1,f))) : f = .all /\ ∃ k ys,v = .own k ys := by
 unfold qz at h;split at h
 case h_2 => cases h
 split at h
 case h_2 => cases h
 simp only [aj] at h;unfold Mz at h
 (repeat' split at h) <;> first
  | (cases h; done)
  | (simp only [aj,aF] at h; exact ⟨h.2.2.symm,_,_,h.1.symm⟩)
theorem J5 {s s1 : St} {kd : Kd} {v : AV} {f : Fq} (h : fK c call kd s = some (v,s1,f)) (hf : calm f = true) : xX s s1 kd f v (fK c call kd) := by
 unfold fK at h;cases hm : qz c call s kd with
 | some r =>
   rw [hm] at h;simp only at h;subst h;obtain ⟨rfl,_⟩ := vI hm;simp [calm] at hf
 | none =>
   rw [hm] at h;rcases iJ h with h | h
   ·obtain ⟨T,h1,h2,h3⟩ := ND h hf;refine ⟨T,h1,h2,fun t a b d => ?_⟩;unfold fK;rw [AP hm t];exact py (h3 t a b d)
   ·obtain ⟨rfl,_⟩ := vB h;simp [calm] at hf
theorem z6 {s s1 : St} {kd : Kd} {v : AV} {f : Fq} (h : c7 c call kd s = some (v,s1,f)) (hf : calm f = true) : xX s s1 kd f v (c7 c call kd) := by
 unfold c7 at h;cases hi : nQ c s kd with
 | some r =>
   rw [hi] at h;simp only at h;subst h;obtain ⟨sl,bs,rfl | rfl⟩ := zL hi <;> simp [calm] at hf
 | none =>
   rw [hi] at h;cases hl : lj c call s kd with
   | some r =>
     rw [hl] at h;simp only at h;subst h;obtain ⟨b,rfl⟩ := C1 hl;simp [calm] at hf
   | none =>
     rw [hl] at h;obtain ⟨T,h1,h2,h3⟩ := J5 h hf;refine ⟨T,h1,h2,fun t a b d => ?_⟩;unfold c7;rw [vQ hi t,AW hl t];exact h3 t a b d
end
end Go.Bm

/- Every operation that is calm depends on what it names alone. -/
namespace Go.Bm
open Go.Am
section
variable {P : Program} {c : dN} {call : Nat -> List AV -> Heap -> Option (AV × Heap)}
theorem WM {s s1 : St} {kd : Kd} {v : AV} {f : Fq} (h : fo c call s kd = some (v,s1,f)) (hf : calm f = true) : xX s s1 kd f v (fun t => fo c call t kd) := by
 have pure : ∀ {kd : Kd} {v : AV} {s1 : St} {f : Fq},(match Pb c s.env kd with
   | some v => some (v,s,Fq.no)
   | none => none) = some (v,s1,f) -> xX s s1 kd f v (fun t => match Pb c t.env kd with
   | some v => some (v,t,Fq.no)
   | none => none) := by
  intro kd v s1 f h;split at h
  case h_2 => cases h
  rename_i u hu;simp at h;obtain ⟨rfl,rfl,rfl⟩ := h;refine .still fun t h1 _ => ?_;simp only [Ia (c := c) h1,hu]
 cases kd
 case call f0 xs => simp only [fo] at h ⊢; exact z6 h hf
 case gw x xs => simp only [fo] at h ⊢; exact z6 h hf
 case ld ag x =>
  simp only [fo] at h;split at h
  case h_2 => cases h
  rename_i u ps hp;split at h
  case isFalse => cases h
  rename_i hl;simp at h;obtain ⟨rfl,rfl,rfl⟩ := h;refine .still fun t h1 h2 => ?_;simp only [fo,bQ (c := c) h1,Ua hp h2,hl,if_true]
 case copy k x y =>
  exfalso;simp only [fo] at h
  (repeat' split at h) <;> first
   | (cases h; done)
   | (simp only [aj,aF] at h; obtain ⟨_,_,rfl⟩ := h; first
     | (simp [calm] at hf; done)
     | (rcases uY _ _ with e | ⟨_,_,_,_,e⟩ <;> rw [e] at hf <;> simp [calm] at hf))
 case I8 n x hi =>
  simp only [fo] at h;split at h
  ·rename_i b off hx;split at h
   case h_2 => cases h
   rename_i m cs hm hb;split at h
   case isFalse => cases h
   rename_i hl;simp at h;obtain ⟨rfl,rfl,rfl⟩ := h;refine .still fun t h1 h2 => ?_;simp only [Kd.reads,aD] at h1;have e := ((h2.1 _ rfl) _ (cv.2 rfl)).2 b 1 rfl;have UK : xU c t.env n n hi = some m := by rw [xT (c := c) fun i hi => h1 i (.inr hi)]; exact hm
   simp only [fo,bQ (c := c) fun i hi => h1 i (.inl hi),hx,UK,e,hb,hl,if_true]
  ·rename_i gY;split at h
   case h_2 => cases h
   rename_i u hu;simp at h;obtain ⟨rfl,rfl,rfl⟩ := h;refine .still fun t h1 _ => ?_;have e := Ia (c := c) h1;simp only [Kd.reads,aD] at h1;have ex : bn c t.env x = bn c s.env x := bQ (c := c) fun i hi => h1 i (.inl hi);simp only [fo,ex,e,hu]
 case new zs =>
  simp only [fo] at h;simp at h;obtain ⟨rfl,rfl,rfl⟩ := h;exact ⟨_,rfl,.inr ⟨_,rfl,rfl⟩,fun t _ _ h3 => by simp only [fo]; rw [h3 _ rfl]⟩
 case box x =>
  simp only [fo] at h;split at h
  case isFalse => cases h
  rename_i hl;simp at h;obtain ⟨rfl,rfl,rfl⟩ := h;refine ⟨_,rfl,.inr ⟨_,rfl,rfl⟩,fun t h1 _ h3 => ?_⟩;simp only [fo,bQ (c := c) h1,hl,if_true];rw [h3 _ rfl]
 case dh k n zs ps =>
  simp only [fo] at h;split at h
  case h_2 => cases h
  rename_i cs hc;split at h
  case isFalse => cases h
  rename_i hz;simp at h;obtain ⟨rfl,rfl,rfl⟩ := h
  have he : gg c s.env ps = [] := by
   cases hb : gg c s.env ps with
   | nil => rfl
   | cons x y => rw [hb] at hf; simp [Cc] at hf
  rw [he] at hc ⊢;simp only [dB] at hc ⊢;refine .still fun t h1 _ => ?_;simp only [fo,ph (c := c) h1,he,dB,qi (c := c) h1,hc,hz,if_true];simp
 case st k a v =>
  exfalso;simp only [fo] at h;split at h
  ·split at h
   case h_2 => cases h
   rename_i hh;have h4 := OH hh;simp only [aj,aF] at h;obtain ⟨_,_,h5⟩ := h;rw [<- h5] at hf;split at hf
   ·rw [hf] at h4; cases h4
   ·simp [calm] at hf
  ·split at h
   case h_2 => cases h
   rename_i hh;have h4 := OH hh;simp only [aj,aF] at h;obtain ⟨_,_,h5⟩ := h;rw [<- h5] at hf;rw [hf] at h4;cases h4
 case app k x y =>
  simp only [fo] at h;split at h
  case h_2 => cases h
  rename_i ys hy;split at h
  case isFalse => cases h
  rename_i hl;split at h
  ·rename_i k' hx;split at h
   case isFalse => cases h
   rename_i hle;simp at h;obtain ⟨rfl,rfl,rfl⟩ := h;refine .still fun t h1 h2 => ?_;simp only [Kd.reads,aD] at h1;simp only [fo];rw [bQ (c := c) fun i hi => h1 i (.inl hi),bQ (c := c) fun i hi => h1 i (.inr hi),PY (h2.1 _ rfl),hy];simp only [hl,if_true,hx,hle]
  ·exfalso
   repeat' split at h
   all_goals first
    | (cases h; done)
    | (simp at h; obtain ⟨_,_,rfl⟩ := h; simp [calm] at hf)
  ·cases h
 case MA k zs l cp =>
  simp only [fo] at h;split at h
  case h_2 => cases h
  rename_i k1 n1 k2 n2 e1 e2;split at h
  case isFalse => cases h
  rename_i hb;split at h
  ·rename_i z hz;simp at h;obtain ⟨rfl,rfl,rfl⟩ := h;refine ⟨_,rfl,.inr ⟨_,rfl,rfl⟩,fun t h1 _ h3 => ?_⟩;simp only [Kd.reads,aD] at h1;simp only [fo];rw [bQ (c := c) fun i hi => h1 i (.inl hi),bQ (c := c) fun i hi => h1 i (.inr hi),e1,e2];simp only [hb,and_self,if_true,hz];rw [h3 _ rfl]
  ·rename_i hz;simp at h;obtain ⟨rfl,rfl,rfl⟩ := h;refine .still fun t h1 h2 => ?_;simp only [Kd.reads,aD] at h1;simp only [fo];rw [bQ (c := c) fun i hi => h1 i (.inl hi),bQ (c := c) fun i hi => h1 i (.inr hi),e1,e2];simp only [hb,and_self,if_true,hz]
 case Td k zs x =>
  simp only [fo] at h;split at h
  case h_3 => cases h
  all_goals
   rename_i e1;simp at h;obtain ⟨rfl,rfl,rfl⟩ := h;refine .still fun t h1 h2 => ?_;simp only [fo,bQ (c := c) h1,e1]
 all_goals
  simp only [fo] at h ⊢;exact pure h
end
end Go.Bm

/- A state without shadowed entries: who mentions a place, by what can be read. -/
namespace Go.Bm
open Go.Am
section
def JI : List Nat -> Env -> Env
 | _,[] => []
 | sn,(i,v) :: r => if mem i sn then JI sn r else (i,v) :: JI (i :: sn) r
theorem J1 : ∀ (sn : List Nat) (e : Env) (i : Nat),get (JI sn e) i = if mem i sn = true then .any else get e i
 | sn,[],i => by simp [JI,Am.get]
 | sn,(j,v) :: r,i => by
   unfold JI;by_cases hj : mem j sn = true
   ·rw [if_pos hj,J1 sn r i];by_cases hi : mem i sn = true
    ·simp [hi]
    ·simp only [hi,aX,if_false,Am.get];have : j ≠ i := fun e => hi (e ▸ hj);have h2 : i ≠ j := fun e => this e.symm;simp [hi,h2]
   ·rw [if_neg hj];simp only [Am.get];rw [J1 (j :: sn) r i];by_cases GV : j = i
    ·subst GV;simp [hj]
    ·have h2 : i ≠ j := fun e => GV e.symm
     have : mem i (j :: sn) = mem i sn := by
      conv => lhs; unfold mem
      rw [if_neg h2]
     simp only [this,h2,if_false]
theorem N6 {f : Rt -> Bool} : ∀ {e : Env} {i : Nat},vf f (aL (get e i)) = true -> Gr f e = true
 | [],i,h => by simp [Am.get,aL,vf] at h
 | (j,v) :: r,i,h => by
   simp only [Am.get] at h;simp only [Gr,er];split at h
   ·exact .inl h
   ·exact .inr (N6 h)
theorem Gq {f : Rt -> Bool} : ∀ {sn : List Nat} {e : Env},Gr f (JI sn e) = true -> ∃ i,mem i sn = false /\ vf f (aL (Am.get e i)) = true
 | sn,[],h => by simp [JI,Gr] at h
 | sn,(j,v) :: r,h => by
   unfold JI at h;by_cases hj : mem j sn = true
   ·rw [if_pos hj] at h;obtain ⟨i,h1,h2⟩ := Gq h;have sZ : i ≠ j := fun e => by rw [e,hj] at h1; cases h1
    exact ⟨i,h1,by simp only [Am.get]; rw [if_neg sZ]; exact h2⟩
   ·rw [if_neg hj] at h;simp only [Gr,er] at h;rcases h with h | h
    ·exact ⟨j,by simpa using hj,by simp only [Am.get,if_true]; exact h⟩
    ·obtain ⟨i,h1,h2⟩ := Gq h
     have sZ : i ≠ j := fun e => by
      rw [e] at h1;unfold mem at h1;simp at h1
     refine ⟨i,?_,by simp only [Am.get]; rw [if_neg sZ]; exact h2⟩;unfold mem at h1;rw [if_neg sZ] at h1;exact h1
def Pk (s : St) : St := ⟨JI [] s.env,s.H⟩
theorem oM (s : St) : dq s (Pk s) := ⟨fun i => by simp only [Pk]; rw [J1]; simp [mem],rfl⟩
end
end Go.Bm

/- A step is an operation's value, put to its slot; what a calm operation and one that writes a few places are worth. -/
namespace Go.Bm
open Go.Am
section
variable {P : Program} {c : dN} {call : Nat -> List AV -> Heap -> Option (AV × Heap)}
def Cd (c : dN) (call : Nat -> List AV -> Heap -> Option (AV × Heap)) (s : St) (q : O) : Option (AV × St × Fq) :=
 match q.guard with
 | none => fo c call s q.kd
 | some (g,want) => match get s.env g with
   | .bool b => if b = want then fo c call s q.kd else some (.undef,s,.no)
   | .undef => some (.undef,s,.no)
   | _ => none
theorem ug (s : St) (q : O) : p8 c call s q = match Cd c call s q with
  | some (v,s',fl) => zV s.env q.dst v s' fl
  | none => none := by
 unfold p8 Cd;cases hg : q.guard with
 | none => rfl
 | some p =>
   obtain ⟨g,want⟩ := p;simp only;generalize get s.env g = u;cases u <;> try rfl
   rename_i b;simp only;by_cases hb : b = want
   ·simp only [hb,if_true]; rfl
   ·simp only [hb,if_false]
def ji (s : St) (d : Option Nat) (v : AV) : St := match d with
 | none => s
 | some d => ⟨put s.env d v,s.H⟩
theorem gA (s : St) (d : Option Nat) (v : AV) : (ji s d v).H = s.H := by cases d <;> rfl
theorem dR (s : St) (d : Option Nat) (v : AV) (i : Nat) : get (ji s d v).env i = if d = some i then v else get s.env i := by
 cases d with
 | none => simp [ji]
 | some d =>
   simp only [ji,br];by_cases h : i = d
   ·subst h; simp
   ·have : d ≠ i := fun e => h e.symm;simp [h,this]
theorem T5 {s t : St} (h : dq s t) (d : Option Nat) (v : AV) : dq (ji s d v) (ji t d v) :=
 ⟨fun i => by rw [dR,dR,h.1 i],by rw [gA,gA]; exact h.2⟩
def Ev (c : dN) (call : Nat -> List AV -> Heap -> Option (AV × Heap)) (s : St) (q : O) (v : AV) (s1 : St) (f : Fq) : Prop :=
 wT q.kd = true /\ ∃ s0 t1,dq s s0 /\ Cd c call s0 q = some (v,t1,f) /\ dq t1 s1
theorem Ev.same {s t s1 t1 : St} {q : O} {v : AV} {f : Fq} (h : Ev c call s q v s1 f) (e : dq s t) (e1 : dq s1 t1) : Ev c call t q v t1 f := by
 obtain ⟨hk,s0,u1,a,b,d⟩ := h;exact ⟨hk,s0,u1,e.symm.trans a,b,d.trans e1⟩
structure Qj (c : dN) (call : Nat -> List AV -> Heap -> Option (AV × Heap)) (s : St) (q : O) (v : AV) (s1 : St) (f : Fq) (X : Heap) : Prop where
 st : dq s1 ⟨s.env,s.H ++ X⟩
 nw : (X = [] /\ ∀ n,f ≠ .al n) \/ ∃ z,X = [z] /\ f = .al s.H.length
 go : ∀ t : St,(∀ i ∈ q.reads,eG i (get t.env i) = eG i (get s.env i)) -> wZ f s t -> (∀ n,f = .al n -> t.H.length = n) -> Ev c call t q v ⟨t.env,t.H ++ X⟩ f
 val : ∀ V : Rt -> Prop,(∀ i ∈ q.reads,(∀ p ∈ aL (get s.env i),¬ V p) /\ ¬ V (.s i) /\ ∀ j,¬ V (.sc i j)) ->
  (∀ ps,f = .rd ps -> ∀ b,Rt.c b 0 ∈ ps -> ∀ cs,aH s.H b = some cs -> (∀ p ∈ cQ cs,¬ V p) /\ (bw cs = true -> ∀ j,¬ V (.c b j))) ->
  (∀ b j,f = .rc b j -> ∀ cs c,aH s.H b = some cs -> cs[j]? = some c -> (∀ p ∈ aL c,¬ V p) /\ (∀ k xs,c = .own k xs -> ¬ V (.c b j))) -> ∀ p ∈ aL v,¬ V p
structure LwEv (c : dN) (call : Nat -> List AV -> Heap -> Option (AV × Heap)) (s : St) (q : O) (v : AV) (s1 : St) (b : Nat) (cs cs' : List AV) : Prop where
 bl : aH s.H b = some cs
 st : dq s1 ⟨s.env,s.H.set b (some cs')⟩
 go : ∀ t : St,(∀ i ∈ q.reads,get t.env i = get s.env i) -> aH t.H b = some cs -> Ev c call t q v ⟨t.env,t.H.set b (some cs')⟩ (.lw b)
structure WrEv (c : dN) (call : Nat -> List AV -> Heap -> Option (AV × Heap)) (s : St) (q : O) (v : AV) (s1 : St) (sl : List Nat) (bs : Option (List Nat)) (V : Rt -> Prop) : Prop where
 env : ∀ i,i ∉ sl -> i + km ∉ sl -> get s1.env i = get s.env i
 hd : ∀ i,i ∉ sl -> eG i (get s1.env i) = eG i (get s.env i)
 keep : ∀ i,bI (get s.env i) = false -> aL (get s.env i) = [] -> get s1.env i = get s.env i
 heap : ∀ l,bs = some l -> ∀ b,lv b l = false -> aH s1.H b = aH s.H b
 cell : ∀ l,bs = some l -> ∀ b j,b ∉ l -> tM b j ∉ l -> pL b j s s1 /\ pL b j s1 s
 v1 : ∀ i,i ∉ sl -> (∀ p ∈ aL (get s.env i),¬ V p) /\ ¬ V (.s i) /\ ∀ j,¬ V (.sc i j)
 v2 : ∀ l,bs = some l -> ∀ b,lv b l = false -> b + km ∉ l -> ∀ cs,aH s.H b = some cs -> (∀ p ∈ cQ cs,¬ V p) /\ (bw cs = true -> ∀ j,¬ V (.c b j))
 v3 : ∀ l,bs = some l -> ∀ b j,b ∉ l -> b + km ∉ l -> tM b j ∉ l -> ∀ cs c,aH s.H b = some cs -> cs[j]? = some c -> (∀ p ∈ aL c,¬ V p) /\ (∀ k xs,c = .own k xs -> ¬ V (.c b j))
 go : ∀ d u,d ∉ q.reads -> d ∉ sl -> d + km ∉ sl -> (∀ p ∈ aL u,¬ V p) -> ∃ t1 sl',Ev c call ⟨put s.env d u,s.H⟩ q v t1 (.wr sl' bs) /\ (∀ i ∈ sl',i ∈ sl) /\ dq t1 ⟨put s1.env d u,s1.H⟩
end
end Go.Bm

/- Two steps whose order is open commute, given what single operations are worth. -/
namespace Go.Bm
open Go.Am
section
variable {P : Program} {c : dN} {call : Nat -> List AV -> Heap -> Option (AV × Heap)}
def oi (c : dN) (call : Nat -> List AV -> Heap -> Option (AV × Heap)) : Prop := ∀ s q v s1 f,Ev c call s q v s1 f -> calm f = true -> ∃ X,Qj c call s q v s1 f X
def Ag (c : dN) (call : Nat -> List AV -> Heap -> Option (AV × Heap)) : Prop := ∀ s q v s1 sl bs,Ev c call s q v s1 (.wr sl bs) -> ∃ V,WrEv c call s q v s1 sl bs V
def Ai (c : dN) (call : Nat -> List AV -> Heap -> Option (AV × Heap)) : Prop := ∀ s q v s1 b,Ev c call s q v s1 (.lw b) -> ∃ cs cs',LwEv c call s q v s1 b cs cs'
theorem adV {s s1 : St} {q : O} {v : AV} {f : Fq} (h : Cd c call s q = some (v,s1,f)) : ∀ ps,f ≠ .bo ps := by
 have fe : ∀ {kd : Kd} {v : AV} {s1 : St} {f : Fq},fo c call s kd = some (v,s1,f) -> ∀ ps,f ≠ .bo ps := by
  intro kd v s1 f h ps e;subst e
  have st : ∀ {s s' : St} {k : Nat} {a v : AV},Og s k a v ≠ some (s',.bo ps) := by
   intro s s' k a v h;unfold Og wm at h
   repeat' split at h
   all_goals first
    | (cases h; done)
    | (simp at h; done)
  have ic : ∀ {kd : Kd},nQ c s kd ≠ some (some (v,s1,.bo ps)) := fun h => by
   obtain ⟨sl,bs,e | e⟩ := zL h <;> cases e
  have oc : ∀ {kd : Kd},c7 c call kd s ≠ some (v,s1,.bo ps) := by
   intro kd h;unfold c7 at h;split at h
   ·rename_i r hi; subst h; exact ic hi
   split at h
   ·rename_i r hi; subst h; obtain ⟨b,e⟩ := C1 hi; cases e
   unfold fK at h;split at h
   ·rename_i r hi; subst h; obtain ⟨e,_⟩ := vI hi; cases e
   ·replace h := (iJ h).resolve_right fun h => by obtain ⟨e,_⟩ := vB h; cases e
    unfold dI at h
    (repeat' split at h)
    all_goals first
     | (cases h; done)
     | (simp [Bj] at h; done)
     | (simp at h; obtain ⟨_,_,h5⟩ := h; revert h5; split <;> simp [Bj])
  cases kd <;> simp only [fo] at h
  case call => exact oc h
  case gw => exact oc h
  case st k a v =>
   split at h
   ·split at h
    case h_2 => cases h
    rename_i hh;simp only [aj,aF] at h;obtain ⟨_,_,h5⟩ := h;split at h5
    ·rw [h5] at hh; exact st hh
    ·cases h5
   ·split at h
    case h_2 => cases h
    rename_i hh;simp only [aj,aF] at h;obtain ⟨_,_,h5⟩ := h;rw [h5] at hh;exact st hh
  all_goals
   (repeat' split at h)
   all_goals first
    | (cases h; done)
    | (simp at h; done)
    | (simp [Bj] at h; done)
    | (simp at h; obtain ⟨_,_,h5⟩ := h; rcases uK _ _ _ with e | ⟨b,j,e⟩ <;> rw [e] at h5 <;> cases h5; done)
    | (simp at h; obtain ⟨_,_,h5⟩ := h; rcases uY _ _ with e | ⟨_,_,_,_,e⟩ <;> rw [e] at h5 <;> cases h5; done)
    | (simp at h; obtain ⟨_,_,h5⟩ := h; revert h5; split <;> simp)
 unfold Cd at h;split at h
 ·exact fe h
 ·split at h
  ·split at h
   ·exact fe h
   ·simp at h; obtain ⟨_,_,rfl⟩ := h; intro ps; simp
  ·simp at h; obtain ⟨_,_,rfl⟩ := h; intro ps; simp
  ·cases h
theorem Ev.fl {s s1 : St} {q : O} {v : AV} {f : Fq} (h : Ev c call s q v s1 f) : ∀ ps,f ≠ .bo ps := let ⟨_,_,_,_,b,_⟩ := h; adV b
theorem iU {e e' : Env} {d : Option Nat} {f : Fq} (h : ∀ i,d = some i -> get e i = get e' i) : bJ e d f = bJ e' d f := by
 unfold bJ;cases d with
 | none => rfl
 | some d => simp only; rw [h d rfl]
theorem qa {e : Env} {d : Option Nat} {f : Fq} (h : m5 (bJ e d f) = true) : ∀ i,d = some i -> bI (get e i) = false := by
 rintro i rfl;unfold bJ at h;cases hh : bI (get e i) with
 | false => rfl
 | true => simp [hh,m5] at h
theorem nf {e : Env} {d : Option Nat} {sl : List Nat} {bs : Option (List Nat)} (h : m5 (bJ e d (.wr sl bs)) = true) : bJ e d (.wr sl bs) = .wr sl bs /\ ∀ i,d = some i -> bI (get e i) = false /\ aL (get e i) = [] := by
 refine ⟨?_,fun i hi => ⟨qa h i hi,?_⟩⟩
 ·unfold bJ at h ⊢;cases d with
  | none => rfl
  | some d =>
    simp only at h ⊢;split at h
    ·simp [m5] at h
    rename_i h1;rw [if_neg h1];split at h
    ·rename_i h2; rw [if_pos h2]
    ·simp [m5] at h
 ·subst hi;unfold bJ at h;simp only at h;split at h
  ·simp [m5] at h
  ·split at h
   ·rename_i h2; exact eY.1 h2
   ·simp [m5] at h
theorem uj {e : Env} {d : Option Nat} {b : Nat} (h : m5 (bJ e d (.lw b)) = true) : bJ e d (.lw b) = .lw b /\ ∀ i,d = some i -> bI (get e i) = false /\ aL (get e i) = [] := by
 refine ⟨?_,fun i hi => ⟨qa h i hi,?_⟩⟩
 ·unfold bJ at h ⊢;cases d with
  | none => rfl
  | some d =>
    simp only at h ⊢;split at h
    ·simp [m5] at h
    rename_i h1;rw [if_neg h1];split at h
    ·rename_i h2; rw [if_pos h2]
    ·simp [m5] at h
 ·subst hi;unfold bJ at h;simp only at h;split at h
  ·simp [m5] at h
  ·split at h
   ·rename_i h2; exact eY.1 h2
   ·simp [m5] at h
theorem uk {e : Env} {d : Option Nat} {f : Fq} (h : m5 (bJ e d f) = true) : m5 f = true := by
 unfold bJ at h;split at h
 ·exact h
 ·split at h
  ·simp [m5] at h
  ·split at h
   ·exact h
   ·split at h
    ·rfl
    ·rfl
    ·rfl
    ·simp [m5] at h
theorem BG {e e' : Env} {d : Option Nat} {sl sl' : List Nat} {bs bs' : Option (List Nat)} (h : ∀ i,d = some i -> bI (get e i) = false /\ aL (get e i) = []) : bJ e d (.wr sl bs) = .wr sl bs := by
 unfold bJ;cases d with
 | none => rfl
 | some d => simp [h d rfl]
theorem TS.out (HC : oi c call) (HW : Ag c call) (HL : Ai c call) {s s' : St} {q : O} {f : Fq} (h : TS c call s q f s') (hf : m5 f = true) : ∃ v s1 f1,Ev c call s q v s1 f1 /\ m5 (bJ s.env q.dst f1) = true /\ x9 (bJ s.env q.dst f1) f /\ dq s' (ji s1 q.dst v) := by
 obtain ⟨hk,s0,t1,f0,e0,Ak,hle,e1⟩ := h;rw [ug] at Ak;split at Ak
 case h_2 => cases Ak
 rename_i v u1 f1 he;have hfl := zU Ak;have UG : bJ s0.env q.dst f1 = bJ s.env q.dst f1 := iU fun i _ => (e0.1 i).symm
 have hcw : m5 (bJ s.env q.dst f1) = true := by
  rw [<- UG,<- hfl];cases f0 <;> cases f <;> simp [x9,m5] at hle hf ⊢
 have X6 : Ev c call s q v u1 f1 := ⟨hk,s0,u1,e0,he,dq.rfl'⟩;refine ⟨v,u1,f1,X6,hcw,by rw [<- UG,<- hfl]; exact hle,?_⟩;unfold zV at Ak;split at Ak
 case h_2 => cases Ak
 rename_i u2 hp;simp only [aj,aF] at Ak;obtain ⟨rfl,_⟩ := Ak;refine e1.symm.trans ?_;cases hd : q.dst with
 | none => rw [hd] at hp; simp [wQ] at hp; subst hp; exact dq.rfl'
 | some d =>
   rw [hd] at hp
   have gY : bI (get u1.env d) = false := by
    have h0 := qa hcw d hd;have SV := uk hcw;by_cases Nk : calm f1 = true
    ·obtain ⟨X,hX⟩ := HC _ _ _ _ _ X6 Nk;rw [hX.st.1 d];exact h0
    ·cases f1 <;> simp [calm,m5] at Nk SV
     case wr sl bs =>
      obtain ⟨V,hV⟩ := HW _ _ _ _ _ _ X6;have h2 := (nf hcw).2 d hd;rw [hV.keep d h2.1 h2.2];exact h0
     case lw b =>
      obtain ⟨cs,cs',hL⟩ := HL _ _ _ _ _ X6;rw [hL.st.1 d];exact h0
     case bo => exact absurd rfl (X6.fl _)
   simp only [wQ,T6,KF,gY,fE,aX,if_false,aj] at hp;subst hp;exact dq.rfl'
theorem TS.mk (HC : oi c call) (HW : Ag c call) (HL : Ai c call) {s s1 s' : St} {q : O} {v : AV} {f f1 : Fq} (X6 : Ev c call s q v s1 f1) (hcw : m5 (bJ s.env q.dst f1) = true) (hle : x9 (bJ s.env q.dst f1) f) (hs : dq s' (ji s1 q.dst v)) : TS c call s q f s' := by
 have hev' := X6;obtain ⟨hk,s0,t1,e0,he,e1⟩ := hev';have UG : bJ s0.env q.dst f1 = bJ s.env q.dst f1 := iU fun i _ => (e0.1 i).symm
 have Bd : wQ t1 q.dst v = some (ji t1 q.dst v) := by
  cases hd : q.dst with
  | none => rfl
  | some d =>
    have gY : bI (get t1.env d) = false := by
     have h0 := qa hcw d hd;have SV := uk hcw;rw [e1.1 d];by_cases Nk : calm f1 = true
     ·obtain ⟨X,hX⟩ := HC _ _ _ _ _ X6 Nk;rw [hX.st.1 d];exact h0
     ·cases f1 <;> simp [calm,m5] at Nk SV
      case wr sl bs =>
       obtain ⟨V,hV⟩ := HW _ _ _ _ _ _ X6;have h2 := (nf hcw).2 d hd;rw [hV.keep d h2.1 h2.2];exact h0
      case lw b =>
       obtain ⟨cs,cs',hL⟩ := HL _ _ _ _ _ X6;rw [hL.st.1 d];exact h0
      case bo => exact absurd rfl (X6.fl _)
    simp only [wQ,T6,KF,gY,fE,aX,if_false,ji]
 refine ⟨hk,s0,ji t1 q.dst v,bJ s.env q.dst f1,e0,?_,hle,(T5 e1 _ _).trans hs.symm⟩;rw [ug,he];simp only [zV,Bd,UG]
end
end Go.Bm

/- Two steps whose order is open commute. -/
namespace Go.Bm
open Go.Am
section
variable {P : Program} {c : dN} {call : Nat -> List AV -> Heap -> Option (AV × Heap)}
theorem fF {d : Nat} : ∀ {ps : List Rt},gk d ps = true -> ∀ p ∈ ps,(∀ i,p = .s i -> i ≠ d) /\ ∀ i j,p = .sc i j -> i ≠ d
 | [],_,p,hp => by simp at hp
 | q :: r,h,p,hp => by
   have ih : gk d r = true -> p ∈ r -> _ := fun h hp => fF (d := d) h p hp;rcases aJ.1 hp with e | e
   ·subst e;cases p with
    | s i => simp only [gk,ab,decide_eq_true_eq] at h; exact ⟨(fun k hk => by cases hk; exact h.1),fun k j hk => by cases hk⟩
    | sc i j => simp only [gk,ab,decide_eq_true_eq] at h; exact ⟨(fun k hk => by cases hk),fun k l hk => (by cases hk; exact h.1)⟩
    | c b j => exact ⟨(fun k hk => by cases hk),fun k l hk => by cases hk⟩
   ·have h' : gk d r = true := by
     cases q <;> simp only [gk,ab] at h
     ·exact h.2
     ·exact h.2
     ·exact h
    exact ih h' e
theorem tb {sl : List Nat} {bs : Option (List Nat)} : ∀ {ps : List Rt},nV sl bs ps = true -> ∀ p ∈ ps,(∀ i,p = .s i -> i ∉ sl /\ i + km ∉ sl) /\ (∀ i j,p = .sc i j -> i ∉ sl /\ i + km ∉ sl) /\ ∀ b j,p = .c b j -> ∃ l,bs = some l /\ lv b l = false /\ (j = 0 -> b + km ∉ l)
 | [],_,p,hp => by simp at hp
 | q :: r,h,p,hp => by
   have nm : ∀ {i : Nat} {l : List Nat},mem i l = false -> i ∉ l := fun h hi => by rw [mem_iff.2 hi] at h; cases h
   rcases aJ.1 hp with e | e
   ·subst e;cases p with
    | s i => simp only [nV,ab,bt] at h; exact ⟨fun k hk => (by cases hk; exact ⟨nm h.1.1,nm h.1.2⟩),(fun k j hk => by cases hk),fun k j hk => by cases hk⟩
    | sc i j => simp only [nV,ab,bt] at h; exact ⟨(fun k hk => by cases hk),(fun k l hk => (by cases hk; exact ⟨nm h.1.1,nm h.1.2⟩)),fun k j hk => by cases hk⟩
    | c b j =>
      simp only [nV,ab] at h;refine ⟨(fun k hk => by cases hk),(fun k l hk => by cases hk),fun k l hk => ?_⟩;cases hk;cases bs with
      | none => simp at h
      | some l =>
        simp only [ab,bt,er,decide_eq_true_eq] at h;exact ⟨l,rfl,h.1.1,fun e => h.1.2.elim (fun q => absurd e q) nm⟩
   ·have h' : nV sl bs r = true := by
     cases q <;> simp only [nV,ab] at h <;> exact h.2
    exact tb h' p e
theorem E0 {sl : List Nat} : ∀ {l : List Nat},E1 sl l = true -> ∀ i ∈ l,i ∉ sl
 | [],_,i,hi => by simp at hi
 | j :: r,h,i,hi => by
   simp only [E1,ab,bt] at h;rcases aJ.1 hi with e | e
   ·subst e; intro hm; rw [mem_iff.2 hm] at h; cases h.1
   ·exact E0 h.2 i e
theorem kM {n : Nat} : ∀ {ps : List Rt},gh n ps = true -> ∀ b j,Rt.c b j ∈ ps -> b < n
 | [],_,b,j,h => by simp at h
 | q :: r,h,b,j,hp => by
   rcases aJ.1 hp with e | e
   ·subst e; simp only [gh,ab,decide_eq_true_eq] at h; exact h.1
   ·have h' : gh n r = true := by cases q <;> simp only [gh,ab] at h <;> first | exact h | exact h.2
    exact kM h' b j e
theorem Seen.mk' {ps : List Rt} {s t : St} (h1 : ∀ p ∈ ps,(∀ i,p = .s i -> get t.env i = get s.env i) /\ (∀ i j,p = .sc i j -> get t.env i = get s.env i) /\ ∀ b j,p = .c b j -> aH t.H b = aH s.H b) : Seen ps s t := by
 intro p hp;obtain ⟨a,b,d⟩ := h1 p hp;refine ⟨?_,fun k l e => d k l e⟩;cases p with
 | s i => simp only [aC,at_]; rw [a i rfl]
 | sc i j => simp only [aC,at_]; rw [b i j rfl]
 | c k j => simp only [aC,at_]; rw [d k j rfl]
theorem ve {x y : O} (h : ja x y = true) : (∀ i,x.dst = some i -> i ∉ y.reads /\ y.dst ≠ some i) /\ ∀ i,y.dst = some i -> i ∉ x.reads /\ x.dst ≠ some i := by
 have nm : ∀ {i : Nat} {l : List Nat},mem i l = false -> i ∉ l := fun h hi => by rw [mem_iff.2 hi] at h; cases h
 unfold ja at h;simp only [ab] at h;obtain ⟨h1,h2⟩ := h;refine ⟨fun i hi => ?_,fun i hi => ?_⟩
 ·rw [hi] at h1;simp only [ab,bt,decide_eq_true_eq] at h1;exact ⟨nm h1.1,h1.2⟩
 ·rw [hi] at h2;simp only [bt] at h2;refine ⟨nm h2,fun e => ?_⟩;rw [e] at h1;simp only [ab,bt,decide_eq_true_eq] at h1;exact h1.2 hi
def AD : Fq -> List Rt
 | .rd ps => ps
 | .bo ps => ps
 | .rc b _ => [.c b 0]
 | _ => []
theorem lK {e : Env} {d : Option Nat} {f : Fq} (h : m5 (bJ e d f) = true) (hc : calm f = true) : AD (bJ e d f) = AD f /\ (∀ n,f = .al n -> bJ e d f = .al n) /\ (∀ n,bJ e d f = .al n -> f = .al n) /\ ((∀ ps,bJ e d f ≠ .bo ps) -> bJ e d f = f /\ ∀ i,d = some i -> aL (get e i) = []) := by
 unfold bJ at h ⊢;cases d with
 | none => exact ⟨rfl,fun n h => h,fun n h => h,fun _ => ⟨rfl,fun i hi => by cases hi⟩⟩
 | some d =>
   simp only at h ⊢;split at h
   ·simp [m5] at h
   rename_i h1;rw [if_neg h1];split at h
   ·rename_i h2;rw [if_pos h2];exact ⟨rfl,fun n h => h,fun n h => h,fun _ => ⟨rfl,fun i hi => by cases hi; exact eY.1 h2⟩⟩
   ·rename_i h2;rw [if_neg h2];cases f <;> simp [calm,m5] at hc h ⊢ <;> simp [AD]
theorem x9.cw {f g : Fq} (h : x9 f g) (hg : m5 g = true) : (∀ sl bs,f ≠ .wr sl bs) -> f = g := by
 intro hn;cases f <;> cases g <;> simp [x9,m5] at h hg hn ⊢ <;> exact h
theorem Ie {f g : Fq} (h : f.ok g = true) : m5 f = true /\ m5 g = true := by
 cases f <;> cases g <;> simp [Fq.ok,m5] at h ⊢
theorem WZ {f g : Fq} {n m : Nat} (h : f.ok g = true) (hf : f = .al n) : g ≠ .al m := by
 subst hf; intro e; subst e; simp [Fq.ok] at h
theorem WQ {f g : Fq} {n : Nat} (h : f.ok g = true) (hf : f = .al n) : gh n (AD g) = true := by
 subst hf; cases g <;> simp [Fq.ok,AD,gh] at h ⊢ <;> exact h
theorem R9 {f g : Fq} {n : Nat} (h : f.ok g = true) (hg : g = .al n) : gh n (AD f) = true := by
 subst hg; cases f <;> simp [Fq.ok,AD,gh] at h ⊢ <;> exact h
theorem gX {d : Option Nat} {f : Fq} (h : xP d f = true) (hf : m5 f = true) : ∀ i,d = some i -> gk i (AD f) = true := by
 rintro i rfl;cases f <;> simp [xP,AD,gk] at h ⊢ <;> exact h
theorem G6 {sl : List Nat} {bs : Option (List Nat)} {y : O} {g : Fq} (h : G7 (.wr sl bs) y g = true) : (∀ i ∈ y.reads,i ∉ sl) /\ (∀ i,y.dst = some i -> i ∉ sl /\ i + km ∉ sl) /\ (∀ ps,g = .rd ps -> nV sl bs ps = true) /\ ∀ b j,g = .rc b j -> ∃ l,bs = some l /\ b ∉ l /\ b + km ∉ l /\ tM b j ∉ l := by
 have nm : ∀ {i : Nat} {l : List Nat},mem i l = false -> i ∉ l := fun h hi => by rw [mem_iff.2 hi] at h; cases h
 simp only [G7,ab] at h;obtain ⟨⟨h1,h2⟩,h3⟩ := h;refine ⟨E0 h1,fun i hi => ?_,fun ps hp => ?_,fun b j hp => ?_⟩
 ·rw [hi] at h2; simp only [ab,bt] at h2; exact ⟨nm h2.1,nm h2.2⟩
 ·subst hp; exact h3
 ·subst hp;cases bs with
  | none => simp [Kf] at h3
  | some l =>
    simp only [Kf,ab,bt] at h3;exact ⟨l,rfl,nm h3.1,nm h3.2.1,nm h3.2.2⟩
theorem wc {H X : Heap} {b : Nat} (h : b < H.length) : aH (H ++ X) b = aH H b := by
 unfold aH; rw [List.getElem?_append_left h]
theorem r9 {b : Nat} : ∀ {l : List Nat},lv b l = true ↔ ∃ x ∈ l,x = b \/ JS b x = true
 | [] => by simp [lv]
 | x :: r => by
   simp only [lv,er,decide_eq_true_eq,r9 (l := r),aJ,exists_eq_or_imp];exact ⟨fun h => h.elim (fun h => .inl (.inl h)) (fun h => h.elim (fun h => .inl (.inr h)) .inr),fun h => h.elim (fun h => h.elim .inl (fun h => .inr (.inl h))) (fun h => .inr (.inr h))⟩
theorem I5 {b : Nat} {l l' : List Nat} (h : ∀ x ∈ l,x ∈ l') (hb : lv b l' = false) : lv b l = false := by
 cases e : lv b l with
 | false => rfl
 | true =>
   obtain ⟨x,h1,h2⟩ := r9.1 e;rw [r9.2 ⟨x,h x h1,h2⟩] at hb;cases hb
theorem mW {b : Nat} {l : List Nat} (h : lv b l = false) : b ∉ l /\ ∀ j,tM b j ∉ l := by
 refine ⟨fun hb => ?_,fun j hb => ?_⟩
 ·rw [r9.2 ⟨b,hb,.inl rfl⟩] at h; cases h
 ·rw [r9.2 ⟨_,hb,.inr (by
   unfold JS tM Oe;simp only [ab,decide_eq_true_eq];refine ⟨by omega,by omega,?_⟩;rw [Nat.add_sub_cancel_left];exact Nat.mul_mod_left _ _)⟩] at h
  cases h
theorem pL.of_eq {b j : Nat} {s t : St} (h : aH t.H b = aH s.H b) : pL b j s t := fun cs hc => ⟨cs,by rw [h]; exact hc,rfl⟩
theorem U1 (HC : oi c call) (HW : Ag c call) (HL : Ai c call) {s s1 s2 u1 u2 : St} {x y : O} {f g f1 g1 : Fq} {vx vy : AV} (hx : Ev c call s x vx u1 f1) (SR : m5 (bJ s.env x.dst f1) = true) (Cy : x9 (bJ s.env x.dst f1) f) (SL : dq s1 (ji u1 x.dst vx)) (hy : Ev c call s1 y vy u2 g1) (UO : m5 (bJ s1.env y.dst g1) = true) (Cx : x9 (bJ s1.env y.dst g1) g) (PC : dq s2 (ji u2 y.dst vy)) (Om : calm f1 = true) (GX : calm g1 = true) (Bg : ja x y = true) (cO : im x f y g = true) :
  ∃ CQ,TS c call s y g CQ /\ TS c call CQ x f s2 := by
 obtain ⟨ax,ay⟩ := ve Bg;simp only [im,ab] at cO;obtain ⟨⟨cO,X7,CC⟩,_⟩ := cO;obtain ⟨cf,cg⟩ := Ie cO;obtain ⟨X,hX⟩ := HC _ _ _ _ _ hx Om;obtain ⟨Y,hY⟩ := HC _ _ _ _ _ hy GX;obtain ⟨r1,r2,r3,_⟩ := lK SR Om;obtain ⟨q1,q2,q3,_⟩ := lK UO GX
 have nwx : ∀ sl bs,bJ s.env x.dst f1 ≠ .wr sl bs := fun sl bs e => by
  have := uk SR;unfold bJ at e;cases f1 <;> simp [calm] at Om <;> (repeat' split at e) <;> simp_all
 have nwy : ∀ sl bs,bJ s1.env y.dst g1 ≠ .wr sl bs := fun sl bs e => by
  unfold bJ at e;cases g1 <;> simp [calm] at GX <;> (repeat' split at e) <;> simp_all
 have ef : bJ s.env x.dst f1 = f := Cy.cw cf nwx;have eg : bJ s1.env y.dst g1 = g := Cx.cw cg nwy;have Cb : ∀ i,get s1.env i = if x.dst = some i then vx else get s.env i := fun i => by rw [SL.1,dR,hX.st.1]
 have H1 : s1.H = s.H ++ X := by rw [SL.2,gA,hX.st.2]
 have J4 : ∀ i,x.dst = some i -> y.dst ≠ some i := fun i h => (ax i h).2
 -- y from s
 have yr : ∀ i ∈ y.reads,get s.env i = get s1.env i := fun i hi => by
  rw [Cb,if_neg];intro e;exact (ax i e).1 hi
 have yg : ∀ ps,g1 = .rd ps -> Seen ps s1 s := fun ps tT => by
  have uS : AD g = ps := by rw [<- eg,q1,tT]; rfl
  refine Seen.mk' fun p hp => ⟨fun i e => ?_,fun i j e => ?_,fun b j e => ?_⟩
  ·rw [Cb,if_neg];intro e2;have := gX X7 cg i e2;rw [uS] at this;exact (fF this p hp).1 i e rfl
  ·rw [Cb,if_neg];intro e2;have := gX X7 cg i e2;rw [uS] at this;exact (fF this p hp).2 i j e rfl
  ·subst e;rw [H1];rcases hX.nw with ⟨e,_⟩ | ⟨z,e,e2⟩
   ·rw [e]; simp
   ·have := WQ cO (by rw [<- ef]; exact r2 _ e2);rw [uS] at this;exact (wc (kM this b j hp)).symm
 have yg : wZ g1 s1 s := ⟨yg,fun b j hg => by
  refine .of_eq ?_;rw [H1];rcases hX.nw with ⟨e,_⟩ | ⟨z,e,e2⟩
  ·rw [e]; simp
  ·have := WQ cO (by rw [<- ef]; exact r2 _ e2);rw [show AD g = [.c b 0] by rw [<- eg,q1,hg]; rfl] at this;exact (wc (kM this b 0 (by simp))).symm⟩
 have yal : ∀ n,g1 = .al n -> s.H.length = n := fun n hn => by
  rcases hX.nw with ⟨e,_⟩ | ⟨z,e,e2⟩
  ·rcases hY.nw with ⟨e3,e4⟩ | ⟨z3,e3,e4⟩
   ·exact absurd hn (e4 n)
   ·rw [e4] at hn; cases hn; rw [H1,e]; simp
  ·exfalso;exact WZ cO (by rw [<- ef]; exact r2 _ e2) (by rw [<- eg]; exact q2 n hn)
 have Iz := hY.go s (fun i hi => by rw [yr i hi]) yg yal
 have gy : ∀ i,y.dst = some i -> get s1.env i = get s.env i := fun i hi => by
  rw [Cb,if_neg];intro e;exact J4 i e hi
 have Qz : bJ s.env y.dst g1 = bJ s1.env y.dst g1 := iU fun i hi => (gy i hi).symm;refine ⟨ji ⟨s.env,s.H ++ Y⟩ y.dst vy,TS.mk HC HW HL Iz (by rw [Qz]; exact UO) (by rw [Qz]; exact Cx) dq.rfl',?_⟩
 -- x from there
 generalize ht : ji ⟨s.env,s.H ++ Y⟩ y.dst vy = t;have gt : ∀ i,get t.env i = if y.dst = some i then vy else get s.env i := fun i => by rw [<- ht,dR]
 have Ht : t.H = s.H ++ Y := by rw [<- ht,gA]
 have Hl : s.H.length <= s1.H.length := by rw [H1]; simp
 have xr : ∀ i ∈ x.reads,get t.env i = get s.env i := fun i hi => by
  rw [gt,if_neg];intro e;exact (ay i e).1 hi
 have yh : ∀ ps,f1 = .rd ps -> Seen ps s t := fun ps tT => by
  have uS : AD f = ps := by rw [<- ef,r1,tT]; rfl
  refine Seen.mk' fun p hp => ⟨fun i e => ?_,fun i j e => ?_,fun b j e => ?_⟩
  ·rw [gt,if_neg];intro e2;have := gX CC cf i e2;rw [uS] at this;exact (fF this p hp).1 i e rfl
  ·rw [gt,if_neg];intro e2;have := gX CC cf i e2;rw [uS] at this;exact (fF this p hp).2 i j e rfl
  ·subst e;rw [Ht];rcases hY.nw with ⟨e,_⟩ | ⟨z,e,e2⟩
   ·rw [e]; simp
   ·have h6 := R9 cO (by rw [<- eg]; exact q2 _ e2);rw [uS] at h6;have h7 := kM h6 b j hp;rcases hX.nw with ⟨e3,_⟩ | ⟨z3,e3,e4⟩
    ·rw [H1,e3] at h7;exact wc (by simpa using h7)
    ·rw [tT] at e4; cases e4
 have yh : wZ f1 s t := ⟨yh,fun b j hg => by
  refine .of_eq ?_;rw [Ht];rcases hY.nw with ⟨e,_⟩ | ⟨z,e,e2⟩
  ·rw [e]; simp
  ·have h6 := R9 cO (by rw [<- eg]; exact q2 _ e2);rw [show AD f = [.c b 0] by rw [<- ef,r1,hg]; rfl] at h6;have h7 := kM h6 b 0 (by simp);rcases hX.nw with ⟨e3,_⟩ | ⟨z3,e3,e4⟩
   ·rw [H1,e3] at h7;exact wc (by simpa using h7)
   ·rw [hg] at e4; cases e4⟩
 have xal : ∀ n,f1 = .al n -> t.H.length = n := fun n hn => by
  rcases hX.nw with ⟨_,e⟩ | ⟨z,e,e2⟩
  ·exact absurd hn (e n)
  ·rcases hY.nw with ⟨e3,_⟩ | ⟨z3,e3,e4⟩
   ·rw [Ht,e3]; rw [hn] at e2; cases e2; simp
   ·exfalso;exact WZ cO (by rw [<- ef]; exact r2 _ hn) (by rw [<- eg]; exact q2 _ e4)
 have GR := hX.go t (fun i hi => by rw [xr i hi]) yh xal
 have gx : ∀ i,x.dst = some i -> get t.env i = get s.env i := fun i hi => by
  rw [gt,if_neg];exact J4 i hi
 have QA : bJ t.env x.dst f1 = bJ s.env x.dst f1 := iU gx;refine TS.mk HC HW HL GR (by rw [QA]; exact SR) (by rw [QA]; exact Cy) ⟨fun i => ?_,?_⟩
 ·rw [PC.1,dR,hY.st.1,dR];show (if y.dst = some i then vy else get s1.env i) = (if x.dst = some i then vx else get t.env i);rw [Cb,gt];by_cases e1 : x.dst = some i
  ·have := J4 i e1;simp [e1,this]
  ·simp [e1]
 ·rw [PC.2,gA,hY.st.2,gA];show s1.H ++ Y = t.H ++ X;rw [H1,Ht];rcases hX.nw with ⟨e,_⟩ | ⟨z,e,e2⟩
  ·rw [e]; simp
  ·rcases hY.nw with ⟨e3,_⟩ | ⟨z3,e3,e4⟩
   ·rw [e3]; simp
   ·exact absurd (by rw [<- eg]; exact q2 _ e4) (WZ cO (by rw [<- ef]; exact r2 _ e2))
theorem x9.sub {sl sl' : List Nat} {bs bs' : Option (List Nat)} (h : x9 (.wr sl bs) (.wr sl' bs')) : ∀ i ∈ sl,i ∈ sl' := h.1
theorem x9.G5 {f : Fq} {sl : List Nat} {bs : Option (List Nat)} (h : x9 (.wr sl bs) f) (hc : m5 f = true) : ∃ sl' bs',f = .wr sl' bs' := by
 cases f <;> simp [x9,m5] at h hc ⊢
theorem aeC {f : Fq} {sl : List Nat} {bs : Option (List Nat)} (h : f.ok (.wr sl bs) = true) : (∀ ps,f ≠ .bo ps) /\ (∀ n,f ≠ .al n) := by
 cases f <;> simp [Fq.ok] at h ⊢
theorem WN {f : Fq} {sl : List Nat} {bs : Option (List Nat)} (h : Fq.ok (.wr sl bs) f = true) : (∀ ps,f ≠ .bo ps) /\ (∀ n,f ≠ .al n) /\ ∀ sl bs,f ≠ .wr sl bs := by
 cases f <;> simp [Fq.ok] at h ⊢
theorem aaV (HC : oi c call) (HW : Ag c call) (HL : Ai c call) {s s1 s2 u1 u2 : St} {x y : O} {f g f1 : Fq} {TP : List Nat} {Gb : Option (List Nat)} {vx vy : AV} (hx : Ev c call s x vx u1 f1) (SR : m5 (bJ s.env x.dst f1) = true) (Cy : x9 (bJ s.env x.dst f1) f) (SL : dq s1 (ji u1 x.dst vx)) (hy : Ev c call s1 y vy u2 (.wr TP Gb)) (UO : m5 (bJ s1.env y.dst (.wr TP Gb)) = true) (Cx : x9 (bJ s1.env y.dst (.wr TP Gb)) g) (PC : dq s2 (ji u2 y.dst vy)) (Om : calm f1 = true) (Bg : ja x y = true) (cO : im x f y g = true) :
  ∃ CQ,TS c call s y g CQ /\ TS c call CQ x f s2 := by
 obtain ⟨ax,ay⟩ := ve Bg;simp only [im,ab] at cO;obtain ⟨⟨cO,X7,CC⟩,_,hw⟩ := cO;obtain ⟨cf,cg⟩ := Ie cO;obtain ⟨X,hX⟩ := HC _ _ _ _ _ hx Om;obtain ⟨V,hV⟩ := HW _ _ _ _ _ _ hy;obtain ⟨r1,r2,r3,r4⟩ := lK SR Om;obtain ⟨q1,q2⟩ := nf UO;rw [q1] at Cx;obtain ⟨sl,bs,rfl⟩ := Cx.G5 cg;obtain ⟨o1,o2⟩ := aeC cO
 have nwx : ∀ sl bs,bJ s.env x.dst f1 ≠ .wr sl bs := fun sl bs e => by
  unfold bJ at e;cases f1 <;> simp [calm] at Om <;> (repeat' split at e) <;> simp_all
 have ef : bJ s.env x.dst f1 = f := Cy.cw cf nwx;obtain ⟨e1,UQ⟩ := r4 (fun ps e => o1 ps (ef ▸ e));have ef' : f1 = f := e1 ▸ ef
 have hX0 : X = [] := by
  rcases hX.nw with ⟨e,_⟩ | ⟨z,e,e2⟩
  ·exact e
  ·exact absurd (ef' ▸ e2) (o2 _)
 subst hX0;obtain ⟨w1,w2,w3,w4⟩ := G6 hw;have sub : ∀ {i : Nat},i ∉ sl -> i ∉ TP := fun h hi => h (Cx.sub _ hi);have J4 : ∀ i,x.dst = some i -> y.dst ≠ some i := fun i h => (ax i h).2;have Cb : ∀ i,get s1.env i = if x.dst = some i then vx else get s.env i := fun i => by rw [SL.1,dR,hX.st.1]
 have H1 : s1.H = s.H := by rw [SL.2,gA,hX.st.2]; simp
 -- y from s
 have CA : ∃ t1 sl',Ev c call s y vy t1 (.wr sl' Gb) /\ (∀ i ∈ sl',i ∈ TP) /\ (∀ i,get t1.env i = if x.dst = some i then get s.env i else get u2.env i) /\ t1.H = u2.H := by
  cases hd : x.dst with
  | none =>
    refine ⟨u2,TP,hy.same ⟨fun i => ?_,H1⟩ dq.rfl',fun i hi => hi,fun i => by simp,rfl⟩;rw [Cb,hd]; simp
  | some d =>
    obtain ⟨t1,sl',h1,h2,h3⟩ := hV.go d (get s.env d) (fun h => (ax d hd).1 h) (sub (w2 d hd).1) (sub (w2 d hd).2) (fun p hp => by rw [UQ d hd] at hp; simp at hp);refine ⟨t1,sl',h1.same ⟨fun i => ?_,H1⟩ dq.rfl',h2,fun i => ?_,h3.2⟩
    ·show get (put s1.env d (get s.env d)) i = get s.env i;rw [br];split
     ·rename_i e; rw [e]
     ·rename_i e;rw [Cb,hd,if_neg];simp; exact fun h => e h.symm
    ·rw [h3.1];show get (put u2.env d (get s.env d)) i = _;rw [br];by_cases e : i = d
     ·subst e; simp
     ·have : d ≠ i := fun h => e h.symm;simp [e,this]
 obtain ⟨t1,sl',Iz,hsl',gt1,Ht1⟩ := CA
 have gy : ∀ i,y.dst = some i -> get s1.env i = get s.env i := fun i hi => by
  rw [Cb,if_neg];intro e;exact J4 i e hi
 have Qz : bJ s.env y.dst (.wr sl' Gb) = .wr sl' Gb := BG (sl' := sl') (bs' := Gb) (e' := s.env) fun i hi => by rw [<- gy i hi]; exact q2 i hi
 have ley : x9 (.wr sl' Gb) (.wr sl bs) := ⟨fun i hi => Cx.1 i (hsl' i hi),Cx.2⟩;refine ⟨ji t1 y.dst vy,TS.mk HC HW HL Iz (by rw [Qz]; rfl) (by rw [Qz]; exact ley) dq.rfl',?_⟩;generalize ht : ji t1 y.dst vy = t;have gt : ∀ i,get t.env i = if y.dst = some i then vy else if x.dst = some i then get s.env i else get u2.env i := fun i => by rw [<- ht,dR,gt1]
 have Ht : t.H = u2.H := by rw [<- ht,gA,Ht1]
 have N3 : ∀ i,i ∉ sl -> i + km ∉ sl -> y.dst ≠ some i -> get t.env i = get s.env i := fun i hi hi2 hd => by
  rw [gt,if_neg hd];split
  ·rfl
  ·rename_i e;rw [hV.env i (sub hi) (sub hi2),Cb,if_neg e]
 have YX : ∀ i,i ∉ sl -> y.dst ≠ some i -> eG i (get t.env i) = eG i (get s.env i) := fun i hi hd => by
  rw [gt,if_neg hd];split
  ·rfl
  ·rename_i e;rw [hV.hd i (sub hi),Cb,if_neg e]
 have xr : ∀ i ∈ x.reads,eG i (get t.env i) = eG i (get s.env i) := fun i hi => YX i (w1 i hi) fun e => (ay i e).1 hi
 have yh : ∀ ps,f1 = .rd ps -> Seen ps s t := fun ps tT => by
  have uS : f = .rd ps := by rw [<- ef']; exact tT
  refine Seen.mk' fun p hp => ?_;obtain ⟨a1,a2,a3⟩ := tb (w3 ps uS) p hp
  have ns : ∀ i,y.dst = some i -> (∀ k,p = .s k -> k ≠ i) /\ ∀ k j,p = .sc k j -> k ≠ i := fun i hi => by
   have := gX CC cf i hi;rw [uS] at this;exact fF this p hp
  refine ⟨fun i e => N3 i (a1 i e).1 (a1 i e).2 fun h => (ns i h).1 i e rfl,fun i j e => N3 i (a2 i j e).1 (a2 i j e).2 fun h => (ns i h).2 i j e rfl,fun b j e => ?_⟩;obtain ⟨l,e5,e6,_⟩ := a3 b j e;subst e5;have h8 := Cx.2;cases Gb with
  | none => simp at h8
  | some l0 =>
    rw [Ht,hV.heap l0 rfl b (I5 h8 e6),H1]
 have yh : wZ f1 s t := ⟨yh,fun b j tT => by
  have uS : f = .rc b j := by rw [<- ef']; exact tT
  obtain ⟨l,e5,e6,e7,e8⟩ := w4 b j uS;subst e5;have h8 := Cx.2;cases Gb with
  | none => simp at h8
  | some l0 =>
    have h9 := (hV.cell l0 rfl b j (fun h => e6 (h8 b h)) (fun h => e8 (h8 _ h))).1;intro cs hc;rw [<- H1] at hc;rw [Ht];exact h9 cs hc⟩
 have xal : ∀ n,f1 = .al n -> t.H.length = n := fun n hn => absurd (ef' ▸ hn) (o2 n);have GR := hX.go t xr yh xal;have gx : ∀ i,x.dst = some i -> get t.env i = get s.env i := fun i hi => N3 i (w2 i hi).1 (w2 i hi).2 (J4 i hi);have QA : bJ t.env x.dst f1 = bJ s.env x.dst f1 := iU gx;refine TS.mk HC HW HL GR (by rw [QA]; exact SR) (by rw [QA]; exact Cy) ⟨fun i => ?_,?_⟩
 ·rw [PC.1,dR,dR];show (if y.dst = some i then vy else get u2.env i) = (if x.dst = some i then vx else get t.env i);rw [gt];by_cases e1 : x.dst = some i
  ·have := J4 i e1;simp only [e1,this,if_true,if_false];rw [hV.env i (sub (w2 i e1).1) (sub (w2 i e1).2),Cb,if_pos e1]
  ·simp [e1]
 ·rw [PC.2,gA,gA];show u2.H = t.H ++ [];rw [Ht]; simp
theorem aaT (HC : oi c call) (HW : Ag c call) (HL : Ai c call) {s s1 s2 u1 u2 : St} {x y : O} {f g g1 : Fq} {TP : List Nat} {Gb : Option (List Nat)} {vx vy : AV} (hx : Ev c call s x vx u1 (.wr TP Gb)) (SR : m5 (bJ s.env x.dst (.wr TP Gb)) = true) (Cy : x9 (bJ s.env x.dst (.wr TP Gb)) f) (SL : dq s1 (ji u1 x.dst vx)) (hy : Ev c call s1 y vy u2 g1) (UO : m5 (bJ s1.env y.dst g1) = true) (Cx : x9 (bJ s1.env y.dst g1) g) (PC : dq s2 (ji u2 y.dst vy)) (GX : calm g1 = true) (Bg : ja x y = true) (cO : im x f y g = true) :
  ∃ CQ,TS c call s y g CQ /\ TS c call CQ x f s2 := by
 obtain ⟨ax,ay⟩ := ve Bg;simp only [im,ab] at cO;obtain ⟨⟨cO,X7,CC⟩,hw,_⟩ := cO;obtain ⟨cf,cg⟩ := Ie cO;obtain ⟨V,hV⟩ := HW _ _ _ _ _ _ hx;obtain ⟨Y,hY⟩ := HC _ _ _ _ _ hy GX;obtain ⟨r1,r2⟩ := nf SR;obtain ⟨q1,q2,q3,q4⟩ := lK UO GX;rw [r1] at Cy;obtain ⟨sl,bs,rfl⟩ := Cy.G5 cf;obtain ⟨o1,o2,_⟩ := WN cO
 have nwy : ∀ sl bs,bJ s1.env y.dst g1 ≠ .wr sl bs := fun sl bs e => by
  unfold bJ at e;cases g1 <;> simp [calm] at GX <;> (repeat' split at e) <;> simp_all
 have eg : bJ s1.env y.dst g1 = g := Cx.cw cg nwy;obtain ⟨e1,_⟩ := q4 (fun ps e => o1 ps (eg ▸ e));have eg' : g1 = g := e1 ▸ eg
 have hY0 : Y = [] := by
  rcases hY.nw with ⟨e,_⟩ | ⟨z,e,e2⟩
  ·exact e
  ·exact absurd (eg' ▸ e2) (o2 _)
 subst hY0;obtain ⟨w1,w2,w3,w4⟩ := G6 hw;have sub : ∀ {i : Nat},i ∉ sl -> i ∉ TP := fun h hi => h (Cy.sub _ hi);have J4 : ∀ i,x.dst = some i -> y.dst ≠ some i := fun i h => (ax i h).2;have Cb : ∀ i,get s1.env i = if x.dst = some i then vx else get u1.env i := fun i => by rw [SL.1,dR]
 have H1 : s1.H = u1.H := by rw [SL.2,gA]
 have N3 : ∀ i,i ∉ sl -> i + km ∉ sl -> x.dst ≠ some i -> get s.env i = get s1.env i := fun i hi hi2 hd => by rw [Cb,if_neg hd,hV.env i (sub hi) (sub hi2)]
 have YX : ∀ i,i ∉ sl -> x.dst ≠ some i -> eG i (get s.env i) = eG i (get s1.env i) := fun i hi hd => by rw [Cb,if_neg hd,hV.hd i (sub hi)]
 have acx : ∀ b j,g1 = .rc b j -> ∃ l,Gb = some l /\ b ∉ l /\ b + km ∉ l /\ tM b j ∉ l := fun b j tT => by
  obtain ⟨l,e5,e6,e7,e8⟩ := w4 b j (by rw [<- eg']; exact tT);subst e5;have h8 := Cy.2;cases Gb with
  | none => simp at h8
  | some l0 => exact ⟨l0,rfl,fun h => e6 (h8 b h),fun h => e7 (h8 _ h),fun h => e8 (h8 _ h)⟩
 have boxes : ∀ {ps : List Rt},g1 = .rd ps -> ∀ b j,Rt.c b j ∈ ps -> ∃ l,Gb = some l /\ lv b l = false /\ (j = 0 -> b + km ∉ l) := fun {ps} tT b j hp => by
  have uS : g = .rd ps := by rw [<- eg']; exact tT
  obtain ⟨_,_,a3⟩ := tb (w3 ps uS) _ hp;obtain ⟨l,e5,e6,e7⟩ := a3 b j rfl;subst e5;have h8 := Cy.2;cases Gb with
  | none => simp at h8
  | some l0 => exact ⟨l0,rfl,I5 h8 e6,fun e h => e7 e (h8 _ h)⟩
 have yr : ∀ i ∈ y.reads,eG i (get s.env i) = eG i (get s1.env i) := fun i hi => YX i (w1 i hi) fun e => (ax i e).1 hi
 have yg : ∀ ps,g1 = .rd ps -> Seen ps s1 s := fun ps tT => by
  have uS : g = .rd ps := by rw [<- eg']; exact tT
  refine Seen.mk' fun p hp => ?_;obtain ⟨a1,a2,_⟩ := tb (w3 ps uS) p hp
  have ns : ∀ i,x.dst = some i -> (∀ k,p = .s k -> k ≠ i) /\ ∀ k j,p = .sc k j -> k ≠ i := fun i hi => by
   have := gX X7 cg i hi;rw [uS] at this;exact fF this p hp
  refine ⟨fun i e => N3 i (a1 i e).1 (a1 i e).2 fun h => (ns i h).1 i e rfl,fun i j e => N3 i (a2 i j e).1 (a2 i j e).2 fun h => (ns i h).2 i j e rfl,fun b j e => ?_⟩;subst e;obtain ⟨l,e5,e6,_⟩ := boxes tT b j hp;rw [H1,hV.heap l e5 b e6]
 have yg : wZ g1 s1 s := ⟨yg,fun b j tT => by
  obtain ⟨l,e5,e6,e7,e8⟩ := acx b j tT;intro cs hc;rw [H1] at hc;exact (hV.cell l e5 b j e6 e8).2 cs hc⟩
 have yal : ∀ n,g1 = .al n -> s.H.length = n := fun n hn => absurd (eg' ▸ hn) (o2 n);have Iz := hY.go s yr yg yal;have gy : ∀ i,y.dst = some i -> get s1.env i = get s.env i := fun i hi => (N3 i (w2 i hi).1 (w2 i hi).2 (fun e => J4 i e hi)).symm;have Qz : bJ s.env y.dst g1 = bJ s1.env y.dst g1 := iU fun i hi => (gy i hi).symm;refine ⟨ji ⟨s.env,s.H ++ []⟩ y.dst vy,TS.mk HC HW HL Iz (by rw [Qz]; exact UO) (by rw [Qz]; exact Cx) dq.rfl',?_⟩
 have aev : ∀ p ∈ aL vy,¬ V p := by
  obtain ⟨Y',hYs⟩ := HC _ _ _ _ _ Iz GX;refine hYs.val V (fun i hi => hV.v1 i (sub (w1 i hi))) (fun ps tT b hp cs hb => ?_) fun b j tT cs c0 hb hc => ?_
  ·obtain ⟨l0,e5,e6,e7⟩ := boxes tT b 0 hp;exact hV.v2 l0 e5 b e6 (e7 rfl) cs hb
  ·obtain ⟨l0,e5,e6,e7,e8⟩ := acx b j tT;exact hV.v3 l0 e5 b j e6 e7 e8 cs c0 hb hc
 have CA : ∃ t1 sl',Ev c call (ji ⟨s.env,s.H ++ []⟩ y.dst vy) x vx t1 (.wr sl' Gb) /\ (∀ i ∈ sl',i ∈ TP) /\ dq t1 (ji u1 y.dst vy) := by
  cases hd : y.dst with
  | none => exact ⟨u1,TP,hx.same ⟨fun i => rfl,by simp [ji]⟩ dq.rfl',fun i hi => hi,dq.rfl'⟩
  | some d =>
    obtain ⟨t1,sl',h1,h2,h3⟩ := hV.go d vy (fun h => (ay d hd).1 h) (sub (w2 d hd).1) (sub (w2 d hd).2) aev;exact ⟨t1,sl',h1.same ⟨fun i => rfl,by simp [ji]⟩ dq.rfl',h2,h3⟩
 obtain ⟨t1,sl',GR,hsl',ht1⟩ := CA;have gx : ∀ i,x.dst = some i -> get (ji ⟨s.env,s.H ++ []⟩ y.dst vy).env i = get s.env i := fun i hi => by rw [dR,if_neg (J4 i hi)]
 have QA : bJ (ji ⟨s.env,s.H ++ []⟩ y.dst vy).env x.dst (.wr sl' Gb) = .wr sl' Gb := BG (sl' := sl') (bs' := Gb) (e' := s.env) fun i hi => by rw [gx i hi]; exact r2 i hi
 have lex : x9 (.wr sl' Gb) (.wr sl bs) := ⟨fun i hi => Cy.1 i (hsl' i hi),Cy.2⟩;refine TS.mk HC HW HL GR (by rw [QA]; rfl) (by rw [QA]; exact lex) ⟨fun i => ?_,?_⟩
 ·rw [PC.1,dR,hY.st.1,dR,ht1.1,dR];show (if y.dst = some i then vy else get s1.env i) = (if x.dst = some i then vx else if y.dst = some i then vy else get u1.env i);rw [Cb];by_cases e1 : x.dst = some i
  ·have := J4 i e1;simp [e1,this]
  ·simp [e1]
 ·rw [PC.2,gA,hY.st.2,gA,ht1.2,gA];show s1.H ++ [] = u1.H;rw [H1]; simp
theorem x9.MH {f : Fq} {b : Nat} (h : x9 (.lw b) f) (hc : m5 f = true) : f = .lw b := by
 cases f <;> simp [x9,m5] at h hc ⊢
 exact h.symm
theorem ace {f : Fq} {b : Nat} (h : f.ok (.lw b) = true) : (∀ ps,f ≠ .bo ps) /\ (∀ n,f = .al n -> b < n) /\ (∀ ps,f = .rd ps -> pk b ps = true) /\ (∀ d j,f = .rc d j -> d ≠ b) /\ (∀ sl bs,f ≠ .wr sl bs) /\ ∀ d,f ≠ .lw d := by
 cases f <;> simp [Fq.ok] at h ⊢ <;> exact h
theorem WT {f : Fq} {b : Nat} (h : Fq.ok (.lw b) f = true) : (∀ ps,f ≠ .bo ps) /\ (∀ n,f = .al n -> b < n) /\ (∀ ps,f = .rd ps -> pk b ps = true) /\ (∀ d j,f = .rc d j -> d ≠ b) /\ (∀ sl bs,f ≠ .wr sl bs) /\ ∀ d,f ≠ .lw d := by
 cases f <;> simp [Fq.ok] at h ⊢ <;> exact h
theorem xD {b : Nat} : ∀ {ps : List Rt},pk b ps = true -> ∀ d j,Rt.c d j ∈ ps -> d ≠ b
 | [],_,d,j,h => by simp at h
 | q :: r,h,d,j,hp => by
   rcases aJ.1 hp with e | e
   ·subst e; simp only [pk,ab,decide_eq_true_eq] at h; exact h.1
   ·have h' : pk b r = true := by cases q <;> simp only [pk,ab] at h <;> first | exact h | exact h.2
    exact xD h' d j e
theorem aaW (HC : oi c call) (HW : Ag c call) (HL : Ai c call) {s s1 s2 u1 u2 : St} {x y : O} {f g f1 : Fq} {b : Nat} {vx vy : AV} (hx : Ev c call s x vx u1 f1) (SR : m5 (bJ s.env x.dst f1) = true) (Cy : x9 (bJ s.env x.dst f1) f) (SL : dq s1 (ji u1 x.dst vx)) (hy : Ev c call s1 y vy u2 (.lw b)) (UO : m5 (bJ s1.env y.dst (.lw b)) = true) (Cx : x9 (bJ s1.env y.dst (.lw b)) g) (PC : dq s2 (ji u2 y.dst vy)) (Om : calm f1 = true) (Bg : ja x y = true) (cO : im x f y g = true) :
  ∃ CQ,TS c call s y g CQ /\ TS c call CQ x f s2 := by
 obtain ⟨ax,ay⟩ := ve Bg;simp only [im,ab] at cO;obtain ⟨⟨cO,X7,CC⟩,_⟩ := cO;obtain ⟨cf,cg⟩ := Ie cO;obtain ⟨X,hX⟩ := HC _ _ _ _ _ hx Om;obtain ⟨cs,cs',hY⟩ := HL _ _ _ _ _ hy;obtain ⟨r1,r2,r3,r4⟩ := lK SR Om;obtain ⟨q1,q2⟩ := uj UO;have hly' := Cx;rw [q1] at hly';have hg := hly'.MH cg;subst hg;obtain ⟨o1,o2,o3,o4,_,_⟩ := ace cO
 have nwx : ∀ sl bs,bJ s.env x.dst f1 ≠ .wr sl bs := fun sl bs e => by
  unfold bJ at e;cases f1 <;> simp [calm] at Om <;> (repeat' split at e) <;> simp_all
 have ef : bJ s.env x.dst f1 = f := Cy.cw cf nwx;obtain ⟨e1,_⟩ := r4 (fun ps e => o1 ps (ef ▸ e));have ef' : f1 = f := e1 ▸ ef;subst ef';have Cb : ∀ i,get s1.env i = if x.dst = some i then vx else get s.env i := fun i => by rw [SL.1,dR,hX.st.1]
 have H1 : s1.H = s.H ++ X := by rw [SL.2,gA,hX.st.2]
 have J4 : ∀ i,x.dst = some i -> y.dst ≠ some i := fun i h => (ax i h).2
 have blt : b < s.H.length := by
  have h1 := dZ hY.bl;rcases hX.nw with ⟨e,_⟩ | ⟨z,e,e2⟩
  ·rw [H1,e] at h1; simpa using h1
  ·exact o2 _ e2
 have JZ : aH s.H b = some cs := by
  have h1 := hY.bl;rw [H1,wc blt] at h1;exact h1
 have yr : ∀ i ∈ y.reads,get s.env i = get s1.env i := fun i hi => by
  rw [Cb,if_neg];intro e;exact (ax i e).1 hi
 have Iz := hY.go s yr JZ
 have gy : ∀ i,y.dst = some i -> get s1.env i = get s.env i := fun i hi => by
  rw [Cb,if_neg];intro e;exact J4 i e hi
 have Qz : bJ s.env y.dst (.lw b) = bJ s1.env y.dst (.lw b) := iU fun i hi => (gy i hi).symm;refine ⟨ji ⟨s.env,s.H.set b (some cs')⟩ y.dst vy,TS.mk HC HW HL Iz (by rw [Qz]; exact UO) (by rw [Qz]; exact Cx) dq.rfl',?_⟩;generalize ht : ji ⟨s.env,s.H.set b (some cs')⟩ y.dst vy = t;have gt : ∀ i,get t.env i = if y.dst = some i then vy else get s.env i := fun i => by rw [<- ht,dR]
 have Ht : t.H = s.H.set b (some cs') := by rw [<- ht,gA]
 have xr : ∀ i ∈ x.reads,get t.env i = get s.env i := fun i hi => by
  rw [gt,if_neg];intro e;exact (ay i e).1 hi
 have UQ : ∀ d,d ≠ b -> aH t.H d = aH s.H d := fun d hd => by rw [Ht,dF,if_neg (fun h => hd h.1)]
 have yh : wZ f1 s t := by
  refine ⟨fun ps tT => Seen.mk' fun p hp => ⟨fun i e => ?_,fun i j e => ?_,fun d j e => ?_⟩,fun d j hf => .of_eq (UQ d (o4 d j hf))⟩
  ·rw [gt,if_neg];intro e2;have := gX CC cf i e2;rw [tT] at this;exact (fF (show gk i ps = true from this) p hp).1 i e rfl
  ·rw [gt,if_neg];intro e2;have := gX CC cf i e2;rw [tT] at this;exact (fF (show gk i ps = true from this) p hp).2 i j e rfl
  ·subst e;exact UQ d (xD (o3 ps tT) d j hp)
 have xal : ∀ n,f1 = .al n -> t.H.length = n := fun n hn => by
  rcases hX.nw with ⟨_,e⟩ | ⟨z,e,e2⟩
  ·exact absurd hn (e n)
  ·rw [hn] at e2; cases e2; rw [Ht]; simp
 have GR := hX.go t (fun i hi => by rw [xr i hi]) yh xal
 have gx : ∀ i,x.dst = some i -> get t.env i = get s.env i := fun i hi => by
  rw [gt,if_neg];exact J4 i hi
 have QA : bJ t.env x.dst f1 = bJ s.env x.dst f1 := iU gx;refine TS.mk HC HW HL GR (by rw [QA]; exact SR) (by rw [QA]; exact Cy) ⟨fun i => ?_,?_⟩
 ·rw [PC.1,dR,hY.st.1,dR];show (if y.dst = some i then vy else get s1.env i) = if x.dst = some i then vx else get t.env i;rw [Cb,gt];by_cases h1 : x.dst = some i
  ·simp [h1,J4 i h1]
  ·simp [h1]
 ·rw [PC.2,gA,hY.st.2,gA];show s1.H.set b (some cs') = t.H ++ X;rw [H1,Ht,Qn _ _ blt]
theorem aaU (HC : oi c call) (HW : Ag c call) (HL : Ai c call) {s s1 s2 u1 u2 : St} {x y : O} {f g g1 : Fq} {b : Nat} {vx vy : AV} (hx : Ev c call s x vx u1 (.lw b)) (SR : m5 (bJ s.env x.dst (.lw b)) = true) (Cy : x9 (bJ s.env x.dst (.lw b)) f) (SL : dq s1 (ji u1 x.dst vx)) (hy : Ev c call s1 y vy u2 g1) (UO : m5 (bJ s1.env y.dst g1) = true) (Cx : x9 (bJ s1.env y.dst g1) g) (PC : dq s2 (ji u2 y.dst vy)) (GX : calm g1 = true) (Bg : ja x y = true) (cO : im x f y g = true) :
  ∃ CQ,TS c call s y g CQ /\ TS c call CQ x f s2 := by
 obtain ⟨ax,ay⟩ := ve Bg;simp only [im,ab] at cO;obtain ⟨⟨cO,X7,CC⟩,_⟩ := cO;obtain ⟨cf,cg⟩ := Ie cO;obtain ⟨cs,cs',hX⟩ := HL _ _ _ _ _ hx;obtain ⟨Y,hY⟩ := HC _ _ _ _ _ hy GX;obtain ⟨q1,q2⟩ := uj SR;have hlx' := Cy;rw [q1] at hlx';have hf := hlx'.MH cf;subst hf;obtain ⟨o1,o2,o3,o4,_,_⟩ := WT cO;obtain ⟨r1,r2,r3,r4⟩ := lK UO GX
 have nwy : ∀ sl bs,bJ s1.env y.dst g1 ≠ .wr sl bs := fun sl bs e => by
  unfold bJ at e;cases g1 <;> simp [calm] at GX <;> (repeat' split at e) <;> simp_all
 have eg : bJ s1.env y.dst g1 = g := Cx.cw cg nwy;obtain ⟨e1,_⟩ := r4 (fun ps e => o1 ps (eg ▸ e));have eg' : g1 = g := e1 ▸ eg;subst eg';have Cb : ∀ i,get s1.env i = if x.dst = some i then vx else get s.env i := fun i => by rw [SL.1,dR,hX.st.1]
 have H1 : s1.H = s.H.set b (some cs') := by rw [SL.2,gA,hX.st.2]
 have J4 : ∀ i,x.dst = some i -> y.dst ≠ some i := fun i h => (ax i h).2;have blt : b < s.H.length := dZ hX.bl;have UQ : ∀ d,d ≠ b -> aH s.H d = aH s1.H d := fun d hd => by rw [H1,dF,if_neg (fun h => hd h.1)]
 have yr : ∀ i ∈ y.reads,get s.env i = get s1.env i := fun i hi => by
  rw [Cb,if_neg];intro e;exact (ax i e).1 hi
 have yg : wZ g1 s1 s := by
  refine ⟨fun ps tT => Seen.mk' fun p hp => ⟨fun i e => ?_,fun i j e => ?_,fun d j e => ?_⟩,fun d j hf => .of_eq (UQ d (o4 d j hf))⟩
  ·rw [Cb,if_neg];intro e2;have := gX X7 cg i e2;rw [tT] at this;exact (fF (show gk i ps = true from this) p hp).1 i e rfl
  ·rw [Cb,if_neg];intro e2;have := gX X7 cg i e2;rw [tT] at this;exact (fF (show gk i ps = true from this) p hp).2 i j e rfl
  ·subst e;exact UQ d (xD (o3 ps tT) d j hp)
 have yal : ∀ n,g1 = .al n -> s.H.length = n := fun n hn => by
  rcases hY.nw with ⟨_,e⟩ | ⟨z,e,e2⟩
  ·exact absurd hn (e n)
  ·rw [hn] at e2; cases e2; rw [H1]; simp
 have Iz := hY.go s (fun i hi => by rw [yr i hi]) yg yal
 have gy : ∀ i,y.dst = some i -> get s1.env i = get s.env i := fun i hi => by
  rw [Cb,if_neg];intro e;exact J4 i e hi
 have Qz : bJ s.env y.dst g1 = bJ s1.env y.dst g1 := iU fun i hi => (gy i hi).symm;refine ⟨ji ⟨s.env,s.H ++ Y⟩ y.dst vy,TS.mk HC HW HL Iz (by rw [Qz]; exact UO) (by rw [Qz]; exact Cx) dq.rfl',?_⟩;generalize ht : ji ⟨s.env,s.H ++ Y⟩ y.dst vy = t;have gt : ∀ i,get t.env i = if y.dst = some i then vy else get s.env i := fun i => by rw [<- ht,dR]
 have Ht : t.H = s.H ++ Y := by rw [<- ht,gA]
 have xr : ∀ i ∈ x.reads,get t.env i = get s.env i := fun i hi => by
  rw [gt,if_neg];intro e;exact (ay i e).1 hi
 have GR := hX.go t xr (by rw [Ht,wc blt]; exact hX.bl)
 have gx : ∀ i,x.dst = some i -> get t.env i = get s.env i := fun i hi => by
  rw [gt,if_neg];exact J4 i hi
 have QA : bJ t.env x.dst (.lw b) = bJ s.env x.dst (.lw b) := iU gx;refine TS.mk HC HW HL GR (by rw [QA]; exact SR) (by rw [QA]; exact Cy) ⟨fun i => ?_,?_⟩
 ·rw [PC.1,dR,hY.st.1,dR];show (if y.dst = some i then vy else get s1.env i) = if x.dst = some i then vx else get t.env i;rw [Cb,gt];by_cases h1 : x.dst = some i
  ·simp [h1,J4 i h1]
  ·simp [h1]
 ·rw [PC.2,gA,hY.st.2,gA];show s1.H ++ Y = t.H.set b (some cs');rw [H1,Ht,Qn _ _ blt]
theorem adZ (HC : oi c call) (HW : Ag c call) (HL : Ai c call) : Oc (TS c call) := by
 intro s x f s1 y g s2 hx hy Bg cO;have GU := cO;simp only [im,ab] at GU;obtain ⟨cf,cg⟩ := Ie GU.1.1;obtain ⟨vx,u1,f1,x1,x2,x3,x4⟩ := hx.out HC HW HL cf;obtain ⟨vy,u2,g1,y1,y2,y3,y4⟩ := hy.out HC HW HL cg;have c1 := uk x2;have c2 := uk y2;by_cases Om : calm f1 = true
 ·by_cases GX : calm g1 = true
  ·exact U1 HC HW HL x1 x2 x3 x4 y1 y2 y3 y4 Om GX Bg cO
  ·cases g1 <;> simp [calm,m5] at GX c2
   case wr sl bs => exact aaV HC HW HL x1 x2 x3 x4 y1 y2 y3 y4 Om Bg cO
   case bo => exact absurd rfl (y1.fl _)
   case lw b => exact aaW HC HW HL x1 x2 x3 x4 y1 y2 y3 y4 Om Bg cO
 ·cases f1 <;> simp [calm,m5] at Om c1
  case wr sl bs =>
   by_cases GX : calm g1 = true
   ·exact aaT HC HW HL x1 x2 x3 x4 y1 y2 y3 y4 GX Bg cO
   ·cases g1 <;> simp [calm,m5] at GX c2
    case wr sl' bs' =>
     exfalso;rw [(nf x2).1] at x3;rw [(nf y2).1] at y3;obtain ⟨_,_,rfl⟩ := x3.G5 cf;obtain ⟨_,_,rfl⟩ := y3.G5 cg;exact (WN GU.1.1).2.2 _ _ rfl
    case bo => exact absurd rfl (y1.fl _)
    case lw b =>
     exfalso;rw [(nf x2).1] at x3;rw [(uj y2).1] at y3;obtain ⟨_,_,rfl⟩ := x3.G5 cf;have := y3.MH cg;subst this;exact (ace GU.1.1).2.2.2.2.1 _ _ rfl
  case bo => exact absurd rfl (x1.fl _)
  case lw b =>
   by_cases GX : calm g1 = true
   ·exact aaU HC HW HL x1 x2 x3 x4 y1 y2 y3 y4 GX Bg cO
   ·exfalso;rw [(uj x2).1] at x3;have hf := x3.MH cf;subst hf;obtain ⟨_,_,_,_,o5,o6⟩ := WT GU.1.1;cases g1 <;> simp [calm,m5] at GX c2
    case wr sl' bs' =>
     rw [(nf y2).1] at y3;obtain ⟨_,_,rfl⟩ := y3.G5 cg;exact o5 _ _ rfl
    case bo => exact absurd rfl (y1.fl _)
    case lw d =>
     rw [(uj y2).1] at y3;exact o6 _ (y3.MH cg)
end
end Go.Bm

/- What the value of a calm operation mentions was read. -/
namespace Go.Bm
open Go.Am
section
variable {P : Program} {c : dN} {call : Nat -> List AV -> Heap -> Option (AV × Heap)} {V : Rt -> Prop}
def Kk (V : Rt -> Prop) (x : AV) : Prop := ∀ p ∈ aL x,¬ V p
theorem jv {p : Rt} : ∀ {cs : List AV},p ∈ cQ cs ↔ ∃ x ∈ cs,p ∈ aL x
 | [] => by simp [cQ]
 | x :: r => by simp [cQ,jv (cs := r)]
theorem AZ {f : Nat -> Rt} {p : Rt} : ∀ {cs : List AV} {j : Nat},p ∈ cQ (fh f j cs) -> p ∈ cQ cs \/ ∃ i,p = f i
 | [],j,h => by simp [fh,cQ] at h
 | x :: r,j,h => by
   have ih := fun h => AZ (f := f) (p := p) (cs := r) (j := j + 1) h;cases x <;> simp only [fh,cQ,aL,aD,List.nil_append,aJ,List.not_mem_nil,or_false] at h ih ⊢
   case own k xs =>
    rcases h with h | h
    ·exact .inr ⟨j,h⟩
    ·exact ih h
   all_goals first
    | exact ih h
    | (rcases h with h | h
       ·exact .inl (.inl h)
       ·rcases ih h with h | h
        ·exact .inl (.inr h)
        ·exact .inr h)
theorem Xo {i : Nat} {x : AV} {p : Rt} (h : p ∈ aL (eG i x)) : p ∈ aL x \/ p = .s i \/ ∃ j,p = .sc i j := by
 cases x <;> simp only [eG] at h
 case own k xs => simp [aL] at h; exact .inr (.inl h)
 case agg cs =>
  simp only [aL] at h ⊢;rcases AZ h with h | h
  ·exact .inl h
  ·exact .inr (.inr h)
 all_goals exact .inl h
def CI (V : Rt -> Prop) (env : Env) (l : List Nat) : Prop := ∀ i ∈ l,(∀ p ∈ aL (get env i),¬ V p) /\ ¬ V (.s i) /\ ∀ j,¬ V (.sc i j)
theorem CI.left {env : Env} {l m : List Nat} (h : CI V env (l ++ m)) : CI V env l := fun i hi => h i (by simp [hi])
theorem CI.right {env : Env} {l m : List Nat} (h : CI V env (l ++ m)) : CI V env m := fun i hi => h i (by simp [hi])
theorem jB {env : Env} {x : E} (hk : kE x = true) (h : CI V env x.slot) : Kk V (bn c env x) := by
 intro p hp;cases x with
 | t i =>
   simp only [bn] at hp;obtain ⟨h1,h2,h3⟩ := h i (by simp [E.slot]);rcases Xo hp with e | e | ⟨j,e⟩
   ·exact h1 p e
   ·subst e; exact h2
   ·subst e; exact h3 j
 | k x => simp only [bn] at hp; simp only [kE,eY] at hk; rw [hk] at hp; simp at hp
 | g i => simp [bn,aL] at hp
theorem ES {env : Env} : ∀ {xs : List E},kEs xs = true -> CI V env (lk xs) -> ∀ p ∈ cQ (di c env xs),¬ V p
 | [],_,_,p,hp => by simp [di,cQ] at hp
 | x :: r,hk,h,p,hp => by
   simp only [kEs,ab] at hk;simp only [lk] at h;simp only [di,cQ,aD] at hp;rcases hp with hp | hp
   ·exact jB hk.1 h.left p hp
   ·exact ES hk.2 h.right p hp
theorem Kk.cells {x : AV} (h : Kk V x) : ∀ d ∈ x.cells,Kk V d := by
 intro d hd p hp;by_cases ha : ∃ cs,x = .agg cs
 ·obtain ⟨cs,rfl⟩ := ha;exact h p (by simp only [aL]; exact jv.2 ⟨d,hd,hp⟩)
 ·have : x.cells = [x] := by cases x <;> first | rfl | exact absurd ⟨_,rfl⟩ ha
  rw [this] at hd;simp at hd;subst hd;exact h p hp
theorem NA {env : Env} : ∀ {ps : List (Nat × Nat × E)} {zs cs : List AV},kPs ps = true -> CI V env (oU ps) -> (∀ d ∈ zs,Kk V d) -> n8 c env zs ps = some cs -> ∀ d ∈ cs,Kk V d
 | [],zs,cs,_,_,hz,hf => by simp [n8] at hf; subst hf; exact hz
 | (o,n,x) :: r,zs,cs,hk,h,hz,hf => by
   simp only [kPs,ab] at hk;simp only [oU] at h;simp only [n8] at hf;split at hf
   case isFalse => cases hf
   refine NA hk.2 h.right (fun d hd => ?_) hf;unfold jf at hd;simp only [aD] at hd;rcases hd with (hd | hd) | hd
   ·exact hz d (cH hd)
   ·exact (jB hk.1 h.left).cells d hd
   ·exact hz d (cI hd)
theorem acP {ag : Option Nat} {cs : List AV} {v : AV} (h : ∀ d ∈ cs,Kk V d) (hv : AE ag cs = some v) : Kk V v := by
 unfold AE at hv;split at hv
 ·split at hv
  ·simp at hv; subst hv;intro p hp;simp only [aL] at hp;obtain ⟨d,hd,hp⟩ := jv.1 hp;exact h d (cH hd) p hp
  ·cases hv
 ·exact h v (List.mem_of_mem_head? hv)
theorem OU {ag : Option Nat} {cs : List AV} {v : AV} (h : ∀ d ∈ cs,Kk V d) (hv : Jp ag cs = some v) : Kk V v := by
 unfold Jp at hv;split at hv
 ·rename_i u hu;split at hv
  ·cases hv
  ·simp at hv; subst hv; exact acP h hu
 ·cases hv
theorem Kk.nil {v : AV} (h : aL v = []) : Kk V v := fun p hp => by rw [h] at hp; simp at hp
theorem YS {op : BinOp} {x y v : AV} (h : jq op x y = some v) : aL v = [] := by
 unfold jq at h;split at h
 ·split at h
  ·split at h <;> simp at h; subst h; rfl
  ·split at h <;> simp at h; subst h; rfl
  ·split at h
   ·unfold arith at h
    split at h <;> first
     | (simp at h; subst h; rfl)
     | (split at h <;> simp at h <;> (subst h; rfl))
     | cases h
   ·cases h
 ·cases h
theorem Zv {op : UnOp} {x v : AV} (h : OC op x = some v) : aL v = [] := by
 unfold OC at h;split at h <;> simp at h <;> (subst h; rfl)
theorem MB {mx : Bool} : ∀ {r : List AV} {k : IntKind} {a : Int} {v : AV},zE mx (.int k a) r = some v -> aL v = []
 | [],k,a,v,h => by simp [zE] at h; subst h; rfl
 | y :: r,k,a,v,h => by
   cases y <;> simp only [zE] at h <;> try (cases h; done)
   exact MB h
theorem MC {mx : Bool} {l : List AV} {v : AV} (h : xH mx l = some v) : aL v = [] := by
 unfold xH at h;split at h
 ·exact MB h
 ·cases h
theorem ac6 {env : Env} {kd : Kd} {v : AV} (hv : Pb c env kd = some v) (hk : wT kd = true) (h : CI V env kd.reads) : Kk V v := by
 cases kd <;> simp only [Pb] at hv <;> simp only [wT,ab] at hk <;> simp only [Kd.reads] at h
 case mv x => simp at hv; subst hv; exact jB hk h
 case pick t a b =>
  split at hv
  ·simp at hv; subst hv;split
   ·exact jB hk.2.1 h.right.left
   ·exact jB hk.2.2 h.right.right
  ·cases hv
 case build zs ps =>
  split at hv
  ·rename_i cs hf;simp at hv; subst hv
   have hz : ∀ d ∈ zs,Kk V d := fun d hd p hp => by
    have := jv.2 ⟨d,hd,hp⟩;rw [eY.1 hk.1] at this;simp at this
   intro p hp;simp only [aL] at hp;obtain ⟨d,hd,hp⟩ := jv.1 hp;exact NA hk.2 h hz hf d hd p hp
  ·cases hv
 case kP x =>
  have ho := jB (c := c) hk h;split at hv
  ·simp at hv; subst hv; exact .nil rfl
  ·simp at hv; subst hv; exact .nil rfl
  ·rename_i e;simp at hv; subst hv;rw [e] at ho; exact ho
  ·cases hv
 case bin => exact .nil (YS hv)
 case eq => split at hv <;> simp at hv; subst hv; exact .nil rfl
 case un => exact .nil (Zv hv)
 case S7 => split at hv <;> simp at hv; subst hv; exact .nil rfl
 case GC fn a b =>
  split at hv
  ·cases hv
  ·simp at hv; subst hv;intro p hp;simp only [aL,aD] at hp;rcases hp with hp | hp
   ·exact ES hk.1 h.left p hp
   ·exact ES hk.2 h.right p hp
 case Av k x lo hi =>
  have ho := jB (c := c) hk.1 h.left;split at hv
  case h_2 => cases hv
  split at hv
  case h_2 => cases hv
  split at hv
  case h_2 => cases hv
  split at hv
  ·split at hv <;> simp at hv; subst hv; exact .nil rfl
  ·split at hv <;> simp at hv; subst hv; exact .nil rfl
  ·rename_i e;rw [e] at ho;split at hv <;> simp at hv; subst hv
   intro p hp; exact ho p (by simpa [aL] using hp)
  ·split at hv <;> simp at hv; subst hv; exact .nil rfl
  ·cases hv
 case I8 n x hi =>
  cases hi with
  | some y => simp at hv
  | none =>
  (repeat' split at hv) <;> simp at hv
  obtain ⟨_,rfl⟩ := hv;exact .nil rfl
 case dt off x =>
  have ho := jB (c := c) hk h;split at hv
  ·simp at hv; subst hv; exact .nil rfl
  ·simp at hv; subst hv; exact .nil rfl
  ·rename_i e;rw [e] at ho;simp at hv; subst hv;intro p hp; exact ho p (by simpa [aL] using hp)
  ·cases hv
 case UW off ag x =>
  have ho := jB (c := c) hk h;split at hv
  ·rename_i cs e;rw [e] at ho;exact OU (fun d hd p hp => ho p (by simp only [aL]; exact jv.2 ⟨d,cI hd,hp⟩)) hv
  ·cases hv
 case gq k x i =>
  have ho := jB (c := c) hk.1 h.left;split at hv
  ·(repeat' split at hv) <;> simp at hv; subst hv; exact .nil rfl
  ·rename_i e;rw [e] at ho
   (repeat' split at hv) <;> simp at hv; subst hv
   intro p hp; exact ho p (by simpa [aL] using hp)
  ·(repeat' split at hv) <;> simp at hv; subst hv; exact .nil rfl
  ·cases hv
 case SJ n k x i =>
  have ho := jB (c := c) hk.1 h.left;split at hv
  case h_2 => cases hv
  split at hv
  ·simp at hv; subst hv; exact .nil rfl
  ·simp at hv; subst hv; exact .nil rfl
  ·rename_i e;rw [e] at ho;simp at hv; subst hv;intro p hp; exact ho p (by simpa [aL] using hp)
  ·cases hv
 case ix n k ag x i =>
  have ho := jB (c := c) hk.1 h.left;split at hv
  case h_2 => cases hv
  split at hv
  ·rename_i cs e;rw [e] at ho;exact OU (fun d hd p hp => ho p (by simp only [aL]; exact jv.2 ⟨d,cI hd,hp⟩)) hv
  ·cases hv
 case Ux tab i => (repeat' split at hv) <;> simp at hv; subst hv; exact .nil rfl
 case ext i x =>
  have ho := jB (c := c) hk h;split at hv
  ·rename_i vs e;rw [e] at ho;split at hv
   ·rename_i u hu;split at hv <;> simp at hv; subst hv
    intro p hp; exact ho p (by simp only [aL]; exact jv.2 ⟨u,bf hu,hp⟩)
   ·cases hv
  ·cases hv
 case len => split at hv <;> simp at hv; subst hv; exact .nil rfl
 case min => exact .nil (MC hv)
 case max => exact .nil (MC hv)
 all_goals (cases hv; done)
mutual
theorem IZ : ∀ x,clean x = true -> aL x = []
 | .dp _ _ _ _,h => by simp [clean] at h
 | .eK _ _ _ _,h => by simp [clean] at h
 | .agg cs,h => by simp only [clean] at h; simp only [aL]; exact xR cs h
 | .dW cs,h => by simp only [clean] at h; simp only [aL]; exact xR cs h
 | .func _ _ _,h => by simp [clean] at h
 | .any,_ => rfl | .undef,_ => rfl | .fi,_ => rfl | .eV,_ => rfl | .dc,_ => rfl
 | .int _ _,_ => rfl | .bool _,_ => rfl | .str _,_ => rfl | .list _ _,_ => rfl | .cX _,_ => rfl | .ptr _ _,_ => rfl | .sl _ _ _ _,_ => rfl | .own _ _,_ => rfl
theorem xR : ∀ xs,fj xs = true -> cQ xs = []
 | [],_ => rfl
 | x :: r,h => by simp only [fj,ab] at h; simp only [cQ,IZ x h.1,xR r h.2,List.append_nil]
end
theorem U0 {s s1 : St} {kd : Kd} {v : AV} {f : Fq} (h : c7 c call kd s = some (v,s1,f)) : aL v = [] \/ ∃ sl bs,f = .wr sl bs \/ f = .all := by
 unfold c7 at h;split at h
 ·rename_i r hi;subst h;obtain ⟨sl,bs,e⟩ := zL hi;exact .inr ⟨sl,bs,e⟩
 split at h
 ·rename_i r hi;subst h;obtain ⟨_,_,_,_,_,_,_,_,_,_,_,_,_,_,_,hr,_,_⟩ := uI hi;exact .inl (O4 _ hr.1)
 unfold fK at h;split at h
 ·rename_i r hi;subst h;exact .inr ⟨[],none,.inr (vI hi).1⟩
 rcases iJ h with h | h
 case inr => exact .inl (vB h).2
 unfold dI at h;split at h
 ·cases h
 split at h
 ·cases h
 split at h
 ·split at h
  ·cases h
  split at h
  case h_2 => cases h
  split at h
  case isFalse => cases h
  rename_i hr;simp at h;obtain ⟨rfl,_,_⟩ := h;simp only [Mm,ab] at hr;exact .inl (IZ _ hr.1)
 ·split at h
  ·cases h
  split at h
  case isFalse => cases h
  split at h
  ·split at h
   case isFalse => cases h
   split at h
   case h_2 => cases h
   split at h
   case isFalse => cases h
   rename_i hr;simp only [aj,aF] at h;simp only [ab] at hr;obtain ⟨rfl,_,_⟩ := h;exact .inl (eY.1 hr.1.1)
  ·split at h
   case isFalse => cases h
   split at h
   case h_2 => cases h
   split at h
   case isFalse => cases h
   rename_i hr;simp at h;obtain ⟨rfl,_,_⟩ := h;exact .inl (O4 _ hr)
theorem MK (f : Nat -> Rt) : ∀ (j : Nat) (cs : List AV),bw cs = false -> fh f j cs = cs
 | _,[],_ => rfl
 | j,x :: r,h => by
   cases x with
   | own k xs => simp [bw] at h
   | _ => simp only [bw] at h; simp only [fh,MK f (j + 1) r h]
theorem Xr {x v : AV} {ps : List Rt} {b j : Nat} (h : uL x v ps = .rc b j) : ∃ k o l,x = .ptr b j /\ v = .dp k (.c b j) o l := by
 unfold uL at h;split at h
 ·split at h
  ·rename_i hc;obtain ⟨rfl,rfl⟩ := hc;cases h;exact ⟨_,_,_,rfl,rfl⟩
  ·cases h
 ·cases h
theorem ac8 {s s1 : St} {kd : Kd} {v : AV} {f : Fq} (hv : fo c call s kd = some (v,s1,f)) (hf : calm f = true) (hk : wT kd = true) (h : CI V s.env kd.reads)
  (hb : ∀ ps,f = .rd ps -> ∀ b,Rt.c b 0 ∈ ps -> ∀ cs,aH s.H b = some cs -> (∀ p ∈ cQ cs,¬ V p) /\ (bw cs = true -> ∀ j,¬ V (.c b j)))
  (GF : ∀ b j,f = .rc b j -> ∀ cs c,aH s.H b = some cs -> cs[j]? = some c -> (∀ p ∈ aL c,¬ V p) /\ (∀ k xs,c = .own k xs -> ¬ V (.c b j))) : Kk V v := by
 have pure : ∀ {kd : Kd},wT kd = true -> CI V s.env kd.reads -> (match Pb c s.env kd with
   | some v => some (v,s,Fq.no)
   | none => none) = some (v,s1,f) -> Kk V v := by
  intro kd hk h h2;split at h2
  case h_2 => cases h2
  rename_i u hu;simp at h2;obtain ⟨rfl,_,_⟩ := h2;exact ac6 hu hk h
 have acy : ∀ {kd : Kd},c7 c call kd s = some (v,s1,f) -> Kk V v := by
  intro kd h2;rcases U0 h2 with e | ⟨sl,bs,e | e⟩
  ·exact .nil e
  ·subst e; simp [calm] at hf
  ·subst e; simp [calm] at hf
 cases kd
 case call => simp only [fo] at hv; exact acy hv
 case gw => simp only [fo] at hv; exact acy hv
 case new => simp only [fo] at hv; simp at hv; obtain ⟨rfl,_,_⟩ := hv; exact .nil rfl
 case box => simp only [fo] at hv; split at hv <;> simp at hv; obtain ⟨rfl,_,_⟩ := hv; exact .nil rfl
 case dh => simp only [fo] at hv; (repeat' split at hv) <;> simp at hv <;> (obtain ⟨rfl,_,_⟩ := hv; exact .nil rfl)
 case MA => simp only [fo] at hv; (repeat' split at hv) <;> simp at hv <;> (obtain ⟨rfl,_,_⟩ := hv; exact .nil rfl)
 case Td => simp only [fo] at hv; (repeat' split at hv) <;> simp at hv <;> (obtain ⟨rfl,_,_⟩ := hv; exact .nil rfl)
 case app => simp only [fo] at hv; (repeat' split at hv) <;> simp at hv <;> (obtain ⟨rfl,_,_⟩ := hv; exact .nil rfl)
 case st => simp only [fo] at hv; (repeat' split at hv) <;> simp at hv <;> (obtain ⟨rfl,_,_⟩ := hv; exact .nil rfl)
 case copy => simp only [fo] at hv; (repeat' split at hv) <;> simp at hv <;> (obtain ⟨rfl,_,_⟩ := hv; exact .nil rfl)
 case I8 n x hi =>
  simp only [fo] at hv;split at hv
  ·(repeat' split at hv) <;> simp at hv <;> (obtain ⟨rfl,_,_⟩ := hv; exact .nil rfl)
  ·exact pure hk h hv
 case ld ag x =>
  simp only [fo] at hv;split at hv
  case h_2 => cases hv
  rename_i u ps hp;split at hv
  case isFalse => cases hv
  rename_i hl;simp at hv;obtain ⟨rfl,rfl,XY⟩ := hv;by_cases hy : ∃ b off k o l,bn c s.env x = .ptr b off /\ u = .dp k (.c b off) o l
  ·obtain ⟨b,off,k,o,l,e,rfl⟩ := hy;rw [e] at hp XY;have hbc' := GF b off (by rw [<- XY]; simp [uL]);simp only [xy] at hp;split at hp
   case h_2 => cases hp
   rename_i cs dv;split at hp
   case h_2 => cases hp
   rename_i u' hu;simp at hp;obtain ⟨rfl,_⟩ := hp
   have hz : ((fh (.c b) 0 cs).drop off)[0]? = some (.dp k (.c b off) o l) := by
    unfold Jp AE at hu;cases ag with
    | some n => simp only at hu; (repeat' split at hu) <;> simp_all
    | none =>
      simp only at hu;rw [<- tW]
      (repeat' split at hu) <;> simp_all
   rw [aV,Nat.add_zero] at hz
   have hg : ∀ (cs : List AV) (j i : Nat),(fh (.c b) j cs)[i]? = some (.dp k (.c b off) o l) -> ∃ c0,cs[i]? = some c0 /\ ((∃ k xs,c0 = .own k xs) \/ c0 = .dp k (.c b off) o l) := by
    intro cs
    induction cs with
    | nil => intro j i h; simp [fh] at h
    | cons d r ih =>
      intro j i h;cases i with
      | zero =>
        refine ⟨d,rfl,?_⟩
        cases d <;> first
         | exact .inl ⟨_,_,rfl⟩
         | (simp [fh] at h; done)
         | (simp [fh] at h; right; simp [h])
      | succ i =>
        obtain ⟨c0,h1,h2⟩ := ih (j + 1) i (by cases d <;> simpa [fh] using h);exact ⟨c0,by simpa using h1,h2⟩
   obtain ⟨c0,h1,h2⟩ := hg cs 0 off hz;obtain ⟨q1,q2⟩ := hbc' cs c0 dv h1;intro p hp;simp [aL] at hp;subst hp;rcases h2 with h2 | h2
   ·obtain ⟨k0,xs0,e0⟩ := h2; exact q2 k0 xs0 e0
   ·subst h2; exact q1 _ (by simp [aL])
  have XY : f = .rd ps := by
   rw [<- XY];rcases uK (bn c s.env x) u ps with e | ⟨b,j,e⟩
   ·exact e
   ·obtain ⟨k,o,l,e1,e2⟩ := Xr e;exact absurd ⟨b,j,k,o,l,e1,e2⟩ hy
  subst XY;by_cases hx : ∃ b off,bn c s.env x = .ptr b off
  ·obtain ⟨b,off,e⟩ := hx;rw [e] at hp;simp only [xy] at hp;split at hp
   case h_2 => cases hp
   rename_i cs dv;split at hp
   case h_2 => cases hp
   rename_i u' hu;simp at hp;obtain ⟨rfl,rfl⟩ := hp;by_cases hz : aL u' = []
   ·exact .nil hz
   obtain ⟨b1,b2⟩ := hb _ rfl b (by simp [hz]) cs dv;refine OU (fun d hd p hp => ?_) hu;have := jv.2 ⟨d,cI hd,hp⟩;cases ho : bw cs with
   | false => rw [MK _ _ _ ho] at this; exact b1 p this
   | true =>
     rcases AZ this with h3 | ⟨i,h3⟩
     ·exact b1 p h3
     ·subst h3; exact b2 ho i
  ·refine .nil ?_;unfold ldOK at hl;split at hl
   ·rename_i e; exact absurd ⟨_,_,e⟩ hx
   ·exact eY.1 hl
 all_goals
  simp only [fo] at hv;exact pure hk h hv
end
end Go.Bm

/- What single operations are worth: regions that draw their order are sound. -/
namespace Go.Bm
open Go.Am
section
variable {P : Program} {c : dN} {call : Nat -> List AV -> Heap -> Option (AV × Heap)} {V : Rt -> Prop}
theorem dq.own {s t : St} (h : dq s t) (p : Rt) : aC t p = aC s p := by
 cases p with
 | s i => simp only [aC,at_,h.1 i]
 | sc i j => simp only [aC,at_,h.1 i]
 | c b j => simp only [aC,at_,h.2]
theorem Seen.of_same {s s0 t : St} {ps : List Rt} (e : dq s s0) (h : Seen ps s t) : Seen ps s0 t := fun p hp => ⟨by rw [(h p hp).1,e.own],fun b l hb => by rw [(h p hp).2 b l hb,e.2]⟩
theorem pL.of_same {s s0 t : St} {b j : Nat} (e : dq s s0) (h : pL b j s t) : pL b j s0 t := fun cs hc => h cs (by rw [e.2]; exact hc)
theorem ac9 {s s1 : St} {kd : Kd} {v : AV} {n : Nat} (h : fo c call s kd = some (v,s1,.al n)) : ∃ z,s1 = ⟨s.env,s.H ++ [z]⟩ := by
 have nc : ∀ {kd : Kd},c7 c call kd s ≠ some (v,s1,.al n) := by
  intro kd h;unfold c7 at h;split at h
  ·rename_i r hi;subst h;obtain ⟨sl,bs,e | e⟩ := zL hi <;> cases e
  split at h
  ·rename_i r hi;subst h;obtain ⟨b,e⟩ := C1 hi;cases e
  unfold fK at h;split at h
  ·rename_i r hi;subst h;obtain ⟨e,_⟩ := vI hi;cases e
  replace h := (iJ h).resolve_right fun h => by obtain ⟨e,_⟩ := vB h; cases e
  unfold dI at h
  (repeat' split at h) <;> simp [vV] at h
  all_goals (obtain ⟨_,_,h⟩ := h; revert h; split <;> simp [vV])
 have ns : ∀ {s s' : St} {k : Nat} {a v : AV} {f : Fq},Og s k a v = some (s',f) -> f ≠ .al n := by
  intro s s' k a v f h e;have := OH h;rw [e] at this;simp [calm] at this
 cases kd <;> simp only [fo] at h
 case new => simp at h; exact ⟨_,h.2.1.symm⟩
 case box => split at h <;> simp at h; exact ⟨_,h.2.1.symm⟩
 case call => exact absurd h nc
 case gw => exact absurd h nc
 case st =>
  exfalso;split at h
  ·split at h
   case h_2 => cases h
   rename_i hh;simp only [aj,aF] at h;obtain ⟨_,_,h5⟩ := h;split at h5
   ·exact ns hh h5
   ·cases h5
  ·split at h
   case h_2 => cases h
   rename_i hh;simp only [aj,aF] at h;exact ns hh h.2.2
 case ld =>
  exfalso;split at h
  case h_2 => cases h
  split at h
  case isFalse => cases h
  simp only [aj,aF] at h;obtain ⟨_,_,h5⟩ := h;rcases uK _ _ _ with e | ⟨b,j,e⟩ <;> rw [e] at h5 <;> cases h5
 case MA =>
  split at h
  case h_2 => cases h
  split at h
  case isFalse => cases h
  split at h
  ·simp at h; exact ⟨_,h.2.1.symm⟩
  ·simp at h
 case dh =>
  exfalso
  (repeat' split at h) <;> simp [vV] at h
  all_goals (obtain ⟨_,_,h⟩ := h; revert h; split <;> simp [vV])
 case copy =>
  exfalso
  (repeat' split at h) <;> simp at h
  obtain ⟨_,_,h5⟩ := h;rcases uY _ _ with e | ⟨_,_,_,_,e⟩ <;> rw [e] at h5 <;> cases h5
 all_goals
  exfalso
  (repeat' split at h) <;> simp at h
theorem Ir {i : Nat} {x : AV} {b : Bool} (h : eG i x = .bool b) : x = .bool b := by
 cases x <;> simp [eG] at h <;> simp [h]
theorem Pz {i : Nat} {x : AV} (h : eG i x = .undef) : x = .undef := by
 cases x <;> simp [eG] at h <;> rfl
theorem abj : oi c call := by
 intro s q v s1 f ⟨hk,s0,t1,e0,he,e1⟩ hc
 have op : fo c call s0 q.kd = some (v,t1,f) -> (∀ t : St,(∀ i ∈ q.reads,eG i (get t.env i) = eG i (get s.env i)) -> Cd c call t q = fo c call t q.kd) -> ∃ X,Qj c call s q v s1 f X := by
  intro h CA;obtain ⟨T,k1,k2,k3⟩ := WM h hc;have hr : ∀ i ∈ q.kd.reads,i ∈ q.reads := fun i hi => by simp [O.reads,hi]
  refine ⟨T,⟨e1.symm.trans ⟨fun i => by rw [k1]; exact (e0.1 i).symm,by rw [k1]; show s0.H ++ T = s.H ++ T; rw [e0.2]⟩,?_,fun t h1 h2 h3 => ?_,fun V h1 h2 h2c => ?_⟩⟩
  ·rcases k2 with e | ⟨z,e,e2⟩
   ·by_cases hal : ∃ n,f = .al n
    ·obtain ⟨n,rfl⟩ := hal;obtain ⟨z,hz⟩ := ac9 h;rw [k1,e] at hz;simp at hz
    ·exact .inl ⟨e,fun n hn => hal ⟨n,hn⟩⟩
   ·exact .inr ⟨z,e,by rw [e0.2]; exact e2⟩
  ·refine ⟨hk,t,_,dq.rfl',?_,dq.rfl'⟩;rw [CA t h1];exact k3 t (fun i hi => by rw [h1 i (hr i hi),e0.1]) ⟨fun ps tT => (h2.1 ps tT).of_same e0,fun b j hf => (h2.2 b j hf).of_same e0⟩ h3
  ·exact ac8 h hc hk (fun i hi => by rw [<- e0.1]; exact h1 i (hr i hi)) (fun ps tT b hp cs hb => h2 ps tT b hp cs (by rw [e0.2]; exact hb)) fun b j hf cs c0 hb Fw => h2c b j hf cs c0 (by rw [e0.2]; exact hb) Fw
 have un : f = .no -> v = .undef -> t1 = s0 -> (∀ t : St,(∀ i ∈ q.reads,eG i (get t.env i) = eG i (get s.env i)) -> Cd c call t q = some (.undef,t,.no)) -> ∃ X,Qj c call s q v s1 f X := by
  intro hf hv ht CA;subst hf hv ht;refine ⟨[],⟨e1.symm.trans ⟨fun i => (e0.1 i).symm,by show t1.H = s.H ++ []; rw [e0.2]; simp⟩,.inl ⟨rfl,fun n h => by cases h⟩,fun t h1 _ _ => ⟨hk,t,t,dq.rfl',CA t h1,⟨fun i => rfl,by simp⟩⟩,fun V _ _ _ p hp => by simp [aL] at hp⟩⟩
 unfold Cd at he;cases hg : q.guard with
 | none =>
   rw [hg] at he;exact op he fun t _ => by unfold Cd; rw [hg]
 | some gp =>
   obtain ⟨g,want⟩ := gp;rw [hg] at he;simp only at he;have GW : g ∈ q.reads := by simp [O.reads,hg]
   split at he
   ·rename_i b hb;split at he
    ·rename_i PL;refine op he fun t h1 => ?_;unfold Cd;rw [hg];have gr : get t.env g = .bool b := Ir (by rw [h1 g GW,e0.1 g,hb]; rfl);simp only [gr,PL,if_true]
    ·rename_i PL;simp only [aj,aF] at he;refine un he.2.2.symm he.1.symm he.2.1.symm fun t h1 => ?_;unfold Cd;rw [hg];have gr : get t.env g = .bool b := Ir (by rw [h1 g GW,e0.1 g,hb]; rfl);simp only [gr,PL,if_false]
   ·rename_i hb;simp only [aj,aF] at he;refine un he.2.2.symm he.1.symm he.2.1.symm fun t h1 => ?_;unfold Cd;rw [hg];have gr : get t.env g = .undef := Pz (by rw [h1 g GW,e0.1 g,hb]; rfl);simp only [gr]
   ·cases he

/-! Operations that write a few places -/
mutual
theorem zG {g : AV -> AV} : ∀ x,(∀ k p o l,p ∈ aL x -> g (.dp k p o l) = .dp k p o l /\ g (.eK k p o l) = .eK k p o l) -> b8 g x = x
 | .dp k p o l,h => by simp only [b8]; exact (h k p o l (by simp [aL])).1
 | .eK k p o l,h => by simp only [b8]; exact (h k p o l (by simp [aL])).2
 | .agg cs,h => by simp only [b8]; rw [mO cs (by simpa only [aL] using h)]
 | .dW cs,h => by simp only [b8]; rw [mO cs (by simpa only [aL] using h)]
 | .func f a b,h => by
   simp only [aL,aD] at h;simp only [b8]; rw [mO a fun k p o l hp => h k p o l (.inl hp),mO b fun k p o l hp => h k p o l (.inr hp)]
 | .any,_ => rfl | .undef,_ => rfl | .fi,_ => rfl | .eV,_ => rfl | .dc,_ => rfl
 | .int _ _,_ => rfl | .bool _,_ => rfl | .str _,_ => rfl | .list _ _,_ => rfl | .cX _,_ => rfl | .ptr _ _,_ => rfl | .sl _ _ _ _,_ => rfl | .own _ _,_ => rfl
theorem mO {g : AV -> AV} : ∀ xs,(∀ k p o l,p ∈ cQ xs -> g (.dp k p o l) = .dp k p o l /\ g (.eK k p o l) = .eK k p o l) -> cC g xs = xs
 | [],_ => rfl
 | x :: r,h => by
   simp only [cQ,aD] at h;simp only [cC]; rw [zG x fun k p o l hp => h k p o l (.inl hp),mO r fun k p o l hp => h k p o l (.inr hp)]
end
theorem AX {f : Nat -> Rt} : ∀ {cs : List AV} {j l k : Nat} {xs xs' : List AV},cs[l]? = some (.own k xs) -> xs'.length = xs.length -> fh f j (cs.set l (.own k xs')) = fh f j cs
 | [],j,l,k,xs,xs',h,_ => by simp at h
 | x :: r,j,0,k,xs,xs',h,hl => by
   simp at h;subst h;simp only [List.set_cons_zero,fh,hl]
 | x :: r,j,l + 1,k,xs,xs',h,hl => by
   have ih := AX (f := f) (j := j + 1) (by simpa using h) hl;rw [List.set_cons_succ];cases x <;> simp only [fh,ih]
theorem ON {s : St} {p : Rt} {k : Nat} {xs xs' : List AV} (h : aC s p = some (k,xs)) (hl : xs'.length = xs.length) (i : Nat) : eG i (get (setAt s p (.own k xs')).env i) = eG i (get s.env i) := by
 cases p with
 | s j =>
   simp only [setAt,br];by_cases e : i = j
   ·subst e;rw [if_pos rfl];simp only [aC,at_] at h;split at h
    ·rename_i k2 xs2 e2;simp at h;obtain ⟨rfl,rfl⟩ := h;simp at e2;rw [e2];simp only [eG,hl]
    ·cases h
   ·rw [if_neg e]
 | sc j l =>
   simp only [aC,at_] at h;simp only [setAt];split
   ·rename_i cs dv;rw [dv] at h;simp only [br];by_cases e : i = j
    ·subst e;rw [if_pos rfl,dv];simp only at h;split at h
     ·rename_i k2 xs2 e2;simp at h;obtain ⟨rfl,rfl⟩ := h;simp only [eG,AX e2 hl]
     ·cases h
    ·rw [if_neg e]
   ·rfl
 | c b j =>
   simp only [setAt];split <;> rfl
theorem vK {i : Nat} : ∀ {l : List Nat},i + km ∈ marks l ↔ i ∈ l
 | [] => by simp [marks]
 | j :: r => by simp [marks,vK (l := r)]
theorem fI {s : St} {p : Rt} {v : AV} {i : Nat} (h : i ∉ rootOf p) : get (setAt s p v).env i = get s.env i := by
 cases p with
 | s j => simp only [rootOf,cv] at h; simp only [setAt,br,if_neg h]
 | sc j l =>
   simp only [rootOf,cv] at h;simp only [setAt];split
   ·simp only [br,if_neg h]
   ·rfl
 | c b j => simp only [setAt]; split <;> rfl
theorem qN {s : St} {p : Rt} {v : AV} {b : Nat} (h : b ∉ nA p) : aH (setAt s p v).H b = aH s.H b := by
 cases p with
 | s j => rfl
 | sc j l => simp only [setAt]; split <;> rfl
 | c d j =>
   simp only [nA,cv] at h;simp only [setAt];split
   ·rw [dF,if_neg (fun e => h e.1)]
   ·rfl
theorem Dv {s t : St} (h : dq s t) (p : Rt) (v : AV) : dq (setAt s p v) (setAt t p v) := by
 cases p with
 | s j => exact ⟨fun i => by simp only [setAt,br,h.1 i],h.2⟩
 | sc j l =>
   simp only [setAt];rw [h.1 j];split
   ·exact ⟨fun i => by simp only [br,h.1 i],h.2⟩
   ·exact h
 | c b j =>
   simp only [setAt];rw [h.2];split
   ·exact ⟨h.1,rfl⟩
   ·exact h
theorem qM {s : St} {p : Rt} {v u : AV} {d : Nat} (h : d ∉ rootOf p) : dq (setAt ⟨put s.env d u,s.H⟩ p v) ⟨put (setAt s p v).env d u,(setAt s p v).H⟩ := by
 cases p with
 | s j =>
   simp only [rootOf,cv] at h;refine ⟨fun i => ?_,rfl⟩;simp only [setAt,br];by_cases e : i = j
   ·subst e;have : i ≠ d := fun e => h e.symm;simp [this]
   ·simp [e]
 | sc j l =>
   simp only [rootOf,cv] at h;have hj : j ≠ d := fun e => h e.symm;simp only [setAt,br,if_neg hj];split
   ·refine ⟨fun i => ?_,rfl⟩;simp only [br];by_cases e : i = j
    ·subst e; simp [hj]
    ·simp [e]
   ·exact dq.rfl'
 | c b j =>
   simp only [setAt];split
   ·exact dq.rfl'
   ·exact dq.rfl'
theorem uy {s : St} {p : Rt} {y : Nat × List AV} (h : aC s p = some y) : ∀ i ∈ rootOf p,bI (get s.env i) = true := by
 intro i hi;obtain ⟨k,xs⟩ := y;have h := bY.1 h;cases p with
 | s j =>
   simp only [rootOf,cv] at hi; subst hi;simp only [at_,aj] at h;rw [h]; rfl
 | sc j l =>
   simp only [rootOf,cv] at hi; subst hi;simp only [at_] at h;split at h
   ·rename_i cs hc;rw [hc];simp only [bI]
    have : ∀ {cs : List AV} {l : Nat},cs[l]? = some (.own k xs) -> bw cs = true := by
     intro cs
     induction cs with
     | nil => intro l h; simp at h
     | cons x r ih =>
       intro l h;cases l with
       | zero => simp at h; subst h; rfl
       | succ l => simp at h; cases x <;> simp only [bw] <;> exact ih h
    exact this h
   ·cases h
 | c b j => simp [rootOf] at hi
theorem mL {s : St} {p : Rt} {d : Nat} {u : AV} (h : d ∉ rootOf p) : aC ⟨put s.env d u,s.H⟩ p = aC s p := by
 cases p with
 | s j =>
   simp only [rootOf,cv] at h;have hj : j ≠ d := fun e => h e.symm;simp only [aC,at_,br,if_neg hj]
 | sc j l =>
   simp only [rootOf,cv] at h;have hj : j ≠ d := fun e => h e.symm;simp only [aC,at_,br,if_neg hj]
 | c b j => rfl
structure tO (c : dN) (call : Nat -> List AV -> Heap -> Option (AV × Heap)) (s : St) (kd : Kd) (v : AV) (s1 : St) (sl : List Nat) (bs : Option (List Nat)) (V : Rt -> Prop) : Prop where
 env : ∀ i,i ∉ sl -> i + km ∉ sl -> get s1.env i = get s.env i
 hd : ∀ i,i ∉ sl -> eG i (get s1.env i) = eG i (get s.env i)
 keep : ∀ i,bI (get s.env i) = false -> aL (get s.env i) = [] -> get s1.env i = get s.env i
 heap : ∀ l,bs = some l -> ∀ b,b ∉ l -> aH s1.H b = aH s.H b
 v1 : ∀ i,i ∉ sl -> (∀ p ∈ aL (get s.env i),¬ V p) /\ ¬ V (.s i) /\ ∀ j,¬ V (.sc i j)
 v2 : ∀ l,bs = some l -> ∀ b,b ∉ l -> b + km ∉ l -> ∀ cs,aH s.H b = some cs -> (∀ p ∈ cQ cs,¬ V p) /\ (bw cs = true -> ∀ j,¬ V (.c b j))
 go : ∀ d u,d ∉ kd.reads -> d ∉ sl -> d + km ∉ sl -> Kk V u -> ∃ t0 t1 sl',dq t0 ⟨put s.env d u,s.H⟩ /\ fo c call t0 kd = some (v,t1,.wr sl' bs) /\ (∀ i ∈ sl',i ∈ sl) /\ dq t1 ⟨put s1.env d u,s1.H⟩
structure Qe (c : dN) (call : Nat -> List AV -> Heap -> Option (AV × Heap)) (s : St) (kd : Kd) (v : AV) (s1 : St) (sl : List Nat) (bs : Option (List Nat)) (V : Rt -> Prop) : Prop where
 env : ∀ i,i ∉ sl -> i + km ∉ sl -> get s1.env i = get s.env i
 hd : ∀ i,i ∉ sl -> eG i (get s1.env i) = eG i (get s.env i)
 keep : ∀ i,bI (get s.env i) = false -> aL (get s.env i) = [] -> get s1.env i = get s.env i
 heap : ∀ l,bs = some l -> ∀ b,lv b l = false -> aH s1.H b = aH s.H b
 cell : ∀ l,bs = some l -> ∀ b j,b ∉ l -> tM b j ∉ l -> pL b j s s1 /\ pL b j s1 s
 v1 : ∀ i,i ∉ sl -> (∀ p ∈ aL (get s.env i),¬ V p) /\ ¬ V (.s i) /\ ∀ j,¬ V (.sc i j)
 v2 : ∀ l,bs = some l -> ∀ b,lv b l = false -> b + km ∉ l -> ∀ cs,aH s.H b = some cs -> (∀ p ∈ cQ cs,¬ V p) /\ (bw cs = true -> ∀ j,¬ V (.c b j))
 v3 : ∀ l,bs = some l -> ∀ b j,b ∉ l -> b + km ∉ l -> tM b j ∉ l -> ∀ cs c,aH s.H b = some cs -> cs[j]? = some c -> (∀ p ∈ aL c,¬ V p) /\ (∀ k xs,c = .own k xs -> ¬ V (.c b j))
 go : ∀ d u,d ∉ kd.reads -> d ∉ sl -> d + km ∉ sl -> Kk V u -> ∃ t0 t1 sl',dq t0 ⟨put s.env d u,s.H⟩ /\ fo c call t0 kd = some (v,t1,.wr sl' bs) /\ (∀ i ∈ sl',i ∈ sl) /\ dq t1 ⟨put s1.env d u,s1.H⟩
theorem Fx : ∀ {cs : List AV} {j k : Nat} {xs : List AV},cs[j]? = some (.own k xs) -> bw cs = true
 | [],j,k,xs,h => by simp at h
 | c :: r,0,k,xs,h => by simp at h; subst h; rfl
 | c :: r,j + 1,k,xs,h => by
   have := Fx (cs := r) (j := j) (by simpa using h);cases c <;> simp [bw,this]
theorem tO.up {s s1 : St} {kd : Kd} {v : AV} {sl : List Nat} {bs : Option (List Nat)} : (∃ V,tO c call s kd v s1 sl bs V) -> ∃ V,Qe c call s kd v s1 sl bs V := by
 rintro ⟨V,h⟩;refine ⟨V,⟨h.env,h.hd,h.keep,fun l hl b hb => h.heap l hl b (mW hb).1,fun l hl b j hb _ => ⟨.of_eq (h.heap l hl b hb),.of_eq (h.heap l hl b hb).symm⟩,h.v1,fun l hl b hb => h.v2 l hl b (mW hb).1,fun l hl b j h1 h2 _ cs c0 hb hc => ?_,h.go⟩⟩;obtain ⟨a1,a2⟩ := h.v2 l hl b h1 h2 cs hb;exact ⟨fun p hp => a1 p (jv.2 ⟨c0,bf hc,hp⟩),fun k xs e => a2 (Fx (e ▸ hc)) j⟩
theorem sj {f : Rt -> Bool} : ∀ {l : List Rt},vf f l = true ↔ ∃ p ∈ l,f p = true
 | [] => by simp [vf]
 | p :: r => by simp [vf,sj (l := r)]
theorem Gn {f : Rt -> Bool} : ∀ {H : Heap} {b : Nat} {cs : List AV},Gp f H = false -> aH H b = some cs -> ∀ p ∈ cQ cs,f p = false
 | [],b,cs,_,h => by simp [aH] at h
 | none :: r,b,cs,ha,h => by
   cases b with
   | zero => simp [aH] at h
   | succ b => exact Gn (H := r) (b := b) (by simpa [Gp] using ha) (by simpa [aH] using h)
 | some ds :: r,b,cs,ha,h => by
   simp only [Gp,fg] at ha;cases b with
   | zero =>
     simp [aH] at h;subst h;intro p hp;cases hf : f p with
     | false => rfl
     | true => rw [sj.2 ⟨p,hp,hf⟩] at ha; simp at ha
   | succ b => exact Gn (H := r) (b := b) ha.2 (by simpa [aH] using h)
theorem rQ {p : Rt} : ∀ {l : List Rt},zM p l = true ↔ p ∈ l
 | [] => by simp [zM]
 | q :: r => by rw [zM,er,decide_eq_true_eq,rQ (l := r),aJ]; exact ⟨fun h => h.imp Eq.symm id,fun h => h.imp Eq.symm id⟩
theorem lJ {p : Rt} : ∀ {e : Env} {i : Nat},zM p (aL (Am.get e i)) = true \/ (isRoot p i = true /\ Am.get e i ≠ .any) -> i ∈ jU p e
 | [],i,h => by simp [Am.get,aL,zM] at h
 | (j,v) :: r,i,h => by
   simp only [Am.get] at h;simp only [jU];by_cases e : i = j
   ·subst e;simp only [if_true] at h
    have : (zM p (aL v) || isRoot p i) = true := by
     rcases h with h | h
     ·simp [h]
     ·simp [h.1]
    rw [if_pos this]; simp
   ·rw [if_neg e] at h;have := lJ h;split
    ·simp [this]
    ·exact this
theorem Ax {p : Rt} : ∀ {sn : List Nat} {e : Env} {i : Nat},i ∈ jU p (JI sn e) -> mem i sn = false /\ (zM p (aL (Am.get e i)) = true \/ isRoot p i = true)
 | sn,[],i,h => by simp [JI,jU] at h
 | sn,(j,v) :: r,i,h => by
   have Wd : ∀ {ZB : List Nat},i ∈ jU p (JI ZB r) -> mem j ZB = true -> mem i ZB = false /\ (zM p (aL (Am.get ((j,v) :: r) i)) = true \/ isRoot p i = true) := by
    intro ZB h hj;obtain ⟨h1,h2⟩ := Ax h;have sZ : i ≠ j := fun e => by rw [e,hj] at h1; cases h1
    exact ⟨h1,by simp only [Am.get]; rw [if_neg sZ]; exact h2⟩
   unfold JI at h;by_cases hj : mem j sn = true
   ·rw [if_pos hj] at h;exact Wd h hj
   ·rw [if_neg hj] at h;simp only [jU] at h
    have tail : i ∈ jU p (JI (j :: sn) r) -> mem i sn = false /\ (zM p (aL (Am.get ((j,v) :: r) i)) = true \/ isRoot p i = true) := fun h => by
     obtain ⟨h1,h2⟩ := Wd h (by simp [mem]);unfold mem at h1;split at h1
     ·cases h1
     ·exact ⟨h1,h2⟩
    split at h
    ·rename_i hc;rcases aJ.1 h with e | h
     ·subst e;refine ⟨by simpa using hj,?_⟩;simp only [Am.get,if_true];simpa using hc
     ·exact tail h
    ·exact tail h
theorem ks {p : Rt} : ∀ {H : Heap} {k b : Nat} {cs : List AV},aH H b = some cs -> p ∈ cQ cs -> k + b ∈ oV p k H
 | [],k,b,cs,h,_ => by simp [aH] at h
 | none :: r,k,b,cs,h,hp => by
   cases b with
   | zero => simp [aH] at h
   | succ b =>
     have := ks (H := r) (k := k + 1) (b := b) (by simpa [aH] using h) hp;simp only [oV]; rwa [show k + (b + 1) = k + 1 + b by omega]
 | some ds :: r,k,b,cs,h,hp => by
   cases b with
   | zero =>
     simp [aH] at h;subst h;simp [oV,rQ.2 hp]
   | succ b =>
     have := ks (H := r) (k := k + 1) (b := b) (by simpa [aH] using h) hp;simp only [oV];rw [show k + (b + 1) = k + 1 + b by omega];split
     ·simp [this]
     ·exact this
theorem qP : ∀ {e : Env} {i : Nat},dT (aL (Am.get e i)) = true -> i ∈ eC e
 | [],i,h => by simp [Am.get,aL,dT] at h
 | (j,v) :: r,i,h => by
   simp only [Am.get] at h;simp only [eC];by_cases e : i = j
   ·subst e;simp only [if_true] at h;rw [if_pos h]; simp
   ·rw [if_neg e] at h;have := qP h;split
    ·simp [this]
    ·exact this
theorem Hg : ∀ {sn : List Nat} {e : Env} {i : Nat},i ∈ eC (JI sn e) -> mem i sn = false /\ dT (aL (Am.get e i)) = true
 | sn,[],i,h => by simp [JI,eC] at h
 | sn,(j,v) :: r,i,h => by
   have Wd : ∀ {ZB : List Nat},i ∈ eC (JI ZB r) -> mem j ZB = true -> mem i ZB = false /\ dT (aL (Am.get ((j,v) :: r) i)) = true := by
    intro ZB h hj;obtain ⟨h1,h2⟩ := Hg h;have sZ : i ≠ j := fun e => by rw [e,hj] at h1; cases h1
    exact ⟨h1,by simp only [Am.get]; rw [if_neg sZ]; exact h2⟩
   unfold JI at h;by_cases hj : mem j sn = true
   ·rw [if_pos hj] at h;exact Wd h hj
   ·rw [if_neg hj] at h;simp only [eC] at h
    have tail : i ∈ eC (JI (j :: sn) r) -> mem i sn = false /\ dT (aL (Am.get ((j,v) :: r) i)) = true := fun h => by
     obtain ⟨h1,h2⟩ := Wd h (by simp [mem]);unfold mem at h1;split at h1
     ·cases h1
     ·exact ⟨h1,h2⟩
    split at h
    ·rename_i hc;rcases aJ.1 h with e | h
     ·subst e;refine ⟨by simpa using hj,?_⟩;simp only [Am.get,if_true];exact hc
     ·exact tail h
    ·exact tail h
theorem A9 : ∀ {l : List Rt},dT l = true ↔ ∃ p ∈ l,cz p = false
 | [] => by simp [dT]
 | p :: r => by cases p <;> simp [dT,cz,A9 (l := r)]
theorem A8 {l : List Rt} (h : dT l = false) : ∀ p ∈ l,cz p = true := by
 intro p hp;cases hn : cz p with
 | true => rfl
 | false => rw [A9.2 ⟨p,hp,hn⟩] at h; cases h
theorem nt (s : St) (i : Nat) : get (Pk s).env i = get s.env i := ((oM s).1 i).symm
end
end Go.Bm

/- Every operation that writes a few places; regions that draw their order are sound. -/
namespace Go.Bm
open Go.Am
section
variable {P : Program} {c : dN} {call : Nat -> List AV -> Heap -> Option (AV × Heap)} {V : Rt -> Prop}
theorem eF {i : Nat} {l m : List Nat} (h : i ∉ l ++ m) : i ∉ l /\ i ∉ m := by simpa using h
theorem qd {p : Rt} {i : Nat} : isRoot p i = true ↔ i ∈ rootOf p := by
 cases p <;> simp [isRoot,rootOf,eq_comm]
theorem CN {x : AV} (h : ∀ p ∈ aL x,cz p = true) : b8 jP x = x := zG x fun k p o l hp => by
 have := h p hp;cases p <;> simp [cz] at this <;> simp [jP]
theorem zz {l : List Nat} : ∀ {H H' : Heap} {k : Nat} {r : List Nat},kO l k H H' = some r -> ∀ b,k + b ∉ l -> aH H' b = aH H b /\ ((k + b) + km ∉ r -> ∀ cs,aH H b = some cs -> bw cs = false /\ cQ cs = [])
 | [],[],k,r,_,b,_ => ⟨rfl,fun _ cs h => by simp [aH] at h⟩
 | [],_ :: _,k,r,h,b,_ => by simp [kO] at h
 | _ :: _,[],k,r,h,b,_ => by simp [kO] at h
 | x :: H,y :: H',k,r,h,b,hb => by
   unfold kO at h;split at h
   case h_2 => cases h
   rename_i r0 h0;cases b with
   | zero =>
     have hm : mem k l = false := by
      cases hh : mem k l with
      | false => rfl
      | true => exact absurd (mem_iff.1 hh) (by simpa using hb)
     rw [hm] at h;simp only [aX,if_false] at h;split at h
     case isFalse => cases h
     rename_i he;have e := abq he;subst e;refine ⟨rfl,fun hr cs dv => ?_⟩
     have hx : x = some cs := by
      unfold aH at dv;simp only [List.getElem?_cons_zero] at dv;cases x with
      | none => simp at dv
      | some d => simp at dv; rw [dv]
     subst hx;cases hc : Ti (some cs) with
     | false =>
       rw [hc] at h;simp at h;subst h;exact absurd (by simp) hr
     | true =>
       simp only [Ti,ab,bt] at hc;exact ⟨hc.1,eY.1 hc.2⟩
   | succ b =>
     have ih := zz h0 b (by rw [show k + 1 + b = k + (b + 1) by omega]; exact hb);have e : ∀ z (G : Heap),aH (z :: G) (b + 1) = aH G b := fun z G => by simp [aH]
     rw [e,e];refine ⟨ih.1,fun hr => ih.2 fun hm => hr ?_⟩;rw [show k + 1 + b = k + (b + 1) by omega] at hm;split at h
     ·cases h; exact hm
     ·split at h
      ·simp at h;subst h;split
       ·exact hm
       ·exact List.mem_cons_of_mem _ hm
      ·cases h
theorem Yj {p : Rt} {k : Nat} {xs : List AV} {x : AV} (h : p ∉ aL x) : b8 (fb p k xs) x = x := zG x fun k' q o l hq => by
 have : q ≠ p := fun e => h (e ▸ hq);constructor <;> simp [fb,this]
theorem aaM {p : Rt} {k : Nat} {xs : List AV} {x : List AV} (h : p ∉ cQ x) : cC (fb p k xs) x = x := mO x fun k' q o l hq => by
 have : q ≠ p := fun e => h (e ▸ hq);constructor <;> simp [fb,this]
theorem VA {s : St} {p : Rt} {k : Nat} {xs : List AV} {kd : Kd} {v : AV} (UQ : cz p = true) (hp : aC s p = some (k,xs))
  (CA : ∀ t : St,(∀ i ∈ kd.reads,get t.env i = get s.env i) -> aC t p = some (k,xs) -> fo c call t kd = some (v,setAt (bW (fb p k xs) t) p (.list k xs),.wr (jU p t.env) (some (oV p 0 t.H)))) :
  ∃ V,tO c call s kd v (setAt (bW (fb p k xs) s) p (.list k xs)) (jU p s.env) (some (oV p 0 s.H)) V := by
 have uR := uy hp;have yt : ∀ i ∈ rootOf p,i ∈ jU p s.env := fun i hi => lJ (.inr ⟨qd.2 hi,fun e => by have := uR i hi; rw [e] at this; cases this⟩);have mN : ∀ {i : Nat},i ∉ jU p s.env -> p ∉ aL (get s.env i) /\ i ∉ rootOf p := fun {i} hi => ⟨fun e => hi (lJ (.inl (rQ.2 e))),fun e => hi (yt i e)⟩
 have FI : ∀ i,p ∉ aL (get s.env i) -> i ∉ rootOf p -> get (setAt (bW (fb p k xs) s) p (.list k xs)).env i = get s.env i := fun i h1 h2 => by
  rw [fI h2];show get (jC (fb p k xs) s.env) i = _;rw [cW,Yj h1]
 have adR : ∀ b,b ∉ oV p 0 s.H -> aH (setAt (bW (fb p k xs) s) p (.list k xs)).H b = aH s.H b := fun b hb => by
  rw [qN (by cases p <;> simp [nA,cz] at UQ ⊢)];show aH (ft (fb p k xs) s.H) b = _;rw [fv];cases dv : aH s.H b with
  | none => rfl
  | some cs =>
    simp only [cJ,aj];refine aaM fun hm => hb ?_;have := ks (k := 0) dv hm;simpa using this
 refine ⟨fun q => q = p,⟨fun i hi _ => ?_,fun i hi => ?_,fun i h1 h2 => ?_,fun l hl b hb => ?_,fun i hi => ⟨fun q hq e => ?_,fun e => ?_,fun j e => ?_⟩,fun l hl b hb s4 cs dv => ⟨fun q hq e => ?_,fun _ j e => ?_⟩,fun d u hd mY _ hu => ?_⟩⟩
 ·obtain ⟨h1,h2⟩ := mN hi;exact FI i h1 h2
 ·obtain ⟨h1,h2⟩ := mN hi;rw [FI i h1 h2]
 ·exact FI i (by rw [h2]; simp) fun hi => by rw [uR i hi] at h1; cases h1
 ·cases hl;exact adR b hb
 ·subst e;exact (mN hi).1 hq
 ·subst e;exact (mN hi).2 (by simp [rootOf])
 ·subst e;exact (mN hi).2 (by simp [rootOf])
 ·subst e;cases hl;have := ks (k := 0) dv hq;exact hb (by simpa using this)
 ·subst e; simp [cz] at UQ
 ·obtain ⟨hd3,hd4⟩ := mN mY
  let t0 : St := Pk ⟨put s.env d u,s.H⟩
  have Nd : dq t0 ⟨put s.env d u,s.H⟩ := (oM _).symm;have hg : ∀ i,get t0.env i = if i = d then u else get s.env i := fun i => by rw [nt,br]
  have own : aC t0 p = aC s p := by rw [<- Nd.own p]; exact mL hd4
  have Ft : p ∉ aL u := fun hm => hu p hm rfl;refine ⟨t0,setAt (bW (fb p k xs) t0) p (.list k xs),jU p t0.env,Nd,CA t0 (fun i hi => by rw [hg,if_neg]; intro e; subst e; exact hd hi) (own.trans hp),fun i hi => ?_,?_⟩
  ·obtain ⟨_,h2⟩ := Ax hi;have : get (put s.env d u) i = get t0.env i := (nt ⟨put s.env d u,s.H⟩ i).symm;simp only [this,hg] at h2;rcases h2 with h2 | h2
   ·split at h2
    ·exact absurd (rQ.1 h2) Ft
    ·exact lJ (.inl h2)
   ·exact yt i (qd.1 h2)
  ·have h5 : dq (bW (fb p k xs) t0) ⟨put (bW (fb p k xs) s).env d u,(bW (fb p k xs) s).H⟩ := ⟨fun i => by
    show get (jC (fb p k xs) t0.env) i = get (put (jC (fb p k xs) s.env) d u) i;rw [cW,hg,br,cW];split
    ·exact Yj Ft
    ·rfl,rfl⟩
   exact (Dv h5 p (.list k xs)).trans (qM hd4)
theorem Zt {s s1 : St} {kd : Kd} {v : AV} {sl : List Nat} {bs : Option (List Nat)} (gr : ∀ t,fo c call t kd = c7 c call kd t) (hi : nQ c s kd = none) (hl : lj c call s kd = none) (hmv : qz c call s kd = none) (h : dI c call kd s = some (v,s1,.wr sl bs)) : ∃ V,tO c call s kd v s1 sl bs V := by
 unfold dI at h;split at h
 ·cases h
 rename_i f args ha;split at h
 ·cases h
 rename_i md q hf;split at h
 ·rename_i hm;split at h
  ·cases h
  split at h
  case h_2 => cases h
  split at h
  case isFalse => cases h
  simp only [aj,aF] at h;obtain ⟨_,_,h⟩ := h;split at h <;> cases h
 rename_i hm;split at h
 ·cases h
 rename_i f1 nC Ns;split at h
 case isFalse => cases h
 rename_i X5;split at h
 ·rename_i jo;split at h
  case isFalse => cases h
  rename_i hp;split at h
  case h_2 => cases h
  rename_i r H' hc;split at h
  case isFalse => cases h
  rename_i hr;simp only [aj,aF] at h;obtain ⟨rfl,rfl,h⟩ := h
  have he : cQ args = [] := by
   cases hb : cQ args with
   | nil => rfl
   | cons x y => simp [hb] at h
  rw [he] at h Ns hp hc;simp only [dB] at Ns hp hc;simp at h;obtain ⟨rfl,rfl⟩ := h
  have off : ∀ l,Pg (tK nC) (kO (tK nC) 0 s.H H') = some l -> ∀ b,b ∉ l -> aH H' b = aH s.H b /\ (b + km ∉ l -> ∀ cs,aH s.H b = some cs -> bw cs = false /\ cQ cs = []) := by
   intro l hl b hb;cases ho : kO (tK nC) 0 s.H H' with
   | none => rw [ho] at hl; cases hl
   | some r =>
     rw [ho] at hl;have hl : some (tK nC ++ r) = some l := hl;cases hl;have s4 := eF hb;have := zz ho b (by simpa using s4.1);refine ⟨this.1,fun h2 => this.2 ?_⟩;have := (eF h2).2;simpa using this
  refine ⟨fun p => cz p = false,⟨fun i hi _ => ?_,fun i hi => ?_,fun i h1 h2 => ?_,fun l hl b hb => ?_,fun i hi => ⟨fun p hp => ?_,by simp [cz],fun j => by simp [cz]⟩,fun l hl b hb s4 cs dv => ?_,fun d u hd mY _ hu => ?_⟩⟩
  ·simp only [he,dB,cW];refine CN (A8 ?_);cases hh : dT (aL (get s.env i)) with
   | false => rfl
   | true => exact absurd (qP hh) hi
  ·simp only [he,dB,cW];rw [CN (A8 ?_)];cases hh : dT (aL (get s.env i)) with
   | false => rfl
   | true => exact absurd (qP hh) hi
  ·simp only [he,dB,cW];exact CN fun p hp => by rw [h2] at hp; simp at hp
  ·exact (off l hl b hb).1
  ·have : dT (aL (get s.env i)) = false := by
    cases hh : dT (aL (get s.env i)) with
    | false => rfl
    | true => exact absurd (qP hh) hi
   rw [A8 this p hp]; simp
  ·obtain ⟨o1,o2⟩ := (off l hl b hb).2 s4 cs dv;exact ⟨fun p hp => (by rw [o2] at hp; cases hp),fun ho => (by rw [o1] at ho; cases ho)⟩
  ·let t0 : St := Pk ⟨put s.env d u,s.H⟩
   have hg : ∀ i,get t0.env i = if i = d then u else get s.env i := fun i => by rw [nt,br]
   have hH : t0.H = s.H := rfl
   have hrd : ∀ i ∈ kd.reads,get t0.env i = get s.env i := fun i hi => by
    rw [hg,if_neg]; intro e; subst e; exact hd hi
   refine ⟨t0,⟨jC jP t0.env,H'⟩,eC t0.env,(oM _).symm,?_,fun i hi => ?_,?_,rfl⟩
   ·rw [gr];unfold c7;rw [vQ hi,AW hl];simp only [fK,AP hmv];apply py;unfold dI;rw [gV (e1 := t0.env) (e2 := s.env) fun i hi => by rw [hrd i hi],ha];simp only [hf,hm,he,dB,aX,if_false];rw [gV (e1 := t0.env) (e2 := s.env) fun i hi => by rw [hrd i hi],Ns];simp only [X5,if_true,jo,hH,hp,hc,hr];simp
    first
     | done
     | rfl
     | (congr 1)
   ·obtain ⟨_,h2⟩ := Hg hi;have : get (put s.env d u) i = get t0.env i := (nt ⟨put s.env d u,s.H⟩ i).symm;simp only [this,hg] at h2;split at h2
    ·rename_i e;subst e;obtain ⟨p,hp,hn⟩ := A9.1 h2;exact absurd hn (hu p hp)
    ·exact qP h2
   ·intro i;simp only [he,dB,cW,hg,br];split
    ·refine CN fun p hp => ?_;have := hu p hp;simpa using this
    ·rfl
 ·rename_i jo;split at h
  case isFalse => cases h
  rename_i PF;split at h
  case h_2 => cases h
  rename_i r H' hc;split at h
  case isFalse => cases h
  rename_i pR;simp only [aj,aF] at h;obtain ⟨rfl,rfl,h⟩ := h;split at h
  ·cases h
  unfold kh at h;split at h
  case h_2 => cases h
  rename_i p Zm;split at h
  case isFalse => cases h
  rename_i UJ;split at h
  case h_2 => cases h
  rename_i y hp;obtain ⟨k,xs⟩ := y;simp only [Fq.wr.injEq] at h;obtain ⟨rfl,rfl⟩ := h
  have CB : ∀ t : St,aC t p = some (k,xs) -> dB (cQ args) t = setAt (bW (fb p k xs) t) p (.list k xs) := fun t ht => by
   rw [Zm];simp only [dB,FB,ht]
  rw [CB s hp];refine VA UJ hp fun t ht hpt => ?_;rw [gr];unfold c7;rw [vQ hi,AW hl];simp only [fK,AP hmv];apply py;unfold dI;rw [gV (e1 := t.env) (e2 := s.env) fun i hi => by rw [ht i hi],ha];simp only [hf,hm,aX,if_false];rw [CB t hpt];rw [CB s hp] at Ns
  have hk : getArgs c (setAt (bW (fb p k xs) t) p (.list k xs)).env kd = some (f1,nC) := by
   rw [<- Ns];refine gV fun i hi => ?_
   have e0 : get (bW (fb p k xs) t).env i = get (bW (fb p k xs) s).env i := by
    show get (jC (fb p k xs) t.env) i = get (jC (fb p k xs) s.env) i;rw [cW,cW,ht i hi]
   have e1 : get (setAt (bW (fb p k xs) t) p (.list k xs)).env i = get (setAt (bW (fb p k xs) s) p (.list k xs)).env i := by
    by_cases hr : i ∈ rootOf p
    ·cases p with
     | s i0 =>
       simp [rootOf] at hr; subst hr;simp only [setAt];rw [br,br,if_pos rfl,if_pos rfl]
     | sc i0 j =>
       simp [rootOf] at hr; subst hr;simp only [setAt,e0];split
       ·rw [br,br,if_pos rfl,if_pos rfl]
       ·exact e0
     | c b j => simp [rootOf] at hr
    ·rw [fI hr,fI hr]; exact e0
   rw [e1]
  rw [hk];simp only [X5,if_true,jo,aX,if_false,PF,hc,pR];simp [Zm,kh,hpt,UJ]
theorem TH {s s1 : St} {k n : Nat} {zs : List AV} {ps : List (Nat × Nat × E)} {v : AV} {sl : List Nat} {bs : Option (List Nat)} (h : fo c call s (.dh k n zs ps) = some (v,s1,.wr sl bs)) : ∃ V,tO c call s (.dh k n zs ps) v s1 sl bs V := by
 simp only [fo] at h;split at h
 case h_2 => cases h
 rename_i cs hc;split at h
 case isFalse => cases h
 rename_i hz;simp only [aj,aF] at h;obtain ⟨rfl,rfl,h⟩ := h;split at h
 ·cases h
 unfold kh at h;split at h
 case h_2 => cases h
 rename_i p Zm;split at h
 case isFalse => cases h
 rename_i UJ;split at h
 case h_2 => cases h
 rename_i y hp;obtain ⟨k',xs⟩ := y;simp only [Fq.wr.injEq] at h;obtain ⟨rfl,rfl⟩ := h
 have CB : ∀ t : St,aC t p = some (k',xs) -> dB (gg c s.env ps) t = setAt (bW (fb p k' xs) t) p (.list k' xs) := fun t ht => by
  rw [Zm];simp only [dB,FB,ht]
 rw [CB s hp] at hc ⊢;refine VA UJ hp fun t ht hpt => ?_;have hpb : gg c t.env ps = gg c s.env ps := ph fun i hi => by rw [ht i hi]
 have hk : n8 c (setAt (bW (fb p k' xs) t) p (.list k' xs)).env (rep zs n) ps = some cs := by
  rw [<- hc];refine qi fun i hi => ?_
  have e0 : get (bW (fb p k' xs) t).env i = get (bW (fb p k' xs) s).env i := by
   show get (jC (fb p k' xs) t.env) i = get (jC (fb p k' xs) s.env) i;rw [cW,cW,ht i hi]
  have e1 : get (setAt (bW (fb p k' xs) t) p (.list k' xs)).env i = get (setAt (bW (fb p k' xs) s) p (.list k' xs)).env i := by
   by_cases hr : i ∈ rootOf p
   ·cases p with
    | s i0 =>
      simp [rootOf] at hr; subst hr;simp only [setAt];rw [br,br,if_pos rfl,if_pos rfl]
    | sc i0 j =>
      simp [rootOf] at hr; subst hr;simp only [setAt,e0];split
      ·rw [br,br,if_pos rfl,if_pos rfl]
      ·exact e0
    | c b j => simp [rootOf] at hr
   ·rw [fI hr,fI hr]; exact e0
  rw [e1]
 simp only [fo,hpb,CB t hpt,hk,hz,if_true];simp [Zm,kh,hpt,UJ]
theorem xK {b off k : Nat} : ∀ {s : St} {v : AV},Gs (cE b off k) s v = false -> (∀ i,∀ p ∈ aL (get s.env i),cE b off k p = false) /\ (∀ d cs,aH s.H d = some cs -> ∀ p ∈ cQ cs,cE b off k p = false) /\ ∀ p ∈ aL v,cE b off k p = false := by
 intro s v h;simp only [Gs,fg] at h;obtain ⟨h1,h2,h3⟩ := h;refine ⟨fun i p hp => ?_,fun d cs hb => Gn h3 hb,fun p hp => ?_⟩
 ·cases hh : cE b off k p with
  | false => rfl
  | true => rw [N6 (i := i) (sj.2 ⟨p,hp,hh⟩)] at h2; cases h2
 ·cases hh : cE b off k p with
  | false => rfl
  | true => rw [sj.2 ⟨p,hp,hh⟩] at h1; cases h1
theorem aaF {p : Rt} {b : Nat} (h : lv b (SU p) = false) : b ∉ nA p := by
 cases p with
 | s i => simp [nA]
 | sc i j => simp [nA]
 | c d j =>
   have := (mW h).2 99999;simp only [SU,nA,cv] at this ⊢;intro e;subst e;exact this rfl
theorem pL.Sf {b j : Nat} {s t : St} (h : ∀ cs,aH s.H b = some cs -> ∃ ds,aH t.H b = some ds /\ ds[j]? = cs[j]?) : pL b j s t := fun cs hc => by
 obtain ⟨ds,a,e⟩ := h cs hc;exact ⟨ds,a,sU _ e⟩
theorem OM {s : St} {p : Rt} {k : Nat} {xs xs' : List AV} (hp : aC s p = some (k,xs)) (hl : xs'.length = xs.length) (b j : Nat) : pL b j s (setAt s p (.own k xs')) /\ pL b j (setAt s p (.own k xs')) s := by
 cases p with
 | s i => exact ⟨.of_eq rfl,.of_eq rfl⟩
 | sc i l =>
   have e : (setAt s (.sc i l) (.own k xs')).H = s.H := by simp only [setAt]; split <;> rfl
   exact ⟨.of_eq (by rw [e]),.of_eq (by rw [e])⟩
 | c d l =>
   have h1 := bY.1 hp;simp only [at_] at h1;split at h1
   case h_2 => cases h1
   rename_i cs dv;have e : (setAt s (.c d l) (.own k xs')).H = s.H.set d (some (cs.set l (.own k xs'))) := by simp only [setAt,dv]
   have hb : ∀ c,aH (setAt s (.c d l) (.own k xs')).H c = if c = d then some (cs.set l (.own k xs')) else aH s.H c := fun c => by
    rw [e,dF];by_cases q : c = d
    ·rw [if_pos ⟨q,by subst q; exact dZ dv⟩,if_pos q]
    ·rw [if_neg (fun h => q h.1),if_neg q]
   by_cases q : b = d
   ·subst q;have lc := AX (f := fun i => Rt.c b i) (j := 0) h1 hl;refine ⟨fun ds mY => ⟨_,by rw [hb,if_pos rfl],?_⟩,fun ds mY => ⟨cs,dv,?_⟩⟩
    ·rw [dv] at mY; cases mY;exact congrArg (·[j]?) lc
    ·rw [hb,if_pos rfl] at mY; cases mY;exact (congrArg (·[j]?) lc).symm
   ·exact ⟨.of_eq (by rw [hb,if_neg q]),.of_eq (by rw [hb,if_neg q])⟩
theorem aeq {s s1 : St} {k : Nat} {x y : E} {v : AV} {sl : List Nat} {bs : Option (List Nat)} (h : fo c call s (.st k x y) = some (v,s1,.wr sl bs)) : ∃ V,Qe c call s (.st k x y) v s1 sl bs V := by
 have hcg : ∀ {d : Nat} {u : AV} {e : Env},(∀ i,get e i = if i = d then u else get s.env i) -> d ∉ (Kd.st k x y).reads -> bn c e x = bn c s.env x /\ bn c e y = bn c s.env y := by
  intro d u e he hd;simp only [Kd.reads,aD,not_or] at hd;exact ⟨bQ fun i hi => by rw [he,if_neg]; intro e; subst e; exact hd.1 hi,bQ fun i hi => by rw [he,if_neg]; intro e; subst e; exact hd.2 hi⟩
 have GD : ∀ {d : Nat} {u : AV},∀ i,get (put s.env d u) i = if i = d then u else get s.env i := fun i => br _ _ _ _;simp only [fo] at h;split at h
 ·rename_i k' p i off hx;split at h
  case h_2 => cases h
  rename_i s2 f hh;simp only [aj,aF] at h;obtain ⟨rfl,rfl,h⟩ := h
  have he : aL (bn c s.env y) = [] := by
   cases hb : aL (bn c s.env y) with
   | nil => rfl
   | cons a b => rw [hb] at h; simp at h
  rw [he] at h hh;simp at h;subst h;rw [show dB [] s = s from rfl,hx] at hh;simp only [Og] at hh;split at hh
  case h_2 => cases hh
  rename_i k2 xs hp;split at hh
  case isFalse => cases hh
  rename_i hk;split at hh
  case h_2 => cases hh
  rename_i z hz;by_cases hc : (bn c s.env y).cells.length = k /\ off + k <= k' /\ UU (bn c s.env y).cells = true
  case neg => rw [if_neg hc] at hh; cases hh
  rw [if_pos hc] at hh;simp only [aj,aF,Fq.wr.injEq] at hh;obtain ⟨rfl,rfl,rfl⟩ := hh;have uR := uy hp;refine ⟨fun _ => False,⟨fun i _ hi => fI fun hm => hi (vK.2 hm),fun i _ => ON (hk ▸ hp) (k8 ..) i,(fun i h1 h2 => fI fun hi => by rw [uR i hi] at h1; cases h1),fun l hl b hb => (by cases hl; exact qN (aaF hb)),fun l hl b j hb hbj => (by cases hl; exact OM (hk ▸ hp) (k8 ..) b j),fun i hi => ⟨fun _ _ => id,id,fun _ => id⟩,fun l hl b hb s4 cs dv => ⟨fun _ _ => id,fun _ _ => id⟩,fun l hl b j _ _ _ cs c0 _ _ => ⟨fun _ _ => id,fun _ _ _ => id⟩,fun d u hd _ hds0 hu => ?_⟩⟩;have mY : d ∉ rootOf p := fun hm => hds0 (vK.2 hm);obtain ⟨e1,e2⟩ := hcg (GD (d := d) (u := u)) hd;refine ⟨⟨put s.env d u,s.H⟩,_,marks (rootOf p),dq.rfl',?_,fun i hi => hi,qM mY⟩;simp only [fo,e1,hx,e2,he];rw [show dB [] ⟨put s.env d u,s.H⟩ = (⟨put s.env d u,s.H⟩ : St) from rfl,e1,hx,e2];simp only [Og,mL mY,hp,hk,if_true,hz];rw [if_pos hc];simp
 ·rename_i hnp;split at h
  case h_2 => cases h
  rename_i s2 f hh;simp only [aj,aF] at h;obtain ⟨rfl,rfl,rfl⟩ := h;unfold Og at hh;split at hh
  ·rename_i b off hx;unfold wm at hh;split at hh
   case h_2 => cases hh
   rename_i cs hb;split at hh
   case isFalse => cases hh
   rename_i hc;split at hh
   ·split at hh
    ·split at hh <;> simp at hh
    ·cases hh
   ·rename_i Np;simp only [aj,aF,Fq.wr.injEq] at hh;obtain ⟨rfl,rfl,rfl⟩ := hh
    have SW : bw ((cs.drop off).take k) = true -> Gs (cE b off k) s (bn c s.env y) = false := fun ho => by
     rw [ho] at Np; simpa using Np
    apply tO.up;refine ⟨fun p => bw ((cs.drop off).take k) = true /\ cE b off k p = true,⟨fun i hi _ => rfl,fun i hi => rfl,fun i h1 h2 => rfl,fun l hl d hd => ?_,fun i hi => ⟨fun p hp hV => ?_,fun hV => by simp [cE] at hV,fun j hV => by simp [cE] at hV⟩,fun l hl d hd CC ds mY => ⟨fun p hp hV => ?_,fun _ j hV => ?_⟩,fun d u hd mY _ hu => ?_⟩⟩
    ·cases hl;have : d ≠ b := by simpa using hd
     show aH (s.H.set b _) d = aH s.H d;rw [dF,if_neg (fun e => this e.1)]
    ·rw [(xK (SW hV.1)).1 i p hp] at hV; cases hV.2
    ·rw [(xK (SW hV.1)).2.1 d ds mY p hp] at hV; cases hV.2
    ·cases hl;have : d ≠ b := by simpa using hd
     simp [cE,this] at hV
    ·let t0 : St := Pk ⟨put s.env d u,s.H⟩
     have hg : ∀ i,get t0.env i = if i = d then u else get s.env i := fun i => by rw [nt,br]
     have hH : t0.H = s.H := rfl;obtain ⟨e1,e2⟩ := hcg hg hd;refine ⟨t0,⟨t0.env,s.H.set b (some (jf cs off (bn c s.env y).cells))⟩,[],(oM _).symm,?_,fun i hi => hi,(oM _).symm.1,rfl⟩
     have aeS : (bw ((cs.drop off).take k) && Gs (cE b off k) t0 (bn c s.env y)) = false := by
      cases ho : bw ((cs.drop off).take k) with
      | false => rfl
      | true =>
        obtain ⟨n1,n2,n3⟩ := xK (SW ho)
        have nR : ∀ {l : List Rt},(∀ p ∈ l,cE b off k p = false) -> vf (cE b off k) l = false := by
         intro l hl;cases hh : vf (cE b off k) l with
         | false => rfl
         | true => obtain ⟨p,hp,hq⟩ := sj.1 hh; rw [hl p hp] at hq; cases hq
        have h0 := SW ho;simp only [Gs,fg] at h0;simp only [Gs,Bool.true_and,fg];refine ⟨h0.1,?_,by rw [hH]; exact h0.2.2⟩;cases hh : Gr (cE b off k) t0.env with
        | false => rfl
        | true =>
          obtain ⟨i,_,h2⟩ := Gq hh;have : get (put s.env d u) i = get t0.env i := (nt ⟨put s.env d u,s.H⟩ i).symm;simp only [this,hg] at h2;split at h2
          ·obtain ⟨p,hp,hq⟩ := sj.1 h2;exact absurd ⟨ho,hq⟩ (hu p hp)
          ·rw [nR (n1 i)] at h2; cases h2
     simp only [fo,e1,hx,e2,Og,wm,hH,hb];rw [if_pos hc];simp only [aeS,aX,if_false]
  ·rename_i k2 p2 i2 off2 e1;exact absurd e1 (hnp k2 p2 i2 off2)
  ·cases hh
theorem Dz {q : Rt} : ∀ {l : List Rt},q ∈ l -> ∀ i ∈ rootOf q,i ∈ xe l
 | [],h,i,_ => by simp at h
 | r :: l,h,i,hi => by
   simp only [xe,aD];rcases aJ.1 h with e | e
   ·subst e; exact .inl hi
   ·exact .inr (Dz e i hi)
theorem Yt {s t : St} {k : Nat} {x : AV} (h : ∀ p ∈ aL x,aC t p = aC s p) : cont t k x = cont s k x := by
 cases x <;> try rfl
 case dp k' p off len => simp only [cont]; rw [h p (by simp [aL])]
 case own k' xs => cases xs <;> rfl
theorem VO {p : Rt} {x : AV} (h : p ∉ aL x) : b8 (sw p) x = x := zG x fun k q o l hq => by
 have : q ≠ p := fun e => h (e ▸ hq);simp [sw,this]
theorem Qx {p : Rt} {x : List AV} (h : p ∉ cQ x) : cC (sw p) x = x := mO x fun k q o l hq => by
 have : q ≠ p := fun e => h (e ▸ hq);simp [sw,this]
theorem F8 {p : Rt} {b : Nat} {m : List Nat} (h : lv b (cellOf p ++ m) = false) : b ∉ nA p := by
 intro hb;cases p with
 | s i => simp [nA] at hb
 | sc i j => simp [nA] at hb
 | c d j =>
   simp [nA] at hb;subst hb;exact (mW h).2 j (by simp [cellOf])
theorem acH {s s1 : St} {k : Nat} {x y : E} {v : AV} {sl : List Nat} {bs : Option (List Nat)} (h : fo c call s (.app k x y) = some (v,s1,.wr sl bs)) : ∃ V,Qe c call s (.app k x y) v s1 sl bs V := by
 simp only [fo] at h;split at h
 case h_2 => cases h
 rename_i ys hy;split at h
 case isFalse => cases h
 rename_i hl;split at h
 ·split at h <;> simp at h
 case h_3 => cases h
 rename_i k' p len hx;split at h
 case h_2 => cases h
 rename_i k2 xs hp;split at h
 case isFalse => cases h
 rename_i hc;simp only [aj,aF,Fq.wr.injEq] at h;obtain ⟨rfl,rfl,rfl,rfl⟩ := h;have uR := uy hp;have yt : ∀ i ∈ rootOf p,i ∈ jU p s.env := fun i hi => lJ (.inr ⟨qd.2 hi,fun e => by have := uR i hi; rw [e] at this; cases this⟩);have mN : ∀ {i : Nat},i ∉ jU p s.env -> p ∉ aL (get s.env i) /\ i ∉ rootOf p := fun {i} hi => ⟨fun e => hi (lJ (.inl (rQ.2 e))),fun e => hi (yt i e)⟩
 have FI : ∀ i,p ∉ aL (get s.env i) -> i ∉ rootOf p -> get (setAt (bW (sw p) s) p .any).env i = get s.env i := fun i h1 h2 => by
  rw [fI h2];show get (jC (sw p) s.env) i = _;rw [cW,VO h1]
 refine ⟨fun q => q = p,⟨fun i hi _ => ?_,fun i hi => ?_,fun i h1 h2 => ?_,fun l hl b hb => ?_,fun l hl b j hb hbj => ?_,fun i hi => ⟨fun q hq e => ?_,fun e => ?_,fun j e => ?_⟩,fun l hl b hb s4 cs dv => ⟨fun q hq e => ?_,fun _ j e => ?_⟩,fun l hl b j hb s4 hbj cs c0 dv Fw => ⟨fun q hq e => ?_,fun k0 xs0 e0 e => ?_⟩,fun d u hd mY hds2 hu => ?_⟩⟩
 ·obtain ⟨h1,h2⟩ := mN (eF hi).1;exact FI i h1 h2
 ·obtain ⟨h1,h2⟩ := mN (eF hi).1;rw [FI i h1 h2]
 ·exact FI i (by rw [h2]; simp) fun hi => by rw [uR i hi] at h1; cases h1
 ·cases hl;have zP : b ∉ nA p := F8 hb;have s4 := (eF (mW hb).1).2;rw [qN zP];show aH (ft (sw p) s.H) b = _;rw [fv];cases dv : aH s.H b with
  | none => rfl
  | some cs =>
    simp only [cJ,aj];refine Qx fun hm => s4 ?_;have := ks (k := 0) dv hm;simpa using this
 ·cases hl;obtain ⟨zP,s4⟩ := eF hb;obtain ⟨PG,_⟩ := eF hbj
  have hsw : ∀ cs,aH s.H b = some cs -> cC (sw p) cs = cs := fun cs dv => Qx fun hm => s4 (by
   have := ks (k := 0) dv hm;simpa using this)
  have hn : aH s.H b = none -> aH (setAt (bW (sw p) s) p .any).H b = none := fun hn => by
   cases p with
   | s i => show aH (ft (sw _) s.H) b = none; rw [fv,hn]; rfl
   | sc i l =>
     simp only [setAt];split <;> (show aH (ft (sw _) s.H) b = none; rw [fv,hn]; rfl)
   | c d l =>
     simp only [setAt];split
     ·rename_i cs dv;have hcs' : aH (ft (sw (.c d l)) s.H) d = some cs := dv;show aH ((ft (sw (.c d l)) s.H).set d _) b = none;rw [dF];by_cases e : b = d
      ·subst e; rw [fv,hn] at hcs'; cases hcs'
      ·rw [if_neg (fun h => e h.1),fv,hn]; rfl
     ·show aH (ft (sw _) s.H) b = none; rw [fv,hn]; rfl
  have hs : ∀ cs,aH s.H b = some cs -> ∃ ds,aH (setAt (bW (sw p) s) p .any).H b = some ds /\ ds[j]? = cs[j]? := fun cs dv => by
   have hm : aH (ft (sw p) s.H) b = some cs := by rw [fv,dv,cJ,hsw cs dv]
   cases p with
   | s i => exact ⟨cs,hm,rfl⟩
   | sc i l =>
     simp only [setAt];split <;> exact ⟨cs,hm,rfl⟩
   | c d l =>
     simp only [setAt];split
     ·rename_i es hes;have hes' : aH (ft (sw (.c d l)) s.H) d = some es := hes;show ∃ ds,aH ((ft (sw (.c d l)) s.H).set d _) b = some ds /\ _;rw [dF];by_cases e : b = d
      ·subst e;rw [hm] at hes';cases hes';refine ⟨cs.set l .any,by rw [if_pos ⟨rfl,dZ hm⟩],?_⟩;rw [List.getElem?_set_ne];intro e2;subst e2;exact PG (by simp [cellOf])
      ·rw [if_neg (fun h => e h.1)];exact ⟨cs,hm,rfl⟩
     ·exact ⟨cs,hm,rfl⟩
  refine ⟨.Sf hs,.Sf fun ds mY => ?_⟩;cases dv : aH s.H b with
  | none => rw [hn dv] at mY; cases mY
  | some cs =>
    obtain ⟨ds',h1,h2⟩ := hs cs dv;rw [h1] at mY;cases mY;exact ⟨cs,rfl,h2.symm⟩
 ·subst e;exact (mN (eF hi).1).1 hq
 ·subst e;exact (mN (eF hi).1).2 (by simp [rootOf])
 ·subst e;exact (mN (eF hi).1).2 (by simp [rootOf])
 ·subst e;cases hl;obtain ⟨zP,s4⟩ := eF (mW hb).1;have := ks (k := 0) dv hq;exact s4 (by simpa using this)
 ·subst e;cases hl;exact F8 hb (by simp [nA])
 ·subst e;cases hl;obtain ⟨zP,s4⟩ := eF hb;have := ks (k := 0) dv (jv.2 ⟨c0,bf Fw,hq⟩);exact s4 (by simpa using this)
 ·subst e;cases hl;exact (eF hbj).1 (by simp [cellOf])
 ·have X7 := (eF mY).1;have CC : d ∉ xe (aL (bn c s.env y)) := fun hm => (eF hds2).2 (vK.2 hm);obtain ⟨hd3,hd4⟩ := mN X7
  let t0 : St := Pk ⟨put s.env d u,s.H⟩
  have Nd : dq t0 ⟨put s.env d u,s.H⟩ := (oM _).symm;have hg : ∀ i,get t0.env i = if i = d then u else get s.env i := fun i => by rw [nt,br]
  have hH : t0.H = s.H := rfl;simp only [Kd.reads,aD,not_or] at hd;have e1 : bn c t0.env x = bn c s.env x := bQ fun i hi => by rw [hg,if_neg]; intro e; subst e; exact hd.1 hi
  have e2 : bn c t0.env y = bn c s.env y := bQ fun i hi => by rw [hg,if_neg]; intro e; subst e; exact hd.2 hi
  have own : ∀ q,d ∉ rootOf q -> aC t0 q = aC s q := fun q hq => by rw [<- Nd.own q]; exact mL hq
  have e3 : cont t0 k (bn c s.env y) = cont s k (bn c s.env y) := Yt fun q hq => own q fun hr => CC (Dz hq d hr);have Ft : p ∉ aL u := fun hm => hu p hm rfl;refine ⟨t0,setAt (bW (sw p) t0) p .any,jU p t0.env ++ marks (xe (aL (bn c s.env y))),Nd,?_,fun i hi => ?_,?_⟩
  ·simp only [fo,e1,e2,e3,hy,hl,if_true,hx,own p hd4,hp];rw [if_pos hc];rfl
  ·rcases aD.1 hi with hi | hi
   ·obtain ⟨_,h2⟩ := Ax hi;have : get (put s.env d u) i = get t0.env i := (nt ⟨put s.env d u,s.H⟩ i).symm;simp only [this,hg] at h2;refine aD.2 (.inl ?_);rcases h2 with h2 | h2
    ·split at h2
     ·exact absurd (rQ.1 h2) Ft
     ·exact lJ (.inl h2)
    ·exact yt i (qd.1 h2)
   ·exact aD.2 (.inr hi)
  ·have h5 : dq (bW (sw p) t0) ⟨put (bW (sw p) s).env d u,(bW (sw p) s).H⟩ := ⟨fun i => by
    show get (jC (sw p) t0.env) i = get (put (jC (sw p) s.env) d u) i;rw [cW,hg,br,cW];split
    ·exact VO Ft
    ·rfl,rfl⟩
   exact (Dv h5 p .any).trans (qM hd4)
theorem acG {s s1 : St} {f : Nat} {x : E} {es : List E} {g : Nat -> List AV -> List AV -> Option (List AV)} {v : AV} {sl : List Nat} {bs : Option (List Nat)} (hi : c.inp f = none) (Kq : c.eat f = some g) (h : PS s g (bn c s.env x) (di c s.env es) = some (v,s1,.wr sl bs)) : ∃ V,Qe c call s (.call f (x :: es)) v s1 sl bs V := by unfold PS at h;cases h
theorem acF {s s1 : St} {kd : Kd} {v : AV} {sl : List Nat} {bs : Option (List Nat)} (hni : ∀ f x es,kd = .call f (x :: es) -> c.inp f ≠ none) (gr : ∀ t,fo c call t kd = c7 c call kd t) (h : nQ c s kd = some (some (v,s1,.wr sl bs))) : ∃ V,tO c call s kd v s1 sl bs V := by
 have h0 := h;unfold nQ at h;split at h
 case h_2 => cases h
 rename_i f x es;split at h
 case h_1 =>
  rename_i Ni;exact absurd Ni (hni _ _ _ rfl)
 rename_i g Kq;simp only [aj] at h;split at h
 case h_4 => cases h
 case h_3 =>
  exfalso
  (repeat' split at h) <;> simp at h
 ·rename_i k hx;split at h
  case isFalse => cases h
  rename_i pR;split at h
  case h_2 => cases h
  rename_i ys res GW;simp only [aj,aF,Fq.wr.injEq] at h;obtain ⟨rfl,rfl,rfl,rfl⟩ := h;refine ⟨fun _ => False,⟨fun i hi _ => rfl,fun i hi => rfl,fun i h1 h2 => rfl,fun l hl b hb => rfl,fun i hi => ⟨fun _ _ => id,id,fun _ => id⟩,fun l hl b hb s4 cs dv => ⟨fun _ _ => id,fun _ _ => id⟩,fun d u hd mY _ hu => ?_⟩⟩;have GD : ∀ i,get (put s.env d u) i = if i = d then u else get s.env i := fun i => br _ _ _ _;simp only [Kd.reads,lk,aD,not_or] at hd;have e1 : bn c (put s.env d u) x = bn c s.env x := bQ fun i hi => by rw [GD,if_neg]; intro e; subst e; exact hd.1 hi
  have e2 : di c (put s.env d u) es = di c s.env es := fX fun i hi => by rw [GD,if_neg]; intro e; subst e; exact hd.2 hi
  refine ⟨⟨put s.env d u,s.H⟩,⟨put s.env d u,s.H⟩,[],dq.rfl',?_,fun i hi => hi,dq.rfl'⟩;rw [gr];unfold c7 nQ;simp only [Kq,e1,hx,e2];rw [if_pos pR];simp only [GW]
 rename_i k p len hx;split at h
 case h_2 => cases h
 rename_i k' xs hp;split at h
 case isFalse => cases h
 rename_i hc;split at h
 case h_2 => cases h
 rename_i ys res GW;simp only [aj,aF,Fq.wr.injEq] at h;obtain ⟨rfl,rfl,rfl,rfl⟩ := h;have uR := uy hp;refine ⟨fun _ => False,⟨fun i hi _ => fI hi,(fun i hi => by rw [fI hi]),(fun i h1 h2 => fI fun hi => by rw [uR i hi] at h1; cases h1),fun l hl b hb => (by cases hl; exact qN hb),fun i hi => ⟨fun _ _ => id,id,fun _ => id⟩,fun l hl b hb s4 cs dv => ⟨fun _ _ => id,fun _ _ => id⟩,fun d u hd mY _ hu => ?_⟩⟩;have GD : ∀ i,get (put s.env d u) i = if i = d then u else get s.env i := fun i => br _ _ _ _;simp only [Kd.reads,lk,aD,not_or] at hd;have e1 : bn c (put s.env d u) x = bn c s.env x := bQ fun i hi => by rw [GD,if_neg]; intro e; subst e; exact hd.1 hi
 have e2 : di c (put s.env d u) es = di c s.env es := fX fun i hi => by rw [GD,if_neg]; intro e; subst e; exact hd.2 hi
 refine ⟨⟨put s.env d u,s.H⟩,_,rootOf p,dq.rfl',?_,fun i hi => hi,qM mY⟩;rw [gr];unfold c7 nQ;simp only [Kq,e1,hx,mL mY,hp,e2];rw [if_pos hc];simp only [GW]
theorem Zs {s s1 : St} {k : Nat} {x y : E} {v : AV} {sl : List Nat} {bs : Option (List Nat)} (h : fo c call s (.copy k x y) = some (v,s1,.wr sl bs)) : ∃ V,tO c call s (.copy k x y) v s1 sl bs V := by
 have gr : ∀ t,fo c call t (.copy k x y) = match bn c t.env x with
   | .dp k' p off n => if n = 0 then (match cont t k (bn c t.env y) with
     | some ys => if k' = k /\ bm (aE ys) = true then some (.int .i64 0,t,.all) else none
     | none => none) else match aC t p,cont t k (bn c t.env y) with
     | some (vO,xs),some ys => if k' = k /\ vO = k /\ off + n <= xs.length /\ bm (aE ys) = true then some (.int .i64 (min ys.length n : Nat),setAt t p (.own k (jf xs off (ys.take (min ys.length n)))),NH p (bn c t.env y)) else none
     | _,_ => none
   | _ => none := fun t => rfl
 rw [gr] at h;split at h
 case h_2 => cases h
 rename_i k' p off n hx;split at h
 ·exfalso
  (repeat' split at h) <;> simp at h
 rename_i hn;split at h
 case h_2 => cases h
 rename_i vO xs ys hp hy;split at h
 case isFalse => cases h
 rename_i hc;simp only [aj,aF] at h;obtain ⟨rfl,rfl,hl⟩ := h;rcases uY p (bn c s.env y) with e | ⟨ky,oy,ly,ey,e⟩
 ·rw [e] at hl; cases hl
 rw [e] at hl;simp only [Fq.wr.injEq] at hl;obtain ⟨rfl,rfl⟩ := hl;have uR := uy hp;refine ⟨fun _ => False,⟨fun i hi _ => fI hi,(fun i hi => by rw [fI hi]),(fun i h1 h2 => fI fun hi => by rw [uR i hi] at h1; cases h1),fun l hl b hb => (by cases hl; exact qN hb),fun i hi => ⟨fun _ _ => id,id,fun _ => id⟩,fun l hl b hb s4 cs dv => ⟨fun _ _ => id,fun _ _ => id⟩,fun d u hd mY _ hu => ?_⟩⟩;have GD : ∀ i,get (put s.env d u) i = if i = d then u else get s.env i := fun i => br _ _ _ _;simp only [Kd.reads,lk,aD,not_or] at hd;have e1 : bn c (put s.env d u) x = bn c s.env x := bQ fun i hi => by rw [GD,if_neg]; intro e; subst e; exact hd.1 hi
 have e2 : bn c (put s.env d u) y = bn c s.env y := bQ fun i hi => by rw [GD,if_neg]; intro e; subst e; exact hd.2 hi
 have e3 : cont (⟨put s.env d u,s.H⟩ : St) k (bn c s.env y) = cont s k (bn c s.env y) := by
  rw [ey];simp only [cont,mL mY]
 refine ⟨⟨put s.env d u,s.H⟩,_,rootOf p,dq.rfl',?_,fun i hi => hi,qM mY⟩;rw [gr];simp only [e1,hx,mL mY,hp,e2,e3,hy];rw [if_neg hn,if_pos hc,e]
theorem Zr {s s1 : St} {kd : Kd} {v : AV} {sl : List Nat} {bs : Option (List Nat)} (gr : ∀ t,fo c call t kd = c7 c call kd t) (h : nQ c s kd = some (some (v,s1,.wr sl bs))) : ∃ V,Qe c call s kd v s1 sl bs V := by
 by_cases hex : ∃ f x es,kd = .call f (x :: es) /\ c.inp f = none
 case neg =>
  exact tO.up (acF (fun f x es e hn => hex ⟨f,x,es,e,hn⟩) gr h)
 case pos =>
  obtain ⟨f,x,es,rfl,Ni⟩ := hex;simp only [nQ,Ni] at h;split at h
  ·cases h
  ·rename_i g Kq;simp only [aj] at h;exact acG Ni Kq h
theorem Ky {s s1 : St} {kd : Kd} {v : AV} {sl : List Nat} {bs : Option (List Nat)} (gr : ∀ t,fo c call t kd = c7 c call kd t) (h : fo c call s kd = some (v,s1,.wr sl bs)) : ∃ V,Qe c call s kd v s1 sl bs V := by
 rw [gr] at h;unfold c7 at h;cases hi : nQ c s kd with
 | none =>
   rw [hi] at h;cases hl : lj c call s kd with
   | none =>
     rw [hl] at h;simp only [fK] at h;cases hm : qz c call s kd with
     | none =>
       rw [hm] at h;replace h := (iJ h).resolve_right fun h => by obtain ⟨e,_⟩ := vB h; cases e
       exact tO.up (Zt gr hi hl hm h)
     | some r =>
       rw [hm] at h;simp only at h;subst h;obtain ⟨e,_⟩ := vI hm;cases e
   | some r =>
     rw [hl] at h;simp only at h;subst h;obtain ⟨b,e⟩ := C1 hl;cases e
 | some r =>
   rw [hi] at h;simp only at h;subst h;exact Zr gr hi
theorem wrOp {s s1 : St} {kd : Kd} {v : AV} {sl : List Nat} {bs : Option (List Nat)} (h : fo c call s kd = some (v,s1,.wr sl bs)) : ∃ V,Qe c call s kd v s1 sl bs V := by
 cases kd
 case call => exact Ky (fun _ => rfl) h
 case gw => exact Ky (fun _ => rfl) h
 case st => exact aeq h
 case app => exact acH h
 case copy => exact tO.up (Zs h)
 case dh => exact tO.up (TH h)
 case ld =>
  exfalso;simp only [fo] at h;split at h
  case h_2 => cases h
  split at h
  case isFalse => cases h
  simp only [aj,aF] at h;obtain ⟨_,_,h5⟩ := h;rcases uK _ _ _ with e | ⟨b,j,e⟩ <;> rw [e] at h5 <;> cases h5
 all_goals
  exfalso;simp only [fo] at h
  (repeat' split at h) <;> simp at h
theorem aer : Ag c call := by
 intro s q v s1 sl bs ⟨hk,s0,t1,e0,he,e1⟩
 have op : fo c call s0 q.kd = some (v,t1,.wr sl bs) -> (∀ t : St,(∀ i ∈ q.reads,get t.env i = get s.env i) -> Cd c call t q = fo c call t q.kd) -> ∃ V,WrEv c call s q v s1 sl bs V := by
  intro h CA;obtain ⟨V,hV⟩ := wrOp h;have hr : ∀ i ∈ q.kd.reads,i ∈ q.reads := fun i hi => by simp [O.reads,hi]
  refine ⟨V,⟨fun i hi hi2 => by rw [<- e1.1,hV.env i hi hi2,e0.1],fun i hi => by rw [<- e1.1,hV.hd i hi,e0.1],fun i h1 h2 => by rw [<- e1.1,hV.keep i (by rw [<- e0.1]; exact h1) (by rw [<- e0.1]; exact h2),e0.1],fun l hl b hb => by rw [<- e1.2,hV.heap l hl b hb,e0.2],fun l hl b j h1 h2 => (by
   have := hV.cell l hl b j h1 h2;unfold pL at this ⊢;rw [e0.2,<- e1.2]; exact this),fun i hi => by rw [e0.1]; exact hV.v1 i hi,fun l hl b hb s4 cs dv => hV.v2 l hl b hb s4 cs (by rw [<- e0.2]; exact dv),fun l hl b j h1 h2 h3 cs c0 hb hc => hV.v3 l hl b j h1 h2 h3 cs c0 (by rw [<- e0.2]; exact hb) hc,fun d u hd mY hds2 hu => ?_⟩⟩
  obtain ⟨t0,t2,sl',h1,h2,h3,h4⟩ := hV.go d u (fun h => hd (hr d h)) mY hds2 hu;have h6 : dq (⟨put s0.env d u,s0.H⟩ : St) ⟨put s.env d u,s.H⟩ := ⟨fun i => by simp only [br,e0.1],e0.2.symm⟩;have hs : dq (⟨put s.env d u,s.H⟩ : St) t0 := (h1.trans h6).symm;refine ⟨t2,sl',⟨hk,t0,t2,hs,?_,dq.rfl'⟩,h3,h4.trans ⟨fun i => by simp only [br,e1.1],e1.2⟩⟩;rw [CA t0 fun i hi => ?_]
  ·exact h2
  ·rw [<- hs.1 i];show get (put s.env d u) i = _;rw [br,if_neg];intro e; subst e; exact hd hi
 unfold Cd at he;cases hg : q.guard with
 | none =>
   rw [hg] at he;exact op he fun t _ => by unfold Cd; rw [hg]
 | some gp =>
   obtain ⟨g,want⟩ := gp;rw [hg] at he;simp only at he;have GW : g ∈ q.reads := by simp [O.reads,hg]
   split at he
   ·rename_i b hb;split at he
    ·rename_i PL;refine op he fun t h1 => ?_;unfold Cd;rw [hg];simp only [h1 g GW,e0.1 g,hb,PL,if_true]
    ·cases he
   ·cases he
   ·cases he
theorem lwOp {s s1 : St} {kd : Kd} {v : AV} {b : Nat} (h : fo c call s kd = some (v,s1,.lw b)) : (∀ t,fo c call t kd = c7 c call kd t) /\ nQ c s kd = none /\ lj c call s kd = some (some (v,s1,.lw b)) := by
 have nc : ∀ {kd : Kd},c7 c call kd s = some (v,s1,.lw b) -> nQ c s kd = none /\ lj c call s kd = some (some (v,s1,.lw b)) := by
  intro kd h;unfold c7 at h;cases hi : nQ c s kd with
  | some r =>
    rw [hi] at h;simp only at h;subst h;obtain ⟨sl,bs,e | e⟩ := zL hi <;> cases e
  | none =>
    rw [hi] at h;cases hl : lj c call s kd with
    | some r =>
      rw [hl] at h;simp only at h;subst h;exact ⟨rfl,rfl⟩
    | none =>
      rw [hl] at h;simp only [fK] at h;exfalso;split at h
      ·rename_i r hm;subst h;obtain ⟨e,_⟩ := vI hm;cases e
      replace h := (iJ h).resolve_right fun h => by obtain ⟨e,_⟩ := vB h; cases e
      unfold dI at h
      (repeat' split at h)
      all_goals first
       | (cases h; done)
       | (simp [Bi] at h; done)
       | (simp at h; obtain ⟨_,_,h5⟩ := h; revert h5; split <;> simp [Bi]; done)
       | (simp only [aj,aF] at h; obtain ⟨_,_,h5⟩ := h; split at h5 <;> cases h5)
 have ns : ∀ {s s' : St} {k : Nat} {a v : AV},Og s k a v ≠ some (s',.lw b) := by
  intro s s' k a v h;unfold Og wm at h
  repeat' split at h
  all_goals first
   | (cases h; done)
   | (simp at h; done)
 cases kd
 case call => exact ⟨fun _ => rfl,nc h⟩
 case gw => exact ⟨fun _ => rfl,nc h⟩
 case st k a v =>
  exfalso;simp only [fo] at h;split at h
  ·split at h
   case h_2 => cases h
   rename_i hh;simp only [aj,aF] at h;obtain ⟨_,_,h5⟩ := h;split at h5
   ·rw [h5] at hh; exact ns hh
   ·cases h5
  ·split at h
   case h_2 => cases h
   rename_i hh;simp only [aj,aF] at h;obtain ⟨_,_,h5⟩ := h;rw [h5] at hh;exact ns hh
 all_goals
  exfalso;simp only [fo] at h
  (repeat' split at h)
  all_goals first
   | (cases h; done)
   | (simp at h; done)
   | (simp [Bi] at h; done)
   | (simp at h; obtain ⟨_,_,h5⟩ := h; rcases uK _ _ _ with e | ⟨b,j,e⟩ <;> rw [e] at h5 <;> cases h5; done)
   | (simp at h; obtain ⟨_,_,h5⟩ := h; rcases uY _ _ with e | ⟨_,_,_,_,e⟩ <;> rw [e] at h5 <;> cases h5; done)
   | (simp at h; obtain ⟨_,_,h5⟩ := h; revert h5; split <;> simp)
theorem aeJ : Ai c call := by
 intro s q v s1 b ⟨hk,s0,t1,e0,he,e1⟩
 have op : fo c call s0 q.kd = some (v,t1,.lw b) -> (∀ t : St,(∀ i ∈ q.reads,get t.env i = get s.env i) -> Cd c call t q = fo c call t q.kd) -> ∃ cs cs',LwEv c call s q v s1 b cs cs' := by
  intro h CA;obtain ⟨gr,hi,hl⟩ := lwOp h;obtain ⟨f,x,es,b',md,q',cs,cs',hkd,h1,h2,h3,h4,h5,h6,h7,h8,h9⟩ := uI hl;simp only [Fq.lw.injEq] at h9;subst h9;have Ni : ∀ i ∈ lk (x :: es),i ∈ q.reads := fun i hi => by simp [O.reads,hkd,Kd.reads,hi]
  refine ⟨cs,cs',⟨by rw [e0.2]; exact h4,?_,fun t ht hbt => ?_⟩⟩
  ·refine e1.symm.trans ?_;rw [h8];exact ⟨fun i => (e0.1 i).symm,by show s0.H.set b (some cs') = s.H.set b (some cs'); rw [e0.2]⟩
  ·refine ⟨hk,t,⟨t.env,t.H.set b (some cs')⟩,dq.rfl',?_,dq.rfl'⟩;rw [CA t ht,gr];unfold c7;rw [vQ hi t]
   have bA : lj c call t q.kd = some (some (v,⟨t.env,t.H.set b (some cs')⟩,.lw b)) := by
    have e2 : bn c t.env x = bn c s0.env x := bQ fun i hi => by rw [ht i (Ni i (by simp [lk,hi])),e0.1 i]
    have e3 : di c t.env es = di c s0.env es := fX fun i hi => by rw [ht i (Ni i (by simp [lk,hi])),e0.1 i]
    rw [hkd];unfold lj;simp only;rw [if_pos h1];unfold Us;rw [e2,e3,h2];simp only [h3,hbt];rw [if_pos h5,h6];simp only;rw [if_pos h7]
   rw [bA]
 unfold Cd at he;cases hg : q.guard with
 | none =>
   rw [hg] at he;exact op he fun t _ => by unfold Cd; rw [hg]
 | some gp =>
   obtain ⟨g,want⟩ := gp;rw [hg] at he;simp only at he;have GW : g ∈ q.reads := by simp [O.reads,hg]
   split at he
   ·rename_i b hb;split at he
    ·rename_i PL;refine op he fun t h1 => ?_;unfold Cd;rw [hg];simp only [h1 g GW,e0.1 g,hb,PL,if_true]
    ·cases he
   ·cases he
   ·cases he
theorem adX (cO : fk P c) (Bf : Jb P c call) : GA P c call := UZ cO Bf (adZ abj aer aeJ)
end
end Go.Bm

/- The end of a function that sees boxes of others. -/
namespace Go.Bm
open Go.Am
mutual
theorem JB {o o' : Rt -> Option (Nat × List AV)} {nb Ms : Nat} (hn : nb <= Ms) : ∀ x,js x = true -> cr o nb x -> cr o' Ms x
 | .ptr b off,_,h => by simp only [cr] at h ⊢; omega
 | .agg cs,hp,h => by simp only [js] at hp; simp only [cr] at h ⊢; exact zo hn cs hp h
 | .dW cs,hp,h => by simp only [js] at hp; simp only [cr] at h ⊢; exact zo hn cs hp h
 | .func f a b,hp,h => by simp only [js,ab] at hp; simp only [cr] at h ⊢; exact ⟨zo hn a hp.1 h.1,zo hn b hp.2 h.2⟩
 | .own _ _,hp,_ => by simp [js] at hp
 | .dp _ _ _ _,hp,_ => by simp [js] at hp
 | .eK _ _ _ _,hp,_ => by simp [js] at hp
 | .sl _ b _ _,_,h => by simp only [cr] at h ⊢; omega
 | .any,_,_ => trivial | .undef,_,_ => trivial | .fi,_,_ => trivial | .eV,_,_ => trivial | .dc,_,_ => trivial
 | .int _ _,_,_ => trivial | .bool _,_,_ => trivial | .str _,_,_ => trivial | .list _ _,_,_ => trivial | .cX _,_,_ => trivial
theorem zo {o o' : Rt -> Option (Nat × List AV)} {nb Ms : Nat} (hn : nb <= Ms) : ∀ xs,fx xs = true -> jK o nb xs -> jK o' Ms xs
 | [],_,_ => trivial
 | x :: r,hp,h => by simp only [fx,ab] at hp; exact ⟨JB hn x hp.1 h.1,zo hn r hp.2 h.2⟩
end
theorem zn {x : AV} (h : js x = true) : bI x = false := by
 cases x <;> first | rfl | (simp [js] at h; done) | skip
 rename_i cs;simp only [js] at h;simp only [bI]
 induction cs with
 | nil => rfl
 | cons y r ih =>
   simp only [fx,ab] at h;have h1 := h.1;cases y <;> first | exact ih h.2 | (simp [js] at h1; done)
theorem Sw : jA oq := by
 intro k r o l;cases r <;> exact ⟨⟨(fun cs e => by cases e),(fun k xs e => by cases e)⟩,⟨(fun cs e => by cases e),(fun k xs e => by cases e)⟩⟩
section
variable {P : Program} {X : Nat -> Prop} {φ nG φ' : de} {w w1 w' : World} {N N1 N' : Names} {s s' s1 : St} {Ha : Heap} {B : Nat -> Nat} {base : Nat} {v va : AV} {v' : Value} {c : dN} {a : Act} {call : Nat -> List AV -> Heap -> Option (AV × Heap)} {t : Nat -> Value}
theorem R3 {s s' : St} (h : s'.H = s.H) (b j : Nat) : aC s' (.c b j) = aC s (.c b j) := by simp only [aC,at_,h]
theorem vH (r : AV) (i : Nat) : get [(0,r)] i = if i = 0 then r else .any := by simp only [Am.get]
theorem eW.leave (h : eW X φ w N s Ha t) {i0 : Nat} {r : AV} (hr : get s.env i0 = r) (hp : js r = true) : eW X φ w N ⟨[(0,r)],ft oq s.H⟩ Ha (fun i => if i = 0 then t i0 else undef) := by
 have gY := zn hp
 have slot : ∀ i,(∀ k xs,get [(0,r)] i ≠ .own k xs) /\ (aC ⟨[(0,r)],ft oq s.H⟩ (.s i) = none /\ ∀ j,aC ⟨[(0,r)],ft oq s.H⟩ (.sc i j) = none) := by
  intro i
  have h0 : bI (get (⟨[(0,r)],ft oq s.H⟩ : St).env i) = false := by
   show bI (get [(0,r)] i) = false;rw [vH]; split
   ·exact gY
   ·rfl
  refine ⟨fun k xs e => ?_,dY h0⟩;have h1 : bI (get [(0,r)] i) = false := h0;rw [e] at h1; cases h1
 have box : ∀ b j,aC ⟨[(0,r)],ft oq s.H⟩ (.c b j) = aC s (.c b j) := fun b j => by
  rw [<- iz Sw s (.c b j)];exact R3 rfl b j
 have own : ∀ {p},(aC ⟨[(0,r)],ft oq s.H⟩ p).isSome -> aC ⟨[(0,r)],ft oq s.H⟩ p = aC s p /\ ∃ b j,p = .c b j := by
  intro p hp;cases p with
  | s i => rw [(slot i).2.1] at hp; cases hp
  | sc i j => rw [(slot i).2.2 j] at hp; cases hp
  | c b j => exact ⟨box b j,b,j,rfl⟩
 have hlen : (ft oq s.H).length = s.H.length := fY _ _;have back : ∀ b,(aH (ft oq s.H) b).isSome -> (aH s.H b).isSome := fun b hb => by rw [fv] at hb; simpa using hb
 have hl : ∀ k p a l,(cr (aC s) s.H.length (.dp k p a l) -> cr (aC ⟨[(0,r)],ft oq s.H⟩) s.H.length (oq (.dp k p a l)) /\ Le (ct N (oq (.dp k p a l))) (ct N (.dp k p a l))) /\ (cr (aC s) s.H.length (.eK k p a l) -> cr (aC ⟨[(0,r)],ft oq s.H⟩) s.H.length (oq (.eK k p a l)) /\ Le (ct N (oq (.eK k p a l))) (ct N (.eK k p a l))) := by
  intro k p a l;cases p with
  | s i => exact ⟨fun _ => ⟨trivial,Le.any _⟩,fun _ => ⟨trivial,Le.any _⟩⟩
  | sc i j => exact ⟨fun _ => ⟨trivial,Le.any _⟩,fun _ => ⟨trivial,Le.any _⟩⟩
  | c b j =>
    refine ⟨fun h => ⟨?_,Le.refl _⟩,fun h => ⟨?_,Le.refl _⟩⟩
    ·simp only [oq,cr] at h ⊢; rw [box]; exact h
    ·simp only [oq,cr] at h ⊢; rw [box]; exact h
 refine ⟨fun i => ?_,fun i => ?_,h.heap,fun p k xs e => ?_,fun b cs e => ?_,fun p q n e1 e2 e3 e4 => ?_,fun b p e1 e2 e3 => ?_,fun b d e1 e2 e3 => h.bi b d (back b e1) (back d e2) e3⟩
 ·show bN _ _ (jS N i (get [(0,r)] i)) (if i = 0 then t i0 else undef);rw [vH];by_cases e : i = 0
  ·subst e;simp only [if_true];have := h.env i0;rw [hr,vt N i0 gY] at this;rw [vt N 0 gY];exact this
  ·rw [if_neg e,if_neg e]; exact .any _ _
 ·show cr _ _ (get [(0,r)] i);rw [vH,hlen];split
  ·have := h.GO i0;rw [hr] at this;exact JB (aS _) r hp this
  ·trivial
 ·have := own (p := p) (by rw [e]; rfl);rw [this.1] at e;exact h.own p k xs e
 ·have hb : aH (ft oq s.H) b = some cs := e;rw [fv] at hb;cases hc : aH s.H b with
  | none => rw [hc] at hb; cases hb
  | some ds =>
    rw [hc] at hb;simp at hb;subst hb;obtain ⟨as,g1,g2,g3⟩ := h.box b ds hc;refine ⟨as,g1,by rw [bZ]; exact g2,fun j d hd => ?_⟩;rw [dX] at hd;cases hj : ds[j]? with
    | none => rw [hj] at hd; cases hd
    | some d0 =>
      rw [hj] at hd;simp at hd;subst hd;obtain ⟨g4,a',g5,g6⟩ := g3 j d0 hj;obtain ⟨k1,k2⟩ := ku (N := N) (N' := N) (o := aC s) (o' := aC ⟨[(0,r)],ft oq s.H⟩) (nb := s.H.length) (g := oq) rfl Sw hl (r := .c b j) (x := d0) (fun _ _ _ => rfl) g4;refine ⟨?_,a',g5,k2.trans g6⟩;show cr _ (ft oq s.H).length _;rw [hlen]; exact k1
 ·rw [(own e1).1] at e1;rw [(own e2).1] at e2;exact h.inj p q n e1 e2 e3 e4
 ·have e2' : (aC s p).isSome := by rw [<- (own e2).1]; exact e2
  exact h.bx b p (back b e1) e2' e3
theorem VF {env : Env} {base : Nat} : ∀ (n : Nat) (H : Heap),base <= H.length -> base <= (trim base env n H).length := by
 intro n
 induction n with
 | zero => intro H h; exact h
 | succ n ih =>
   intro H h;simp only [trim];split
   ·exact ih _ (by simp; omega)
   ·exact h
theorem eW.Ym {H : Heap} {r1 r2 : AV} (h : eW X φ w N ⟨[(0,r1)],H⟩ Ha t) (h1 : js r1 = true) (h2 : js r2 = true) (hk : cr (fun _ => none) H.length r2) (hr : bN (Rd X φ w) φ (ct N r2) v') : eW X φ w N ⟨[(0,r2)],H⟩ Ha (fun i => if i = 0 then v' else undef) := by
 have slot : ∀ {r : AV},js r = true -> ∀ i,bI (get (⟨[(0,r)],H⟩ : St).env i) = false := fun {r} hp i => by
  show bI (get [(0,r)] i) = false;rw [vH]; split
  ·exact zn hp
  ·rfl
 have own : ∀ p,aC ⟨[(0,r2)],H⟩ p = aC ⟨[(0,r1)],H⟩ p := by
  intro p;cases p with
  | s i => rw [(dY (slot h2 i)).1,(dY (slot h1 i)).1]
  | sc i j => rw [(dY (slot h2 i)).2 j,(dY (slot h1 i)).2 j]
  | c b j => exact R3 rfl b j
 refine ⟨fun i => ?_,fun i => ?_,h.heap,fun p k xs e => ?_,fun b cs e => ?_,fun p q n e1 e2 => ?_,fun b p e1 e2 => ?_,h.bi⟩
 ·show bN _ _ (jS N i (get [(0,r2)] i)) (if i = 0 then v' else undef);rw [vH];by_cases e : i = 0
  ·rw [if_pos e,if_pos e,vt N i (zn h2)]; exact hr
  ·rw [if_neg e,if_neg e]; exact .any _ _
 ·show cr _ _ (get [(0,r2)] i);rw [vH];split
  ·exact JB (aS _) r2 h2 hk
  ·trivial
 ·rw [own] at e; exact h.own p k xs e
 ·obtain ⟨as,g1,g2,g3⟩ := h.box b cs e;refine ⟨as,g1,g2,fun j c hc => ⟨kN (fun p _ => own p) (aS _) c (g3 j c hc).1,(g3 j c hc).2⟩⟩
 ·rw [own] at e1 e2; exact h.inj p q n e1 e2
 ·rw [own] at e2; exact h.bx b p e1 e2
theorem aaK (h : eW X φ w N s Ha (tm a)) (hb : (∀ b,b < base -> N.β b = B b) /\ base <= s.H.length) (hv : bN (Rd X φ w) φ (ct N v) v') (hk : cr (aC s) s.H.length v) {r : AV} {H' : Heap} (hf : finX base s v = some (r,H')) :
  ∃ φ',SB X φ' w B base ⟨[(0,r)],H'⟩ (fun i => if i = 0 then v' else undef) /\ fB φ w φ' w := by unfold finX at hf;cases hf
theorem aaI (h : eW X φ w N s Ha (tm a)) (hb : (∀ b,b < base -> N.β b = B b) /\ base <= s.H.length) (hv : bN (Rd X φ w) φ (ct N v) v') (hk : cr (aC s) s.H.length v) (gY : bI v = false) {r : AV} {H' : Heap} (hf : mS base s v = some (r,H')) :
  ∃ φ',SB X φ' w B base ⟨[(0,r)],H'⟩ (fun i => if i = 0 then v' else undef) /\ fB φ w φ' w := by
 unfold mS at hf;split at hf
 case h_2 => cases hf
 rename_i Np;simp only at hf;split at hf
 case isFalse => cases hf
 rename_i hp;simp only [aj,aF] at hf;obtain ⟨rfl,rfl⟩ := hf;have Bd := dV.quiet (t := tm a) h hb hk (mR gY) (by rw [kH N gY]; exact hv);obtain ⟨ka,⟨N2,Ha2,OK,s4⟩,a2⟩ := SB.dB (aL v) (Bd.put ff Np);have h3 := OK.leave (i0 := ff) rfl hp;simp only [if_true] at h3;refine ⟨ka,⟨N2,Ha2,?_,s4.1,?_⟩,a2⟩
 ·exact eW.trim (base0 := base) _ h3
 ·exact VF _ _ (by rw [fY]; exact s4.2)
theorem shOK (cO : fk P c) (uT : vl P c) {n : Nat} (hs : N9 P c n) : ShOK P c n := by
 intro f md q hf hm args H r H' h jN X φ w B vargs hl IB hg;unfold kX at h;split at h
 ·rename_i x CA;unfold JD at CA;split at CA
  case h_2 => cases CA
  rename_i g Kq;rw [h] at CA;replace h := CA;exact uT f g md q Kq hf args H r H' (.inl hm) h (fun _ => jN) X φ w B vargs hl IB hg
 ·rw [hf] at h;simp only at h;split at h
  case isFalse => cases h
  rename_i hle;obtain ⟨fn,h1,h2⟩ := cO.fn f md q hf;simp only [cj,ab,decide_eq_true_eq] at h2;obtain ⟨⟨⟨⟨hn,aeP⟩,_⟩,hres⟩,rS⟩ := h2;split at rS
  case h_2 => cases rS
  rename_i code hb;have zN : (vargs ++ oP (fn.ntmps - vargs.size) undef).size = q.n := by simp; omega
  have htm : tm { tmps := vargs ++ oP (fn.ntmps - vargs.size) undef,defers := [] } = fun i => vargs.getD i undef := by
   funext i;simp only [tm,aY];by_cases hi : i < vargs.size
   ·rw [Array.getElem?_append_left hi]
   ·rw [Array.getElem?_append_right (by omega),Array.getElem?_replicate];rw [Array.getElem?_eq_none (by omega)];split <;> rfl
  have hS : Ah X φ w B H.length ⟨dH 0 args,H⟩ { tmps := vargs ++ oP (fn.ntmps - vargs.size) undef,defers := [] } q.n := ⟨by rw [htm]; exact IB,rfl,zN⟩
  have fin : ∀ {e : Ex} {s : St} {vs : List AV},cq c n H.length q.body ⟨dH 0 args,H⟩ = some (e,s) -> (e = .ret \/ e = .normal) -> nZ c s q.res = some vs -> aK md H.length s (m7 vs) = some (r,H') -> Calls P f vargs w (Kj X φ w B H.length r H') := by
   intro e s vs he hre Ko PI;refine calls_of_wp h1 hb (hs q.n H.length code q.body _ s e (by omega) rS he X φ w B _ hS hg _ fun a' w' φ' hS' s5 => ?_);obtain ⟨N,Ha,vC,hbB⟩ := hS'.sb;obtain ⟨TG,x1,x2,x3,x4⟩ := VE vC (hg.m6 s5) Ko;obtain ⟨v,k1,k2⟩ := BF (P := P) (s := ⟨x8 N s.env,Ha⟩) (ts := a'.tmps) (fun i => by rw [kT]; exact vC.env i) vC.heap hres x1;unfold aK at PI;rw [hm,if_pos rfl] at PI
   have aeR : ∃ ka,SB X ka w' B H.length ⟨[(0,r)],H'⟩ (fun i => if i = 0 then v else undef) /\ fB φ' w' ka w' := by
    split at PI
    ·exact aaK vC hbB (x2 _ _ _ k2) x3 PI
    ·exact aaI vC hbB (x2 _ _ _ k2) x3 x4 PI
   obtain ⟨ka,s2,a2⟩ := aeR;have : bodyPost P fn (Kj X φ w B H.length r H') .ret a' w' := ⟨hS'.defers,v,k1,v,ka,rfl,s2,s5.trans a2⟩;rcases hre with rfl | rfl
   ·exact this
   ·exact this
  split at h
  ·rename_i s he;split at h
   ·rename_i vs Ko;exact fin he (.inl rfl) Ko h
   ·cases h
  ·rename_i s he;split at h
   ·rename_i vs Ko;exact fin he (.inr rfl) Ko h
   ·cases h
  ·cases h
end
end Go.Bm

/- A state whose older heap holds no more than what is referred to; calls of functions that share boxes. -/
namespace Go.Bm
open Go.Am
mutual
def iE (G : Nat -> Prop) : AV -> Prop
 | .ptr b _ => G b
 | .sl _ b _ _ => G b
 | .agg cs => mX G cs
 | .dW cs => mX G cs
 | .func _ a b => mX G a /\ mX G b
 | _ => True
def mX (G : Nat -> Prop) : List AV -> Prop
 | [] => True
 | x :: r => iE G x /\ mX G r
end
theorem nj {G : Nat -> Prop} : ∀ {cs : List AV},mX G cs ↔ ∀ (i : Nat) (c : AV),cs[i]? = some c -> iE G c
 | [] => by simp [mX]
 | x :: r => by
   simp only [mX,nj (cs := r)];constructor
   ·rintro ⟨h1,h2⟩ i c hc;cases i with
    | zero => simp at hc; exact hc ▸ h1
    | succ i => exact h2 i c (by simpa using hc)
   ·intro h;exact ⟨h 0 x rfl,fun i c hc => h (i + 1) c (by simpa using hc)⟩
theorem bN.refs {R R' : Addr -> Value -> Prop} (hR : ∀ a u,R a u -> R' a u) {G : Nat -> Prop} {φ : de} {x : AV} {v : Value} (h : bN R φ x v) : ∀ {φ' : de},iE G x -> φ.length <= φ'.length -> (∀ b,G b -> ∀ p,φ'[b]? = some (some p) -> φ[b]? = some (some p)) -> bN R' φ' x v := by
 induction h with
 | any => intro φ' _ _ _; exact .any _ _
 | undef => intro φ' _ _ _; exact .undef _
 | fi => intro φ' _ _ _; exact .fi _
 | eV => intro φ' _ _ _; exact .eV _
 | dc => intro φ' _ _ _; exact .dc _
 | int => intro φ' _ _ _; exact .int _ _ _
 | bool => intro φ' _ _ _; exact .bool _ _
 | str => intro φ' _ _ _; exact .str _ _
 | agg φ cs vs hl h ih => intro φ' hx hp hb; simp only [iE] at hx; exact .agg _ _ _ hl fun i c v h1 h2 => ih i c v h1 h2 (nj.1 hx i c h1) hp hb
 | dW φ cs vs hl h ih => intro φ' hx hp hb; simp only [iE] at hx; exact .dW _ _ _ hl fun i c v h1 h2 => ih i c v h1 h2 (nj.1 hx i c h1) hp hb
 | func φ f as va bs vb B6 B5 ha hb XF UA => intro φ' hx hp GY; simp only [iE] at hx; exact .func _ _ _ _ _ _ B6 B5 (fun i c v h1 h2 => XF i c v h1 h2 (nj.1 hx.1 i c h1) hp GY) (fun i c v h1 h2 => UA i c v h1 h2 (nj.1 hx.2 i c h1) hp GY)
 | tS φ k xs a n cap u hn iZ hk hu h ih => intro φ' _ _ _; exact .tS _ _ _ _ _ _ u hn iZ hk (fun i j x c h1 h2 => hR _ _ (hu i j x c h1 h2)) (fun i j x c h1 h2 => (h i j x c h1 h2).mono hR (.refl _))
 | jM => intro φ' _ _ _; exact .jM _ _
 | cX φ cs a u hu h ih => intro φ' _ _ _; exact .cX _ _ _ u (fun j c h1 => hR _ _ (hu j c h1)) (fun j c h1 => (h j c h1).mono hR (.refl _))
 | ptr φ b off a hb h => intro φ' hx hp gr; exact .ptr _ _ _ _ (by omega) fun g sz e => h g sz (gr b hx _ e)
 | sl φ k b off len a cap hb hc h => intro φ' hx hp gr; exact .sl _ _ _ _ _ _ _ (by omega) hc fun g sz e => h g sz (gr b hx _ e)
mutual
theorem Jo {G : Nat -> Prop} {N : Names} {o : Rt -> Option (Nat × List AV)} {nb : Nat} (eX : ∀ b,b < nb -> G (N.β b)) (k9 : ∀ p,(o p).isSome -> ∀ n,N.ν p = some n -> G n) : ∀ x,cr o nb x -> iE G (ct N x)
 | .dp k p off len,h => by
   simp only [cr] at h; obtain ⟨xs,e,_⟩ := h;simp only [ct];cases hn : N.ν p with
   | none => exact trivial
   | some n => exact k9 p (by rw [e]; rfl) n hn
 | .eK k p i off,h => by
   simp only [cr] at h; obtain ⟨xs,e,_⟩ := h;simp only [ct];cases hn : N.ν p with
   | none => exact trivial
   | some n => exact k9 p (by rw [e]; rfl) n hn
 | .ptr b off,h => by simp only [cr] at h; simp only [ct,iE]; exact eX b h
 | .agg cs,h => by simp only [cr] at h; simp only [ct,iE]; exact um eX k9 cs h
 | .dW cs,h => by simp only [cr] at h; simp only [ct,iE]; exact um eX k9 cs h
 | .func f a b,h => by simp only [cr] at h; simp only [ct,iE]; exact ⟨um eX k9 a h.1,um eX k9 b h.2⟩
 | .any,_ => trivial | .undef,_ => trivial | .fi,_ => trivial | .eV,_ => trivial | .dc,_ => trivial
 | .int _ _,_ => trivial | .bool _,_ => trivial | .str _,_ => trivial | .list _ _,_ => trivial | .cX _,_ => trivial | .own _ _,_ => trivial
 | .sl _ b _ _,h => by simp only [cr] at h; simp only [ct,iE]; exact eX b h
theorem um {G : Nat -> Prop} {N : Names} {o : Rt -> Option (Nat × List AV)} {nb : Nat} (eX : ∀ b,b < nb -> G (N.β b)) (k9 : ∀ p,(o p).isSome -> ∀ n,N.ν p = some n -> G n) : ∀ xs,jK o nb xs -> mX G (kq N xs)
 | [],_ => trivial
 | x :: r,h => ⟨Jo eX k9 x h.1,um eX k9 r h.2⟩
end
mutual
theorem QG {G : Nat -> Prop} : ∀ x,pl x = true -> iE G x
 | .agg cs,h => by simp only [pl] at h; simp only [iE]; exact uq cs h
 | .dW cs,h => by simp only [pl] at h; simp only [iE]; exact uq cs h
 | .func f a b,h => by simp only [pl,ab] at h; simp only [iE]; exact ⟨uq a h.1,uq b h.2⟩
 | .ptr _ _,h => by simp [pl] at h
 | .sl _ _ _ _,h => by simp [pl] at h
 | .dp _ _ _ _,_ => trivial | .eK _ _ _ _,_ => trivial
 | .any,_ => trivial | .undef,_ => trivial | .fi,_ => trivial | .eV,_ => trivial | .dc,_ => trivial
 | .int _ _,_ => trivial | .bool _,_ => trivial | .str _,_ => trivial | .list _ _,_ => trivial | .cX _,_ => trivial | .own _ _,_ => trivial
theorem uq {G : Nat -> Prop} : ∀ xs,j5 xs = true -> mX G xs
 | [],_ => trivial
 | x :: r,h => by simp only [j5,ab] at h; exact ⟨QG x h.1,uq r h.2⟩
end
theorem Wc {G : Nat -> Prop} {N : Names} {o : Rt -> Option (Nat × List AV)} {nb : Nat} (eX : ∀ b,b < nb -> G (N.β b)) (k9 : ∀ p,(o p).isSome -> ∀ n,N.ν p = some n -> G n) {r : Rt} {x : AV} (hr : ∀ k xs,x = .own k xs -> (o r).isSome) (h : cr o nb x) : iE G (je N r x) := by
 cases x <;> simp only [je] <;> first | exact Jo eX k9 _ h | skip
 rename_i k xs;simp only [rK];cases hn : N.ν r with
 | none => exact trivial
 | some n => exact k9 r (hr k xs rfl) n hn
mutual
theorem CY {o o' : Rt -> Option (Nat × List AV)} {nb Ms : Nat} (hn : nb <= Ms) : ∀ x,(∀ p ∈ aL x,o' p = o p) -> cr o nb x -> cr o' Ms x
 | .dp k p off len,ho,h => by simp only [cr] at h ⊢; obtain ⟨xs,e,h2⟩ := h; exact ⟨xs,by rw [ho p (by simp [aL])]; exact e,h2⟩
 | .eK k p i off,ho,h => by simp only [cr] at h ⊢; obtain ⟨xs,e,h2⟩ := h; exact ⟨xs,by rw [ho p (by simp [aL])]; exact e,h2⟩
 | .ptr b off,_,h => by simp only [cr] at h ⊢; omega
 | .agg cs,ho,h => by simp only [cr] at h ⊢; exact zx hn cs (by simpa only [aL] using ho) h
 | .dW cs,ho,h => by simp only [cr] at h ⊢; exact zx hn cs (by simpa only [aL] using ho) h
 | .func f a b,ho,h => by
   simp only [aL,aD] at ho;simp only [cr] at h ⊢; exact ⟨zx hn a (fun p hp => ho p (.inl hp)) h.1,zx hn b (fun p hp => ho p (.inr hp)) h.2⟩
 | .any,_,_ => trivial | .undef,_,_ => trivial | .fi,_,_ => trivial | .eV,_,_ => trivial | .dc,_,_ => trivial
 | .int _ _,_,_ => trivial | .bool _,_,_ => trivial | .str _,_,_ => trivial | .list _ _,_,_ => trivial | .cX _,_,_ => trivial | .own _ _,_,_ => trivial
 | .sl _ b _ _,_,h => by simp only [cr] at h ⊢; omega
theorem zx {o o' : Rt -> Option (Nat × List AV)} {nb Ms : Nat} (hn : nb <= Ms) : ∀ xs,(∀ p ∈ cQ xs,o' p = o p) -> jK o nb xs -> jK o' Ms xs
 | [],_,_ => trivial
 | x :: r,ho,h => by
   simp only [cQ,aD] at ho;exact ⟨CY hn x (fun p hp => ho p (.inl hp)) h.1,zx hn r (fun p hp => ho p (.inr hp)) h.2⟩
end
theorem Af : ∀ {H : Heap},gj H = true -> (∀ b,b < H.length -> (aH H b).isSome) /\ ∀ b cs,aH H b = some cs -> ∀ p ∈ cQ cs,cz p = false
 | [],_ => ⟨fun b hb => by simp at hb,fun b cs h => by simp [aH] at h⟩
 | none :: r,h => by simp [gj] at h
 | some ds :: r,h => by
   simp only [gj,ab,bt] at h;obtain ⟨h1,h2⟩ := Af h.2;refine ⟨fun b hb => ?_,fun b cs hb => ?_⟩
   ·cases b with
    | zero => simp [aH]
    | succ b => have := h1 b (by simpa using hb); simpa [aH] using this
   ·cases b with
    | zero =>
      simp [aH] at hb;subst hb;intro p hp;exact jz h.1 p hp
    | succ b => exact h2 b cs (by simpa [aH] using hb)
section
variable {P : Program} {X : Nat -> Prop} {φ nG φ' : de} {w w1 w' : World} {N N1 N' : Names} {s s' s1 : St} {Ha : Heap} {B : Nat -> Nat} {base : Nat} {v va : AV} {v' : Value} {c : dN} {a : Act} {call : Nat -> List AV -> Heap -> Option (AV × Heap)} {t : Nat -> Value}
structure Norm (X : Nat -> Prop) (φ : de) (w : World) (N : Names) (s : St) (t : Nat -> Value) (ka : de) (H2 : Heap) : Prop where
 vC : eW (fun g => X g \/ (bK φ g /\ ¬ bK ka g)) ka w N s H2 t
 m6 : fB φ w ka w
 good : ∀ n,(aH H2 n).isSome -> (∃ b,(aH s.H b).isSome /\ N.β b = n) \/ ∃ p,(aC s p).isSome /\ N.ν p = some n
 refs : ∀ n cs,aH H2 n = some cs -> ∀ c ∈ cs,iE (fun m => (aH H2 m).isSome) c
 sub : ∀ (n : Nat) (p : Nat × Nat),ka[n]? = some (some p) -> φ[n]? = some (some p)
 live : ∀ (n : Nat) (p : Nat × Nat),ka[n]? = some (some p) -> (aH H2 n).isSome
 len : ka.length = φ.length
theorem eW.norm (h : eW X φ w N s Ha t) (jN : ∀ b,b < s.H.length -> (aH s.H b).isSome) : ∃ ka H2,Norm X φ w N s t ka H2 := by
 have hP : ∀ n,∃ B : Ql,(∀ b cs,aH s.H b = some cs -> N.β b = n -> B = some (OE N (.c b) 0 cs)) /\ (∀ p k xs,aC s p = some (k,xs) -> N.ν p = some n -> B = some (aE xs)) /\ (B.isSome -> (∃ b,(aH s.H b).isSome /\ N.β b = n) \/ ∃ p,(aC s p).isSome /\ N.ν p = some n) := by
  intro n;by_cases h1 : ∃ b cs,aH s.H b = some cs /\ N.β b = n
  ·obtain ⟨b,cs,hb,hn⟩ := h1;refine ⟨some (OE N (.c b) 0 cs),fun b' cs' gr Ol => ?_,fun p k xs hp Ol => ?_,fun _ => .inl ⟨b,by rw [hb]; rfl,hn⟩⟩
   ·have e := h.bi b b' (by rw [hb]; rfl) (by rw [gr]; rfl) (by rw [hn,Ol]);subst e;rw [hb] at gr; cases gr; rfl
   ·exact absurd (by rw [Ol,hn]) (h.bx b p (by rw [hb]; rfl) (by rw [hp]; rfl))
  ·by_cases h2 : ∃ p k xs,aC s p = some (k,xs) /\ N.ν p = some n
   ·obtain ⟨p,k,xs,hp,hn⟩ := h2;refine ⟨some (aE xs),fun b cs hb Ol => absurd ⟨b,cs,hb,Ol⟩ h1,fun p' k' xs' SO Ol => ?_,fun _ => .inr ⟨p,by rw [hp]; rfl,hn⟩⟩;have e := h.inj p p' n (by rw [hp]; rfl) (by rw [SO]; rfl) hn Ol;subst e;rw [hp] at SO; cases SO; rfl
   ·exact ⟨none,fun b cs hb hn => absurd ⟨b,cs,hb,hn⟩ h1,fun p k xs hp hn => absurd ⟨p,k,xs,hp,hn⟩ h2,fun e => by cases e⟩
 obtain ⟨G,hG⟩ := Classical.axiomOfChoice hP;obtain ⟨H2,Cz,hH2⟩ := uW Ha.length G;obtain ⟨ka,hlφ,hφ2⟩ : ∃ ka : de,ka.length = φ.length /\ ∀ m,m < φ.length -> ka[m]? = some (if (G m).isSome then (φ[m]?).join else none) := ⟨(pN φ.length).map fun m => if (G m).isSome then (φ[m]?).join else none,by simp,fun m hm => by simp [hm]⟩;have hlen := h.heap.len
 have YR : ∀ n,n < Ha.length -> aH H2 n = G n := fun n hn => by
  unfold aH; rw [hH2 n hn]; cases G n <;> rfl
 have sub : ∀ (n : Nat) (p : Nat × Nat),ka[n]? = some (some p) -> φ[n]? = some (some p) /\ (G n).isSome := by
  intro n p hn;have bA := aB hn;rw [hlφ] at bA;rw [hφ2 n bA] at hn;split at hn
  ·rename_i hg;simp at hn;refine ⟨?_,hg⟩;cases e : φ[n]? with
   | none => rw [e] at hn; cases hn
   | some q => rw [e] at hn; simp at hn; rw [hn]
  ·simp at hn
 have WK : ∀ g,bK ka g -> bK φ g := fun g ⟨b,sz,e⟩ => ⟨b,sz,(sub b _ e).1⟩;have m6 : fB φ w ka w := ⟨rfl,rfl,rfl,aS _,aS _,fun g _ gY => ⟨rfl,fun ho => gY (WK g ho)⟩,⟨by omega,fun b p _ hp => (sub b p hp).1⟩⟩;have hR : ∀ a u,Rd X φ w a u -> Rd (fun g => X g \/ (bK φ g /\ ¬ bK ka g)) ka w a u := fun a u ⟨h1,h2,h3⟩ => ⟨fun hx => hx.elim h1 fun hh => h2 hh.1,fun ho => h2 (WK _ ho),h3⟩;have mono : ∀ {x : AV} {u : Value},bN (Rd X φ w) φ x u -> bN (Rd (fun g => X g \/ (bK φ g /\ ¬ bK ka g)) ka w) ka x u := fun r => r.mono hR m6.RX
 have boxG : ∀ b cs,aH s.H b = some cs -> aH H2 (N.β b) = some (OE N (.c b) 0 cs) := fun b cs hb => by
  rw [YR _ (h.qB (by rw [hb]; rfl))];exact (hG (N.β b)).1 b cs hb rfl
 have ownG : ∀ p k xs n,aC s p = some (k,xs) -> N.ν p = some n -> aH H2 n = some (aE xs) := fun p k xs n hp hn => by
  rw [YR _ (h.gU (by rw [hp]; rfl) hn)];exact (hG n).2.1 p k xs hp hn
 have adJ : ∀ n,(G n).isSome -> n < Ha.length -> ∀ e,φ[n]? = some e -> ka[n]? = some e := fun n hg hn e he => by
  rw [hφ2 n (by omega),if_pos hg,he]; rfl
 have X3 : b6 (fun g => X g \/ (bK φ g /\ ¬ bK ka g)) ka w H2 := by
  refine ⟨by omega,fun g hg => hg.elim (h.heap.GL g) (fun ho => (h.heap.gU ho.1).1),fun n cs hn => ?_,fun n hn => ?_,fun n n' g sz m9 e1 e2 => h.heap.inj n n' g sz m9 (sub _ _ e1).1 (sub _ _ e2).1⟩
  ·have bA : n < Ha.length := by have := aB hn; omega
   rw [hH2 n bA] at hn;simp only [aj] at hn;have hg : (G n).isSome := by rw [hn]; rfl
   have fin : ∀ {as : List AV},aH Ha n = some as -> (∀ (i : Nat) (d : AV),cs[i]? = some d -> ∃ a,as[i]? = some a /\ Le d a) -> cs.length <= as.length -> ∃ (g sz : Nat) (arr : Array Value) (e : TypeId),ka[n]? = some (some (g,sz)) /\ w.heap[g]? = some (.cells arr e (0,0)) /\ arr.size = sz /\ cs.length <= sz /\ ¬ (X g \/ (bK φ g /\ ¬ bK ka g)) /\ ∀ (i : Nat) (d : AV),cs[i]? = some d -> ∃ u,arr[i]? = some u /\ bN (Rd (fun g => X g \/ (bK φ g /\ ¬ bK ka g)) ka w) ka d u := by
    intro as has dv hle;obtain ⟨g,sz,arr,e,g1,g2,g3,g4,g5,g6⟩ := h.heap.at has;have h2 := adJ n hg bA _ g1;refine ⟨g,sz,arr,e,h2,g2,g3,by omega,fun hx => hx.elim g5 fun hh => hh.2 ⟨n,sz,h2⟩,fun i d hd => ?_⟩;obtain ⟨a,ha,hle2⟩ := dv i d hd;obtain ⟨u,u1,u2⟩ := g6 i a ha;exact ⟨u,u1,mono (hle2 _ _ _ u2)⟩
   rcases (hG n).2.2 hg with ⟨b,hb,hbn⟩ | ⟨p,hp,hpn⟩
   ·obtain ⟨ds,mY⟩ := aW.1 hb;have := (hG n).1 b ds mY hbn;rw [hn] at this;simp at this;subst this;obtain ⟨as,a1,a2,a3⟩ := h.box b ds mY;rw [hbn] at a1;refine fin a1 (fun i d hd => ?_) (by rw [gR]; omega);rw [fH] at hd;cases hi : ds[i]? with
    | none => rw [hi] at hd; cases hd
    | some d0 =>
      rw [hi] at hd;simp at hd;subst hd;obtain ⟨_,a',b1,b2⟩ := a3 i d0 hi;exact ⟨a',b1,b2⟩
   ·obtain ⟨⟨k,xs⟩,hpx⟩ := aW.1 hp;have := (hG n).2.1 p k xs hpx hpn;rw [hn] at this;simp at this;subst this;have ho := h.own p k xs hpx;rw [hpn] at ho;obtain ⟨S9,c1,c2,c3,c4⟩ := ho;refine fin c1 (fun i d hd => ?_) (by rw [jx c3]; exact c2);obtain ⟨_,a',b1,_,b2⟩ := c4 i d hd;exact ⟨a',b1,b2⟩
  ·have bA : n < Ha.length := by have := aB hn; omega
   rw [hH2 n bA] at hn;simp only [aj] at hn;rw [hφ2 n (by omega),hn];rfl
 refine ⟨ka,H2,⟨⟨fun i => mono (h.env i),h.GO,X3,fun p k xs e => ?_,fun b cs e => ?_,h.inj,h.bx,h.bi⟩,m6,fun n hn => ?_,fun n cs hn d hd => ?_,fun n p hp => (sub n p hp).1,fun n p hp => ?_,hlφ⟩⟩
 ·have ho := h.own p k xs e;cases hn : N.ν p with
  | none => rw [hn] at ho; exact ho
  | some n =>
    rw [hn] at ho;obtain ⟨S9,c1,c2,c3,c4⟩ := ho;refine ⟨aE xs,ownG p k xs n e hn,by rw [jx c3]; exact aS _,c3,fun i d hd => ?_⟩;obtain ⟨f1,_⟩ := c4 i d hd;exact ⟨f1,d,hd,(lu f1).2,Le.refl _⟩
 ·obtain ⟨as,a1,a2,a3⟩ := h.box b cs e;refine ⟨_,boxG b cs e,gR _ _ _ _,fun j d hd => ?_⟩;obtain ⟨b1,_⟩ := a3 j d hd;exact ⟨b1,je N (.c b j) d,by rw [fH,hd]; simp,Le.refl _⟩
 ·obtain ⟨cs,dv⟩ := aW.1 hn;have bA : n < Ha.length := by have := dZ dv; omega
  exact (hG n).2.2 (by rw [<- YR n bA]; exact hn)
 ·have eX : ∀ b,b < s.H.length -> (aH H2 (N.β b)).isSome := fun b hb => by
   obtain ⟨ds,mY⟩ := aW.1 (jN b hb);rw [boxG b ds mY]; rfl
  have k9 : ∀ p,(aC s p).isSome -> ∀ n,N.ν p = some n -> (aH H2 n).isSome := fun p hp n hn => by
   obtain ⟨⟨k,xs⟩,hpx⟩ := aW.1 hp;rw [ownG p k xs n hpx hn]; rfl
  have bA : n < Ha.length := by have := dZ hn; omega
  rcases (hG n).2.2 (by rw [<- YR n bA,hn]; rfl) with ⟨b,hb,hbn⟩ | ⟨p,hp,hpn⟩
  ·obtain ⟨ds,mY⟩ := aW.1 hb;have e := boxG b ds mY;rw [hbn,hn] at e;cases e;obtain ⟨j,hj⟩ := bD hd;rw [fH] at hj;cases hi : ds[j]? with
   | none => rw [hi] at hj; cases hj
   | some d0 =>
     rw [hi] at hj;simp at hj;subst hj;obtain ⟨as,a1,a2,a3⟩ := h.box b ds mY
     exact Wc (o := aC s) (nb := s.H.length) eX k9 (r := .c b j) (fun k xs e => by
      have : aC s (.c b j) = some (k,xs) := bY.2 (by simp only [at_,mY,hi,e]);rw [this]; rfl) (a3 j d0 hi).1
  ·obtain ⟨⟨k,xs⟩,hpx⟩ := aW.1 hp;have e := ownG p k xs n hpx hpn;rw [hn] at e;cases e;have ho := h.own p k xs hpx;rw [hpn] at ho;obtain ⟨S9,c1,c2,c3,c4⟩ := ho;obtain ⟨j,hj⟩ := bD hd;exact QG d (lu (c4 j d hj).1).1
 ·have bA : n < Ha.length := by have := aB hp; omega
  rw [YR n bA];exact (sub n p hp).2
end
end Go.Bm

/- Calls of functions that share boxes. -/
namespace Go.Bm
open Go.Am
section
variable {P : Program} {X : Nat -> Prop} {φ nG φ' : de} {w w1 w' : World} {N N1 N' : Names} {s s' s1 : St} {Ha : Heap} {B : Nat -> Nat} {base : Nat} {v va : AV} {v' : Value} {c : dN} {o : Oper} {a : Act} {kd : Kd} {call : Nat -> List AV -> Heap -> Option (AV × Heap)} {t : Nat -> Value}
theorem ux : ∀ {l : List AV},fx l = true -> ∀ (i : Nat) (z : AV),l[i]? = some z -> js z = true
 | [],_,i,z,hz => by simp at hz
 | y :: r,h,i,z,hz => by
   simp only [fx,ab] at h;cases i with
   | zero => simp at hz; subst hz; exact h.1
   | succ i => exact ux h.2 i z (by simpa using hz)
theorem eW.enter (h : eW X φ w N s Ha t) (jN : gj s.H = true) {args : List AV} {vargs : Array Value} (hp : fx args = true) (ho : ∀ (i : Nat) (x : AV),args[i]? = some x -> cr (aC s) s.H.length x) (hr : ∀ (i : Nat) (x : AV) (v : Value),args[i]? = some x -> vargs[i]? = some v -> bN (Rd X φ w) φ (ct N x) v) (hl : args.length = vargs.size) :
  eW X φ w N ⟨dH 0 args,s.H⟩ Ha (fun i => vargs.getD i undef) := by
 have Fv : ∀ i,get (dH 0 args) i = args[i]?.getD .any := fun i => by rw [rT]; simp
 have gY : ∀ i,bI (get (dH 0 args) i) = false := fun i => by
  rw [Fv];cases e : args[i]? with
  | none => rfl
  | some x => exact zn (ux hp i x e)
 have own : ∀ {p},(aC ⟨dH 0 args,s.H⟩ p).isSome -> ∃ b j,p = .c b j := by
  intro p SO;cases p with
  | s i => rw [(dY (s := ⟨dH 0 args,s.H⟩) (gY i)).1] at SO; cases SO
  | sc i j => rw [(dY (s := ⟨dH 0 args,s.H⟩) (gY i)).2 j] at SO; cases SO
  | c b j => exact ⟨b,j,rfl⟩
 have box : ∀ b j,aC ⟨dH 0 args,s.H⟩ (.c b j) = aC s (.c b j) := fun b j => rfl;obtain ⟨_,hbor⟩ := Af jN;have XB : ∀ {p : Rt},cz p = false -> ∃ b j,p = .c b j := fun {p} hp => by cases p <;> simp [cz] at hp; exact ⟨_,_,rfl⟩
 refine ⟨fun i => ?_,fun i => ?_,h.heap,fun p k xs e => ?_,fun b cs e => ?_,fun p q n e1 e2 e3 e4 => ?_,fun b p e1 e2 e3 => ?_,h.bi⟩
 ·show bN _ _ (jS N i (get (dH 0 args) i)) _;rw [vt N i (gY i),Fv];cases e : args[i]? with
  | none => exact .any _ _
  | some x =>
    obtain ⟨v,hv⟩ := cP (l := vargs) (i := i) (by have := aB e; omega);simp only [Option.getD_some];rw [aY,hv];exact hr i x v e hv
 ·show cr _ _ (get (dH 0 args) i);rw [Fv];cases e : args[i]? with
  | none => trivial
  | some x => exact JB (aS _) x (ux hp i x e) (ho i x e)
 ·obtain ⟨b,j,rfl⟩ := own (p := p) (by rw [e]; rfl);exact h.own _ k xs e
 ·obtain ⟨as,g1,g2,g3⟩ := h.box b cs e;refine ⟨as,g1,g2,fun j d hd => ?_⟩;obtain ⟨g4,g5⟩ := g3 j d hd;refine ⟨CY (aS _) d (fun p SO => ?_) g4,g5⟩;obtain ⟨b',j',rfl⟩ := XB (hbor b cs e p (jY hd SO));rfl
 ·obtain ⟨b,j,rfl⟩ := own e1;obtain ⟨b',j',rfl⟩ := own e2;exact h.inj _ _ n e1 e2 e3 e4
 ·obtain ⟨b',j,rfl⟩ := own e2;exact h.bx b (.c b' j) e1 e2 e3
theorem shared (h : eW X φ w N s Ha t) (hb : (∀ b,b < base -> N.β b = B b) /\ base <= s.H.length) {Ym : Env} {t0 : Nat -> Value} {ka : de} {H2 : Heap} (hn : Norm X φ w N ⟨Ym,s.H⟩ t0 ka H2) (h0 : ∀ i,bI (get Ym i) = false)
  {r : AV} {H' H1 : Heap} {t1 : Nat -> Value} (gE : eW (fun g => X g \/ (bK φ g /\ ¬ bK ka g)) nG w1 N1 ⟨[(0,r)],H'⟩ H1 t1) (ad : fB ka w nG w1) (eX : ∀ b,b < s.H.length -> N1.β b = N.β b) (hle : s.H.length <= H'.length) (ID : gj H' = true) (Zm : aL r = []) (gY : bI r = false) :
  ∃ φ',dV X φ' w1 B base ⟨jC jP s.env,H'⟩ r t (t1 0) /\ fB φ w φ' w1 := by
 obtain ⟨SQ,hbor⟩ := Af ID;have XB : ∀ {p : Rt},cz p = false -> ∃ b j,p = .c b j := fun {p} hp => by cases p <;> simp [cz] at hp; exact ⟨_,_,rfl⟩
 obtain ⟨G4,H3,h3⟩ := gE.norm SQ;have l3 := h3.vC.heap.len;have l1 := h.heap.len;have l2 := hn.len;have l2h := hn.vC.heap.len;have pl : vk ka G4 := ad.RX.trans h3.m6.RX;have hlen : φ.length <= G4.length := by have := pl.len; omega
 have ad2 : fB ka w G4 w1 := ad.trans h3.m6
 -- hidden: known to the caller, not to the callee
 let pP : Nat -> Bool := fun n => decide (n < φ.length) && !(ka[n]?.join).isSome
 have hid3 : ∀ n,pP n = true -> G4[n]? = some none /\ aH H3 n = none := by
  intro n hh;simp only [pP,ab,decide_eq_true_eq,bt] at hh;obtain ⟨bA,hj⟩ := hh;obtain ⟨e,he⟩ := bc (l := G4) (i := n) (by omega)
  have h3n : G4[n]? = some none := by
   cases e with
   | none => exact he
   | some p =>
     have := pl.Ic n p (by omega) he;rw [this] at hj; simp at hj
  refine ⟨h3n,?_⟩;cases hb3 : aH H3 n with
  | none => rfl
  | some cs =>
    obtain ⟨g,sz,arr,ty,g1,_⟩ := h3.vC.heap.at hb3;rw [h3n] at g1; cases g1
 have Iq : ∀ n,(aH H3 n).isSome -> pP n = false := fun n hb3 => by
  cases hh : pP n with
  | false => rfl
  | true => rw [(hid3 n hh).2] at hb3; cases hb3
 obtain ⟨TF,hl4,hφ4⟩ : ∃ TF : de,TF.length = G4.length /\ ∀ m,m < G4.length -> TF[m]? = if pP m then φ[m]? else G4[m]? := by
  refine ⟨(pN G4.length).map fun m => if pP m then (φ[m]?).join else (G4[m]?).join,by simp,fun m hm => ?_⟩;simp only [df,List.getElem?_range hm,cJ];split
  ·rename_i hh;have bA : m < φ.length := by simp only [pP,ab,decide_eq_true_eq] at hh; exact hh.1
   rw [aI bA]; rfl
  ·rw [aI hm]; rfl
 obtain ⟨H4,hlh4,hH4⟩ := uW H3.length fun m => if pP m then (Ha[m]?).join else (H3[m]?).join
 have OA : ∀ n,pP n = true -> TF[n]? = φ[n]? := fun n hh => by
  have bA : n < φ.length := by simp only [pP,ab,decide_eq_true_eq] at hh; exact hh.1
  rw [hφ4 n (by omega),if_pos hh]
 have Kx : ∀ n,pP n = false -> TF[n]? = G4[n]? := fun n hh => by
  by_cases bA : n < G4.length
  ·rw [hφ4 n bA,hh]; rfl
  ·rw [c9 (by omega),c9 (by omega)]
 have H4h : ∀ n,pP n = true -> H4[n]? = Ha[n]? := fun n hh => by
  have bA : n < φ.length := by simp only [pP,ab,decide_eq_true_eq] at hh; exact hh.1
  rw [hH4 n (by omega),if_pos hh,aI (by omega)]; rfl
 have H4n : ∀ n,pP n = false -> H4[n]? = H3[n]? := fun n hh => by
  by_cases bA : n < H3.length
  ·rw [hH4 n bA,hh,aI bA]; rfl
  ·rw [c9 (by omega),c9 (by omega)]
 have ae2 : ∀ n,pP n = true -> aH H4 n = aH Ha n := fun n hh => by unfold aH; rw [H4h n hh]
 have acA : ∀ n,pP n = false -> aH H4 n = aH H3 n := fun n hh => by unfold aH; rw [H4n n hh]
 have own4 : ∀ {g},bK TF g -> (∃ n sz,pP n = true /\ φ[n]? = some (some (g,sz))) \/ ∃ n sz,pP n = false /\ G4[n]? = some (some (g,sz)) := by
  rintro g ⟨n,sz,e⟩;cases hh : pP n with
  | true => rw [OA n hh] at e; exact .inl ⟨n,sz,hh,e⟩
  | false => rw [Kx n hh] at e; exact .inr ⟨n,sz,hh,e⟩
 have hidX : ∀ {n g sz},pP n = true -> φ[n]? = some (some (g,sz)) -> bK φ g /\ ¬ bK ka g := by
  intro n g sz hh e;refine ⟨⟨n,sz,e⟩,fun ⟨m,m9,e'⟩ => ?_⟩;have := h.heap.inj n m g sz m9 e (hn.sub m _ e');subst this;simp only [pP,ab,decide_eq_true_eq,bt] at hh;rw [e'] at hh; simp at hh
 have sub2 : ∀ {g},bK ka g -> bK φ g := fun ⟨m,sz,e⟩ => ⟨m,sz,hn.sub m _ e⟩
 have m6 : fB φ w TF w1 := by
  refine ⟨ad2.os,ad2.tape,ad2.output,ad2.drawn,ad2.size,fun g hg gY => ?_,⟨by omega,fun n p bA hp => ?_⟩⟩
  ·obtain ⟨k1,k2⟩ := ad2.keep g hg (fun ho => gY (sub2 ho));refine ⟨k1,fun ho => ?_⟩;rcases own4 ho with ⟨n,sz,_,e⟩ | ⟨n,sz,_,e⟩
   ·exact gY ⟨n,sz,e⟩
   ·exact k2 ⟨n,sz,e⟩
  ·cases hh : pP n with
   | true => rwa [OA n hh] at hp
   | false =>
     rw [Kx n hh] at hp;exact hn.sub n p (pl.Ic n p (by omega) hp)
 -- values of the callee
 have hR : ∀ a u,Rd (fun g => (X g \/ (bK φ g /\ ¬ bK ka g)) \/ (bK nG g /\ ¬ bK G4 g)) G4 w1 a u -> Rd X TF w1 a u := fun a u ⟨p1,p2,p3⟩ => ⟨fun hx => p1 (.inl (.inl hx)),fun ho => by
  rcases own4 ho with ⟨n,sz,hh,e⟩ | ⟨n,sz,_,e⟩
  ·exact p1 (.inl (.inr (hidX hh e)))
  ·exact p2 ⟨n,sz,e⟩,p3⟩
 have tr34 : ∀ {x : AV} {u : Value},iE (fun m => (aH H3 m).isSome) x -> bN (Rd (fun g => (X g \/ (bK φ g /\ ¬ bK ka g)) \/ (bK nG g /\ ¬ bK G4 g)) G4 w1) G4 x u -> bN (Rd X TF w1) TF x u := fun hx r => bN.refs hR r hx (by omega) fun b hb4 p hp => by rwa [Kx b (Iq b hb4)] at hp
 have X3 : b6 X TF w1 H4 := by
  refine ⟨by omega,fun g hg => Nat.lt_of_lt_of_le (h.heap.GL g hg) ad2.size,fun n cs e => ?_,fun n e => ?_,fun n n' g sz m9 e1 e2 => ?_⟩
  ·cases hh : pP n with
   | true =>
     rw [H4h n hh] at e;obtain ⟨g,sz,arr,ty,g1,g2,g3,g4,g5,g6⟩ := h.heap.live n cs e;have hx := hidX hh g1;refine ⟨g,sz,arr,ty,by rw [OA n hh]; exact g1,?_,g3,g4,g5,fun i d hd => ?_⟩
     ·rw [(ad2.keep g (h.heap.gU hx.1).1 hx.2).1]; exact g2
     ·obtain ⟨u,u1,u2⟩ := g6 i d hd;exact ⟨u,u1,m6.rep u2⟩
   | false =>
     rw [H4n n hh] at e;obtain ⟨g,sz,arr,ty,g1,g2,g3,g4,g5,g6⟩ := h3.vC.heap.live n cs e;refine ⟨g,sz,arr,ty,by rw [Kx n hh]; exact g1,g2,g3,g4,fun hx => g5 (.inl (.inl hx)),fun i d hd => ?_⟩;obtain ⟨u,u1,u2⟩ := g6 i d hd;exact ⟨u,u1,tr34 (h3.refs n cs (qk.2 e) d (bf hd)) u2⟩
  ·cases hh : pP n with
   | true => rw [H4h n hh] at e; rw [OA n hh]; exact h.heap.dead n e
   | false => rw [H4n n hh] at e; rw [Kx n hh]; exact h3.vC.heap.dead n e
  ·have mix : ∀ {n n' sz m9},pP n = true -> pP n' = false -> φ[n]? = some (some (g,sz)) -> G4[n']? = some (some (g,m9)) -> False := by
    intro n n' sz m9 hh Zl e1 e2;obtain ⟨cs,dv⟩ := aW.1 (h3.live n' _ e2);obtain ⟨g',sz2,arr,ty,g1,_,_,_,g5,_⟩ := h3.vC.heap.at dv;rw [e2] at g1; cases g1;exact g5 (.inl (.inr (hidX hh e1)))
   cases hh : pP n with
   | true =>
     rw [OA n hh] at e1;cases Zl : pP n' with
     | true => rw [OA n' Zl] at e2; exact h.heap.inj n n' g sz m9 e1 e2
     | false => rw [Kx n' Zl] at e2; exact (mix hh Zl e1 e2).elim
   | false =>
     rw [Kx n hh] at e1;cases Zl : pP n' with
     | true => rw [OA n' Zl] at e2; exact (mix Zl hh e2 e1).elim
     | false => rw [Kx n' Zl] at e2; exact h3.vC.heap.inj n n' g sz m9 e1 e2
 -- names
 let Nb : Names := ⟨N1.β,N.ν⟩
 let N4 : Names := ⟨N1.β,fun p => match p with
  | .c b j => N1.ν (.c b j)
  | p => N.ν p⟩
 have WJ : ∀ i,aC ⟨jC jP s.env,H'⟩ (.s i) = aC s (.s i) := fun i => by
  rw [<- iz vM s (.s i)]; rfl
 have O7 : ∀ i j,aC ⟨jC jP s.env,H'⟩ (.sc i j) = aC s (.sc i j) := fun i j => by
  rw [<- iz vM s (.sc i j)]; rfl
 have aeA : ∀ b j,aC ⟨jC jP s.env,H'⟩ (.c b j) = aC ⟨[(0,r)],H'⟩ (.c b j) := fun b j => rfl
 have Jm : ∀ {p},(aC ⟨jC jP s.env,H'⟩ p).isSome -> ((∃ b j,p = .c b j) /\ aC ⟨jC jP s.env,H'⟩ p = aC ⟨[(0,r)],H'⟩ p /\ N4.ν p = N1.ν p) \/ ((∀ b j,p ≠ .c b j) /\ aC ⟨jC jP s.env,H'⟩ p = aC s p /\ N4.ν p = N.ν p) := by
  intro p hp;cases p with
  | s i => exact .inr ⟨(fun _ _ e => by cases e),WJ i,rfl⟩
  | sc i j => exact .inr ⟨(fun _ _ e => by cases e),O7 i j,rfl⟩
  | c b j => exact .inl ⟨⟨b,j,rfl⟩,aeA b j,rfl⟩
 -- blocks of slots are hidden
 have JX : ∀ {p n},(∀ b j,p ≠ .c b j) -> (aC s p).isSome -> N.ν p = some n -> pP n = true := by
  intro p n SM hp XU;have bA : n < Ha.length := h.gU hp XU;simp only [pP,ab,decide_eq_true_eq,bt];refine ⟨by omega,?_⟩;cases e : (ka[n]?).join with
  | none => rfl
  | some q =>
    exfalso
    have e' : ka[n]? = some (some q) := by
     cases e2 : ka[n]? with
     | none => rw [e2] at e; cases e
     | some z => rw [e2] at e; simp at e; rw [e]
    rcases hn.good n (hn.live n q e') with ⟨b,zP,s4⟩ | ⟨p',SN,XS⟩
    ·exact h.bx b p zP hp (by rw [XU,<- s4])
    ·have hc : ∃ b j,p' = .c b j := by
      cases p' with
      | s i => rw [(dY (s := ⟨Ym,s.H⟩) (h0 i)).1] at SN; cases SN
      | sc i j => rw [(dY (s := ⟨Ym,s.H⟩) (h0 i)).2 j] at SN; cases SN
      | c b j => exact ⟨b,j,rfl⟩
     obtain ⟨b,j,rfl⟩ := hc;have := h.inj p (.c b j) n hp SN XU XS;exact SM b j this
 have box3 : ∀ b,(aH H' b).isSome -> (aH H3 (N1.β b)).isSome := fun b gr => by
  obtain ⟨cs,dv⟩ := aW.1 gr;obtain ⟨as,a1,_⟩ := h3.vC.box b cs dv;rw [a1]; rfl
 have own3 : ∀ {p n},(aC ⟨[(0,r)],H'⟩ p).isSome -> N1.ν p = some n -> (aH H3 n).isSome := by
  intro p n hp XU;obtain ⟨⟨k,xs⟩,e⟩ := aW.1 hp;have := h3.vC.own p k xs e;rw [XU] at this;obtain ⟨cs,h1,_⟩ := this;rw [h1]; rfl
 have hl : ∀ k p a l,(cr (aC s) s.H.length (.dp k p a l) -> cr (aC ⟨jC jP s.env,H'⟩) s.H.length (jP (.dp k p a l)) /\ Le (ct N4 (jP (.dp k p a l))) (ct Nb (.dp k p a l))) /\ (cr (aC s) s.H.length (.eK k p a l) -> cr (aC ⟨jC jP s.env,H'⟩) s.H.length (jP (.eK k p a l)) /\ Le (ct N4 (jP (.eK k p a l))) (ct Nb (.eK k p a l))) := by
  intro k p a l;cases p with
  | s i =>
    refine ⟨fun h => ⟨?_,Le.refl _⟩,fun h => ⟨?_,Le.refl _⟩⟩
    ·simp only [jP,cr] at h ⊢; rw [WJ]; exact h
    ·simp only [jP,cr] at h ⊢; rw [WJ]; exact h
  | sc i j =>
    refine ⟨fun h => ⟨?_,Le.refl _⟩,fun h => ⟨?_,Le.refl _⟩⟩
    ·simp only [jP,cr] at h ⊢; rw [O7]; exact h
    ·simp only [jP,cr] at h ⊢; rw [O7]; exact h
  | c b j => exact ⟨fun _ => ⟨trivial,Le.any _⟩,fun _ => ⟨trivial,Le.any _⟩⟩
 have hsim : eW X TF w1 N4 ⟨jC jP s.env,H'⟩ H4 t := by
  refine ⟨fun i => ?_,fun i => ?_,X3,fun p k xs e => ?_,fun b cs e => ?_,fun p q n e1 e2 e3 e4 => ?_,fun b p e1 e2 e3 => ?_,fun b d e1 e2 e3 => h3.vC.bi b d e1 e2 e3⟩
  ·show bN _ _ (jS N4 i (get (jC jP s.env) i)) _;rw [cW];have r0 := m6.rep (h.env i);have e0 : jS N i (get s.env i) = jS Nb i (get s.env i) := Dl (N := Nb) (N' := N) (o := aC s) (nb := s.H.length) (fun b gr => (eX b gr).symm) (fun _ _ => rfl) rfl (fun _ => rfl) (h.GO i);rw [e0] at r0;refine Xq (N := Nb) (N' := N4) (x := get s.env i) (y := b8 jP (get s.env i)) (fun cs dv => ⟨cC jP cs,by rw [dv]; rfl,bZ _ _,fun j c d hc hd => ?_⟩) (fun hna => ⟨kt vM hna,?_⟩) _ _ _ r0
   ·rw [dX,hc] at hd;simp at hd;subst hd;have cO := h.GO i;rw [dv] at cO;simp only [cr] at cO;exact (ku (N := Nb) (N' := N4) (o := aC s) (o' := aC ⟨jC jP s.env,H'⟩) (nb := s.H.length) (g := jP) rfl vM hl (r := .sc i j) (fun _ _ _ => rfl) (hJ.1 cO j c hc)).2
   ·exact (ku (N := Nb) (N' := N4) (o := aC s) (o' := aC ⟨jC jP s.env,H'⟩) (nb := s.H.length) (g := jP) rfl vM hl (r := .s i) (fun _ _ _ => rfl) (h.GO i)).2
  ·show cr _ H'.length (get (jC jP s.env) i);rw [cW];exact kN (fun _ _ => rfl) hle _ (JO (N := Nb) (N' := N4) (o := aC s) (o' := aC ⟨jC jP s.env,H'⟩) (nb := s.H.length) (g := jP) rfl vM hl _ (h.GO i)).1
  ·rcases Jm (p := p) (by rw [e]; rfl) with ⟨⟨b,j,rfl⟩,e1,e2⟩ | ⟨SM,e1,e2⟩
   ·rw [e1] at e;rw [e2];exact (h3.vC.own _ k xs e).same fun n XU => acA n (Iq n (own3 (by rw [e]; rfl) XU))
   ·rw [e1] at e;rw [e2];exact (h.own p k xs e).same fun n XU => ae2 n (JX SM (by rw [e]; rfl) XU)
  ·obtain ⟨as,a1,a2,a3⟩ := h3.vC.box b cs e;refine ⟨as,by show aH H4 (N1.β b) = _; rw [acA _ (Iq _ (by rw [a1]; rfl))]; exact a1,a2,fun j d hd => ?_⟩;obtain ⟨b1,a',b2,b3⟩ := a3 j d hd;have UQ : ∀ p ∈ aL d,∃ b j,p = .c b j := fun p hp => XB (hbor b cs e p (jY hd hp));refine ⟨CY (aS _) d (fun p hp => ?_) b1,a',b2,?_⟩
   ·obtain ⟨b',j',rfl⟩ := UQ p hp; rfl
   ·have : je N4 (.c b j) d = je N1 (.c b j) d := Hb (N := N1) (N' := N4) rfl (fun _ _ _ => rfl) fun p hp => by obtain ⟨b',j',rfl⟩ := UQ p hp; rfl
    rw [this]; exact b3
  ·rcases Jm e1 with ⟨SV,o1,u1⟩ | ⟨SV,o1,u1⟩ <;> rcases Jm e2 with ⟨Kr,o2,u2⟩ | ⟨Kr,o2,u2⟩ <;> rw [o1] at e1 <;> rw [o2] at e2 <;> rw [u1] at e3 <;> rw [u2] at e4
   ·exact h3.vC.inj p q n e1 e2 e3 e4
   ·have a1 := Iq n (own3 e1 e3);have a2 := JX Kr e2 e4;rw [a1] at a2; cases a2
   ·have a1 := Iq n (own3 e2 e4);have a2 := JX SV e1 e3;rw [a1] at a2; cases a2
   ·exact h.inj p q n e1 e2 e3 e4
  ·rcases Jm e2 with ⟨Kr,o2,u2⟩ | ⟨Kr,o2,u2⟩ <;> rw [o2] at e2 <;> rw [u2] at e3
   ·exact h3.vC.bx b p e1 e2 e3
   ·have a1 := Iq _ (box3 b e1);have a2 := JX Kr e2 e3;have a3 : pP (N1.β b) = true := a2;rw [a1] at a3; cases a3
 have hr0 := h3.vC.env 0;simp only [Am.get,if_true] at hr0;rw [vt N1 0 gY] at hr0;have hok0 := h3.vC.GO 0;simp only [Am.get,if_true] at hok0;refine ⟨TF,dV.quiet hsim ⟨fun b gr => ?_,Nat.le_trans hb.2 hle⟩ (CY (aS _) r (fun p hp => by rw [Zm] at hp; simp at hp) hok0) (mR gY) ?_,m6⟩
 ·show N1.β b = B b;rw [eX b (by have := hb.2; omega)]; exact hb.1 b gr
 ·rw [kH N4 gY];have : ct N4 r = ct N1 r := Dk (N := N1) (N' := N4) rfl fun p hp => by rw [Zm] at hp; simp at hp
  rw [this];refine tr34 (Jo (o := aC ⟨[(0,r)],H'⟩) (nb := H'.length) (fun b gr => box3 b (SQ b gr)) (fun p hp n XU => own3 hp XU) r hok0) hr0
theorem VV (cO : fk P c) (dU : gO P c call) : Gz P c call := by
 intro X φ w B base s o a kd f args md q r H' hk h hg ha hf hm hp jN Zm gY ID hc;obtain ⟨N,Ha,h,hb⟩ := h;obtain ⟨vargs,nn,hA,zO⟩ := xO cO h hg hk ha hf
 have hent : eW X φ w N ⟨dH 0 (args.map gI),s.H⟩ Ha (fun i => vargs.getD i undef) := by
  refine h.enter jN hp (fun i x hx => ?_) (fun i x v hx hv => ?_) (by simpa using hA.1)
  ·rw [df] at hx;cases Nq : args[i]? with
   | none => rw [Nq] at hx; cases hx
   | some y =>
     rw [Nq] at hx;simp at hx;subst hx;have hy := hJ.1 zO i y Nq;unfold gI;split
     ·trivial
     ·exact hy
  ·rw [df] at hx;cases Nq : args[i]? with
   | none => rw [Nq] at hx; cases hx
   | some y =>
     rw [Nq] at hx;simp at hx;subst hx;have r0 := hA.2 i y v Nq hv;have hpy := ux hp i (gI y) (by rw [df,Nq]; rfl);by_cases ho : ∃ k,y = .own k []
     ·obtain ⟨k,rfl⟩ := ho;simp only [fZ] at r0;cases r0;exact .jM _ _
     ·have hn : gI y = y := by
       unfold gI;split
       ·rename_i k; exact absurd ⟨k,rfl⟩ ho
       ·rfl
      rw [hn] at hpy ⊢;have hy : fZ N y = ct N y := by cases y <;> first | rfl | (simp [js] at hpy; done)
      rw [hy] at r0;exact r0
 obtain ⟨SQ,_⟩ := Af jN;obtain ⟨ka,H2,hn⟩ := hent.norm SQ
 have h0 : ∀ i,bI (get (dH 0 (args.map gI)) i) = false := fun i => by
  rw [rT];simp only [Nat.zero_le,if_true,Nat.sub_zero];cases e : (args.map gI)[i]? with
  | none => rfl
  | some x => exact zn (ux hp i x e)
 have kf := dU f md q hf (args.map gI) s.H r H' (.inl hm) hc (fun _ => ID) (fun g => X g \/ (bK φ g /\ ¬ bK ka g)) ka w N.β vargs (by simpa using hA.1) ⟨N,H2,hn.vC,fun _ _ => rfl,aS _⟩ (fun g => (hg g).mono (fun a u ⟨h1,h2,h3⟩ => ⟨fun hx => hx.elim h1 fun hh => h2 hh.1,fun ⟨m,sz,e⟩ => h2 ⟨m,sz,hn.sub m _ e⟩,h3⟩) (.refl _));intro K Q hK;unfold Oper.wp;rw [nn,Oper.upon_enter];refine kf.mono ?_;rintro e w1 ⟨v',nG,rfl,⟨N1,H1,gE,zP,hle⟩,ad⟩;obtain ⟨φ',Bd,ad'⟩ := shared h hb hn h0 gE ad zP hle ID Zm gY;exact hK v' w1 φ' (by simpa using Bd) ad'
end
end Go.Bm

/- The machine by value is sound. -/
namespace Go.Bm
open Go.Am
section
variable {P : Program} {c : dN}
theorem VQ (cO : fk P c) (nS : vo P c) (uT : vl P c) (n : Nat) : N9 P c n :=
 OJ cO nS uT (fun call hc => VV cO hc) (fun call hc => adX cO (acd cO nS hc (VV cO hc))) (fun n hs => shOK cO uT hs) n
theorem aed (cO : fk P c) (nS : vo P c) (uT : vl P c) (n : Nat) : gO P c (n9 c n) := I4 cO uT (VQ cO nS uT n) (shOK cO uT (VQ cO nS uT n))
theorem YG (cO : fk P c) (nS : vo P c) (uT : vl P c) {n f : Nat} {md : Md} {q : fO} (hf : c.fn f = some (md,q)) (jo : md.sh = false) {args : List AV} (hz : j5 args = true) {r : AV} {H' : Heap} (h : n9 c n f args [] = some (r,H')) (hr : pl r = true) {w : World} {vargs : Array Value}
  (ha : pM (fun _ => False) [] w args vargs) (hg : Am.dL (gZ c) (fun _ => False) [] w) : Calls P f vargs w (fun e w' => ∃ v,e = .returned v /\ bN (Rd (fun _ => False) [] w') [] r v /\ RowKit.Below w.heap.size w w') :=
 Vb cO (aed cO nS uT n) hf jo hz h hr ha hg
end
end Go.Bm

/- More fuel gives the same; runs without counting fuel. -/
namespace Go.Bm
open Go.Am
section
variable {c : dN}
abbrev kZ := Nat -> List AV -> Heap -> Option (AV × Heap)
def Zp (f g : kZ) : Prop := ∀ n a H r,f n a H = some r -> g n a H = some r
theorem PT {f g : kZ} (h : Zp f g) {kd : Kd} {s : St} {x : AV × St × Fq} (e : dI c f kd s = some x) : dI c g kd s = some x := by
 unfold dI at e ⊢;split at e
 ·cases e
 rename_i n args ha
 try simp only [ha]
 split at e
 ·cases e
 rename_i md q hf
 try simp only [hf]
 split at e
 ·rename_i hm
  try rw [if_pos hm]
  split at e
  ·cases e
  rename_i ql hz
  try simp only [hz]
  split at e
  case h_2 => cases e
  rename_i r H' hc;rw [h _ _ _ _ hc];exact e
 ·rename_i hm
  try rw [if_neg hm]
  split at e
  ·cases e
  rename_i n1 nC Ns
  try simp only [Ns]
  split at e
  case isFalse => cases e
  rename_i X5
  try rw [if_pos X5]
  split at e
  ·rename_i jo
   try rw [if_pos jo]
   split at e
   case isFalse => cases e
   rename_i hp
   try rw [if_pos hp]
   split at e
   case h_2 => cases e
   rename_i r H' hc;rw [h _ _ _ _ hc];exact e
  ·rename_i jo
   try rw [if_neg jo]
   split at e
   case isFalse => cases e
   rename_i hp
   try rw [if_pos hp]
   split at e
   case h_2 => cases e
   rename_i r H' hc;rw [h _ _ _ _ hc];exact e
theorem Fe {f : kZ} {s : St} {kd : Kd} (h : lj c f s kd = none) (g : kZ) : lj c g s kd = none := by
 unfold lj at h ⊢;split at h
 ·split at h
  ·cases h
  ·rename_i hl;exact if_neg hl
 ·rfl
theorem Ss {f : kZ} {s : St} {kd : Kd} {v : AV} {s1 : St} {fl : Fq} (h : lj c f s kd = some (some (v,s1,fl))) : ∃ n args H r H',f n args H = some (r,H') /\ ∀ g : kZ,g n args H = some (r,H') -> lj c g s kd = some (some (v,s1,fl)) := by
 obtain ⟨n,x,es,b,md,q,cs,cs',rfl,h1,h2,h3,h4,h5,h6,h7,rfl,rfl⟩ := uI h;refine ⟨_,_,_,_,_,h6,fun g hg => ?_⟩;unfold lj;simp only;rw [if_pos h1];unfold Us;rw [h2];simp only [h3,h4];rw [if_pos h5,hg];simp only;rw [if_pos h7]
theorem aaz {f g : kZ} (h : Zp f g) {kd : Kd} {s : St} {x : AV × St × Fq} (e : lj c f s kd = some (some x)) : lj c g s kd = some (some x) := by
 obtain ⟨v,s1,fl⟩ := x;obtain ⟨n,args,H,r,H',h1,h2⟩ := Ss e;exact h2 g (h _ _ _ _ h1)
theorem aat {f : kZ} {fn i : Nat} {s : St} {xs : List AV} {x : AV × St × Fq} (e : Mz c f fn i s xs = some x) : ∃ n args H r H',f n args H = some (r,H') /\ ∀ g : kZ,g n args H = some (r,H') -> Mz c g fn i s xs = some x := by unfold Mz at e;cases e
theorem Il {f : kZ} {kd : Kd} {s : St} {x : AV × St × Fq} (e : qz c f s kd = some (some x)) : ∃ n args H r H',f n args H = some (r,H') /\ ∀ g : kZ,g n args H = some (r,H') -> qz c g s kd = some (some x) := by
 unfold qz at e;split at e
 case h_2 => cases e
 rename_i fn es;split at e
 case h_2 => cases e
 rename_i i hi;simp only [aj] at e;obtain ⟨n,args,H,r,H',h1,h2⟩ := aat e;exact ⟨n,args,H,r,H',h1,fun g hg => by simp only [qz,hi,h2 g hg]⟩
theorem xF {f : kZ} {kd : Kd} {s : St} (h : qz c f s kd = none) (g : kZ) : qz c g s kd = none := by
 unfold qz at h ⊢;split at h
 ·split at h
  ·cases h
  ·rename_i hm;simp only [hm]
 ·rfl
theorem PU {f g : kZ} (h : Zp f g) {kd : Kd} {s : St} {x : AV × St × Fq} (e : fK c f kd s = some x) : fK c g kd s = some x := by
 unfold fK at e ⊢;cases hm : qz c f s kd with
 | none =>
   rw [hm] at e;rw [xF hm g];obtain ⟨v,s1,fl⟩ := x;rcases iJ e with e | e
   ·exact py (PT h e)
   ·obtain ⟨n,args,H,r,H',h1,h2⟩ := Qy e;exact FM (h2 g (h _ _ _ _ h1))
 | some r =>
   rw [hm] at e;simp only at e;subst e;obtain ⟨n,args,H,r,H',h1,h2⟩ := Il hm;rw [h2 g (h _ _ _ _ h1)]
theorem FN {f g : kZ} (h : Zp f g) {kd : Kd} {s : St} {x : AV × St × Fq} (e : c7 c f kd s = some x) : c7 c g kd s = some x := by
 unfold c7 at e ⊢;cases hi : nQ c s kd with
 | some r => rw [hi] at e; exact e
 | none =>
   rw [hi] at e;cases hl : lj c f s kd with
   | none => rw [hl] at e; rw [Fe hl g]; exact PU h e
   | some r =>
     rw [hl] at e;simp only at e;subst e;rw [aaz h hl]
theorem ET {f g : kZ} {s : St} {kd : Kd} (h : kQ kd = false) : fo c f s kd = fo c g s kd := by
 cases kd <;> first | rfl | (simp [kQ] at h)
theorem JE {f g : kZ} (h : Zp f g) {kd : Kd} {s : St} {x : AV × St × Fq} (e : fo c f s kd = some x) : fo c g s kd = some x := by
 cases hk : kQ kd with
 | false => rw [<- ET (f := f) hk]; exact e
 | true =>
   cases kd <;> simp [kQ] at hk
   ·simp only [fo] at e ⊢; exact FN h e
   ·simp only [fo] at e ⊢; exact FN h e
theorem Dq {f g : kZ} (h : Zp f g) {s : St} {o : O} {x : St × Fq} (e : p8 c f s o = some x) : p8 c g s o = some x := by
 have op : ∀ {y : AV × St × Fq} {K : AV × St × Fq -> Option (St × Fq)},fo c f s o.kd = some y -> fo c g s o.kd = some y := fun h' => JE h h';rw [ug] at e ⊢;cases hv : Cd c f s o with
 | none => rw [hv] at e; cases e
 | some y =>
   have : Cd c g s o = some y := by
    unfold Cd at hv ⊢;split at hv
    ·exact JE h hv
    ·split at hv
     ·split at hv
      ·rename_i hb; simp only [hb,if_true]; exact JE h hv
      ·rename_i hb; simp only [hb,if_false]; exact hv
     ·exact hv
     ·cases hv
   rw [hv] at e;rw [this];exact e
theorem CW {f g : kZ} (h : Zp f g) : ∀ {os : List O} {s : St} {x : St × List Fq},kL c f os s = some x -> kL c g os s = some x
 | [],s,x,e => e
 | o :: r,s,x,e => by
   simp only [kL] at e ⊢;split at e
   case h_2 => cases e
   rename_i s1 fl h1;rw [Dq h h1];simp only;split at e
   case h_2 => cases e
   rename_i s2 nU h2;rw [CW h h2];exact e
def LeR (f g : Nat -> C -> St -> Option (Ex × St)) : Prop := ∀ b cd s x,f b cd s = some x -> g b cd s = some x
theorem F9 {f g : Nat -> C -> St -> Option (Ex × St)} (h : LeR f g) : Zp (kX c f) (kX c g) := by
 intro n a H r e;unfold kX at e ⊢;split at e
 ·exact e
 split at e
 ·cases e
 split at e
 case isFalse => cases e
 rename_i md fn hf hl;simp only [hl,if_true];split at e
 ·rename_i s' hs; rw [h _ _ _ _ hs]; exact e
 ·rename_i s' hs; rw [h _ _ _ _ hs]; exact e
 ·cases e
theorem FR : ∀ n,LeR (cq c n) (cq c (n + 1))
 | 0 => fun b cd s x e => by simp [cq] at e
 | n + 1 => by
   have ih := FR n;intro b cd s x e;unfold cq at e ⊢;cases cd with
   | skip => exact e
   | ret => exact e
   | exit i => exact e
   | aO os dr un keep =>
     simp only at e ⊢;split at e
     case h_2 => cases e
     rename_i s' nU hs;rw [CW (F9 ih) hs];exact e
   | seq a b' =>
     simp only at e ⊢;cases h1 : cq c n b a s with
     | none => rw [h1] at e; cases e
     | some y =>
       obtain ⟨ex,s1⟩ := y;rw [h1] at e;rw [ih _ _ _ _ h1];cases ex with
       | normal => exact ih _ _ _ _ e
       | exit i => exact e
       | ret => exact e
   | cond y a b' =>
     simp only at e ⊢;split at e
     ·rename_i t ht;split at e
      ·rename_i h1; simp only [h1,if_true]; exact ih _ _ _ _ e
      ·rename_i h1; simp only [h1,if_false,aX]; exact ih _ _ _ _ e
     ·cases e
   | aH i b' =>
     simp only at e ⊢;cases h1 : cq c n b b' s with
     | none => rw [h1] at e; cases e
     | some y =>
       rw [h1] at e;rw [ih _ _ _ _ h1];exact e
   | loop b' =>
     simp only at e ⊢;cases h1 : cq c n b b' s with
     | none => rw [h1] at e; cases e
     | some y =>
       obtain ⟨ex,s1⟩ := y;rw [h1] at e;rw [ih _ _ _ _ h1];cases ex with
       | normal => exact ih _ _ _ _ e
       | exit i => exact e
       | ret => exact e
theorem pC {n m : Nat} (h : n <= m) : LeR (cq c n) (cq c m) := by
 induction h with
 | refl => exact fun _ _ _ _ e => e
 | step _ ih => exact fun b cd s x e => FR _ b cd s x (ih b cd s x e)
open Classical in
noncomputable def aU (c : dN) (b : Nat) (cd : C) (s : St) : Option (Ex × St) := if h : ∃ n x,cq c n b cd s = some x then some (yf (iO h)) else none
theorem cF {b : Nat} {cd : C} {s : St} {x : Ex × St} : aU c b cd s = some x ↔ ∃ n,cq c n b cd s = some x := by
 unfold aU;constructor
 ·intro e;split at e
  ·rename_i h;have := iO (iO h);exact ⟨_,dm e ▸ this⟩
  ·cases e
 ·rintro ⟨n,e⟩;have h : ∃ n x,cq c n b cd s = some x := ⟨n,x,e⟩;rw [dif_pos h];have := iO (iO h);have h1 := pC (vp n (yf h)) _ _ _ _ e;have h2 := pC (tP n (yf h)) _ _ _ _ this;rw [h1] at h2;cases h2;rfl
noncomputable def bk (c : dN) (f : Nat) (args : List AV) (H : Heap) : Option (AV × Heap) := kX c (aU c) f args H
theorem kA (n : Nat) : LeR (cq c n) (aU c) := fun b cd s x e => cF.2 ⟨n,e⟩
theorem wb (n : Nat) : Zp (n9 c n) (bk c) := F9 (kA n)
theorem kB {f : Nat} {args : List AV} {H : Heap} {r : AV × Heap} : bk c f args H = some r ↔ ∃ n,n9 c n f args H = some r := by
 constructor
 ·intro e;unfold bk kX at e;split at e
  case h_1 =>
   rename_i g hg;exact ⟨0,by unfold n9 kX; rw [hg]; exact e⟩
  rename_i ho;split at e
  ·cases e
  rename_i md fn hf;split at e
  case isFalse => cases e
  rename_i hl;split at e
  ·rename_i s' hs;obtain ⟨n,hn⟩ := cF.1 hs;exact ⟨n,by unfold n9 kX; simp only [ho,hf,hl,if_true,hn]; exact e⟩
  ·rename_i s' hs;obtain ⟨n,hn⟩ := cF.1 hs;exact ⟨n,by unfold n9 kX; simp only [ho,hf,hl,if_true,hn]; exact e⟩
  ·cases e
 ·rintro ⟨n,e⟩;exact wb n _ _ _ _ e
theorem NW {n m : Nat} (h : n <= m) : Zp (n9 c n) (n9 c m) := F9 (pC h)
theorem R6 {s : St} {kd : Kd} {x : AV × St × Fq} : fo c (bk c) s kd = some x ↔ ∃ n,fo c (n9 c n) s kd = some x := by
 constructor
 ·intro e;cases hk : kQ kd with
  | false => exact ⟨0,by rw [ET (g := bk c) hk]; exact e⟩
  | true =>
    have key0 : ∀ {kd : Kd},dI c (bk c) kd s = some x -> ∃ n,dI c (n9 c n) kd s = some x := by
     intro kd e;unfold dI at e;split at e
     ·cases e
     rename_i f args ha;split at e
     ·cases e
     rename_i md q hf;split at e
     ·rename_i hm;split at e
      ·cases e
      rename_i ql hz;split at e
      case h_2 => cases e
      rename_i r H' hc;obtain ⟨n,hn⟩ := kB.1 hc;refine ⟨n,?_⟩;unfold dI;simp only [ha,hf,hm,if_true,hz,hn];exact e
     ·rename_i hm;split at e
      ·cases e
      rename_i f1 nC Ns;split at e
      case isFalse => cases e
      rename_i X5;split at e
      ·rename_i jo;split at e
       case isFalse => cases e
       rename_i hp;split at e
       case h_2 => cases e
       rename_i r H' hc;obtain ⟨n,hn⟩ := kB.1 hc;refine ⟨n,?_⟩;unfold dI;rw [ha];simp only [hf];rw [if_neg hm,Ns];simp only;rw [if_pos X5,if_pos jo,if_pos hp,hn];exact e
      ·rename_i jo;split at e
       case isFalse => cases e
       rename_i hp;split at e
       case h_2 => cases e
       rename_i r H' hc;obtain ⟨n,hn⟩ := kB.1 hc;refine ⟨n,?_⟩;unfold dI;rw [ha];simp only [hf];rw [if_neg hm,Ns];simp only;rw [if_pos X5,if_neg jo,if_pos hp,hn];exact e
    have key1 : ∀ {kd : Kd},fK c (bk c) kd s = some x -> ∃ n,fK c (n9 c n) kd s = some x := by
     intro kd e;unfold fK at e ⊢;cases hm : qz c (bk c) s kd with
     | none =>
       rw [hm] at e;obtain ⟨v,s1,fl⟩ := x;rcases iJ e with e | e
       ·obtain ⟨n,hn⟩ := key0 e;exact ⟨n,by rw [xF hm]; exact py hn⟩
       ·obtain ⟨m,args,H,r,H',h1,h2⟩ := Qy e;obtain ⟨n,hn⟩ := kB.1 h1;exact ⟨n,by rw [xF hm]; exact FM (h2 _ hn)⟩
     | some r =>
       rw [hm] at e;simp only at e;subst e;obtain ⟨m,args,H,r,H',h1,h2⟩ := Il hm;obtain ⟨n,hn⟩ := kB.1 h1;exact ⟨n,by rw [h2 _ hn]⟩
    have key : ∀ {kd : Kd},c7 c (bk c) kd s = some x -> ∃ n,c7 c (n9 c n) kd s = some x := by
     intro kd e;unfold c7 at e ⊢;cases hi : nQ c s kd with
     | some r => rw [hi] at e; exact ⟨0,e⟩
     | none =>
       rw [hi] at e;cases hl : lj c (bk c) s kd with
       | none =>
         rw [hl] at e;obtain ⟨n,hn⟩ := key1 e;exact ⟨n,by rw [Fe hl]; exact hn⟩
       | some r =>
         rw [hl] at e;simp only at e;subst e;obtain ⟨m,args,H,r,H',h1,h2⟩ := Ss (v := x.1) (s1 := x.2.1) (fl := x.2.2) hl;obtain ⟨n,hn⟩ := kB.1 h1;exact ⟨n,by rw [h2 _ hn]⟩
    cases kd <;> simp [kQ] at hk
    ·simp only [fo] at e ⊢; exact key e
    ·simp only [fo] at e ⊢; exact key e
 ·rintro ⟨n,e⟩;exact JE (wb n) e
theorem TO {s : St} {o : O} {x : St × Fq} : p8 c (bk c) s o = some x ↔ ∃ n,p8 c (n9 c n) s o = some x := by
 constructor
 ·intro e;rw [ug] at e;cases hv : Cd c (bk c) s o with
  | none => rw [hv] at e; cases e
  | some y =>
    have : ∃ n,Cd c (n9 c n) s o = some y := by
     unfold Cd at hv ⊢;split at hv
     ·obtain ⟨n,hn⟩ := R6.1 hv;exact ⟨n,hn⟩
     ·split at hv
      ·split at hv
       ·rename_i hb;obtain ⟨n,hn⟩ := R6.1 hv;exact ⟨n,by simp only [hb,if_true]; exact hn⟩
       ·rename_i hb; exact ⟨0,by simp only [hb,if_false]; exact hv⟩
      ·exact ⟨0,hv⟩
      ·cases hv
    obtain ⟨n,hn⟩ := this;refine ⟨n,?_⟩;rw [hv] at e;rw [ug,hn];exact e
 ·rintro ⟨n,e⟩;exact Dq (wb n) e
theorem ER : ∀ {os : List O} {s : St} {x : St × List Fq},kL c (bk c) os s = some x ↔ ∃ n,kL c (n9 c n) os s = some x
 | [],s,x => ⟨fun e => ⟨0,e⟩,fun ⟨_,e⟩ => e⟩
 | o :: r,s,x => by
   constructor
   ·intro e;simp only [kL] at e;split at e
    case h_2 => cases e
    rename_i s1 fl h1;split at e
    case h_2 => cases e
    rename_i s2 nU h2;obtain ⟨n,hn⟩ := TO.1 h1;obtain ⟨m,hm⟩ := ER.1 h2;refine ⟨max n m,?_⟩;simp only [kL];rw [Dq (NW (vp n m)) hn];simp only;rw [CW (NW (tP n m)) hm];exact e
   ·rintro ⟨n,e⟩;exact CW (wb n) e
theorem zq {α : Type} {a b : Option α} (h : ∀ x,a = some x ↔ b = some x) : a = b := by
 cases a with
 | none => cases b with
   | none => rfl
   | some y => exact ((h y).2 rfl)
 | some x => exact ((h x).1 rfl).symm
variable {b : Nat} {s : St}
theorem iK : aU c b .skip s = some (.normal,s) := cF.2 ⟨1,rfl⟩
theorem v8 : aU c b .ret s = some (.ret,s) := cF.2 ⟨1,rfl⟩
theorem s8 {i : Nat} : aU c b (.exit i) s = some (.exit i,s) := cF.2 ⟨1,rfl⟩
noncomputable def iP (c : dN) (b : Nat) (y : C) : Option (Ex × St) -> Option (Ex × St)
 | some (.normal,s') => aU c b y s'
 | r => r
def regL (dr : Bool) (os : List O) (un : List (Nat × Nat)) (base : Nat) (keep : List Nat) : Option (St × List Fq) -> Option (Ex × St)
 | some (s',nU) => if dr = false \/ IV os nU un = true then (match PR base keep s' with
   | some s2 => some (.normal,s2)
   | none => none) else none
 | none => none
def CH (i : Nat) : Option (Ex × St) -> Option (Ex × St)
 | some (.exit j,s') => if j = i then some (.normal,s') else some (.exit j,s')
 | r => r
theorem bp {x y : C} : aU c b (.seq x y) s = iP c b y (aU c b x s) := by
 apply zq;intro z;constructor
 ·intro e;obtain ⟨n,hn⟩ := cF.1 e;cases n with
  | zero => simp [cq] at hn
  | succ n =>
    simp only [cq] at hn;cases h1 : cq c n b x s with
    | none => rw [h1] at hn; cases hn
    | some w =>
      obtain ⟨ex,s1⟩ := w;rw [h1] at hn;rw [kA n _ _ _ _ h1];cases ex with
      | normal => exact kA n _ _ _ _ hn
      | exit i => exact hn
      | ret => exact hn
 ·intro e;cases h1 : aU c b x s with
  | none => rw [h1] at e; cases e
  | some w =>
    obtain ⟨ex,s1⟩ := w;rw [h1] at e;obtain ⟨n,hn⟩ := cF.1 h1;cases ex with
    | normal =>
      obtain ⟨m,hm⟩ := cF.1 e;refine cF.2 ⟨max n m + 1,?_⟩;simp only [cq];rw [pC (vp n m) _ _ _ _ hn];exact pC (tP n m) _ _ _ _ hm
    | exit i => exact cF.2 ⟨n + 1,by simp only [cq]; rw [hn]; exact e⟩
    | ret => exact cF.2 ⟨n + 1,by simp only [cq]; rw [hn]; exact e⟩
theorem pz {x : C} : aU c b (.loop x) s = iP c b (.loop x) (aU c b x s) := by
 apply zq;intro z;constructor
 ·intro e;obtain ⟨n,hn⟩ := cF.1 e;cases n with
  | zero => simp [cq] at hn
  | succ n =>
    simp only [cq] at hn;cases h1 : cq c n b x s with
    | none => rw [h1] at hn; cases hn
    | some w =>
      obtain ⟨ex,s1⟩ := w;rw [h1] at hn;rw [kA n _ _ _ _ h1];cases ex with
      | normal => exact kA n _ _ _ _ hn
      | exit i => exact hn
      | ret => exact hn
 ·intro e;cases h1 : aU c b x s with
  | none => rw [h1] at e; cases e
  | some w =>
    obtain ⟨ex,s1⟩ := w;rw [h1] at e;obtain ⟨n,hn⟩ := cF.1 h1;cases ex with
    | normal =>
      obtain ⟨m,hm⟩ := cF.1 e;refine cF.2 ⟨max n m + 1,?_⟩;simp only [cq];rw [pC (vp n m) _ _ _ _ hn];exact pC (tP n m) _ _ _ _ hm
    | exit i => exact cF.2 ⟨n + 1,by simp only [cq]; rw [hn]; exact e⟩
    | ret => exact cF.2 ⟨n + 1,by simp only [cq]; rw [hn]; exact e⟩
theorem oN {i : Nat} {x : C} : aU c b (.aH i x) s = CH i (aU c b x s) := by
 apply zq;intro z;constructor
 ·intro e;obtain ⟨n,hn⟩ := cF.1 e;cases n with
  | zero => simp [cq] at hn
  | succ n =>
    simp only [cq] at hn;cases h1 : cq c n b x s with
    | none => rw [h1] at hn; cases hn
    | some w => rw [h1] at hn; rw [kA n _ _ _ _ h1]; exact hn
 ·intro e;cases h1 : aU c b x s with
  | none => rw [h1] at e; cases e
  | some w =>
    obtain ⟨n,hn⟩ := cF.1 h1;rw [h1] at e;exact cF.2 ⟨n + 1,by simp only [cq]; rw [hn]; exact e⟩
theorem P3 {v : E} {t : Bool} {x y : C} (h : bn c s.env v = .bool t) : aU c b (.cond v x y) s = if t then aU c b x s else aU c b y s := by
 apply zq;intro z;constructor
 ·intro e;obtain ⟨n,hn⟩ := cF.1 e;cases n with
  | zero => simp [cq] at hn
  | succ n =>
    simp only [cq,h] at hn;cases t with
    | true => exact kA n _ _ _ _ hn
    | false => exact kA n _ _ _ _ hn
 ·intro e;cases t with
  | true => obtain ⟨n,hn⟩ := cF.1 e; exact cF.2 ⟨n + 1,by simp only [cq,h]; exact hn⟩
  | false => obtain ⟨n,hn⟩ := cF.1 e; exact cF.2 ⟨n + 1,by simp only [cq,h]; exact hn⟩
theorem IY {os : List O} {dr : Bool} {un : List (Nat × Nat)} {keep : List Nat} : aU c b (.aO os dr un keep) s = regL dr os un b keep (kL c (bk c) os s) := by
 apply zq;intro z;constructor
 ·intro e;obtain ⟨n,hn⟩ := cF.1 e;cases n with
  | zero => simp [cq] at hn
  | succ n =>
    simp only [cq] at hn;split at hn
    case h_2 => cases hn
    rename_i s' nU h1;rw [ER.2 ⟨n,h1⟩];exact hn
 ·intro e;cases h1 : kL c (bk c) os s with
  | none => rw [h1] at e; cases e
  | some w =>
    obtain ⟨n,hn⟩ := ER.1 h1;rw [h1] at e;refine cF.2 ⟨n + 1,?_⟩;simp only [cq];have Ol : kL c (kX c (cq c n)) os s = some w := hn;rw [Ol];exact e
theorem YH {f : Nat} {md : Md} {q : fO} {args : List AV} {H : Heap} (ho : c.orc f = none) (hf : c.fn f = some (md,q)) (hl : args.length <= q.n) : bk c f args H = (match aU c H.length q.body ⟨dH 0 args,H⟩ with
  | some (.ret,s) => (match nZ c s q.res with
    | some vs => aK md H.length s (m7 vs)
    | none => none)
  | some (.normal,s) => (match nZ c s q.res with
    | some vs => aK md H.length s (m7 vs)
    | none => none)
  | _ => none) := by
 unfold bk kX;simp only [JD,ho,hf,hl,if_true];generalize aU c H.length q.body ⟨dH 0 args,H⟩ = z;cases z with
 | none => rfl
 | some w =>
   obtain ⟨e,s⟩ := w;cases e <;> rfl
end
end Go.Bm

/- Arguments that came in, by value; answers that are bools. -/
namespace Go.Am
open Go.ChangeShapes Go.WideShapes
def w5 (k : IntKind) (w : World) (a : Option Addr) (len cap : Nat) (zs : List Int) : Prop :=
 (a = none /\ len = 0 /\ cap = 0 /\ zs = []) \/
 ∃ x,a = some x /\ len <= cap /\ cap <= maxLen /\ zs.length = cap /\ (∀ i,i < zs.length -> w.cell? (x.add i) = some (.int k (zs.getD i 0))) /\ ∀ n ∈ zs,(Lit.int k n).wf = true
theorem Dy {k : IntKind} {w : World} {a : Option Addr} {len cap : Nat} {zs : List Int} (h : w5 k w a len cap zs) : bN (Rd (fun _ => False) [] w) [] (.list 1 ((zs.take len).map (AV.int k))) (.slice a len cap) := by
 rcases h with ⟨rfl,rfl,rfl,rfl⟩ | ⟨x,rfl,hl,hm,hz,kz,hwz⟩
 ·exact .jM _ _
 ·refine .tS _ 1 _ x len cap (fun i _ => .int k (zs.getD i 0)) (by simp; omega) hl ?_ ?_ ?_
  ·intro y hy;obtain ⟨n,_,rfl⟩ := List.mem_map.mp hy;rfl
  ·intro i j y c hy hc;have hi : i < ((zs.take len).map (AV.int k)).length := (List.getElem?_eq_some_iff.mp hy).1;simp at hi;rw [df] at hy;cases GQ : (zs.take len)[i]? with
   | none => rw [GQ] at hy; cases hy
   | some n =>
     rw [GQ] at hy;cases hy;cases j with
     | succ j => simp [AV.cells] at hc
     | zero => exact ⟨id,bK.nil _,by simpa using kz i (by omega)⟩
  ·intro i j y c hy hc;rw [df] at hy;cases GQ : (zs.take len)[i]? with
   | none => rw [GQ] at hy; cases hy
   | some n =>
     rw [GQ] at hy;cases hy;cases j with
     | succ j => simp [AV.cells] at hc
     | zero =>
       simp [AV.cells] at hc;subst hc
       have e : zs.getD i 0 = n := by
        rw [List.getElem?_take] at GQ;split at GQ
        ·simp [List.getD,GQ]
        ·cases GQ
       rw [e];exact .int _ _ _
theorem pM.nil {X : Nat -> Prop} {φ : de} {w : World} : pM X φ w [] #[] := ⟨rfl,fun i x v h => by simp at h⟩
theorem pM.cons {X : Nat -> Prop} {φ : de} {w : World} {x : AV} {v : Value} {xs : List AV} {vs : List Value} (h : bN (Rd X φ w) φ x v) (r : pM X φ w xs vs.toArray) : pM X φ w (x :: xs) (v :: vs).toArray := by
 obtain ⟨r1,r2⟩ := r;refine ⟨by simpa using r1,fun i y u hy hu => ?_⟩;cases i with
 | zero =>
   simp at hy hu;subst hy hu;exact h
 | succ i =>
   refine r2 i y u (by simpa using hy) (by simpa using hu)
theorem KO {R : Addr -> Value -> Prop} {φ : de} {b : Bool} {v : Value} (h : bN R φ (.bool b) v) : v = .bool b := by cases h; rfl
end Go.Am
namespace Go.Bm
open Go.Am
theorem NV {P : Program} {c : dN} (cO : fk P c) (nS : vo P c) (uT : vl P c) {f : Nat} {md : Md} {q : fO} (hf : c.fn f = some (md,q)) (jo : md.sh = false) {args : List AV} {b : Bool} {H' : Heap} (h : bk c f args [] = some (.bool b,H')) (hz : j5 args = true) {w : World} {vargs : Array Value}
  (ha : pM (fun _ => False) [] w args vargs) (hg : Am.dL (gZ c) (fun _ => False) [] w) : Calls P f vargs w (fun e w' => e = .returned (.bool b) /\ RowKit.Below w.heap.size w w') := by
 obtain ⟨n,hn⟩ := kB.1 h;refine (YG cO nS uT hf jo hz hn rfl ha hg).mono ?_;rintro e w' ⟨v,rfl,hr,hb⟩;rw [KO hr];exact ⟨rfl,hb⟩
theorem Yb {c : dN} {g0 : Nat} {k : IntKind} {zs : List Int} (h : ∀ g,c.gl g = if g = g0 then zs.map (AV.int k) else []) {w : World} (hc : ∀ i,(hi : i < zs.length) -> w.cell? ⟨g0,i,none⟩ = some (.int k zs[i])) : Am.dL (gZ c) (fun _ => False) [] w := by
 intro g;show bN _ [] (.cX (c.gl g)) _;rw [h g];split
 ·rename_i e;subst e;refine .cX _ _ _ (fun j => .int k (zs.getD j 0)) (fun j d hj => ?_) (fun j d hj => ?_)
  ·rw [df] at hj;cases e : zs[j]? with
   | none => rw [e] at hj; cases hj
   | some z =>
     have bA := aB e;refine ⟨id,bK.nil _,?_⟩;rw [Addr.iu,Nat.zero_add,hc j bA,cM,e,<- aI bA |>.symm.trans e |> dm];rfl
  ·rw [df] at hj;cases e : zs[j]? with
   | none => rw [e] at hj; cases hj
   | some z =>
     rw [e] at hj;simp at hj;subst hj;rw [cM,e];exact .int _ _ _
 ·exact .cX _ _ _ (fun _ => undef) (fun j c hj => by simp at hj) (fun j c hj => by simp at hj)
end Go.Bm

/- Calls that are known ahead: a table of runs, each proved by itself. -/
namespace Go.Bm
open Go.Am
structure Fact where
 f : Nat
 args : List AV
 H : Heap
 r : AV
 H' : Heap
end Go.Bm
