/- The machine by value: open orders, shared boxes; the whole. -/
import Derived.Test.YtppmiehidnpgbaaGreatDoorMd
import Derived.ProofKit
import Derived.WalkKit
import Derived.OpenShut
/- What a pure operation answers depends on the slots it reads. -/
set_option linter.unusedSimpArgs false
set_option linter.unusedVariables false
open Array renaming getD_eq_getD_getElem? → bf, replicate → pA
open Bool renaming and_eq_true → ae, false_and → fh, false_eq_true → bn, not_eq_true' → bH, or_eq_false_iff → eP, or_eq_true → fN
open Classical renaming choose → yB, choose_spec → ju
open List renaming append_assoc → dj, getD_eq_getElem?_getD → aI, getElem?_drop → aU, getElem?_eq_getElem → aB, getElem?_eq_none → eH, getElem?_map → cq, getElem?_of_mem → bG, getElem?_set → bm, getElem?_take → bF, head?_eq_getElem? → um, isEmpty_iff → ff, length_append → bN, length_set → cJ, length_take → bC, mem_append → aG, mem_append_left → Q5, mem_append_right → O6, mem_cons → aK, mem_of_getElem? → bg, mem_of_mem_drop → c9, mem_of_mem_take → c8, mem_singleton → cE, range → cH, set_append_left → Q4
open Nat renaming le_max_left → vQ, le_max_right → ue, le_refl → aT
open Option renaming isSome_iff_exists → aQ, map_some → dc
open Option.some renaming inj → dn, injEq → ah
open Prod.mk renaming injEq → aJ
namespace Go.Bm
open Go.Am
section
variable {P : Program} {c : eE} {call : Nat -> List AV -> Heap -> Option (AV × Heap)}
theorem cm {e1 e2 : Env} {x : E} (h : ∀ i ∈ x.slot,eW i (get e1 i) = eW i (get e2 i)) : bt c e1 x = bt c e2 x := by
 cases x with
 | t i => exact h i (by simp [E.slot])
 | k x => rfl
 | g i => rfl
theorem gS {e1 e2 : Env} : ∀ {xs : List E},(∀ i ∈ mh xs,eW i (get e1 i) = eW i (get e2 i)) -> dE c e1 xs = dE c e2 xs
 | [],_ => rfl
 | x :: r,h => by
   simp only [mh,aG] at h;simp only [dE];rw [cm fun i hi => h i (.inl hi),gS fun i hi => h i (.inr hi)]
theorem qS {e1 e2 : Env} : ∀ {ps : List (Nat × Nat × E)} {zs : List AV},(∀ i ∈ pI ps,eW i (get e1 i) = eW i (get e2 i)) -> oY c e1 zs ps = oY c e2 zs ps
 | [],_,_ => by simp [oY]
 | (o,s,x) :: r,zs,h => by
   simp only [pI,aG] at h;simp only [oY];rw [cm (c := c) fun i hi => h i (.inl hi)];split
   ·exact qS fun i hi => h i (.inr hi)
   ·rfl
theorem qa {e1 e2 : Env} : ∀ {ps : List (Nat × Nat × E)},(∀ i ∈ pI ps,eW i (get e1 i) = eW i (get e2 i)) -> gW c e1 ps = gW c e2 ps
 | [],_ => by simp [gW]
 | (o,s,x) :: r,h => by
   simp only [pI,aG] at h;simp only [gW];rw [cm (c := c) fun i hi => h i (.inl hi),qa fun i hi => h i (.inr hi)]
theorem yj {e1 e2 : Env} {d m : Nat} {x : Option E} (h : ∀ i ∈ HY x,eW i (get e1 i) = eW i (get e2 i)) : yk c e1 d m x = yk c e2 d m x := by
 cases x with
 | none => rfl
 | some x => simp only [yk]; rw [cm h]
theorem II {e1 e2 : Env} {kd : Kd} (h : ∀ i ∈ kd.reads,eW i (get e1 i) = eW i (get e2 i)) : PE c e1 kd = PE c e2 kd := by
 cases kd <;> simp only [Kd.reads,aG] at h <;> simp only [PE]
 case pick x y z => rw [cm (c := c) fun i hi => h i (.inl hi),cm (c := c) fun i hi => h i (.inr (.inl hi)),cm (c := c) fun i hi => h i (.inr (.inr hi))]
 case build => rw [qS (c := c) h]
 case yG k x lo hi => rw [cm (c := c) fun i hi => h i (.inl hi)]; simp only [yj (c := c) fun i hi => h i (.inr (.inl hi)),yj (c := c) fun i hi => h i (.inr (.inr hi))]
 case HK n x u => rw [cm (c := c) fun i hi => h i (.inl hi)]
 case min => rw [gS (c := c) h]
 case max => rw [gS (c := c) h]
 case OS => rw [gS (c := c) fun i hi => h i (.inl hi),gS (c := c) fun i hi => h i (.inr hi)]
 all_goals first
  | rfl
  | rw [cm (c := c) h]
  | rw [cm (c := c) fun i hi => h i (.inl hi),cm (c := c) fun i hi => h i (.inr hi)]
theorem Gp {e1 e2 : Env} {kd : Kd} (h : ∀ i ∈ kd.reads,eW i (get e1 i) = eW i (get e2 i)) : nI c e1 kd = nI c e2 kd := by
 cases kd <;> simp only [nI]
 case call => rw [gS (c := c) h]
 case jc =>
  simp only [Kd.reads,aG] at h;rw [cm (c := c) fun i hi => h i (.inl hi),gS (c := c) fun i hi => h i (.inr hi)]
theorem iL {e1 e2 : Env} {kd : Kd} (h : ∀ i ∈ kd.reads,eW i (get e1 i) = eW i (get e2 i)) : getArgs c e1 kd = getArgs c e2 kd := by
 unfold getArgs;rw [Gp h]
def Seen (ps : List Rt) (s t : St) : Prop := ∀ p ∈ ps,aC t p = aC s p /\ ∀ b l,p = .c b l -> aN t.H b = aN s.H b
theorem PC {s t : St} {ag : Option Nat} {x v : AV} {ps : List Rt} (h : xM s ag x = some (v,ps)) (hs : Seen ps s t) : xM t ag x = some (v,ps) := by
 unfold xM at h ⊢;split at h
 ·exact h
 ·rename_i b off;split at h
  case h_2 => cases h
  rename_i cs hb;split at h
  case h_2 => cases h
  rename_i u hu;simp only [ah,aJ] at h;obtain ⟨rfl,rfl⟩ := h;have := (hs _ (cE.2 rfl)).2 b _ rfl;simp only [this,hb,hu]
 ·rename_i k p i off;split at h
  case h_2 => cases h
  rename_i k' xs ho;split at h
  case isFalse => cases h
  rename_i hk;split at h
  case h_2 => cases h
  rename_i y hy;split at h
  case h_2 => cases h
  rename_i u hu;simp at h;obtain ⟨rfl,rfl⟩ := h;have := (hs p (by simp)).1;simp only [this,ho,hk,if_true,hy,hu]
 ·cases h
def qv (b j : Nat) (s t : St) : Prop := ∀ cs,aN s.H b = some cs -> ∃ ds,aN t.H b = some ds /\ (eM (.c b) 0 ds)[j]? = (eM (.c b) 0 cs)[j]?
def xk (f : Fq) (s t : St) : Prop := (∀ ps,f = .rd ps -> Seen ps s t) /\ ∀ b j,f = .rc b j -> qv b j s t
theorem sV (f : Nat -> Rt) : ∀ {cs ds : List AV} {j i : Nat},cs[i]? = ds[i]? -> (eM f j cs)[i]? = (eM f j ds)[i]?
 | [],[],_,_,_ => rfl
 | [],d :: ds,j,0,h => by simp at h
 | c :: cs,[],j,0,h => by simp at h
 | [],d :: ds,j,i + 1,h => by
   have := sV f (cs := []) (ds := ds) (j := j + 1) (i := i) (by simpa using h);cases d <;> simpa [eM] using this
 | c :: cs,[],j,i + 1,h => by
   have := sV f (cs := cs) (ds := []) (j := j + 1) (i := i) (by simpa using h);cases c <;> simpa [eM] using this
 | c :: cs,d :: ds,j,0,h => by
   simp at h;subst h;cases c <;> simp [eM]
 | c :: cs,d :: ds,j,i + 1,h => by
   have := sV f (cs := cs) (ds := ds) (j := j + 1) (i := i) (by simpa using h);cases c <;> cases d <;> simpa [eM] using this
theorem aaW {ag : Option Nat} {cs ds : List AV} {k : Nat} {p : Rt} {o l : Nat} (h : J3 ag cs = some (.dG k p o l)) (e : ds[0]? = cs[0]?) : J3 ag ds = some (.dG k p o l) := by
 unfold J3 Al at h ⊢;cases ag with
 | some n => simp only at h ⊢; (repeat' split at h) <;> simp_all
 | none =>
   simp only at h ⊢;have : ds.head? = cs.head? := by rw [um,um]; exact e
   rw [this]; exact h
theorem VB {s t : St} {ag : Option Nat} {x v : AV} {ps : List Rt} (h : xM s ag x = some (v,ps)) (hs : xk (vk x v ps) s t) : xM t ag x = some (v,ps) := by
 by_cases hx : ∃ b off k o l,x = .ptr b off /\ v = .dG k (.c b off) o l
 ·obtain ⟨b,off,k,o,l,rfl,rfl⟩ := hx;have NP := hs.2 b off (by simp [vk]);unfold xM at h ⊢;simp only at h ⊢;split at h
  case h_2 => cases h
  rename_i cs hb;split at h
  case h_2 => cases h
  rename_i u hu;simp only [ah,aJ] at h;obtain ⟨rfl,h2⟩ := h;obtain ⟨ds,d1,d2⟩ := NP cs hb
  have : J3 ag ((eM (.c b) 0 ds).drop off) = some (.dG k (.c b off) o l) := aaW hu (by
   rw [aU,aU];simpa using d2)
  simp only [d1,this,h2]
 ·refine PC h (hs.1 ps ?_);unfold vk;split
  ·rename_i b off k d j o l;split
   ·rename_i hc;obtain ⟨rfl,rfl⟩ := hc;exact absurd ⟨_,_,_,_,_,rfl,rfl⟩ hx
   ·rfl
  ·rfl
end
end Go.Bm

/- Operations that change nothing that is there: what they answer depends on the slots they read and on the places they name. -/
namespace Go.Bm
open Go.Am
section
variable {P : Program} {c : eE} {call : Nat -> List AV -> Heap -> Option (AV × Heap)}
theorem Seen.left {ps qs : List Rt} {s t : St} (h : Seen (ps ++ qs) s t) : Seen ps s t := fun p hp => h p (by simp [hp])
theorem Seen.right {ps qs : List Rt} {s t : St} (h : Seen (ps ++ qs) s t) : Seen qs s t := fun p hp => h p (by simp [hp])
mutual
theorem Gq {b : Bool} {s t : St} : ∀ x,Seen (aP x) s t -> kS b t x = kS b s x
 | .dG k p off len,h => by simp only [kS]; rw [(h p (by simp [aP])).1]
 | .agg cs,h => by simp only [kS]; rw [qh cs (by simpa [aP] using h)]
 | .dB cs,h => by simp only [kS]; rw [qh cs (by simpa [aP] using h)]
 | .func f a b',h => by
   have h' : Seen (dh a ++ dh b') s t := by simpa [aP] using h
   simp only [kS]; rw [qh a h'.left,qh b' h'.right]
 | .own _ _,_ => rfl
 | .ptr _ _,_ => rfl
 | .fa _ _ _ _,_ => rfl
 | .sl _ _ _ _,_ => rfl
 | .any,_ => rfl
 | .undef,_ => rfl
 | .bool _,_ => rfl
 | .int _ _,_ => rfl
 | .fy,_ => rfl
 | .fD,_ => rfl
 | .dz,_ => rfl
 | .str _,_ => rfl
 | .dw _,_ => rfl
 | .list _ _,_ => rfl
theorem qh {b : Bool} {s t : St} : ∀ xs,Seen (dh xs) s t -> CG b t xs = CG b s xs
 | [],_ => rfl
 | x :: r,h => by
   have h' : Seen (aP x ++ dh r) s t := by simpa [dh] using h
   simp only [CG]; rw [Gq x h'.left,qh r h'.right]
end
theorem QK {s t : St} {k : Nat} {x : AV} (h : Seen (aP x) s t) : cont t k x = cont s k x := by
 cases x <;> try rfl
 case dG k' p off len => simp only [cont]; rw [(h p (by simp [aP])).1]
 case own k' xs => cases xs <;> rfl
theorem Qx {s t : St} {k b off len : Nat} (h : Seen [.c b 1] s t) : N6 t k b off len = N6 s k b off len := by
 unfold N6;rw [(h _ (cE.2 rfl)).2 b 1 rfl]
theorem Gt {s t : St} : ∀ xs,Seen (dh xs ++ Dv xs) s t -> s4 t xs = s4 s xs
 | [],_ => rfl
 | x :: r,h => by
   have hb : Seen (aP x ++ dh r) s t := by simpa [dh] using h.left
   have hsl : Seen (Dv r) s t := fun p hp => h p (aG.2 (.inr (by cases x <;> simp [Dv,hp])));have ih := Gt r fun p hp => (aG.1 hp).elim (fun q => hb.right p q) (hsl p);have hx := Gq (b := false) x hb.left;cases x <;> try (simp only [s4]; rw [hx,ih]; done)
   case sl k b off len =>
    simp only [s4];rw [ih,Qx fun p hp => h p (aG.2 (.inr (by simp [Dv,cE.1 hp])))]
   case own k xs =>
    cases xs with
    | nil => simp only [s4]; rw [ih]
    | cons y ys => simp only [s4]; rw [hx,ih]
def calm : Fq -> Bool
 | .no | .rc _ _ | .rd _ | .al _ => true
 | _ => false
def yt (s s1 : St) (kd : Kd) (f : Fq) (v : AV) (g : St -> Option (AV × St × Fq)) : Prop :=
 ∃ T,s1 = ⟨s.env,s.H ++ T⟩ /\ (T = [] \/ ∃ z,T = [z] /\ f = .al s.H.length) /\ ∀ t : St,(∀ i ∈ kd.reads,eW i (get t.env i) = eW i (get s.env i)) -> xk f s t -> (∀ n,f = .al n -> t.H.length = n) -> g t = some (v,⟨t.env,t.H ++ T⟩,f)
theorem vj (x v : AV) (ps : List Rt) : vk x v ps = .rd ps \/ ∃ b j,vk x v ps = .rc b j := by
 unfold vk;split
 ·split
  ·exact .inr ⟨_,_,rfl⟩
  ·exact .inl rfl
 ·exact .inl rfl
theorem yt.still {s : St} {kd : Kd} {f : Fq} {v : AV} {g : St -> Option (AV × St × Fq)} (h : ∀ t : St,(∀ i ∈ kd.reads,eW i (get t.env i) = eW i (get s.env i)) -> xk f s t -> g t = some (v,t,f)) : yt s s kd f v g :=
 ⟨[],by simp,.inl rfl,fun t h1 h2 _ => by rw [h t h1 h2]; simp⟩
end
end Go.Bm

/- Every calm operation depends on what it names alone. -/
namespace Go.Bm
open Go.Am
section
variable {P : Program} {c : eE} {call : Nat -> List AV -> Heap -> Option (AV × Heap)}
theorem Xo {s s' : St} {b off k : Nat} {v : AV} {f : Fq} (h : wR s b off k v = some (s',f)) : calm f = false := by
 unfold wR at h
 repeat' split at h
 all_goals first
  | (cases h; done)
  | (simp at h; obtain ⟨_,rfl⟩ := h; rfl)
theorem Pm {s s' : St} {k : Nat} {a v : AV} {f : Fq} (h : OR s k a v = some (s',f)) : calm f = false := by
 unfold OR at h;split at h
 ·exact Xo h
 ·repeat' split at h
  all_goals first
   | (cases h; done)
   | (simp at h; obtain ⟨_,rfl⟩ := h; rfl)
 ·cases h
theorem wA (s : St) (l : List Rt) : lR s l = .all \/ ∃ sl bs,lR s l = .wr sl bs := by
 unfold lR;split
 ·split
  ·exact .inr ⟨_,_,rfl⟩
  ·exact .inl rfl
 ·exact .inl rfl
theorem Cg (s : St) (l : List Rt) : calm (lR s l) = false := by rcases wA s l with e | ⟨_,_,e⟩ <;> rw [e] <;> rfl
theorem Bb (s : St) (l ps : List Rt) : (lR s l = .bo ps) = False := by rcases wA s l with e | ⟨_,_,e⟩ <;> rw [e] <;> simp
theorem wB (s : St) (l : List Rt) (n : Nat) : (lR s l = .al n) = False := by rcases wA s l with e | ⟨_,_,e⟩ <;> rw [e] <;> simp
theorem Ba (s : St) (l : List Rt) (n : Nat) : (lR s l = .lw n) = False := by rcases wA s l with e | ⟨_,_,e⟩ <;> rw [e] <;> simp
theorem Of {s s1 : St} {kd : Kd} {v : AV} {f : Fq} (h : dU c call kd s = some (v,s1,f)) (hf : calm f = true) : yt s s1 kd f v (dU c call kd) := by
 unfold dU at h;split at h
 ·cases h
 rename_i f0 args ha;split at h
 ·cases h
 rename_i md q hq;split at h
 ·rename_i hm;split at h
  ·cases h
  rename_i qU hz;split at h
  case h_2 => cases h
  rename_i r H' hc;split at h
  case isFalse => cases h
  rename_i hr;simp at h;obtain ⟨rfl,rfl,rfl⟩ := h;refine .still fun t h1 h2 => ?_
  have hs : Seen (dh args ++ Dv args) s t := by
   by_cases he : (dh args ++ Dv args).isEmpty = true
   ·rw [ff.1 he]; intro p hp; simp at hp
   ·exact h2.1 _ (by simp [he] <;> simpa using he)
  unfold dU;rw [iL h1,ha];simp only [hq,hm,if_true,Gt args hs,hz,hc,hr];simp
 ·rename_i hm;split at h
  ·cases h
  rename_i f1 nO NY;split at h
  case isFalse => cases h
  rename_i Zy;split at h
  ·repeat' split at h
   all_goals first
    | (cases h; done)
    | (simp at h; obtain ⟨_,_,rfl⟩ := h; exfalso; simp [calm] at hf; done)
    | (simp at h; obtain ⟨_,_,rfl⟩ := h; exfalso; revert hf; split <;> simp [calm])
  ·rename_i jG;split at h
   case isFalse => cases h
   rename_i hp;split at h
   case h_2 => cases h
   rename_i r H' hc;split at h
   case isFalse => cases h
   rename_i hr;simp at h;obtain ⟨rfl,rfl,rfl⟩ := h
   have he : dh args = [] := by
    cases hb : dh args with
    | nil => rfl
    | cons x y => rw [hb] at hf; simp [Cg] at hf
   rw [he] at NY ⊢;simp only [dR] at NY ⊢;refine .still fun t h1 h2 => ?_;unfold dU;rw [iL h1,ha];simp only [hq,hm,he,dR,bn,if_false];rw [iL h1,NY];simp only [Zy,if_true,jG,hp,hc,hr,bn,if_false];simp
theorem wv {s : St} {kd : Kd} (h : oP c s kd = none) (t : St) : oP c t kd = none := by
 unfold oP at h ⊢;split at h
 ·split at h
  ·rename_i f x es hi;split at h
   ·rename_i he; simp only [hi,he]
   ·cases h
  ·cases h
 ·rfl
theorem AR {s : St} {kd : Kd} (h : l7 c call s kd = none) (t : St) : l7 c call t kd = none := by
 unfold l7 at h ⊢;split at h
 ·rename_i f x es;split at h
  ·cases h
  ·rename_i hl;exact if_neg hl
 ·rfl
theorem ab8 {s s1 : St} {g : Nat -> List AV -> List AV -> Option (List AV)} {x : AV} {es : List AV} {v : AV} {f : Fq} (h : QD s g x es = some (v,s1,f)) : ∃ sl bs,f = .wr sl bs \/ f = .all := by unfold QD at h;cases h
theorem zI {s s1 : St} {kd : Kd} {v : AV} {f : Fq} (h : oP c s kd = some (some (v,s1,f))) : ∃ sl bs,f = .wr sl bs \/ f = .all := by
 unfold oP at h;split at h
 case h_2 => cases h
 split at h
 case h_1 =>
  split at h
  ·cases h
  ·simp only [ah] at h;exact ab8 h
 simp only [ah] at h
 (repeat' split at h) <;> simp at h
 all_goals first
  | exact ⟨_,_,.inl h.2.2.symm⟩
  | exact ⟨[],none,.inr h.2.2.symm⟩
theorem AN {aiW : Nat -> List AV -> Heap -> Option (AV × Heap)} {s : St} {kd : Kd} (h : q8 c call s kd = none) (t : St) : q8 c aiW t kd = none := by
 unfold q8 at h ⊢;split at h
 ·split at h
  ·cases h
  ·rename_i hm;simp only [hm]
 ·rfl
theorem wi {s s1 : St} {kd : Kd} {v : AV} {f : Fq} (h : q8 c call s kd = some (some (v,s1,f))) : f = .all /\ ∃ k ys,v = .own k ys := by
 unfold q8 at h;split at h
 case h_2 => cases h
 split at h
 case h_2 => cases h
 simp only [ah] at h;unfold M0 at h
 (repeat' split at h) <;> first
  | (cases h; done)
  | (simp only [ah,aJ] at h; exact ⟨h.2.2.symm,_,_,h.1.symm⟩)
theorem LA {s s1 : St} {kd : Kd} {v : AV} {f : Fq} (h : gq c call kd s = some (v,s1,f)) (hf : calm f = true) : yt s s1 kd f v (gq c call kd) := by
 unfold gq at h;cases hm : q8 c call s kd with
 | some r =>
   rw [hm] at h;simp only at h;subst h;obtain ⟨rfl,_⟩ := wi hm;simp [calm] at hf
 | none =>
   rw [hm] at h;rcases js h with h | h
   ·obtain ⟨T,h1,h2,h3⟩ := Of h hf;refine ⟨T,h1,h2,fun t a b d => ?_⟩;unfold gq;rw [AN hm t];exact qi (h3 t a b d)
   ·obtain ⟨rfl,_⟩ := v7 h;simp [calm] at hf
theorem zV {s s1 : St} {kd : Kd} {v : AV} {f : Fq} (h : dA c call kd s = some (v,s1,f)) (hf : calm f = true) : yt s s1 kd f v (dA c call kd) := by
 unfold dA at h;cases hi : oP c s kd with
 | some r =>
   rw [hi] at h;simp only at h;subst h;obtain ⟨sl,bs,rfl | rfl⟩ := zI hi <;> simp [calm] at hf
 | none =>
   rw [hi] at h;cases hl : l7 c call s kd with
   | some r =>
     rw [hl] at h;simp only at h;subst h;obtain ⟨b,rfl⟩ := CX hl;simp [calm] at hf
   | none =>
     rw [hl] at h;obtain ⟨T,h1,h2,h3⟩ := LA h hf;refine ⟨T,h1,h2,fun t a b d => ?_⟩;unfold dA;rw [wv hi t,AR hl t];exact h3 t a b d
end
end Go.Bm

/- Every operation that is calm depends on what it names alone. -/
namespace Go.Bm
open Go.Am
section
variable {P : Program} {c : eE} {call : Nat -> List AV -> Heap -> Option (AV × Heap)}
theorem Yk {s s1 : St} {kd : Kd} {v : AV} {f : Fq} (h : fH c call s kd = some (v,s1,f)) (hf : calm f = true) : yt s s1 kd f v (fun t => fH c call t kd) := by
 have pure : ∀ {kd : Kd} {v : AV} {s1 : St} {f : Fq},(match PE c s.env kd with
   | some v => some (v,s,Fq.no)
   | none => none) = some (v,s1,f) -> yt s s1 kd f v (fun t => match PE c t.env kd with
   | some v => some (v,t,Fq.no)
   | none => none) := by
  intro kd v s1 f h;split at h
  case h_2 => cases h
  rename_i u hu;simp at h;obtain ⟨rfl,rfl,rfl⟩ := h;refine .still fun t h1 _ => ?_;simp only [II (c := c) h1,hu]
 cases kd
 case call f0 xs => simp only [fH] at h ⊢; exact zV h hf
 case jc x xs => simp only [fH] at h ⊢; exact zV h hf
 case ld ag x =>
  simp only [fH] at h;split at h
  case h_2 => cases h
  rename_i u ps hp;split at h
  case isFalse => cases h
  rename_i hl;simp at h;obtain ⟨rfl,rfl,rfl⟩ := h;refine .still fun t h1 h2 => ?_;simp only [fH,cm (c := c) h1,VB hp h2,hl,if_true]
 case copy k x y =>
  exfalso;simp only [fH] at h
  (repeat' split at h) <;> first
   | (cases h; done)
   | (simp only [ah,aJ] at h; obtain ⟨_,_,rfl⟩ := h; first
     | (simp [calm] at hf; done)
     | (rcases vB _ _ with e | ⟨_,_,_,_,e⟩ <;> rw [e] at hf <;> simp [calm] at hf))
 case HK n x hi =>
  simp only [fH] at h;split at h
  ·rename_i b off hx;split at h
   case h_2 => cases h
   rename_i m cs hm hb;split at h
   case isFalse => cases h
   rename_i hl;simp at h;obtain ⟨rfl,rfl,rfl⟩ := h;refine .still fun t h1 h2 => ?_;simp only [Kd.reads,aG] at h1;have e := ((h2.1 _ rfl) _ (cE.2 rfl)).2 b 1 rfl;have Qi : yk c t.env n n hi = some m := by rw [yj (c := c) fun i hi => h1 i (.inr hi)]; exact hm
   simp only [fH,cm (c := c) fun i hi => h1 i (.inl hi),hx,Qi,e,hb,hl,if_true]
  ·rename_i iK;split at h
   case h_2 => cases h
   rename_i u hu;simp at h;obtain ⟨rfl,rfl,rfl⟩ := h;refine .still fun t h1 _ => ?_;have e := II (c := c) h1;simp only [Kd.reads,aG] at h1;have ex : bt c t.env x = bt c s.env x := cm (c := c) fun i hi => h1 i (.inl hi);simp only [fH,ex,e,hu]
 case new zs =>
  simp only [fH] at h;simp at h;obtain ⟨rfl,rfl,rfl⟩ := h;exact ⟨_,rfl,.inr ⟨_,rfl,rfl⟩,fun t _ _ h3 => by simp only [fH]; rw [h3 _ rfl]⟩
 case box x =>
  simp only [fH] at h;split at h
  case isFalse => cases h
  rename_i hl;simp at h;obtain ⟨rfl,rfl,rfl⟩ := h;refine ⟨_,rfl,.inr ⟨_,rfl,rfl⟩,fun t h1 _ h3 => ?_⟩;simp only [fH,cm (c := c) h1,hl,if_true];rw [h3 _ rfl]
 case dY k n zs ps =>
  simp only [fH] at h;split at h
  case h_2 => cases h
  rename_i cs hc;split at h
  case isFalse => cases h
  rename_i hz;simp at h;obtain ⟨rfl,rfl,rfl⟩ := h
  have he : gW c s.env ps = [] := by
   cases hb : gW c s.env ps with
   | nil => rfl
   | cons x y => rw [hb] at hf; simp [Cg] at hf
  rw [he] at hc ⊢;simp only [dR] at hc ⊢;refine .still fun t h1 _ => ?_;simp only [fH,qa (c := c) h1,he,dR,qS (c := c) h1,hc,hz,if_true];simp
 case st k a v =>
  exfalso;simp only [fH] at h;split at h
  ·split at h
   case h_2 => cases h
   rename_i hh;have h4 := Pm hh;simp only [ah,aJ] at h;obtain ⟨_,_,h5⟩ := h;rw [<- h5] at hf;split at hf
   ·rw [hf] at h4; cases h4
   ·simp [calm] at hf
  ·split at h
   case h_2 => cases h
   rename_i hh;have h4 := Pm hh;simp only [ah,aJ] at h;obtain ⟨_,_,h5⟩ := h;rw [<- h5] at hf;rw [hf] at h4;cases h4
 case app k x y =>
  simp only [fH] at h;split at h
  case h_2 => cases h
  rename_i ys hy;split at h
  case isFalse => cases h
  rename_i hl;split at h
  ·rename_i k' hx;split at h
   case isFalse => cases h
   rename_i hle;simp at h;obtain ⟨rfl,rfl,rfl⟩ := h;refine .still fun t h1 h2 => ?_;simp only [Kd.reads,aG] at h1;simp only [fH];rw [cm (c := c) fun i hi => h1 i (.inl hi),cm (c := c) fun i hi => h1 i (.inr hi),QK (h2.1 _ rfl),hy];simp only [hl,if_true,hx,hle]
  ·exfalso
   repeat' split at h
   all_goals first
    | (cases h; done)
    | (simp at h; obtain ⟨_,_,rfl⟩ := h; simp [calm] at hf)
  ·cases h
 case Hd k zs l cp =>
  simp only [fH] at h;split at h
  case h_2 => cases h
  rename_i k1 n1 k2 n2 e1 e2;split at h
  case isFalse => cases h
  rename_i hb;split at h
  ·rename_i z hz;simp at h;obtain ⟨rfl,rfl,rfl⟩ := h;refine ⟨_,rfl,.inr ⟨_,rfl,rfl⟩,fun t h1 _ h3 => ?_⟩;simp only [Kd.reads,aG] at h1;simp only [fH];rw [cm (c := c) fun i hi => h1 i (.inl hi),cm (c := c) fun i hi => h1 i (.inr hi),e1,e2];simp only [hb,and_self,if_true,hz];rw [h3 _ rfl]
  ·rename_i hz;simp at h;obtain ⟨rfl,rfl,rfl⟩ := h;refine .still fun t h1 h2 => ?_;simp only [Kd.reads,aG] at h1;simp only [fH];rw [cm (c := c) fun i hi => h1 i (.inl hi),cm (c := c) fun i hi => h1 i (.inr hi),e1,e2];simp only [hb,and_self,if_true,hz]
 case Ov k zs x =>
  simp only [fH] at h;split at h
  case h_3 => cases h
  all_goals
   rename_i e1;simp at h;obtain ⟨rfl,rfl,rfl⟩ := h;refine .still fun t h1 h2 => ?_;simp only [fH,cm (c := c) h1,e1]
 all_goals
  simp only [fH] at h ⊢;exact pure h
end
end Go.Bm

/- A state without shadowed entries: who mentions a place, by what can be read. -/
namespace Go.Bm
open Go.Am
section
def KU : List Nat -> Env -> Env
 | _,[] => []
 | sn,(i,v) :: r => if mem i sn then KU sn r else (i,v) :: KU (i :: sn) r
theorem Lu : ∀ (sn : List Nat) (e : Env) (i : Nat),get (KU sn e) i = if mem i sn = true then .any else get e i
 | sn,[],i => by simp [KU,Am.get]
 | sn,(j,v) :: r,i => by
   unfold KU;by_cases hj : mem j sn = true
   ·rw [if_pos hj,Lu sn r i];by_cases hi : mem i sn = true
    ·simp [hi]
    ·simp only [hi,bn,if_false,Am.get];have : j ≠ i := fun e => hi (e ▸ hj);have h2 : i ≠ j := fun e => this e.symm;simp [hi,h2]
   ·rw [if_neg hj];simp only [Am.get];rw [Lu (j :: sn) r i];by_cases HD : j = i
    ·subst HD;simp [hj]
    ·have h2 : i ≠ j := fun e => HD e.symm
     have : mem i (j :: sn) = mem i sn := by
      conv => lhs; unfold mem
      rw [if_neg h2]
     simp only [this,h2,if_false]
theorem OG {f : Rt -> Bool} : ∀ {e : Env} {i : Nat},vH f (aP (get e i)) = true -> GY f e = true
 | [],i,h => by simp [Am.get,aP,vH] at h
 | (j,v) :: r,i,h => by
   simp only [Am.get] at h;simp only [GY,fN];split at h
   ·exact .inl h
   ·exact .inr (OG h)
theorem GX {f : Rt -> Bool} : ∀ {sn : List Nat} {e : Env},GY f (KU sn e) = true -> ∃ i,mem i sn = false /\ vH f (aP (Am.get e i)) = true
 | sn,[],h => by simp [KU,GY] at h
 | sn,(j,v) :: r,h => by
   unfold KU at h;by_cases hj : mem j sn = true
   ·rw [if_pos hj] at h;obtain ⟨i,h1,h2⟩ := GX h;have mW : i ≠ j := fun e => by rw [e,hj] at h1; cases h1
    exact ⟨i,h1,by simp only [Am.get]; rw [if_neg mW]; exact h2⟩
   ·rw [if_neg hj] at h;simp only [GY,fN] at h;rcases h with h | h
    ·exact ⟨j,by simpa using hj,by simp only [Am.get,if_true]; exact h⟩
    ·obtain ⟨i,h1,h2⟩ := GX h
     have mW : i ≠ j := fun e => by
      rw [e] at h1;unfold mem at h1;simp at h1
     refine ⟨i,?_,by simp only [Am.get]; rw [if_neg mW]; exact h2⟩;unfold mem at h1;rw [if_neg mW] at h1;exact h1
def PN (s : St) : St := ⟨KU [] s.env,s.H⟩
theorem px (s : St) : dM s (PN s) := ⟨fun i => by simp only [PN]; rw [Lu]; simp [mem],rfl⟩
end
end Go.Bm

/- A step is an operation's value, put to its slot; what a calm operation and one that writes a few places are worth. -/
namespace Go.Bm
open Go.Am
section
variable {P : Program} {c : eE} {call : Nat -> List AV -> Heap -> Option (AV × Heap)}
def Ch (c : eE) (call : Nat -> List AV -> Heap -> Option (AV × Heap)) (s : St) (q : O) : Option (AV × St × Fq) :=
 match q.guard with
 | none => fH c call s q.kd
 | some (g,want) => match get s.env g with
   | .bool b => if b = want then fH c call s q.kd else some (.undef,s,.no)
   | .undef => some (.undef,s,.no)
   | _ => none
theorem uy (s : St) (q : O) : qH c call s q = match Ch c call s q with
  | some (v,s',fl) => zS s.env q.dst v s' fl
  | none => none := by
 unfold qH Ch;cases hg : q.guard with
 | none => rfl
 | some p =>
   obtain ⟨g,want⟩ := p;simp only;generalize get s.env g = u;cases u <;> try rfl
   rename_i b;simp only;by_cases hb : b = want
   ·simp only [hb,if_true]; rfl
   ·simp only [hb,if_false]
def jM (s : St) (d : Option Nat) (v : AV) : St := match d with
 | none => s
 | some d => ⟨put s.env d v,s.H⟩
theorem il (s : St) (d : Option Nat) (v : AV) : (jM s d v).H = s.H := by cases d <;> rfl
theorem eF (s : St) (d : Option Nat) (v : AV) (i : Nat) : get (jM s d v).env i = if d = some i then v else get s.env i := by
 cases d with
 | none => simp [jM]
 | some d =>
   simp only [jM,bE];by_cases h : i = d
   ·subst h; simp
   ·have : d ≠ i := fun e => h e.symm;simp [h,this]
theorem Vy {s t : St} (h : dM s t) (d : Option Nat) (v : AV) : dM (jM s d v) (jM t d v) :=
 ⟨fun i => by rw [eF,eF,h.1 i],by rw [il,il]; exact h.2⟩
def Ev (c : eE) (call : Nat -> List AV -> Heap -> Option (AV × Heap)) (s : St) (q : O) (v : AV) (s1 : St) (f : Fq) : Prop :=
 xd q.kd = true /\ ∃ s0 t1,dM s s0 /\ Ch c call s0 q = some (v,t1,f) /\ dM t1 s1
theorem Ev.same {s t s1 t1 : St} {q : O} {v : AV} {f : Fq} (h : Ev c call s q v s1 f) (e : dM s t) (e1 : dM s1 t1) : Ev c call t q v t1 f := by
 obtain ⟨hk,s0,u1,a,b,d⟩ := h;exact ⟨hk,s0,u1,e.symm.trans a,b,d.trans e1⟩
structure Q1 (c : eE) (call : Nat -> List AV -> Heap -> Option (AV × Heap)) (s : St) (q : O) (v : AV) (s1 : St) (f : Fq) (X : Heap) : Prop where
 st : dM s1 ⟨s.env,s.H ++ X⟩
 nw : (X = [] /\ ∀ n,f ≠ .al n) \/ ∃ z,X = [z] /\ f = .al s.H.length
 go : ∀ t : St,(∀ i ∈ q.reads,eW i (get t.env i) = eW i (get s.env i)) -> xk f s t -> (∀ n,f = .al n -> t.H.length = n) -> Ev c call t q v ⟨t.env,t.H ++ X⟩ f
 val : ∀ V : Rt -> Prop,(∀ i ∈ q.reads,(∀ p ∈ aP (get s.env i),¬ V p) /\ ¬ V (.s i) /\ ∀ j,¬ V (.sc i j)) ->
  (∀ ps,f = .rd ps -> ∀ b,Rt.c b 0 ∈ ps -> ∀ cs,aN s.H b = some cs -> (∀ p ∈ dh cs,¬ V p) /\ (bK cs = true -> ∀ j,¬ V (.c b j))) ->
  (∀ b j,f = .rc b j -> ∀ cs c,aN s.H b = some cs -> cs[j]? = some c -> (∀ p ∈ aP c,¬ V p) /\ (∀ k xs,c = .own k xs -> ¬ V (.c b j))) -> ∀ p ∈ aP v,¬ V p
structure LwEv (c : eE) (call : Nat -> List AV -> Heap -> Option (AV × Heap)) (s : St) (q : O) (v : AV) (s1 : St) (b : Nat) (cs cs' : List AV) : Prop where
 bl : aN s.H b = some cs
 st : dM s1 ⟨s.env,s.H.set b (some cs')⟩
 go : ∀ t : St,(∀ i ∈ q.reads,get t.env i = get s.env i) -> aN t.H b = some cs -> Ev c call t q v ⟨t.env,t.H.set b (some cs')⟩ (.lw b)
structure WrEv (c : eE) (call : Nat -> List AV -> Heap -> Option (AV × Heap)) (s : St) (q : O) (v : AV) (s1 : St) (sl : List Nat) (bs : Option (List Nat)) (V : Rt -> Prop) : Prop where
 env : ∀ i,i ∉ sl -> i + kV ∉ sl -> get s1.env i = get s.env i
 hd : ∀ i,i ∉ sl -> eW i (get s1.env i) = eW i (get s.env i)
 keep : ∀ i,bJ (get s.env i) = false -> aP (get s.env i) = [] -> get s1.env i = get s.env i
 heap : ∀ l,bs = some l -> ∀ b,mu b l = false -> aN s1.H b = aN s.H b
 cell : ∀ l,bs = some l -> ∀ b j,b ∉ l -> tZ b j ∉ l -> qv b j s s1 /\ qv b j s1 s
 v1 : ∀ i,i ∉ sl -> (∀ p ∈ aP (get s.env i),¬ V p) /\ ¬ V (.s i) /\ ∀ j,¬ V (.sc i j)
 v2 : ∀ l,bs = some l -> ∀ b,mu b l = false -> b + kV ∉ l -> ∀ cs,aN s.H b = some cs -> (∀ p ∈ dh cs,¬ V p) /\ (bK cs = true -> ∀ j,¬ V (.c b j))
 v3 : ∀ l,bs = some l -> ∀ b j,b ∉ l -> b + kV ∉ l -> tZ b j ∉ l -> ∀ cs c,aN s.H b = some cs -> cs[j]? = some c -> (∀ p ∈ aP c,¬ V p) /\ (∀ k xs,c = .own k xs -> ¬ V (.c b j))
 go : ∀ d u,d ∉ q.reads -> d ∉ sl -> d + kV ∉ sl -> (∀ p ∈ aP u,¬ V p) -> ∃ t1 sl',Ev c call ⟨put s.env d u,s.H⟩ q v t1 (.wr sl' bs) /\ (∀ i ∈ sl',i ∈ sl) /\ dM t1 ⟨put s1.env d u,s1.H⟩
end
end Go.Bm

/- Two steps whose order is open commute, given what single operations are worth. -/
namespace Go.Bm
open Go.Am
section
variable {P : Program} {c : eE} {call : Nat -> List AV -> Heap -> Option (AV × Heap)}
def pf (c : eE) (call : Nat -> List AV -> Heap -> Option (AV × Heap)) : Prop := ∀ s q v s1 f,Ev c call s q v s1 f -> calm f = true -> ∃ X,Q1 c call s q v s1 f X
def Aa (c : eE) (call : Nat -> List AV -> Heap -> Option (AV × Heap)) : Prop := ∀ s q v s1 sl bs,Ev c call s q v s1 (.wr sl bs) -> ∃ V,WrEv c call s q v s1 sl bs V
def Ac (c : eE) (call : Nat -> List AV -> Heap -> Option (AV × Heap)) : Prop := ∀ s q v s1 b,Ev c call s q v s1 (.lw b) -> ∃ cs cs',LwEv c call s q v s1 b cs cs'
theorem agR {s s1 : St} {q : O} {v : AV} {f : Fq} (h : Ch c call s q = some (v,s1,f)) : ∀ ps,f ≠ .bo ps := by
 have fu : ∀ {kd : Kd} {v : AV} {s1 : St} {f : Fq},fH c call s kd = some (v,s1,f) -> ∀ ps,f ≠ .bo ps := by
  intro kd v s1 f h ps e;subst e
  have st : ∀ {s s' : St} {k : Nat} {a v : AV},OR s k a v ≠ some (s',.bo ps) := by
   intro s s' k a v h;unfold OR wR at h
   repeat' split at h
   all_goals first
    | (cases h; done)
    | (simp at h; done)
  have ic : ∀ {kd : Kd},oP c s kd ≠ some (some (v,s1,.bo ps)) := fun h => by
   obtain ⟨sl,bs,e | e⟩ := zI h <;> cases e
  have oc : ∀ {kd : Kd},dA c call kd s ≠ some (v,s1,.bo ps) := by
   intro kd h;unfold dA at h;split at h
   ·rename_i r hi; subst h; exact ic hi
   split at h
   ·rename_i r hi; subst h; obtain ⟨b,e⟩ := CX hi; cases e
   unfold gq at h;split at h
   ·rename_i r hi; subst h; obtain ⟨e,_⟩ := wi hi; cases e
   ·replace h := (js h).resolve_right fun h => by obtain ⟨e,_⟩ := v7 h; cases e
    unfold dU at h
    (repeat' split at h)
    all_goals first
     | (cases h; done)
     | (simp [Bb] at h; done)
     | (simp at h; obtain ⟨_,_,h5⟩ := h; revert h5; split <;> simp [Bb])
  cases kd <;> simp only [fH] at h
  case call => exact oc h
  case jc => exact oc h
  case st k a v =>
   split at h
   ·split at h
    case h_2 => cases h
    rename_i hh;simp only [ah,aJ] at h;obtain ⟨_,_,h5⟩ := h;split at h5
    ·rw [h5] at hh; exact st hh
    ·cases h5
   ·split at h
    case h_2 => cases h
    rename_i hh;simp only [ah,aJ] at h;obtain ⟨_,_,h5⟩ := h;rw [h5] at hh;exact st hh
  all_goals
   (repeat' split at h)
   all_goals first
    | (cases h; done)
    | (simp at h; done)
    | (simp [Bb] at h; done)
    | (simp at h; obtain ⟨_,_,h5⟩ := h; rcases vj _ _ _ with e | ⟨b,j,e⟩ <;> rw [e] at h5 <;> cases h5; done)
    | (simp at h; obtain ⟨_,_,h5⟩ := h; rcases vB _ _ with e | ⟨_,_,_,_,e⟩ <;> rw [e] at h5 <;> cases h5; done)
    | (simp at h; obtain ⟨_,_,h5⟩ := h; revert h5; split <;> simp)
 unfold Ch at h;split at h
 ·exact fu h
 ·split at h
  ·split at h
   ·exact fu h
   ·simp at h; obtain ⟨_,_,rfl⟩ := h; intro ps; simp
  ·simp at h; obtain ⟨_,_,rfl⟩ := h; intro ps; simp
  ·cases h
theorem Ev.fl {s s1 : St} {q : O} {v : AV} {f : Fq} (h : Ev c call s q v s1 f) : ∀ ps,f ≠ .bo ps := let ⟨_,_,_,_,b,_⟩ := h; agR b
theorem jC {e e' : Env} {d : Option Nat} {f : Fq} (h : ∀ i,d = some i -> get e i = get e' i) : bS e d f = bS e' d f := by
 unfold bS;cases d with
 | none => rfl
 | some d => simp only; rw [h d rfl]
theorem qI {e : Env} {d : Option Nat} {f : Fq} (h : mZ (bS e d f) = true) : ∀ i,d = some i -> bJ (get e i) = false := by
 rintro i rfl;unfold bS at h;cases hh : bJ (get e i) with
 | false => rfl
 | true => simp [hh,mZ] at h
theorem nA {e : Env} {d : Option Nat} {sl : List Nat} {bs : Option (List Nat)} (h : mZ (bS e d (.wr sl bs)) = true) : bS e d (.wr sl bs) = .wr sl bs /\ ∀ i,d = some i -> bJ (get e i) = false /\ aP (get e i) = [] := by
 refine ⟨?_,fun i hi => ⟨qI h i hi,?_⟩⟩
 ·unfold bS at h ⊢;cases d with
  | none => rfl
  | some d =>
    simp only at h ⊢;split at h
    ·simp [mZ] at h
    rename_i h1;rw [if_neg h1];split at h
    ·rename_i h2; rw [if_pos h2]
    ·simp [mZ] at h
 ·subst hi;unfold bS at h;simp only at h;split at h
  ·simp [mZ] at h
  ·split at h
   ·rename_i h2; exact ff.1 h2
   ·simp [mZ] at h
theorem uB {e : Env} {d : Option Nat} {b : Nat} (h : mZ (bS e d (.lw b)) = true) : bS e d (.lw b) = .lw b /\ ∀ i,d = some i -> bJ (get e i) = false /\ aP (get e i) = [] := by
 refine ⟨?_,fun i hi => ⟨qI h i hi,?_⟩⟩
 ·unfold bS at h ⊢;cases d with
  | none => rfl
  | some d =>
    simp only at h ⊢;split at h
    ·simp [mZ] at h
    rename_i h1;rw [if_neg h1];split at h
    ·rename_i h2; rw [if_pos h2]
    ·simp [mZ] at h
 ·subst hi;unfold bS at h;simp only at h;split at h
  ·simp [mZ] at h
  ·split at h
   ·rename_i h2; exact ff.1 h2
   ·simp [mZ] at h
theorem uC {e : Env} {d : Option Nat} {f : Fq} (h : mZ (bS e d f) = true) : mZ f = true := by
 unfold bS at h;split at h
 ·exact h
 ·split at h
  ·simp [mZ] at h
  ·split at h
   ·exact h
   ·split at h
    ·rfl
    ·rfl
    ·rfl
    ·simp [mZ] at h
theorem Bq {e e' : Env} {d : Option Nat} {sl sl' : List Nat} {bs bs' : Option (List Nat)} (h : ∀ i,d = some i -> bJ (get e i) = false /\ aP (get e i) = []) : bS e d (.wr sl bs) = .wr sl bs := by
 unfold bS;cases d with
 | none => rfl
 | some d => simp [h d rfl]
theorem TS.out (HC : pf c call) (HW : Aa c call) (HL : Ac c call) {s s' : St} {q : O} {f : Fq} (h : TS c call s q f s') (hf : mZ f = true) : ∃ v s1 f1,Ev c call s q v s1 f1 /\ mZ (bS s.env q.dst f1) = true /\ yz (bS s.env q.dst f1) f /\ dM s' (jM s1 q.dst v) := by
 obtain ⟨hk,s0,t1,f0,e0,HA,hle,e1⟩ := h;rw [uy] at HA;split at HA
 case h_2 => cases HA
 rename_i v u1 f1 he;have Qm := zR HA;have V6 : bS s0.env q.dst f1 = bS s.env q.dst f1 := jC fun i _ => (e0.1 i).symm
 have hcw : mZ (bS s.env q.dst f1) = true := by
  rw [<- V6,<- Qm];cases f0 <;> cases f <;> simp [yz,mZ] at hle hf ⊢
 have Zz : Ev c call s q v u1 f1 := ⟨hk,s0,u1,e0,he,dM.rfl'⟩;refine ⟨v,u1,f1,Zz,hcw,by rw [<- V6,<- Qm]; exact hle,?_⟩;unfold zS at HA;split at HA
 case h_2 => cases HA
 rename_i u2 hp;simp only [ah,aJ] at HA;obtain ⟨rfl,_⟩ := HA;refine e1.symm.trans ?_;cases hd : q.dst with
 | none => rw [hd] at hp; simp [xc] at hp; subst hp; exact dM.rfl'
 | some d =>
   rw [hd] at hp
   have iK : bJ (get u1.env d) = false := by
    have h0 := qI hcw d hd;have Ut := uC hcw;by_cases NU : calm f1 = true
    ·obtain ⟨X,hX⟩ := HC _ _ _ _ _ Zz NU;rw [hX.st.1 d];exact h0
    ·cases f1 <;> simp [calm,mZ] at NU Ut
     case wr sl bs =>
      obtain ⟨V,hV⟩ := HW _ _ _ _ _ _ Zz;have h2 := (nA hcw).2 d hd;rw [hV.keep d h2.1 h2.2];exact h0
     case lw b =>
      obtain ⟨cs,cs',hL⟩ := HL _ _ _ _ _ Zz;rw [hL.st.1 d];exact h0
     case bo => exact absurd rfl (Zz.fl _)
   simp only [xc,Vz,Mj,iK,fh,bn,if_false,ah] at hp;subst hp;exact dM.rfl'
theorem TS.mk (HC : pf c call) (HW : Aa c call) (HL : Ac c call) {s s1 s' : St} {q : O} {v : AV} {f f1 : Fq} (Zz : Ev c call s q v s1 f1) (hcw : mZ (bS s.env q.dst f1) = true) (hle : yz (bS s.env q.dst f1) f) (hs : dM s' (jM s1 q.dst v)) : TS c call s q f s' := by
 have hev' := Zz;obtain ⟨hk,s0,t1,e0,he,e1⟩ := hev';have V6 : bS s0.env q.dst f1 = bS s.env q.dst f1 := jC fun i _ => (e0.1 i).symm
 have xW : xc t1 q.dst v = some (jM t1 q.dst v) := by
  cases hd : q.dst with
  | none => rfl
  | some d =>
    have iK : bJ (get t1.env d) = false := by
     have h0 := qI hcw d hd;have Ut := uC hcw;rw [e1.1 d];by_cases NU : calm f1 = true
     ·obtain ⟨X,hX⟩ := HC _ _ _ _ _ Zz NU;rw [hX.st.1 d];exact h0
     ·cases f1 <;> simp [calm,mZ] at NU Ut
      case wr sl bs =>
       obtain ⟨V,hV⟩ := HW _ _ _ _ _ _ Zz;have h2 := (nA hcw).2 d hd;rw [hV.keep d h2.1 h2.2];exact h0
      case lw b =>
       obtain ⟨cs,cs',hL⟩ := HL _ _ _ _ _ Zz;rw [hL.st.1 d];exact h0
      case bo => exact absurd rfl (Zz.fl _)
    simp only [xc,Vz,Mj,iK,fh,bn,if_false,jM]
 refine ⟨hk,s0,jM t1 q.dst v,bS s.env q.dst f1,e0,?_,hle,(Vy e1 _ _).trans hs.symm⟩;rw [uy,he];simp only [zS,xW,V6]
end
end Go.Bm

/- Two steps whose order is open commute. -/
namespace Go.Bm
open Go.Am
section
variable {P : Program} {c : eE} {call : Nat -> List AV -> Heap -> Option (AV × Heap)}
theorem fS {d : Nat} : ∀ {ps : List Rt},hU d ps = true -> ∀ p ∈ ps,(∀ i,p = .s i -> i ≠ d) /\ ∀ i j,p = .sc i j -> i ≠ d
 | [],_,p,hp => by simp at hp
 | q :: r,h,p,hp => by
   have ih : hU d r = true -> p ∈ r -> _ := fun h hp => fS (d := d) h p hp;rcases aK.1 hp with e | e
   ·subst e;cases p with
    | s i => simp only [hU,ae,decide_eq_true_eq] at h; exact ⟨(fun k hk => by cases hk; exact h.1),fun k j hk => by cases hk⟩
    | sc i j => simp only [hU,ae,decide_eq_true_eq] at h; exact ⟨(fun k hk => by cases hk),fun k l hk => (by cases hk; exact h.1)⟩
    | c b j => exact ⟨(fun k hk => by cases hk),fun k l hk => by cases hk⟩
   ·have h' : hU d r = true := by
     cases q <;> simp only [hU,ae] at h
     ·exact h.2
     ·exact h.2
     ·exact h
    exact ih h' e
theorem s9 {sl : List Nat} {bs : Option (List Nat)} : ∀ {ps : List Rt},oS sl bs ps = true -> ∀ p ∈ ps,(∀ i,p = .s i -> i ∉ sl /\ i + kV ∉ sl) /\ (∀ i j,p = .sc i j -> i ∉ sl /\ i + kV ∉ sl) /\ ∀ b j,p = .c b j -> ∃ l,bs = some l /\ mu b l = false /\ (j = 0 -> b + kV ∉ l)
 | [],_,p,hp => by simp at hp
 | q :: r,h,p,hp => by
   have nm : ∀ {i : Nat} {l : List Nat},mem i l = false -> i ∉ l := fun h hi => by rw [mem_iff.2 hi] at h; cases h
   rcases aK.1 hp with e | e
   ·subst e;cases p with
    | s i => simp only [oS,ae,bH] at h; exact ⟨fun k hk => (by cases hk; exact ⟨nm h.1.1,nm h.1.2⟩),(fun k j hk => by cases hk),fun k j hk => by cases hk⟩
    | sc i j => simp only [oS,ae,bH] at h; exact ⟨(fun k hk => by cases hk),(fun k l hk => (by cases hk; exact ⟨nm h.1.1,nm h.1.2⟩)),fun k j hk => by cases hk⟩
    | c b j =>
      simp only [oS,ae] at h;refine ⟨(fun k hk => by cases hk),(fun k l hk => by cases hk),fun k l hk => ?_⟩;cases hk;cases bs with
      | none => simp at h
      | some l =>
        simp only [ae,bH,fN,decide_eq_true_eq] at h;exact ⟨l,rfl,h.1.1,fun e => h.1.2.elim (fun q => absurd e q) nm⟩
   ·have h' : oS sl bs r = true := by
     cases q <;> simp only [oS,ae] at h <;> exact h.2
    exact s9 h' p e
theorem FF {sl : List Nat} : ∀ {l : List Nat},FG sl l = true -> ∀ i ∈ l,i ∉ sl
 | [],_,i,hi => by simp at hi
 | j :: r,h,i,hi => by
   simp only [FG,ae,bH] at h;rcases aK.1 hi with e | e
   ·subst e; intro hm; rw [mem_iff.2 hm] at h; cases h.1
   ·exact FF h.2 i e
theorem lJ {n : Nat} : ∀ {ps : List Rt},gX n ps = true -> ∀ b j,Rt.c b j ∈ ps -> b < n
 | [],_,b,j,h => by simp at h
 | q :: r,h,b,j,hp => by
   rcases aK.1 hp with e | e
   ·subst e; simp only [gX,ae,decide_eq_true_eq] at h; exact h.1
   ·have h' : gX n r = true := by cases q <;> simp only [gX,ae] at h <;> first | exact h | exact h.2
    exact lJ h' b j e
theorem Seen.mk' {ps : List Rt} {s t : St} (h1 : ∀ p ∈ ps,(∀ i,p = .s i -> get t.env i = get s.env i) /\ (∀ i j,p = .sc i j -> get t.env i = get s.env i) /\ ∀ b j,p = .c b j -> aN t.H b = aN s.H b) : Seen ps s t := by
 intro p hp;obtain ⟨a,b,d⟩ := h1 p hp;refine ⟨?_,fun k l e => d k l e⟩;cases p with
 | s i => simp only [aC,at_]; rw [a i rfl]
 | sc i j => simp only [aC,at_]; rw [b i j rfl]
 | c k j => simp only [aC,at_]; rw [d k j rfl]
theorem vG {x y : O} (h : jI x y = true) : (∀ i,x.dst = some i -> i ∉ y.reads /\ y.dst ≠ some i) /\ ∀ i,y.dst = some i -> i ∉ x.reads /\ x.dst ≠ some i := by
 have nm : ∀ {i : Nat} {l : List Nat},mem i l = false -> i ∉ l := fun h hi => by rw [mem_iff.2 hi] at h; cases h
 unfold jI at h;simp only [ae] at h;obtain ⟨h1,h2⟩ := h;refine ⟨fun i hi => ?_,fun i hi => ?_⟩
 ·rw [hi] at h1;simp only [ae,bH,decide_eq_true_eq] at h1;exact ⟨nm h1.1,h1.2⟩
 ·rw [hi] at h2;simp only [bH] at h2;refine ⟨nm h2,fun e => ?_⟩;rw [e] at h1;simp only [ae,bH,decide_eq_true_eq] at h1;exact h1.2 hi
def Ak : Fq -> List Rt
 | .rd ps => ps
 | .bo ps => ps
 | .rc b _ => [.c b 0]
 | _ => []
theorem mB {e : Env} {d : Option Nat} {f : Fq} (h : mZ (bS e d f) = true) (hc : calm f = true) : Ak (bS e d f) = Ak f /\ (∀ n,f = .al n -> bS e d f = .al n) /\ (∀ n,bS e d f = .al n -> f = .al n) /\ ((∀ ps,bS e d f ≠ .bo ps) -> bS e d f = f /\ ∀ i,d = some i -> aP (get e i) = []) := by
 unfold bS at h ⊢;cases d with
 | none => exact ⟨rfl,fun n h => h,fun n h => h,fun _ => ⟨rfl,fun i hi => by cases hi⟩⟩
 | some d =>
   simp only at h ⊢;split at h
   ·simp [mZ] at h
   rename_i h1;rw [if_neg h1];split at h
   ·rename_i h2;rw [if_pos h2];exact ⟨rfl,fun n h => h,fun n h => h,fun _ => ⟨rfl,fun i hi => by cases hi; exact ff.1 h2⟩⟩
   ·rename_i h2;rw [if_neg h2];cases f <;> simp [calm,mZ] at hc h ⊢ <;> simp [Ak]
theorem yz.cw {f g : Fq} (h : yz f g) (hg : mZ g = true) : (∀ sl bs,f ≠ .wr sl bs) -> f = g := by
 intro hn;cases f <;> cases g <;> simp [yz,mZ] at h hg hn ⊢ <;> exact h
theorem IL {f g : Fq} (h : f.ok g = true) : mZ f = true /\ mZ g = true := by
 cases f <;> cases g <;> simp [Fq.ok,mZ] at h ⊢
theorem Yw {f g : Fq} {n m : Nat} (h : f.ok g = true) (hf : f = .al n) : g ≠ .al m := by
 subst hf; intro e; subst e; simp [Fq.ok] at h
theorem Yn {f g : Fq} {n : Nat} (h : f.ok g = true) (hf : f = .al n) : gX n (Ak g) = true := by
 subst hf; cases g <;> simp [Fq.ok,Ak,gX] at h ⊢ <;> exact h
theorem Tx {f g : Fq} {n : Nat} (h : f.ok g = true) (hg : g = .al n) : gX n (Ak f) = true := by
 subst hg; cases f <;> simp [Fq.ok,Ak,gX] at h ⊢ <;> exact h
theorem iN {d : Option Nat} {f : Fq} (h : yc d f = true) (hf : mZ f = true) : ∀ i,d = some i -> hU i (Ak f) = true := by
 rintro i rfl;cases f <;> simp [yc,Ak,hU] at h ⊢ <;> exact h
theorem HQ {sl : List Nat} {bs : Option (List Nat)} {y : O} {g : Fq} (h : HR (.wr sl bs) y g = true) : (∀ i ∈ y.reads,i ∉ sl) /\ (∀ i,y.dst = some i -> i ∉ sl /\ i + kV ∉ sl) /\ (∀ ps,g = .rd ps -> oS sl bs ps = true) /\ ∀ b j,g = .rc b j -> ∃ l,bs = some l /\ b ∉ l /\ b + kV ∉ l /\ tZ b j ∉ l := by
 have nm : ∀ {i : Nat} {l : List Nat},mem i l = false -> i ∉ l := fun h hi => by rw [mem_iff.2 hi] at h; cases h
 simp only [HR,ae] at h;obtain ⟨⟨h1,h2⟩,h3⟩ := h;refine ⟨FF h1,fun i hi => ?_,fun ps hp => ?_,fun b j hp => ?_⟩
 ·rw [hi] at h2; simp only [ae,bH] at h2; exact ⟨nm h2.1,nm h2.2⟩
 ·subst hp; exact h3
 ·subst hp;cases bs with
  | none => simp [LJ] at h3
  | some l =>
    simp only [LJ,ae,bH] at h3;exact ⟨l,rfl,nm h3.1,nm h3.2.1,nm h3.2.2⟩
theorem wI {H X : Heap} {b : Nat} (h : b < H.length) : aN (H ++ X) b = aN H b := by
 unfold aN; rw [List.getElem?_append_left h]
theorem sB {b : Nat} : ∀ {l : List Nat},mu b l = true ↔ ∃ x ∈ l,x = b \/ Ld b x = true
 | [] => by simp [mu]
 | x :: r => by
   simp only [mu,fN,decide_eq_true_eq,sB (l := r),aK,exists_eq_or_imp];exact ⟨fun h => h.elim (fun h => .inl (.inl h)) (fun h => h.elim (fun h => .inl (.inr h)) .inr),fun h => h.elim (fun h => h.elim .inl (fun h => .inr (.inl h))) (fun h => .inr (.inr h))⟩
theorem JI {b : Nat} {l l' : List Nat} (h : ∀ x ∈ l,x ∈ l') (hb : mu b l' = false) : mu b l = false := by
 cases e : mu b l with
 | false => rfl
 | true =>
   obtain ⟨x,h1,h2⟩ := sB.1 e;rw [sB.2 ⟨x,h x h1,h2⟩] at hb;cases hb
theorem mP {b : Nat} {l : List Nat} (h : mu b l = false) : b ∉ l /\ ∀ j,tZ b j ∉ l := by
 refine ⟨fun hb => ?_,fun j hb => ?_⟩
 ·rw [sB.2 ⟨b,hb,.inl rfl⟩] at h; cases h
 ·rw [sB.2 ⟨_,hb,.inr (by
   unfold Ld tZ OO;simp only [ae,decide_eq_true_eq];refine ⟨by omega,by omega,?_⟩;rw [Nat.add_sub_cancel_left];exact Nat.mul_mod_left _ _)⟩] at h
  cases h
theorem qv.of_eq {b j : Nat} {s t : St} (h : aN t.H b = aN s.H b) : qv b j s t := fun cs hc => ⟨cs,by rw [h]; exact hc,rfl⟩
theorem Wp (HC : pf c call) (HW : Aa c call) (HL : Ac c call) {s s1 s2 u1 u2 : St} {x y : O} {f g f1 g1 : Fq} {vx vy : AV} (hx : Ev c call s x vx u1 f1) (Ur : mZ (bS s.env x.dst f1) = true) (CB : yz (bS s.env x.dst f1) f) (Un : dM s1 (jM u1 x.dst vx)) (hy : Ev c call s1 y vy u2 g1) (Wc : mZ (bS s1.env y.dst g1) = true) (CA : yz (bS s1.env y.dst g1) g) (Um : dM s2 (jM u2 y.dst vy)) (OW : calm f1 = true) (HF : calm g1 = true) (A8 : jI x y = true) (dg : iZ x f y g = true) :
  ∃ Hn,TS c call s y g Hn /\ TS c call Hn x f s2 := by
 obtain ⟨ax,ay⟩ := vG A8;simp only [iZ,ae] at dg;obtain ⟨⟨dg,ZA,ya⟩,_⟩ := dg;obtain ⟨cf,cg⟩ := IL dg;obtain ⟨X,hX⟩ := HC _ _ _ _ _ hx OW;obtain ⟨Y,hY⟩ := HC _ _ _ _ _ hy HF;obtain ⟨r1,r2,r3,_⟩ := mB Ur OW;obtain ⟨q1,q2,q3,_⟩ := mB Wc HF
 have nwx : ∀ sl bs,bS s.env x.dst f1 ≠ .wr sl bs := fun sl bs e => by
  have := uC Ur;unfold bS at e;cases f1 <;> simp [calm] at OW <;> (repeat' split at e) <;> simp_all
 have nwy : ∀ sl bs,bS s1.env y.dst g1 ≠ .wr sl bs := fun sl bs e => by
  unfold bS at e;cases g1 <;> simp [calm] at HF <;> (repeat' split at e) <;> simp_all
 have ef : bS s.env x.dst f1 = f := CB.cw cf nwx;have eg : bS s1.env y.dst g1 = g := CA.cw cg nwy;have Cf : ∀ i,get s1.env i = if x.dst = some i then vx else get s.env i := fun i => by rw [Un.1,eF,hX.st.1]
 have H1 : s1.H = s.H ++ X := by rw [Un.2,il,hX.st.2]
 have Lx : ∀ i,x.dst = some i -> y.dst ≠ some i := fun i h => (ax i h).2
 -- y from s
 have yr : ∀ i ∈ y.reads,get s.env i = get s1.env i := fun i hi => by
  rw [Cf,if_neg];intro e;exact (ax i e).1 hi
 have yC : ∀ ps,g1 = .rd ps -> Seen ps s1 s := fun ps ui => by
  have vp : Ak g = ps := by rw [<- eg,q1,ui]; rfl
  refine Seen.mk' fun p hp => ⟨fun i e => ?_,fun i j e => ?_,fun b j e => ?_⟩
  ·rw [Cf,if_neg];intro e2;have := iN ZA cg i e2;rw [vp] at this;exact (fS this p hp).1 i e rfl
  ·rw [Cf,if_neg];intro e2;have := iN ZA cg i e2;rw [vp] at this;exact (fS this p hp).2 i j e rfl
  ·subst e;rw [H1];rcases hX.nw with ⟨e,_⟩ | ⟨z,e,e2⟩
   ·rw [e]; simp
   ·have := Yn dg (by rw [<- ef]; exact r2 _ e2);rw [vp] at this;exact (wI (lJ this b j hp)).symm
 have yC : xk g1 s1 s := ⟨yC,fun b j hg => by
  refine .of_eq ?_;rw [H1];rcases hX.nw with ⟨e,_⟩ | ⟨z,e,e2⟩
  ·rw [e]; simp
  ·have := Yn dg (by rw [<- ef]; exact r2 _ e2);rw [show Ak g = [.c b 0] by rw [<- eg,q1,hg]; rfl] at this;exact (wI (lJ this b 0 (by simp))).symm⟩
 have yal : ∀ n,g1 = .al n -> s.H.length = n := fun n hn => by
  rcases hX.nw with ⟨e,_⟩ | ⟨z,e,e2⟩
  ·rcases hY.nw with ⟨e3,e4⟩ | ⟨z3,e3,e4⟩
   ·exact absurd hn (e4 n)
   ·rw [e4] at hn; cases hn; rw [H1,e]; simp
  ·exfalso;exact Yw dg (by rw [<- ef]; exact r2 _ e2) (by rw [<- eg]; exact q2 n hn)
 have C2 := hY.go s (fun i hi => by rw [yr i hi]) yC yal
 have gy : ∀ i,y.dst = some i -> get s1.env i = get s.env i := fun i hi => by
  rw [Cf,if_neg];intro e;exact Lx i e hi
 have Rj : bS s.env y.dst g1 = bS s1.env y.dst g1 := jC fun i hi => (gy i hi).symm;refine ⟨jM ⟨s.env,s.H ++ Y⟩ y.dst vy,TS.mk HC HW HL C2 (by rw [Rj]; exact Wc) (by rw [Rj]; exact CA) dM.rfl',?_⟩
 -- x from there
 generalize ht : jM ⟨s.env,s.H ++ Y⟩ y.dst vy = t;have gt : ∀ i,get t.env i = if y.dst = some i then vy else get s.env i := fun i => by rw [<- ht,eF]
 have Ht : t.H = s.H ++ Y := by rw [<- ht,il]
 have Hl : s.H.length <= s1.H.length := by rw [H1]; simp
 have xr : ∀ i ∈ x.reads,get t.env i = get s.env i := fun i hi => by
  rw [gt,if_neg];intro e;exact (ay i e).1 hi
 have yD : ∀ ps,f1 = .rd ps -> Seen ps s t := fun ps ui => by
  have vp : Ak f = ps := by rw [<- ef,r1,ui]; rfl
  refine Seen.mk' fun p hp => ⟨fun i e => ?_,fun i j e => ?_,fun b j e => ?_⟩
  ·rw [gt,if_neg];intro e2;have := iN ya cf i e2;rw [vp] at this;exact (fS this p hp).1 i e rfl
  ·rw [gt,if_neg];intro e2;have := iN ya cf i e2;rw [vp] at this;exact (fS this p hp).2 i j e rfl
  ·subst e;rw [Ht];rcases hY.nw with ⟨e,_⟩ | ⟨z,e,e2⟩
   ·rw [e]; simp
   ·have h6 := Tx dg (by rw [<- eg]; exact q2 _ e2);rw [vp] at h6;have h7 := lJ h6 b j hp;rcases hX.nw with ⟨e3,_⟩ | ⟨z3,e3,e4⟩
    ·rw [H1,e3] at h7;exact wI (by simpa using h7)
    ·rw [ui] at e4; cases e4
 have yD : xk f1 s t := ⟨yD,fun b j hg => by
  refine .of_eq ?_;rw [Ht];rcases hY.nw with ⟨e,_⟩ | ⟨z,e,e2⟩
  ·rw [e]; simp
  ·have h6 := Tx dg (by rw [<- eg]; exact q2 _ e2);rw [show Ak f = [.c b 0] by rw [<- ef,r1,hg]; rfl] at h6;have h7 := lJ h6 b 0 (by simp);rcases hX.nw with ⟨e3,_⟩ | ⟨z3,e3,e4⟩
   ·rw [H1,e3] at h7;exact wI (by simpa using h7)
   ·rw [hg] at e4; cases e4⟩
 have xal : ∀ n,f1 = .al n -> t.H.length = n := fun n hn => by
  rcases hX.nw with ⟨_,e⟩ | ⟨z,e,e2⟩
  ·exact absurd hn (e n)
  ·rcases hY.nw with ⟨e3,_⟩ | ⟨z3,e3,e4⟩
   ·rw [Ht,e3]; rw [hn] at e2; cases e2; simp
   ·exfalso;exact Yw dg (by rw [<- ef]; exact r2 _ hn) (by rw [<- eg]; exact q2 _ e4)
 have Hz := hX.go t (fun i hi => by rw [xr i hi]) yD xal
 have gx : ∀ i,x.dst = some i -> get t.env i = get s.env i := fun i hi => by
  rw [gt,if_neg];exact Lx i hi
 have Rk : bS t.env x.dst f1 = bS s.env x.dst f1 := jC gx;refine TS.mk HC HW HL Hz (by rw [Rk]; exact Ur) (by rw [Rk]; exact CB) ⟨fun i => ?_,?_⟩
 ·rw [Um.1,eF,hY.st.1,eF];show (if y.dst = some i then vy else get s1.env i) = (if x.dst = some i then vx else get t.env i);rw [Cf,gt];by_cases e1 : x.dst = some i
  ·have := Lx i e1;simp [e1,this]
  ·simp [e1]
 ·rw [Um.2,il,hY.st.2,il];show s1.H ++ Y = t.H ++ X;rw [H1,Ht];rcases hX.nw with ⟨e,_⟩ | ⟨z,e,e2⟩
  ·rw [e]; simp
  ·rcases hY.nw with ⟨e3,_⟩ | ⟨z3,e3,e4⟩
   ·rw [e3]; simp
   ·exact absurd (by rw [<- eg]; exact q2 _ e4) (Yw dg (by rw [<- ef]; exact r2 _ e2))
theorem yz.sub {sl sl' : List Nat} {bs bs' : Option (List Nat)} (h : yz (.wr sl bs) (.wr sl' bs')) : ∀ i ∈ sl,i ∈ sl' := h.1
theorem yz.HP {f : Fq} {sl : List Nat} {bs : Option (List Nat)} (h : yz (.wr sl bs) f) (hc : mZ f = true) : ∃ sl' bs',f = .wr sl' bs' := by
 cases f <;> simp [yz,mZ] at h hc ⊢
theorem aim {f : Fq} {sl : List Nat} {bs : Option (List Nat)} (h : f.ok (.wr sl bs) = true) : (∀ ps,f ≠ .bo ps) /\ (∀ n,f ≠ .al n) := by
 cases f <;> simp [Fq.ok] at h ⊢
theorem Yl {f : Fq} {sl : List Nat} {bs : Option (List Nat)} (h : Fq.ok (.wr sl bs) f = true) : (∀ ps,f ≠ .bo ps) /\ (∀ n,f ≠ .al n) /\ ∀ sl bs,f ≠ .wr sl bs := by
 cases f <;> simp [Fq.ok] at h ⊢
theorem acf (HC : pf c call) (HW : Aa c call) (HL : Ac c call) {s s1 s2 u1 u2 : St} {x y : O} {f g f1 : Fq} {Vs : List Nat} {GN : Option (List Nat)} {vx vy : AV} (hx : Ev c call s x vx u1 f1) (Ur : mZ (bS s.env x.dst f1) = true) (CB : yz (bS s.env x.dst f1) f) (Un : dM s1 (jM u1 x.dst vx)) (hy : Ev c call s1 y vy u2 (.wr Vs GN)) (Wc : mZ (bS s1.env y.dst (.wr Vs GN)) = true) (CA : yz (bS s1.env y.dst (.wr Vs GN)) g) (Um : dM s2 (jM u2 y.dst vy)) (OW : calm f1 = true) (A8 : jI x y = true) (dg : iZ x f y g = true) :
  ∃ Hn,TS c call s y g Hn /\ TS c call Hn x f s2 := by
 obtain ⟨ax,ay⟩ := vG A8;simp only [iZ,ae] at dg;obtain ⟨⟨dg,ZA,ya⟩,_,hw⟩ := dg;obtain ⟨cf,cg⟩ := IL dg;obtain ⟨X,hX⟩ := HC _ _ _ _ _ hx OW;obtain ⟨V,hV⟩ := HW _ _ _ _ _ _ hy;obtain ⟨r1,r2,r3,r4⟩ := mB Ur OW;obtain ⟨q1,q2⟩ := nA Wc;rw [q1] at CA;obtain ⟨sl,bs,rfl⟩ := CA.HP cg;obtain ⟨o1,o2⟩ := aim dg
 have nwx : ∀ sl bs,bS s.env x.dst f1 ≠ .wr sl bs := fun sl bs e => by
  unfold bS at e;cases f1 <;> simp [calm] at OW <;> (repeat' split at e) <;> simp_all
 have ef : bS s.env x.dst f1 = f := CB.cw cf nwx;obtain ⟨e1,W9⟩ := r4 (fun ps e => o1 ps (ef ▸ e));have ef' : f1 = f := e1 ▸ ef
 have hX0 : X = [] := by
  rcases hX.nw with ⟨e,_⟩ | ⟨z,e,e2⟩
  ·exact e
  ·exact absurd (ef' ▸ e2) (o2 _)
 subst hX0;obtain ⟨w1,w2,w3,w4⟩ := HQ hw;have sub : ∀ {i : Nat},i ∉ sl -> i ∉ Vs := fun h hi => h (CA.sub _ hi);have Lx : ∀ i,x.dst = some i -> y.dst ≠ some i := fun i h => (ax i h).2;have Cf : ∀ i,get s1.env i = if x.dst = some i then vx else get s.env i := fun i => by rw [Un.1,eF,hX.st.1]
 have H1 : s1.H = s.H := by rw [Un.2,il,hX.st.2]; simp
 -- y from s
 have CD : ∃ t1 sl',Ev c call s y vy t1 (.wr sl' GN) /\ (∀ i ∈ sl',i ∈ Vs) /\ (∀ i,get t1.env i = if x.dst = some i then get s.env i else get u2.env i) /\ t1.H = u2.H := by
  cases hd : x.dst with
  | none =>
    refine ⟨u2,Vs,hy.same ⟨fun i => ?_,H1⟩ dM.rfl',fun i hi => hi,fun i => by simp,rfl⟩;rw [Cf,hd]; simp
  | some d =>
    obtain ⟨t1,sl',h1,h2,h3⟩ := hV.go d (get s.env d) (fun h => (ax d hd).1 h) (sub (w2 d hd).1) (sub (w2 d hd).2) (fun p hp => by rw [W9 d hd] at hp; simp at hp);refine ⟨t1,sl',h1.same ⟨fun i => ?_,H1⟩ dM.rfl',h2,fun i => ?_,h3.2⟩
    ·show get (put s1.env d (get s.env d)) i = get s.env i;rw [bE];split
     ·rename_i e; rw [e]
     ·rename_i e;rw [Cf,hd,if_neg];simp; exact fun h => e h.symm
    ·rw [h3.1];show get (put u2.env d (get s.env d)) i = _;rw [bE];by_cases e : i = d
     ·subst e; simp
     ·have : d ≠ i := fun h => e h.symm;simp [e,this]
 obtain ⟨t1,sl',C2,hsl',gt1,Ht1⟩ := CD
 have gy : ∀ i,y.dst = some i -> get s1.env i = get s.env i := fun i hi => by
  rw [Cf,if_neg];intro e;exact Lx i e hi
 have Rj : bS s.env y.dst (.wr sl' GN) = .wr sl' GN := Bq (sl' := sl') (bs' := GN) (e' := s.env) fun i hi => by rw [<- gy i hi]; exact q2 i hi
 have ley : yz (.wr sl' GN) (.wr sl bs) := ⟨fun i hi => CA.1 i (hsl' i hi),CA.2⟩;refine ⟨jM t1 y.dst vy,TS.mk HC HW HL C2 (by rw [Rj]; rfl) (by rw [Rj]; exact ley) dM.rfl',?_⟩;generalize ht : jM t1 y.dst vy = t;have gt : ∀ i,get t.env i = if y.dst = some i then vy else if x.dst = some i then get s.env i else get u2.env i := fun i => by rw [<- ht,eF,gt1]
 have Ht : t.H = u2.H := by rw [<- ht,il,Ht1]
 have OD : ∀ i,i ∉ sl -> i + kV ∉ sl -> y.dst ≠ some i -> get t.env i = get s.env i := fun i hi Wa hd => by
  rw [gt,if_neg hd];split
  ·rfl
  ·rename_i e;rw [hV.env i (sub hi) (sub Wa),Cf,if_neg e]
 have aas : ∀ i,i ∉ sl -> y.dst ≠ some i -> eW i (get t.env i) = eW i (get s.env i) := fun i hi hd => by
  rw [gt,if_neg hd];split
  ·rfl
  ·rename_i e;rw [hV.hd i (sub hi),Cf,if_neg e]
 have xr : ∀ i ∈ x.reads,eW i (get t.env i) = eW i (get s.env i) := fun i hi => aas i (w1 i hi) fun e => (ay i e).1 hi
 have yD : ∀ ps,f1 = .rd ps -> Seen ps s t := fun ps ui => by
  have vp : f = .rd ps := by rw [<- ef']; exact ui
  refine Seen.mk' fun p hp => ?_;obtain ⟨a1,a2,a3⟩ := s9 (w3 ps vp) p hp
  have ns : ∀ i,y.dst = some i -> (∀ k,p = .s k -> k ≠ i) /\ ∀ k j,p = .sc k j -> k ≠ i := fun i hi => by
   have := iN ya cf i hi;rw [vp] at this;exact fS this p hp
  refine ⟨fun i e => OD i (a1 i e).1 (a1 i e).2 fun h => (ns i h).1 i e rfl,fun i j e => OD i (a2 i j e).1 (a2 i j e).2 fun h => (ns i h).2 i j e rfl,fun b j e => ?_⟩;obtain ⟨l,e5,e6,_⟩ := a3 b j e;subst e5;have h8 := CA.2;cases GN with
  | none => simp at h8
  | some l0 =>
    rw [Ht,hV.heap l0 rfl b (JI h8 e6),H1]
 have yD : xk f1 s t := ⟨yD,fun b j ui => by
  have vp : f = .rc b j := by rw [<- ef']; exact ui
  obtain ⟨l,e5,e6,e7,e8⟩ := w4 b j vp;subst e5;have h8 := CA.2;cases GN with
  | none => simp at h8
  | some l0 =>
    have h9 := (hV.cell l0 rfl b j (fun h => e6 (h8 b h)) (fun h => e8 (h8 _ h))).1;intro cs hc;rw [<- H1] at hc;rw [Ht];exact h9 cs hc⟩
 have xal : ∀ n,f1 = .al n -> t.H.length = n := fun n hn => absurd (ef' ▸ hn) (o2 n);have Hz := hX.go t xr yD xal;have gx : ∀ i,x.dst = some i -> get t.env i = get s.env i := fun i hi => OD i (w2 i hi).1 (w2 i hi).2 (Lx i hi);have Rk : bS t.env x.dst f1 = bS s.env x.dst f1 := jC gx;refine TS.mk HC HW HL Hz (by rw [Rk]; exact Ur) (by rw [Rk]; exact CB) ⟨fun i => ?_,?_⟩
 ·rw [Um.1,eF,eF];show (if y.dst = some i then vy else get u2.env i) = (if x.dst = some i then vx else get t.env i);rw [gt];by_cases e1 : x.dst = some i
  ·have := Lx i e1;simp only [e1,this,if_true,if_false];rw [hV.env i (sub (w2 i e1).1) (sub (w2 i e1).2),Cf,if_pos e1]
  ·simp [e1]
 ·rw [Um.2,il,il];show u2.H = t.H ++ [];rw [Ht]; simp
theorem acd (HC : pf c call) (HW : Aa c call) (HL : Ac c call) {s s1 s2 u1 u2 : St} {x y : O} {f g g1 : Fq} {Vs : List Nat} {GN : Option (List Nat)} {vx vy : AV} (hx : Ev c call s x vx u1 (.wr Vs GN)) (Ur : mZ (bS s.env x.dst (.wr Vs GN)) = true) (CB : yz (bS s.env x.dst (.wr Vs GN)) f) (Un : dM s1 (jM u1 x.dst vx)) (hy : Ev c call s1 y vy u2 g1) (Wc : mZ (bS s1.env y.dst g1) = true) (CA : yz (bS s1.env y.dst g1) g) (Um : dM s2 (jM u2 y.dst vy)) (HF : calm g1 = true) (A8 : jI x y = true) (dg : iZ x f y g = true) :
  ∃ Hn,TS c call s y g Hn /\ TS c call Hn x f s2 := by
 obtain ⟨ax,ay⟩ := vG A8;simp only [iZ,ae] at dg;obtain ⟨⟨dg,ZA,ya⟩,hw,_⟩ := dg;obtain ⟨cf,cg⟩ := IL dg;obtain ⟨V,hV⟩ := HW _ _ _ _ _ _ hx;obtain ⟨Y,hY⟩ := HC _ _ _ _ _ hy HF;obtain ⟨r1,r2⟩ := nA Ur;obtain ⟨q1,q2,q3,q4⟩ := mB Wc HF;rw [r1] at CB;obtain ⟨sl,bs,rfl⟩ := CB.HP cf;obtain ⟨o1,o2,_⟩ := Yl dg
 have nwy : ∀ sl bs,bS s1.env y.dst g1 ≠ .wr sl bs := fun sl bs e => by
  unfold bS at e;cases g1 <;> simp [calm] at HF <;> (repeat' split at e) <;> simp_all
 have eg : bS s1.env y.dst g1 = g := CA.cw cg nwy;obtain ⟨e1,_⟩ := q4 (fun ps e => o1 ps (eg ▸ e));have eg' : g1 = g := e1 ▸ eg
 have hY0 : Y = [] := by
  rcases hY.nw with ⟨e,_⟩ | ⟨z,e,e2⟩
  ·exact e
  ·exact absurd (eg' ▸ e2) (o2 _)
 subst hY0;obtain ⟨w1,w2,w3,w4⟩ := HQ hw;have sub : ∀ {i : Nat},i ∉ sl -> i ∉ Vs := fun h hi => h (CB.sub _ hi);have Lx : ∀ i,x.dst = some i -> y.dst ≠ some i := fun i h => (ax i h).2;have Cf : ∀ i,get s1.env i = if x.dst = some i then vx else get u1.env i := fun i => by rw [Un.1,eF]
 have H1 : s1.H = u1.H := by rw [Un.2,il]
 have OD : ∀ i,i ∉ sl -> i + kV ∉ sl -> x.dst ≠ some i -> get s.env i = get s1.env i := fun i hi Wa hd => by rw [Cf,if_neg hd,hV.env i (sub hi) (sub Wa)]
 have aas : ∀ i,i ∉ sl -> x.dst ≠ some i -> eW i (get s.env i) = eW i (get s1.env i) := fun i hi hd => by rw [Cf,if_neg hd,hV.hd i (sub hi)]
 have aeH : ∀ b j,g1 = .rc b j -> ∃ l,GN = some l /\ b ∉ l /\ b + kV ∉ l /\ tZ b j ∉ l := fun b j ui => by
  obtain ⟨l,e5,e6,e7,e8⟩ := w4 b j (by rw [<- eg']; exact ui);subst e5;have h8 := CB.2;cases GN with
  | none => simp at h8
  | some l0 => exact ⟨l0,rfl,fun h => e6 (h8 b h),fun h => e7 (h8 _ h),fun h => e8 (h8 _ h)⟩
 have boxes : ∀ {ps : List Rt},g1 = .rd ps -> ∀ b j,Rt.c b j ∈ ps -> ∃ l,GN = some l /\ mu b l = false /\ (j = 0 -> b + kV ∉ l) := fun {ps} ui b j hp => by
  have vp : g = .rd ps := by rw [<- eg']; exact ui
  obtain ⟨_,_,a3⟩ := s9 (w3 ps vp) _ hp;obtain ⟨l,e5,e6,e7⟩ := a3 b j rfl;subst e5;have h8 := CB.2;cases GN with
  | none => simp at h8
  | some l0 => exact ⟨l0,rfl,JI h8 e6,fun e h => e7 e (h8 _ h)⟩
 have yr : ∀ i ∈ y.reads,eW i (get s.env i) = eW i (get s1.env i) := fun i hi => aas i (w1 i hi) fun e => (ax i e).1 hi
 have yC : ∀ ps,g1 = .rd ps -> Seen ps s1 s := fun ps ui => by
  have vp : g = .rd ps := by rw [<- eg']; exact ui
  refine Seen.mk' fun p hp => ?_;obtain ⟨a1,a2,_⟩ := s9 (w3 ps vp) p hp
  have ns : ∀ i,x.dst = some i -> (∀ k,p = .s k -> k ≠ i) /\ ∀ k j,p = .sc k j -> k ≠ i := fun i hi => by
   have := iN ZA cg i hi;rw [vp] at this;exact fS this p hp
  refine ⟨fun i e => OD i (a1 i e).1 (a1 i e).2 fun h => (ns i h).1 i e rfl,fun i j e => OD i (a2 i j e).1 (a2 i j e).2 fun h => (ns i h).2 i j e rfl,fun b j e => ?_⟩;subst e;obtain ⟨l,e5,e6,_⟩ := boxes ui b j hp;rw [H1,hV.heap l e5 b e6]
 have yC : xk g1 s1 s := ⟨yC,fun b j ui => by
  obtain ⟨l,e5,e6,e7,e8⟩ := aeH b j ui;intro cs hc;rw [H1] at hc;exact (hV.cell l e5 b j e6 e8).2 cs hc⟩
 have yal : ∀ n,g1 = .al n -> s.H.length = n := fun n hn => absurd (eg' ▸ hn) (o2 n);have C2 := hY.go s yr yC yal;have gy : ∀ i,y.dst = some i -> get s1.env i = get s.env i := fun i hi => (OD i (w2 i hi).1 (w2 i hi).2 (fun e => Lx i e hi)).symm;have Rj : bS s.env y.dst g1 = bS s1.env y.dst g1 := jC fun i hi => (gy i hi).symm;refine ⟨jM ⟨s.env,s.H ++ []⟩ y.dst vy,TS.mk HC HW HL C2 (by rw [Rj]; exact Wc) (by rw [Rj]; exact CA) dM.rfl',?_⟩
 have ahu : ∀ p ∈ aP vy,¬ V p := by
  obtain ⟨Y',hYs⟩ := HC _ _ _ _ _ C2 HF;refine hYs.val V (fun i hi => hV.v1 i (sub (w1 i hi))) (fun ps ui b hp cs hb => ?_) fun b j ui cs c0 hb hc => ?_
  ·obtain ⟨l0,e5,e6,e7⟩ := boxes ui b 0 hp;exact hV.v2 l0 e5 b e6 (e7 rfl) cs hb
  ·obtain ⟨l0,e5,e6,e7,e8⟩ := aeH b j ui;exact hV.v3 l0 e5 b j e6 e7 e8 cs c0 hb hc
 have CD : ∃ t1 sl',Ev c call (jM ⟨s.env,s.H ++ []⟩ y.dst vy) x vx t1 (.wr sl' GN) /\ (∀ i ∈ sl',i ∈ Vs) /\ dM t1 (jM u1 y.dst vy) := by
  cases hd : y.dst with
  | none => exact ⟨u1,Vs,hx.same ⟨fun i => rfl,by simp [jM]⟩ dM.rfl',fun i hi => hi,dM.rfl'⟩
  | some d =>
    obtain ⟨t1,sl',h1,h2,h3⟩ := hV.go d vy (fun h => (ay d hd).1 h) (sub (w2 d hd).1) (sub (w2 d hd).2) ahu;exact ⟨t1,sl',h1.same ⟨fun i => rfl,by simp [jM]⟩ dM.rfl',h2,h3⟩
 obtain ⟨t1,sl',Hz,hsl',ht1⟩ := CD;have gx : ∀ i,x.dst = some i -> get (jM ⟨s.env,s.H ++ []⟩ y.dst vy).env i = get s.env i := fun i hi => by rw [eF,if_neg (Lx i hi)]
 have Rk : bS (jM ⟨s.env,s.H ++ []⟩ y.dst vy).env x.dst (.wr sl' GN) = .wr sl' GN := Bq (sl' := sl') (bs' := GN) (e' := s.env) fun i hi => by rw [gx i hi]; exact r2 i hi
 have lex : yz (.wr sl' GN) (.wr sl bs) := ⟨fun i hi => CB.1 i (hsl' i hi),CB.2⟩;refine TS.mk HC HW HL Hz (by rw [Rk]; rfl) (by rw [Rk]; exact lex) ⟨fun i => ?_,?_⟩
 ·rw [Um.1,eF,hY.st.1,eF,ht1.1,eF];show (if y.dst = some i then vy else get s1.env i) = (if x.dst = some i then vx else if y.dst = some i then vy else get u1.env i);rw [Cf];by_cases e1 : x.dst = some i
  ·have := Lx i e1;simp [e1,this]
  ·simp [e1]
 ·rw [Um.2,il,hY.st.2,il,ht1.2,il];show s1.H ++ [] = u1.H;rw [H1]; simp
theorem yz.Na {f : Fq} {b : Nat} (h : yz (.lw b) f) (hc : mZ f = true) : f = .lw b := by
 cases f <;> simp [yz,mZ] at h hc ⊢
 exact h.symm
theorem aem {f : Fq} {b : Nat} (h : f.ok (.lw b) = true) : (∀ ps,f ≠ .bo ps) /\ (∀ n,f = .al n -> b < n) /\ (∀ ps,f = .rd ps -> qc b ps = true) /\ (∀ d j,f = .rc d j -> d ≠ b) /\ (∀ sl bs,f ≠ .wr sl bs) /\ ∀ d,f ≠ .lw d := by
 cases f <;> simp [Fq.ok] at h ⊢ <;> exact h
theorem Yq {f : Fq} {b : Nat} (h : Fq.ok (.lw b) f = true) : (∀ ps,f ≠ .bo ps) /\ (∀ n,f = .al n -> b < n) /\ (∀ ps,f = .rd ps -> qc b ps = true) /\ (∀ d j,f = .rc d j -> d ≠ b) /\ (∀ sl bs,f ≠ .wr sl bs) /\ ∀ d,f ≠ .lw d := by
 cases f <;> simp [Fq.ok] at h ⊢ <;> exact h
theorem xP {b : Nat} : ∀ {ps : List Rt},qc b ps = true -> ∀ d j,Rt.c d j ∈ ps -> d ≠ b
 | [],_,d,j,h => by simp at h
 | q :: r,h,d,j,hp => by
   rcases aK.1 hp with e | e
   ·subst e; simp only [qc,ae,decide_eq_true_eq] at h; exact h.1
   ·have h' : qc b r = true := by cases q <;> simp only [qc,ae] at h <;> first | exact h | exact h.2
    exact xP h' d j e
theorem acg (HC : pf c call) (HW : Aa c call) (HL : Ac c call) {s s1 s2 u1 u2 : St} {x y : O} {f g f1 : Fq} {b : Nat} {vx vy : AV} (hx : Ev c call s x vx u1 f1) (Ur : mZ (bS s.env x.dst f1) = true) (CB : yz (bS s.env x.dst f1) f) (Un : dM s1 (jM u1 x.dst vx)) (hy : Ev c call s1 y vy u2 (.lw b)) (Wc : mZ (bS s1.env y.dst (.lw b)) = true) (CA : yz (bS s1.env y.dst (.lw b)) g) (Um : dM s2 (jM u2 y.dst vy)) (OW : calm f1 = true) (A8 : jI x y = true) (dg : iZ x f y g = true) :
  ∃ Hn,TS c call s y g Hn /\ TS c call Hn x f s2 := by
 obtain ⟨ax,ay⟩ := vG A8;simp only [iZ,ae] at dg;obtain ⟨⟨dg,ZA,ya⟩,_⟩ := dg;obtain ⟨cf,cg⟩ := IL dg;obtain ⟨X,hX⟩ := HC _ _ _ _ _ hx OW;obtain ⟨cs,cs',hY⟩ := HL _ _ _ _ _ hy;obtain ⟨r1,r2,r3,r4⟩ := mB Ur OW;obtain ⟨q1,q2⟩ := uB Wc;have hly' := CA;rw [q1] at hly';have hg := hly'.Na cg;subst hg;obtain ⟨o1,o2,o3,o4,_,_⟩ := aem dg
 have nwx : ∀ sl bs,bS s.env x.dst f1 ≠ .wr sl bs := fun sl bs e => by
  unfold bS at e;cases f1 <;> simp [calm] at OW <;> (repeat' split at e) <;> simp_all
 have ef : bS s.env x.dst f1 = f := CB.cw cf nwx;obtain ⟨e1,_⟩ := r4 (fun ps e => o1 ps (ef ▸ e));have ef' : f1 = f := e1 ▸ ef;subst ef';have Cf : ∀ i,get s1.env i = if x.dst = some i then vx else get s.env i := fun i => by rw [Un.1,eF,hX.st.1]
 have H1 : s1.H = s.H ++ X := by rw [Un.2,il,hX.st.2]
 have Lx : ∀ i,x.dst = some i -> y.dst ≠ some i := fun i h => (ax i h).2
 have blt : b < s.H.length := by
  have h1 := dL hY.bl;rcases hX.nw with ⟨e,_⟩ | ⟨z,e,e2⟩
  ·rw [H1,e] at h1; simpa using h1
  ·exact o2 _ e2
 have Hf : aN s.H b = some cs := by
  have h1 := hY.bl;rw [H1,wI blt] at h1;exact h1
 have yr : ∀ i ∈ y.reads,get s.env i = get s1.env i := fun i hi => by
  rw [Cf,if_neg];intro e;exact (ax i e).1 hi
 have C2 := hY.go s yr Hf
 have gy : ∀ i,y.dst = some i -> get s1.env i = get s.env i := fun i hi => by
  rw [Cf,if_neg];intro e;exact Lx i e hi
 have Rj : bS s.env y.dst (.lw b) = bS s1.env y.dst (.lw b) := jC fun i hi => (gy i hi).symm;refine ⟨jM ⟨s.env,s.H.set b (some cs')⟩ y.dst vy,TS.mk HC HW HL C2 (by rw [Rj]; exact Wc) (by rw [Rj]; exact CA) dM.rfl',?_⟩;generalize ht : jM ⟨s.env,s.H.set b (some cs')⟩ y.dst vy = t;have gt : ∀ i,get t.env i = if y.dst = some i then vy else get s.env i := fun i => by rw [<- ht,eF]
 have Ht : t.H = s.H.set b (some cs') := by rw [<- ht,il]
 have xr : ∀ i ∈ x.reads,get t.env i = get s.env i := fun i hi => by
  rw [gt,if_neg];intro e;exact (ay i e).1 hi
 have W9 : ∀ d,d ≠ b -> aN t.H d = aN s.H d := fun d hd => by rw [Ht,dH,if_neg (fun h => hd h.1)]
 have yD : xk f1 s t := by
  refine ⟨fun ps ui => Seen.mk' fun p hp => ⟨fun i e => ?_,fun i j e => ?_,fun d j e => ?_⟩,fun d j hf => .of_eq (W9 d (o4 d j hf))⟩
  ·rw [gt,if_neg];intro e2;have := iN ya cf i e2;rw [ui] at this;exact (fS (show hU i ps = true from this) p hp).1 i e rfl
  ·rw [gt,if_neg];intro e2;have := iN ya cf i e2;rw [ui] at this;exact (fS (show hU i ps = true from this) p hp).2 i j e rfl
  ·subst e;exact W9 d (xP (o3 ps ui) d j hp)
 have xal : ∀ n,f1 = .al n -> t.H.length = n := fun n hn => by
  rcases hX.nw with ⟨_,e⟩ | ⟨z,e,e2⟩
  ·exact absurd hn (e n)
  ·rw [hn] at e2; cases e2; rw [Ht]; simp
 have Hz := hX.go t (fun i hi => by rw [xr i hi]) yD xal
 have gx : ∀ i,x.dst = some i -> get t.env i = get s.env i := fun i hi => by
  rw [gt,if_neg];exact Lx i hi
 have Rk : bS t.env x.dst f1 = bS s.env x.dst f1 := jC gx;refine TS.mk HC HW HL Hz (by rw [Rk]; exact Ur) (by rw [Rk]; exact CB) ⟨fun i => ?_,?_⟩
 ·rw [Um.1,eF,hY.st.1,eF];show (if y.dst = some i then vy else get s1.env i) = if x.dst = some i then vx else get t.env i;rw [Cf,gt];by_cases h1 : x.dst = some i
  ·simp [h1,Lx i h1]
  ·simp [h1]
 ·rw [Um.2,il,hY.st.2,il];show s1.H.set b (some cs') = t.H ++ X;rw [H1,Ht,Q4 _ _ blt]
theorem ace (HC : pf c call) (HW : Aa c call) (HL : Ac c call) {s s1 s2 u1 u2 : St} {x y : O} {f g g1 : Fq} {b : Nat} {vx vy : AV} (hx : Ev c call s x vx u1 (.lw b)) (Ur : mZ (bS s.env x.dst (.lw b)) = true) (CB : yz (bS s.env x.dst (.lw b)) f) (Un : dM s1 (jM u1 x.dst vx)) (hy : Ev c call s1 y vy u2 g1) (Wc : mZ (bS s1.env y.dst g1) = true) (CA : yz (bS s1.env y.dst g1) g) (Um : dM s2 (jM u2 y.dst vy)) (HF : calm g1 = true) (A8 : jI x y = true) (dg : iZ x f y g = true) :
  ∃ Hn,TS c call s y g Hn /\ TS c call Hn x f s2 := by
 obtain ⟨ax,ay⟩ := vG A8;simp only [iZ,ae] at dg;obtain ⟨⟨dg,ZA,ya⟩,_⟩ := dg;obtain ⟨cf,cg⟩ := IL dg;obtain ⟨cs,cs',hX⟩ := HL _ _ _ _ _ hx;obtain ⟨Y,hY⟩ := HC _ _ _ _ _ hy HF;obtain ⟨q1,q2⟩ := uB Ur;have hlx' := CB;rw [q1] at hlx';have hf := hlx'.Na cf;subst hf;obtain ⟨o1,o2,o3,o4,_,_⟩ := Yq dg;obtain ⟨r1,r2,r3,r4⟩ := mB Wc HF
 have nwy : ∀ sl bs,bS s1.env y.dst g1 ≠ .wr sl bs := fun sl bs e => by
  unfold bS at e;cases g1 <;> simp [calm] at HF <;> (repeat' split at e) <;> simp_all
 have eg : bS s1.env y.dst g1 = g := CA.cw cg nwy;obtain ⟨e1,_⟩ := r4 (fun ps e => o1 ps (eg ▸ e));have eg' : g1 = g := e1 ▸ eg;subst eg';have Cf : ∀ i,get s1.env i = if x.dst = some i then vx else get s.env i := fun i => by rw [Un.1,eF,hX.st.1]
 have H1 : s1.H = s.H.set b (some cs') := by rw [Un.2,il,hX.st.2]
 have Lx : ∀ i,x.dst = some i -> y.dst ≠ some i := fun i h => (ax i h).2;have blt : b < s.H.length := dL hX.bl;have W9 : ∀ d,d ≠ b -> aN s.H d = aN s1.H d := fun d hd => by rw [H1,dH,if_neg (fun h => hd h.1)]
 have yr : ∀ i ∈ y.reads,get s.env i = get s1.env i := fun i hi => by
  rw [Cf,if_neg];intro e;exact (ax i e).1 hi
 have yC : xk g1 s1 s := by
  refine ⟨fun ps ui => Seen.mk' fun p hp => ⟨fun i e => ?_,fun i j e => ?_,fun d j e => ?_⟩,fun d j hf => .of_eq (W9 d (o4 d j hf))⟩
  ·rw [Cf,if_neg];intro e2;have := iN ZA cg i e2;rw [ui] at this;exact (fS (show hU i ps = true from this) p hp).1 i e rfl
  ·rw [Cf,if_neg];intro e2;have := iN ZA cg i e2;rw [ui] at this;exact (fS (show hU i ps = true from this) p hp).2 i j e rfl
  ·subst e;exact W9 d (xP (o3 ps ui) d j hp)
 have yal : ∀ n,g1 = .al n -> s.H.length = n := fun n hn => by
  rcases hY.nw with ⟨_,e⟩ | ⟨z,e,e2⟩
  ·exact absurd hn (e n)
  ·rw [hn] at e2; cases e2; rw [H1]; simp
 have C2 := hY.go s (fun i hi => by rw [yr i hi]) yC yal
 have gy : ∀ i,y.dst = some i -> get s1.env i = get s.env i := fun i hi => by
  rw [Cf,if_neg];intro e;exact Lx i e hi
 have Rj : bS s.env y.dst g1 = bS s1.env y.dst g1 := jC fun i hi => (gy i hi).symm;refine ⟨jM ⟨s.env,s.H ++ Y⟩ y.dst vy,TS.mk HC HW HL C2 (by rw [Rj]; exact Wc) (by rw [Rj]; exact CA) dM.rfl',?_⟩;generalize ht : jM ⟨s.env,s.H ++ Y⟩ y.dst vy = t;have gt : ∀ i,get t.env i = if y.dst = some i then vy else get s.env i := fun i => by rw [<- ht,eF]
 have Ht : t.H = s.H ++ Y := by rw [<- ht,il]
 have xr : ∀ i ∈ x.reads,get t.env i = get s.env i := fun i hi => by
  rw [gt,if_neg];intro e;exact (ay i e).1 hi
 have Hz := hX.go t xr (by rw [Ht,wI blt]; exact hX.bl)
 have gx : ∀ i,x.dst = some i -> get t.env i = get s.env i := fun i hi => by
  rw [gt,if_neg];exact Lx i hi
 have Rk : bS t.env x.dst (.lw b) = bS s.env x.dst (.lw b) := jC gx;refine TS.mk HC HW HL Hz (by rw [Rk]; exact Ur) (by rw [Rk]; exact CB) ⟨fun i => ?_,?_⟩
 ·rw [Um.1,eF,hY.st.1,eF];show (if y.dst = some i then vy else get s1.env i) = if x.dst = some i then vx else get t.env i;rw [Cf,gt];by_cases h1 : x.dst = some i
  ·simp [h1,Lx i h1]
  ·simp [h1]
 ·rw [Um.2,il,hY.st.2,il];show s1.H ++ Y = t.H.set b (some cs');rw [H1,Ht,Q4 _ _ blt]
theorem agT (HC : pf c call) (HW : Aa c call) (HL : Ac c call) : OM (TS c call) := by
 intro s x f s1 y g s2 hx hy A8 dg;have HB := dg;simp only [iZ,ae] at HB;obtain ⟨cf,cg⟩ := IL HB.1.1;obtain ⟨vx,u1,f1,x1,x2,x3,x4⟩ := hx.out HC HW HL cf;obtain ⟨vy,u2,g1,y1,y2,y3,y4⟩ := hy.out HC HW HL cg;have c1 := uC x2;have c2 := uC y2;by_cases OW : calm f1 = true
 ·by_cases HF : calm g1 = true
  ·exact Wp HC HW HL x1 x2 x3 x4 y1 y2 y3 y4 OW HF A8 dg
  ·cases g1 <;> simp [calm,mZ] at HF c2
   case wr sl bs => exact acf HC HW HL x1 x2 x3 x4 y1 y2 y3 y4 OW A8 dg
   case bo => exact absurd rfl (y1.fl _)
   case lw b => exact acg HC HW HL x1 x2 x3 x4 y1 y2 y3 y4 OW A8 dg
 ·cases f1 <;> simp [calm,mZ] at OW c1
  case wr sl bs =>
   by_cases HF : calm g1 = true
   ·exact acd HC HW HL x1 x2 x3 x4 y1 y2 y3 y4 HF A8 dg
   ·cases g1 <;> simp [calm,mZ] at HF c2
    case wr sl' bs' =>
     exfalso;rw [(nA x2).1] at x3;rw [(nA y2).1] at y3;obtain ⟨_,_,rfl⟩ := x3.HP cf;obtain ⟨_,_,rfl⟩ := y3.HP cg;exact (Yl HB.1.1).2.2 _ _ rfl
    case bo => exact absurd rfl (y1.fl _)
    case lw b =>
     exfalso;rw [(nA x2).1] at x3;rw [(uB y2).1] at y3;obtain ⟨_,_,rfl⟩ := x3.HP cf;have := y3.Na cg;subst this;exact (aem HB.1.1).2.2.2.2.1 _ _ rfl
  case bo => exact absurd rfl (x1.fl _)
  case lw b =>
   by_cases HF : calm g1 = true
   ·exact ace HC HW HL x1 x2 x3 x4 y1 y2 y3 y4 HF A8 dg
   ·exfalso;rw [(uB x2).1] at x3;have hf := x3.Na cf;subst hf;obtain ⟨_,_,_,_,o5,o6⟩ := Yq HB.1.1;cases g1 <;> simp [calm,mZ] at HF c2
    case wr sl' bs' =>
     rw [(nA y2).1] at y3;obtain ⟨_,_,rfl⟩ := y3.HP cg;exact o5 _ _ rfl
    case bo => exact absurd rfl (y1.fl _)
    case lw d =>
     rw [(uB y2).1] at y3;exact o6 _ (y3.Na cg)
end
end Go.Bm

/- What the value of a calm operation mentions was read. -/
namespace Go.Bm
open Go.Am
section
variable {P : Program} {c : eE} {call : Nat -> List AV -> Heap -> Option (AV × Heap)} {V : Rt -> Prop}
def LP (V : Rt -> Prop) (x : AV) : Prop := ∀ p ∈ aP x,¬ V p
theorem jS {p : Rt} : ∀ {cs : List AV},p ∈ dh cs ↔ ∃ x ∈ cs,p ∈ aP x
 | [] => by simp [dh]
 | x :: r => by simp [dh,jS (cs := r)]
theorem AX {f : Nat -> Rt} {p : Rt} : ∀ {cs : List AV} {j : Nat},p ∈ dh (eM f j cs) -> p ∈ dh cs \/ ∃ i,p = f i
 | [],j,h => by simp [eM,dh] at h
 | x :: r,j,h => by
   have ih := fun h => AX (f := f) (p := p) (cs := r) (j := j + 1) h;cases x <;> simp only [eM,dh,aP,aG,List.nil_append,aK,List.not_mem_nil,or_false] at h ih ⊢
   case own k xs =>
    rcases h with h | h
    ·exact .inr ⟨j,h⟩
    ·exact ih h
   all_goals first
    | exact ih h
    | (rcases h with h | h
       ·exact .inl (.inl h)
       ·rcases ih h with h | h
        ·exact .inl (.inr h)
        ·exact .inr h)
theorem Y0 {i : Nat} {x : AV} {p : Rt} (h : p ∈ aP (eW i x)) : p ∈ aP x \/ p = .s i \/ ∃ j,p = .sc i j := by
 cases x <;> simp only [eW] at h
 case own k xs => simp [aP] at h; exact .inr (.inl h)
 case agg cs =>
  simp only [aP] at h ⊢;rcases AX h with h | h
  ·exact .inl h
  ·exact .inr (.inr h)
 all_goals exact .inl h
def CJ (V : Rt -> Prop) (env : Env) (l : List Nat) : Prop := ∀ i ∈ l,(∀ p ∈ aP (get env i),¬ V p) /\ ¬ V (.s i) /\ ∀ j,¬ V (.sc i j)
theorem CJ.left {env : Env} {l m : List Nat} (h : CJ V env (l ++ m)) : CJ V env l := fun i hi => h i (by simp [hi])
theorem CJ.right {env : Env} {l m : List Nat} (h : CJ V env (l ++ m)) : CJ V env m := fun i hi => h i (by simp [hi])
theorem j5 {env : Env} {x : E} (hk : kE x = true) (h : CJ V env x.slot) : LP V (bt c env x) := by
 intro p hp;cases x with
 | t i =>
   simp only [bt] at hp;obtain ⟨h1,h2,h3⟩ := h i (by simp [E.slot]);rcases Y0 hp with e | e | ⟨j,e⟩
   ·exact h1 p e
   ·subst e; exact h2
   ·subst e; exact h3 j
 | k x => simp only [bt] at hp; simp only [kE,ff] at hk; rw [hk] at hp; simp at hp
 | g i => simp [bt,aP] at hp
theorem Fv {env : Env} : ∀ {xs : List E},kEs xs = true -> CJ V env (mh xs) -> ∀ p ∈ dh (dE c env xs),¬ V p
 | [],_,_,p,hp => by simp [dE,dh] at hp
 | x :: r,hk,h,p,hp => by
   simp only [kEs,ae] at hk;simp only [mh] at h;simp only [dE,dh,aG] at hp;rcases hp with hp | hp
   ·exact j5 hk.1 h.left p hp
   ·exact Fv hk.2 h.right p hp
theorem LP.cells {x : AV} (h : LP V x) : ∀ d ∈ x.cells,LP V d := by
 intro d hd p hp;by_cases ha : ∃ cs,x = .agg cs
 ·obtain ⟨cs,rfl⟩ := ha;exact h p (by simp only [aP]; exact jS.2 ⟨d,hd,hp⟩)
 ·have : x.cells = [x] := by cases x <;> first | rfl | exact absurd ⟨_,rfl⟩ ha
  rw [this] at hd;simp at hd;subst hd;exact h p hp
theorem Oc {env : Env} : ∀ {ps : List (Nat × Nat × E)} {zs cs : List AV},kPs ps = true -> CJ V env (pI ps) -> (∀ d ∈ zs,LP V d) -> oY c env zs ps = some cs -> ∀ d ∈ cs,LP V d
 | [],zs,cs,_,_,hz,hf => by simp [oY] at hf; subst hf; exact hz
 | (o,n,x) :: r,zs,cs,hk,h,hz,hf => by
   simp only [kPs,ae] at hk;simp only [pI] at h;simp only [oY] at hf;split at hf
   case isFalse => cases hf
   refine Oc hk.2 h.right (fun d hd => ?_) hf;unfold jv at hd;simp only [aG] at hd;rcases hd with (hd | hd) | hd
   ·exact hz d (c8 hd)
   ·exact (j5 hk.1 h.left).cells d hd
   ·exact hz d (c9 hd)
theorem ae3 {ag : Option Nat} {cs : List AV} {v : AV} (h : ∀ d ∈ cs,LP V d) (hv : Al ag cs = some v) : LP V v := by
 unfold Al at hv;split at hv
 ·split at hv
  ·simp at hv; subst hv;intro p hp;simp only [aP] at hp;obtain ⟨d,hd,hp⟩ := jS.1 hp;exact h d (c8 hd) p hp
  ·cases hv
 ·exact h v (List.mem_of_mem_head? hv)
theorem PA {ag : Option Nat} {cs : List AV} {v : AV} (h : ∀ d ∈ cs,LP V d) (hv : J3 ag cs = some v) : LP V v := by
 unfold J3 at hv;split at hv
 ·rename_i u hu;split at hv
  ·cases hv
  ·simp at hv; subst hv; exact ae3 h hu
 ·cases hv
theorem LP.nil {v : AV} (h : aP v = []) : LP V v := fun p hp => by rw [h] at hp; simp at hp
theorem aap {op : BinOp} {x y v : AV} (h : jz op x y = some v) : aP v = [] := by
 unfold jz at h;split at h
 ·split at h
  ·split at h <;> simp at h; subst h; rfl
  ·split at h <;> simp at h; subst h; rfl
  ·split at h
   ·unfold arith at h
    split at h <;> first
     | (simp at h; subst h; rfl)
     | (split at h <;> simp at h <;> (subst h; rfl))
     | cases h
   ·cases h
 ·cases h
theorem aaC {op : UnOp} {x v : AV} (h : Pg op x = some v) : aP v = [] := by
 unfold Pg at h;split at h <;> simp at h <;> (subst h; rfl)
theorem M3 {mx : Bool} : ∀ {r : List AV} {k : IntKind} {a : Int} {v : AV},xT mx (.int k a) r = some v -> aP v = []
 | [],k,a,v,h => by simp [xT] at h; subst h; rfl
 | y :: r,k,a,v,h => by
   cases y <;> simp only [xT] at h <;> try (cases h; done)
   exact M3 h
theorem M4 {mx : Bool} {l : List AV} {v : AV} (h : wO mx l = some v) : aP v = [] := by
 unfold wO at h;split at h
 ·exact M3 h
 ·cases h
theorem afV {env : Env} {kd : Kd} {v : AV} (hv : PE c env kd = some v) (hk : xd kd = true) (h : CJ V env kd.reads) : LP V v := by
 cases kd <;> simp only [PE] at hv <;> simp only [xd,ae] at hk <;> simp only [Kd.reads] at h
 case mv x => simp at hv; subst hv; exact j5 hk h
 case pick t a b =>
  split at hv
  ·simp at hv; subst hv;split
   ·exact j5 hk.2.1 h.right.left
   ·exact j5 hk.2.2 h.right.right
  ·cases hv
 case build zs ps =>
  split at hv
  ·rename_i cs hf;simp at hv; subst hv
   have hz : ∀ d ∈ zs,LP V d := fun d hd p hp => by
    have := jS.2 ⟨d,hd,hp⟩;rw [ff.1 hk.1] at this;simp at this
   intro p hp;simp only [aP] at hp;obtain ⟨d,hd,hp⟩ := jS.1 hp;exact Oc hk.2 h hz hf d hd p hp
  ·cases hv
 case lK x =>
  have ho := j5 (c := c) hk h;split at hv
  ·simp at hv; subst hv; exact .nil rfl
  ·simp at hv; subst hv; exact .nil rfl
  ·rename_i e;simp at hv; subst hv;rw [e] at ho; exact ho
  ·cases hv
 case bin => exact .nil (aap hv)
 case eq => split at hv <;> simp at hv; subst hv; exact .nil rfl
 case un => exact .nil (aaC hv)
 case Ci => split at hv <;> simp at hv; subst hv; exact .nil rfl
 case OS fn a b =>
  split at hv
  ·cases hv
  ·simp at hv; subst hv;intro p hp;simp only [aP,aG] at hp;rcases hp with hp | hp
   ·exact Fv hk.1 h.left p hp
   ·exact Fv hk.2 h.right p hp
 case yG k x lo hi =>
  have ho := j5 (c := c) hk.1 h.left;split at hv
  case h_2 => cases hv
  split at hv
  case h_2 => cases hv
  split at hv
  case h_2 => cases hv
  split at hv
  ·split at hv <;> simp at hv; subst hv; exact .nil rfl
  ·split at hv <;> simp at hv; subst hv; exact .nil rfl
  ·rename_i e;rw [e] at ho;split at hv <;> simp at hv; subst hv
   intro p hp; exact ho p (by simpa [aP] using hp)
  ·split at hv <;> simp at hv; subst hv; exact .nil rfl
  ·cases hv
 case HK n x hi =>
  cases hi with
  | some y => simp at hv
  | none =>
  (repeat' split at hv) <;> simp at hv
  obtain ⟨_,rfl⟩ := hv;exact .nil rfl
 case fX off x =>
  have ho := j5 (c := c) hk h;split at hv
  ·simp at hv; subst hv; exact .nil rfl
  ·simp at hv; subst hv; exact .nil rfl
  ·rename_i e;rw [e] at ho;simp at hv; subst hv;intro p hp; exact ho p (by simpa [aP] using hp)
  ·cases hv
 case Wi off ag x =>
  have ho := j5 (c := c) hk h;split at hv
  ·rename_i cs e;rw [e] at ho;exact PA (fun d hd p hp => ho p (by simp only [aP]; exact jS.2 ⟨d,c9 hd,hp⟩)) hv
  ·cases hv
 case fO k x i =>
  have ho := j5 (c := c) hk.1 h.left;split at hv
  ·(repeat' split at hv) <;> simp at hv; subst hv; exact .nil rfl
  ·rename_i e;rw [e] at ho
   (repeat' split at hv) <;> simp at hv; subst hv
   intro p hp; exact ho p (by simpa [aP] using hp)
  ·(repeat' split at hv) <;> simp at hv; subst hv; exact .nil rfl
  ·cases hv
 case Cy n k x i =>
  have ho := j5 (c := c) hk.1 h.left;split at hv
  case h_2 => cases hv
  split at hv
  ·simp at hv; subst hv; exact .nil rfl
  ·simp at hv; subst hv; exact .nil rfl
  ·rename_i e;rw [e] at ho;simp at hv; subst hv;intro p hp; exact ho p (by simpa [aP] using hp)
  ·cases hv
 case ix n k ag x i =>
  have ho := j5 (c := c) hk.1 h.left;split at hv
  case h_2 => cases hv
  split at hv
  ·rename_i cs e;rw [e] at ho;exact PA (fun d hd p hp => ho p (by simp only [aP]; exact jS.2 ⟨d,c9 hd,hp⟩)) hv
  ·cases hv
 case VY tab i => (repeat' split at hv) <;> simp at hv; subst hv; exact .nil rfl
 case ext i x =>
  have ho := j5 (c := c) hk h;split at hv
  ·rename_i vs e;rw [e] at ho;split at hv
   ·rename_i u hu;split at hv <;> simp at hv; subst hv
    intro p hp; exact ho p (by simp only [aP]; exact jS.2 ⟨u,bg hu,hp⟩)
   ·cases hv
  ·cases hv
 case len => split at hv <;> simp at hv; subst hv; exact .nil rfl
 case min => exact .nil (M4 hv)
 case max => exact .nil (M4 hv)
 all_goals (cases hv; done)
mutual
theorem JB : ∀ x,clean x = true -> aP x = []
 | .dG _ _ _ _,h => by simp [clean] at h
 | .fa _ _ _ _,h => by simp [clean] at h
 | .agg cs,h => by simp only [clean] at h; simp only [aP]; exact yg cs h
 | .dB cs,h => by simp only [clean] at h; simp only [aP]; exact yg cs h
 | .func _ _ _,h => by simp [clean] at h
 | .any,_ => rfl | .undef,_ => rfl | .fy,_ => rfl | .fD,_ => rfl | .dz,_ => rfl
 | .int _ _,_ => rfl | .bool _,_ => rfl | .str _,_ => rfl | .list _ _,_ => rfl | .dw _,_ => rfl | .ptr _ _,_ => rfl | .sl _ _ _ _,_ => rfl | .own _ _,_ => rfl
theorem yg : ∀ xs,fU xs = true -> dh xs = []
 | [],_ => rfl
 | x :: r,h => by simp only [fU,ae] at h; simp only [dh,JB x h.1,yg r h.2,List.append_nil]
end
theorem Wn {s s1 : St} {kd : Kd} {v : AV} {f : Fq} (h : dA c call kd s = some (v,s1,f)) : aP v = [] \/ ∃ sl bs,f = .wr sl bs \/ f = .all := by
 unfold dA at h;split at h
 ·rename_i r hi;subst h;obtain ⟨sl,bs,e⟩ := zI hi;exact .inr ⟨sl,bs,e⟩
 split at h
 ·rename_i r hi;subst h;obtain ⟨_,_,_,_,_,_,_,_,_,_,_,_,_,_,_,hr,_,_⟩ := vh hi;exact .inl (Fl _ hr.1)
 unfold gq at h;split at h
 ·rename_i r hi;subst h;exact .inr ⟨[],none,.inr (wi hi).1⟩
 rcases js h with h | h
 case inr => exact .inl (v7 h).2
 unfold dU at h;split at h
 ·cases h
 split at h
 ·cases h
 split at h
 ·split at h
  ·cases h
  split at h
  case h_2 => cases h
  split at h
  case isFalse => cases h
  rename_i hr;simp at h;obtain ⟨rfl,_,_⟩ := h;simp only [MN,ae] at hr;exact .inl (JB _ hr.1)
 ·split at h
  ·cases h
  split at h
  case isFalse => cases h
  split at h
  ·split at h
   case isFalse => cases h
   split at h
   case h_2 => cases h
   split at h
   case isFalse => cases h
   rename_i hr;simp only [ah,aJ] at h;simp only [ae] at hr;obtain ⟨rfl,_,_⟩ := h;exact .inl (ff.1 hr.1.1)
  ·split at h
   case isFalse => cases h
   split at h
   case h_2 => cases h
   split at h
   case isFalse => cases h
   rename_i hr;simp at h;obtain ⟨rfl,_,_⟩ := h;exact .inl (Fl _ hr)
theorem Nf (f : Nat -> Rt) : ∀ (j : Nat) (cs : List AV),bK cs = false -> eM f j cs = cs
 | _,[],_ => rfl
 | j,x :: r,h => by
   cases x with
   | own k xs => simp [bK] at h
   | _ => simp only [bK] at h; simp only [eM,Nf f (j + 1) r h]
theorem Y4 {x v : AV} {ps : List Rt} {b j : Nat} (h : vk x v ps = .rc b j) : ∃ k o l,x = .ptr b j /\ v = .dG k (.c b j) o l := by
 unfold vk at h;split at h
 ·split at h
  ·rename_i hc;obtain ⟨rfl,rfl⟩ := hc;cases h;exact ⟨_,_,_,rfl,rfl⟩
  ·cases h
 ·cases h
theorem afX {s s1 : St} {kd : Kd} {v : AV} {f : Fq} (hv : fH c call s kd = some (v,s1,f)) (hf : calm f = true) (hk : xd kd = true) (h : CJ V s.env kd.reads)
  (hb : ∀ ps,f = .rd ps -> ∀ b,Rt.c b 0 ∈ ps -> ∀ cs,aN s.H b = some cs -> (∀ p ∈ dh cs,¬ V p) /\ (bK cs = true -> ∀ j,¬ V (.c b j)))
  (Hg : ∀ b j,f = .rc b j -> ∀ cs c,aN s.H b = some cs -> cs[j]? = some c -> (∀ p ∈ aP c,¬ V p) /\ (∀ k xs,c = .own k xs -> ¬ V (.c b j))) : LP V v := by
 have pure : ∀ {kd : Kd},xd kd = true -> CJ V s.env kd.reads -> (match PE c s.env kd with
   | some v => some (v,s,Fq.no)
   | none => none) = some (v,s1,f) -> LP V v := by
  intro kd hk h h2;split at h2
  case h_2 => cases h2
  rename_i u hu;simp at h2;obtain ⟨rfl,_,_⟩ := h2;exact afV hu hk h
 have aeI : ∀ {kd : Kd},dA c call kd s = some (v,s1,f) -> LP V v := by
  intro kd h2;rcases Wn h2 with e | ⟨sl,bs,e | e⟩
  ·exact .nil e
  ·subst e; simp [calm] at hf
  ·subst e; simp [calm] at hf
 cases kd
 case call => simp only [fH] at hv; exact aeI hv
 case jc => simp only [fH] at hv; exact aeI hv
 case new => simp only [fH] at hv; simp at hv; obtain ⟨rfl,_,_⟩ := hv; exact .nil rfl
 case box => simp only [fH] at hv; split at hv <;> simp at hv; obtain ⟨rfl,_,_⟩ := hv; exact .nil rfl
 case dY => simp only [fH] at hv; (repeat' split at hv) <;> simp at hv <;> (obtain ⟨rfl,_,_⟩ := hv; exact .nil rfl)
 case Hd => simp only [fH] at hv; (repeat' split at hv) <;> simp at hv <;> (obtain ⟨rfl,_,_⟩ := hv; exact .nil rfl)
 case Ov => simp only [fH] at hv; (repeat' split at hv) <;> simp at hv <;> (obtain ⟨rfl,_,_⟩ := hv; exact .nil rfl)
 case app => simp only [fH] at hv; (repeat' split at hv) <;> simp at hv <;> (obtain ⟨rfl,_,_⟩ := hv; exact .nil rfl)
 case st => simp only [fH] at hv; (repeat' split at hv) <;> simp at hv <;> (obtain ⟨rfl,_,_⟩ := hv; exact .nil rfl)
 case copy => simp only [fH] at hv; (repeat' split at hv) <;> simp at hv <;> (obtain ⟨rfl,_,_⟩ := hv; exact .nil rfl)
 case HK n x hi =>
  simp only [fH] at hv;split at hv
  ·(repeat' split at hv) <;> simp at hv <;> (obtain ⟨rfl,_,_⟩ := hv; exact .nil rfl)
  ·exact pure hk h hv
 case ld ag x =>
  simp only [fH] at hv;split at hv
  case h_2 => cases hv
  rename_i u ps hp;split at hv
  case isFalse => cases hv
  rename_i hl;simp at hv;obtain ⟨rfl,rfl,Zv⟩ := hv;by_cases hy : ∃ b off k o l,bt c s.env x = .ptr b off /\ u = .dG k (.c b off) o l
  ·obtain ⟨b,off,k,o,l,e,rfl⟩ := hy;rw [e] at hp Zv;have hbc' := Hg b off (by rw [<- Zv]; simp [vk]);simp only [xM] at hp;split at hp
   case h_2 => cases hp
   rename_i cs dP;split at hp
   case h_2 => cases hp
   rename_i u' hu;simp at hp;obtain ⟨rfl,_⟩ := hp
   have hz : ((eM (.c b) 0 cs).drop off)[0]? = some (.dG k (.c b off) o l) := by
    unfold J3 Al at hu;cases ag with
    | some n => simp only at hu; (repeat' split at hu) <;> simp_all
    | none =>
      simp only at hu;rw [<- um]
      (repeat' split at hu) <;> simp_all
   rw [aU,Nat.add_zero] at hz
   have hg : ∀ (cs : List AV) (j i : Nat),(eM (.c b) j cs)[i]? = some (.dG k (.c b off) o l) -> ∃ c0,cs[i]? = some c0 /\ ((∃ k xs,c0 = .own k xs) \/ c0 = .dG k (.c b off) o l) := by
    intro cs
    induction cs with
    | nil => intro j i h; simp [eM] at h
    | cons d r ih =>
      intro j i h;cases i with
      | zero =>
        refine ⟨d,rfl,?_⟩
        cases d <;> first
         | exact .inl ⟨_,_,rfl⟩
         | (simp [eM] at h; done)
         | (simp [eM] at h; right; simp [h])
      | succ i =>
        obtain ⟨c0,h1,h2⟩ := ih (j + 1) i (by cases d <;> simpa [eM] using h);exact ⟨c0,by simpa using h1,h2⟩
   obtain ⟨c0,h1,h2⟩ := hg cs 0 off hz;obtain ⟨q1,q2⟩ := hbc' cs c0 dP h1;intro p hp;simp [aP] at hp;subst hp;rcases h2 with h2 | h2
   ·obtain ⟨k0,xs0,e0⟩ := h2; exact q2 k0 xs0 e0
   ·subst h2; exact q1 _ (by simp [aP])
  have Zv : f = .rd ps := by
   rw [<- Zv];rcases vj (bt c s.env x) u ps with e | ⟨b,j,e⟩
   ·exact e
   ·obtain ⟨k,o,l,e1,e2⟩ := Y4 e;exact absurd ⟨b,j,k,o,l,e1,e2⟩ hy
  subst Zv;by_cases hx : ∃ b off,bt c s.env x = .ptr b off
  ·obtain ⟨b,off,e⟩ := hx;rw [e] at hp;simp only [xM] at hp;split at hp
   case h_2 => cases hp
   rename_i cs dP;split at hp
   case h_2 => cases hp
   rename_i u' hu;simp at hp;obtain ⟨rfl,rfl⟩ := hp;by_cases hz : aP u' = []
   ·exact .nil hz
   obtain ⟨b1,b2⟩ := hb _ rfl b (by simp [hz]) cs dP;refine PA (fun d hd p hp => ?_) hu;have := jS.2 ⟨d,c9 hd,hp⟩;cases ho : bK cs with
   | false => rw [Nf _ _ _ ho] at this; exact b1 p this
   | true =>
     rcases AX this with h3 | ⟨i,h3⟩
     ·exact b1 p h3
     ·subst h3; exact b2 ho i
  ·refine .nil ?_;unfold ldOK at hl;split at hl
   ·rename_i e; exact absurd ⟨_,_,e⟩ hx
   ·exact ff.1 hl
 all_goals
  simp only [fH] at hv;exact pure hk h hv
end
end Go.Bm

/- What single operations are worth: regions that draw their order are sound. -/
namespace Go.Bm
open Go.Am
section
variable {P : Program} {c : eE} {call : Nat -> List AV -> Heap -> Option (AV × Heap)} {V : Rt -> Prop}
theorem dM.own {s t : St} (h : dM s t) (p : Rt) : aC t p = aC s p := by
 cases p with
 | s i => simp only [aC,at_,h.1 i]
 | sc i j => simp only [aC,at_,h.1 i]
 | c b j => simp only [aC,at_,h.2]
theorem Seen.of_same {s s0 t : St} {ps : List Rt} (e : dM s s0) (h : Seen ps s t) : Seen ps s0 t := fun p hp => ⟨by rw [(h p hp).1,e.own],fun b l hb => by rw [(h p hp).2 b l hb,e.2]⟩
theorem qv.of_same {s s0 t : St} {b j : Nat} (e : dM s s0) (h : qv b j s t) : qv b j s0 t := fun cs hc => h cs (by rw [e.2]; exact hc)
theorem afY {s s1 : St} {kd : Kd} {v : AV} {n : Nat} (h : fH c call s kd = some (v,s1,.al n)) : ∃ z,s1 = ⟨s.env,s.H ++ [z]⟩ := by
 have nc : ∀ {kd : Kd},dA c call kd s ≠ some (v,s1,.al n) := by
  intro kd h;unfold dA at h;split at h
  ·rename_i r hi;subst h;obtain ⟨sl,bs,e | e⟩ := zI hi <;> cases e
  split at h
  ·rename_i r hi;subst h;obtain ⟨b,e⟩ := CX hi;cases e
  unfold gq at h;split at h
  ·rename_i r hi;subst h;obtain ⟨e,_⟩ := wi hi;cases e
  replace h := (js h).resolve_right fun h => by obtain ⟨e,_⟩ := v7 h; cases e
  unfold dU at h
  (repeat' split at h) <;> simp [wB] at h
  all_goals (obtain ⟨_,_,h⟩ := h; revert h; split <;> simp [wB])
 have ns : ∀ {s s' : St} {k : Nat} {a v : AV} {f : Fq},OR s k a v = some (s',f) -> f ≠ .al n := by
  intro s s' k a v f h e;have := Pm h;rw [e] at this;simp [calm] at this
 cases kd <;> simp only [fH] at h
 case new => simp at h; exact ⟨_,h.2.1.symm⟩
 case box => split at h <;> simp at h; exact ⟨_,h.2.1.symm⟩
 case call => exact absurd h nc
 case jc => exact absurd h nc
 case st =>
  exfalso;split at h
  ·split at h
   case h_2 => cases h
   rename_i hh;simp only [ah,aJ] at h;obtain ⟨_,_,h5⟩ := h;split at h5
   ·exact ns hh h5
   ·cases h5
  ·split at h
   case h_2 => cases h
   rename_i hh;simp only [ah,aJ] at h;exact ns hh h.2.2
 case ld =>
  exfalso;split at h
  case h_2 => cases h
  split at h
  case isFalse => cases h
  simp only [ah,aJ] at h;obtain ⟨_,_,h5⟩ := h;rcases vj _ _ _ with e | ⟨b,j,e⟩ <;> rw [e] at h5 <;> cases h5
 case Hd =>
  split at h
  case h_2 => cases h
  split at h
  case isFalse => cases h
  split at h
  ·simp at h; exact ⟨_,h.2.1.symm⟩
  ·simp at h
 case dY =>
  exfalso
  (repeat' split at h) <;> simp [wB] at h
  all_goals (obtain ⟨_,_,h⟩ := h; revert h; split <;> simp [wB])
 case copy =>
  exfalso
  (repeat' split at h) <;> simp at h
  obtain ⟨_,_,h5⟩ := h;rcases vB _ _ with e | ⟨_,_,_,_,e⟩ <;> rw [e] at h5 <;> cases h5
 all_goals
  exfalso
  (repeat' split at h) <;> simp at h
theorem I0 {i : Nat} {x : AV} {b : Bool} (h : eW i x = .bool b) : x = .bool b := by
 cases x <;> simp [eW] at h <;> simp [h]
theorem Qc {i : Nat} {x : AV} (h : eW i x = .undef) : x = .undef := by
 cases x <;> simp [eW] at h <;> rfl
theorem acJ : pf c call := by
 intro s q v s1 f ⟨hk,s0,t1,e0,he,e1⟩ hc
 have op : fH c call s0 q.kd = some (v,t1,f) -> (∀ t : St,(∀ i ∈ q.reads,eW i (get t.env i) = eW i (get s.env i)) -> Ch c call t q = fH c call t q.kd) -> ∃ X,Q1 c call s q v s1 f X := by
  intro h CD;obtain ⟨T,k1,k2,k3⟩ := Yk h hc;have hr : ∀ i ∈ q.kd.reads,i ∈ q.reads := fun i hi => by simp [O.reads,hi]
  refine ⟨T,⟨e1.symm.trans ⟨fun i => by rw [k1]; exact (e0.1 i).symm,by rw [k1]; show s0.H ++ T = s.H ++ T; rw [e0.2]⟩,?_,fun t h1 h2 h3 => ?_,fun V h1 h2 h2c => ?_⟩⟩
  ·rcases k2 with e | ⟨z,e,e2⟩
   ·by_cases hal : ∃ n,f = .al n
    ·obtain ⟨n,rfl⟩ := hal;obtain ⟨z,hz⟩ := afY h;rw [k1,e] at hz;simp at hz
    ·exact .inl ⟨e,fun n hn => hal ⟨n,hn⟩⟩
   ·exact .inr ⟨z,e,by rw [e0.2]; exact e2⟩
  ·refine ⟨hk,t,_,dM.rfl',?_,dM.rfl'⟩;rw [CD t h1];exact k3 t (fun i hi => by rw [h1 i (hr i hi),e0.1]) ⟨fun ps ui => (h2.1 ps ui).of_same e0,fun b j hf => (h2.2 b j hf).of_same e0⟩ h3
  ·exact afX h hc hk (fun i hi => by rw [<- e0.1]; exact h1 i (hr i hi)) (fun ps ui b hp cs hb => h2 ps ui b hp cs (by rw [e0.2]; exact hb)) fun b j hf cs c0 hb Gh => h2c b j hf cs c0 (by rw [e0.2]; exact hb) Gh
 have un : f = .no -> v = .undef -> t1 = s0 -> (∀ t : St,(∀ i ∈ q.reads,eW i (get t.env i) = eW i (get s.env i)) -> Ch c call t q = some (.undef,t,.no)) -> ∃ X,Q1 c call s q v s1 f X := by
  intro hf hv ht CD;subst hf hv ht;refine ⟨[],⟨e1.symm.trans ⟨fun i => (e0.1 i).symm,by show t1.H = s.H ++ []; rw [e0.2]; simp⟩,.inl ⟨rfl,fun n h => by cases h⟩,fun t h1 _ _ => ⟨hk,t,t,dM.rfl',CD t h1,⟨fun i => rfl,by simp⟩⟩,fun V _ _ _ p hp => by simp [aP] at hp⟩⟩
 unfold Ch at he;cases hg : q.guard with
 | none =>
   rw [hg] at he;exact op he fun t _ => by unfold Ch; rw [hg]
 | some gp =>
   obtain ⟨g,want⟩ := gp;rw [hg] at he;simp only at he;have HE : g ∈ q.reads := by simp [O.reads,hg]
   split at he
   ·rename_i b hb;split at he
    ·rename_i Qs;refine op he fun t h1 => ?_;unfold Ch;rw [hg];have ia : get t.env g = .bool b := I0 (by rw [h1 g HE,e0.1 g,hb]; rfl);simp only [ia,Qs,if_true]
    ·rename_i Qs;simp only [ah,aJ] at he;refine un he.2.2.symm he.1.symm he.2.1.symm fun t h1 => ?_;unfold Ch;rw [hg];have ia : get t.env g = .bool b := I0 (by rw [h1 g HE,e0.1 g,hb]; rfl);simp only [ia,Qs,if_false]
   ·rename_i hb;simp only [ah,aJ] at he;refine un he.2.2.symm he.1.symm he.2.1.symm fun t h1 => ?_;unfold Ch;rw [hg];have ia : get t.env g = .undef := Qc (by rw [h1 g HE,e0.1 g,hb]; rfl);simp only [ia]
   ·cases he

/-! Operations that write a few places -/
mutual
theorem zD {g : AV -> AV} : ∀ x,(∀ k p o l,p ∈ aP x -> g (.dG k p o l) = .dG k p o l /\ g (.fa k p o l) = .fa k p o l) -> cN g x = x
 | .dG k p o l,h => by simp only [cN]; exact (h k p o l (by simp [aP])).1
 | .fa k p o l,h => by simp only [cN]; exact (h k p o l (by simp [aP])).2
 | .agg cs,h => by simp only [cN]; rw [mH cs (by simpa only [aP] using h)]
 | .dB cs,h => by simp only [cN]; rw [mH cs (by simpa only [aP] using h)]
 | .func f a b,h => by
   simp only [aP,aG] at h;simp only [cN]; rw [mH a fun k p o l hp => h k p o l (.inl hp),mH b fun k p o l hp => h k p o l (.inr hp)]
 | .any,_ => rfl | .undef,_ => rfl | .fy,_ => rfl | .fD,_ => rfl | .dz,_ => rfl
 | .int _ _,_ => rfl | .bool _,_ => rfl | .str _,_ => rfl | .list _ _,_ => rfl | .dw _,_ => rfl | .ptr _ _,_ => rfl | .sl _ _ _ _,_ => rfl | .own _ _,_ => rfl
theorem mH {g : AV -> AV} : ∀ xs,(∀ k p o l,p ∈ dh xs -> g (.dG k p o l) = .dG k p o l /\ g (.fa k p o l) = .fa k p o l) -> de g xs = xs
 | [],_ => rfl
 | x :: r,h => by
   simp only [dh,aG] at h;simp only [de]; rw [zD x fun k p o l hp => h k p o l (.inl hp),mH r fun k p o l hp => h k p o l (.inr hp)]
end
theorem AU {f : Nat -> Rt} : ∀ {cs : List AV} {j l k : Nat} {xs xs' : List AV},cs[l]? = some (.own k xs) -> xs'.length = xs.length -> eM f j (cs.set l (.own k xs')) = eM f j cs
 | [],j,l,k,xs,xs',h,_ => by simp at h
 | x :: r,j,0,k,xs,xs',h,hl => by
   simp at h;subst h;simp only [List.set_cons_zero,eM,hl]
 | x :: r,j,l + 1,k,xs,xs',h,hl => by
   have ih := AU (f := f) (j := j + 1) (by simpa using h) hl;rw [List.set_cons_succ];cases x <;> simp only [eM,ih]
theorem Pu {s : St} {p : Rt} {k : Nat} {xs xs' : List AV} (h : aC s p = some (k,xs)) (hl : xs'.length = xs.length) (i : Nat) : eW i (get (setAt s p (.own k xs')).env i) = eW i (get s.env i) := by
 cases p with
 | s j =>
   simp only [setAt,bE];by_cases e : i = j
   ·subst e;rw [if_pos rfl];simp only [aC,at_] at h;split at h
    ·rename_i k2 xs2 e2;simp at h;obtain ⟨rfl,rfl⟩ := h;simp at e2;rw [e2];simp only [eW,hl]
    ·cases h
   ·rw [if_neg e]
 | sc j l =>
   simp only [aC,at_] at h;simp only [setAt];split
   ·rename_i cs dP;rw [dP] at h;simp only [bE];by_cases e : i = j
    ·subst e;rw [if_pos rfl,dP];simp only at h;split at h
     ·rename_i k2 xs2 e2;simp at h;obtain ⟨rfl,rfl⟩ := h;simp only [eW,AU e2 hl]
     ·cases h
    ·rw [if_neg e]
   ·rfl
 | c b j =>
   simp only [setAt];split <;> rfl
theorem wk {i : Nat} : ∀ {l : List Nat},i + kV ∈ marks l ↔ i ∈ l
 | [] => by simp [marks]
 | j :: r => by simp [marks,wk (l := r)]
theorem gb {s : St} {p : Rt} {v : AV} {i : Nat} (h : i ∉ rootOf p) : get (setAt s p v).env i = get s.env i := by
 cases p with
 | s j => simp only [rootOf,cE] at h; simp only [setAt,bE,if_neg h]
 | sc j l =>
   simp only [rootOf,cE] at h;simp only [setAt];split
   ·simp only [bE,if_neg h]
   ·rfl
 | c b j => simp only [setAt]; split <;> rfl
theorem rC {s : St} {p : Rt} {v : AV} {b : Nat} (h : b ∉ kz p) : aN (setAt s p v).H b = aN s.H b := by
 cases p with
 | s j => rfl
 | sc j l => simp only [setAt]; split <;> rfl
 | c d j =>
   simp only [kz,cE] at h;simp only [setAt];split
   ·rw [dH,if_neg (fun e => h e.1)]
   ·rfl
theorem Dw {s t : St} (h : dM s t) (p : Rt) (v : AV) : dM (setAt s p v) (setAt t p v) := by
 cases p with
 | s j => exact ⟨fun i => by simp only [setAt,bE,h.1 i],h.2⟩
 | sc j l =>
   simp only [setAt];rw [h.1 j];split
   ·exact ⟨fun i => by simp only [bE,h.1 i],h.2⟩
   ·exact h
 | c b j =>
   simp only [setAt];rw [h.2];split
   ·exact ⟨h.1,rfl⟩
   ·exact h
theorem rB {s : St} {p : Rt} {v u : AV} {d : Nat} (h : d ∉ rootOf p) : dM (setAt ⟨put s.env d u,s.H⟩ p v) ⟨put (setAt s p v).env d u,(setAt s p v).H⟩ := by
 cases p with
 | s j =>
   simp only [rootOf,cE] at h;refine ⟨fun i => ?_,rfl⟩;simp only [setAt,bE];by_cases e : i = j
   ·subst e;have : i ≠ d := fun e => h e.symm;simp [this]
   ·simp [e]
 | sc j l =>
   simp only [rootOf,cE] at h;have hj : j ≠ d := fun e => h e.symm;simp only [setAt,bE,if_neg hj];split
   ·refine ⟨fun i => ?_,rfl⟩;simp only [bE];by_cases e : i = j
    ·subst e; simp [hj]
    ·simp [e]
   ·exact dM.rfl'
 | c b j =>
   simp only [setAt];split
   ·exact dM.rfl'
   ·exact dM.rfl'
theorem u5 {s : St} {p : Rt} {y : Nat × List AV} (h : aC s p = some y) : ∀ i ∈ rootOf p,bJ (get s.env i) = true := by
 intro i hi;obtain ⟨k,xs⟩ := y;have h := cu.1 h;cases p with
 | s j =>
   simp only [rootOf,cE] at hi; subst hi;simp only [at_,ah] at h;rw [h]; rfl
 | sc j l =>
   simp only [rootOf,cE] at hi; subst hi;simp only [at_] at h;split at h
   ·rename_i cs hc;rw [hc];simp only [bJ]
    have : ∀ {cs : List AV} {l : Nat},cs[l]? = some (.own k xs) -> bK cs = true := by
     intro cs
     induction cs with
     | nil => intro l h; simp at h
     | cons x r ih =>
       intro l h;cases l with
       | zero => simp at h; subst h; rfl
       | succ l => simp at h; cases x <;> simp only [bK] <;> exact ih h
    exact this h
   ·cases h
 | c b j => simp [rootOf] at hi
theorem mD {s : St} {p : Rt} {d : Nat} {u : AV} (h : d ∉ rootOf p) : aC ⟨put s.env d u,s.H⟩ p = aC s p := by
 cases p with
 | s j =>
   simp only [rootOf,cE] at h;have hj : j ≠ d := fun e => h e.symm;simp only [aC,at_,bE,if_neg hj]
 | sc j l =>
   simp only [rootOf,cE] at h;have hj : j ≠ d := fun e => h e.symm;simp only [aC,at_,bE,if_neg hj]
 | c b j => rfl
structure uc (c : eE) (call : Nat -> List AV -> Heap -> Option (AV × Heap)) (s : St) (kd : Kd) (v : AV) (s1 : St) (sl : List Nat) (bs : Option (List Nat)) (V : Rt -> Prop) : Prop where
 env : ∀ i,i ∉ sl -> i + kV ∉ sl -> get s1.env i = get s.env i
 hd : ∀ i,i ∉ sl -> eW i (get s1.env i) = eW i (get s.env i)
 keep : ∀ i,bJ (get s.env i) = false -> aP (get s.env i) = [] -> get s1.env i = get s.env i
 heap : ∀ l,bs = some l -> ∀ b,b ∉ l -> aN s1.H b = aN s.H b
 v1 : ∀ i,i ∉ sl -> (∀ p ∈ aP (get s.env i),¬ V p) /\ ¬ V (.s i) /\ ∀ j,¬ V (.sc i j)
 v2 : ∀ l,bs = some l -> ∀ b,b ∉ l -> b + kV ∉ l -> ∀ cs,aN s.H b = some cs -> (∀ p ∈ dh cs,¬ V p) /\ (bK cs = true -> ∀ j,¬ V (.c b j))
 go : ∀ d u,d ∉ kd.reads -> d ∉ sl -> d + kV ∉ sl -> LP V u -> ∃ t0 t1 sl',dM t0 ⟨put s.env d u,s.H⟩ /\ fH c call t0 kd = some (v,t1,.wr sl' bs) /\ (∀ i ∈ sl',i ∈ sl) /\ dM t1 ⟨put s1.env d u,s1.H⟩
structure QW (c : eE) (call : Nat -> List AV -> Heap -> Option (AV × Heap)) (s : St) (kd : Kd) (v : AV) (s1 : St) (sl : List Nat) (bs : Option (List Nat)) (V : Rt -> Prop) : Prop where
 env : ∀ i,i ∉ sl -> i + kV ∉ sl -> get s1.env i = get s.env i
 hd : ∀ i,i ∉ sl -> eW i (get s1.env i) = eW i (get s.env i)
 keep : ∀ i,bJ (get s.env i) = false -> aP (get s.env i) = [] -> get s1.env i = get s.env i
 heap : ∀ l,bs = some l -> ∀ b,mu b l = false -> aN s1.H b = aN s.H b
 cell : ∀ l,bs = some l -> ∀ b j,b ∉ l -> tZ b j ∉ l -> qv b j s s1 /\ qv b j s1 s
 v1 : ∀ i,i ∉ sl -> (∀ p ∈ aP (get s.env i),¬ V p) /\ ¬ V (.s i) /\ ∀ j,¬ V (.sc i j)
 v2 : ∀ l,bs = some l -> ∀ b,mu b l = false -> b + kV ∉ l -> ∀ cs,aN s.H b = some cs -> (∀ p ∈ dh cs,¬ V p) /\ (bK cs = true -> ∀ j,¬ V (.c b j))
 v3 : ∀ l,bs = some l -> ∀ b j,b ∉ l -> b + kV ∉ l -> tZ b j ∉ l -> ∀ cs c,aN s.H b = some cs -> cs[j]? = some c -> (∀ p ∈ aP c,¬ V p) /\ (∀ k xs,c = .own k xs -> ¬ V (.c b j))
 go : ∀ d u,d ∉ kd.reads -> d ∉ sl -> d + kV ∉ sl -> LP V u -> ∃ t0 t1 sl',dM t0 ⟨put s.env d u,s.H⟩ /\ fH c call t0 kd = some (v,t1,.wr sl' bs) /\ (∀ i ∈ sl',i ∈ sl) /\ dM t1 ⟨put s1.env d u,s1.H⟩
theorem Gi : ∀ {cs : List AV} {j k : Nat} {xs : List AV},cs[j]? = some (.own k xs) -> bK cs = true
 | [],j,k,xs,h => by simp at h
 | c :: r,0,k,xs,h => by simp at h; subst h; rfl
 | c :: r,j + 1,k,xs,h => by
   have := Gi (cs := r) (j := j) (by simpa using h);cases c <;> simp [bK,this]
theorem uc.up {s s1 : St} {kd : Kd} {v : AV} {sl : List Nat} {bs : Option (List Nat)} : (∃ V,uc c call s kd v s1 sl bs V) -> ∃ V,QW c call s kd v s1 sl bs V := by
 rintro ⟨V,h⟩;refine ⟨V,⟨h.env,h.hd,h.keep,fun l hl b hb => h.heap l hl b (mP hb).1,fun l hl b j hb _ => ⟨.of_eq (h.heap l hl b hb),.of_eq (h.heap l hl b hb).symm⟩,h.v1,fun l hl b hb => h.v2 l hl b (mP hb).1,fun l hl b j h1 h2 _ cs c0 hb hc => ?_,h.go⟩⟩;obtain ⟨a1,a2⟩ := h.v2 l hl b h1 h2 cs hb;exact ⟨fun p hp => a1 p (jS.2 ⟨c0,bg hc,hp⟩),fun k xs e => a2 (Gi (e ▸ hc)) j⟩
theorem sG {f : Rt -> Bool} : ∀ {l : List Rt},vH f l = true ↔ ∃ p ∈ l,f p = true
 | [] => by simp [vH]
 | p :: r => by simp [vH,sG (l := r)]
theorem GW {f : Rt -> Bool} : ∀ {H : Heap} {b : Nat} {cs : List AV},CI f H = false -> aN H b = some cs -> ∀ p ∈ dh cs,f p = false
 | [],b,cs,_,h => by simp [aN] at h
 | none :: r,b,cs,ha,h => by
   cases b with
   | zero => simp [aN] at h
   | succ b => exact GW (H := r) (b := b) (by simpa [CI] using ha) (by simpa [aN] using h)
 | some ds :: r,b,cs,ha,h => by
   simp only [CI,eP] at ha;cases b with
   | zero =>
     simp [aN] at h;subst h;intro p hp;cases hf : f p with
     | false => rfl
     | true => rw [sG.2 ⟨p,hp,hf⟩] at ha; simp at ha
   | succ b => exact GW (H := r) (b := b) ha.2 (by simpa [aN] using h)
theorem rX {p : Rt} : ∀ {l : List Rt},vl p l = true ↔ p ∈ l
 | [] => by simp [vl]
 | q :: r => by rw [vl,fN,decide_eq_true_eq,rX (l := r),aK]; exact ⟨fun h => h.imp Eq.symm id,fun h => h.imp Eq.symm id⟩
theorem mA {p : Rt} : ∀ {e : Env} {i : Nat},vl p (aP (Am.get e i)) = true \/ (isRoot p i = true /\ Am.get e i ≠ .any) -> i ∈ kX p e
 | [],i,h => by simp [Am.get,aP,vl] at h
 | (j,v) :: r,i,h => by
   simp only [Am.get] at h;simp only [kX];by_cases e : i = j
   ·subst e;simp only [if_true] at h
    have : (vl p (aP v) || isRoot p i) = true := by
     rcases h with h | h
     ·simp [h]
     ·simp [h.1]
    rw [if_pos this]; simp
   ·rw [if_neg e] at h;have := mA h;split
    ·simp [this]
    ·exact this
theorem Ah {p : Rt} : ∀ {sn : List Nat} {e : Env} {i : Nat},i ∈ kX p (KU sn e) -> mem i sn = false /\ (vl p (aP (Am.get e i)) = true \/ isRoot p i = true)
 | sn,[],i,h => by simp [KU,kX] at h
 | sn,(j,v) :: r,i,h => by
   have XI : ∀ {sn' : List Nat},i ∈ kX p (KU sn' r) -> mem j sn' = true -> mem i sn' = false /\ (vl p (aP (Am.get ((j,v) :: r) i)) = true \/ isRoot p i = true) := by
    intro sn' h hj;obtain ⟨h1,h2⟩ := Ah h;have mW : i ≠ j := fun e => by rw [e,hj] at h1; cases h1
    exact ⟨h1,by simp only [Am.get]; rw [if_neg mW]; exact h2⟩
   unfold KU at h;by_cases hj : mem j sn = true
   ·rw [if_pos hj] at h;exact XI h hj
   ·rw [if_neg hj] at h;simp only [kX] at h
    have tail : i ∈ kX p (KU (j :: sn) r) -> mem i sn = false /\ (vl p (aP (Am.get ((j,v) :: r) i)) = true \/ isRoot p i = true) := fun h => by
     obtain ⟨h1,h2⟩ := XI h (by simp [mem]);unfold mem at h1;split at h1
     ·cases h1
     ·exact ⟨h1,h2⟩
    split at h
    ·rename_i hc;rcases aK.1 h with e | h
     ·subst e;refine ⟨by simpa using hj,?_⟩;simp only [Am.get,if_true];simpa using hc
     ·exact tail h
    ·exact tail h
theorem kY {p : Rt} : ∀ {H : Heap} {k b : Nat} {cs : List AV},aN H b = some cs -> p ∈ dh cs -> k + b ∈ pJ p k H
 | [],k,b,cs,h,_ => by simp [aN] at h
 | none :: r,k,b,cs,h,hp => by
   cases b with
   | zero => simp [aN] at h
   | succ b =>
     have := kY (H := r) (k := k + 1) (b := b) (by simpa [aN] using h) hp;simp only [pJ]; rwa [show k + (b + 1) = k + 1 + b by omega]
 | some ds :: r,k,b,cs,h,hp => by
   cases b with
   | zero =>
     simp [aN] at h;subst h;simp [pJ,rX.2 hp]
   | succ b =>
     have := kY (H := r) (k := k + 1) (b := b) (by simpa [aN] using h) hp;simp only [pJ];rw [show k + (b + 1) = k + 1 + b by omega];split
     ·simp [this]
     ·exact this
theorem rE : ∀ {e : Env} {i : Nat},fx (aP (Am.get e i)) = true -> i ∈ gg e
 | [],i,h => by simp [Am.get,aP,fx] at h
 | (j,v) :: r,i,h => by
   simp only [Am.get] at h;simp only [gg];by_cases e : i = j
   ·subst e;simp only [if_true] at h;rw [if_pos h]; simp
   ·rw [if_neg e] at h;have := rE h;split
    ·simp [this]
    ·exact this
theorem HZ : ∀ {sn : List Nat} {e : Env} {i : Nat},i ∈ gg (KU sn e) -> mem i sn = false /\ fx (aP (Am.get e i)) = true
 | sn,[],i,h => by simp [KU,gg] at h
 | sn,(j,v) :: r,i,h => by
   have XI : ∀ {sn' : List Nat},i ∈ gg (KU sn' r) -> mem j sn' = true -> mem i sn' = false /\ fx (aP (Am.get ((j,v) :: r) i)) = true := by
    intro sn' h hj;obtain ⟨h1,h2⟩ := HZ h;have mW : i ≠ j := fun e => by rw [e,hj] at h1; cases h1
    exact ⟨h1,by simp only [Am.get]; rw [if_neg mW]; exact h2⟩
   unfold KU at h;by_cases hj : mem j sn = true
   ·rw [if_pos hj] at h;exact XI h hj
   ·rw [if_neg hj] at h;simp only [gg] at h
    have tail : i ∈ gg (KU (j :: sn) r) -> mem i sn = false /\ fx (aP (Am.get ((j,v) :: r) i)) = true := fun h => by
     obtain ⟨h1,h2⟩ := XI h (by simp [mem]);unfold mem at h1;split at h1
     ·cases h1
     ·exact ⟨h1,h2⟩
    split at h
    ·rename_i hc;rcases aK.1 h with e | h
     ·subst e;refine ⟨by simpa using hj,?_⟩;simp only [Am.get,if_true];exact hc
     ·exact tail h
    ·exact tail h
theorem A3 : ∀ {l : List Rt},fx l = true ↔ ∃ p ∈ l,dQ p = false
 | [] => by simp [fx]
 | p :: r => by cases p <;> simp [fx,dQ,A3 (l := r)]
theorem A2 {l : List Rt} (h : fx l = false) : ∀ p ∈ l,dQ p = true := by
 intro p hp;cases hn : dQ p with
 | true => rfl
 | false => rw [A3.2 ⟨p,hp,hn⟩] at h; cases h
theorem nH (s : St) (i : Nat) : get (PN s).env i = get s.env i := ((px s).1 i).symm
end
end Go.Bm

/- Every operation that writes a few places; regions that draw their order are sound. -/
namespace Go.Bm
open Go.Am
section
variable {P : Program} {c : eE} {call : Nat -> List AV -> Heap -> Option (AV × Heap)} {V : Rt -> Prop}
theorem eV {i : Nat} {l m : List Nat} (h : i ∉ l ++ m) : i ∉ l /\ i ∉ m := by simpa using h
theorem qO {p : Rt} {i : Nat} : isRoot p i = true ↔ i ∈ rootOf p := by
 cases p <;> simp [isRoot,rootOf,eq_comm]
theorem CM {x : AV} (h : ∀ p ∈ aP x,dQ p = true) : cN l6 x = x := zD x fun k p o l hp => by
 have := h p hp;cases p <;> simp [dQ] at this <;> simp [l6]
theorem zx {l : List Nat} : ∀ {H H' : Heap} {k : Nat} {r : List Nat},eL l k H H' = some r -> ∀ b,k + b ∉ l -> aN H' b = aN H b /\ ((k + b) + kV ∉ r -> ∀ cs,aN H b = some cs -> bK cs = false /\ dh cs = [])
 | [],[],k,r,_,b,_ => ⟨rfl,fun _ cs h => by simp [aN] at h⟩
 | [],_ :: _,k,r,h,b,_ => by simp [eL] at h
 | _ :: _,[],k,r,h,b,_ => by simp [eL] at h
 | x :: H,y :: H',k,r,h,b,hb => by
   unfold eL at h;split at h
   case h_2 => cases h
   rename_i r0 h0;cases b with
   | zero =>
     have hm : mem k l = false := by
      cases hh : mem k l with
      | false => rfl
      | true => exact absurd (mem_iff.1 hh) (by simpa using hb)
     rw [hm] at h;simp only [bn,if_false] at h;split at h
     case isFalse => cases h
     rename_i he;have e := acO he;subst e;refine ⟨rfl,fun hr cs dP => ?_⟩
     have hx : x = some cs := by
      unfold aN at dP;simp only [List.getElem?_cons_zero] at dP;cases x with
      | none => simp at dP
      | some d => simp at dP; rw [dP]
     subst hx;cases hc : nN (some cs) with
     | false =>
       rw [hc] at h;simp at h;subst h;exact absurd (by simp) hr
     | true =>
       simp only [nN,ae,bH] at hc;exact ⟨hc.1,ff.1 hc.2⟩
   | succ b =>
     have ih := zx h0 b (by rw [show k + 1 + b = k + (b + 1) by omega]; exact hb);have e : ∀ z (G : Heap),aN (z :: G) (b + 1) = aN G b := fun z G => by simp [aN]
     rw [e,e];refine ⟨ih.1,fun hr => ih.2 fun hm => hr ?_⟩;rw [show k + 1 + b = k + (b + 1) by omega] at hm;split at h
     ·cases h; exact hm
     ·split at h
      ·simp at h;subst h;split
       ·exact hm
       ·exact List.mem_cons_of_mem _ hm
      ·cases h
theorem ZR {p : Rt} {k : Nat} {xs : List AV} {x : AV} (h : p ∉ aP x) : cN (fb p k xs) x = x := zD x fun k' q o l hq => by
 have : q ≠ p := fun e => h (e ▸ hq);constructor <;> simp [fb,this]
theorem ab0 {p : Rt} {k : Nat} {xs : List AV} {x : List AV} (h : p ∉ dh x) : de (fb p k xs) x = x := mH x fun k' q o l hq => by
 have : q ≠ p := fun e => h (e ▸ hq);constructor <;> simp [fb,this]
theorem Xe {s : St} {p : Rt} {k : Nat} {xs : List AV} {kd : Kd} {v : AV} (hp : aC s p = some (k,xs))
  (CD : ∀ t : St,(∀ i ∈ kd.reads,get t.env i = get s.env i) -> aC t p = some (k,xs) -> fH c call t kd = some (v,setAt (cz (fb p k xs) t) p (.list k xs),.wr (kX p t.env) (some (kz p ++ pJ p 0 t.H)))) :
  ∃ V,uc c call s kd v (setAt (cz (fb p k xs) s) p (.list k xs)) (kX p s.env) (some (kz p ++ pJ p 0 s.H)) V := by
 have vo := u5 hp;have yJ : ∀ i ∈ rootOf p,i ∈ kX p s.env := fun i hi => mA (.inr ⟨qO.2 hi,fun e => by have := vo i hi; rw [e] at this; cases this⟩);have mF : ∀ {i : Nat},i ∉ kX p s.env -> p ∉ aP (get s.env i) /\ i ∉ rootOf p := fun {i} hi => ⟨fun e => hi (mA (.inl (rX.2 e))),fun e => hi (yJ i e)⟩
 have Gw : ∀ i,p ∉ aP (get s.env i) -> i ∉ rootOf p -> get (setAt (cz (fb p k xs) s) p (.list k xs)).env i = get s.env i := fun i h1 h2 => by
  rw [gb h2];show get (j7 (fb p k xs) s.env) i = _;rw [dt,ZR h1]
 have agN : ∀ b,b ∉ kz p ++ pJ p 0 s.H -> aN (setAt (cz (fb p k xs) s) p (.list k xs)).H b = aN s.H b := fun b hb => by
  rw [rC fun hm => hb (Q5 _ hm)];show aN (ft (fb p k xs) s.H) b = _;rw [fk];cases dP : aN s.H b with
  | none => rfl
  | some cs =>
    simp only [dc,ah];refine ab0 fun hm => hb ?_;have := kY (k := 0) dP hm;exact O6 _ (by simpa using this)
 refine ⟨fun q => q = p,⟨fun i hi _ => ?_,fun i hi => ?_,fun i h1 h2 => ?_,fun l hl b hb => ?_,fun i hi => ⟨fun q hq e => ?_,fun e => ?_,fun j e => ?_⟩,fun l hl b hb r9 cs dP => ⟨fun q hq e => ?_,fun _ j e => ?_⟩,fun d u hd mX _ hu => ?_⟩⟩
 ·obtain ⟨h1,h2⟩ := mF hi;exact Gw i h1 h2
 ·obtain ⟨h1,h2⟩ := mF hi;rw [Gw i h1 h2]
 ·exact Gw i (by rw [h2]; simp) fun hi => by rw [vo i hi] at h1; cases h1
 ·cases hl;exact agN b hb
 ·subst e;exact (mF hi).1 hq
 ·subst e;exact (mF hi).2 (by simp [rootOf])
 ·subst e;exact (mF hi).2 (by simp [rootOf])
 ·subst e;cases hl;have := kY (k := 0) dP hq;exact hb (O6 _ (by simpa using this))
 ·subst e;cases hl;exact hb (Q5 _ (by simp [kz]))
 ·obtain ⟨hd3,hd4⟩ := mF mX
  let t0 : St := PN ⟨put s.env d u,s.H⟩
  have NO : dM t0 ⟨put s.env d u,s.H⟩ := (px _).symm;have hg : ∀ i,get t0.env i = if i = d then u else get s.env i := fun i => by rw [nH,bE]
  have own : aC t0 p = aC s p := by rw [<- NO.own p]; exact mD hd4
  have Ll : p ∉ aP u := fun hm => hu p hm rfl;refine ⟨t0,setAt (cz (fb p k xs) t0) p (.list k xs),kX p t0.env,NO,CD t0 (fun i hi => by rw [hg,if_neg]; intro e; subst e; exact hd hi) (own.trans hp),fun i hi => ?_,?_⟩
  ·obtain ⟨_,h2⟩ := Ah hi;have : get (put s.env d u) i = get t0.env i := (nH ⟨put s.env d u,s.H⟩ i).symm;simp only [this,hg] at h2;rcases h2 with h2 | h2
   ·split at h2
    ·exact absurd (rX.1 h2) Ll
    ·exact mA (.inl h2)
   ·exact yJ i (qO.1 h2)
  ·have h5 : dM (cz (fb p k xs) t0) ⟨put (cz (fb p k xs) s).env d u,(cz (fb p k xs) s).H⟩ := ⟨fun i => by
    show get (j7 (fb p k xs) t0.env) i = get (put (j7 (fb p k xs) s.env) d u) i;rw [dt,hg,bE,dt];split
    ·exact ZR Ll
    ·rfl,rfl⟩
   exact (Dw h5 p (.list k xs)).trans (rB hd4)
theorem aaB {s s1 : St} {kd : Kd} {v : AV} {sl : List Nat} {bs : Option (List Nat)} (ia : ∀ t,fH c call t kd = dA c call kd t) (hi : oP c s kd = none) (hl : l7 c call s kd = none) (hmv : q8 c call s kd = none) (h : dU c call kd s = some (v,s1,.wr sl bs)) : ∃ V,uc c call s kd v s1 sl bs V := by
 unfold dU at h;split at h
 ·cases h
 rename_i f args ha;split at h
 ·cases h
 rename_i md q hf;split at h
 ·rename_i hm;split at h
  ·cases h
  split at h
  case h_2 => cases h
  split at h
  case isFalse => cases h
  simp only [ah,aJ] at h;obtain ⟨_,_,h⟩ := h;split at h <;> cases h
 rename_i hm;split at h
 ·cases h
 rename_i f1 nO NY;split at h
 case isFalse => cases h
 rename_i Zy;split at h
 ·rename_i jG;split at h
  case isFalse => cases h
  rename_i hp;split at h
  case h_2 => cases h
  rename_i r H' hc;split at h
  case isFalse => cases h
  rename_i hr;simp only [ah,aJ] at h;obtain ⟨rfl,rfl,h⟩ := h
  have he : dh args = [] := by
   cases hb : dh args with
   | nil => rfl
   | cons x y => simp [hb] at h
  rw [he] at h NY hp hc;simp only [dR] at NY hp hc;simp at h;obtain ⟨rfl,rfl⟩ := h
  have off : ∀ l,kj (jJ nO) (eL (jJ nO) 0 s.H H') = some l -> ∀ b,b ∉ l -> aN H' b = aN s.H b /\ (b + kV ∉ l -> ∀ cs,aN s.H b = some cs -> bK cs = false /\ dh cs = []) := by
   intro l hl b hb;cases ho : eL (jJ nO) 0 s.H H' with
   | none => rw [ho] at hl; cases hl
   | some r =>
     rw [ho] at hl;have hl : some (jJ nO ++ r) = some l := hl;cases hl;have r9 := eV hb;have := zx ho b (by simpa using r9.1);refine ⟨this.1,fun h2 => this.2 ?_⟩;have := (eV h2).2;simpa using this
  refine ⟨fun p => dQ p = false,⟨fun i hi _ => ?_,fun i hi => ?_,fun i h1 h2 => ?_,fun l hl b hb => ?_,fun i hi => ⟨fun p hp => ?_,by simp [dQ],fun j => by simp [dQ]⟩,fun l hl b hb r9 cs dP => ?_,fun d u hd mX _ hu => ?_⟩⟩
  ·simp only [he,dR,dt];refine CM (A2 ?_);cases hh : fx (aP (get s.env i)) with
   | false => rfl
   | true => exact absurd (rE hh) hi
  ·simp only [he,dR,dt];rw [CM (A2 ?_)];cases hh : fx (aP (get s.env i)) with
   | false => rfl
   | true => exact absurd (rE hh) hi
  ·simp only [he,dR,dt];exact CM fun p hp => by rw [h2] at hp; simp at hp
  ·exact (off l hl b hb).1
  ·have : fx (aP (get s.env i)) = false := by
    cases hh : fx (aP (get s.env i)) with
    | false => rfl
    | true => exact absurd (rE hh) hi
   rw [A2 this p hp]; simp
  ·obtain ⟨o1,o2⟩ := (off l hl b hb).2 r9 cs dP;exact ⟨fun p hp => (by rw [o2] at hp; cases hp),fun ho => (by rw [o1] at ho; cases ho)⟩
  ·let t0 : St := PN ⟨put s.env d u,s.H⟩
   have hg : ∀ i,get t0.env i = if i = d then u else get s.env i := fun i => by rw [nH,bE]
   have hH : t0.H = s.H := rfl
   have hrd : ∀ i ∈ kd.reads,get t0.env i = get s.env i := fun i hi => by
    rw [hg,if_neg]; intro e; subst e; exact hd hi
   refine ⟨t0,⟨j7 l6 t0.env,H'⟩,gg t0.env,(px _).symm,?_,fun i hi => ?_,?_,rfl⟩
   ·rw [ia];unfold dA;rw [wv hi,AR hl];simp only [gq,AN hmv];apply qi;unfold dU;rw [iL (e1 := t0.env) (e2 := s.env) fun i hi => by rw [hrd i hi],ha];simp only [hf,hm,he,dR,bn,if_false];rw [iL (e1 := t0.env) (e2 := s.env) fun i hi => by rw [hrd i hi],NY];simp only [Zy,if_true,jG,hH,hp,hc,hr];simp
    first
     | done
     | rfl
     | (congr 1)
   ·obtain ⟨_,h2⟩ := HZ hi;have : get (put s.env d u) i = get t0.env i := (nH ⟨put s.env d u,s.H⟩ i).symm;simp only [this,hg] at h2;split at h2
    ·rename_i e;subst e;obtain ⟨p,hp,hn⟩ := A3.1 h2;exact absurd hn (hu p hp)
    ·exact rE h2
   ·intro i;simp only [he,dR,dt,hg,bE];split
    ·refine CM fun p hp => ?_;have := hu p hp;simpa using this
    ·rfl
 ·rename_i jG;split at h
  case isFalse => cases h
  rename_i C4;split at h
  case h_2 => cases h
  rename_i r H' hc;split at h
  case isFalse => cases h
  rename_i oX;simp only [ah,aJ] at h;obtain ⟨rfl,rfl,h⟩ := h;split at h
  ·cases h
  unfold lR at h;split at h
  case h_2 => cases h
  rename_i p hbr;split at h
  case h_2 => cases h
  rename_i y hp;obtain ⟨k,xs⟩ := y;simp only [Fq.wr.injEq] at h;obtain ⟨rfl,rfl⟩ := h
  have zK : ∀ t : St,aC t p = some (k,xs) -> dR (dh args) t = setAt (cz (fb p k xs) t) p (.list k xs) := fun t ht => by
   rw [hbr];simp only [dR,Gr,ht]
  rw [zK s hp];refine Xe hp fun t ht hpt => ?_;rw [ia];unfold dA;rw [wv hi,AR hl];simp only [gq,AN hmv];apply qi;unfold dU;rw [iL (e1 := t.env) (e2 := s.env) fun i hi => by rw [ht i hi],ha];simp only [hf,hm,bn,if_false];rw [zK t hpt];rw [zK s hp] at NY
  have hk : getArgs c (setAt (cz (fb p k xs) t) p (.list k xs)).env kd = some (f1,nO) := by
   rw [<- NY];refine iL fun i hi => ?_
   have e0 : get (cz (fb p k xs) t).env i = get (cz (fb p k xs) s).env i := by
    show get (j7 (fb p k xs) t.env) i = get (j7 (fb p k xs) s.env) i;rw [dt,dt,ht i hi]
   have e1 : get (setAt (cz (fb p k xs) t) p (.list k xs)).env i = get (setAt (cz (fb p k xs) s) p (.list k xs)).env i := by
    by_cases hr : i ∈ rootOf p
    ·cases p with
     | s i0 =>
       simp [rootOf] at hr; subst hr;simp only [setAt];rw [bE,bE,if_pos rfl,if_pos rfl]
     | sc i0 j =>
       simp [rootOf] at hr; subst hr;simp only [setAt,e0];split
       ·rw [bE,bE,if_pos rfl,if_pos rfl]
       ·exact e0
     | c b j => simp [rootOf] at hr
    ·rw [gb hr,gb hr]; exact e0
   rw [e1]
  rw [hk];simp only [Zy,if_true,jG,bn,if_false,C4,hc,oX];simp [hbr,lR,hpt]
theorem Vm {s s1 : St} {k n : Nat} {zs : List AV} {ps : List (Nat × Nat × E)} {v : AV} {sl : List Nat} {bs : Option (List Nat)} (h : fH c call s (.dY k n zs ps) = some (v,s1,.wr sl bs)) : ∃ V,uc c call s (.dY k n zs ps) v s1 sl bs V := by
 simp only [fH] at h;split at h
 case h_2 => cases h
 rename_i cs hc;split at h
 case isFalse => cases h
 rename_i hz;simp only [ah,aJ] at h;obtain ⟨rfl,rfl,h⟩ := h;split at h
 ·cases h
 unfold lR at h;split at h
 case h_2 => cases h
 rename_i p hbr;split at h
 case h_2 => cases h
 rename_i y hp;obtain ⟨k',xs⟩ := y;simp only [Fq.wr.injEq] at h;obtain ⟨rfl,rfl⟩ := h
 have zK : ∀ t : St,aC t p = some (k',xs) -> dR (gW c s.env ps) t = setAt (cz (fb p k' xs) t) p (.list k' xs) := fun t ht => by
  rw [hbr];simp only [dR,Gr,ht]
 rw [zK s hp] at hc ⊢;refine Xe hp fun t ht hpt => ?_;have hpb : gW c t.env ps = gW c s.env ps := qa fun i hi => by rw [ht i hi]
 have hk : oY c (setAt (cz (fb p k' xs) t) p (.list k' xs)).env (rep zs n) ps = some cs := by
  rw [<- hc];refine qS fun i hi => ?_
  have e0 : get (cz (fb p k' xs) t).env i = get (cz (fb p k' xs) s).env i := by
   show get (j7 (fb p k' xs) t.env) i = get (j7 (fb p k' xs) s.env) i;rw [dt,dt,ht i hi]
  have e1 : get (setAt (cz (fb p k' xs) t) p (.list k' xs)).env i = get (setAt (cz (fb p k' xs) s) p (.list k' xs)).env i := by
   by_cases hr : i ∈ rootOf p
   ·cases p with
    | s i0 =>
      simp [rootOf] at hr; subst hr;simp only [setAt];rw [bE,bE,if_pos rfl,if_pos rfl]
    | sc i0 j =>
      simp [rootOf] at hr; subst hr;simp only [setAt,e0];split
      ·rw [bE,bE,if_pos rfl,if_pos rfl]
      ·exact e0
    | c b j => simp [rootOf] at hr
   ·rw [gb hr,gb hr]; exact e0
  rw [e1]
 simp only [fH,hpb,zK t hpt,hk,hz,if_true];simp [hbr,lR,hpt]
theorem xV {b off k : Nat} : ∀ {s : St} {v : AV},GZ (cW b off k) s v = false -> (∀ i,∀ p ∈ aP (get s.env i),cW b off k p = false) /\ (∀ d cs,aN s.H d = some cs -> ∀ p ∈ dh cs,cW b off k p = false) /\ ∀ p ∈ aP v,cW b off k p = false := by
 intro s v h;simp only [GZ,eP] at h;obtain ⟨h1,h2,h3⟩ := h;refine ⟨fun i p hp => ?_,fun d cs hb => GW h3 hb,fun p hp => ?_⟩
 ·cases hh : cW b off k p with
  | false => rfl
  | true => rw [OG (i := i) (sG.2 ⟨p,hp,hh⟩)] at h2; cases h2
 ·cases hh : cW b off k p with
  | false => rfl
  | true => rw [sG.2 ⟨p,hp,hh⟩] at h1; cases h1
theorem abT {p : Rt} {b : Nat} (h : mu b (Us p) = false) : b ∉ kz p := by
 cases p with
 | s i => simp [kz]
 | sc i j => simp [kz]
 | c d j =>
   have := (mP h).2 99999;simp only [Us,kz,cE] at this ⊢;intro e;subst e;exact this rfl
theorem qv.TE {b j : Nat} {s t : St} (h : ∀ cs,aN s.H b = some cs -> ∃ ds,aN t.H b = some ds /\ ds[j]? = cs[j]?) : qv b j s t := fun cs hc => by
 obtain ⟨ds,a,e⟩ := h cs hc;exact ⟨ds,a,sV _ e⟩
theorem Pt {s : St} {p : Rt} {k : Nat} {xs xs' : List AV} (hp : aC s p = some (k,xs)) (hl : xs'.length = xs.length) (b j : Nat) : qv b j s (setAt s p (.own k xs')) /\ qv b j (setAt s p (.own k xs')) s := by
 cases p with
 | s i => exact ⟨.of_eq rfl,.of_eq rfl⟩
 | sc i l =>
   have e : (setAt s (.sc i l) (.own k xs')).H = s.H := by simp only [setAt]; split <;> rfl
   exact ⟨.of_eq (by rw [e]),.of_eq (by rw [e])⟩
 | c d l =>
   have h1 := cu.1 hp;simp only [at_] at h1;split at h1
   case h_2 => cases h1
   rename_i cs dP;have e : (setAt s (.c d l) (.own k xs')).H = s.H.set d (some (cs.set l (.own k xs'))) := by simp only [setAt,dP]
   have hb : ∀ c,aN (setAt s (.c d l) (.own k xs')).H c = if c = d then some (cs.set l (.own k xs')) else aN s.H c := fun c => by
    rw [e,dH];by_cases q : c = d
    ·rw [if_pos ⟨q,by subst q; exact dL dP⟩,if_pos q]
    ·rw [if_neg (fun h => q h.1),if_neg q]
   by_cases q : b = d
   ·subst q;have lc := AU (f := fun i => Rt.c b i) (j := 0) h1 hl;refine ⟨fun ds mX => ⟨_,by rw [hb,if_pos rfl],?_⟩,fun ds mX => ⟨cs,dP,?_⟩⟩
    ·rw [dP] at mX; cases mX;exact congrArg (·[j]?) lc
    ·rw [hb,if_pos rfl] at mX; cases mX;exact (congrArg (·[j]?) lc).symm
   ·exact ⟨.of_eq (by rw [hb,if_neg q]),.of_eq (by rw [hb,if_neg q])⟩
theorem ahq {s s1 : St} {k : Nat} {x y : E} {v : AV} {sl : List Nat} {bs : Option (List Nat)} (h : fH c call s (.st k x y) = some (v,s1,.wr sl bs)) : ∃ V,QW c call s (.st k x y) v s1 sl bs V := by
 have hcg : ∀ {d : Nat} {u : AV} {e : Env},(∀ i,get e i = if i = d then u else get s.env i) -> d ∉ (Kd.st k x y).reads -> bt c e x = bt c s.env x /\ bt c e y = bt c s.env y := by
  intro d u e he hd;simp only [Kd.reads,aG,not_or] at hd;exact ⟨cm fun i hi => by rw [he,if_neg]; intro e; subst e; exact hd.1 hi,cm fun i hi => by rw [he,if_neg]; intro e; subst e; exact hd.2 hi⟩
 have He : ∀ {d : Nat} {u : AV},∀ i,get (put s.env d u) i = if i = d then u else get s.env i := fun i => bE _ _ _ _;simp only [fH] at h;split at h
 ·rename_i k' p i off hx;split at h
  case h_2 => cases h
  rename_i s2 f hh;simp only [ah,aJ] at h;obtain ⟨rfl,rfl,h⟩ := h
  have he : aP (bt c s.env y) = [] := by
   cases hb : aP (bt c s.env y) with
   | nil => rfl
   | cons a b => rw [hb] at h; simp at h
  rw [he] at h hh;simp at h;subst h;rw [show dR [] s = s from rfl,hx] at hh;simp only [OR] at hh;split at hh
  case h_2 => cases hh
  rename_i k2 xs hp;split at hh
  case isFalse => cases hh
  rename_i hk;split at hh
  case h_2 => cases hh
  rename_i z hz;by_cases hc : (bt c s.env y).cells.length = k /\ off + k <= k' /\ N3 (bt c s.env y).cells = true
  case neg => rw [if_neg hc] at hh; cases hh
  rw [if_pos hc] at hh;simp only [ah,aJ,Fq.wr.injEq] at hh;obtain ⟨rfl,rfl,rfl⟩ := hh;have vo := u5 hp;refine ⟨fun _ => False,⟨fun i _ hi => gb fun hm => hi (wk.2 hm),fun i _ => Pu (hk ▸ hp) (cJ ..) i,(fun i h1 h2 => gb fun hi => by rw [vo i hi] at h1; cases h1),fun l hl b hb => (by cases hl; exact rC (abT hb)),fun l hl b j hb hbj => (by cases hl; exact Pt (hk ▸ hp) (cJ ..) b j),fun i hi => ⟨fun _ _ => id,id,fun _ => id⟩,fun l hl b hb r9 cs dP => ⟨fun _ _ => id,fun _ _ => id⟩,fun l hl b j _ _ _ cs c0 _ _ => ⟨fun _ _ => id,fun _ _ _ => id⟩,fun d u hd _ hds0 hu => ?_⟩⟩;have mX : d ∉ rootOf p := fun hm => hds0 (wk.2 hm);obtain ⟨e1,e2⟩ := hcg (He (d := d) (u := u)) hd;refine ⟨⟨put s.env d u,s.H⟩,_,marks (rootOf p),dM.rfl',?_,fun i hi => hi,rB mX⟩;simp only [fH,e1,hx,e2,he];rw [show dR [] ⟨put s.env d u,s.H⟩ = (⟨put s.env d u,s.H⟩ : St) from rfl,e1,hx,e2];simp only [OR,mD mX,hp,hk,if_true,hz];rw [if_pos hc];simp
 ·rename_i hnp;split at h
  case h_2 => cases h
  rename_i s2 f hh;simp only [ah,aJ] at h;obtain ⟨rfl,rfl,rfl⟩ := h;unfold OR at hh;split at hh
  ·rename_i b off hx;unfold wR at hh;split at hh
   case h_2 => cases hh
   rename_i cs hb;split at hh
   case isFalse => cases hh
   rename_i hc;split at hh
   ·split at hh
    ·split at hh <;> simp at hh
    ·cases hh
   ·rename_i HG;simp only [ah,aJ,Fq.wr.injEq] at hh;obtain ⟨rfl,rfl,rfl⟩ := hh
    have Uv : bK ((cs.drop off).take k) = true -> GZ (cW b off k) s (bt c s.env y) = false := fun ho => by
     rw [ho] at HG; simpa using HG
    apply uc.up;refine ⟨fun p => bK ((cs.drop off).take k) = true /\ cW b off k p = true,⟨fun i hi _ => rfl,fun i hi => rfl,fun i h1 h2 => rfl,fun l hl d hd => ?_,fun i hi => ⟨fun p hp hV => ?_,fun hV => by simp [cW] at hV,fun j hV => by simp [cW] at hV⟩,fun l hl d hd ya ds mX => ⟨fun p hp hV => ?_,fun _ j hV => ?_⟩,fun d u hd mX _ hu => ?_⟩⟩
    ·cases hl;have : d ≠ b := by simpa using hd
     show aN (s.H.set b _) d = aN s.H d;rw [dH,if_neg (fun e => this e.1)]
    ·rw [(xV (Uv hV.1)).1 i p hp] at hV; cases hV.2
    ·rw [(xV (Uv hV.1)).2.1 d ds mX p hp] at hV; cases hV.2
    ·cases hl;have : d ≠ b := by simpa using hd
     simp [cW,this] at hV
    ·let t0 : St := PN ⟨put s.env d u,s.H⟩
     have hg : ∀ i,get t0.env i = if i = d then u else get s.env i := fun i => by rw [nH,bE]
     have hH : t0.H = s.H := rfl;obtain ⟨e1,e2⟩ := hcg hg hd;refine ⟨t0,⟨t0.env,s.H.set b (some (jv cs off (bt c s.env y).cells))⟩,[],(px _).symm,?_,fun i hi => hi,(px _).symm.1,rfl⟩
     have aiK : (bK ((cs.drop off).take k) && GZ (cW b off k) t0 (bt c s.env y)) = false := by
      cases ho : bK ((cs.drop off).take k) with
      | false => rfl
      | true =>
        obtain ⟨n1,n2,n3⟩ := xV (Uv ho)
        have nR : ∀ {l : List Rt},(∀ p ∈ l,cW b off k p = false) -> vH (cW b off k) l = false := by
         intro l hl;cases hh : vH (cW b off k) l with
         | false => rfl
         | true => obtain ⟨p,hp,hq⟩ := sG.1 hh; rw [hl p hp] at hq; cases hq
        have h0 := Uv ho;simp only [GZ,eP] at h0;simp only [GZ,Bool.true_and,eP];refine ⟨h0.1,?_,by rw [hH]; exact h0.2.2⟩;cases hh : GY (cW b off k) t0.env with
        | false => rfl
        | true =>
          obtain ⟨i,_,h2⟩ := GX hh;have : get (put s.env d u) i = get t0.env i := (nH ⟨put s.env d u,s.H⟩ i).symm;simp only [this,hg] at h2;split at h2
          ·obtain ⟨p,hp,hq⟩ := sG.1 h2;exact absurd ⟨ho,hq⟩ (hu p hp)
          ·rw [nR (n1 i)] at h2; cases h2
     simp only [fH,e1,hx,e2,OR,wR,hH,hb];rw [if_pos hc];simp only [aiK,bn,if_false]
  ·rename_i k2 p2 i2 off2 e1;exact absurd e1 (hnp k2 p2 i2 off2)
  ·cases hh
theorem Dy {q : Rt} : ∀ {l : List Rt},q ∈ l -> ∀ i ∈ rootOf q,i ∈ xw l
 | [],h,i,_ => by simp at h
 | r :: l,h,i,hi => by
   simp only [xw,aG];rcases aK.1 h with e | e
   ·subst e; exact .inl hi
   ·exact .inr (Dy e i hi)
theorem Z3 {s t : St} {k : Nat} {x : AV} (h : ∀ p ∈ aP x,aC t p = aC s p) : cont t k x = cont s k x := by
 cases x <;> try rfl
 case dG k' p off len => simp only [cont]; rw [h p (by simp [aP])]
 case own k' xs => cases xs <;> rfl
theorem Xm {p : Rt} {x : AV} (h : p ∉ aP x) : cN (sw p) x = x := zD x fun k q o l hq => by
 have : q ≠ p := fun e => h (e ▸ hq);simp [sw,this]
theorem Re {p : Rt} {x : List AV} (h : p ∉ dh x) : de (sw p) x = x := mH x fun k q o l hq => by
 have : q ≠ p := fun e => h (e ▸ hq);simp [sw,this]
theorem GL {p : Rt} {b : Nat} {m : List Nat} (h : mu b (cellOf p ++ m) = false) : b ∉ kz p := by
 intro hb;cases p with
 | s i => simp [kz] at hb
 | sc i j => simp [kz] at hb
 | c d j =>
   simp [kz] at hb;subst hb;exact (mP h).2 j (by simp [cellOf])
theorem aeT {s s1 : St} {k : Nat} {x y : E} {v : AV} {sl : List Nat} {bs : Option (List Nat)} (h : fH c call s (.app k x y) = some (v,s1,.wr sl bs)) : ∃ V,QW c call s (.app k x y) v s1 sl bs V := by
 simp only [fH] at h;split at h
 case h_2 => cases h
 rename_i ys hy;split at h
 case isFalse => cases h
 rename_i hl;split at h
 ·split at h <;> simp at h
 case h_3 => cases h
 rename_i k' p len hx;split at h
 case h_2 => cases h
 rename_i k2 xs hp;split at h
 case isFalse => cases h
 rename_i hc;simp only [ah,aJ,Fq.wr.injEq] at h;obtain ⟨rfl,rfl,rfl,rfl⟩ := h;have vo := u5 hp;have yJ : ∀ i ∈ rootOf p,i ∈ kX p s.env := fun i hi => mA (.inr ⟨qO.2 hi,fun e => by have := vo i hi; rw [e] at this; cases this⟩);have mF : ∀ {i : Nat},i ∉ kX p s.env -> p ∉ aP (get s.env i) /\ i ∉ rootOf p := fun {i} hi => ⟨fun e => hi (mA (.inl (rX.2 e))),fun e => hi (yJ i e)⟩
 have Gw : ∀ i,p ∉ aP (get s.env i) -> i ∉ rootOf p -> get (setAt (cz (sw p) s) p .any).env i = get s.env i := fun i h1 h2 => by
  rw [gb h2];show get (j7 (sw p) s.env) i = _;rw [dt,Xm h1]
 refine ⟨fun q => q = p,⟨fun i hi _ => ?_,fun i hi => ?_,fun i h1 h2 => ?_,fun l hl b hb => ?_,fun l hl b j hb hbj => ?_,fun i hi => ⟨fun q hq e => ?_,fun e => ?_,fun j e => ?_⟩,fun l hl b hb r9 cs dP => ⟨fun q hq e => ?_,fun _ j e => ?_⟩,fun l hl b j hb r9 hbj cs c0 dP Gh => ⟨fun q hq e => ?_,fun k0 xs0 e0 e => ?_⟩,fun d u hd mX hds2 hu => ?_⟩⟩
 ·obtain ⟨h1,h2⟩ := mF (eV hi).1;exact Gw i h1 h2
 ·obtain ⟨h1,h2⟩ := mF (eV hi).1;rw [Gw i h1 h2]
 ·exact Gw i (by rw [h2]; simp) fun hi => by rw [vo i hi] at h1; cases h1
 ·cases hl;have zL : b ∉ kz p := GL hb;have r9 := (eV (mP hb).1).2;rw [rC zL];show aN (ft (sw p) s.H) b = _;rw [fk];cases dP : aN s.H b with
  | none => rfl
  | some cs =>
    simp only [dc,ah];refine Re fun hm => r9 ?_;have := kY (k := 0) dP hm;simpa using this
 ·cases hl;obtain ⟨zL,r9⟩ := eV hb;obtain ⟨Qk,_⟩ := eV hbj
  have hsw : ∀ cs,aN s.H b = some cs -> de (sw p) cs = cs := fun cs dP => Re fun hm => r9 (by
   have := kY (k := 0) dP hm;simpa using this)
  have hn : aN s.H b = none -> aN (setAt (cz (sw p) s) p .any).H b = none := fun hn => by
   cases p with
   | s i => show aN (ft (sw _) s.H) b = none; rw [fk,hn]; rfl
   | sc i l =>
     simp only [setAt];split <;> (show aN (ft (sw _) s.H) b = none; rw [fk,hn]; rfl)
   | c d l =>
     simp only [setAt];split
     ·rename_i cs dP;have hcs' : aN (ft (sw (.c d l)) s.H) d = some cs := dP;show aN ((ft (sw (.c d l)) s.H).set d _) b = none;rw [dH];by_cases e : b = d
      ·subst e; rw [fk,hn] at hcs'; cases hcs'
      ·rw [if_neg (fun h => e h.1),fk,hn]; rfl
     ·show aN (ft (sw _) s.H) b = none; rw [fk,hn]; rfl
  have hs : ∀ cs,aN s.H b = some cs -> ∃ ds,aN (setAt (cz (sw p) s) p .any).H b = some ds /\ ds[j]? = cs[j]? := fun cs dP => by
   have hm : aN (ft (sw p) s.H) b = some cs := by rw [fk,dP,dc,hsw cs dP]
   cases p with
   | s i => exact ⟨cs,hm,rfl⟩
   | sc i l =>
     simp only [setAt];split <;> exact ⟨cs,hm,rfl⟩
   | c d l =>
     simp only [setAt];split
     ·rename_i es hes;have hes' : aN (ft (sw (.c d l)) s.H) d = some es := hes;show ∃ ds,aN ((ft (sw (.c d l)) s.H).set d _) b = some ds /\ _;rw [dH];by_cases e : b = d
      ·subst e;rw [hm] at hes';cases hes';refine ⟨cs.set l .any,by rw [if_pos ⟨rfl,dL hm⟩],?_⟩;rw [List.getElem?_set_ne];intro e2;subst e2;exact Qk (by simp [cellOf])
      ·rw [if_neg (fun h => e h.1)];exact ⟨cs,hm,rfl⟩
     ·exact ⟨cs,hm,rfl⟩
  refine ⟨.TE hs,.TE fun ds mX => ?_⟩;cases dP : aN s.H b with
  | none => rw [hn dP] at mX; cases mX
  | some cs =>
    obtain ⟨ds',h1,h2⟩ := hs cs dP;rw [h1] at mX;cases mX;exact ⟨cs,rfl,h2.symm⟩
 ·subst e;exact (mF (eV hi).1).1 hq
 ·subst e;exact (mF (eV hi).1).2 (by simp [rootOf])
 ·subst e;exact (mF (eV hi).1).2 (by simp [rootOf])
 ·subst e;cases hl;obtain ⟨zL,r9⟩ := eV (mP hb).1;have := kY (k := 0) dP hq;exact r9 (by simpa using this)
 ·subst e;cases hl;exact GL hb (by simp [kz])
 ·subst e;cases hl;obtain ⟨zL,r9⟩ := eV hb;have := kY (k := 0) dP (jS.2 ⟨c0,bg Gh,hq⟩);exact r9 (by simpa using this)
 ·subst e;cases hl;exact (eV hbj).1 (by simp [cellOf])
 ·have ZA := (eV mX).1;have ya : d ∉ xw (aP (bt c s.env y)) := fun hm => (eV hds2).2 (wk.2 hm);obtain ⟨hd3,hd4⟩ := mF ZA
  let t0 : St := PN ⟨put s.env d u,s.H⟩
  have NO : dM t0 ⟨put s.env d u,s.H⟩ := (px _).symm;have hg : ∀ i,get t0.env i = if i = d then u else get s.env i := fun i => by rw [nH,bE]
  have hH : t0.H = s.H := rfl;simp only [Kd.reads,aG,not_or] at hd;have e1 : bt c t0.env x = bt c s.env x := cm fun i hi => by rw [hg,if_neg]; intro e; subst e; exact hd.1 hi
  have e2 : bt c t0.env y = bt c s.env y := cm fun i hi => by rw [hg,if_neg]; intro e; subst e; exact hd.2 hi
  have own : ∀ q,d ∉ rootOf q -> aC t0 q = aC s q := fun q hq => by rw [<- NO.own q]; exact mD hq
  have e3 : cont t0 k (bt c s.env y) = cont s k (bt c s.env y) := Z3 fun q hq => own q fun hr => ya (Dy hq d hr);have Ll : p ∉ aP u := fun hm => hu p hm rfl;refine ⟨t0,setAt (cz (sw p) t0) p .any,kX p t0.env ++ marks (xw (aP (bt c s.env y))),NO,?_,fun i hi => ?_,?_⟩
  ·simp only [fH,e1,e2,e3,hy,hl,if_true,hx,own p hd4,hp];rw [if_pos hc];rfl
  ·rcases aG.1 hi with hi | hi
   ·obtain ⟨_,h2⟩ := Ah hi;have : get (put s.env d u) i = get t0.env i := (nH ⟨put s.env d u,s.H⟩ i).symm;simp only [this,hg] at h2;refine aG.2 (.inl ?_);rcases h2 with h2 | h2
    ·split at h2
     ·exact absurd (rX.1 h2) Ll
     ·exact mA (.inl h2)
    ·exact yJ i (qO.1 h2)
   ·exact aG.2 (.inr hi)
  ·have h5 : dM (cz (sw p) t0) ⟨put (cz (sw p) s).env d u,(cz (sw p) s).H⟩ := ⟨fun i => by
    show get (j7 (sw p) t0.env) i = get (put (j7 (sw p) s.env) d u) i;rw [dt,hg,bE,dt];split
    ·exact Xm Ll
    ·rfl,rfl⟩
   exact (Dw h5 p .any).trans (rB hd4)
theorem aeS {s s1 : St} {f : Nat} {x : E} {es : List E} {g : Nat -> List AV -> List AV -> Option (List AV)} {v : AV} {sl : List Nat} {bs : Option (List Nat)} (hi : c.inp f = none) (L0 : c.eat f = some g) (h : QD s g (bt c s.env x) (dE c s.env es) = some (v,s1,.wr sl bs)) : ∃ V,QW c call s (.call f (x :: es)) v s1 sl bs V := by unfold QD at h;cases h
theorem aeR {s s1 : St} {kd : Kd} {v : AV} {sl : List Nat} {bs : Option (List Nat)} (hni : ∀ f x es,kd = .call f (x :: es) -> c.inp f ≠ none) (ia : ∀ t,fH c call t kd = dA c call kd t) (h : oP c s kd = some (some (v,s1,.wr sl bs))) : ∃ V,uc c call s kd v s1 sl bs V := by
 have h0 := h;unfold oP at h;split at h
 case h_2 => cases h
 rename_i f x es;split at h
 case h_1 =>
  rename_i W8;exact absurd W8 (hni _ _ _ rfl)
 rename_i g L0;simp only [ah] at h;split at h
 case h_4 => cases h
 case h_3 =>
  exfalso
  (repeat' split at h) <;> simp at h
 ·rename_i k hx;split at h
  case isFalse => cases h
  rename_i oX;split at h
  case h_2 => cases h
  rename_i ys res HE;simp only [ah,aJ,Fq.wr.injEq] at h;obtain ⟨rfl,rfl,rfl,rfl⟩ := h;refine ⟨fun _ => False,⟨fun i hi _ => rfl,fun i hi => rfl,fun i h1 h2 => rfl,fun l hl b hb => rfl,fun i hi => ⟨fun _ _ => id,id,fun _ => id⟩,fun l hl b hb r9 cs dP => ⟨fun _ _ => id,fun _ _ => id⟩,fun d u hd mX _ hu => ?_⟩⟩;have He : ∀ i,get (put s.env d u) i = if i = d then u else get s.env i := fun i => bE _ _ _ _;simp only [Kd.reads,mh,aG,not_or] at hd;have e1 : bt c (put s.env d u) x = bt c s.env x := cm fun i hi => by rw [He,if_neg]; intro e; subst e; exact hd.1 hi
  have e2 : dE c (put s.env d u) es = dE c s.env es := gS fun i hi => by rw [He,if_neg]; intro e; subst e; exact hd.2 hi
  refine ⟨⟨put s.env d u,s.H⟩,⟨put s.env d u,s.H⟩,[],dM.rfl',?_,fun i hi => hi,dM.rfl'⟩;rw [ia];unfold dA oP;simp only [L0,e1,hx,e2];rw [if_pos oX];simp only [HE]
 rename_i k p len hx;split at h
 case h_2 => cases h
 rename_i k' xs hp;split at h
 case isFalse => cases h
 rename_i hc;split at h
 case h_2 => cases h
 rename_i ys res HE;simp only [ah,aJ,Fq.wr.injEq] at h;obtain ⟨rfl,rfl,rfl,rfl⟩ := h;have vo := u5 hp;refine ⟨fun _ => False,⟨fun i hi _ => gb hi,(fun i hi => by rw [gb hi]),(fun i h1 h2 => gb fun hi => by rw [vo i hi] at h1; cases h1),fun l hl b hb => (by cases hl; exact rC hb),fun i hi => ⟨fun _ _ => id,id,fun _ => id⟩,fun l hl b hb r9 cs dP => ⟨fun _ _ => id,fun _ _ => id⟩,fun d u hd mX _ hu => ?_⟩⟩;have He : ∀ i,get (put s.env d u) i = if i = d then u else get s.env i := fun i => bE _ _ _ _;simp only [Kd.reads,mh,aG,not_or] at hd;have e1 : bt c (put s.env d u) x = bt c s.env x := cm fun i hi => by rw [He,if_neg]; intro e; subst e; exact hd.1 hi
 have e2 : dE c (put s.env d u) es = dE c s.env es := gS fun i hi => by rw [He,if_neg]; intro e; subst e; exact hd.2 hi
 refine ⟨⟨put s.env d u,s.H⟩,_,rootOf p,dM.rfl',?_,fun i hi => hi,rB mX⟩;rw [ia];unfold dA oP;simp only [L0,e1,hx,mD mX,hp,e2];rw [if_pos hc];simp only [HE]
theorem aaA {s s1 : St} {k : Nat} {x y : E} {v : AV} {sl : List Nat} {bs : Option (List Nat)} (h : fH c call s (.copy k x y) = some (v,s1,.wr sl bs)) : ∃ V,uc c call s (.copy k x y) v s1 sl bs V := by
 have ia : ∀ t,fH c call t (.copy k x y) = match bt c t.env x with
   | .dG k' p off n => if n = 0 then (match cont t k (bt c t.env y) with
     | some ys => if k' = k /\ bz (aH ys) = true then some (.int .i64 0,t,.all) else none
     | none => none) else match aC t p,cont t k (bt c t.env y) with
     | some (wu,xs),some ys => if k' = k /\ wu = k /\ off + n <= xs.length /\ bz (aH ys) = true then some (.int .i64 (min ys.length n : Nat),setAt t p (.own k (jv xs off (ys.take (min ys.length n)))),Om p (bt c t.env y)) else none
     | _,_ => none
   | _ => none := fun t => rfl
 rw [ia] at h;split at h
 case h_2 => cases h
 rename_i k' p off n hx;split at h
 ·exfalso
  (repeat' split at h) <;> simp at h
 rename_i hn;split at h
 case h_2 => cases h
 rename_i wu xs ys hp hy;split at h
 case isFalse => cases h
 rename_i hc;simp only [ah,aJ] at h;obtain ⟨rfl,rfl,hl⟩ := h;rcases vB p (bt c s.env y) with e | ⟨ky,oy,ly,ey,e⟩
 ·rw [e] at hl; cases hl
 rw [e] at hl;simp only [Fq.wr.injEq] at hl;obtain ⟨rfl,rfl⟩ := hl;have vo := u5 hp;refine ⟨fun _ => False,⟨fun i hi _ => gb hi,(fun i hi => by rw [gb hi]),(fun i h1 h2 => gb fun hi => by rw [vo i hi] at h1; cases h1),fun l hl b hb => (by cases hl; exact rC hb),fun i hi => ⟨fun _ _ => id,id,fun _ => id⟩,fun l hl b hb r9 cs dP => ⟨fun _ _ => id,fun _ _ => id⟩,fun d u hd mX _ hu => ?_⟩⟩;have He : ∀ i,get (put s.env d u) i = if i = d then u else get s.env i := fun i => bE _ _ _ _;simp only [Kd.reads,mh,aG,not_or] at hd;have e1 : bt c (put s.env d u) x = bt c s.env x := cm fun i hi => by rw [He,if_neg]; intro e; subst e; exact hd.1 hi
 have e2 : bt c (put s.env d u) y = bt c s.env y := cm fun i hi => by rw [He,if_neg]; intro e; subst e; exact hd.2 hi
 have e3 : cont (⟨put s.env d u,s.H⟩ : St) k (bt c s.env y) = cont s k (bt c s.env y) := by
  rw [ey];simp only [cont,mD mX]
 refine ⟨⟨put s.env d u,s.H⟩,_,rootOf p,dM.rfl',?_,fun i hi => hi,rB mX⟩;rw [ia];simp only [e1,hx,mD mX,hp,e2,e3,hy];rw [if_neg hn,if_pos hc,e]
theorem aaz {s s1 : St} {kd : Kd} {v : AV} {sl : List Nat} {bs : Option (List Nat)} (ia : ∀ t,fH c call t kd = dA c call kd t) (h : oP c s kd = some (some (v,s1,.wr sl bs))) : ∃ V,QW c call s kd v s1 sl bs V := by
 by_cases hex : ∃ f x es,kd = .call f (x :: es) /\ c.inp f = none
 case neg =>
  exact uc.up (aeR (fun f x es e hn => hex ⟨f,x,es,e,hn⟩) ia h)
 case pos =>
  obtain ⟨f,x,es,rfl,W8⟩ := hex;simp only [oP,W8] at h;split at h
  ·cases h
  ·rename_i g L0;simp only [ah] at h;exact aeS W8 L0 h
theorem L7 {s s1 : St} {kd : Kd} {v : AV} {sl : List Nat} {bs : Option (List Nat)} (ia : ∀ t,fH c call t kd = dA c call kd t) (h : fH c call s kd = some (v,s1,.wr sl bs)) : ∃ V,QW c call s kd v s1 sl bs V := by
 rw [ia] at h;unfold dA at h;cases hi : oP c s kd with
 | none =>
   rw [hi] at h;cases hl : l7 c call s kd with
   | none =>
     rw [hl] at h;simp only [gq] at h;cases hm : q8 c call s kd with
     | none =>
       rw [hm] at h;replace h := (js h).resolve_right fun h => by obtain ⟨e,_⟩ := v7 h; cases e
       exact uc.up (aaB ia hi hl hm h)
     | some r =>
       rw [hm] at h;simp only at h;subst h;obtain ⟨e,_⟩ := wi hm;cases e
   | some r =>
     rw [hl] at h;simp only at h;subst h;obtain ⟨b,e⟩ := CX hl;cases e
 | some r =>
   rw [hi] at h;simp only at h;subst h;exact aaz ia hi
theorem wrOp {s s1 : St} {kd : Kd} {v : AV} {sl : List Nat} {bs : Option (List Nat)} (h : fH c call s kd = some (v,s1,.wr sl bs)) : ∃ V,QW c call s kd v s1 sl bs V := by
 cases kd
 case call => exact L7 (fun _ => rfl) h
 case jc => exact L7 (fun _ => rfl) h
 case st => exact ahq h
 case app => exact aeT h
 case copy => exact uc.up (aaA h)
 case dY => exact uc.up (Vm h)
 case ld =>
  exfalso;simp only [fH] at h;split at h
  case h_2 => cases h
  split at h
  case isFalse => cases h
  simp only [ah,aJ] at h;obtain ⟨_,_,h5⟩ := h;rcases vj _ _ _ with e | ⟨b,j,e⟩ <;> rw [e] at h5 <;> cases h5
 all_goals
  exfalso;simp only [fH] at h
  (repeat' split at h) <;> simp at h
theorem ahr : Aa c call := by
 intro s q v s1 sl bs ⟨hk,s0,t1,e0,he,e1⟩
 have op : fH c call s0 q.kd = some (v,t1,.wr sl bs) -> (∀ t : St,(∀ i ∈ q.reads,get t.env i = get s.env i) -> Ch c call t q = fH c call t q.kd) -> ∃ V,WrEv c call s q v s1 sl bs V := by
  intro h CD;obtain ⟨V,hV⟩ := wrOp h;have hr : ∀ i ∈ q.kd.reads,i ∈ q.reads := fun i hi => by simp [O.reads,hi]
  refine ⟨V,⟨fun i hi Wa => by rw [<- e1.1,hV.env i hi Wa,e0.1],fun i hi => by rw [<- e1.1,hV.hd i hi,e0.1],fun i h1 h2 => by rw [<- e1.1,hV.keep i (by rw [<- e0.1]; exact h1) (by rw [<- e0.1]; exact h2),e0.1],fun l hl b hb => by rw [<- e1.2,hV.heap l hl b hb,e0.2],fun l hl b j h1 h2 => (by
   have := hV.cell l hl b j h1 h2;unfold qv at this ⊢;rw [e0.2,<- e1.2]; exact this),fun i hi => by rw [e0.1]; exact hV.v1 i hi,fun l hl b hb r9 cs dP => hV.v2 l hl b hb r9 cs (by rw [<- e0.2]; exact dP),fun l hl b j h1 h2 h3 cs c0 hb hc => hV.v3 l hl b j h1 h2 h3 cs c0 (by rw [<- e0.2]; exact hb) hc,fun d u hd mX hds2 hu => ?_⟩⟩
  obtain ⟨t0,t2,sl',h1,h2,h3,h4⟩ := hV.go d u (fun h => hd (hr d h)) mX hds2 hu;have h6 : dM (⟨put s0.env d u,s0.H⟩ : St) ⟨put s.env d u,s.H⟩ := ⟨fun i => by simp only [bE,e0.1],e0.2.symm⟩;have hs : dM (⟨put s.env d u,s.H⟩ : St) t0 := (h1.trans h6).symm;refine ⟨t2,sl',⟨hk,t0,t2,hs,?_,dM.rfl'⟩,h3,h4.trans ⟨fun i => by simp only [bE,e1.1],e1.2⟩⟩;rw [CD t0 fun i hi => ?_]
  ·exact h2
  ·rw [<- hs.1 i];show get (put s.env d u) i = _;rw [bE,if_neg];intro e; subst e; exact hd hi
 unfold Ch at he;cases hg : q.guard with
 | none =>
   rw [hg] at he;exact op he fun t _ => by unfold Ch; rw [hg]
 | some gp =>
   obtain ⟨g,want⟩ := gp;rw [hg] at he;simp only at he;have HE : g ∈ q.reads := by simp [O.reads,hg]
   split at he
   ·rename_i b hb;split at he
    ·rename_i Qs;refine op he fun t h1 => ?_;unfold Ch;rw [hg];simp only [h1 g HE,e0.1 g,hb,Qs,if_true]
    ·cases he
   ·cases he
   ·cases he
theorem lwOp {s s1 : St} {kd : Kd} {v : AV} {b : Nat} (h : fH c call s kd = some (v,s1,.lw b)) : (∀ t,fH c call t kd = dA c call kd t) /\ oP c s kd = none /\ l7 c call s kd = some (some (v,s1,.lw b)) := by
 have nc : ∀ {kd : Kd},dA c call kd s = some (v,s1,.lw b) -> oP c s kd = none /\ l7 c call s kd = some (some (v,s1,.lw b)) := by
  intro kd h;unfold dA at h;cases hi : oP c s kd with
  | some r =>
    rw [hi] at h;simp only at h;subst h;obtain ⟨sl,bs,e | e⟩ := zI hi <;> cases e
  | none =>
    rw [hi] at h;cases hl : l7 c call s kd with
    | some r =>
      rw [hl] at h;simp only at h;subst h;exact ⟨rfl,rfl⟩
    | none =>
      rw [hl] at h;simp only [gq] at h;exfalso;split at h
      ·rename_i r hm;subst h;obtain ⟨e,_⟩ := wi hm;cases e
      replace h := (js h).resolve_right fun h => by obtain ⟨e,_⟩ := v7 h; cases e
      unfold dU at h
      (repeat' split at h)
      all_goals first
       | (cases h; done)
       | (simp [Ba] at h; done)
       | (simp at h; obtain ⟨_,_,h5⟩ := h; revert h5; split <;> simp [Ba]; done)
       | (simp only [ah,aJ] at h; obtain ⟨_,_,h5⟩ := h; split at h5 <;> cases h5)
 have ns : ∀ {s s' : St} {k : Nat} {a v : AV},OR s k a v ≠ some (s',.lw b) := by
  intro s s' k a v h;unfold OR wR at h
  repeat' split at h
  all_goals first
   | (cases h; done)
   | (simp at h; done)
 cases kd
 case call => exact ⟨fun _ => rfl,nc h⟩
 case jc => exact ⟨fun _ => rfl,nc h⟩
 case st k a v =>
  exfalso;simp only [fH] at h;split at h
  ·split at h
   case h_2 => cases h
   rename_i hh;simp only [ah,aJ] at h;obtain ⟨_,_,h5⟩ := h;split at h5
   ·rw [h5] at hh; exact ns hh
   ·cases h5
  ·split at h
   case h_2 => cases h
   rename_i hh;simp only [ah,aJ] at h;obtain ⟨_,_,h5⟩ := h;rw [h5] at hh;exact ns hh
 all_goals
  exfalso;simp only [fH] at h
  (repeat' split at h)
  all_goals first
   | (cases h; done)
   | (simp at h; done)
   | (simp [Ba] at h; done)
   | (simp at h; obtain ⟨_,_,h5⟩ := h; rcases vj _ _ _ with e | ⟨b,j,e⟩ <;> rw [e] at h5 <;> cases h5; done)
   | (simp at h; obtain ⟨_,_,h5⟩ := h; rcases vB _ _ with e | ⟨_,_,_,_,e⟩ <;> rw [e] at h5 <;> cases h5; done)
   | (simp at h; obtain ⟨_,_,h5⟩ := h; revert h5; split <;> simp)
theorem ait : Ac c call := by
 intro s q v s1 b ⟨hk,s0,t1,e0,he,e1⟩
 have op : fH c call s0 q.kd = some (v,t1,.lw b) -> (∀ t : St,(∀ i ∈ q.reads,get t.env i = get s.env i) -> Ch c call t q = fH c call t q.kd) -> ∃ cs cs',LwEv c call s q v s1 b cs cs' := by
  intro h CD;obtain ⟨ia,hi,hl⟩ := lwOp h;obtain ⟨f,x,es,b',md,q',cs,cs',hkd,h1,h2,h3,h4,h5,h6,h7,h8,h9⟩ := vh hl;simp only [Fq.lw.injEq] at h9;subst h9;have W8 : ∀ i ∈ mh (x :: es),i ∈ q.reads := fun i hi => by simp [O.reads,hkd,Kd.reads,hi]
  refine ⟨cs,cs',⟨by rw [e0.2]; exact h4,?_,fun t ht hbt => ?_⟩⟩
  ·refine e1.symm.trans ?_;rw [h8];exact ⟨fun i => (e0.1 i).symm,by show s0.H.set b (some cs') = s.H.set b (some cs'); rw [e0.2]⟩
  ·refine ⟨hk,t,⟨t.env,t.H.set b (some cs')⟩,dM.rfl',?_,dM.rfl'⟩;rw [CD t ht,ia];unfold dA;rw [wv hi t]
   have bL : l7 c call t q.kd = some (some (v,⟨t.env,t.H.set b (some cs')⟩,.lw b)) := by
    have e2 : bt c t.env x = bt c s0.env x := cm fun i hi => by rw [ht i (W8 i (by simp [mh,hi])),e0.1 i]
    have e3 : dE c t.env es = dE c s0.env es := gS fun i hi => by rw [ht i (W8 i (by simp [mh,hi])),e0.1 i]
    rw [hkd];unfold l7;simp only;rw [if_pos h1];unfold VX;rw [e2,e3,h2];simp only [h3,hbt];rw [if_pos h5,h6];simp only;rw [if_pos h7]
   rw [bL]
 unfold Ch at he;cases hg : q.guard with
 | none =>
   rw [hg] at he;exact op he fun t _ => by unfold Ch; rw [hg]
 | some gp =>
   obtain ⟨g,want⟩ := gp;rw [hg] at he;simp only at he;have HE : g ∈ q.reads := by simp [O.reads,hg]
   split at he
   ·rename_i b hb;split at he
    ·rename_i Qs;refine op he fun t h1 => ?_;unfold Ch;rw [hg];simp only [h1 g HE,e0.1 g,hb,Qs,if_true]
    ·cases he
   ·cases he
   ·cases he
theorem agS (dg : fE P c) (A7 : JM P c call) : G7 P c call := Wm dg A7 (agT acJ ahr ait)
end
end Go.Bm

/- The end of a function that sees boxes of others. -/
namespace Go.Bm
open Go.Am
mutual
theorem Fk {o o' : Rt -> Option (Nat × List AV)} {nb IP : Nat} (hn : nb <= IP) : ∀ x,ko x = true -> cK o nb x -> cK o' IP x
 | .ptr b off,_,h => by simp only [cK] at h ⊢; omega
 | .agg cs,hp,h => by simp only [ko] at hp; simp only [cK] at h ⊢; exact zm hn cs hp h
 | .dB cs,hp,h => by simp only [ko] at hp; simp only [cK] at h ⊢; exact zm hn cs hp h
 | .func f a b,hp,h => by simp only [ko,ae] at hp; simp only [cK] at h ⊢; exact ⟨zm hn a hp.1 h.1,zm hn b hp.2 h.2⟩
 | .own _ _,hp,_ => by simp [ko] at hp
 | .dG _ _ _ _,hp,_ => by simp [ko] at hp
 | .fa _ _ _ _,hp,_ => by simp [ko] at hp
 | .sl _ b _ _,_,h => by simp only [cK] at h ⊢; omega
 | .any,_,_ => trivial | .undef,_,_ => trivial | .fy,_,_ => trivial | .fD,_,_ => trivial | .dz,_,_ => trivial
 | .int _ _,_,_ => trivial | .bool _,_,_ => trivial | .str _,_,_ => trivial | .list _ _,_,_ => trivial | .dw _,_,_ => trivial
theorem zm {o o' : Rt -> Option (Nat × List AV)} {nb IP : Nat} (hn : nb <= IP) : ∀ xs,fQ xs = true -> kg o nb xs -> kg o' IP xs
 | [],_,_ => trivial
 | x :: r,hp,h => by simp only [fQ,ae] at hp; exact ⟨Fk hn x hp.1 h.1,zm hn r hp.2 h.2⟩
end
theorem wc {x : AV} (h : ko x = true) : bJ x = false := by
 cases x <;> first | rfl | (simp [ko] at h; done) | skip
 rename_i cs;simp only [ko] at h;simp only [bJ]
 induction cs with
 | nil => rfl
 | cons y r ih =>
   simp only [fQ,ae] at h;have h1 := h.1;cases y <;> first | exact ih h.2 | (simp [ko] at h1; done)
theorem K2 : jX mg := by
 intro k r o l;cases r <;> exact ⟨⟨(fun cs e => by cases e),(fun k xs e => by cases e)⟩,⟨(fun cs e => by cases e),(fun k xs e => by cases e)⟩⟩
section
variable {P : Program} {X : Nat -> Prop} {φ nk φ' : dy} {w w1 w' : World} {N N1 N' : Names} {s s' s1 : St} {Ha : Heap} {B : Nat -> Nat} {base : Nat} {v va : AV} {v' : Value} {c : eE} {a : Act} {call : Nat -> List AV -> Heap -> Option (AV × Heap)} {t : Nat -> Value}
theorem Ts {s s' : St} (h : s'.H = s.H) (b j : Nat) : aC s' (.c b j) = aC s (.c b j) := by simp only [aC,at_,h]
theorem sS (r : AV) (i : Nat) : get [(0,r)] i = if i = 0 then r else .any := by simp only [Am.get]
theorem eR.leave (h : eR X φ w N s Ha t) {i0 : Nat} {r : AV} (hr : get s.env i0 = r) (hp : ko r = true) : eR X φ w N ⟨[(0,r)],ft mg s.H⟩ Ha (fun i => if i = 0 then t i0 else undef) := by
 have iK := wc hp
 have slot : ∀ i,(∀ k xs,get [(0,r)] i ≠ .own k xs) /\ (aC ⟨[(0,r)],ft mg s.H⟩ (.s i) = none /\ ∀ j,aC ⟨[(0,r)],ft mg s.H⟩ (.sc i j) = none) := by
  intro i
  have h0 : bJ (get (⟨[(0,r)],ft mg s.H⟩ : St).env i) = false := by
   show bJ (get [(0,r)] i) = false;rw [sS]; split
   ·exact iK
   ·rfl
  refine ⟨fun k xs e => ?_,dV h0⟩;have h1 : bJ (get [(0,r)] i) = false := h0;rw [e] at h1; cases h1
 have box : ∀ b j,aC ⟨[(0,r)],ft mg s.H⟩ (.c b j) = aC s (.c b j) := fun b j => by
  rw [<- iB K2 s (.c b j)];exact Ts rfl b j
 have own : ∀ {p},(aC ⟨[(0,r)],ft mg s.H⟩ p).isSome -> aC ⟨[(0,r)],ft mg s.H⟩ p = aC s p /\ ∃ b j,p = .c b j := by
  intro p hp;cases p with
  | s i => rw [(slot i).2.1] at hp; cases hp
  | sc i j => rw [(slot i).2.2 j] at hp; cases hp
  | c b j => exact ⟨box b j,b,j,rfl⟩
 have hlen : (ft mg s.H).length = s.H.length := fw _ _;have back : ∀ b,(aN (ft mg s.H) b).isSome -> (aN s.H b).isSome := fun b hb => by rw [fk] at hb; simpa using hb
 have hl : ∀ k p a l,(cK (aC s) s.H.length (.dG k p a l) -> cK (aC ⟨[(0,r)],ft mg s.H⟩) s.H.length (mg (.dG k p a l)) /\ Le (cM N (mg (.dG k p a l))) (cM N (.dG k p a l))) /\ (cK (aC s) s.H.length (.fa k p a l) -> cK (aC ⟨[(0,r)],ft mg s.H⟩) s.H.length (mg (.fa k p a l)) /\ Le (cM N (mg (.fa k p a l))) (cM N (.fa k p a l))) := by
  intro k p a l;cases p with
  | s i => exact ⟨fun _ => ⟨trivial,Le.any _⟩,fun _ => ⟨trivial,Le.any _⟩⟩
  | sc i j => exact ⟨fun _ => ⟨trivial,Le.any _⟩,fun _ => ⟨trivial,Le.any _⟩⟩
  | c b j =>
    refine ⟨fun h => ⟨?_,Le.refl _⟩,fun h => ⟨?_,Le.refl _⟩⟩
    ·simp only [mg,cK] at h ⊢; rw [box]; exact h
    ·simp only [mg,cK] at h ⊢; rw [box]; exact h
 refine ⟨fun i => ?_,fun i => ?_,h.heap,fun p k xs e => ?_,fun b cs e => ?_,fun p q n e1 e2 e3 e4 => ?_,fun b p e1 e2 e3 => ?_,fun b d e1 e2 e3 => h.bi b d (back b e1) (back d e2) e3⟩
 ·show bT _ _ (ku N i (get [(0,r)] i)) (if i = 0 then t i0 else undef);rw [sS];by_cases e : i = 0
  ·subst e;simp only [if_true];have := h.env i0;rw [hr,vV N i0 iK] at this;rw [vV N 0 iK];exact this
  ·rw [if_neg e,if_neg e]; exact .any _ _
 ·show cK _ _ (get [(0,r)] i);rw [sS,hlen];split
  ·have := h.Cu i0;rw [hr] at this;exact Fk (aT _) r hp this
  ·trivial
 ·have := own (p := p) (by rw [e]; rfl);rw [this.1] at e;exact h.own p k xs e
 ·have hb : aN (ft mg s.H) b = some cs := e;rw [fk] at hb;cases hc : aN s.H b with
  | none => rw [hc] at hb; cases hb
  | some ds =>
    rw [hc] at hb;simp at hb;subst hb;obtain ⟨as,g1,g2,g3⟩ := h.box b ds hc;refine ⟨as,g1,by rw [cI]; exact g2,fun j d hd => ?_⟩;rw [eJ] at hd;cases hj : ds[j]? with
    | none => rw [hj] at hd; cases hd
    | some d0 =>
      rw [hj] at hd;simp at hd;subst hd;obtain ⟨g4,a',g5,g6⟩ := g3 j d0 hj;obtain ⟨k1,k2⟩ := k7 (N := N) (N' := N) (o := aC s) (o' := aC ⟨[(0,r)],ft mg s.H⟩) (nb := s.H.length) (g := mg) rfl K2 hl (r := .c b j) (x := d0) (fun _ _ _ => rfl) g4;refine ⟨?_,a',g5,k2.trans g6⟩;show cK _ (ft mg s.H).length _;rw [hlen]; exact k1
 ·rw [(own e1).1] at e1;rw [(own e2).1] at e2;exact h.inj p q n e1 e2 e3 e4
 ·have e2' : (aC s p).isSome := by rw [<- (own e2).1]; exact e2
  exact h.bx b p (back b e1) e2' e3
theorem Ma {env : Env} {base : Nat} : ∀ (n : Nat) (H : Heap),base <= H.length -> base <= (trim base env n H).length := by
 intro n
 induction n with
 | zero => intro H h; exact h
 | succ n ih =>
   intro H h;simp only [trim];split
   ·exact ih _ (by simp; omega)
   ·exact h
theorem eR.QB {H : Heap} {r1 r2 : AV} (h : eR X φ w N ⟨[(0,r1)],H⟩ Ha t) (h1 : ko r1 = true) (h2 : ko r2 = true) (hk : cK (fun _ => none) H.length r2) (hr : bT (Rd X φ w) φ (cM N r2) v') : eR X φ w N ⟨[(0,r2)],H⟩ Ha (fun i => if i = 0 then v' else undef) := by
 have slot : ∀ {r : AV},ko r = true -> ∀ i,bJ (get (⟨[(0,r)],H⟩ : St).env i) = false := fun {r} hp i => by
  show bJ (get [(0,r)] i) = false;rw [sS]; split
  ·exact wc hp
  ·rfl
 have own : ∀ p,aC ⟨[(0,r2)],H⟩ p = aC ⟨[(0,r1)],H⟩ p := by
  intro p;cases p with
  | s i => rw [(dV (slot h2 i)).1,(dV (slot h1 i)).1]
  | sc i j => rw [(dV (slot h2 i)).2 j,(dV (slot h1 i)).2 j]
  | c b j => exact Ts rfl b j
 refine ⟨fun i => ?_,fun i => ?_,h.heap,fun p k xs e => ?_,fun b cs e => ?_,fun p q n e1 e2 => ?_,fun b p e1 e2 => ?_,h.bi⟩
 ·show bT _ _ (ku N i (get [(0,r2)] i)) (if i = 0 then v' else undef);rw [sS];by_cases e : i = 0
  ·rw [if_pos e,if_pos e,vV N i (wc h2)]; exact hr
  ·rw [if_neg e,if_neg e]; exact .any _ _
 ·show cK _ _ (get [(0,r2)] i);rw [sS];split
  ·exact Fk (aT _) r2 h2 hk
  ·trivial
 ·rw [own] at e; exact h.own p k xs e
 ·obtain ⟨as,g1,g2,g3⟩ := h.box b cs e;refine ⟨as,g1,g2,fun j c hc => ⟨jw (fun p _ => own p) (aT _) c (g3 j c hc).1,(g3 j c hc).2⟩⟩
 ·rw [own] at e1 e2; exact h.inj p q n e1 e2
 ·rw [own] at e2; exact h.bx b p e1 e2
theorem eR.ahi {env : Env} {H : Heap} (h : eR X φ w N ⟨env,H⟩ Ha t) {n k : Nat} {xs : List AV} (ho : oT Ha (some n) k xs) (hnq : ∀ q,(aC ⟨env,H⟩ q).isSome -> N.ν q ≠ some n) (Je : ∀ b,(aN H b).isSome -> N.β b ≠ n) :
  ∃ Ha',eR X φ w ⟨fun c => if c = H.length then n else N.β c,N.ν⟩ ⟨env,H ++ [some (aH xs)]⟩ Ha' t /\ (∀ m,m ≠ n -> aN Ha' m = aN Ha m) /\ ∀ q,aC ⟨env,H ++ [some (aH xs)]⟩ q = aC ⟨env,H⟩ q := by
 obtain ⟨cs,c1,c2,c3,c4⟩ := ho;have Qm := jx c3;have bL := dL c1;have Lm : ∀ m,m ≠ n -> aN (Ha.set n (some (cs.take (xs.length * k)))) m = aN Ha m := fun m hm => by rw [dH,if_neg (fun e => hm e.1)]
 have eO : ∀ b,b < H.length -> (if b = H.length then n else N.β b) = N.β b := fun b hb => if_neg (by omega)
 have eQ : ∀ q,aC ⟨env,H ++ [some (aH xs)]⟩ q = aC ⟨env,H⟩ q := by
  intro q;cases q with
  | s i => rfl
  | sc i j => rfl
  | c b j =>
    by_cases hb : b = H.length
    ·subst hb
     have e0 : aC ⟨env,H⟩ (.c H.length j) = none := by
      have : aN H H.length = none := by
       cases e : aN H H.length with
       | none => rfl
       | some cs => have := dL e; omega
      simp [aC,at_,this]
     rw [e0];unfold aC at_;simp only [fV,if_true];cases e : (aH xs)[j]? with
     | none => rfl
     | some d =>
       have hd := (kh (c4 j d e).1).1;cases d <;> first | rfl | (simp [pl] at hd; done)
    ·exact iA (by simp only [at_,fV,if_neg hb])
 have mono : ∀ p,(aC ⟨env,H⟩ p).isSome -> aC ⟨env,H ++ [some (aH xs)]⟩ p = aC ⟨env,H⟩ p := fun p _ => eQ p;have hlen : H.length <= (H ++ [some (aH xs)]).length := by simp
 have bold : ∀ {b},(aN (H ++ [some (aH xs)]) b).isSome -> (b < H.length /\ (aN H b).isSome) \/ b = H.length := by
  intro b hb;rw [fV] at hb;by_cases e : b = H.length
  ·exact .inr e
  ·rw [if_neg e] at hb;obtain ⟨cs,e2⟩ := aQ.1 hb;exact .inl ⟨dL e2,hb⟩
 have hh : cG X φ w (Ha.set n (some (cs.take (xs.length * k)))) := by
  refine ⟨by rw [cJ]; exact h.heap.len,h.heap.Dh,fun b ds hb => ?_,fun b hb => ?_,h.heap.inj⟩
  ·rw [bm] at hb;split at hb
   ·rename_i e;subst e;simp at hb;obtain ⟨_,rfl⟩ := hb;obtain ⟨g,sz,arr,e,p1,p2,p3,p4,p5,p6⟩ := h.heap.live n cs (sC c1);refine ⟨g,sz,arr,e,p1,p2,p3,by rw [bC]; omega,p5,fun i d hd => ?_⟩;rw [bF] at hd;split at hd
    ·exact p6 i d hd
    ·cases hd
   ·exact h.heap.live b ds hb
  ·rw [bm] at hb;split at hb
   ·simp at hb
   ·exact h.heap.dead b hb
 refine ⟨_,⟨fun i => ?_,fun i => jw mono hlen _ (h.Cu i),hh,fun p k' ys e => ?_,fun b ds e => ?_,fun p q m e1 e2 e3 e4 => ?_,fun b p e1 e2 e3 => ?_,fun b d e1 e2 e3 => ?_⟩,Lm,eQ⟩
 ·rw [xq (N := N) (N' := ⟨fun c => if c = H.length then n else N.β c,N.ν⟩) eO (fun _ _ => rfl) rfl (fun _ => rfl) (h.Cu i)];exact h.env i
 ·rw [eQ] at e;refine (h.own p k' ys e).same fun m hm => Lm m fun e2 => ?_;exact hnq p (by rw [e]; rfl) (by rw [<- e2]; exact hm)
 ·by_cases hb : b = H.length
  ·subst hb;simp only [fV,if_true,ah] at e;subst e;refine ⟨cs.take (xs.length * k),by simp only [if_true]; rw [dH,if_pos ⟨rfl,bL⟩],by rw [bC,Qm]; omega,fun j d hd => ?_⟩;obtain ⟨q1,a,q2,q3,q4⟩ := c4 j d hd;have oX := (kh q1).1;have hj := aA hd;rw [Qm] at hj;refine ⟨tX d oX,a,by rw [bF,if_pos hj]; exact q2,?_⟩
   have e1 : ∀ N : Names,jF N (.c H.length j) d = d := fun N => by
    have := ks N d oX;cases d <;> first | exact this | (simp [pl] at oX; done)
   rw [e1]; exact q4
  ·simp only [fV,if_neg hb] at e;obtain ⟨as,g1,g2,g3⟩ := h.box b ds e;refine ⟨as,by simp only [eO b (dL e)]; rw [Lm _ (Je b (by show (aN H b).isSome = true; rw [show aN H b = some ds from e]; rfl))]; exact g1,g2,fun j x hx => ?_⟩;obtain ⟨k1,a',k2,k3⟩ := g3 j x hx;refine ⟨jw mono hlen x k1,a',k2,?_⟩;rw [sN (N := N) (N' := ⟨fun c => if c = H.length then n else N.β c,N.ν⟩) eO (fun _ _ => rfl) (fun _ _ _ => rfl) k1];exact k3
 ·rw [eQ] at e1 e2; exact h.inj p q m e1 e2 e3 e4
 ·rw [eQ] at e2;rcases bold e1 with ⟨b1,b2⟩ | b1
  ·simp only [eO b b1] at e3; exact h.bx b p b2 e2 e3
  ·subst b1;simp only [if_true] at e3;exact hnq p e2 e3
 ·rcases bold e1 with ⟨b1,b2⟩ | b1 <;> rcases bold e2 with ⟨d1,d2⟩ | d1
  ·simp only [eO b b1,eO d d1] at e3; exact h.bi b d b2 d2 e3
  ·subst d1; simp only [eO b b1,if_true] at e3; exact absurd e3 (Je b b2)
  ·subst b1; simp only [eO d d1,if_true] at e3; exact absurd e3.symm (Je d d2)
  ·rw [b1,d1]
theorem HS {env : Env} {base : Nat} : ∀ (n : Nat) (H : Heap),∃ k,trim base env n H = H.take k
 | 0,H => ⟨H.length,by simp [trim]⟩
 | n + 1,H => by
   simp only [trim];split
   ·obtain ⟨k,e⟩ := HS (env := env) (base := base) n (H.take n);exact ⟨min k n,by rw [e,List.take_take]⟩
   ·exact ⟨H.length,by simp⟩
theorem NL {p : Rt} : ∀ {l : List Rt},vl p l = false ↔ p ∉ l
 | [] => by simp [vl]
 | q :: r => by simp only [vl,eP,decide_eq_false_iff_not,NL (l := r),aK,not_or]; exact ⟨fun h => ⟨fun e => h.1 e.symm,h.2⟩,fun h => ⟨fun e => h.1 e.symm,h.2⟩⟩
theorem OC (h : eR X φ w N s Ha t) {n0 : Nat} {env : Env} {t1 : Nat -> Value} : ∀ (cs : List AV) (n : Nat) (used : List Rt) (ys : List AV) (hs : Heap),sA s n used cs = some (ys,hs) -> kg (aC s) s.H.length cs -> (∀ x ∈ cs,ko x = true -> cK (fun _ => none) n0 x) ->
  ∀ (β1 : Nat -> Nat) (H1 : Heap) (Ha1 : Heap),eR X φ w ⟨β1,N.ν⟩ ⟨env,H1⟩ Ha1 t1 -> n = H1.length -> n0 <= n -> (∀ b,b < n0 -> β1 b = N.β b) ->
   (∀ i k xs m,aC s (.s i) = some (k,xs) -> N.ν (.s i) = some m -> .s i ∉ used -> oT Ha1 (some m) k xs /\ (∀ b,(aN H1 b).isSome -> β1 b ≠ m) /\ ∀ q,(aC ⟨env,H1⟩ q).isSome -> N.ν q ≠ some m) ->
   ∃ Hb Ha2,eR X φ w ⟨Hb,N.ν⟩ ⟨env,H1 ++ hs⟩ Ha2 t1 /\ (∀ b,b < n -> Hb b = β1 b) /\ ys.length = cs.length /\ fQ ys = true /\ ∀ (i : Nat) (x y : AV) (v : Value),cs[i]? = some x -> ys[i]? = some y -> bT (Rd X φ w) φ (cM N x) v -> cK (fun _ => none) (H1 ++ hs).length y /\ bT (Rd X φ w) φ (cM ⟨Hb,N.ν⟩ y) v
 | [],n,used,ys,hs,hf,_,_,β1,H1,Ha1,h1,hn,hn0,eO,Gj => by
   simp [sA] at hf;obtain ⟨rfl,rfl⟩ := hf;exact ⟨β1,Ha1,by simpa using h1,fun _ _ => rfl,rfl,rfl,fun i x y v hx => by simp at hx⟩
 | x :: r,n,used,ys,hs,hf,dg,oX,β1,H1,Ha1,h1,hn,hn0,eO,Gj => by
   have rest := fun (n' : Nat) (u' : List Rt) (yu : List AV) (NP : Heap) (e : sA s n' u' r = some (yu,NP)) => OC (n0 := n0) (env := env) (t1 := t1) h r n' u' yu NP e dg.2 (fun y hy => oX y (by simp [hy]))
   -- a part that needs no box
   have stay : ∀ {y : AV} {yu : List AV},sA s n used r = some (yu,hs) -> ys = y :: yu -> ko y = true -> (∀ Hb : Nat -> Nat,(∀ b,b < n -> Hb b = β1 b) -> ∀ v,bT (Rd X φ w) φ (cM N x) v -> cK (fun _ => none) (H1 ++ hs).length y /\ bT (Rd X φ w) φ (cM ⟨Hb,N.ν⟩ y) v) ->
     ∃ Hb Ha2,eR X φ w ⟨Hb,N.ν⟩ ⟨env,H1 ++ hs⟩ Ha2 t1 /\ (∀ b,b < n -> Hb b = β1 b) /\ ys.length = (x :: r).length /\ fQ ys = true /\ ∀ (i : Nat) (x' y : AV) (v : Value),(x :: r)[i]? = some x' -> ys[i]? = some y -> bT (Rd X φ w) φ (cM N x') v -> cK (fun _ => none) (H1 ++ hs).length y /\ bT (Rd X φ w) φ (cM ⟨Hb,N.ν⟩ y) v := by
    intro y yu e ey hy hyr;subst ey;obtain ⟨Hb,Ha2,s2,b2,l2,p2,q2⟩ := rest n used yu hs e β1 H1 Ha1 h1 hn hn0 eO Gj;refine ⟨Hb,Ha2,s2,b2,by simp [l2],by simp [fQ,hy,p2],fun i x' z v hx hz hv => ?_⟩;cases i with
    | zero => simp at hx hz; subst hx; subst hz; exact hyr Hb b2 v hv
    | succ i => exact q2 i x' z v (by simpa using hx) (by simpa using hz) hv
   have gen : ko x = true -> ∀ {yu},sA s n used r = some (yu,hs) -> ys = x :: yu -> _ := fun hp {yu} e ey => stay e ey hp fun Hb b2 v hv => by
    have ho := oX x (by simp) hp;refine ⟨jw (fun p hp => by cases hp) (by rw [bN]; omega) x ho,?_⟩;rw [vU (N := N) (N' := ⟨Hb,N.ν⟩) (o := fun _ => none) (nb := n0) (fun b hb => by show Hb b = N.β b; rw [b2 b (by omega),eO b hb]) (fun p hp => by cases hp) x ho];exact hv
   by_cases c1 : ∃ k i len,x = .dG k (.s i) 0 len
   ·obtain ⟨k,i,len,rfl⟩ := c1;simp only [sA] at hf;split at hf
    case h_2 => cases hf
    rename_i k' xs hp;split at hf
    case isFalse => cases hf
    rename_i hc;obtain ⟨rfl,rfl,hu⟩ := hc;have hu := NL.1 hu;split at hf
    ·rename_i hl0;split at hf
     case h_2 => cases hf
     rename_i yu NP e;simp at hf;obtain ⟨rfl,rfl⟩ := hf;refine stay e rfl rfl fun Hb b2 v hv => ⟨trivial,?_⟩;have A5 : xs = [] := List.eq_nil_of_length_eq_zero hl0;subst A5;simp only [cM,List.length_nil] at hv ⊢;split at hv
     ·cases hv with
      | sl _ _ _ _ _ a cap hb hc hh => exact .mI _ _ _ _ _ _ (fun _ _ => undef) rfl hc (fun x hx => by simp at hx) (fun i j x c hx => by simp at hx) (fun i j x c hx => by simp at hx)
     ·cases hv; exact .j8 _ _
    ·rename_i hl0;split at hf
     case h_2 => cases hf
     rename_i yu NP e;simp at hf;obtain ⟨rfl,rfl⟩ := hf;have eQ := h.own (.s i) k' xs hp;cases kR : N.ν (.s i) with
     | none =>
       rw [kR] at eQ;have : xs = [] := eQ;subst this;simp at hl0
     | some m =>
       obtain ⟨o1,o2,o3⟩ := Gj i k' xs m hp kR hu;obtain ⟨Ha',s2,e2,e3⟩ := h1.ahi o1 o3 o2;have lt1 : (H1 ++ [some (aH xs)]).length = n + 1 := by simp [hn]
       obtain ⟨Hb,Ha2,s3,b3,l3,p3,q3⟩ := rest (n + 1) (.s i :: used) yu NP e _ _ _ s2 lt1.symm (by omega) (fun b hb => by simp only []; rw [if_neg (by omega)]; exact eO b hb) (fun i2 k2 xs2 m2 z1 z2 z3 => by
        simp only [aK,not_or] at z3;obtain ⟨a1,a2,a3⟩ := Gj i2 k2 xs2 m2 z1 z2 z3.2;have hmm : m2 ≠ m := fun e => z3.1 (h.inj _ _ m (by rw [z1]; rfl) (by rw [hp]; rfl) (by rw [<- e]; exact z2) kR);refine ⟨a1.same fun m' Qi => by cases Qi; exact e2 m2 hmm,fun b hb => ?_,fun q hq => a3 q (by rw [e3] at hq; exact hq)⟩;rw [fV] at hb;simp only [];split
        ·exact fun e => hmm e.symm
        ·rename_i mW; rw [if_neg mW] at hb; exact a2 b hb)
       rw [dj] at s3;refine ⟨Hb,Ha2,s3,fun b hb => by rw [b3 b (by omega)]; simp only []; rw [if_neg (by omega)],by simp [l3],by simp [fQ,ko,p3],fun j x' z v hx hz hv => ?_⟩;rw [dj] at q3;cases j with
       | succ j => exact q3 j x' z v (by simpa using hx) (by simpa using hz) hv
       | zero =>
         simp at hx hz;subst hx; subst hz;refine ⟨by simp only [cK]; simp; omega,?_⟩;simp only [cM,kR,Nat.zero_mul] at hv ⊢;have : Hb n = m := by rw [b3 n (by omega)]; simp only []; rw [if_pos hn]
         rw [this]; exact hv
   ·rw [sA] at hf
    ·split at hf
     case isFalse => cases hf
     rename_i hp;split at hf
     case h_2 => cases hf
     rename_i yu NP e;simp at hf;obtain ⟨rfl,rfl⟩ := hf;exact gen hp e rfl
    ·exact fun k i len e => c1 ⟨k,i,len,e⟩
theorem ags {o : Rt -> Option (Nat × List AV)} {nb : Nat} {x : AV} (h : cK o nb x) : cK o nb (Hc x) := by
 cases x <;> first | exact h | trivial
theorem abt {R : Addr -> Value -> Prop} {x : AV} {v : Value} (r : bT R φ (cM N x) v) : bT R φ (cM N (Hc x)) v := by
 cases x <;> first | exact r | exact .any _ _
theorem abY (h : eR X φ w N s Ha (tm a)) (hb : (∀ b,b < base -> N.β b = B b) /\ base <= s.H.length) (hv : bT (Rd X φ w) φ (cM N v) v') (hk : cK (aC s) s.H.length v) {r : AV} {H' : Heap} (hf : ZP base s v = some (r,H')) :
  ∃ φ',SB X φ' w B base ⟨[(0,r)],H'⟩ (fun i => if i = 0 then v' else undef) /\ fJ φ w φ' w := by
 unfold ZP at hf;split at hf
 case h_2 => cases hf
 rename_i cs HG;split at hf
 case isFalse => cases hf
 rename_i hp;split at hf
 case h_2 => cases hf
 rename_i ys hs W9;simp only [ah,aJ] at hf;obtain ⟨rfl,rfl⟩ := hf;simp only [cK] at hk;have hkL := gk.1 hk
 -- the parts without what becomes boxes
 have C4 : ko (.dB (cs.map Hc)) = true := hp;have iK := wc C4
 have hk0 : cK (aC s) s.H.length (.dB (cs.map Hc)) := by
  simp only [cK];refine gk.2 fun i c hc => ?_;rw [cq] at hc;cases e : cs[i]? with
  | none => rw [e] at hc; cases hc
  | some x => rw [e] at hc; simp at hc; subst hc; exact ags (hkL i x e)
 have Qf : bT (Rd X φ w) φ (cM N (.dB (cs.map Hc))) v' := by
  simp only [cM] at hv ⊢;cases hv with
  | dB _ _ vs hl hh =>
    refine .dB _ _ _ (by rw [dI] at hl ⊢; simpa using hl) fun i c u hc hu => ?_;rw [lx,cq] at hc;cases e : cs[i]? with
    | none => rw [e] at hc; cases hc
    | some x =>
      rw [e] at hc;simp at hc;subst hc;exact abt (hh i _ u (by rw [lx,e]; rfl) hu)
 have h1 := h.leave (i0 := fe) (r := .any) HG rfl;have okp : ∀ {o : Rt -> Option (Nat × List AV)} {nb IP : Nat} {x : AV},nb <= IP -> ko x = true -> cK o nb x -> cK (fun _ => none) IP x := fun hn hp ho => Fk hn _ hp ho;have h2 := h1.QB (r2 := .dB (cs.map Hc)) rfl C4 (okp (by rw [fw]; exact aT _) C4 hk0) Qf;have h4 := eR.trim (base0 := base) s.H.length h2;obtain ⟨kt,et⟩ := HS (env := [(0,.dB (cs.map Hc))]) (base := base) s.H.length (ft mg s.H);have Xa := Ma (env := [(0,.dB (cs.map Hc))]) (base := base) s.H.length (ft mg s.H) (by rw [fw]; exact hb.2);generalize hH1 : trim base [(0,.dB (cs.map Hc))] s.H.length (ft mg s.H) = H1 at *
 have back : ∀ b ds,aN H1 b = some ds -> aN (ft mg s.H) b = some ds := by
  intro b ds e;rw [et,qt] at e;split at e
  ·exact e
  ·cases e
 have box : ∀ b,(aN H1 b).isSome -> (aN s.H b).isSome := by
  intro b e;obtain ⟨ds,e⟩ := aQ.1 e;have := back b ds e;rw [fk] at this;cases hc : aN s.H b with
  | none => rw [hc] at this; cases this
  | some _ => rfl
 have own1 : ∀ q,(aC ⟨[(0,.dB (cs.map Hc))],H1⟩ q).isSome -> (∀ i,q ≠ .s i) /\ (aC s q).isSome := by
  intro q e
  have hs0 : ∀ i,bJ (get (⟨[(0,.dB (cs.map Hc))],H1⟩ : St).env i) = false := fun i => by
   show bJ (get [(0,.dB (cs.map Hc))] i) = false;rw [sS]; split
   ·exact iK
   ·rfl
  cases q with
  | s i => rw [(dV (hs0 i)).1] at e; cases e
  | sc i j => rw [(dV (hs0 i)).2 j] at e; cases e
  | c b j =>
    refine ⟨fun i e => (by cases e),?_⟩;rw [<- iB K2 s (.c b j)];obtain ⟨⟨k0,xs0⟩,e0⟩ := aQ.1 e;have e1 := cu.1 e0;simp only [at_] at e1;cases hc : aN H1 b with
    | none => rw [hc] at e1; cases e1
    | some ds =>
      rw [hc] at e1;have e2 := back b ds hc;have : aC (cz mg s) (.c b j) = some (k0,xs0) := cu.2 (by simp only [at_,cz,e2]; exact e1);rw [this]; rfl
 obtain ⟨Hb,Ha2,s2,b2,l2,p2,q2⟩ := OC h (n0 := H1.length) (env := [(0,.dB (cs.map Hc))]) cs H1.length [] ys hs W9 hk (fun x hx Zp => by
  obtain ⟨i,hi⟩ := bG hx;have e0 := h4.Cu 0;have e1 : cK (aC ⟨[(0,.dB (cs.map Hc))],H1⟩) H1.length (.dB (cs.map Hc)) := e0;simp only [cK] at e1;have e2 := gk.1 e1 i (Hc x) (by rw [cq,hi]; rfl);have e3 : Hc x = x := by cases x <;> first | rfl | (simp [ko] at Zp; done)
  rw [e3] at e2;exact okp (aT _) Zp e2) N.β H1 Ha h4 rfl (aT _) (fun _ _ => rfl) (fun i k xs m z1 z2 _ => by
  have ho := h.own (.s i) k xs z1;rw [z2] at ho;refine ⟨ho,fun b hb e => h.bx b (.s i) (box b hb) (by rw [z1]; rfl) (by rw [z2,e]),fun q hq e => ?_⟩;obtain ⟨g1,g2⟩ := own1 q hq;exact g1 i (h.inj q (.s i) m g2 (by rw [z1]; rfl) e z2))
 have hr : ko (.dB ys) = true := p2
 have s3 := s2.QB (r2 := .dB ys) (v' := v') C4 hr (by
  simp only [cK];refine gk.2 fun i y hy => ?_;obtain ⟨x,hx⟩ := aZ (l := cs) (i := i) (by have := aA hy; omega);simp only [cM] at hv;cases hv with
  | dB _ _ vs hl hh =>
    obtain ⟨u,hu⟩ := cY (l := vs) (i := i) (by have := aA hx; rw [dI] at hl; omega);exact (q2 i x y u hx hy (hh i _ u (by rw [lx,hx]; rfl) hu)).1) (by
  simp only [cM] at hv ⊢;cases hv with
  | dB _ _ vs hl hh =>
    refine .dB _ _ _ (by rw [dI] at hl ⊢; omega) fun i c u hc hu => ?_;rw [lx] at hc;cases e : ys[i]? with
    | none => rw [e] at hc; cases hc
    | some y =>
      rw [e] at hc;simp at hc;subst hc;obtain ⟨x,hx⟩ := aZ (l := cs) (i := i) (by have := aA e; omega);exact (q2 i x y u hx e (hh i _ u (by rw [lx,hx]; rfl) hu)).2)
 exact ⟨φ,⟨_,_,s3,fun b bL => by show Hb b = B b; rw [b2 b (by omega)]; exact hb.1 b bL,by show base <= (H1 ++ hs).length; rw [bN]; omega⟩,.refl _ _⟩
theorem abW (h : eR X φ w N s Ha (tm a)) (hb : (∀ b,b < base -> N.β b = B b) /\ base <= s.H.length) (hv : bT (Rd X φ w) φ (cM N v) v') (hk : cK (aC s) s.H.length v) (iK : bJ v = false) {r : AV} {H' : Heap} (hf : uk base s v = some (r,H')) :
  ∃ φ',SB X φ' w B base ⟨[(0,r)],H'⟩ (fun i => if i = 0 then v' else undef) /\ fJ φ w φ' w := by
 unfold uk at hf;split at hf
 case h_2 => cases hf
 rename_i HG;simp only at hf;split at hf
 case isFalse => cases hf
 rename_i hp;simp only [ah,aJ] at hf;obtain ⟨rfl,rfl⟩ := hf;have xW := eG.quiet (t := tm a) h hb hk (k9 iK) (by rw [kG N iK]; exact hv);obtain ⟨kO,⟨N2,Ha2,Pq,r9⟩,a2⟩ := SB.dR (aP v) (xW.put fe HG);have h3 := Pq.leave (i0 := fe) rfl hp;simp only [if_true] at h3;refine ⟨kO,⟨N2,Ha2,?_,r9.1,?_⟩,a2⟩
 ·exact eR.trim (base0 := base) _ h3
 ·exact Ma _ _ (by rw [fw]; exact r9.2)
theorem shOK (dg : fE P c) (vq : vL P c) {n : Nat} (hs : OJ P c n) : ShOK P c n := by
 intro f md q hf hm args H r H' h jO X φ w B vargs hl C3 hg;unfold lX at h;split at h
 ·rename_i x CD;unfold KN at CD;split at CD
  case h_2 => cases CD
  rename_i g L0;rw [h] at CD;replace h := CD;exact vq f g md q L0 hf args H r H' (.inl hm) h (fun _ => jO) X φ w B vargs hl C3 hg
 ·rw [hf] at h;simp only at h;split at h
  case isFalse => cases h
  rename_i hle;obtain ⟨fn,h1,h2⟩ := dg.fn f md q hf;simp only [ct,ae,decide_eq_true_eq] at h2;obtain ⟨⟨⟨⟨hn,aiH⟩,_⟩,hres⟩,rZ⟩ := h2;split at rZ
  case h_2 => cases rZ
  rename_i code hb;have zJ : (vargs ++ pA (fn.ntmps - vargs.size) undef).size = q.n := by simp; omega
  have htm : tm { tmps := vargs ++ pA (fn.ntmps - vargs.size) undef,defers := [] } = fun i => vargs.getD i undef := by
   funext i;simp only [tm,bf];by_cases hi : i < vargs.size
   ·rw [Array.getElem?_append_left hi]
   ·rw [Array.getElem?_append_right (by omega),Array.getElem?_replicate];rw [Array.getElem?_eq_none (by omega)];split <;> rfl
  have hS : Ab X φ w B H.length ⟨ep 0 args,H⟩ { tmps := vargs ++ pA (fn.ntmps - vargs.size) undef,defers := [] } q.n := ⟨by rw [htm]; exact C3,rfl,zJ⟩
  have fin : ∀ {e : Ex} {s : St} {vs : List AV},cT c n H.length q.body ⟨ep 0 args,H⟩ = some (e,s) -> (e = .ret \/ e = .normal) -> oW c s q.res = some vs -> bq md H.length s (nt vs) = some (r,H') -> Calls P f vargs w (LO X φ w B H.length r H') := by
   intro e s vs he hre LY Qn;refine calls_of_wp h1 hb (hs q.n H.length code q.body _ s e (by omega) rZ he X φ w B _ hS hg _ fun a' w' φ' hS' sZ => ?_);obtain ⟨N,Ha,v8,hbB⟩ := hS'.sb;obtain ⟨Vl,x1,x2,x3,x4⟩ := Xf v8 (hg.my sZ) LY;obtain ⟨v,k1,k2⟩ := Bp (P := P) (s := ⟨yw N s.env,Ha⟩) (ts := a'.tmps) (fun i => by rw [lP]; exact v8.env i) v8.heap hres x1;unfold bq at Qn;rw [hm,if_pos rfl] at Qn
   have aiJ : ∃ kO,SB X kO w' B H.length ⟨[(0,r)],H'⟩ (fun i => if i = 0 then v else undef) /\ fJ φ' w' kO w' := by
    split at Qn
    ·exact abY v8 hbB (x2 _ _ _ k2) x3 Qn
    ·exact abW v8 hbB (x2 _ _ _ k2) x3 x4 Qn
   obtain ⟨kO,s2,a2⟩ := aiJ;have : bodyPost P fn (LO X φ w B H.length r H') .ret a' w' := ⟨hS'.defers,v,k1,v,kO,rfl,s2,sZ.trans a2⟩;rcases hre with rfl | rfl
   ·exact this
   ·exact this
  split at h
  ·rename_i s he;split at h
   ·rename_i vs LY;exact fin he (.inl rfl) LY h
   ·cases h
  ·rename_i s he;split at h
   ·rename_i vs LY;exact fin he (.inr rfl) LY h
   ·cases h
  ·cases h
end
end Go.Bm

/- A state whose older heap holds no more than what is referred to; calls of functions that share boxes. -/
namespace Go.Bm
open Go.Am
mutual
def jj (G : Nat -> Prop) : AV -> Prop
 | .ptr b _ => G b
 | .sl _ b _ _ => G b
 | .agg cs => mV G cs
 | .dB cs => mV G cs
 | .func _ a b => mV G a /\ mV G b
 | _ => True
def mV (G : Nat -> Prop) : List AV -> Prop
 | [] => True
 | x :: r => jj G x /\ mV G r
end
theorem nC {G : Nat -> Prop} : ∀ {cs : List AV},mV G cs ↔ ∀ (i : Nat) (c : AV),cs[i]? = some c -> jj G c
 | [] => by simp [mV]
 | x :: r => by
   simp only [mV,nC (cs := r)];constructor
   ·rintro ⟨h1,h2⟩ i c hc;cases i with
    | zero => simp at hc; exact hc ▸ h1
    | succ i => exact h2 i c (by simpa using hc)
   ·intro h;exact ⟨h 0 x rfl,fun i c hc => h (i + 1) c (by simpa using hc)⟩
theorem bT.refs {R R' : Addr -> Value -> Prop} (hR : ∀ a u,R a u -> R' a u) {G : Nat -> Prop} {φ : dy} {x : AV} {v : Value} (h : bT R φ x v) : ∀ {φ' : dy},jj G x -> φ.length <= φ'.length -> (∀ b,G b -> ∀ p,φ'[b]? = some (some p) -> φ[b]? = some (some p)) -> bT R' φ' x v := by
 induction h with
 | any => intro φ' _ _ _; exact .any _ _
 | undef => intro φ' _ _ _; exact .undef _
 | fy => intro φ' _ _ _; exact .fy _
 | fD => intro φ' _ _ _; exact .fD _
 | dz => intro φ' _ _ _; exact .dz _
 | int => intro φ' _ _ _; exact .int _ _ _
 | bool => intro φ' _ _ _; exact .bool _ _
 | str => intro φ' _ _ _; exact .str _ _
 | agg φ cs vs hl h ih => intro φ' hx hp hb; simp only [jj] at hx; exact .agg _ _ _ hl fun i c v h1 h2 => ih i c v h1 h2 (nC.1 hx i c h1) hp hb
 | dB φ cs vs hl h ih => intro φ' hx hp hb; simp only [jj] at hx; exact .dB _ _ _ hl fun i c v h1 h2 => ih i c v h1 h2 (nC.1 hx i c h1) hp hb
 | func φ f as va bs vb Ca B9 ha hb Zj V4 => intro φ' hx hp C6; simp only [jj] at hx; exact .func _ _ _ _ _ _ Ca B9 (fun i c v h1 h2 => Zj i c v h1 h2 (nC.1 hx.1 i c h1) hp C6) (fun i c v h1 h2 => V4 i c v h1 h2 (nC.1 hx.2 i c h1) hp C6)
 | mI φ k xs a n cap u hn jH hk hu h ih => intro φ' _ _ _; exact .mI _ _ _ _ _ _ u hn jH hk (fun i j x c h1 h2 => hR _ _ (hu i j x c h1 h2)) (fun i j x c h1 h2 => (h i j x c h1 h2).mono hR (.refl _))
 | j8 => intro φ' _ _ _; exact .j8 _ _
 | dw φ cs a u hu h ih => intro φ' _ _ _; exact .dw _ _ _ u (fun j c h1 => hR _ _ (hu j c h1)) (fun j c h1 => (h j c h1).mono hR (.refl _))
 | ptr φ b off a hb h => intro φ' hx hp ia; exact .ptr _ _ _ _ (by omega) fun g sz e => h g sz (ia b hx _ e)
 | sl φ k b off len a cap hb hc h => intro φ' hx hp ia; exact .sl _ _ _ _ _ _ _ (by omega) hc fun g sz e => h g sz (ia b hx _ e)
mutual
theorem J2 {G : Nat -> Prop} {N : Names} {o : Rt -> Option (Nat × List AV)} {nb : Nat} (eO : ∀ b,b < nb -> G (N.β b)) (kR : ∀ p,(o p).isSome -> ∀ n,N.ν p = some n -> G n) : ∀ x,cK o nb x -> jj G (cM N x)
 | .dG k p off len,h => by
   simp only [cK] at h; obtain ⟨xs,e,_⟩ := h;simp only [cM];cases hn : N.ν p with
   | none => exact trivial
   | some n => exact kR p (by rw [e]; rfl) n hn
 | .fa k p i off,h => by
   simp only [cK] at h; obtain ⟨xs,e,_⟩ := h;simp only [cM];cases hn : N.ν p with
   | none => exact trivial
   | some n => exact kR p (by rw [e]; rfl) n hn
 | .ptr b off,h => by simp only [cK] at h; simp only [cM,jj]; exact eO b h
 | .agg cs,h => by simp only [cK] at h; simp only [cM,jj]; exact uD eO kR cs h
 | .dB cs,h => by simp only [cK] at h; simp only [cM,jj]; exact uD eO kR cs h
 | .func f a b,h => by simp only [cK] at h; simp only [cM,jj]; exact ⟨uD eO kR a h.1,uD eO kR b h.2⟩
 | .any,_ => trivial | .undef,_ => trivial | .fy,_ => trivial | .fD,_ => trivial | .dz,_ => trivial
 | .int _ _,_ => trivial | .bool _,_ => trivial | .str _,_ => trivial | .list _ _,_ => trivial | .dw _,_ => trivial | .own _ _,_ => trivial
 | .sl _ b _ _,h => by simp only [cK] at h; simp only [cM,jj]; exact eO b h
theorem uD {G : Nat -> Prop} {N : Names} {o : Rt -> Option (Nat × List AV)} {nb : Nat} (eO : ∀ b,b < nb -> G (N.β b)) (kR : ∀ p,(o p).isSome -> ∀ n,N.ν p = some n -> G n) : ∀ xs,kg o nb xs -> mV G (kW N xs)
 | [],_ => trivial
 | x :: r,h => ⟨J2 eO kR x h.1,uD eO kR r h.2⟩
end
mutual
theorem Rp {G : Nat -> Prop} : ∀ x,pl x = true -> jj G x
 | .agg cs,h => by simp only [pl] at h; simp only [jj]; exact uE cs h
 | .dB cs,h => by simp only [pl] at h; simp only [jj]; exact uE cs h
 | .func f a b,h => by simp only [pl,ae] at h; simp only [jj]; exact ⟨uE a h.1,uE b h.2⟩
 | .ptr _ _,h => by simp [pl] at h
 | .sl _ _ _ _,h => by simp [pl] at h
 | .dG _ _ _ _,_ => trivial | .fa _ _ _ _,_ => trivial
 | .any,_ => trivial | .undef,_ => trivial | .fy,_ => trivial | .fD,_ => trivial | .dz,_ => trivial
 | .int _ _,_ => trivial | .bool _,_ => trivial | .str _,_ => trivial | .list _ _,_ => trivial | .dw _,_ => trivial | .own _ _,_ => trivial
theorem uE {G : Nat -> Prop} : ∀ xs,gz xs = true -> mV G xs
 | [],_ => trivial
 | x :: r,h => by simp only [gz,ae] at h; exact ⟨Rp x h.1,uE r h.2⟩
end
theorem XH {G : Nat -> Prop} {N : Names} {o : Rt -> Option (Nat × List AV)} {nb : Nat} (eO : ∀ b,b < nb -> G (N.β b)) (kR : ∀ p,(o p).isSome -> ∀ n,N.ν p = some n -> G n) {r : Rt} {x : AV} (hr : ∀ k xs,x = .own k xs -> (o r).isSome) (h : cK o nb x) : jj G (jF N r x) := by
 cases x <;> simp only [jF] <;> first | exact J2 eO kR _ h | skip
 rename_i k xs;simp only [rO];cases hn : N.ν r with
 | none => exact trivial
 | some n => exact kR r (hr k xs rfl) n hn
mutual
theorem CT {o o' : Rt -> Option (Nat × List AV)} {nb IP : Nat} (hn : nb <= IP) : ∀ x,(∀ p ∈ aP x,o' p = o p) -> cK o nb x -> cK o' IP x
 | .dG k p off len,ho,h => by simp only [cK] at h ⊢; obtain ⟨xs,e,h2⟩ := h; exact ⟨xs,by rw [ho p (by simp [aP])]; exact e,h2⟩
 | .fa k p i off,ho,h => by simp only [cK] at h ⊢; obtain ⟨xs,e,h2⟩ := h; exact ⟨xs,by rw [ho p (by simp [aP])]; exact e,h2⟩
 | .ptr b off,_,h => by simp only [cK] at h ⊢; omega
 | .agg cs,ho,h => by simp only [cK] at h ⊢; exact zv hn cs (by simpa only [aP] using ho) h
 | .dB cs,ho,h => by simp only [cK] at h ⊢; exact zv hn cs (by simpa only [aP] using ho) h
 | .func f a b,ho,h => by
   simp only [aP,aG] at ho;simp only [cK] at h ⊢; exact ⟨zv hn a (fun p hp => ho p (.inl hp)) h.1,zv hn b (fun p hp => ho p (.inr hp)) h.2⟩
 | .any,_,_ => trivial | .undef,_,_ => trivial | .fy,_,_ => trivial | .fD,_,_ => trivial | .dz,_,_ => trivial
 | .int _ _,_,_ => trivial | .bool _,_,_ => trivial | .str _,_,_ => trivial | .list _ _,_,_ => trivial | .dw _,_,_ => trivial | .own _ _,_,_ => trivial
 | .sl _ b _ _,_,h => by simp only [cK] at h ⊢; omega
theorem zv {o o' : Rt -> Option (Nat × List AV)} {nb IP : Nat} (hn : nb <= IP) : ∀ xs,(∀ p ∈ dh xs,o' p = o p) -> kg o nb xs -> kg o' IP xs
 | [],_,_ => trivial
 | x :: r,ho,h => by
   simp only [dh,aG] at ho;exact ⟨CT hn x (fun p hp => ho p (.inl hp)) h.1,zv hn r (fun p hp => ho p (.inr hp)) h.2⟩
end
theorem z8 : ∀ {H : Heap},jt H = true -> (∀ b,b < H.length -> (aN H b).isSome) /\ ∀ b cs,aN H b = some cs -> ∀ p ∈ dh cs,dQ p = false
 | [],_ => ⟨fun b hb => by simp at hb,fun b cs h => by simp [aN] at h⟩
 | none :: r,h => by simp [jt] at h
 | some ds :: r,h => by
   simp only [jt,ae,bH] at h;obtain ⟨h1,h2⟩ := z8 h.2;refine ⟨fun b hb => ?_,fun b cs hb => ?_⟩
   ·cases b with
    | zero => simp [aN]
    | succ b => have := h1 b (by simpa using hb); simpa [aN] using this
   ·cases b with
    | zero =>
      simp [aN] at hb;subst hb;intro p hp;exact jW h.1 p hp
    | succ b => exact h2 b cs (by simpa [aN] using hb)
section
variable {P : Program} {X : Nat -> Prop} {φ nk φ' : dy} {w w1 w' : World} {N N1 N' : Names} {s s' s1 : St} {Ha : Heap} {B : Nat -> Nat} {base : Nat} {v va : AV} {v' : Value} {c : eE} {a : Act} {call : Nat -> List AV -> Heap -> Option (AV × Heap)} {t : Nat -> Value}
structure Norm (X : Nat -> Prop) (φ : dy) (w : World) (N : Names) (s : St) (t : Nat -> Value) (kO : dy) (H2 : Heap) : Prop where
 v8 : eR (fun g => X g \/ (bQ φ g /\ ¬ bQ kO g)) kO w N s H2 t
 my : fJ φ w kO w
 good : ∀ n,(aN H2 n).isSome -> (∃ b,(aN s.H b).isSome /\ N.β b = n) \/ ∃ p,(aC s p).isSome /\ N.ν p = some n
 refs : ∀ n cs,aN H2 n = some cs -> ∀ c ∈ cs,jj (fun m => (aN H2 m).isSome) c
 sub : ∀ (n : Nat) (p : Nat × Nat),kO[n]? = some (some p) -> φ[n]? = some (some p)
 live : ∀ (n : Nat) (p : Nat × Nat),kO[n]? = some (some p) -> (aN H2 n).isSome
 len : kO.length = φ.length
theorem eR.norm (h : eR X φ w N s Ha t) (jO : ∀ b,b < s.H.length -> (aN s.H b).isSome) : ∃ kO H2,Norm X φ w N s t kO H2 := by
 have hP : ∀ n,∃ B : Q2,(∀ b cs,aN s.H b = some cs -> N.β b = n -> B = some (Pj N (.c b) 0 cs)) /\ (∀ p k xs,aC s p = some (k,xs) -> N.ν p = some n -> B = some (aH xs)) /\ (B.isSome -> (∃ b,(aN s.H b).isSome /\ N.β b = n) \/ ∃ p,(aC s p).isSome /\ N.ν p = some n) := by
  intro n;by_cases h1 : ∃ b cs,aN s.H b = some cs /\ N.β b = n
  ·obtain ⟨b,cs,hb,hn⟩ := h1;refine ⟨some (Pj N (.c b) 0 cs),fun b' cs' ia OV => ?_,fun p k xs hp OV => ?_,fun _ => .inl ⟨b,by rw [hb]; rfl,hn⟩⟩
   ·have e := h.bi b b' (by rw [hb]; rfl) (by rw [ia]; rfl) (by rw [hn,OV]);subst e;rw [hb] at ia; cases ia; rfl
   ·exact absurd (by rw [OV,hn]) (h.bx b p (by rw [hb]; rfl) (by rw [hp]; rfl))
  ·by_cases h2 : ∃ p k xs,aC s p = some (k,xs) /\ N.ν p = some n
   ·obtain ⟨p,k,xs,hp,hn⟩ := h2;refine ⟨some (aH xs),fun b cs hb OV => absurd ⟨b,cs,hb,OV⟩ h1,fun p' k' xs' Jd OV => ?_,fun _ => .inr ⟨p,by rw [hp]; rfl,hn⟩⟩;have e := h.inj p p' n (by rw [hp]; rfl) (by rw [Jd]; rfl) hn OV;subst e;rw [hp] at Jd; cases Jd; rfl
   ·exact ⟨none,fun b cs hb hn => absurd ⟨b,cs,hb,hn⟩ h1,fun p k xs hp hn => absurd ⟨p,k,xs,hp,hn⟩ h2,fun e => by cases e⟩
 obtain ⟨G,hG⟩ := Classical.axiomOfChoice hP;obtain ⟨H2,Ge,hH2⟩ := vv Ha.length G;obtain ⟨kO,hlφ,hφ2⟩ : ∃ kO : dy,kO.length = φ.length /\ ∀ m,m < φ.length -> kO[m]? = some (if (G m).isSome then (φ[m]?).join else none) := ⟨(cH φ.length).map fun m => if (G m).isSome then (φ[m]?).join else none,by simp,fun m hm => by simp [hm]⟩;have hlen := h.heap.len
 have blk2 : ∀ n,n < Ha.length -> aN H2 n = G n := fun n hn => by
  unfold aN; rw [hH2 n hn]; cases G n <;> rfl
 have sub : ∀ (n : Nat) (p : Nat × Nat),kO[n]? = some (some p) -> φ[n]? = some (some p) /\ (G n).isSome := by
  intro n p hn;have bL := aA hn;rw [hlφ] at bL;rw [hφ2 n bL] at hn;split at hn
  ·rename_i hg;simp at hn;refine ⟨?_,hg⟩;cases e : φ[n]? with
   | none => rw [e] at hn; cases hn
   | some q => rw [e] at hn; simp at hn; rw [hn]
  ·simp at hn
 have Yi : ∀ g,bQ kO g -> bQ φ g := fun g ⟨b,sz,e⟩ => ⟨b,sz,(sub b _ e).1⟩;have my : fJ φ w kO w := ⟨rfl,rfl,rfl,aT _,aT _,fun g _ iK => ⟨rfl,fun ho => iK (Yi g ho)⟩,⟨by omega,fun b p _ hp => (sub b p hp).1⟩⟩;have hR : ∀ a u,Rd X φ w a u -> Rd (fun g => X g \/ (bQ φ g /\ ¬ bQ kO g)) kO w a u := fun a u ⟨h1,h2,h3⟩ => ⟨fun hx => hx.elim h1 fun hh => h2 hh.1,fun ho => h2 (Yi _ ho),h3⟩;have mono : ∀ {x : AV} {u : Value},bT (Rd X φ w) φ x u -> bT (Rd (fun g => X g \/ (bQ φ g /\ ¬ bQ kO g)) kO w) kO x u := fun r => r.mono hR my.Tm
 have boxG : ∀ b cs,aN s.H b = some cs -> aN H2 (N.β b) = some (Pj N (.c b) 0 cs) := fun b cs hb => by
  rw [blk2 _ (h.q9 (by rw [hb]; rfl))];exact (hG (N.β b)).1 b cs hb rfl
 have ownG : ∀ p k xs n,aC s p = some (k,xs) -> N.ν p = some n -> aN H2 n = some (aH xs) := fun p k xs n hp hn => by
  rw [blk2 _ (h.im (by rw [hp]; rfl) hn)];exact (hG n).2.1 p k xs hp hn
 have agx : ∀ n,(G n).isSome -> n < Ha.length -> ∀ e,φ[n]? = some e -> kO[n]? = some e := fun n hg hn e he => by
  rw [hφ2 n (by omega),if_pos hg,he]; rfl
 have Zw : cG (fun g => X g \/ (bQ φ g /\ ¬ bQ kO g)) kO w H2 := by
  refine ⟨by omega,fun g hg => hg.elim (h.heap.Dh g) (fun ho => (h.heap.im ho.1).1),fun n cs hn => ?_,fun n hn => ?_,fun n n' g sz nx e1 e2 => h.heap.inj n n' g sz nx (sub _ _ e1).1 (sub _ _ e2).1⟩
  ·have bL : n < Ha.length := by have := aA hn; omega
   rw [hH2 n bL] at hn;simp only [ah] at hn;have hg : (G n).isSome := by rw [hn]; rfl
   have fin : ∀ {as : List AV},aN Ha n = some as -> (∀ (i : Nat) (d : AV),cs[i]? = some d -> ∃ a,as[i]? = some a /\ Le d a) -> cs.length <= as.length -> ∃ (g sz : Nat) (arr : Array Value) (e : TypeId),kO[n]? = some (some (g,sz)) /\ w.heap[g]? = some (.cells arr e (0,0)) /\ arr.size = sz /\ cs.length <= sz /\ ¬ (X g \/ (bQ φ g /\ ¬ bQ kO g)) /\ ∀ (i : Nat) (d : AV),cs[i]? = some d -> ∃ u,arr[i]? = some u /\ bT (Rd (fun g => X g \/ (bQ φ g /\ ¬ bQ kO g)) kO w) kO d u := by
    intro as has dP hle;obtain ⟨g,sz,arr,e,g1,g2,g3,g4,g5,g6⟩ := h.heap.at has;have h2 := agx n hg bL _ g1;refine ⟨g,sz,arr,e,h2,g2,g3,by omega,fun hx => hx.elim g5 fun hh => hh.2 ⟨n,sz,h2⟩,fun i d hd => ?_⟩;obtain ⟨a,ha,hle2⟩ := dP i d hd;obtain ⟨u,u1,u2⟩ := g6 i a ha;exact ⟨u,u1,mono (hle2 _ _ _ u2)⟩
   rcases (hG n).2.2 hg with ⟨b,hb,hbn⟩ | ⟨p,hp,hpn⟩
   ·obtain ⟨ds,mX⟩ := aQ.1 hb;have := (hG n).1 b ds mX hbn;rw [hn] at this;simp at this;subst this;obtain ⟨as,a1,a2,a3⟩ := h.box b ds mX;rw [hbn] at a1;refine fin a1 (fun i d hd => ?_) (by rw [iI]; omega);rw [fZ] at hd;cases hi : ds[i]? with
    | none => rw [hi] at hd; cases hd
    | some d0 =>
      rw [hi] at hd;simp at hd;subst hd;obtain ⟨_,a',b1,b2⟩ := a3 i d0 hi;exact ⟨a',b1,b2⟩
   ·obtain ⟨⟨k,xs⟩,Zp⟩ := aQ.1 hp;have := (hG n).2.1 p k xs Zp hpn;rw [hn] at this;simp at this;subst this;have ho := h.own p k xs Zp;rw [hpn] at ho;obtain ⟨Xb,c1,c2,c3,c4⟩ := ho;refine fin c1 (fun i d hd => ?_) (by rw [jx c3]; exact c2);obtain ⟨_,a',b1,_,b2⟩ := c4 i d hd;exact ⟨a',b1,b2⟩
  ·have bL : n < Ha.length := by have := aA hn; omega
   rw [hH2 n bL] at hn;simp only [ah] at hn;rw [hφ2 n (by omega),hn];rfl
 refine ⟨kO,H2,⟨⟨fun i => mono (h.env i),h.Cu,Zw,fun p k xs e => ?_,fun b cs e => ?_,h.inj,h.bx,h.bi⟩,my,fun n hn => ?_,fun n cs hn d hd => ?_,fun n p hp => (sub n p hp).1,fun n p hp => ?_,hlφ⟩⟩
 ·have ho := h.own p k xs e;cases hn : N.ν p with
  | none => rw [hn] at ho; exact ho
  | some n =>
    rw [hn] at ho;obtain ⟨Xb,c1,c2,c3,c4⟩ := ho;refine ⟨aH xs,ownG p k xs n e hn,by rw [jx c3]; exact aT _,c3,fun i d hd => ?_⟩;obtain ⟨f1,_⟩ := c4 i d hd;exact ⟨f1,d,hd,(kh f1).2,Le.refl _⟩
 ·obtain ⟨as,a1,a2,a3⟩ := h.box b cs e;refine ⟨_,boxG b cs e,iI _ _ _ _,fun j d hd => ?_⟩;obtain ⟨b1,_⟩ := a3 j d hd;exact ⟨b1,jF N (.c b j) d,by rw [fZ,hd]; simp,Le.refl _⟩
 ·obtain ⟨cs,dP⟩ := aQ.1 hn;have bL : n < Ha.length := by have := dL dP; omega
  exact (hG n).2.2 (by rw [<- blk2 n bL]; exact hn)
 ·have eO : ∀ b,b < s.H.length -> (aN H2 (N.β b)).isSome := fun b hb => by
   obtain ⟨ds,mX⟩ := aQ.1 (jO b hb);rw [boxG b ds mX]; rfl
  have kR : ∀ p,(aC s p).isSome -> ∀ n,N.ν p = some n -> (aN H2 n).isSome := fun p hp n hn => by
   obtain ⟨⟨k,xs⟩,Zp⟩ := aQ.1 hp;rw [ownG p k xs n Zp hn]; rfl
  have bL : n < Ha.length := by have := dL hn; omega
  rcases (hG n).2.2 (by rw [<- blk2 n bL,hn]; rfl) with ⟨b,hb,hbn⟩ | ⟨p,hp,hpn⟩
  ·obtain ⟨ds,mX⟩ := aQ.1 hb;have e := boxG b ds mX;rw [hbn,hn] at e;cases e;obtain ⟨j,hj⟩ := bG hd;rw [fZ] at hj;cases hi : ds[j]? with
   | none => rw [hi] at hj; cases hj
   | some d0 =>
     rw [hi] at hj;simp at hj;subst hj;obtain ⟨as,a1,a2,a3⟩ := h.box b ds mX
     exact XH (o := aC s) (nb := s.H.length) eO kR (r := .c b j) (fun k xs e => by
      have : aC s (.c b j) = some (k,xs) := cu.2 (by simp only [at_,mX,hi,e]);rw [this]; rfl) (a3 j d0 hi).1
  ·obtain ⟨⟨k,xs⟩,Zp⟩ := aQ.1 hp;have e := ownG p k xs n Zp hpn;rw [hn] at e;cases e;have ho := h.own p k xs Zp;rw [hpn] at ho;obtain ⟨Xb,c1,c2,c3,c4⟩ := ho;obtain ⟨j,hj⟩ := bG hd;exact Rp d (kh (c4 j d hj).1).1
 ·have bL : n < Ha.length := by have := aA hp; omega
  rw [blk2 n bL];exact (sub n p hp).2
end
end Go.Bm

/- Calls of functions that share boxes. -/
namespace Go.Bm
open Go.Am
section
variable {P : Program} {X : Nat -> Prop} {φ nk φ' : dy} {w w1 w' : World} {N N1 N' : Names} {s s' s1 : St} {Ha : Heap} {B : Nat -> Nat} {base : Nat} {v va : AV} {v' : Value} {c : eE} {o : Oper} {a : Act} {kd : Kd} {call : Nat -> List AV -> Heap -> Option (AV × Heap)} {t : Nat -> Value}
theorem uY : ∀ {l : List AV},fQ l = true -> ∀ (i : Nat) (z : AV),l[i]? = some z -> ko z = true
 | [],_,i,z,hz => by simp at hz
 | y :: r,h,i,z,hz => by
   simp only [fQ,ae] at h;cases i with
   | zero => simp at hz; subst hz; exact h.1
   | succ i => exact uY h.2 i z (by simpa using hz)
theorem eR.enter (h : eR X φ w N s Ha t) (jO : jt s.H = true) {args : List AV} {vargs : Array Value} (hp : fQ args = true) (ho : ∀ (i : Nat) (x : AV),args[i]? = some x -> cK (aC s) s.H.length x) (hr : ∀ (i : Nat) (x : AV) (v : Value),args[i]? = some x -> vargs[i]? = some v -> bT (Rd X φ w) φ (cM N x) v) (hl : args.length = vargs.size) :
  eR X φ w N ⟨ep 0 args,s.H⟩ Ha (fun i => vargs.getD i undef) := by
 have Gf : ∀ i,get (ep 0 args) i = args[i]?.getD .any := fun i => by rw [sg]; simp
 have iK : ∀ i,bJ (get (ep 0 args) i) = false := fun i => by
  rw [Gf];cases e : args[i]? with
  | none => rfl
  | some x => exact wc (uY hp i x e)
 have own : ∀ {p},(aC ⟨ep 0 args,s.H⟩ p).isSome -> ∃ b j,p = .c b j := by
  intro p Jd;cases p with
  | s i => rw [(dV (s := ⟨ep 0 args,s.H⟩) (iK i)).1] at Jd; cases Jd
  | sc i j => rw [(dV (s := ⟨ep 0 args,s.H⟩) (iK i)).2 j] at Jd; cases Jd
  | c b j => exact ⟨b,j,rfl⟩
 have box : ∀ b j,aC ⟨ep 0 args,s.H⟩ (.c b j) = aC s (.c b j) := fun b j => rfl;obtain ⟨_,ZD⟩ := z8 jO;have Zf : ∀ {p : Rt},dQ p = false -> ∃ b j,p = .c b j := fun {p} hp => by cases p <;> simp [dQ] at hp; exact ⟨_,_,rfl⟩
 refine ⟨fun i => ?_,fun i => ?_,h.heap,fun p k xs e => ?_,fun b cs e => ?_,fun p q n e1 e2 e3 e4 => ?_,fun b p e1 e2 e3 => ?_,h.bi⟩
 ·show bT _ _ (ku N i (get (ep 0 args) i)) _;rw [vV N i (iK i),Gf];cases e : args[i]? with
  | none => exact .any _ _
  | some x =>
    obtain ⟨v,hv⟩ := cY (l := vargs) (i := i) (by have := aA e; omega);simp only [Option.getD_some];rw [bf,hv];exact hr i x v e hv
 ·show cK _ _ (get (ep 0 args) i);rw [Gf];cases e : args[i]? with
  | none => trivial
  | some x => exact Fk (aT _) x (uY hp i x e) (ho i x e)
 ·obtain ⟨b,j,rfl⟩ := own (p := p) (by rw [e]; rfl);exact h.own _ k xs e
 ·obtain ⟨as,g1,g2,g3⟩ := h.box b cs e;refine ⟨as,g1,g2,fun j d hd => ?_⟩;obtain ⟨g4,g5⟩ := g3 j d hd;refine ⟨CT (aT _) d (fun p Jd => ?_) g4,g5⟩;obtain ⟨b',j',rfl⟩ := Zf (ZD b cs e p (kA hd Jd));rfl
 ·obtain ⟨b,j,rfl⟩ := own e1;obtain ⟨b',j',rfl⟩ := own e2;exact h.inj _ _ n e1 e2 e3 e4
 ·obtain ⟨b',j,rfl⟩ := own e2;exact h.bx b (.c b' j) e1 e2 e3
theorem shared (h : eR X φ w N s Ha t) (hb : (∀ b,b < base -> N.β b = B b) /\ base <= s.H.length) {QB : Env} {t0 : Nat -> Value} {kO : dy} {H2 : Heap} (hn : Norm X φ w N ⟨QB,s.H⟩ t0 kO H2) (h0 : ∀ i,bJ (get QB i) = false)
  {r : AV} {H' H1 : Heap} {t1 : Nat -> Value} (hZ : eR (fun g => X g \/ (bQ φ g /\ ¬ bQ kO g)) nk w1 N1 ⟨[(0,r)],H'⟩ H1 t1) (ad : fJ kO w nk w1) (eO : ∀ b,b < s.H.length -> N1.β b = N.β b) (hle : s.H.length <= H'.length) (Ji : jt H' = true) (hbr : aP r = []) (iK : bJ r = false) :
  ∃ φ',eG X φ' w1 B base ⟨j7 l6 s.env,H'⟩ r t (t1 0) /\ fJ φ w φ' w1 := by
 obtain ⟨Uq,ZD⟩ := z8 Ji;have Zf : ∀ {p : Rt},dQ p = false -> ∃ b j,p = .c b j := fun {p} hp => by cases p <;> simp [dQ] at hp; exact ⟨_,_,rfl⟩
 obtain ⟨HN,H3,h3⟩ := hZ.norm Uq;have l3 := h3.v8.heap.len;have l1 := h.heap.len;have l2 := hn.len;have l2h := hn.v8.heap.len;have pl : vK kO HN := ad.Tm.trans h3.my.Tm;have hlen : φ.length <= HN.length := by have := pl.len; omega
 have ad2 : fJ kO w HN w1 := ad.trans h3.my
 -- hidden: known to the caller, not to the callee
 let qA : Nat -> Bool := fun n => decide (n < φ.length) && !(kO[n]?.join).isSome
 have hid3 : ∀ n,qA n = true -> HN[n]? = some none /\ aN H3 n = none := by
  intro n hh;simp only [qA,ae,decide_eq_true_eq,bH] at hh;obtain ⟨bL,hj⟩ := hh;obtain ⟨e,he⟩ := aZ (l := HN) (i := n) (by omega)
  have h3n : HN[n]? = some none := by
   cases e with
   | none => exact he
   | some p =>
     have := pl.IK n p (by omega) he;rw [this] at hj; simp at hj
  refine ⟨h3n,?_⟩;cases hb3 : aN H3 n with
  | none => rfl
  | some cs =>
    obtain ⟨g,sz,arr,ty,g1,_⟩ := h3.v8.heap.at hb3;rw [h3n] at g1; cases g1
 have IY : ∀ n,(aN H3 n).isSome -> qA n = false := fun n hb3 => by
  cases hh : qA n with
  | false => rfl
  | true => rw [(hid3 n hh).2] at hb3; cases hb3
 obtain ⟨Vk,hl4,hφ4⟩ : ∃ Vk : dy,Vk.length = HN.length /\ ∀ m,m < HN.length -> Vk[m]? = if qA m then φ[m]? else HN[m]? := by
  refine ⟨(cH HN.length).map fun m => if qA m then (φ[m]?).join else (HN[m]?).join,by simp,fun m hm => ?_⟩;simp only [cq,List.getElem?_range hm,dc];split
  ·rename_i hh;have bL : m < φ.length := by simp only [qA,ae,decide_eq_true_eq] at hh; exact hh.1
   rw [aB bL]; rfl
  ·rw [aB hm]; rfl
 obtain ⟨H4,hlh4,hH4⟩ := vv H3.length fun m => if qA m then (Ha[m]?).join else (H3[m]?).join
 have Pc : ∀ n,qA n = true -> Vk[n]? = φ[n]? := fun n hh => by
  have bL : n < φ.length := by simp only [qA,ae,decide_eq_true_eq] at hh; exact hh.1
  rw [hφ4 n (by omega),if_pos hh]
 have L6 : ∀ n,qA n = false -> Vk[n]? = HN[n]? := fun n hh => by
  by_cases bL : n < HN.length
  ·rw [hφ4 n bL,hh]; rfl
  ·rw [eH (by omega),eH (by omega)]
 have H4h : ∀ n,qA n = true -> H4[n]? = Ha[n]? := fun n hh => by
  have bL : n < φ.length := by simp only [qA,ae,decide_eq_true_eq] at hh; exact hh.1
  rw [hH4 n (by omega),if_pos hh,aB (by omega)]; rfl
 have H4n : ∀ n,qA n = false -> H4[n]? = H3[n]? := fun n hh => by
  by_cases bL : n < H3.length
  ·rw [hH4 n bL,hh,aB bL]; rfl
  ·rw [eH (by omega),eH (by omega)]
 have aiX : ∀ n,qA n = true -> aN H4 n = aN Ha n := fun n hh => by unfold aN; rw [H4h n hh]
 have aeJ : ∀ n,qA n = false -> aN H4 n = aN H3 n := fun n hh => by unfold aN; rw [H4n n hh]
 have own4 : ∀ {g},bQ Vk g -> (∃ n sz,qA n = true /\ φ[n]? = some (some (g,sz))) \/ ∃ n sz,qA n = false /\ HN[n]? = some (some (g,sz)) := by
  rintro g ⟨n,sz,e⟩;cases hh : qA n with
  | true => rw [Pc n hh] at e; exact .inl ⟨n,sz,hh,e⟩
  | false => rw [L6 n hh] at e; exact .inr ⟨n,sz,hh,e⟩
 have hidX : ∀ {n g sz},qA n = true -> φ[n]? = some (some (g,sz)) -> bQ φ g /\ ¬ bQ kO g := by
  intro n g sz hh e;refine ⟨⟨n,sz,e⟩,fun ⟨m,nx,e'⟩ => ?_⟩;have := h.heap.inj n m g sz nx e (hn.sub m _ e');subst this;simp only [qA,ae,decide_eq_true_eq,bH] at hh;rw [e'] at hh; simp at hh
 have sub2 : ∀ {g},bQ kO g -> bQ φ g := fun ⟨m,sz,e⟩ => ⟨m,sz,hn.sub m _ e⟩
 have my : fJ φ w Vk w1 := by
  refine ⟨ad2.os,ad2.tape,ad2.output,ad2.drawn,ad2.size,fun g hg iK => ?_,⟨by omega,fun n p bL hp => ?_⟩⟩
  ·obtain ⟨k1,k2⟩ := ad2.keep g hg (fun ho => iK (sub2 ho));refine ⟨k1,fun ho => ?_⟩;rcases own4 ho with ⟨n,sz,_,e⟩ | ⟨n,sz,_,e⟩
   ·exact iK ⟨n,sz,e⟩
   ·exact k2 ⟨n,sz,e⟩
  ·cases hh : qA n with
   | true => rwa [Pc n hh] at hp
   | false =>
     rw [L6 n hh] at hp;exact hn.sub n p (pl.IK n p (by omega) hp)
 -- values of the callee
 have hR : ∀ a u,Rd (fun g => (X g \/ (bQ φ g /\ ¬ bQ kO g)) \/ (bQ nk g /\ ¬ bQ HN g)) HN w1 a u -> Rd X Vk w1 a u := fun a u ⟨p1,p2,p3⟩ => ⟨fun hx => p1 (.inl (.inl hx)),fun ho => by
  rcases own4 ho with ⟨n,sz,hh,e⟩ | ⟨n,sz,_,e⟩
  ·exact p1 (.inl (.inr (hidX hh e)))
  ·exact p2 ⟨n,sz,e⟩,p3⟩
 have tr34 : ∀ {x : AV} {u : Value},jj (fun m => (aN H3 m).isSome) x -> bT (Rd (fun g => (X g \/ (bQ φ g /\ ¬ bQ kO g)) \/ (bQ nk g /\ ¬ bQ HN g)) HN w1) HN x u -> bT (Rd X Vk w1) Vk x u := fun hx r => bT.refs hR r hx (by omega) fun b hb4 p hp => by rwa [L6 b (IY b hb4)] at hp
 have Zw : cG X Vk w1 H4 := by
  refine ⟨by omega,fun g hg => Nat.lt_of_lt_of_le (h.heap.Dh g hg) ad2.size,fun n cs e => ?_,fun n e => ?_,fun n n' g sz nx e1 e2 => ?_⟩
  ·cases hh : qA n with
   | true =>
     rw [H4h n hh] at e;obtain ⟨g,sz,arr,ty,g1,g2,g3,g4,g5,g6⟩ := h.heap.live n cs e;have hx := hidX hh g1;refine ⟨g,sz,arr,ty,by rw [Pc n hh]; exact g1,?_,g3,g4,g5,fun i d hd => ?_⟩
     ·rw [(ad2.keep g (h.heap.im hx.1).1 hx.2).1]; exact g2
     ·obtain ⟨u,u1,u2⟩ := g6 i d hd;exact ⟨u,u1,my.rep u2⟩
   | false =>
     rw [H4n n hh] at e;obtain ⟨g,sz,arr,ty,g1,g2,g3,g4,g5,g6⟩ := h3.v8.heap.live n cs e;refine ⟨g,sz,arr,ty,by rw [L6 n hh]; exact g1,g2,g3,g4,fun hx => g5 (.inl (.inl hx)),fun i d hd => ?_⟩;obtain ⟨u,u1,u2⟩ := g6 i d hd;exact ⟨u,u1,tr34 (h3.refs n cs (pe.2 e) d (bg hd)) u2⟩
  ·cases hh : qA n with
   | true => rw [H4h n hh] at e; rw [Pc n hh]; exact h.heap.dead n e
   | false => rw [H4n n hh] at e; rw [L6 n hh]; exact h3.v8.heap.dead n e
  ·have mix : ∀ {n n' sz nx},qA n = true -> qA n' = false -> φ[n]? = some (some (g,sz)) -> HN[n']? = some (some (g,nx)) -> False := by
    intro n n' sz nx hh hh' e1 e2;obtain ⟨cs,dP⟩ := aQ.1 (h3.live n' _ e2);obtain ⟨g',sz2,arr,ty,g1,_,_,_,g5,_⟩ := h3.v8.heap.at dP;rw [e2] at g1; cases g1;exact g5 (.inl (.inr (hidX hh e1)))
   cases hh : qA n with
   | true =>
     rw [Pc n hh] at e1;cases hh' : qA n' with
     | true => rw [Pc n' hh'] at e2; exact h.heap.inj n n' g sz nx e1 e2
     | false => rw [L6 n' hh'] at e2; exact (mix hh hh' e1 e2).elim
   | false =>
     rw [L6 n hh] at e1;cases hh' : qA n' with
     | true => rw [Pc n' hh'] at e2; exact (mix hh' hh e2 e1).elim
     | false => rw [L6 n' hh'] at e2; exact h3.v8.heap.inj n n' g sz nx e1 e2
 -- names
 let Nb : Names := ⟨N1.β,N.ν⟩
 let N4 : Names := ⟨N1.β,fun p => match p with
  | .c b j => N1.ν (.c b j)
  | p => N.ν p⟩
 have Yh : ∀ i,aC ⟨j7 l6 s.env,H'⟩ (.s i) = aC s (.s i) := fun i => by
  rw [<- iB wq s (.s i)]; rfl
 have PD : ∀ i j,aC ⟨j7 l6 s.env,H'⟩ (.sc i j) = aC s (.sc i j) := fun i j => by
  rw [<- iB wq s (.sc i j)]; rfl
 have aik : ∀ b j,aC ⟨j7 l6 s.env,H'⟩ (.c b j) = aC ⟨[(0,r)],H'⟩ (.c b j) := fun b j => rfl
 have JX : ∀ {p},(aC ⟨j7 l6 s.env,H'⟩ p).isSome -> ((∃ b j,p = .c b j) /\ aC ⟨j7 l6 s.env,H'⟩ p = aC ⟨[(0,r)],H'⟩ p /\ N4.ν p = N1.ν p) \/ ((∀ b j,p ≠ .c b j) /\ aC ⟨j7 l6 s.env,H'⟩ p = aC s p /\ N4.ν p = N.ν p) := by
  intro p hp;cases p with
  | s i => exact .inr ⟨(fun _ _ e => by cases e),Yh i,rfl⟩
  | sc i j => exact .inr ⟨(fun _ _ e => by cases e),PD i j,rfl⟩
  | c b j => exact .inl ⟨⟨b,j,rfl⟩,aik b j,rfl⟩
 -- blocks of slots are hidden
 have Lo : ∀ {p n},(∀ b j,p ≠ .c b j) -> (aC s p).isSome -> N.ν p = some n -> qA n = true := by
  intro p n Jc hp Zs;have bL : n < Ha.length := h.im hp Zs;simp only [qA,ae,decide_eq_true_eq,bH];refine ⟨by omega,?_⟩;cases e : (kO[n]?).join with
  | none => rfl
  | some q =>
    exfalso
    have e' : kO[n]? = some (some q) := by
     cases e2 : kO[n]? with
     | none => rw [e2] at e; cases e
     | some z => rw [e2] at e; simp at e; rw [e]
    rcases hn.good n (hn.live n q e') with ⟨b,zL,r9⟩ | ⟨p',hp1,hp2⟩
    ·exact h.bx b p zL hp (by rw [Zs,<- r9])
    ·have hc : ∃ b j,p' = .c b j := by
      cases p' with
      | s i => rw [(dV (s := ⟨QB,s.H⟩) (h0 i)).1] at hp1; cases hp1
      | sc i j => rw [(dV (s := ⟨QB,s.H⟩) (h0 i)).2 j] at hp1; cases hp1
      | c b j => exact ⟨b,j,rfl⟩
     obtain ⟨b,j,rfl⟩ := hc;have := h.inj p (.c b j) n hp hp1 Zs hp2;exact Jc b j this
 have box3 : ∀ b,(aN H' b).isSome -> (aN H3 (N1.β b)).isSome := fun b ia => by
  obtain ⟨cs,dP⟩ := aQ.1 ia;obtain ⟨as,a1,_⟩ := h3.v8.box b cs dP;rw [a1]; rfl
 have own3 : ∀ {p n},(aC ⟨[(0,r)],H'⟩ p).isSome -> N1.ν p = some n -> (aN H3 n).isSome := by
  intro p n hp Zs;obtain ⟨⟨k,xs⟩,e⟩ := aQ.1 hp;have := h3.v8.own p k xs e;rw [Zs] at this;obtain ⟨cs,h1,_⟩ := this;rw [h1]; rfl
 have hl : ∀ k p a l,(cK (aC s) s.H.length (.dG k p a l) -> cK (aC ⟨j7 l6 s.env,H'⟩) s.H.length (l6 (.dG k p a l)) /\ Le (cM N4 (l6 (.dG k p a l))) (cM Nb (.dG k p a l))) /\ (cK (aC s) s.H.length (.fa k p a l) -> cK (aC ⟨j7 l6 s.env,H'⟩) s.H.length (l6 (.fa k p a l)) /\ Le (cM N4 (l6 (.fa k p a l))) (cM Nb (.fa k p a l))) := by
  intro k p a l;cases p with
  | s i =>
    refine ⟨fun h => ⟨?_,Le.refl _⟩,fun h => ⟨?_,Le.refl _⟩⟩
    ·simp only [l6,cK] at h ⊢; rw [Yh]; exact h
    ·simp only [l6,cK] at h ⊢; rw [Yh]; exact h
  | sc i j =>
    refine ⟨fun h => ⟨?_,Le.refl _⟩,fun h => ⟨?_,Le.refl _⟩⟩
    ·simp only [l6,cK] at h ⊢; rw [PD]; exact h
    ·simp only [l6,cK] at h ⊢; rw [PD]; exact h
  | c b j => exact ⟨fun _ => ⟨trivial,Le.any _⟩,fun _ => ⟨trivial,Le.any _⟩⟩
 have hsim : eR X Vk w1 N4 ⟨j7 l6 s.env,H'⟩ H4 t := by
  refine ⟨fun i => ?_,fun i => ?_,Zw,fun p k xs e => ?_,fun b cs e => ?_,fun p q n e1 e2 e3 e4 => ?_,fun b p e1 e2 e3 => ?_,fun b d e1 e2 e3 => h3.v8.bi b d e1 e2 e3⟩
  ·show bT _ _ (ku N4 i (get (j7 l6 s.env) i)) _;rw [dt];have r0 := my.rep (h.env i);have e0 : ku N i (get s.env i) = ku Nb i (get s.env i) := xq (N := Nb) (N' := N) (o := aC s) (nb := s.H.length) (fun b ia => (eO b ia).symm) (fun _ _ => rfl) rfl (fun _ => rfl) (h.Cu i);rw [e0] at r0;refine Y2 (N := Nb) (N' := N4) (x := get s.env i) (y := cN l6 (get s.env i)) (fun cs dP => ⟨de l6 cs,by rw [dP]; rfl,cI _ _,fun j c d hc hd => ?_⟩) (fun hna => ⟨kZ wq hna,?_⟩) _ _ _ r0
   ·rw [eJ,hc] at hd;simp at hd;subst hd;have dg := h.Cu i;rw [dP] at dg;simp only [cK] at dg;exact (k7 (N := Nb) (N' := N4) (o := aC s) (o' := aC ⟨j7 l6 s.env,H'⟩) (nb := s.H.length) (g := l6) rfl wq hl (r := .sc i j) (fun _ _ _ => rfl) (gk.1 dg j c hc)).2
   ·exact (k7 (N := Nb) (N' := N4) (o := aC s) (o' := aC ⟨j7 l6 s.env,H'⟩) (nb := s.H.length) (g := l6) rfl wq hl (r := .s i) (fun _ _ _ => rfl) (h.Cu i)).2
  ·show cK _ H'.length (get (j7 l6 s.env) i);rw [dt];exact jw (fun _ _ => rfl) hle _ (K3 (N := Nb) (N' := N4) (o := aC s) (o' := aC ⟨j7 l6 s.env,H'⟩) (nb := s.H.length) (g := l6) rfl wq hl _ (h.Cu i)).1
  ·rcases JX (p := p) (by rw [e]; rfl) with ⟨⟨b,j,rfl⟩,e1,e2⟩ | ⟨Jc,e1,e2⟩
   ·rw [e1] at e;rw [e2];exact (h3.v8.own _ k xs e).same fun n Zs => aeJ n (IY n (own3 (by rw [e]; rfl) Zs))
   ·rw [e1] at e;rw [e2];exact (h.own p k xs e).same fun n Zs => aiX n (Lo Jc (by rw [e]; rfl) Zs)
  ·obtain ⟨as,a1,a2,a3⟩ := h3.v8.box b cs e;refine ⟨as,by show aN H4 (N1.β b) = _; rw [aeJ _ (IY _ (by rw [a1]; rfl))]; exact a1,a2,fun j d hd => ?_⟩;obtain ⟨b1,a',b2,b3⟩ := a3 j d hd;have W9 : ∀ p ∈ aP d,∃ b j,p = .c b j := fun p hp => Zf (ZD b cs e p (kA hd hp));refine ⟨CT (aT _) d (fun p hp => ?_) b1,a',b2,?_⟩
   ·obtain ⟨b',j',rfl⟩ := W9 p hp; rfl
   ·have : jF N4 (.c b j) d = jF N1 (.c b j) d := HT (N := N1) (N' := N4) rfl (fun _ _ _ => rfl) fun p hp => by obtain ⟨b',j',rfl⟩ := W9 p hp; rfl
    rw [this]; exact b3
  ·rcases JX e1 with ⟨Ut,o1,u1⟩ | ⟨Ut,o1,u1⟩ <;> rcases JX e2 with ⟨Gg,o2,u2⟩ | ⟨Gg,o2,u2⟩ <;> rw [o1] at e1 <;> rw [o2] at e2 <;> rw [u1] at e3 <;> rw [u2] at e4
   ·exact h3.v8.inj p q n e1 e2 e3 e4
   ·have a1 := IY n (own3 e1 e3);have a2 := Lo Gg e2 e4;rw [a1] at a2; cases a2
   ·have a1 := IY n (own3 e2 e4);have a2 := Lo Ut e1 e3;rw [a1] at a2; cases a2
   ·exact h.inj p q n e1 e2 e3 e4
  ·rcases JX e2 with ⟨Gg,o2,u2⟩ | ⟨Gg,o2,u2⟩ <;> rw [o2] at e2 <;> rw [u2] at e3
   ·exact h3.v8.bx b p e1 e2 e3
   ·have a1 := IY _ (box3 b e1);have a2 := Lo Gg e2 e3;have a3 : qA (N1.β b) = true := a2;rw [a1] at a3; cases a3
 have hr0 := h3.v8.env 0;simp only [Am.get,if_true] at hr0;rw [vV N1 0 iK] at hr0;have hok0 := h3.v8.Cu 0;simp only [Am.get,if_true] at hok0;refine ⟨Vk,eG.quiet hsim ⟨fun b ia => ?_,Nat.le_trans hb.2 hle⟩ (CT (aT _) r (fun p hp => by rw [hbr] at hp; simp at hp) hok0) (k9 iK) ?_,my⟩
 ·show N1.β b = B b;rw [eO b (by have := hb.2; omega)]; exact hb.1 b ia
 ·rw [kG N4 iK];have : cM N4 r = cM N1 r := Dp (N := N1) (N' := N4) rfl fun p hp => by rw [hbr] at hp; simp at hp
  rw [this];refine tr34 (J2 (o := aC ⟨[(0,r)],H'⟩) (nb := H'.length) (fun b ia => box3 b (Uq b ia)) (fun p hp n Zs => own3 hp Zs) r hok0) hr0
theorem Xs (dg : fE P c) (dX : iH P c call) : G6 P c call := by
 intro X φ w B base s o a kd f args md q r H' hk h hg ha hf hm hp jO hbr iK Ji hc;obtain ⟨N,Ha,h,hb⟩ := h;obtain ⟨vargs,l8,hA,xX⟩ := s5 dg h hg hk ha hf
 have hent : eR X φ w N ⟨ep 0 (args.map fi),s.H⟩ Ha (fun i => vargs.getD i undef) := by
  refine h.enter jO hp (fun i x hx => ?_) (fun i x v hx hv => ?_) (by simpa using hA.1)
  ·rw [cq] at hx;cases Hh : args[i]? with
   | none => rw [Hh] at hx; cases hx
   | some y =>
     rw [Hh] at hx;simp at hx;subst hx;have hy := gk.1 xX i y Hh;unfold fi;split
     ·trivial
     ·exact hy
  ·rw [cq] at hx;cases Hh : args[i]? with
   | none => rw [Hh] at hx; cases hx
   | some y =>
     rw [Hh] at hx;simp at hx;subst hx;have r0 := hA.2 i y v Hh hv;have Zo := uY hp i (fi y) (by rw [cq,Hh]; rfl);by_cases ho : ∃ k,y = .own k []
     ·obtain ⟨k,rfl⟩ := ho;simp only [gL] at r0;cases r0;exact .j8 _ _
     ·have hn : fi y = y := by
       unfold fi;split
       ·rename_i k; exact absurd ⟨k,rfl⟩ ho
       ·rfl
      rw [hn] at Zo ⊢;have hy : gL N y = cM N y := by cases y <;> first | rfl | (simp [ko] at Zo; done)
      rw [hy] at r0;exact r0
 obtain ⟨Uq,_⟩ := z8 jO;obtain ⟨kO,H2,hn⟩ := hent.norm Uq
 have h0 : ∀ i,bJ (get (ep 0 (args.map fi)) i) = false := fun i => by
  rw [sg];simp only [Nat.zero_le,if_true,Nat.sub_zero];cases e : (args.map fi)[i]? with
  | none => rfl
  | some x => exact wc (uY hp i x e)
 have jU := dX f md q hf (args.map fi) s.H r H' (.inl hm) hc (fun _ => Ji) (fun g => X g \/ (bQ φ g /\ ¬ bQ kO g)) kO w N.β vargs (by simpa using hA.1) ⟨N,H2,hn.v8,fun _ _ => rfl,aT _⟩ (fun g => (hg g).mono (fun a u ⟨h1,h2,h3⟩ => ⟨fun hx => hx.elim h1 fun hh => h2 hh.1,fun ⟨m,sz,e⟩ => h2 ⟨m,sz,hn.sub m _ e⟩,h3⟩) (.refl _));intro K Q hK;unfold Oper.wp;rw [l8,Oper.upon_enter];refine jU.mono ?_;rintro e w1 ⟨v',nk,rfl,⟨N1,H1,hZ,zL,hle⟩,ad⟩;obtain ⟨φ',xW,ad'⟩ := shared h hb hn h0 hZ ad zL hle Ji hbr iK;exact hK v' w1 φ' (by simpa using xW) ad'
end
end Go.Bm

/- The machine by value is sound. -/
namespace Go.Bm
open Go.Am
section
variable {P : Program} {c : eE}
theorem Xp (dg : fE P c) (oQ : vP P c) (vq : vL P c) (n : Nat) : OJ P c n :=
 Po dg oQ vq (fun call hc => Xs dg hc) (fun call hc => agS dg (ael dg oQ hc (Xs dg hc))) (fun n hs => shOK dg vq hs) n
theorem ag6 (dg : fE P c) (oQ : vP P c) (vq : vL P c) (n : Nat) : iH P c (gI c n) := JG dg vq (Xp dg oQ vq n) (shOK dg vq (Xp dg oQ vq n))
theorem aah (dg : fE P c) (oQ : vP P c) (vq : vL P c) {n f : Nat} {md : Md} {q : fK} (hf : c.fn f = some (md,q)) (jG : md.sh = false) {args : List AV} (hz : gz args = true) {r : AV} {H' : Heap} (h : gI c n f args [] = some (r,H')) (hr : pl r = true) {w : World} {vargs : Array Value}
  (ha : sJ (fun _ => False) [] w args vargs) (hg : Am.dZ (iO c) (fun _ => False) [] w) : Calls P f vargs w (fun e w' => ∃ v,e = .returned v /\ bT (Rd (fun _ => False) [] w') [] r v /\ RowKit.Below w.heap.size w w') :=
 Wy dg (ag6 dg oQ vq n) hf jG hz h hr ha hg
end
end Go.Bm

/- More fuel gives the same; runs without counting fuel. -/
namespace Go.Bm
open Go.Am
section
variable {c : eE}
abbrev lZ := Nat -> List AV -> Heap -> Option (AV × Heap)
def LeC (f g : lZ) : Prop := ∀ n a H r,f n a H = some r -> g n a H = some r
theorem QE {f g : lZ} (h : LeC f g) {kd : Kd} {s : St} {x : AV × St × Fq} (e : dU c f kd s = some x) : dU c g kd s = some x := by
 unfold dU at e ⊢;split at e
 ·cases e
 rename_i n args ha
 try simp only [ha]
 split at e
 ·cases e
 rename_i md q hf
 try simp only [hf]
 split at e
 ·rename_i hm
  try rw [if_pos hm]
  split at e
  ·cases e
  rename_i qU hz
  try simp only [hz]
  split at e
  case h_2 => cases e
  rename_i r H' hc;rw [h _ _ _ _ hc];exact e
 ·rename_i hm
  try rw [if_neg hm]
  split at e
  ·cases e
  rename_i n1 nO NY
  try simp only [NY]
  split at e
  case isFalse => cases e
  rename_i Zy
  try rw [if_pos Zy]
  split at e
  ·rename_i jG
   try rw [if_pos jG]
   split at e
   case isFalse => cases e
   rename_i hp
   try rw [if_pos hp]
   split at e
   case h_2 => cases e
   rename_i r H' hc;rw [h _ _ _ _ hc];exact e
  ·rename_i jG
   try rw [if_neg jG]
   split at e
   case isFalse => cases e
   rename_i hp
   try rw [if_pos hp]
   split at e
   case h_2 => cases e
   rename_i r H' hc;rw [h _ _ _ _ hc];exact e
theorem FW {f : lZ} {s : St} {kd : Kd} (h : l7 c f s kd = none) (g : lZ) : l7 c g s kd = none := by
 unfold l7 at h ⊢;split at h
 ·split at h
  ·cases h
  ·rename_i hl;exact if_neg hl
 ·rfl
theorem T0 {f : lZ} {s : St} {kd : Kd} {v : AV} {s1 : St} {fl : Fq} (h : l7 c f s kd = some (some (v,s1,fl))) : ∃ n args H r H',f n args H = some (r,H') /\ ∀ g : lZ,g n args H = some (r,H') -> l7 c g s kd = some (some (v,s1,fl)) := by
 obtain ⟨n,x,es,b,md,q,cs,cs',rfl,h1,h2,h3,h4,h5,h6,h7,rfl,rfl⟩ := vh h;refine ⟨_,_,_,_,_,h6,fun g hg => ?_⟩;unfold l7;simp only;rw [if_pos h1];unfold VX;rw [h2];simp only [h3,h4];rw [if_pos h5,hg];simp only;rw [if_pos h7]
theorem abF {f g : lZ} (h : LeC f g) {kd : Kd} {s : St} {x : AV × St × Fq} (e : l7 c f s kd = some (some x)) : l7 c g s kd = some (some x) := by
 obtain ⟨v,s1,fl⟩ := x;obtain ⟨n,args,H,r,H',h1,h2⟩ := T0 e;exact h2 g (h _ _ _ _ h1)
theorem abA {f : lZ} {fn i : Nat} {s : St} {xs : List AV} {x : AV × St × Fq} (e : M0 c f fn i s xs = some x) : ∃ n args H r H',f n args H = some (r,H') /\ ∀ g : lZ,g n args H = some (r,H') -> M0 c g fn i s xs = some x := by unfold M0 at e;cases e
theorem IU {f : lZ} {kd : Kd} {s : St} {x : AV × St × Fq} (e : q8 c f s kd = some (some x)) : ∃ n args H r H',f n args H = some (r,H') /\ ∀ g : lZ,g n args H = some (r,H') -> q8 c g s kd = some (some x) := by
 unfold q8 at e;split at e
 case h_2 => cases e
 rename_i fn es;split at e
 case h_2 => cases e
 rename_i i hi;simp only [ah] at e;obtain ⟨n,args,H,r,H',h1,h2⟩ := abA e;exact ⟨n,args,H,r,H',h1,fun g hg => by simp only [q8,hi,h2 g hg]⟩
theorem xR {f : lZ} {kd : Kd} {s : St} (h : q8 c f s kd = none) (g : lZ) : q8 c g s kd = none := by
 unfold q8 at h ⊢;split at h
 ·split at h
  ·cases h
  ·rename_i hm;simp only [hm]
 ·rfl
theorem QF {f g : lZ} (h : LeC f g) {kd : Kd} {s : St} {x : AV × St × Fq} (e : gq c f kd s = some x) : gq c g kd s = some x := by
 unfold gq at e ⊢;cases hm : q8 c f s kd with
 | none =>
   rw [hm] at e;rw [xR hm g];obtain ⟨v,s1,fl⟩ := x;rcases js e with e | e
   ·exact qi (QE h e)
   ·obtain ⟨n,args,H,r,H',h1,h2⟩ := Ri e;exact Gy (h2 g (h _ _ _ _ h1))
 | some r =>
   rw [hm] at e;simp only at e;subst e;obtain ⟨n,args,H,r,H',h1,h2⟩ := IU hm;rw [h2 g (h _ _ _ _ h1)]
theorem Gz {f g : lZ} (h : LeC f g) {kd : Kd} {s : St} {x : AV × St × Fq} (e : dA c f kd s = some x) : dA c g kd s = some x := by
 unfold dA at e ⊢;cases hi : oP c s kd with
 | some r => rw [hi] at e; exact e
 | none =>
   rw [hi] at e;cases hl : l7 c f s kd with
   | none => rw [hl] at e; rw [FW hl g]; exact QF h e
   | some r =>
     rw [hl] at e;simp only at e;subst e;rw [abF h hl]
theorem Fw {f g : lZ} {s : St} {kd : Kd} (h : lM kd = false) : fH c f s kd = fH c g s kd := by
 cases kd <;> first | rfl | (simp [lM] at h)
theorem KO {f g : lZ} (h : LeC f g) {kd : Kd} {s : St} {x : AV × St × Fq} (e : fH c f s kd = some x) : fH c g s kd = some x := by
 cases hk : lM kd with
 | false => rw [<- Fw (f := f) hk]; exact e
 | true =>
   cases kd <;> simp [lM] at hk
   ·simp only [fH] at e ⊢; exact Gz h e
   ·simp only [fH] at e ⊢; exact Gz h e
theorem Ds {f g : lZ} (h : LeC f g) {s : St} {o : O} {x : St × Fq} (e : qH c f s o = some x) : qH c g s o = some x := by
 have op : ∀ {y : AV × St × Fq} {K : AV × St × Fq -> Option (St × Fq)},fH c f s o.kd = some y -> fH c g s o.kd = some y := fun h' => KO h h';rw [uy] at e ⊢;cases hv : Ch c f s o with
 | none => rw [hv] at e; cases e
 | some y =>
   have : Ch c g s o = some y := by
    unfold Ch at hv ⊢;split at hv
    ·exact KO h hv
    ·split at hv
     ·split at hv
      ·rename_i hb; simp only [hb,if_true]; exact KO h hv
      ·rename_i hb; simp only [hb,if_false]; exact hv
     ·exact hv
     ·cases hv
   rw [hv] at e;rw [this];exact e
theorem CR {f g : lZ} (h : LeC f g) : ∀ {os : List O} {s : St} {x : St × List Fq},lI c f os s = some x -> lI c g os s = some x
 | [],s,x,e => e
 | o :: r,s,x,e => by
   simp only [lI] at e ⊢;split at e
   case h_2 => cases e
   rename_i s1 fl h1;rw [Ds h h1];simp only;split at e
   case h_2 => cases e
   rename_i s2 oR h2;rw [CR h h2];exact e
def LeR (f g : Nat -> C -> St -> Option (Ex × St)) : Prop := ∀ b cd s x,f b cd s = some x -> g b cd s = some x
theorem GM {f g : Nat -> C -> St -> Option (Ex × St)} (h : LeR f g) : LeC (lX c f) (lX c g) := by
 intro n a H r e;unfold lX at e ⊢;split at e
 ·exact e
 split at e
 ·cases e
 split at e
 case isFalse => cases e
 rename_i md fn hf hl;simp only [hl,if_true];split at e
 ·rename_i s' hs; rw [h _ _ _ _ hs]; exact e
 ·rename_i s' hs; rw [h _ _ _ _ hs]; exact e
 ·cases e
theorem GF : ∀ n,LeR (cT c n) (cT c (n + 1))
 | 0 => fun b cd s x e => by simp [cT] at e
 | n + 1 => by
   have ih := GF n;intro b cd s x e;unfold cT at e ⊢;cases cd with
   | skip => exact e
   | ret => exact e
   | exit i => exact e
   | aO os dr un keep =>
     simp only at e ⊢;split at e
     case h_2 => cases e
     rename_i s' oR hs;rw [CR (GM ih) hs];exact e
   | seq a b' =>
     simp only at e ⊢;cases h1 : cT c n b a s with
     | none => rw [h1] at e; cases e
     | some y =>
       obtain ⟨ex,s1⟩ := y;rw [h1] at e;rw [ih _ _ _ _ h1];cases ex with
       | normal => exact ih _ _ _ _ e
       | exit i => exact e
       | ret => exact e
   | cond y a b' =>
     simp only at e ⊢;split at e
     ·rename_i t ht;split at e
      ·rename_i h1; simp only [h1,if_true]; exact ih _ _ _ _ e
      ·rename_i h1; simp only [h1,if_false,bn]; exact ih _ _ _ _ e
     ·cases e
   | aN i b' =>
     simp only at e ⊢;cases h1 : cT c n b b' s with
     | none => rw [h1] at e; cases e
     | some y =>
       rw [h1] at e;rw [ih _ _ _ _ h1];exact e
   | loop b' =>
     simp only at e ⊢;cases h1 : cT c n b b' s with
     | none => rw [h1] at e; cases e
     | some y =>
       obtain ⟨ex,s1⟩ := y;rw [h1] at e;rw [ih _ _ _ _ h1];cases ex with
       | normal => exact ih _ _ _ _ e
       | exit i => exact e
       | ret => exact e
theorem qk {n m : Nat} (h : n <= m) : LeR (cT c n) (cT c m) := by
 induction h with
 | refl => exact fun _ _ _ _ e => e
 | step _ ih => exact fun b cd s x e => GF _ b cd s x (ih b cd s x e)
open Classical in
noncomputable def aW (c : eE) (b : Nat) (cd : C) (s : St) : Option (Ex × St) := if h : ∃ n x,cT c n b cd s = some x then some (yB (ju h)) else none
theorem cX {b : Nat} {cd : C} {s : St} {x : Ex × St} : aW c b cd s = some x ↔ ∃ n,cT c n b cd s = some x := by
 unfold aW;constructor
 ·intro e;split at e
  ·rename_i h;have := ju (ju h);exact ⟨_,dn e ▸ this⟩
  ·cases e
 ·rintro ⟨n,e⟩;have h : ∃ n x,cT c n b cd s = some x := ⟨n,x,e⟩;rw [dif_pos h];have := ju (ju h);have h1 := qk (vQ n (yB h)) _ _ _ _ e;have h2 := qk (ue n (yB h)) _ _ _ _ this;rw [h1] at h2;cases h2;rfl
noncomputable def br (c : eE) (f : Nat) (args : List AV) (H : Heap) : Option (AV × Heap) := lX c (aW c) f args H
theorem lf (n : Nat) : LeR (cT c n) (aW c) := fun b cd s x e => cX.2 ⟨n,e⟩
theorem wH (n : Nat) : LeC (gI c n) (br c) := GM (lf n)
theorem dD {f : Nat} {args : List AV} {H : Heap} {r : AV × Heap} : br c f args H = some r ↔ ∃ n,gI c n f args H = some r := by
 constructor
 ·intro e;unfold br lX at e;split at e
  case h_1 =>
   rename_i g hg;exact ⟨0,by unfold gI lX; rw [hg]; exact e⟩
  rename_i ho;split at e
  ·cases e
  rename_i md fn hf;split at e
  case isFalse => cases e
  rename_i hl;split at e
  ·rename_i s' hs;obtain ⟨n,hn⟩ := cX.1 hs;exact ⟨n,by unfold gI lX; simp only [ho,hf,hl,if_true,hn]; exact e⟩
  ·rename_i s' hs;obtain ⟨n,hn⟩ := cX.1 hs;exact ⟨n,by unfold gI lX; simp only [ho,hf,hl,if_true,hn]; exact e⟩
  ·cases e
 ·rintro ⟨n,e⟩;exact wH n _ _ _ _ e
theorem OB {n m : Nat} (h : n <= m) : LeC (gI c n) (gI c m) := GM (qk h)
theorem Tv {s : St} {kd : Kd} {x : AV × St × Fq} : fH c (br c) s kd = some x ↔ ∃ n,fH c (gI c n) s kd = some x := by
 constructor
 ·intro e;cases hk : lM kd with
  | false => exact ⟨0,by rw [Fw (g := br c) hk]; exact e⟩
  | true =>
    have key0 : ∀ {kd : Kd},dU c (br c) kd s = some x -> ∃ n,dU c (gI c n) kd s = some x := by
     intro kd e;unfold dU at e;split at e
     ·cases e
     rename_i f args ha;split at e
     ·cases e
     rename_i md q hf;split at e
     ·rename_i hm;split at e
      ·cases e
      rename_i qU hz;split at e
      case h_2 => cases e
      rename_i r H' hc;obtain ⟨n,hn⟩ := dD.1 hc;refine ⟨n,?_⟩;unfold dU;simp only [ha,hf,hm,if_true,hz,hn];exact e
     ·rename_i hm;split at e
      ·cases e
      rename_i f1 nO NY;split at e
      case isFalse => cases e
      rename_i Zy;split at e
      ·rename_i jG;split at e
       case isFalse => cases e
       rename_i hp;split at e
       case h_2 => cases e
       rename_i r H' hc;obtain ⟨n,hn⟩ := dD.1 hc;refine ⟨n,?_⟩;unfold dU;rw [ha];simp only [hf];rw [if_neg hm,NY];simp only;rw [if_pos Zy,if_pos jG,if_pos hp,hn];exact e
      ·rename_i jG;split at e
       case isFalse => cases e
       rename_i hp;split at e
       case h_2 => cases e
       rename_i r H' hc;obtain ⟨n,hn⟩ := dD.1 hc;refine ⟨n,?_⟩;unfold dU;rw [ha];simp only [hf];rw [if_neg hm,NY];simp only;rw [if_pos Zy,if_neg jG,if_pos hp,hn];exact e
    have key1 : ∀ {kd : Kd},gq c (br c) kd s = some x -> ∃ n,gq c (gI c n) kd s = some x := by
     intro kd e;unfold gq at e ⊢;cases hm : q8 c (br c) s kd with
     | none =>
       rw [hm] at e;obtain ⟨v,s1,fl⟩ := x;rcases js e with e | e
       ·obtain ⟨n,hn⟩ := key0 e;exact ⟨n,by rw [xR hm]; exact qi hn⟩
       ·obtain ⟨m,args,H,r,H',h1,h2⟩ := Ri e;obtain ⟨n,hn⟩ := dD.1 h1;exact ⟨n,by rw [xR hm]; exact Gy (h2 _ hn)⟩
     | some r =>
       rw [hm] at e;simp only at e;subst e;obtain ⟨m,args,H,r,H',h1,h2⟩ := IU hm;obtain ⟨n,hn⟩ := dD.1 h1;exact ⟨n,by rw [h2 _ hn]⟩
    have key : ∀ {kd : Kd},dA c (br c) kd s = some x -> ∃ n,dA c (gI c n) kd s = some x := by
     intro kd e;unfold dA at e ⊢;cases hi : oP c s kd with
     | some r => rw [hi] at e; exact ⟨0,e⟩
     | none =>
       rw [hi] at e;cases hl : l7 c (br c) s kd with
       | none =>
         rw [hl] at e;obtain ⟨n,hn⟩ := key1 e;exact ⟨n,by rw [FW hl]; exact hn⟩
       | some r =>
         rw [hl] at e;simp only at e;subst e;obtain ⟨m,args,H,r,H',h1,h2⟩ := T0 (v := x.1) (s1 := x.2.1) (fl := x.2.2) hl;obtain ⟨n,hn⟩ := dD.1 h1;exact ⟨n,by rw [h2 _ hn]⟩
    cases kd <;> simp [lM] at hk
    ·simp only [fH] at e ⊢; exact key e
    ·simp only [fH] at e ⊢; exact key e
 ·rintro ⟨n,e⟩;exact KO (wH n) e
theorem Vq {s : St} {o : O} {x : St × Fq} : qH c (br c) s o = some x ↔ ∃ n,qH c (gI c n) s o = some x := by
 constructor
 ·intro e;rw [uy] at e;cases hv : Ch c (br c) s o with
  | none => rw [hv] at e; cases e
  | some y =>
    have : ∃ n,Ch c (gI c n) s o = some y := by
     unfold Ch at hv ⊢;split at hv
     ·obtain ⟨n,hn⟩ := Tv.1 hv;exact ⟨n,hn⟩
     ·split at hv
      ·split at hv
       ·rename_i hb;obtain ⟨n,hn⟩ := Tv.1 hv;exact ⟨n,by simp only [hb,if_true]; exact hn⟩
       ·rename_i hb; exact ⟨0,by simp only [hb,if_false]; exact hv⟩
      ·exact ⟨0,hv⟩
      ·cases hv
    obtain ⟨n,hn⟩ := this;refine ⟨n,?_⟩;rw [hv] at e;rw [uy,hn];exact e
 ·rintro ⟨n,e⟩;exact Ds (wH n) e
theorem Fu : ∀ {os : List O} {s : St} {x : St × List Fq},lI c (br c) os s = some x ↔ ∃ n,lI c (gI c n) os s = some x
 | [],s,x => ⟨fun e => ⟨0,e⟩,fun ⟨_,e⟩ => e⟩
 | o :: r,s,x => by
   constructor
   ·intro e;simp only [lI] at e;split at e
    case h_2 => cases e
    rename_i s1 fl h1;split at e
    case h_2 => cases e
    rename_i s2 oR h2;obtain ⟨n,hn⟩ := Vq.1 h1;obtain ⟨m,hm⟩ := Fu.1 h2;refine ⟨max n m,?_⟩;simp only [lI];rw [Ds (OB (vQ n m)) hn];simp only;rw [CR (OB (ue n m)) hm];exact e
   ·rintro ⟨n,e⟩;exact CR (wH n) e
theorem zo {α : Type} {a b : Option α} (h : ∀ x,a = some x ↔ b = some x) : a = b := by
 cases a with
 | none => cases b with
   | none => rfl
   | some y => exact ((h y).2 rfl)
 | some x => exact ((h x).1 rfl).symm
variable {b : Nat} {s : St}
theorem kT : aW c b .skip s = some (.normal,s) := cX.2 ⟨1,rfl⟩
theorem Jy : aW c b .ret s = some (.ret,s) := cX.2 ⟨1,rfl⟩
theorem yd {i : Nat} : aW c b (.exit i) s = some (.exit i,s) := cX.2 ⟨1,rfl⟩
noncomputable def uu (c : eE) (b : Nat) (y : C) : Option (Ex × St) -> Option (Ex × St)
 | some (.normal,s') => aW c b y s'
 | r => r
def regL (dr : Bool) (os : List O) (un : List (Nat × Nat)) (base : Nat) (keep : List Nat) : Option (St × List Fq) -> Option (Ex × St)
 | some (s',oR) => if dr = false \/ Ju os oR un = true then (match QC base keep s' with
   | some s2 => some (.normal,s2)
   | none => none) else none
 | none => none
def WH (i : Nat) : Option (Ex × St) -> Option (Ex × St)
 | some (.exit j,s') => if j = i then some (.normal,s') else some (.exit j,s')
 | r => r
theorem cQ {x y : C} : aW c b (.seq x y) s = uu c b y (aW c b x s) := by
 apply zo;intro z;constructor
 ·intro e;obtain ⟨n,hn⟩ := cX.1 e;cases n with
  | zero => simp [cT] at hn
  | succ n =>
    simp only [cT] at hn;cases h1 : cT c n b x s with
    | none => rw [h1] at hn; cases hn
    | some w =>
      obtain ⟨ex,s1⟩ := w;rw [h1] at hn;rw [lf n _ _ _ _ h1];cases ex with
      | normal => exact lf n _ _ _ _ hn
      | exit i => exact hn
      | ret => exact hn
 ·intro e;cases h1 : aW c b x s with
  | none => rw [h1] at e; cases e
  | some w =>
    obtain ⟨ex,s1⟩ := w;rw [h1] at e;obtain ⟨n,hn⟩ := cX.1 h1;cases ex with
    | normal =>
      obtain ⟨m,hm⟩ := cX.1 e;refine cX.2 ⟨max n m + 1,?_⟩;simp only [cT];rw [qk (vQ n m) _ _ _ _ hn];exact qk (ue n m) _ _ _ _ hm
    | exit i => exact cX.2 ⟨n + 1,by simp only [cT]; rw [hn]; exact e⟩
    | ret => exact cX.2 ⟨n + 1,by simp only [cT]; rw [hn]; exact e⟩
theorem qj {x : C} : aW c b (.loop x) s = uu c b (.loop x) (aW c b x s) := by
 apply zo;intro z;constructor
 ·intro e;obtain ⟨n,hn⟩ := cX.1 e;cases n with
  | zero => simp [cT] at hn
  | succ n =>
    simp only [cT] at hn;cases h1 : cT c n b x s with
    | none => rw [h1] at hn; cases hn
    | some w =>
      obtain ⟨ex,s1⟩ := w;rw [h1] at hn;rw [lf n _ _ _ _ h1];cases ex with
      | normal => exact lf n _ _ _ _ hn
      | exit i => exact hn
      | ret => exact hn
 ·intro e;cases h1 : aW c b x s with
  | none => rw [h1] at e; cases e
  | some w =>
    obtain ⟨ex,s1⟩ := w;rw [h1] at e;obtain ⟨n,hn⟩ := cX.1 h1;cases ex with
    | normal =>
      obtain ⟨m,hm⟩ := cX.1 e;refine cX.2 ⟨max n m + 1,?_⟩;simp only [cT];rw [qk (vQ n m) _ _ _ _ hn];exact qk (ue n m) _ _ _ _ hm
    | exit i => exact cX.2 ⟨n + 1,by simp only [cT]; rw [hn]; exact e⟩
    | ret => exact cX.2 ⟨n + 1,by simp only [cT]; rw [hn]; exact e⟩
theorem sr {i : Nat} {x : C} : aW c b (.aN i x) s = WH i (aW c b x s) := by
 apply zo;intro z;constructor
 ·intro e;obtain ⟨n,hn⟩ := cX.1 e;cases n with
  | zero => simp [cT] at hn
  | succ n =>
    simp only [cT] at hn;cases h1 : cT c n b x s with
    | none => rw [h1] at hn; cases hn
    | some w => rw [h1] at hn; rw [lf n _ _ _ _ h1]; exact hn
 ·intro e;cases h1 : aW c b x s with
  | none => rw [h1] at e; cases e
  | some w =>
    obtain ⟨n,hn⟩ := cX.1 h1;rw [h1] at e;exact cX.2 ⟨n + 1,by simp only [cT]; rw [hn]; exact e⟩
theorem QM {v : E} {t : Bool} {x y : C} (h : bt c s.env v = .bool t) : aW c b (.cond v x y) s = if t then aW c b x s else aW c b y s := by
 apply zo;intro z;constructor
 ·intro e;obtain ⟨n,hn⟩ := cX.1 e;cases n with
  | zero => simp [cT] at hn
  | succ n =>
    simp only [cT,h] at hn;cases t with
    | true => exact lf n _ _ _ _ hn
    | false => exact lf n _ _ _ _ hn
 ·intro e;cases t with
  | true => obtain ⟨n,hn⟩ := cX.1 e; exact cX.2 ⟨n + 1,by simp only [cT,h]; exact hn⟩
  | false => obtain ⟨n,hn⟩ := cX.1 e; exact cX.2 ⟨n + 1,by simp only [cT,h]; exact hn⟩
theorem Jz {os : List O} {dr : Bool} {un : List (Nat × Nat)} {keep : List Nat} : aW c b (.aO os dr un keep) s = regL dr os un b keep (lI c (br c) os s) := by
 apply zo;intro z;constructor
 ·intro e;obtain ⟨n,hn⟩ := cX.1 e;cases n with
  | zero => simp [cT] at hn
  | succ n =>
    simp only [cT] at hn;split at hn
    case h_2 => cases hn
    rename_i s' oR h1;rw [Fu.2 ⟨n,h1⟩];exact hn
 ·intro e;cases h1 : lI c (br c) os s with
  | none => rw [h1] at e; cases e
  | some w =>
    obtain ⟨n,hn⟩ := Fu.1 h1;rw [h1] at e;refine cX.2 ⟨n + 1,?_⟩;simp only [cT];have OV : lI c (lX c (cT c n)) os s = some w := hn;rw [OV];exact e
theorem aai {f : Nat} {md : Md} {q : fK} {args : List AV} {H : Heap} (ho : c.orc f = none) (hf : c.fn f = some (md,q)) (hl : args.length <= q.n) : br c f args H = (match aW c H.length q.body ⟨ep 0 args,H⟩ with
  | some (.ret,s) => (match oW c s q.res with
    | some vs => bq md H.length s (nt vs)
    | none => none)
  | some (.normal,s) => (match oW c s q.res with
    | some vs => bq md H.length s (nt vs)
    | none => none)
  | _ => none) := by
 unfold br lX;simp only [KN,ho,hf,hl,if_true];generalize aW c H.length q.body ⟨ep 0 args,H⟩ = z;cases z with
 | none => rfl
 | some w =>
   obtain ⟨e,s⟩ := w;cases e <;> rfl
end
end Go.Bm

/- Arguments that came in, by value; answers that are bools. -/
namespace Go.Am
open Go.ChangeShapes Go.WideShapes
def aeN (k : IntKind) (w : World) (a : Option Addr) (len cap : Nat) (zs : List Int) : Prop :=
 (a = none /\ len = 0 /\ cap = 0 /\ zs = []) \/
 ∃ x,a = some x /\ len <= cap /\ cap <= maxLen /\ zs.length = cap /\ (∀ i,i < zs.length -> w.cell? (x.add i) = some (.int k (zs.getD i 0))) /\ ∀ n ∈ zs,(Lit.int k n).wf = true
theorem ae0 {k : IntKind} {w : World} {a : Option Addr} {len cap : Nat} {zs : List Int} (h : aeN k w a len cap zs) : bT (Rd (fun _ => False) [] w) [] (.list 1 ((zs.take len).map (AV.int k))) (.slice a len cap) := by
 rcases h with ⟨rfl,rfl,rfl,rfl⟩ | ⟨x,rfl,hl,hm,hz,mq,hwz⟩
 ·exact .j8 _ _
 ·refine .mI _ 1 _ x len cap (fun i _ => .int k (zs.getD i 0)) (by simp; omega) hl ?_ ?_ ?_
  ·intro y hy;obtain ⟨n,_,rfl⟩ := List.mem_map.mp hy;rfl
  ·intro i j y c hy hc;have hi : i < ((zs.take len).map (AV.int k)).length := (List.getElem?_eq_some_iff.mp hy).1;simp at hi;rw [cq] at hy;cases Hy : (zs.take len)[i]? with
   | none => rw [Hy] at hy; cases hy
   | some n =>
     rw [Hy] at hy;cases hy;cases j with
     | succ j => simp [AV.cells] at hc
     | zero => exact ⟨id,bQ.nil _,by simpa using mq i (by omega)⟩
  ·intro i j y c hy hc;rw [cq] at hy;cases Hy : (zs.take len)[i]? with
   | none => rw [Hy] at hy; cases hy
   | some n =>
     rw [Hy] at hy;cases hy;cases j with
     | succ j => simp [AV.cells] at hc
     | zero =>
       simp [AV.cells] at hc;subst hc
       have e : zs.getD i 0 = n := by
        rw [bF] at Hy;split at Hy
        ·simp [List.getD,Hy]
        ·cases Hy
       rw [e];exact .int _ _ _
theorem sJ.nil {X : Nat -> Prop} {φ : dy} {w : World} : sJ X φ w [] #[] := ⟨rfl,fun i x v h => by simp at h⟩
theorem sJ.cons {X : Nat -> Prop} {φ : dy} {w : World} {x : AV} {v : Value} {xs : List AV} {vs : List Value} (h : bT (Rd X φ w) φ x v) (r : sJ X φ w xs vs.toArray) : sJ X φ w (x :: xs) (v :: vs).toArray := by
 obtain ⟨r1,r2⟩ := r;refine ⟨by simpa using r1,fun i y u hy hu => ?_⟩;cases i with
 | zero =>
   simp at hy hu;subst hy hu;exact h
 | succ i =>
   refine r2 i y u (by simpa using hy) (by simpa using hu)
theorem Mt {R : Addr -> Value -> Prop} {φ : dy} {b : Bool} {v : Value} (h : bT R φ (.bool b) v) : v = .bool b := by cases h; rfl
end Go.Am
namespace Go.Bm
open Go.Am
theorem OA {P : Program} {c : eE} (dg : fE P c) (oQ : vP P c) (vq : vL P c) {f : Nat} {md : Md} {q : fK} (hf : c.fn f = some (md,q)) (jG : md.sh = false) {args : List AV} {b : Bool} {H' : Heap} (h : br c f args [] = some (.bool b,H')) (hz : gz args = true) {w : World} {vargs : Array Value}
  (ha : sJ (fun _ => False) [] w args vargs) (hg : Am.dZ (iO c) (fun _ => False) [] w) : Calls P f vargs w (fun e w' => e = .returned (.bool b) /\ RowKit.Below w.heap.size w w') := by
 obtain ⟨n,hn⟩ := dD.1 h;refine (aah dg oQ vq hf jG hz hn rfl ha hg).mono ?_;rintro e w' ⟨v,rfl,hr,hb⟩;rw [Mt hr];exact ⟨rfl,hb⟩
theorem ZI {c : eE} {g0 : Nat} {k : IntKind} {zs : List Int} (h : ∀ g,c.gl g = if g = g0 then zs.map (AV.int k) else []) {w : World} (hc : ∀ i,(hi : i < zs.length) -> w.cell? ⟨g0,i,none⟩ = some (.int k zs[i])) : Am.dZ (iO c) (fun _ => False) [] w := by
 intro g;show bT _ [] (.dw (c.gl g)) _;rw [h g];split
 ·rename_i e;subst e;refine .dw _ _ _ (fun j => .int k (zs.getD j 0)) (fun j d hj => ?_) (fun j d hj => ?_)
  ·rw [cq] at hj;cases e : zs[j]? with
   | none => rw [e] at hj; cases hj
   | some z =>
     have bL := aA e;refine ⟨id,bQ.nil _,?_⟩;rw [Addr.jd,Nat.zero_add,hc j bL,aI,e,<- aB bL |>.symm.trans e |> dn];rfl
  ·rw [cq] at hj;cases e : zs[j]? with
   | none => rw [e] at hj; cases hj
   | some z =>
     rw [e] at hj;simp at hj;subst hj;rw [aI,e];exact .int _ _ _
 ·exact .dw _ _ _ (fun _ => undef) (fun j c hj => by simp at hj) (fun j c hj => by simp at hj)
end Go.Bm

/- Calls that are known ahead: a table of runs, each proved by itself. -/
namespace Go.Bm
open Go.Am
structure Fact where
 f : Nat
 args : List AV
 H : Heap
 r : AV
 H' : Heap
end Go.Bm
