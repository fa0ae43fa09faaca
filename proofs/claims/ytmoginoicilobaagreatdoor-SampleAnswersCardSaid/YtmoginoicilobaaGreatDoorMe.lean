/- The machine by value: open orders, shared boxes; the whole. -/
import Derived.Test.YtmoginoicilobaaGreatDoorMd
import Derived.ProofKit
import Derived.WalkKit
import Derived.OpenShut
/- What a pure operation answers depends on the slots it reads. -/
set_option linter.unusedSimpArgs false
set_option linter.unusedVariables false
open Array renaming getD_eq_getD_getElem? → aZ, replicate → pq
open Bool renaming and_eq_true → aa, false_eq_true → bO, not_eq_true' → bD, or_eq_false_iff → eM, or_eq_true → eX
open Classical renaming choose → yJ, choose_spec → jJ
open List renaming getD_eq_getElem?_getD → bk, getElem?_drop → aS, getElem?_eq_getElem → af, getElem?_eq_none → dz, getElem?_map → cU, getElem?_of_mem → bA, head?_eq_getElem? → tZ, isEmpty_iff → eG, length_set → dc, mem_append → aD, mem_append_left → Qu, mem_append_right → Og, mem_cons → aX, mem_of_getElem? → aW, mem_of_mem_drop → cQ, mem_of_mem_take → cP, mem_singleton → cq, range → wW, set_append_left → Qs
open Nat renaming le_max_left → vV, le_max_right → tR, le_refl → ba
open Option renaming isSome_iff_exists → aU, map_some → cT
open Option.some renaming inj → bU, injEq → ai
open Prod.mk renaming injEq → aF
namespace Go.Bm
open Go.Am
section
variable {P : Program} {c : dR} {call : Nat -> List AV -> Heap -> Option (AV × Heap)}
theorem bT {e1 e2 : Env} {x : E} (h : ∀ i ∈ x.slot,ep i (get e1 i) = ep i (get e2 i)) : bp c e1 x = bp c e2 x := by
 cases x with
 | t i => exact h i (by simp [E.slot])
 | k x => rfl
 | g i => rfl
theorem fy {e1 e2 : Env} : ∀ {xs : List E},(∀ i ∈ mM xs,ep i (get e1 i) = ep i (get e2 i)) -> dt c e1 xs = dt c e2 xs
 | [],_ => rfl
 | x :: r,h => by
   simp only [mM,aD] at h;simp only [dt];rw [bT fun i hi => h i (.inl hi),fy fun i hi => h i (.inr hi)]
theorem qF {e1 e2 : Env} : ∀ {ps : List (Nat × Nat × E)} {zs : List AV},(∀ i ∈ py ps,ep i (get e1 i) = ep i (get e2 i)) -> oT c e1 zs ps = oT c e2 zs ps
 | [],_,_ => by simp [oT]
 | (o,s,x) :: r,zs,h => by
   simp only [py,aD] at h;simp only [oT];rw [bT (c := c) fun i hi => h i (.inl hi)];split
   ·exact qF fun i hi => h i (.inr hi)
   ·rfl
theorem pD {e1 e2 : Env} : ∀ {ps : List (Nat × Nat × E)},(∀ i ∈ py ps,ep i (get e1 i) = ep i (get e2 i)) -> fF c e1 ps = fF c e2 ps
 | [],_ => by simp [fF]
 | (o,s,x) :: r,h => by
   simp only [py,aD] at h;simp only [fF];rw [bT (c := c) fun i hi => h i (.inl hi),pD fun i hi => h i (.inr hi)]
theorem yB {e1 e2 : Env} {d m : Nat} {x : Option E} (h : ∀ i ∈ HK x,ep i (get e1 i) = ep i (get e2 i)) : yC c e1 d m x = yC c e2 d m x := by
 cases x with
 | none => rfl
 | some x => simp only [yC]; rw [bT h]
theorem Iq {e1 e2 : Env} {kd : Kd} (h : ∀ i ∈ kd.reads,ep i (get e1 i) = ep i (get e2 i)) : Pc c e1 kd = Pc c e2 kd := by
 cases kd <;> simp only [Kd.reads,aD] at h <;> simp only [Pc]
 case pick x y z => rw [bT (c := c) fun i hi => h i (.inl hi),bT (c := c) fun i hi => h i (.inr (.inl hi)),bT (c := c) fun i hi => h i (.inr (.inr hi))]
 case build => rw [qF (c := c) h]
 case GY k x lo hi => rw [bT (c := c) fun i hi => h i (.inl hi)]; simp only [yB (c := c) fun i hi => h i (.inr (.inl hi)),yB (c := c) fun i hi => h i (.inr (.inr hi))]
 case Hw n x u => rw [bT (c := c) fun i hi => h i (.inl hi)]
 case min => rw [fy (c := c) h]
 case max => rw [fy (c := c) h]
 case MK => rw [fy (c := c) fun i hi => h i (.inl hi),fy (c := c) fun i hi => h i (.inr hi)]
 all_goals first
  | rfl
  | rw [bT (c := c) h]
  | rw [bT (c := c) fun i hi => h i (.inl hi),bT (c := c) fun i hi => h i (.inr hi)]
theorem F5 {e1 e2 : Env} {kd : Kd} (h : ∀ i ∈ kd.reads,ep i (get e1 i) = ep i (get e2 i)) : nV c e1 kd = nV c e2 kd := by
 cases kd <;> simp only [nV]
 case call => rw [fy (c := c) h]
 case jm =>
  simp only [Kd.reads,aD] at h;rw [bT (c := c) fun i hi => h i (.inl hi),fy (c := c) fun i hi => h i (.inr hi)]
theorem iQ {e1 e2 : Env} {kd : Kd} (h : ∀ i ∈ kd.reads,ep i (get e1 i) = ep i (get e2 i)) : getArgs c e1 kd = getArgs c e2 kd := by
 unfold getArgs;rw [F5 h]
def Seen (ps : List Rt) (s t : St) : Prop := ∀ p ∈ ps,av t p = av s p /\ ∀ b l,p = .c b l -> aJ t.H b = aJ s.H b
theorem O6 {s t : St} {ag : Option Nat} {x v : AV} {ps : List Rt} (h : ya s ag x = some (v,ps)) (hs : Seen ps s t) : ya t ag x = some (v,ps) := by
 unfold ya at h ⊢;split at h
 ·exact h
 ·rename_i b off;split at h
  case h_2 => cases h
  rename_i cs hb;split at h
  case h_2 => cases h
  rename_i u hu;simp only [ai,aF] at h;obtain ⟨rfl,rfl⟩ := h;have := (hs _ (cq.2 rfl)).2 b _ rfl;simp only [this,hb,hu]
 ·rename_i k p i off;split at h
  case h_2 => cases h
  rename_i k' xs ho;split at h
  case isFalse => cases h
  rename_i hk;split at h
  case h_2 => cases h
  rename_i y hy;split at h
  case h_2 => cases h
  rename_i u hu;simp at h;obtain ⟨rfl,rfl⟩ := h;have := (hs p (by simp)).1;simp only [this,ho,hk,if_true,hy,hu]
 ·cases h
def pX (b j : Nat) (s t : St) : Prop := ∀ cs,aJ s.H b = some cs -> ∃ ds,aJ t.H b = some ds /\ (dZ (.c b) 0 ds)[j]? = (dZ (.c b) 0 cs)[j]?
def xl (f : Fq) (s t : St) : Prop := (∀ ps,f = .rd ps -> Seen ps s t) /\ ∀ b j,f = .rc b j -> pX b j s t
theorem sR (f : Nat -> Rt) : ∀ {cs ds : List AV} {j i : Nat},cs[i]? = ds[i]? -> (dZ f j cs)[i]? = (dZ f j ds)[i]?
 | [],[],_,_,_ => rfl
 | [],d :: ds,j,0,h => by simp at h
 | c :: cs,[],j,0,h => by simp at h
 | [],d :: ds,j,i + 1,h => by
   have := sR f (cs := []) (ds := ds) (j := j + 1) (i := i) (by simpa using h);cases d <;> simpa [dZ] using this
 | c :: cs,[],j,i + 1,h => by
   have := sR f (cs := cs) (ds := []) (j := j + 1) (i := i) (by simpa using h);cases c <;> simpa [dZ] using this
 | c :: cs,d :: ds,j,0,h => by
   simp at h;subst h;cases c <;> simp [dZ]
 | c :: cs,d :: ds,j,i + 1,h => by
   have := sR f (cs := cs) (ds := ds) (j := j + 1) (i := i) (by simpa using h);cases c <;> cases d <;> simpa [dZ] using this
theorem aaC {ag : Option Nat} {cs ds : List AV} {k : Nat} {p : Rt} {o l : Nat} (h : JV ag cs = some (.c8 k p o l)) (e : ds[0]? = cs[0]?) : JV ag ds = some (.c8 k p o l) := by
 unfold JV Ay at h ⊢;cases ag with
 | some n => simp only at h ⊢; (repeat' split at h) <;> simp_all
 | none =>
   simp only at h ⊢;have : ds.head? = cs.head? := by rw [tZ,tZ]; exact e
   rw [this]; exact h
theorem Uv {s t : St} {ag : Option Nat} {x v : AV} {ps : List Rt} (h : ya s ag x = some (v,ps)) (hs : xl (vp x v ps) s t) : ya t ag x = some (v,ps) := by
 by_cases hx : ∃ b off k o l,x = .ptr b off /\ v = .c8 k (.c b off) o l
 ·obtain ⟨b,off,k,o,l,rfl,rfl⟩ := hx;have hs' := hs.2 b off (by simp [vp]);unfold ya at h ⊢;simp only at h ⊢;split at h
  case h_2 => cases h
  rename_i cs hb;split at h
  case h_2 => cases h
  rename_i u hu;simp only [ai,aF] at h;obtain ⟨rfl,h2⟩ := h;obtain ⟨ds,d1,d2⟩ := hs' cs hb
  have : JV ag ((dZ (.c b) 0 ds).drop off) = some (.c8 k (.c b off) o l) := aaC hu (by
   rw [aS,aS];simpa using d2)
  simp only [d1,this,h2]
 ·refine O6 h (hs.1 ps ?_);unfold vp;split
  ·rename_i b off k d j o l;split
   ·rename_i hc;obtain ⟨rfl,rfl⟩ := hc;exact absurd ⟨_,_,_,_,_,rfl,rfl⟩ hx
   ·rfl
  ·rfl
end
end Go.Bm

/- Operations that change nothing that is there: what they answer depends on the slots they read and on the places they name. -/
namespace Go.Bm
open Go.Am
section
variable {P : Program} {c : dR} {call : Nat -> List AV -> Heap -> Option (AV × Heap)}
theorem Seen.left {ps qs : List Rt} {s t : St} (h : Seen (ps ++ qs) s t) : Seen ps s t := fun p hp => h p (by simp [hp])
theorem Seen.right {ps qs : List Rt} {s t : St} (h : Seen (ps ++ qs) s t) : Seen qs s t := fun p hp => h p (by simp [hp])
mutual
theorem F6 {b : Bool} {s t : St} : ∀ x,Seen (aK x) s t -> kY b t x = kY b s x
 | .c8 k p off len,h => by simp only [kY]; rw [(h p (by simp [aK])).1]
 | .agg cs,h => by simp only [kY]; rw [pJ cs (by simpa [aK] using h)]
 | .dp cs,h => by simp only [kY]; rw [pJ cs (by simpa [aK] using h)]
 | .func f a b',h => by
   have h' : Seen (cY a ++ cY b') s t := by simpa [aK] using h
   simp only [kY]; rw [pJ a h'.left,pJ b' h'.right]
 | .own _ _,_ => rfl
 | .ptr _ _,_ => rfl
 | .ez _ _ _ _,_ => rfl
 | .sl _ _ _ _,_ => rfl
 | .any,_ => rfl
 | .undef,_ => rfl
 | .bool _,_ => rfl
 | .int _ _,_ => rfl
 | .eP,_ => rfl
 | .eT,_ => rfl
 | .dn,_ => rfl
 | .str _,_ => rfl
 | .dh _,_ => rfl
 | .list _ _,_ => rfl
theorem pJ {b : Bool} {s t : St} : ∀ xs,Seen (cY xs) s t -> Dc b t xs = Dc b s xs
 | [],_ => rfl
 | x :: r,h => by
   have h' : Seen (aK x ++ cY r) s t := by simpa [cY] using h
   simp only [Dc]; rw [F6 x h'.left,pJ r h'.right]
end
theorem P8 {s t : St} {k : Nat} {x : AV} (h : Seen (aK x) s t) : cont t k x = cont s k x := by
 cases x <;> try rfl
 case c8 k' p off len => simp only [cont]; rw [(h p (by simp [aK])).1]
 case own k' xs => cases xs <;> rfl
theorem PW {s t : St} {k b off len : Nat} (h : Seen [.c b 1] s t) : Nv t k b off len = Nv s k b off len := by
 unfold Nv;rw [(h _ (cq.2 rfl)).2 b 1 rfl]
theorem F9 {s t : St} : ∀ xs,Seen (cY xs ++ DN xs) s t -> sT t xs = sT s xs
 | [],_ => rfl
 | x :: r,h => by
   have hb : Seen (aK x ++ cY r) s t := by simpa [cY] using h.left
   have hsl : Seen (DN r) s t := fun p hp => h p (aD.2 (.inr (by cases x <;> simp [DN,hp])));have ih := F9 r fun p hp => (aD.1 hp).elim (fun q => hb.right p q) (hsl p);have hx := F6 (b := false) x hb.left;cases x <;> try (simp only [sT]; rw [hx,ih]; done)
   case sl k b off len =>
    simp only [sT];rw [ih,PW fun p hp => h p (aD.2 (.inr (by simp [DN,cq.1 hp])))]
   case own k xs =>
    cases xs with
    | nil => simp only [sT]; rw [ih]
    | cons y ys => simp only [sT]; rw [hx,ih]
def calm : Fq -> Bool
 | .no | .rc _ _ | .rd _ | .al _ => true
 | _ => false
def yE (s s1 : St) (kd : Kd) (f : Fq) (v : AV) (g : St -> Option (AV × St × Fq)) : Prop :=
 ∃ T,s1 = ⟨s.env,s.H ++ T⟩ /\ (T = [] \/ ∃ z,T = [z] /\ f = .al s.H.length) /\ ∀ t : St,(∀ i ∈ kd.reads,ep i (get t.env i) = ep i (get s.env i)) -> xl f s t -> (∀ n,f = .al n -> t.H.length = n) -> g t = some (v,⟨t.env,t.H ++ T⟩,f)
theorem vo (x v : AV) (ps : List Rt) : vp x v ps = .rd ps \/ ∃ b j,vp x v ps = .rc b j := by
 unfold vp;split
 ·split
  ·exact .inr ⟨_,_,rfl⟩
  ·exact .inl rfl
 ·exact .inl rfl
theorem yE.still {s : St} {kd : Kd} {f : Fq} {v : AV} {g : St -> Option (AV × St × Fq)} (h : ∀ t : St,(∀ i ∈ kd.reads,ep i (get t.env i) = ep i (get s.env i)) -> xl f s t -> g t = some (v,t,f)) : yE s s kd f v g :=
 ⟨[],by simp,.inl rfl,fun t h1 h2 _ => by rw [h t h1 h2]; simp⟩
end
end Go.Bm

/- Every calm operation depends on what it names alone. -/
namespace Go.Bm
open Go.Am
section
variable {P : Program} {c : dR} {call : Nat -> List AV -> Heap -> Option (AV × Heap)}
theorem Wb {s s' : St} {b off k : Nat} {v : AV} {f : Fq} (h : wX s b off k v = some (s',f)) : calm f = false := by
 unfold wX at h
 repeat' split at h
 all_goals first
  | (cases h; done)
  | (simp at h; obtain ⟨_,rfl⟩ := h; rfl)
theorem Ox {s s' : St} {k : Nat} {a v : AV} {f : Fq} (h : N6 s k a v = some (s',f)) : calm f = false := by
 unfold N6 at h;split at h
 ·exact Wb h
 ·repeat' split at h
  all_goals first
   | (cases h; done)
   | (simp at h; obtain ⟨_,rfl⟩ := h; rfl)
 ·cases h
theorem wH (s : St) (l : List Rt) : mA s l = .all \/ ∃ sl bs,mA s l = .wr sl bs := by
 unfold mA;split
 ·split
  ·exact .inr ⟨_,_,rfl⟩
  ·exact .inl rfl
 ·exact .inl rfl
theorem CM (s : St) (l : List Rt) : calm (mA s l) = false := by rcases wH s l with e | ⟨_,_,e⟩ <;> rw [e] <;> rfl
theorem Bt (s : St) (l ps : List Rt) : (mA s l = .bo ps) = False := by rcases wH s l with e | ⟨_,_,e⟩ <;> rw [e] <;> simp
theorem wI (s : St) (l : List Rt) (n : Nat) : (mA s l = .al n) = False := by rcases wH s l with e | ⟨_,_,e⟩ <;> rw [e] <;> simp
theorem Bs (s : St) (l : List Rt) (n : Nat) : (mA s l = .lw n) = False := by rcases wH s l with e | ⟨_,_,e⟩ <;> rw [e] <;> simp
theorem ND {s s1 : St} {kd : Kd} {v : AV} {f : Fq} (h : dG c call kd s = some (v,s1,f)) (hf : calm f = true) : yE s s1 kd f v (dG c call kd) := by
 unfold dG at h;split at h
 ·cases h
 rename_i f0 args ha;split at h
 ·cases h
 rename_i md q hq;split at h
 ·rename_i hm;split at h
  ·cases h
  rename_i qJ hz;split at h
  case h_2 => cases h
  rename_i r H' hc;split at h
  case isFalse => cases h
  rename_i hr;simp at h;obtain ⟨rfl,rfl,rfl⟩ := h;refine .still fun t h1 h2 => ?_
  have hs : Seen (cY args ++ DN args) s t := by
   by_cases he : (cY args ++ DN args).isEmpty = true
   ·rw [eG.1 he]; intro p hp; simp at hp
   ·exact h2.1 _ (by simp [he] <;> simpa using he)
  unfold dG;rw [iQ h1,ha];simp only [hq,hm,if_true,F9 args hs,hz,hc,hr];simp
 ·rename_i hm;split at h
  ·cases h
  rename_i f1 nY Ns;split at h
  case isFalse => cases h
  rename_i Zb;split at h
  ·repeat' split at h
   all_goals first
    | (cases h; done)
    | (simp at h; obtain ⟨_,_,rfl⟩ := h; exfalso; simp [calm] at hf; done)
    | (simp at h; obtain ⟨_,_,rfl⟩ := h; exfalso; revert hf; split <;> simp [calm])
  ·rename_i jV;split at h
   case isFalse => cases h
   rename_i hp;split at h
   case h_2 => cases h
   rename_i r H' hc;split at h
   case isFalse => cases h
   rename_i hr;simp at h;obtain ⟨rfl,rfl,rfl⟩ := h
   have he : cY args = [] := by
    cases hb : cY args with
    | nil => rfl
    | cons x y => rw [hb] at hf; simp [CM] at hf
   rw [he] at Ns ⊢;simp only [dC] at Ns ⊢;refine .still fun t h1 h2 => ?_;unfold dG;rw [iQ h1,ha];simp only [hq,hm,he,dC,bO,if_false];rw [iQ h1,Ns];simp only [Zb,if_true,jV,hp,hc,hr,bO,if_false];simp
theorem wC {s : St} {kd : Kd} (h : oJ c s kd = none) (t : St) : oJ c t kd = none := by
 unfold oJ at h ⊢;split at h
 ·split at h
  ·rename_i f x es hi;split at h
   ·rename_i he; simp only [hi,he]
   ·cases h
  ·cases h
 ·rfl
theorem A9 {s : St} {kd : Kd} (h : mJ c call s kd = none) (t : St) : mJ c call t kd = none := by
 unfold mJ at h ⊢;split at h
 ·rename_i f x es;split at h
  ·cases h
  ·rename_i hl;exact if_neg hl
 ·rfl
theorem aby {s s1 : St} {g : Nat -> List AV -> List AV -> Option (List AV)} {x : AV} {es : List AV} {v : AV} {f : Fq} (h : P3 s g x es = some (v,s1,f)) : ∃ sl bs,f = .wr sl bs \/ f = .all := by unfold P3 at h;cases h
theorem zS {s s1 : St} {kd : Kd} {v : AV} {f : Fq} (h : oJ c s kd = some (some (v,s1,f))) : ∃ sl bs,f = .wr sl bs \/ f = .all := by
 unfold oJ at h;split at h
 case h_2 => cases h
 split at h
 case h_1 =>
  split at h
  ·cases h
  ·simp only [ai] at h;exact aby h
 simp only [ai] at h
 (repeat' split at h) <;> simp at h
 all_goals first
  | exact ⟨_,_,.inl h.2.2.symm⟩
  | exact ⟨[],none,.inr h.2.2.symm⟩
theorem A5 {agU : Nat -> List AV -> Heap -> Option (AV × Heap)} {s : St} {kd : Kd} (h : qQ c call s kd = none) (t : St) : qQ c agU t kd = none := by
 unfold qQ at h ⊢;split at h
 ·split at h
  ·cases h
  ·rename_i hm;simp only [hm]
 ·rfl
theorem wv {s s1 : St} {kd : Kd} {v : AV} {f : Fq} (h : qQ c call s kd = some (some (v,s1,f))) : f = .all /\ ∃ k ys,v = .own k ys := by
 unfold qQ at h;split at h
 case h_2 => cases h
 split at h
 case h_2 => cases h
 simp only [ai] at h;unfold MJ at h
 (repeat' split at h) <;> first
  | (cases h; done)
  | (simp only [ai,aF] at h; exact ⟨h.2.2.symm,_,_,h.1.symm⟩)
theorem K2 {s s1 : St} {kd : Kd} {v : AV} {f : Fq} (h : fj c call kd s = some (v,s1,f)) (hf : calm f = true) : yE s s1 kd f v (fj c call kd) := by
 unfold fj at h;cases hm : qQ c call s kd with
 | some r =>
   rw [hm] at h;simp only at h;subst h;obtain ⟨rfl,_⟩ := wv hm;simp [calm] at hf
 | none =>
   rw [hm] at h;rcases jI h with h | h
   ·obtain ⟨T,h1,h2,h3⟩ := ND h hf;refine ⟨T,h1,h2,fun t a b d => ?_⟩;unfold fj;rw [A5 hm t];exact pL (h3 t a b d)
   ·obtain ⟨rfl,_⟩ := wa h;simp [calm] at hf
theorem Aa {s s1 : St} {kd : Kd} {v : AV} {f : Fq} (h : dm c call kd s = some (v,s1,f)) (hf : calm f = true) : yE s s1 kd f v (dm c call kd) := by
 unfold dm at h;cases hi : oJ c s kd with
 | some r =>
   rw [hi] at h;simp only at h;subst h;obtain ⟨sl,bs,rfl | rfl⟩ := zS hi <;> simp [calm] at hf
 | none =>
   rw [hi] at h;cases hl : mJ c call s kd with
   | some r =>
     rw [hl] at h;simp only at h;subst h;obtain ⟨b,rfl⟩ := Dq hl;simp [calm] at hf
   | none =>
     rw [hl] at h;obtain ⟨T,h1,h2,h3⟩ := K2 h hf;refine ⟨T,h1,h2,fun t a b d => ?_⟩;unfold dm;rw [wC hi t,A9 hl t];exact h3 t a b d
end
end Go.Bm

/- Every operation that is calm depends on what it names alone. -/
namespace Go.Bm
open Go.Am
section
variable {P : Program} {c : dR} {call : Nat -> List AV -> Heap -> Option (AV × Heap)}
theorem XV {s s1 : St} {kd : Kd} {v : AV} {f : Fq} (h : eR c call s kd = some (v,s1,f)) (hf : calm f = true) : yE s s1 kd f v (fun t => eR c call t kd) := by
 have pure : ∀ {kd : Kd} {v : AV} {s1 : St} {f : Fq},(match Pc c s.env kd with
   | some v => some (v,s,Fq.no)
   | none => none) = some (v,s1,f) -> yE s s1 kd f v (fun t => match Pc c t.env kd with
   | some v => some (v,t,Fq.no)
   | none => none) := by
  intro kd v s1 f h;split at h
  case h_2 => cases h
  rename_i u hu;simp at h;obtain ⟨rfl,rfl,rfl⟩ := h;refine .still fun t h1 _ => ?_;simp only [Iq (c := c) h1,hu]
 cases kd
 case call f0 xs => simp only [eR] at h ⊢; exact Aa h hf
 case jm x xs => simp only [eR] at h ⊢; exact Aa h hf
 case ld ag x =>
  simp only [eR] at h;split at h
  case h_2 => cases h
  rename_i u ps hp;split at h
  case isFalse => cases h
  rename_i hl;simp at h;obtain ⟨rfl,rfl,rfl⟩ := h;refine .still fun t h1 h2 => ?_;simp only [eR,bT (c := c) h1,Uv hp h2,hl,if_true]
 case copy k x y =>
  exfalso;simp only [eR] at h
  (repeat' split at h) <;> first
   | (cases h; done)
   | (simp only [ai,aF] at h; obtain ⟨_,_,rfl⟩ := h; first
     | (simp [calm] at hf; done)
     | (rcases vF _ _ with e | ⟨_,_,_,_,e⟩ <;> rw [e] at hf <;> simp [calm] at hf))
 case Hw n x hi =>
  simp only [eR] at h;split at h
  ·rename_i b off hx;split at h
   case h_2 => cases h
   rename_i m cs hm hb;split at h
   case isFalse => cases h
   rename_i hl;simp at h;obtain ⟨rfl,rfl,rfl⟩ := h;refine .still fun t h1 h2 => ?_;simp only [Kd.reads,aD] at h1;have e := ((h2.1 _ rfl) _ (cq.2 rfl)).2 b 1 rfl;have U1 : yC c t.env n n hi = some m := by rw [yB (c := c) fun i hi => h1 i (.inr hi)]; exact hm
   simp only [eR,bT (c := c) fun i hi => h1 i (.inl hi),hx,U1,e,hb,hl,if_true]
  ·rename_i jH;split at h
   case h_2 => cases h
   rename_i u hu;simp at h;obtain ⟨rfl,rfl,rfl⟩ := h;refine .still fun t h1 _ => ?_;have e := Iq (c := c) h1;simp only [Kd.reads,aD] at h1;have ex : bp c t.env x = bp c s.env x := bT (c := c) fun i hi => h1 i (.inl hi);simp only [eR,ex,e,hu]
 case new zs =>
  simp only [eR] at h;simp at h;obtain ⟨rfl,rfl,rfl⟩ := h;exact ⟨_,rfl,.inr ⟨_,rfl,rfl⟩,fun t _ _ h3 => by simp only [eR]; rw [h3 _ rfl]⟩
 case box x =>
  simp only [eR] at h;split at h
  case isFalse => cases h
  rename_i hl;simp at h;obtain ⟨rfl,rfl,rfl⟩ := h;refine ⟨_,rfl,.inr ⟨_,rfl,rfl⟩,fun t h1 _ h3 => ?_⟩;simp only [eR,bT (c := c) h1,hl,if_true];rw [h3 _ rfl]
 case c5 k n zs ps =>
  simp only [eR] at h;split at h
  case h_2 => cases h
  rename_i cs hc;split at h
  case isFalse => cases h
  rename_i hz;simp at h;obtain ⟨rfl,rfl,rfl⟩ := h
  have he : fF c s.env ps = [] := by
   cases hb : fF c s.env ps with
   | nil => rfl
   | cons x y => rw [hb] at hf; simp [CM] at hf
  rw [he] at hc ⊢;simp only [dC] at hc ⊢;refine .still fun t h1 _ => ?_;simp only [eR,pD (c := c) h1,he,dC,qF (c := c) h1,hc,hz,if_true];simp
 case st k a v =>
  exfalso;simp only [eR] at h;split at h
  ·split at h
   case h_2 => cases h
   rename_i hh;have h4 := Ox hh;simp only [ai,aF] at h;obtain ⟨_,_,h5⟩ := h;rw [<- h5] at hf;split at hf
   ·rw [hf] at h4; cases h4
   ·simp [calm] at hf
  ·split at h
   case h_2 => cases h
   rename_i hh;have h4 := Ox hh;simp only [ai,aF] at h;obtain ⟨_,_,h5⟩ := h;rw [<- h5] at hf;rw [hf] at h4;cases h4
 case app k x y =>
  simp only [eR] at h;split at h
  case h_2 => cases h
  rename_i ys hy;split at h
  case isFalse => cases h
  rename_i hl;split at h
  ·rename_i k' hx;split at h
   case isFalse => cases h
   rename_i hle;simp at h;obtain ⟨rfl,rfl,rfl⟩ := h;refine .still fun t h1 h2 => ?_;simp only [Kd.reads,aD] at h1;simp only [eR];rw [bT (c := c) fun i hi => h1 i (.inl hi),bT (c := c) fun i hi => h1 i (.inr hi),P8 (h2.1 _ rfl),hy];simp only [hl,if_true,hx,hle]
  ·exfalso
   repeat' split at h
   all_goals first
    | (cases h; done)
    | (simp at h; obtain ⟨_,_,rfl⟩ := h; simp [calm] at hf)
  ·cases h
 case KF k zs l cp =>
  simp only [eR] at h;split at h
  case h_2 => cases h
  rename_i k1 n1 k2 n2 e1 e2;split at h
  case isFalse => cases h
  rename_i hb;split at h
  ·rename_i z hz;simp at h;obtain ⟨rfl,rfl,rfl⟩ := h;refine ⟨_,rfl,.inr ⟨_,rfl,rfl⟩,fun t h1 _ h3 => ?_⟩;simp only [Kd.reads,aD] at h1;simp only [eR];rw [bT (c := c) fun i hi => h1 i (.inl hi),bT (c := c) fun i hi => h1 i (.inr hi),e1,e2];simp only [hb,and_self,if_true,hz];rw [h3 _ rfl]
  ·rename_i hz;simp at h;obtain ⟨rfl,rfl,rfl⟩ := h;refine .still fun t h1 h2 => ?_;simp only [Kd.reads,aD] at h1;simp only [eR];rw [bT (c := c) fun i hi => h1 i (.inl hi),bT (c := c) fun i hi => h1 i (.inr hi),e1,e2];simp only [hb,and_self,if_true,hz]
 case Vh k zs x =>
  simp only [eR] at h;split at h
  case h_3 => cases h
  all_goals
   rename_i e1;simp at h;obtain ⟨rfl,rfl,rfl⟩ := h;refine .still fun t h1 h2 => ?_;simp only [eR,bT (c := c) h1,e1]
 all_goals
  simp only [eR] at h ⊢;exact pure h
end
end Go.Bm

/- A state without shadowed entries: who mentions a place, by what can be read. -/
namespace Go.Bm
open Go.Am
section
def KB : List Nat -> Env -> Env
 | _,[] => []
 | sn,(i,v) :: r => if mem i sn then KB sn r else (i,v) :: KB (i :: sn) r
theorem KZ : ∀ (sn : List Nat) (e : Env) (i : Nat),get (KB sn e) i = if mem i sn = true then .any else get e i
 | sn,[],i => by simp [KB,Am.get]
 | sn,(j,v) :: r,i => by
   unfold KB;by_cases hj : mem j sn = true
   ·rw [if_pos hj,KZ sn r i];by_cases hi : mem i sn = true
    ·simp [hi]
    ·simp only [hi,bO,if_false,Am.get];have : j ≠ i := fun e => hi (e ▸ hj);have h2 : i ≠ j := fun e => this e.symm;simp [hi,h2]
   ·rw [if_neg hj];simp only [Am.get];rw [KZ (j :: sn) r i];by_cases Hh : j = i
    ·subst Hh;simp [hj]
    ·have h2 : i ≠ j := fun e => Hh e.symm
     have : mem i (j :: sn) = mem i sn := by
      conv => lhs; unfold mem
      rw [if_neg h2]
     simp only [this,h2,if_false]
theorem NT {f : Rt -> Bool} : ∀ {e : Env} {i : Nat},vO f (aK (get e i)) = true -> GK f e = true
 | [],i,h => by simp [Am.get,aK,vO] at h
 | (j,v) :: r,i,h => by
   simp only [Am.get] at h;simp only [GK,eX];split at h
   ·exact .inl h
   ·exact .inr (NT h)
theorem GJ {f : Rt -> Bool} : ∀ {sn : List Nat} {e : Env},GK f (KB sn e) = true -> ∃ i,mem i sn = false /\ vO f (aK (Am.get e i)) = true
 | sn,[],h => by simp [KB,GK] at h
 | sn,(j,v) :: r,h => by
   unfold KB at h;by_cases hj : mem j sn = true
   ·rw [if_pos hj] at h;obtain ⟨i,h1,h2⟩ := GJ h;have Bq : i ≠ j := fun e => by rw [e,hj] at h1; cases h1
    exact ⟨i,h1,by simp only [Am.get]; rw [if_neg Bq]; exact h2⟩
   ·rw [if_neg hj] at h;simp only [GK,eX] at h;rcases h with h | h
    ·exact ⟨j,by simpa using hj,by simp only [Am.get,if_true]; exact h⟩
    ·obtain ⟨i,h1,h2⟩ := GJ h
     have Bq : i ≠ j := fun e => by
      rw [e] at h1;unfold mem at h1;simp at h1
     refine ⟨i,?_,by simp only [Am.get]; rw [if_neg Bq]; exact h2⟩;unfold mem at h1;rw [if_neg Bq] at h1;exact h1
def Pk (s : St) : St := ⟨KB [] s.env,s.H⟩
theorem pg (s : St) : dv s (Pk s) := ⟨fun i => by simp only [Pk]; rw [KZ]; simp [mem],rfl⟩
end
end Go.Bm

/- A step is an operation's value, put to its slot; what a calm operation and one that writes a few places are worth. -/
namespace Go.Bm
open Go.Am
section
variable {P : Program} {c : dR} {call : Nat -> List AV -> Heap -> Option (AV × Heap)}
def CO (c : dR) (call : Nat -> List AV -> Heap -> Option (AV × Heap)) (s : St) (q : O) : Option (AV × St × Fq) :=
 match q.guard with
 | none => eR c call s q.kd
 | some (g,want) => match get s.env g with
   | .bool b => if b = want then eR c call s q.kd else some (.undef,s,.no)
   | .undef => some (.undef,s,.no)
   | _ => none
theorem ui (s : St) (q : O) : p9 c call s q = match CO c call s q with
  | some (v,s',fl) => z7 s.env q.dst v s' fl
  | none => none := by
 unfold p9 CO;cases hg : q.guard with
 | none => rfl
 | some p =>
   obtain ⟨g,want⟩ := p;simp only;generalize get s.env g = u;cases u <;> try rfl
   rename_i b;simp only;by_cases hb : b = want
   ·simp only [hb,if_true]; rfl
   ·simp only [hb,if_false]
def jT (s : St) (d : Option Nat) (v : AV) : St := match d with
 | none => s
 | some d => ⟨put s.env d v,s.H⟩
theorem iA (s : St) (d : Option Nat) (v : AV) : (jT s d v).H = s.H := by cases d <;> rfl
theorem dQ (s : St) (d : Option Nat) (v : AV) (i : Nat) : get (jT s d v).env i = if d = some i then v else get s.env i := by
 cases d with
 | none => simp [jT]
 | some d =>
   simp only [jT,bw];by_cases h : i = d
   ·subst h; simp
   ·have : d ≠ i := fun e => h e.symm;simp [h,this]
theorem Ur {s t : St} (h : dv s t) (d : Option Nat) (v : AV) : dv (jT s d v) (jT t d v) :=
 ⟨fun i => by rw [dQ,dQ,h.1 i],by rw [iA,iA]; exact h.2⟩
def Ev (c : dR) (call : Nat -> List AV -> Heap -> Option (AV × Heap)) (s : St) (q : O) (v : AV) (s1 : St) (f : Fq) : Prop :=
 xe q.kd = true /\ ∃ s0 t1,dv s s0 /\ CO c call s0 q = some (v,t1,f) /\ dv t1 s1
theorem Ev.same {s t s1 t1 : St} {q : O} {v : AV} {f : Fq} (h : Ev c call s q v s1 f) (e : dv s t) (e1 : dv s1 t1) : Ev c call t q v t1 f := by
 obtain ⟨hk,s0,u1,a,b,d⟩ := h;exact ⟨hk,s0,u1,e.symm.trans a,b,d.trans e1⟩
structure Qq (c : dR) (call : Nat -> List AV -> Heap -> Option (AV × Heap)) (s : St) (q : O) (v : AV) (s1 : St) (f : Fq) (X : Heap) : Prop where
 st : dv s1 ⟨s.env,s.H ++ X⟩
 nw : (X = [] /\ ∀ n,f ≠ .al n) \/ ∃ z,X = [z] /\ f = .al s.H.length
 go : ∀ t : St,(∀ i ∈ q.reads,ep i (get t.env i) = ep i (get s.env i)) -> xl f s t -> (∀ n,f = .al n -> t.H.length = n) -> Ev c call t q v ⟨t.env,t.H ++ X⟩ f
 val : ∀ V : Rt -> Prop,(∀ i ∈ q.reads,(∀ p ∈ aK (get s.env i),¬ V p) /\ ¬ V (.s i) /\ ∀ j,¬ V (.sc i j)) ->
  (∀ ps,f = .rd ps -> ∀ b,Rt.c b 0 ∈ ps -> ∀ cs,aJ s.H b = some cs -> (∀ p ∈ cY cs,¬ V p) /\ (bI cs = true -> ∀ j,¬ V (.c b j))) ->
  (∀ b j,f = .rc b j -> ∀ cs c,aJ s.H b = some cs -> cs[j]? = some c -> (∀ p ∈ aK c,¬ V p) /\ (∀ k xs,c = .own k xs -> ¬ V (.c b j))) -> ∀ p ∈ aK v,¬ V p
structure LwEv (c : dR) (call : Nat -> List AV -> Heap -> Option (AV × Heap)) (s : St) (q : O) (v : AV) (s1 : St) (b : Nat) (cs cs' : List AV) : Prop where
 bl : aJ s.H b = some cs
 st : dv s1 ⟨s.env,s.H.set b (some cs')⟩
 go : ∀ t : St,(∀ i ∈ q.reads,get t.env i = get s.env i) -> aJ t.H b = some cs -> Ev c call t q v ⟨t.env,t.H.set b (some cs')⟩ (.lw b)
structure WrEv (c : dR) (call : Nat -> List AV -> Heap -> Option (AV × Heap)) (s : St) (q : O) (v : AV) (s1 : St) (sl : List Nat) (bs : Option (List Nat)) (V : Rt -> Prop) : Prop where
 env : ∀ i,i ∉ sl -> i + kZ ∉ sl -> get s1.env i = get s.env i
 hd : ∀ i,i ∉ sl -> ep i (get s1.env i) = ep i (get s.env i)
 keep : ∀ i,bJ (get s.env i) = false -> aK (get s.env i) = [] -> get s1.env i = get s.env i
 heap : ∀ l,bs = some l -> ∀ b,mR b l = false -> aJ s1.H b = aJ s.H b
 cell : ∀ l,bs = some l -> ∀ b j,b ∉ l -> kB b j ∉ l -> pX b j s s1 /\ pX b j s1 s
 v1 : ∀ i,i ∉ sl -> (∀ p ∈ aK (get s.env i),¬ V p) /\ ¬ V (.s i) /\ ∀ j,¬ V (.sc i j)
 v2 : ∀ l,bs = some l -> ∀ b,mR b l = false -> b + kZ ∉ l -> ∀ cs,aJ s.H b = some cs -> (∀ p ∈ cY cs,¬ V p) /\ (bI cs = true -> ∀ j,¬ V (.c b j))
 v3 : ∀ l,bs = some l -> ∀ b j,b ∉ l -> b + kZ ∉ l -> kB b j ∉ l -> ∀ cs c,aJ s.H b = some cs -> cs[j]? = some c -> (∀ p ∈ aK c,¬ V p) /\ (∀ k xs,c = .own k xs -> ¬ V (.c b j))
 go : ∀ d u,d ∉ q.reads -> d ∉ sl -> d + kZ ∉ sl -> (∀ p ∈ aK u,¬ V p) -> ∃ t1 sl',Ev c call ⟨put s.env d u,s.H⟩ q v t1 (.wr sl' bs) /\ (∀ i ∈ sl',i ∈ sl) /\ dv t1 ⟨put s1.env d u,s1.H⟩
end
end Go.Bm

/- Two steps whose order is open commute, given what single operations are worth. -/
namespace Go.Bm
open Go.Am
section
variable {P : Program} {c : dR} {call : Nat -> List AV -> Heap -> Option (AV × Heap)}
def pe (c : dR) (call : Nat -> List AV -> Heap -> Option (AV × Heap)) : Prop := ∀ s q v s1 f,Ev c call s q v s1 f -> calm f = true -> ∃ X,Qq c call s q v s1 f X
def Al (c : dR) (call : Nat -> List AV -> Heap -> Option (AV × Heap)) : Prop := ∀ s q v s1 sl bs,Ev c call s q v s1 (.wr sl bs) -> ∃ V,WrEv c call s q v s1 sl bs V
def Ao (c : dR) (call : Nat -> List AV -> Heap -> Option (AV × Heap)) : Prop := ∀ s q v s1 b,Ev c call s q v s1 (.lw b) -> ∃ cs cs',LwEv c call s q v s1 b cs cs'
theorem afp {s s1 : St} {q : O} {v : AV} {f : Fq} (h : CO c call s q = some (v,s1,f)) : ∀ ps,f ≠ .bo ps := by
 have eK : ∀ {kd : Kd} {v : AV} {s1 : St} {f : Fq},eR c call s kd = some (v,s1,f) -> ∀ ps,f ≠ .bo ps := by
  intro kd v s1 f h ps e;subst e
  have st : ∀ {s s' : St} {k : Nat} {a v : AV},N6 s k a v ≠ some (s',.bo ps) := by
   intro s s' k a v h;unfold N6 wX at h
   repeat' split at h
   all_goals first
    | (cases h; done)
    | (simp at h; done)
  have ic : ∀ {kd : Kd},oJ c s kd ≠ some (some (v,s1,.bo ps)) := fun h => by
   obtain ⟨sl,bs,e | e⟩ := zS h <;> cases e
  have oc : ∀ {kd : Kd},dm c call kd s ≠ some (v,s1,.bo ps) := by
   intro kd h;unfold dm at h;split at h
   ·rename_i r hi; subst h; exact ic hi
   split at h
   ·rename_i r hi; subst h; obtain ⟨b,e⟩ := Dq hi; cases e
   unfold fj at h;split at h
   ·rename_i r hi; subst h; obtain ⟨e,_⟩ := wv hi; cases e
   ·replace h := (jI h).resolve_right fun h => by obtain ⟨e,_⟩ := wa h; cases e
    unfold dG at h
    (repeat' split at h)
    all_goals first
     | (cases h; done)
     | (simp [Bt] at h; done)
     | (simp at h; obtain ⟨_,_,h5⟩ := h; revert h5; split <;> simp [Bt])
  cases kd <;> simp only [eR] at h
  case call => exact oc h
  case jm => exact oc h
  case st k a v =>
   split at h
   ·split at h
    case h_2 => cases h
    rename_i hh;simp only [ai,aF] at h;obtain ⟨_,_,h5⟩ := h;split at h5
    ·rw [h5] at hh; exact st hh
    ·cases h5
   ·split at h
    case h_2 => cases h
    rename_i hh;simp only [ai,aF] at h;obtain ⟨_,_,h5⟩ := h;rw [h5] at hh;exact st hh
  all_goals
   (repeat' split at h)
   all_goals first
    | (cases h; done)
    | (simp at h; done)
    | (simp [Bt] at h; done)
    | (simp at h; obtain ⟨_,_,h5⟩ := h; rcases vo _ _ _ with e | ⟨b,j,e⟩ <;> rw [e] at h5 <;> cases h5; done)
    | (simp at h; obtain ⟨_,_,h5⟩ := h; rcases vF _ _ with e | ⟨_,_,_,_,e⟩ <;> rw [e] at h5 <;> cases h5; done)
    | (simp at h; obtain ⟨_,_,h5⟩ := h; revert h5; split <;> simp)
 unfold CO at h;split at h
 ·exact eK h
 ·split at h
  ·split at h
   ·exact eK h
   ·simp at h; obtain ⟨_,_,rfl⟩ := h; intro ps; simp
  ·simp at h; obtain ⟨_,_,rfl⟩ := h; intro ps; simp
  ·cases h
theorem Ev.fl {s s1 : St} {q : O} {v : AV} {f : Fq} (h : Ev c call s q v s1 f) : ∀ ps,f ≠ .bo ps := let ⟨_,_,_,_,b,_⟩ := h; afp b
theorem jN {e e' : Env} {d : Option Nat} {f : Fq} (h : ∀ i,d = some i -> get e i = get e' i) : bM e d f = bM e' d f := by
 unfold bM;cases d with
 | none => rfl
 | some d => simp only; rw [h d rfl]
theorem qb {e : Env} {d : Option Nat} {f : Fq} (h : nH (bM e d f) = true) : ∀ i,d = some i -> bJ (get e i) = false := by
 rintro i rfl;unfold bM at h;cases hh : bJ (get e i) with
 | false => rfl
 | true => simp [hh,nH] at h
theorem nN {e : Env} {d : Option Nat} {sl : List Nat} {bs : Option (List Nat)} (h : nH (bM e d (.wr sl bs)) = true) : bM e d (.wr sl bs) = .wr sl bs /\ ∀ i,d = some i -> bJ (get e i) = false /\ aK (get e i) = [] := by
 refine ⟨?_,fun i hi => ⟨qb h i hi,?_⟩⟩
 ·unfold bM at h ⊢;cases d with
  | none => rfl
  | some d =>
    simp only at h ⊢;split at h
    ·simp [nH] at h
    rename_i h1;rw [if_neg h1];split at h
    ·rename_i h2; rw [if_pos h2]
    ·simp [nH] at h
 ·subst hi;unfold bM at h;simp only at h;split at h
  ·simp [nH] at h
  ·split at h
   ·rename_i h2; exact eG.1 h2
   ·simp [nH] at h
theorem uq {e : Env} {d : Option Nat} {b : Nat} (h : nH (bM e d (.lw b)) = true) : bM e d (.lw b) = .lw b /\ ∀ i,d = some i -> bJ (get e i) = false /\ aK (get e i) = [] := by
 refine ⟨?_,fun i hi => ⟨qb h i hi,?_⟩⟩
 ·unfold bM at h ⊢;cases d with
  | none => rfl
  | some d =>
    simp only at h ⊢;split at h
    ·simp [nH] at h
    rename_i h1;rw [if_neg h1];split at h
    ·rename_i h2; rw [if_pos h2]
    ·simp [nH] at h
 ·subst hi;unfold bM at h;simp only at h;split at h
  ·simp [nH] at h
  ·split at h
   ·rename_i h2; exact eG.1 h2
   ·simp [nH] at h
theorem ur {e : Env} {d : Option Nat} {f : Fq} (h : nH (bM e d f) = true) : nH f = true := by
 unfold bM at h;split at h
 ·exact h
 ·split at h
  ·simp [nH] at h
  ·split at h
   ·exact h
   ·split at h
    ·rfl
    ·rfl
    ·rfl
    ·simp [nH] at h
theorem BH {e e' : Env} {d : Option Nat} {sl sl' : List Nat} {bs bs' : Option (List Nat)} (h : ∀ i,d = some i -> bJ (get e i) = false /\ aK (get e i) = []) : bM e d (.wr sl bs) = .wr sl bs := by
 unfold bM;cases d with
 | none => rfl
 | some d => simp [h d rfl]
theorem TS.out (HC : pe c call) (HW : Al c call) (HL : Ao c call) {s s' : St} {q : O} {f : Fq} (h : TS c call s q f s') (hf : nH f = true) : ∃ v s1 f1,Ev c call s q v s1 f1 /\ nH (bM s.env q.dst f1) = true /\ yH (bM s.env q.dst f1) f /\ dv s' (jT s1 q.dst v) := by
 obtain ⟨hk,s0,t1,f0,e0,sa,hle,e1⟩ := h;rw [ui] at sa;split at sa
 case h_2 => cases sa
 rename_i v u1 f1 he;have hfl := z6 sa;have UY : bM s0.env q.dst f1 = bM s.env q.dst f1 := jN fun i _ => (e0.1 i).symm
 have hcw : nH (bM s.env q.dst f1) = true := by
  rw [<- UY,<- hfl];cases f0 <;> cases f <;> simp [yH,nH] at hle hf ⊢
 have Zd : Ev c call s q v u1 f1 := ⟨hk,s0,u1,e0,he,dv.rfl'⟩;refine ⟨v,u1,f1,Zd,hcw,by rw [<- UY,<- hfl]; exact hle,?_⟩;unfold z7 at sa;split at sa
 case h_2 => cases sa
 rename_i u2 hp;simp only [ai,aF] at sa;obtain ⟨rfl,_⟩ := sa;refine e1.symm.trans ?_;cases hd : q.dst with
 | none => rw [hd] at hp; simp [w9] at hp; subst hp; exact dv.rfl'
 | some d =>
   rw [hd] at hp
   have jH : bJ (get u1.env d) = false := by
    have h0 := qb hcw d hd;have Tv := ur hcw;by_cases Nk : calm f1 = true
    ·obtain ⟨X,hX⟩ := HC _ _ _ _ _ Zd Nk;rw [hX.st.1 d];exact h0
    ·cases f1 <;> simp [calm,nH] at Nk Tv
     case wr sl bs =>
      obtain ⟨V,hV⟩ := HW _ _ _ _ _ _ Zd;have h2 := (nN hcw).2 d hd;rw [hV.keep d h2.1 h2.2];exact h0
     case lw b =>
      obtain ⟨cs,cs',hL⟩ := HL _ _ _ _ _ Zd;rw [hL.st.1 d];exact h0
     case bo => exact absurd rfl (Zd.fl _)
   simp only [w9,Us,LQ,jH,Bool.false_and,bO,if_false,ai] at hp;subst hp;exact dv.rfl'
theorem TS.mk (HC : pe c call) (HW : Al c call) (HL : Ao c call) {s s1 s' : St} {q : O} {v : AV} {f f1 : Fq} (Zd : Ev c call s q v s1 f1) (hcw : nH (bM s.env q.dst f1) = true) (hle : yH (bM s.env q.dst f1) f) (hs : dv s' (jT s1 q.dst v)) : TS c call s q f s' := by
 have hev' := Zd;obtain ⟨hk,s0,t1,e0,he,e1⟩ := hev';have UY : bM s0.env q.dst f1 = bM s.env q.dst f1 := jN fun i _ => (e0.1 i).symm
 have FV : w9 t1 q.dst v = some (jT t1 q.dst v) := by
  cases hd : q.dst with
  | none => rfl
  | some d =>
    have jH : bJ (get t1.env d) = false := by
     have h0 := qb hcw d hd;have Tv := ur hcw;rw [e1.1 d];by_cases Nk : calm f1 = true
     ·obtain ⟨X,hX⟩ := HC _ _ _ _ _ Zd Nk;rw [hX.st.1 d];exact h0
     ·cases f1 <;> simp [calm,nH] at Nk Tv
      case wr sl bs =>
       obtain ⟨V,hV⟩ := HW _ _ _ _ _ _ Zd;have h2 := (nN hcw).2 d hd;rw [hV.keep d h2.1 h2.2];exact h0
      case lw b =>
       obtain ⟨cs,cs',hL⟩ := HL _ _ _ _ _ Zd;rw [hL.st.1 d];exact h0
      case bo => exact absurd rfl (Zd.fl _)
    simp only [w9,Us,LQ,jH,Bool.false_and,bO,if_false,jT]
 refine ⟨hk,s0,jT t1 q.dst v,bM s.env q.dst f1,e0,?_,hle,(Ur e1 _ _).trans hs.symm⟩;rw [ui,he];simp only [z7,FV,UY]
end
end Go.Bm

/- Two steps whose order is open commute. -/
namespace Go.Bm
open Go.Am
section
variable {P : Program} {c : dR} {call : Nat -> List AV -> Heap -> Option (AV × Heap)}
theorem e9 {d : Nat} : ∀ {ps : List Rt},fJ d ps = true -> ∀ p ∈ ps,(∀ i,p = .s i -> i ≠ d) /\ ∀ i j,p = .sc i j -> i ≠ d
 | [],_,p,hp => by simp at hp
 | q :: r,h,p,hp => by
   have ih : fJ d r = true -> p ∈ r -> _ := fun h hp => e9 (d := d) h p hp;rcases aX.1 hp with e | e
   ·subst e;cases p with
    | s i => simp only [fJ,aa,decide_eq_true_eq] at h; exact ⟨(fun k hk => by cases hk; exact h.1),fun k j hk => by cases hk⟩
    | sc i j => simp only [fJ,aa,decide_eq_true_eq] at h; exact ⟨(fun k hk => by cases hk),fun k l hk => (by cases hk; exact h.1)⟩
    | c b j => exact ⟨(fun k hk => by cases hk),fun k l hk => by cases hk⟩
   ·have h' : fJ d r = true := by
     cases q <;> simp only [fJ,aa] at h
     ·exact h.2
     ·exact h.2
     ·exact h
    exact ih h' e
theorem sY {sl : List Nat} {bs : Option (List Nat)} : ∀ {ps : List Rt},oO sl bs ps = true -> ∀ p ∈ ps,(∀ i,p = .s i -> i ∉ sl /\ i + kZ ∉ sl) /\ (∀ i j,p = .sc i j -> i ∉ sl /\ i + kZ ∉ sl) /\ ∀ b j,p = .c b j -> ∃ l,bs = some l /\ mR b l = false /\ (j = 0 -> b + kZ ∉ l)
 | [],_,p,hp => by simp at hp
 | q :: r,h,p,hp => by
   have nm : ∀ {i : Nat} {l : List Nat},mem i l = false -> i ∉ l := fun h hi => by rw [mem_iff.2 hi] at h; cases h
   rcases aX.1 hp with e | e
   ·subst e;cases p with
    | s i => simp only [oO,aa,bD] at h; exact ⟨fun k hk => (by cases hk; exact ⟨nm h.1.1,nm h.1.2⟩),(fun k j hk => by cases hk),fun k j hk => by cases hk⟩
    | sc i j => simp only [oO,aa,bD] at h; exact ⟨(fun k hk => by cases hk),(fun k l hk => (by cases hk; exact ⟨nm h.1.1,nm h.1.2⟩)),fun k j hk => by cases hk⟩
    | c b j =>
      simp only [oO,aa] at h;refine ⟨(fun k hk => by cases hk),(fun k l hk => by cases hk),fun k l hk => ?_⟩;cases hk;cases bs with
      | none => simp at h
      | some l =>
        simp only [aa,bD,eX,decide_eq_true_eq] at h;exact ⟨l,rfl,h.1.1,fun e => h.1.2.elim (fun q => absurd e q) nm⟩
   ·have h' : oO sl bs r = true := by
     cases q <;> simp only [oO,aa] at h <;> exact h.2
    exact sY h' p e
theorem Ft {sl : List Nat} : ∀ {l : List Nat},Fu sl l = true -> ∀ i ∈ l,i ∉ sl
 | [],_,i,hi => by simp at hi
 | j :: r,h,i,hi => by
   simp only [Fu,aa,bD] at h;rcases aX.1 hi with e | e
   ·subst e; intro hm; rw [mem_iff.2 hm] at h; cases h.1
   ·exact Ft h.2 i e
theorem mo {n : Nat} : ∀ {ps : List Rt},fG n ps = true -> ∀ b j,Rt.c b j ∈ ps -> b < n
 | [],_,b,j,h => by simp at h
 | q :: r,h,b,j,hp => by
   rcases aX.1 hp with e | e
   ·subst e; simp only [fG,aa,decide_eq_true_eq] at h; exact h.1
   ·have h' : fG n r = true := by cases q <;> simp only [fG,aa] at h <;> first | exact h | exact h.2
    exact mo h' b j e
theorem Seen.mk' {ps : List Rt} {s t : St} (h1 : ∀ p ∈ ps,(∀ i,p = .s i -> get t.env i = get s.env i) /\ (∀ i j,p = .sc i j -> get t.env i = get s.env i) /\ ∀ b j,p = .c b j -> aJ t.H b = aJ s.H b) : Seen ps s t := by
 intro p hp;obtain ⟨a,b,d⟩ := h1 p hp;refine ⟨?_,fun k l e => d k l e⟩;cases p with
 | s i => simp only [av,at_]; rw [a i rfl]
 | sc i j => simp only [av,at_]; rw [b i j rfl]
 | c k j => simp only [av,at_]; rw [d k j rfl]
theorem vM {x y : O} (h : jQ x y = true) : (∀ i,x.dst = some i -> i ∉ y.reads /\ y.dst ≠ some i) /\ ∀ i,y.dst = some i -> i ∉ x.reads /\ x.dst ≠ some i := by
 have nm : ∀ {i : Nat} {l : List Nat},mem i l = false -> i ∉ l := fun h hi => by rw [mem_iff.2 hi] at h; cases h
 unfold jQ at h;simp only [aa] at h;obtain ⟨h1,h2⟩ := h;refine ⟨fun i hi => ?_,fun i hi => ?_⟩
 ·rw [hi] at h1;simp only [aa,bD,decide_eq_true_eq] at h1;exact ⟨nm h1.1,h1.2⟩
 ·rw [hi] at h2;simp only [bD] at h2;refine ⟨nm h2,fun e => ?_⟩;rw [e] at h1;simp only [aa,bD,decide_eq_true_eq] at h1;exact h1.2 hi
def Ax : Fq -> List Rt
 | .rd ps => ps
 | .bo ps => ps
 | .rc b _ => [.c b 0]
 | _ => []
theorem mX {e : Env} {d : Option Nat} {f : Fq} (h : nH (bM e d f) = true) (hc : calm f = true) : Ax (bM e d f) = Ax f /\ (∀ n,f = .al n -> bM e d f = .al n) /\ (∀ n,bM e d f = .al n -> f = .al n) /\ ((∀ ps,bM e d f ≠ .bo ps) -> bM e d f = f /\ ∀ i,d = some i -> aK (get e i) = []) := by
 unfold bM at h ⊢;cases d with
 | none => exact ⟨rfl,fun n h => h,fun n h => h,fun _ => ⟨rfl,fun i hi => by cases hi⟩⟩
 | some d =>
   simp only at h ⊢;split at h
   ·simp [nH] at h
   rename_i h1;rw [if_neg h1];split at h
   ·rename_i h2;rw [if_pos h2];exact ⟨rfl,fun n h => h,fun n h => h,fun _ => ⟨rfl,fun i hi => by cases hi; exact eG.1 h2⟩⟩
   ·rename_i h2;rw [if_neg h2];cases f <;> simp [calm,nH] at hc h ⊢ <;> simp [Ax]
theorem yH.cw {f g : Fq} (h : yH f g) (hg : nH g = true) : (∀ sl bs,f ≠ .wr sl bs) -> f = g := by
 intro hn;cases f <;> cases g <;> simp [yH,nH] at h hg hn ⊢ <;> exact h
theorem It {f g : Fq} (h : f.ok g = true) : nH f = true /\ nH g = true := by
 cases f <;> cases g <;> simp [Fq.ok,nH] at h ⊢
theorem X7 {f g : Fq} {n m : Nat} (h : f.ok g = true) (hf : f = .al n) : g ≠ .al m := by
 subst hf; intro e; subst e; simp [Fq.ok] at h
theorem XY {f g : Fq} {n : Nat} (h : f.ok g = true) (hf : f = .al n) : fG n (Ax g) = true := by
 subst hf; cases g <;> simp [Fq.ok,Ax,fG] at h ⊢ <;> exact h
theorem SL {f g : Fq} {n : Nat} (h : f.ok g = true) (hg : g = .al n) : fG n (Ax f) = true := by
 subst hg; cases f <;> simp [Fq.ok,Ax,fG] at h ⊢ <;> exact h
theorem iS {d : Option Nat} {f : Fq} (h : yu d f = true) (hf : nH f = true) : ∀ i,d = some i -> fJ i (Ax f) = true := by
 rintro i rfl;cases f <;> simp [yu,Ax,fJ] at h ⊢ <;> exact h
theorem HE {sl : List Nat} {bs : Option (List Nat)} {y : O} {g : Fq} (h : HF (.wr sl bs) y g = true) : (∀ i ∈ y.reads,i ∉ sl) /\ (∀ i,y.dst = some i -> i ∉ sl /\ i + kZ ∉ sl) /\ (∀ ps,g = .rd ps -> oO sl bs ps = true) /\ ∀ b j,g = .rc b j -> ∃ l,bs = some l /\ b ∉ l /\ b + kZ ∉ l /\ kB b j ∉ l := by
 have nm : ∀ {i : Nat} {l : List Nat},mem i l = false -> i ∉ l := fun h hi => by rw [mem_iff.2 hi] at h; cases h
 simp only [HF,aa] at h;obtain ⟨⟨h1,h2⟩,h3⟩ := h;refine ⟨Ft h1,fun i hi => ?_,fun ps hp => ?_,fun b j hp => ?_⟩
 ·rw [hi] at h2; simp only [aa,bD] at h2; exact ⟨nm h2.1,nm h2.2⟩
 ·subst hp; exact h3
 ·subst hp;cases bs with
  | none => simp [Ld] at h3
  | some l =>
    simp only [Ld,aa,bD] at h3;exact ⟨l,rfl,nm h3.1,nm h3.2.1,nm h3.2.2⟩
theorem wP {H X : Heap} {b : Nat} (h : b < H.length) : aJ (H ++ X) b = aJ H b := by
 unfold aJ; rw [List.getElem?_append_left h]
theorem rX {b : Nat} : ∀ {l : List Nat},mR b l = true ↔ ∃ x ∈ l,x = b \/ vt b x = true
 | [] => by simp [mR]
 | x :: r => by
   simp only [mR,eX,decide_eq_true_eq,rX (l := r),aX,exists_eq_or_imp];exact ⟨fun h => h.elim (fun h => .inl (.inl h)) (fun h => h.elim (fun h => .inl (.inr h)) .inr),fun h => h.elim (fun h => h.elim .inl (fun h => .inr (.inl h))) (fun h => .inr (.inr h))⟩
theorem Jr {b : Nat} {l l' : List Nat} (h : ∀ x ∈ l,x ∈ l') (hb : mR b l' = false) : mR b l = false := by
 cases e : mR b l with
 | false => rfl
 | true =>
   obtain ⟨x,h1,h2⟩ := rX.1 e;rw [rX.2 ⟨x,h x h1,h2⟩] at hb;cases hb
theorem nB {b : Nat} {l : List Nat} (h : mR b l = false) : b ∉ l /\ ∀ j,kB b j ∉ l := by
 refine ⟨fun hb => ?_,fun j hb => ?_⟩
 ·rw [rX.2 ⟨b,hb,.inl rfl⟩] at h; cases h
 ·rw [rX.2 ⟨_,hb,.inr (by
   unfold vt kB xm;simp only [aa,decide_eq_true_eq];refine ⟨by omega,by omega,?_⟩;rw [Nat.add_sub_cancel_left];exact Nat.mul_mod_left _ _)⟩] at h
  cases h
theorem pX.of_eq {b j : Nat} {s t : St} (h : aJ t.H b = aJ s.H b) : pX b j s t := fun cs hc => ⟨cs,by rw [h]; exact hc,rfl⟩
theorem Vf (HC : pe c call) (HW : Al c call) (HL : Ao c call) {s s1 s2 u1 u2 : St} {x y : O} {f g f1 g1 : Fq} {vx vy : AV} (hx : Ev c call s x vx u1 f1) (Tt : nH (bM s.env x.dst f1) = true) (C6 : yH (bM s.env x.dst f1) f) (N8 : dv s1 (jT u1 x.dst vx)) (hy : Ev c call s1 y vy u2 g1) (U4 : nH (bM s1.env y.dst g1) = true) (C5 : yH (bM s1.env y.dst g1) g) (To : dv s2 (jT u2 y.dst vy)) (Oa : calm f1 = true) (Hj : calm g1 = true) (Br : jQ x y = true) (c6 : ja x f y g = true) :
  ∃ JK,TS c call s y g JK /\ TS c call JK x f s2 := by
 obtain ⟨ax,ay⟩ := vM Br;simp only [ja,aa] at c6;obtain ⟨⟨c6,Ze,CH⟩,_⟩ := c6;obtain ⟨cf,cg⟩ := It c6;obtain ⟨X,hX⟩ := HC _ _ _ _ _ hx Oa;obtain ⟨Y,hY⟩ := HC _ _ _ _ _ hy Hj;obtain ⟨r1,r2,r3,_⟩ := mX Tt Oa;obtain ⟨q1,q2,q3,_⟩ := mX U4 Hj
 have nwx : ∀ sl bs,bM s.env x.dst f1 ≠ .wr sl bs := fun sl bs e => by
  have := ur Tt;unfold bM at e;cases f1 <;> simp [calm] at Oa <;> (repeat' split at e) <;> simp_all
 have nwy : ∀ sl bs,bM s1.env y.dst g1 ≠ .wr sl bs := fun sl bs e => by
  unfold bM at e;cases g1 <;> simp [calm] at Hj <;> (repeat' split at e) <;> simp_all
 have ef : bM s.env x.dst f1 = f := C6.cw cf nwx;have eg : bM s1.env y.dst g1 = g := C5.cw cg nwy;have CL : ∀ i,get s1.env i = if x.dst = some i then vx else get s.env i := fun i => by rw [N8.1,dQ,hX.st.1]
 have H1 : s1.H = s.H ++ X := by rw [N8.2,iA,hX.st.2]
 have K1 : ∀ i,x.dst = some i -> y.dst ≠ some i := fun i h => (ax i h).2
 -- y from s
 have yr : ∀ i ∈ y.reads,get s.env i = get s1.env i := fun i hi => by
  rw [CL,if_neg];intro e;exact (ax i e).1 hi
 have yK : ∀ ps,g1 = .rd ps -> Seen ps s1 s := fun ps tX => by
  have vw : Ax g = ps := by rw [<- eg,q1,tX]; rfl
  refine Seen.mk' fun p hp => ⟨fun i e => ?_,fun i j e => ?_,fun b j e => ?_⟩
  ·rw [CL,if_neg];intro e2;have := iS Ze cg i e2;rw [vw] at this;exact (e9 this p hp).1 i e rfl
  ·rw [CL,if_neg];intro e2;have := iS Ze cg i e2;rw [vw] at this;exact (e9 this p hp).2 i j e rfl
  ·subst e;rw [H1];rcases hX.nw with ⟨e,_⟩ | ⟨z,e,e2⟩
   ·rw [e]; simp
   ·have := XY c6 (by rw [<- ef]; exact r2 _ e2);rw [vw] at this;exact (wP (mo this b j hp)).symm
 have yK : xl g1 s1 s := ⟨yK,fun b j hg => by
  refine .of_eq ?_;rw [H1];rcases hX.nw with ⟨e,_⟩ | ⟨z,e,e2⟩
  ·rw [e]; simp
  ·have := XY c6 (by rw [<- ef]; exact r2 _ e2);rw [show Ax g = [.c b 0] by rw [<- eg,q1,hg]; rfl] at this;exact (wP (mo this b 0 (by simp))).symm⟩
 have yal : ∀ n,g1 = .al n -> s.H.length = n := fun n hn => by
  rcases hX.nw with ⟨e,_⟩ | ⟨z,e,e2⟩
  ·rcases hY.nw with ⟨e3,e4⟩ | ⟨z3,e3,e4⟩
   ·exact absurd hn (e4 n)
   ·rw [e4] at hn; cases hn; rw [H1,e]; simp
  ·exfalso;exact X7 c6 (by rw [<- ef]; exact r2 _ e2) (by rw [<- eg]; exact q2 n hn)
 have IP := hY.go s (fun i hi => by rw [yr i hi]) yK yal
 have gy : ∀ i,y.dst = some i -> get s1.env i = get s.env i := fun i hi => by
  rw [CL,if_neg];intro e;exact K1 i e hi
 have QN : bM s.env y.dst g1 = bM s1.env y.dst g1 := jN fun i hi => (gy i hi).symm;refine ⟨jT ⟨s.env,s.H ++ Y⟩ y.dst vy,TS.mk HC HW HL IP (by rw [QN]; exact U4) (by rw [QN]; exact C5) dv.rfl',?_⟩
 -- x from there
 generalize ht : jT ⟨s.env,s.H ++ Y⟩ y.dst vy = t;have gt : ∀ i,get t.env i = if y.dst = some i then vy else get s.env i := fun i => by rw [<- ht,dQ]
 have Ht : t.H = s.H ++ Y := by rw [<- ht,iA]
 have Hl : s.H.length <= s1.H.length := by rw [H1]; simp
 have xr : ∀ i ∈ x.reads,get t.env i = get s.env i := fun i hi => by
  rw [gt,if_neg];intro e;exact (ay i e).1 hi
 have yL : ∀ ps,f1 = .rd ps -> Seen ps s t := fun ps tX => by
  have vw : Ax f = ps := by rw [<- ef,r1,tX]; rfl
  refine Seen.mk' fun p hp => ⟨fun i e => ?_,fun i j e => ?_,fun b j e => ?_⟩
  ·rw [gt,if_neg];intro e2;have := iS CH cf i e2;rw [vw] at this;exact (e9 this p hp).1 i e rfl
  ·rw [gt,if_neg];intro e2;have := iS CH cf i e2;rw [vw] at this;exact (e9 this p hp).2 i j e rfl
  ·subst e;rw [Ht];rcases hY.nw with ⟨e,_⟩ | ⟨z,e,e2⟩
   ·rw [e]; simp
   ·have h6 := SL c6 (by rw [<- eg]; exact q2 _ e2);rw [vw] at h6;have h7 := mo h6 b j hp;rcases hX.nw with ⟨e3,_⟩ | ⟨z3,e3,e4⟩
    ·rw [H1,e3] at h7;exact wP (by simpa using h7)
    ·rw [tX] at e4; cases e4
 have yL : xl f1 s t := ⟨yL,fun b j hg => by
  refine .of_eq ?_;rw [Ht];rcases hY.nw with ⟨e,_⟩ | ⟨z,e,e2⟩
  ·rw [e]; simp
  ·have h6 := SL c6 (by rw [<- eg]; exact q2 _ e2);rw [show Ax f = [.c b 0] by rw [<- ef,r1,hg]; rfl] at h6;have h7 := mo h6 b 0 (by simp);rcases hX.nw with ⟨e3,_⟩ | ⟨z3,e3,e4⟩
   ·rw [H1,e3] at h7;exact wP (by simpa using h7)
   ·rw [hg] at e4; cases e4⟩
 have xal : ∀ n,f1 = .al n -> t.H.length = n := fun n hn => by
  rcases hX.nw with ⟨_,e⟩ | ⟨z,e,e2⟩
  ·exact absurd hn (e n)
  ·rcases hY.nw with ⟨e3,_⟩ | ⟨z3,e3,e4⟩
   ·rw [Ht,e3]; rw [hn] at e2; cases e2; simp
   ·exfalso;exact X7 c6 (by rw [<- ef]; exact r2 _ hn) (by rw [<- eg]; exact q2 _ e4)
 have Ds := hX.go t (fun i hi => by rw [xr i hi]) yL xal
 have gx : ∀ i,x.dst = some i -> get t.env i = get s.env i := fun i hi => by
  rw [gt,if_neg];exact K1 i hi
 have QO : bM t.env x.dst f1 = bM s.env x.dst f1 := jN gx;refine TS.mk HC HW HL Ds (by rw [QO]; exact Tt) (by rw [QO]; exact C6) ⟨fun i => ?_,?_⟩
 ·rw [To.1,dQ,hY.st.1,dQ];show (if y.dst = some i then vy else get s1.env i) = (if x.dst = some i then vx else get t.env i);rw [CL,gt];by_cases e1 : x.dst = some i
  ·have := K1 i e1;simp [e1,this]
  ·simp [e1]
 ·rw [To.2,iA,hY.st.2,iA];show s1.H ++ Y = t.H ++ X;rw [H1,Ht];rcases hX.nw with ⟨e,_⟩ | ⟨z,e,e2⟩
  ·rw [e]; simp
  ·rcases hY.nw with ⟨e3,_⟩ | ⟨z3,e3,e4⟩
   ·rw [e3]; simp
   ·exact absurd (by rw [<- eg]; exact q2 _ e4) (X7 c6 (by rw [<- ef]; exact r2 _ e2))
theorem yH.sub {sl sl' : List Nat} {bs bs' : Option (List Nat)} (h : yH (.wr sl bs) (.wr sl' bs')) : ∀ i ∈ sl,i ∈ sl' := h.1
theorem yH.HD {f : Fq} {sl : List Nat} {bs : Option (List Nat)} (h : yH (.wr sl bs) f) (hc : nH f = true) : ∃ sl' bs',f = .wr sl' bs' := by
 cases f <;> simp [yH,nH] at h hc ⊢
theorem agx {f : Fq} {sl : List Nat} {bs : Option (List Nat)} (h : f.ok (.wr sl bs) = true) : (∀ ps,f ≠ .bo ps) /\ (∀ n,f ≠ .al n) := by
 cases f <;> simp [Fq.ok] at h ⊢
theorem XW {f : Fq} {sl : List Nat} {bs : Option (List Nat)} (h : Fq.ok (.wr sl bs) f = true) : (∀ ps,f ≠ .bo ps) /\ (∀ n,f ≠ .al n) /\ ∀ sl bs,f ≠ .wr sl bs := by
 cases f <;> simp [Fq.ok] at h ⊢
theorem abE (HC : pe c call) (HW : Al c call) (HL : Ao c call) {s s1 s2 u1 u2 : St} {x y : O} {f g f1 : Fq} {Uf : List Nat} {Gz : Option (List Nat)} {vx vy : AV} (hx : Ev c call s x vx u1 f1) (Tt : nH (bM s.env x.dst f1) = true) (C6 : yH (bM s.env x.dst f1) f) (N8 : dv s1 (jT u1 x.dst vx)) (hy : Ev c call s1 y vy u2 (.wr Uf Gz)) (U4 : nH (bM s1.env y.dst (.wr Uf Gz)) = true) (C5 : yH (bM s1.env y.dst (.wr Uf Gz)) g) (To : dv s2 (jT u2 y.dst vy)) (Oa : calm f1 = true) (Br : jQ x y = true) (c6 : ja x f y g = true) :
  ∃ JK,TS c call s y g JK /\ TS c call JK x f s2 := by
 obtain ⟨ax,ay⟩ := vM Br;simp only [ja,aa] at c6;obtain ⟨⟨c6,Ze,CH⟩,_,hw⟩ := c6;obtain ⟨cf,cg⟩ := It c6;obtain ⟨X,hX⟩ := HC _ _ _ _ _ hx Oa;obtain ⟨V,hV⟩ := HW _ _ _ _ _ _ hy;obtain ⟨r1,r2,r3,r4⟩ := mX Tt Oa;obtain ⟨q1,q2⟩ := nN U4;rw [q1] at C5;obtain ⟨sl,bs,rfl⟩ := C5.HD cg;obtain ⟨o1,o2⟩ := agx c6
 have nwx : ∀ sl bs,bM s.env x.dst f1 ≠ .wr sl bs := fun sl bs e => by
  unfold bM at e;cases f1 <;> simp [calm] at Oa <;> (repeat' split at e) <;> simp_all
 have ef : bM s.env x.dst f1 = f := C6.cw cf nwx;obtain ⟨e1,hbx⟩ := r4 (fun ps e => o1 ps (ef ▸ e));have ef' : f1 = f := e1 ▸ ef
 have hX0 : X = [] := by
  rcases hX.nw with ⟨e,_⟩ | ⟨z,e,e2⟩
  ·exact e
  ·exact absurd (ef' ▸ e2) (o2 _)
 subst hX0;obtain ⟨w1,w2,w3,w4⟩ := HE hw;have sub : ∀ {i : Nat},i ∉ sl -> i ∉ Uf := fun h hi => h (C5.sub _ hi);have K1 : ∀ i,x.dst = some i -> y.dst ≠ some i := fun i h => (ax i h).2;have CL : ∀ i,get s1.env i = if x.dst = some i then vx else get s.env i := fun i => by rw [N8.1,dQ,hX.st.1]
 have H1 : s1.H = s.H := by rw [N8.2,iA,hX.st.2]; simp
 -- y from s
 have C8 : ∃ t1 sl',Ev c call s y vy t1 (.wr sl' Gz) /\ (∀ i ∈ sl',i ∈ Uf) /\ (∀ i,get t1.env i = if x.dst = some i then get s.env i else get u2.env i) /\ t1.H = u2.H := by
  cases hd : x.dst with
  | none =>
    refine ⟨u2,Uf,hy.same ⟨fun i => ?_,H1⟩ dv.rfl',fun i hi => hi,fun i => by simp,rfl⟩;rw [CL,hd]; simp
  | some d =>
    obtain ⟨t1,sl',h1,h2,h3⟩ := hV.go d (get s.env d) (fun h => (ax d hd).1 h) (sub (w2 d hd).1) (sub (w2 d hd).2) (fun p hp => by rw [hbx d hd] at hp; simp at hp);refine ⟨t1,sl',h1.same ⟨fun i => ?_,H1⟩ dv.rfl',h2,fun i => ?_,h3.2⟩
    ·show get (put s1.env d (get s.env d)) i = get s.env i;rw [bw];split
     ·rename_i e; rw [e]
     ·rename_i e;rw [CL,hd,if_neg];simp; exact fun h => e h.symm
    ·rw [h3.1];show get (put u2.env d (get s.env d)) i = _;rw [bw];by_cases e : i = d
     ·subst e; simp
     ·have : d ≠ i := fun h => e h.symm;simp [e,this]
 obtain ⟨t1,sl',IP,hsl',gt1,Ht1⟩ := C8
 have gy : ∀ i,y.dst = some i -> get s1.env i = get s.env i := fun i hi => by
  rw [CL,if_neg];intro e;exact K1 i e hi
 have QN : bM s.env y.dst (.wr sl' Gz) = .wr sl' Gz := BH (sl' := sl') (bs' := Gz) (e' := s.env) fun i hi => by rw [<- gy i hi]; exact q2 i hi
 have ley : yH (.wr sl' Gz) (.wr sl bs) := ⟨fun i hi => C5.1 i (hsl' i hi),C5.2⟩;refine ⟨jT t1 y.dst vy,TS.mk HC HW HL IP (by rw [QN]; rfl) (by rw [QN]; exact ley) dv.rfl',?_⟩;generalize ht : jT t1 y.dst vy = t;have gt : ∀ i,get t.env i = if y.dst = some i then vy else if x.dst = some i then get s.env i else get u2.env i := fun i => by rw [<- ht,dQ,gt1]
 have Ht : t.H = u2.H := by rw [<- ht,iA,Ht1]
 have NS : ∀ i,i ∉ sl -> i + kZ ∉ sl -> y.dst ≠ some i -> get t.env i = get s.env i := fun i hi hi2 hd => by
  rw [gt,if_neg hd];split
  ·rfl
  ·rename_i e;rw [hV.env i (sub hi) (sub hi2),CL,if_neg e]
 have Z6 : ∀ i,i ∉ sl -> y.dst ≠ some i -> ep i (get t.env i) = ep i (get s.env i) := fun i hi hd => by
  rw [gt,if_neg hd];split
  ·rfl
  ·rename_i e;rw [hV.hd i (sub hi),CL,if_neg e]
 have xr : ∀ i ∈ x.reads,ep i (get t.env i) = ep i (get s.env i) := fun i hi => Z6 i (w1 i hi) fun e => (ay i e).1 hi
 have yL : ∀ ps,f1 = .rd ps -> Seen ps s t := fun ps tX => by
  have vw : f = .rd ps := by rw [<- ef']; exact tX
  refine Seen.mk' fun p hp => ?_;obtain ⟨a1,a2,a3⟩ := sY (w3 ps vw) p hp
  have ns : ∀ i,y.dst = some i -> (∀ k,p = .s k -> k ≠ i) /\ ∀ k j,p = .sc k j -> k ≠ i := fun i hi => by
   have := iS CH cf i hi;rw [vw] at this;exact e9 this p hp
  refine ⟨fun i e => NS i (a1 i e).1 (a1 i e).2 fun h => (ns i h).1 i e rfl,fun i j e => NS i (a2 i j e).1 (a2 i j e).2 fun h => (ns i h).2 i j e rfl,fun b j e => ?_⟩;obtain ⟨l,e5,e6,_⟩ := a3 b j e;subst e5;have h8 := C5.2;cases Gz with
  | none => simp at h8
  | some l0 =>
    rw [Ht,hV.heap l0 rfl b (Jr h8 e6),H1]
 have yL : xl f1 s t := ⟨yL,fun b j tX => by
  have vw : f = .rc b j := by rw [<- ef']; exact tX
  obtain ⟨l,e5,e6,e7,e8⟩ := w4 b j vw;subst e5;have h8 := C5.2;cases Gz with
  | none => simp at h8
  | some l0 =>
    have h9 := (hV.cell l0 rfl b j (fun h => e6 (h8 b h)) (fun h => e8 (h8 _ h))).1;intro cs hc;rw [<- H1] at hc;rw [Ht];exact h9 cs hc⟩
 have xal : ∀ n,f1 = .al n -> t.H.length = n := fun n hn => absurd (ef' ▸ hn) (o2 n);have Ds := hX.go t xr yL xal;have gx : ∀ i,x.dst = some i -> get t.env i = get s.env i := fun i hi => NS i (w2 i hi).1 (w2 i hi).2 (K1 i hi);have QO : bM t.env x.dst f1 = bM s.env x.dst f1 := jN gx;refine TS.mk HC HW HL Ds (by rw [QO]; exact Tt) (by rw [QO]; exact C6) ⟨fun i => ?_,?_⟩
 ·rw [To.1,dQ,dQ];show (if y.dst = some i then vy else get u2.env i) = (if x.dst = some i then vx else get t.env i);rw [gt];by_cases e1 : x.dst = some i
  ·have := K1 i e1;simp only [e1,this,if_true,if_false];rw [hV.env i (sub (w2 i e1).1) (sub (w2 i e1).2),CL,if_pos e1]
  ·simp [e1]
 ·rw [To.2,iA,iA];show u2.H = t.H ++ [];rw [Ht]; simp
theorem abC (HC : pe c call) (HW : Al c call) (HL : Ao c call) {s s1 s2 u1 u2 : St} {x y : O} {f g g1 : Fq} {Uf : List Nat} {Gz : Option (List Nat)} {vx vy : AV} (hx : Ev c call s x vx u1 (.wr Uf Gz)) (Tt : nH (bM s.env x.dst (.wr Uf Gz)) = true) (C6 : yH (bM s.env x.dst (.wr Uf Gz)) f) (N8 : dv s1 (jT u1 x.dst vx)) (hy : Ev c call s1 y vy u2 g1) (U4 : nH (bM s1.env y.dst g1) = true) (C5 : yH (bM s1.env y.dst g1) g) (To : dv s2 (jT u2 y.dst vy)) (Hj : calm g1 = true) (Br : jQ x y = true) (c6 : ja x f y g = true) :
  ∃ JK,TS c call s y g JK /\ TS c call JK x f s2 := by
 obtain ⟨ax,ay⟩ := vM Br;simp only [ja,aa] at c6;obtain ⟨⟨c6,Ze,CH⟩,hw,_⟩ := c6;obtain ⟨cf,cg⟩ := It c6;obtain ⟨V,hV⟩ := HW _ _ _ _ _ _ hx;obtain ⟨Y,hY⟩ := HC _ _ _ _ _ hy Hj;obtain ⟨r1,r2⟩ := nN Tt;obtain ⟨q1,q2,q3,q4⟩ := mX U4 Hj;rw [r1] at C6;obtain ⟨sl,bs,rfl⟩ := C6.HD cf;obtain ⟨o1,o2,_⟩ := XW c6
 have nwy : ∀ sl bs,bM s1.env y.dst g1 ≠ .wr sl bs := fun sl bs e => by
  unfold bM at e;cases g1 <;> simp [calm] at Hj <;> (repeat' split at e) <;> simp_all
 have eg : bM s1.env y.dst g1 = g := C5.cw cg nwy;obtain ⟨e1,_⟩ := q4 (fun ps e => o1 ps (eg ▸ e));have eg' : g1 = g := e1 ▸ eg
 have hY0 : Y = [] := by
  rcases hY.nw with ⟨e,_⟩ | ⟨z,e,e2⟩
  ·exact e
  ·exact absurd (eg' ▸ e2) (o2 _)
 subst hY0;obtain ⟨w1,w2,w3,w4⟩ := HE hw;have sub : ∀ {i : Nat},i ∉ sl -> i ∉ Uf := fun h hi => h (C6.sub _ hi);have K1 : ∀ i,x.dst = some i -> y.dst ≠ some i := fun i h => (ax i h).2;have CL : ∀ i,get s1.env i = if x.dst = some i then vx else get u1.env i := fun i => by rw [N8.1,dQ]
 have H1 : s1.H = u1.H := by rw [N8.2,iA]
 have NS : ∀ i,i ∉ sl -> i + kZ ∉ sl -> x.dst ≠ some i -> get s.env i = get s1.env i := fun i hi hi2 hd => by rw [CL,if_neg hd,hV.env i (sub hi) (sub hi2)]
 have Z6 : ∀ i,i ∉ sl -> x.dst ≠ some i -> ep i (get s.env i) = ep i (get s1.env i) := fun i hi hd => by rw [CL,if_neg hd,hV.hd i (sub hi)]
 have adt : ∀ b j,g1 = .rc b j -> ∃ l,Gz = some l /\ b ∉ l /\ b + kZ ∉ l /\ kB b j ∉ l := fun b j tX => by
  obtain ⟨l,e5,e6,e7,e8⟩ := w4 b j (by rw [<- eg']; exact tX);subst e5;have h8 := C6.2;cases Gz with
  | none => simp at h8
  | some l0 => exact ⟨l0,rfl,fun h => e6 (h8 b h),fun h => e7 (h8 _ h),fun h => e8 (h8 _ h)⟩
 have boxes : ∀ {ps : List Rt},g1 = .rd ps -> ∀ b j,Rt.c b j ∈ ps -> ∃ l,Gz = some l /\ mR b l = false /\ (j = 0 -> b + kZ ∉ l) := fun {ps} tX b j hp => by
  have vw : g = .rd ps := by rw [<- eg']; exact tX
  obtain ⟨_,_,a3⟩ := sY (w3 ps vw) _ hp;obtain ⟨l,e5,e6,e7⟩ := a3 b j rfl;subst e5;have h8 := C6.2;cases Gz with
  | none => simp at h8
  | some l0 => exact ⟨l0,rfl,Jr h8 e6,fun e h => e7 e (h8 _ h)⟩
 have yr : ∀ i ∈ y.reads,ep i (get s.env i) = ep i (get s1.env i) := fun i hi => Z6 i (w1 i hi) fun e => (ax i e).1 hi
 have yK : ∀ ps,g1 = .rd ps -> Seen ps s1 s := fun ps tX => by
  have vw : g = .rd ps := by rw [<- eg']; exact tX
  refine Seen.mk' fun p hp => ?_;obtain ⟨a1,a2,_⟩ := sY (w3 ps vw) p hp
  have ns : ∀ i,x.dst = some i -> (∀ k,p = .s k -> k ≠ i) /\ ∀ k j,p = .sc k j -> k ≠ i := fun i hi => by
   have := iS Ze cg i hi;rw [vw] at this;exact e9 this p hp
  refine ⟨fun i e => NS i (a1 i e).1 (a1 i e).2 fun h => (ns i h).1 i e rfl,fun i j e => NS i (a2 i j e).1 (a2 i j e).2 fun h => (ns i h).2 i j e rfl,fun b j e => ?_⟩;subst e;obtain ⟨l,e5,e6,_⟩ := boxes tX b j hp;rw [H1,hV.heap l e5 b e6]
 have yK : xl g1 s1 s := ⟨yK,fun b j tX => by
  obtain ⟨l,e5,e6,e7,e8⟩ := adt b j tX;intro cs hc;rw [H1] at hc;exact (hV.cell l e5 b j e6 e8).2 cs hc⟩
 have yal : ∀ n,g1 = .al n -> s.H.length = n := fun n hn => absurd (eg' ▸ hn) (o2 n);have IP := hY.go s yr yK yal;have gy : ∀ i,y.dst = some i -> get s1.env i = get s.env i := fun i hi => (NS i (w2 i hi).1 (w2 i hi).2 (fun e => K1 i e hi)).symm;have QN : bM s.env y.dst g1 = bM s1.env y.dst g1 := jN fun i hi => (gy i hi).symm;refine ⟨jT ⟨s.env,s.H ++ []⟩ y.dst vy,TS.mk HC HW HL IP (by rw [QN]; exact U4) (by rw [QN]; exact C5) dv.rfl',?_⟩
 have afX : ∀ p ∈ aK vy,¬ V p := by
  obtain ⟨Y',hYs⟩ := HC _ _ _ _ _ IP Hj;refine hYs.val V (fun i hi => hV.v1 i (sub (w1 i hi))) (fun ps tX b hp cs hb => ?_) fun b j tX cs c0 hb hc => ?_
  ·obtain ⟨l0,e5,e6,e7⟩ := boxes tX b 0 hp;exact hV.v2 l0 e5 b e6 (e7 rfl) cs hb
  ·obtain ⟨l0,e5,e6,e7,e8⟩ := adt b j tX;exact hV.v3 l0 e5 b j e6 e7 e8 cs c0 hb hc
 have C8 : ∃ t1 sl',Ev c call (jT ⟨s.env,s.H ++ []⟩ y.dst vy) x vx t1 (.wr sl' Gz) /\ (∀ i ∈ sl',i ∈ Uf) /\ dv t1 (jT u1 y.dst vy) := by
  cases hd : y.dst with
  | none => exact ⟨u1,Uf,hx.same ⟨fun i => rfl,by simp [jT]⟩ dv.rfl',fun i hi => hi,dv.rfl'⟩
  | some d =>
    obtain ⟨t1,sl',h1,h2,h3⟩ := hV.go d vy (fun h => (ay d hd).1 h) (sub (w2 d hd).1) (sub (w2 d hd).2) afX;exact ⟨t1,sl',h1.same ⟨fun i => rfl,by simp [jT]⟩ dv.rfl',h2,h3⟩
 obtain ⟨t1,sl',Ds,hsl',ht1⟩ := C8;have gx : ∀ i,x.dst = some i -> get (jT ⟨s.env,s.H ++ []⟩ y.dst vy).env i = get s.env i := fun i hi => by rw [dQ,if_neg (K1 i hi)]
 have QO : bM (jT ⟨s.env,s.H ++ []⟩ y.dst vy).env x.dst (.wr sl' Gz) = .wr sl' Gz := BH (sl' := sl') (bs' := Gz) (e' := s.env) fun i hi => by rw [gx i hi]; exact r2 i hi
 have lex : yH (.wr sl' Gz) (.wr sl bs) := ⟨fun i hi => C6.1 i (hsl' i hi),C6.2⟩;refine TS.mk HC HW HL Ds (by rw [QO]; rfl) (by rw [QO]; exact lex) ⟨fun i => ?_,?_⟩
 ·rw [To.1,dQ,hY.st.1,dQ,ht1.1,dQ];show (if y.dst = some i then vy else get s1.env i) = (if x.dst = some i then vx else if y.dst = some i then vy else get u1.env i);rw [CL];by_cases e1 : x.dst = some i
  ·have := K1 i e1;simp [e1,this]
  ·simp [e1]
 ·rw [To.2,iA,hY.st.2,iA,ht1.2,iA];show s1.H ++ [] = u1.H;rw [H1]; simp
theorem yH.MQ {f : Fq} {b : Nat} (h : yH (.lw b) f) (hc : nH f = true) : f = .lw b := by
 cases f <;> simp [yH,nH] at h hc ⊢
 exact h.symm
theorem adh {f : Fq} {b : Nat} (h : f.ok (.lw b) = true) : (∀ ps,f ≠ .bo ps) /\ (∀ n,f = .al n -> b < n) /\ (∀ ps,f = .rd ps -> pF b ps = true) /\ (∀ d j,f = .rc d j -> d ≠ b) /\ (∀ sl bs,f ≠ .wr sl bs) /\ ∀ d,f ≠ .lw d := by
 cases f <;> simp [Fq.ok] at h ⊢ <;> exact h
theorem X1 {f : Fq} {b : Nat} (h : Fq.ok (.lw b) f = true) : (∀ ps,f ≠ .bo ps) /\ (∀ n,f = .al n -> b < n) /\ (∀ ps,f = .rd ps -> pF b ps = true) /\ (∀ d j,f = .rc d j -> d ≠ b) /\ (∀ sl bs,f ≠ .wr sl bs) /\ ∀ d,f ≠ .lw d := by
 cases f <;> simp [Fq.ok] at h ⊢ <;> exact h
theorem yd {b : Nat} : ∀ {ps : List Rt},pF b ps = true -> ∀ d j,Rt.c d j ∈ ps -> d ≠ b
 | [],_,d,j,h => by simp at h
 | q :: r,h,d,j,hp => by
   rcases aX.1 hp with e | e
   ·subst e; simp only [pF,aa,decide_eq_true_eq] at h; exact h.1
   ·have h' : pF b r = true := by cases q <;> simp only [pF,aa] at h <;> first | exact h | exact h.2
    exact yd h' d j e
theorem abF (HC : pe c call) (HW : Al c call) (HL : Ao c call) {s s1 s2 u1 u2 : St} {x y : O} {f g f1 : Fq} {b : Nat} {vx vy : AV} (hx : Ev c call s x vx u1 f1) (Tt : nH (bM s.env x.dst f1) = true) (C6 : yH (bM s.env x.dst f1) f) (N8 : dv s1 (jT u1 x.dst vx)) (hy : Ev c call s1 y vy u2 (.lw b)) (U4 : nH (bM s1.env y.dst (.lw b)) = true) (C5 : yH (bM s1.env y.dst (.lw b)) g) (To : dv s2 (jT u2 y.dst vy)) (Oa : calm f1 = true) (Br : jQ x y = true) (c6 : ja x f y g = true) :
  ∃ JK,TS c call s y g JK /\ TS c call JK x f s2 := by
 obtain ⟨ax,ay⟩ := vM Br;simp only [ja,aa] at c6;obtain ⟨⟨c6,Ze,CH⟩,_⟩ := c6;obtain ⟨cf,cg⟩ := It c6;obtain ⟨X,hX⟩ := HC _ _ _ _ _ hx Oa;obtain ⟨cs,cs',hY⟩ := HL _ _ _ _ _ hy;obtain ⟨r1,r2,r3,r4⟩ := mX Tt Oa;obtain ⟨q1,q2⟩ := uq U4;have hly' := C5;rw [q1] at hly';have hg := hly'.MQ cg;subst hg;obtain ⟨o1,o2,o3,o4,_,_⟩ := adh c6
 have nwx : ∀ sl bs,bM s.env x.dst f1 ≠ .wr sl bs := fun sl bs e => by
  unfold bM at e;cases f1 <;> simp [calm] at Oa <;> (repeat' split at e) <;> simp_all
 have ef : bM s.env x.dst f1 = f := C6.cw cf nwx;obtain ⟨e1,_⟩ := r4 (fun ps e => o1 ps (ef ▸ e));have ef' : f1 = f := e1 ▸ ef;subst ef';have CL : ∀ i,get s1.env i = if x.dst = some i then vx else get s.env i := fun i => by rw [N8.1,dQ,hX.st.1]
 have H1 : s1.H = s.H ++ X := by rw [N8.2,iA,hX.st.2]
 have K1 : ∀ i,x.dst = some i -> y.dst ≠ some i := fun i h => (ax i h).2
 have blt : b < s.H.length := by
  have h1 := dY hY.bl;rcases hX.nw with ⟨e,_⟩ | ⟨z,e,e2⟩
  ·rw [H1,e] at h1; simpa using h1
  ·exact o2 _ e2
 have KX : aJ s.H b = some cs := by
  have h1 := hY.bl;rw [H1,wP blt] at h1;exact h1
 have yr : ∀ i ∈ y.reads,get s.env i = get s1.env i := fun i hi => by
  rw [CL,if_neg];intro e;exact (ax i e).1 hi
 have IP := hY.go s yr KX
 have gy : ∀ i,y.dst = some i -> get s1.env i = get s.env i := fun i hi => by
  rw [CL,if_neg];intro e;exact K1 i e hi
 have QN : bM s.env y.dst (.lw b) = bM s1.env y.dst (.lw b) := jN fun i hi => (gy i hi).symm;refine ⟨jT ⟨s.env,s.H.set b (some cs')⟩ y.dst vy,TS.mk HC HW HL IP (by rw [QN]; exact U4) (by rw [QN]; exact C5) dv.rfl',?_⟩;generalize ht : jT ⟨s.env,s.H.set b (some cs')⟩ y.dst vy = t;have gt : ∀ i,get t.env i = if y.dst = some i then vy else get s.env i := fun i => by rw [<- ht,dQ]
 have Ht : t.H = s.H.set b (some cs') := by rw [<- ht,iA]
 have xr : ∀ i ∈ x.reads,get t.env i = get s.env i := fun i hi => by
  rw [gt,if_neg];intro e;exact (ay i e).1 hi
 have hbx : ∀ d,d ≠ b -> aJ t.H d = aJ s.H d := fun d hd => by rw [Ht,dD,if_neg (fun h => hd h.1)]
 have yL : xl f1 s t := by
  refine ⟨fun ps tX => Seen.mk' fun p hp => ⟨fun i e => ?_,fun i j e => ?_,fun d j e => ?_⟩,fun d j hf => .of_eq (hbx d (o4 d j hf))⟩
  ·rw [gt,if_neg];intro e2;have := iS CH cf i e2;rw [tX] at this;exact (e9 (show fJ i ps = true from this) p hp).1 i e rfl
  ·rw [gt,if_neg];intro e2;have := iS CH cf i e2;rw [tX] at this;exact (e9 (show fJ i ps = true from this) p hp).2 i j e rfl
  ·subst e;exact hbx d (yd (o3 ps tX) d j hp)
 have xal : ∀ n,f1 = .al n -> t.H.length = n := fun n hn => by
  rcases hX.nw with ⟨_,e⟩ | ⟨z,e,e2⟩
  ·exact absurd hn (e n)
  ·rw [hn] at e2; cases e2; rw [Ht]; simp
 have Ds := hX.go t (fun i hi => by rw [xr i hi]) yL xal
 have gx : ∀ i,x.dst = some i -> get t.env i = get s.env i := fun i hi => by
  rw [gt,if_neg];exact K1 i hi
 have QO : bM t.env x.dst f1 = bM s.env x.dst f1 := jN gx;refine TS.mk HC HW HL Ds (by rw [QO]; exact Tt) (by rw [QO]; exact C6) ⟨fun i => ?_,?_⟩
 ·rw [To.1,dQ,hY.st.1,dQ];show (if y.dst = some i then vy else get s1.env i) = if x.dst = some i then vx else get t.env i;rw [CL,gt];by_cases h1 : x.dst = some i
  ·simp [h1,K1 i h1]
  ·simp [h1]
 ·rw [To.2,iA,hY.st.2,iA];show s1.H.set b (some cs') = t.H ++ X;rw [H1,Ht,Qs _ _ blt]
theorem abD (HC : pe c call) (HW : Al c call) (HL : Ao c call) {s s1 s2 u1 u2 : St} {x y : O} {f g g1 : Fq} {b : Nat} {vx vy : AV} (hx : Ev c call s x vx u1 (.lw b)) (Tt : nH (bM s.env x.dst (.lw b)) = true) (C6 : yH (bM s.env x.dst (.lw b)) f) (N8 : dv s1 (jT u1 x.dst vx)) (hy : Ev c call s1 y vy u2 g1) (U4 : nH (bM s1.env y.dst g1) = true) (C5 : yH (bM s1.env y.dst g1) g) (To : dv s2 (jT u2 y.dst vy)) (Hj : calm g1 = true) (Br : jQ x y = true) (c6 : ja x f y g = true) :
  ∃ JK,TS c call s y g JK /\ TS c call JK x f s2 := by
 obtain ⟨ax,ay⟩ := vM Br;simp only [ja,aa] at c6;obtain ⟨⟨c6,Ze,CH⟩,_⟩ := c6;obtain ⟨cf,cg⟩ := It c6;obtain ⟨cs,cs',hX⟩ := HL _ _ _ _ _ hx;obtain ⟨Y,hY⟩ := HC _ _ _ _ _ hy Hj;obtain ⟨q1,q2⟩ := uq Tt;have hlx' := C6;rw [q1] at hlx';have hf := hlx'.MQ cf;subst hf;obtain ⟨o1,o2,o3,o4,_,_⟩ := X1 c6;obtain ⟨r1,r2,r3,r4⟩ := mX U4 Hj
 have nwy : ∀ sl bs,bM s1.env y.dst g1 ≠ .wr sl bs := fun sl bs e => by
  unfold bM at e;cases g1 <;> simp [calm] at Hj <;> (repeat' split at e) <;> simp_all
 have eg : bM s1.env y.dst g1 = g := C5.cw cg nwy;obtain ⟨e1,_⟩ := r4 (fun ps e => o1 ps (eg ▸ e));have eg' : g1 = g := e1 ▸ eg;subst eg';have CL : ∀ i,get s1.env i = if x.dst = some i then vx else get s.env i := fun i => by rw [N8.1,dQ,hX.st.1]
 have H1 : s1.H = s.H.set b (some cs') := by rw [N8.2,iA,hX.st.2]
 have K1 : ∀ i,x.dst = some i -> y.dst ≠ some i := fun i h => (ax i h).2;have blt : b < s.H.length := dY hX.bl;have hbx : ∀ d,d ≠ b -> aJ s.H d = aJ s1.H d := fun d hd => by rw [H1,dD,if_neg (fun h => hd h.1)]
 have yr : ∀ i ∈ y.reads,get s.env i = get s1.env i := fun i hi => by
  rw [CL,if_neg];intro e;exact (ax i e).1 hi
 have yK : xl g1 s1 s := by
  refine ⟨fun ps tX => Seen.mk' fun p hp => ⟨fun i e => ?_,fun i j e => ?_,fun d j e => ?_⟩,fun d j hf => .of_eq (hbx d (o4 d j hf))⟩
  ·rw [CL,if_neg];intro e2;have := iS Ze cg i e2;rw [tX] at this;exact (e9 (show fJ i ps = true from this) p hp).1 i e rfl
  ·rw [CL,if_neg];intro e2;have := iS Ze cg i e2;rw [tX] at this;exact (e9 (show fJ i ps = true from this) p hp).2 i j e rfl
  ·subst e;exact hbx d (yd (o3 ps tX) d j hp)
 have yal : ∀ n,g1 = .al n -> s.H.length = n := fun n hn => by
  rcases hY.nw with ⟨_,e⟩ | ⟨z,e,e2⟩
  ·exact absurd hn (e n)
  ·rw [hn] at e2; cases e2; rw [H1]; simp
 have IP := hY.go s (fun i hi => by rw [yr i hi]) yK yal
 have gy : ∀ i,y.dst = some i -> get s1.env i = get s.env i := fun i hi => by
  rw [CL,if_neg];intro e;exact K1 i e hi
 have QN : bM s.env y.dst g1 = bM s1.env y.dst g1 := jN fun i hi => (gy i hi).symm;refine ⟨jT ⟨s.env,s.H ++ Y⟩ y.dst vy,TS.mk HC HW HL IP (by rw [QN]; exact U4) (by rw [QN]; exact C5) dv.rfl',?_⟩;generalize ht : jT ⟨s.env,s.H ++ Y⟩ y.dst vy = t;have gt : ∀ i,get t.env i = if y.dst = some i then vy else get s.env i := fun i => by rw [<- ht,dQ]
 have Ht : t.H = s.H ++ Y := by rw [<- ht,iA]
 have xr : ∀ i ∈ x.reads,get t.env i = get s.env i := fun i hi => by
  rw [gt,if_neg];intro e;exact (ay i e).1 hi
 have Ds := hX.go t xr (by rw [Ht,wP blt]; exact hX.bl)
 have gx : ∀ i,x.dst = some i -> get t.env i = get s.env i := fun i hi => by
  rw [gt,if_neg];exact K1 i hi
 have QO : bM t.env x.dst (.lw b) = bM s.env x.dst (.lw b) := jN gx;refine TS.mk HC HW HL Ds (by rw [QO]; exact Tt) (by rw [QO]; exact C6) ⟨fun i => ?_,?_⟩
 ·rw [To.1,dQ,hY.st.1,dQ];show (if y.dst = some i then vy else get s1.env i) = if x.dst = some i then vx else get t.env i;rw [CL,gt];by_cases h1 : x.dst = some i
  ·simp [h1,K1 i h1]
  ·simp [h1]
 ·rw [To.2,iA,hY.st.2,iA];show s1.H ++ Y = t.H.set b (some cs');rw [H1,Ht,Qs _ _ blt]
theorem afs (HC : pe c call) (HW : Al c call) (HL : Ao c call) : NX (TS c call) := by
 intro s x f s1 y g s2 hx hy Br c6;have Hg := c6;simp only [ja,aa] at Hg;obtain ⟨cf,cg⟩ := It Hg.1.1;obtain ⟨vx,u1,f1,x1,x2,x3,x4⟩ := hx.out HC HW HL cf;obtain ⟨vy,u2,g1,y1,y2,y3,y4⟩ := hy.out HC HW HL cg;have c1 := ur x2;have c2 := ur y2;by_cases Oa : calm f1 = true
 ·by_cases Hj : calm g1 = true
  ·exact Vf HC HW HL x1 x2 x3 x4 y1 y2 y3 y4 Oa Hj Br c6
  ·cases g1 <;> simp [calm,nH] at Hj c2
   case wr sl bs => exact abE HC HW HL x1 x2 x3 x4 y1 y2 y3 y4 Oa Br c6
   case bo => exact absurd rfl (y1.fl _)
   case lw b => exact abF HC HW HL x1 x2 x3 x4 y1 y2 y3 y4 Oa Br c6
 ·cases f1 <;> simp [calm,nH] at Oa c1
  case wr sl bs =>
   by_cases Hj : calm g1 = true
   ·exact abC HC HW HL x1 x2 x3 x4 y1 y2 y3 y4 Hj Br c6
   ·cases g1 <;> simp [calm,nH] at Hj c2
    case wr sl' bs' =>
     exfalso;rw [(nN x2).1] at x3;rw [(nN y2).1] at y3;obtain ⟨_,_,rfl⟩ := x3.HD cf;obtain ⟨_,_,rfl⟩ := y3.HD cg;exact (XW Hg.1.1).2.2 _ _ rfl
    case bo => exact absurd rfl (y1.fl _)
    case lw b =>
     exfalso;rw [(nN x2).1] at x3;rw [(uq y2).1] at y3;obtain ⟨_,_,rfl⟩ := x3.HD cf;have := y3.MQ cg;subst this;exact (adh Hg.1.1).2.2.2.2.1 _ _ rfl
  case bo => exact absurd rfl (x1.fl _)
  case lw b =>
   by_cases Hj : calm g1 = true
   ·exact abD HC HW HL x1 x2 x3 x4 y1 y2 y3 y4 Hj Br c6
   ·exfalso;rw [(uq x2).1] at x3;have hf := x3.MQ cf;subst hf;obtain ⟨_,_,_,_,o5,o6⟩ := X1 Hg.1.1;cases g1 <;> simp [calm,nH] at Hj c2
    case wr sl' bs' =>
     rw [(nN y2).1] at y3;obtain ⟨_,_,rfl⟩ := y3.HD cg;exact o5 _ _ rfl
    case bo => exact absurd rfl (y1.fl _)
    case lw d =>
     rw [(uq y2).1] at y3;exact o6 _ (y3.MQ cg)
end
end Go.Bm

/- What the value of a calm operation mentions was read. -/
namespace Go.Bm
open Go.Am
section
variable {P : Program} {c : dR} {call : Nat -> List AV -> Heap -> Option (AV × Heap)} {V : Rt -> Prop}
def Ll (V : Rt -> Prop) (x : AV) : Prop := ∀ p ∈ aK x,¬ V p
theorem fu {p : Rt} : ∀ {cs : List AV},p ∈ cY cs ↔ ∃ x ∈ cs,p ∈ aK x
 | [] => by simp [cY]
 | x :: r => by simp [cY,fu (cs := r)]
theorem Bc {f : Nat -> Rt} {p : Rt} : ∀ {cs : List AV} {j : Nat},p ∈ cY (dZ f j cs) -> p ∈ cY cs \/ ∃ i,p = f i
 | [],j,h => by simp [dZ,cY] at h
 | x :: r,j,h => by
   have ih := fun h => Bc (f := f) (p := p) (cs := r) (j := j + 1) h;cases x <;> simp only [dZ,cY,aK,aD,List.nil_append,aX,List.not_mem_nil,or_false] at h ih ⊢
   case own k xs =>
    rcases h with h | h
    ·exact .inr ⟨j,h⟩
    ·exact ih h
   all_goals first
    | exact ih h
    | (rcases h with h | h
       ·exact .inl (.inl h)
       ·rcases ih h with h | h
        ·exact .inl (.inr h)
        ·exact .inr h)
theorem Yx {i : Nat} {x : AV} {p : Rt} (h : p ∈ aK (ep i x)) : p ∈ aK x \/ p = .s i \/ ∃ j,p = .sc i j := by
 cases x <;> simp only [ep] at h
 case own k xs => simp [aK] at h; exact .inr (.inl h)
 case agg cs =>
  simp only [aK] at h ⊢;rcases Bc h with h | h
  ·exact .inl h
  ·exact .inr (.inr h)
 all_goals exact .inl h
def Df (V : Rt -> Prop) (env : Env) (l : List Nat) : Prop := ∀ i ∈ l,(∀ p ∈ aK (get env i),¬ V p) /\ ¬ V (.s i) /\ ∀ j,¬ V (.sc i j)
theorem Df.left {env : Env} {l m : List Nat} (h : Df V env (l ++ m)) : Df V env l := fun i hi => h i (by simp [hi])
theorem Df.right {env : Env} {l m : List Nat} (h : Df V env (l ++ m)) : Df V env m := fun i hi => h i (by simp [hi])
theorem ke {env : Env} {x : E} (hk : kE x = true) (h : Df V env x.slot) : Ll V (bp c env x) := by
 intro p hp;cases x with
 | t i =>
   simp only [bp] at hp;obtain ⟨h1,h2,h3⟩ := h i (by simp [E.slot]);rcases Yx hp with e | e | ⟨j,e⟩
   ·exact h1 p e
   ·subst e; exact h2
   ·subst e; exact h3 j
 | k x => simp only [bp] at hp; simp only [kE,eG] at hk; rw [hk] at hp; simp at hp
 | g i => simp [bp,aK] at hp
theorem Fh {env : Env} : ∀ {xs : List E},kEs xs = true -> Df V env (mM xs) -> ∀ p ∈ cY (dt c env xs),¬ V p
 | [],_,_,p,hp => by simp [dt,cY] at hp
 | x :: r,hk,h,p,hp => by
   simp only [kEs,aa] at hk;simp only [mM] at h;simp only [dt,cY,aD] at hp;rcases hp with hp | hp
   ·exact ke hk.1 h.left p hp
   ·exact Fh hk.2 h.right p hp
theorem Ll.cells {x : AV} (h : Ll V x) : ∀ d ∈ x.cells,Ll V d := by
 intro d hd p hp;by_cases ha : ∃ cs,x = .agg cs
 ·obtain ⟨cs,rfl⟩ := ha;exact h p (by simp only [aK]; exact fu.2 ⟨d,hd,hp⟩)
 ·have : x.cells = [x] := by cases x <;> first | rfl | exact absurd ⟨_,rfl⟩ ha
  rw [this] at hd;simp at hd;subst hd;exact h p hp
theorem NB {env : Env} : ∀ {ps : List (Nat × Nat × E)} {zs cs : List AV},kPs ps = true -> Df V env (py ps) -> (∀ d ∈ zs,Ll V d) -> oT c env zs ps = some cs -> ∀ d ∈ cs,Ll V d
 | [],zs,cs,_,_,hz,hf => by simp [oT] at hf; subst hf; exact hz
 | (o,n,x) :: r,zs,cs,hk,h,hz,hf => by
   simp only [kPs,aa] at hk;simp only [py] at h;simp only [oT] at hf;split at hf
   case isFalse => cases hf
   refine NB hk.2 h.right (fun d hd => ?_) hf;unfold jK at hd;simp only [aD] at hd;rcases hd with (hd | hd) | hd
   ·exact hz d (cP hd)
   ·exact (ke hk.1 h.left).cells d hd
   ·exact hz d (cQ hd)
theorem adV {ag : Option Nat} {cs : List AV} {v : AV} (h : ∀ d ∈ cs,Ll V d) (hv : Ay ag cs = some v) : Ll V v := by
 unfold Ay at hv;split at hv
 ·split at hv
  ·simp at hv; subst hv;intro p hp;simp only [aK] at hp;obtain ⟨d,hd,hp⟩ := fu.1 hp;exact h d (cP hd) p hp
  ·cases hv
 ·exact h v (List.mem_of_mem_head? hv)
theorem OQ {ag : Option Nat} {cs : List AV} {v : AV} (h : ∀ d ∈ cs,Ll V d) (hv : JV ag cs = some v) : Ll V v := by
 unfold JV at hv;split at hv
 ·rename_i u hu;split at hv
  ·cases hv
  ·simp at hv; subst hv; exact adV h hu
 ·cases hv
theorem Ll.nil {v : AV} (h : aK v = []) : Ll V v := fun p hp => by rw [h] at hp; simp at hp
theorem Z5 {op : BinOp} {x y v : AV} (h : oM op x y = some v) : aK v = [] := by
 unfold oM at h;split at h
 ·split at h
  ·split at h <;> simp at h; subst h; rfl
  ·split at h <;> simp at h; subst h; rfl
  ·split at h
   ·unfold arith at h
    split at h <;> first
     | (simp at h; subst h; rfl)
     | (split at h <;> simp at h <;> (subst h; rfl))
     | cases h
   ·cases h
 ·cases h
theorem aak {op : UnOp} {x v : AV} (h : Oq op x = some v) : aK v = [] := by
 unfold Oq at h;split at h <;> simp at h <;> (subst h; rfl)
theorem ML {mx : Bool} : ∀ {r : List AV} {k : IntKind} {a : Int} {v : AV},zK mx (.int k a) r = some v -> aK v = []
 | [],k,a,v,h => by simp [zK] at h; subst h; rfl
 | y :: r,k,a,v,h => by
   cases y <;> simp only [zK] at h <;> try (cases h; done)
   exact ML h
theorem MM {mx : Bool} {l : List AV} {v : AV} (h : yg mx l = some v) : aK v = [] := by
 unfold yg at h;split at h
 ·exact ML h
 ·cases h
theorem aeF {env : Env} {kd : Kd} {v : AV} (hv : Pc c env kd = some v) (hk : xe kd = true) (h : Df V env kd.reads) : Ll V v := by
 cases kd <;> simp only [Pc] at hv <;> simp only [xe,aa] at hk <;> simp only [Kd.reads] at h
 case mv x => simp at hv; subst hv; exact ke hk h
 case pick t a b =>
  split at hv
  ·simp at hv; subst hv;split
   ·exact ke hk.2.1 h.right.left
   ·exact ke hk.2.2 h.right.right
  ·cases hv
 case build zs ps =>
  split at hv
  ·rename_i cs hf;simp at hv; subst hv
   have hz : ∀ d ∈ zs,Ll V d := fun d hd p hp => by
    have := fu.2 ⟨d,hd,hp⟩;rw [eG.1 hk.1] at this;simp at this
   intro p hp;simp only [aK] at hp;obtain ⟨d,hd,hp⟩ := fu.1 hp;exact NB hk.2 h hz hf d hd p hp
  ·cases hv
 case mu x =>
  have ho := ke (c := c) hk h;split at hv
  ·simp at hv; subst hv; exact .nil rfl
  ·simp at hv; subst hv; exact .nil rfl
  ·rename_i e;simp at hv; subst hv;rw [e] at ho; exact ho
  ·cases hv
 case bin => exact .nil (Z5 hv)
 case eq => split at hv <;> simp at hv; subst hv; exact .nil rfl
 case un => exact .nil (aak hv)
 case De => split at hv <;> simp at hv; subst hv; exact .nil rfl
 case MK fn a b =>
  split at hv
  ·cases hv
  ·simp at hv; subst hv;intro p hp;simp only [aK,aD] at hp;rcases hp with hp | hp
   ·exact Fh hk.1 h.left p hp
   ·exact Fh hk.2 h.right p hp
 case GY k x lo hi =>
  have ho := ke (c := c) hk.1 h.left;split at hv
  case h_2 => cases hv
  split at hv
  case h_2 => cases hv
  split at hv
  case h_2 => cases hv
  split at hv
  ·split at hv <;> simp at hv; subst hv; exact .nil rfl
  ·split at hv <;> simp at hv; subst hv; exact .nil rfl
  ·rename_i e;rw [e] at ho;split at hv <;> simp at hv; subst hv
   intro p hp; exact ho p (by simpa [aK] using hp)
  ·split at hv <;> simp at hv; subst hv; exact .nil rfl
  ·cases hv
 case Hw n x hi =>
  cases hi with
  | some y => simp at hv
  | none =>
  (repeat' split at hv) <;> simp at hv
  obtain ⟨_,rfl⟩ := hv;exact .nil rfl
 case cH off x =>
  have ho := ke (c := c) hk h;split at hv
  ·simp at hv; subst hv; exact .nil rfl
  ·simp at hv; subst hv; exact .nil rfl
  ·rename_i e;rw [e] at ho;simp at hv; subst hv;intro p hp; exact ho p (by simpa [aK] using hp)
  ·cases hv
 case Vb off ag x =>
  have ho := ke (c := c) hk h;split at hv
  ·rename_i cs e;rw [e] at ho;exact OQ (fun d hd p hp => ho p (by simp only [aK]; exact fu.2 ⟨d,cQ hd,hp⟩)) hv
  ·cases hv
 case fa k x i =>
  have ho := ke (c := c) hk.1 h.left;split at hv
  ·(repeat' split at hv) <;> simp at hv; subst hv; exact .nil rfl
  ·rename_i e;rw [e] at ho
   (repeat' split at hv) <;> simp at hv; subst hv
   intro p hp; exact ho p (by simpa [aK] using hp)
  ·(repeat' split at hv) <;> simp at hv; subst hv; exact .nil rfl
  ·cases hv
 case He n k x i =>
  have ho := ke (c := c) hk.1 h.left;split at hv
  case h_2 => cases hv
  split at hv
  ·simp at hv; subst hv; exact .nil rfl
  ·simp at hv; subst hv; exact .nil rfl
  ·rename_i e;rw [e] at ho;simp at hv; subst hv;intro p hp; exact ho p (by simpa [aK] using hp)
  ·cases hv
 case ix n k ag x i =>
  have ho := ke (c := c) hk.1 h.left;split at hv
  case h_2 => cases hv
  split at hv
  ·rename_i cs e;rw [e] at ho;exact OQ (fun d hd p hp => ho p (by simp only [aK]; exact fu.2 ⟨d,cQ hd,hp⟩)) hv
  ·cases hv
 case UP tab i => (repeat' split at hv) <;> simp at hv; subst hv; exact .nil rfl
 case ext i x =>
  have ho := ke (c := c) hk h;split at hv
  ·rename_i vs e;rw [e] at ho;split at hv
   ·rename_i u hu;split at hv <;> simp at hv; subst hv
    intro p hp; exact ho p (by simp only [aK]; exact fu.2 ⟨u,aW hu,hp⟩)
   ·cases hv
  ·cases hv
 case len => split at hv <;> simp at hv; subst hv; exact .nil rfl
 case min => exact .nil (MM hv)
 case max => exact .nil (MM hv)
 all_goals (cases hv; done)
mutual
theorem Jl : ∀ x,clean x = true -> aK x = []
 | .c8 _ _ _ _,h => by simp [clean] at h
 | .ez _ _ _ _,h => by simp [clean] at h
 | .agg cs,h => by simp only [clean] at h; simp only [aK]; exact yz cs h
 | .dp cs,h => by simp only [clean] at h; simp only [aK]; exact yz cs h
 | .func _ _ _,h => by simp [clean] at h
 | .any,_ => rfl | .undef,_ => rfl | .eP,_ => rfl | .eT,_ => rfl | .dn,_ => rfl
 | .int _ _,_ => rfl | .bool _,_ => rfl | .str _,_ => rfl | .list _ _,_ => rfl | .dh _,_ => rfl | .ptr _ _,_ => rfl | .sl _ _ _ _,_ => rfl | .own _ _,_ => rfl
theorem yz : ∀ xs,fm xs = true -> cY xs = []
 | [],_ => rfl
 | x :: r,h => by simp only [fm,aa] at h; simp only [cY,Jl x h.1,yz r h.2,List.append_nil]
end
theorem Ve {s s1 : St} {kd : Kd} {v : AV} {f : Fq} (h : dm c call kd s = some (v,s1,f)) : aK v = [] \/ ∃ sl bs,f = .wr sl bs \/ f = .all := by
 unfold dm at h;split at h
 ·rename_i r hi;subst h;obtain ⟨sl,bs,e⟩ := zS hi;exact .inr ⟨sl,bs,e⟩
 split at h
 ·rename_i r hi;subst h;obtain ⟨_,_,_,_,_,_,_,_,_,_,_,_,_,_,_,hr,_,_⟩ := vl hi;exact .inl (O4 _ hr.1)
 unfold fj at h;split at h
 ·rename_i r hi;subst h;exact .inr ⟨[],none,.inr (wv hi).1⟩
 rcases jI h with h | h
 case inr => exact .inl (wa h).2
 unfold dG at h;split at h
 ·cases h
 split at h
 ·cases h
 split at h
 ·split at h
  ·cases h
  split at h
  case h_2 => cases h
  split at h
  case isFalse => cases h
  rename_i hr;simp at h;obtain ⟨rfl,_,_⟩ := h;simp only [Mx,aa] at hr;exact .inl (Jl _ hr.1)
 ·split at h
  ·cases h
  split at h
  case isFalse => cases h
  split at h
  ·split at h
   case isFalse => cases h
   split at h
   case h_2 => cases h
   split at h
   case isFalse => cases h
   rename_i hr;simp only [ai,aF] at h;simp only [aa] at hr;obtain ⟨rfl,_,_⟩ := h;exact .inl (eG.1 hr.1.1)
  ·split at h
   case isFalse => cases h
   split at h
   case h_2 => cases h
   split at h
   case isFalse => cases h
   rename_i hr;simp at h;obtain ⟨rfl,_,_⟩ := h;exact .inl (O4 _ hr)
theorem MT (f : Nat -> Rt) : ∀ (j : Nat) (cs : List AV),bI cs = false -> dZ f j cs = cs
 | _,[],_ => rfl
 | j,x :: r,h => by
   cases x with
   | own k xs => simp [bI] at h
   | _ => simp only [bI] at h; simp only [dZ,MT f (j + 1) r h]
theorem YA {x v : AV} {ps : List Rt} {b j : Nat} (h : vp x v ps = .rc b j) : ∃ k o l,x = .ptr b j /\ v = .c8 k (.c b j) o l := by
 unfold vp at h;split at h
 ·split at h
  ·rename_i hc;obtain ⟨rfl,rfl⟩ := hc;cases h;exact ⟨_,_,_,rfl,rfl⟩
  ·cases h
 ·cases h
theorem aeH {s s1 : St} {kd : Kd} {v : AV} {f : Fq} (hv : eR c call s kd = some (v,s1,f)) (hf : calm f = true) (hk : xe kd = true) (h : Df V s.env kd.reads)
  (hb : ∀ ps,f = .rd ps -> ∀ b,Rt.c b 0 ∈ ps -> ∀ cs,aJ s.H b = some cs -> (∀ p ∈ cY cs,¬ V p) /\ (bI cs = true -> ∀ j,¬ V (.c b j)))
  (G5 : ∀ b j,f = .rc b j -> ∀ cs c,aJ s.H b = some cs -> cs[j]? = some c -> (∀ p ∈ aK c,¬ V p) /\ (∀ k xs,c = .own k xs -> ¬ V (.c b j))) : Ll V v := by
 have pure : ∀ {kd : Kd},xe kd = true -> Df V s.env kd.reads -> (match Pc c s.env kd with
   | some v => some (v,s,Fq.no)
   | none => none) = some (v,s1,f) -> Ll V v := by
  intro kd hk h h2;split at h2
  case h_2 => cases h2
  rename_i u hu;simp at h2;obtain ⟨rfl,_,_⟩ := h2;exact aeF hu hk h
 have adu : ∀ {kd : Kd},dm c call kd s = some (v,s1,f) -> Ll V v := by
  intro kd h2;rcases Ve h2 with e | ⟨sl,bs,e | e⟩
  ·exact .nil e
  ·subst e; simp [calm] at hf
  ·subst e; simp [calm] at hf
 cases kd
 case call => simp only [eR] at hv; exact adu hv
 case jm => simp only [eR] at hv; exact adu hv
 case new => simp only [eR] at hv; simp at hv; obtain ⟨rfl,_,_⟩ := hv; exact .nil rfl
 case box => simp only [eR] at hv; split at hv <;> simp at hv; obtain ⟨rfl,_,_⟩ := hv; exact .nil rfl
 case c5 => simp only [eR] at hv; (repeat' split at hv) <;> simp at hv <;> (obtain ⟨rfl,_,_⟩ := hv; exact .nil rfl)
 case KF => simp only [eR] at hv; (repeat' split at hv) <;> simp at hv <;> (obtain ⟨rfl,_,_⟩ := hv; exact .nil rfl)
 case Vh => simp only [eR] at hv; (repeat' split at hv) <;> simp at hv <;> (obtain ⟨rfl,_,_⟩ := hv; exact .nil rfl)
 case app => simp only [eR] at hv; (repeat' split at hv) <;> simp at hv <;> (obtain ⟨rfl,_,_⟩ := hv; exact .nil rfl)
 case st => simp only [eR] at hv; (repeat' split at hv) <;> simp at hv <;> (obtain ⟨rfl,_,_⟩ := hv; exact .nil rfl)
 case copy => simp only [eR] at hv; (repeat' split at hv) <;> simp at hv <;> (obtain ⟨rfl,_,_⟩ := hv; exact .nil rfl)
 case Hw n x hi =>
  simp only [eR] at hv;split at hv
  ·(repeat' split at hv) <;> simp at hv <;> (obtain ⟨rfl,_,_⟩ := hv; exact .nil rfl)
  ·exact pure hk h hv
 case ld ag x =>
  simp only [eR] at hv;split at hv
  case h_2 => cases hv
  rename_i u ps hp;split at hv
  case isFalse => cases hv
  rename_i hl;simp at hv;obtain ⟨rfl,rfl,Y6⟩ := hv;by_cases hy : ∃ b off k o l,bp c s.env x = .ptr b off /\ u = .c8 k (.c b off) o l
  ·obtain ⟨b,off,k,o,l,e,rfl⟩ := hy;rw [e] at hp Y6;have hbc' := G5 b off (by rw [<- Y6]; simp [vp]);simp only [ya] at hp;split at hp
   case h_2 => cases hp
   rename_i cs dx;split at hp
   case h_2 => cases hp
   rename_i u' hu;simp at hp;obtain ⟨rfl,_⟩ := hp
   have hz : ((dZ (.c b) 0 cs).drop off)[0]? = some (.c8 k (.c b off) o l) := by
    unfold JV Ay at hu;cases ag with
    | some n => simp only at hu; (repeat' split at hu) <;> simp_all
    | none =>
      simp only at hu;rw [<- tZ]
      (repeat' split at hu) <;> simp_all
   rw [aS,Nat.add_zero] at hz
   have hg : ∀ (cs : List AV) (j i : Nat),(dZ (.c b) j cs)[i]? = some (.c8 k (.c b off) o l) -> ∃ c0,cs[i]? = some c0 /\ ((∃ k xs,c0 = .own k xs) \/ c0 = .c8 k (.c b off) o l) := by
    intro cs
    induction cs with
    | nil => intro j i h; simp [dZ] at h
    | cons d r ih =>
      intro j i h;cases i with
      | zero =>
        refine ⟨d,rfl,?_⟩
        cases d <;> first
         | exact .inl ⟨_,_,rfl⟩
         | (simp [dZ] at h; done)
         | (simp [dZ] at h; right; simp [h])
      | succ i =>
        obtain ⟨c0,h1,h2⟩ := ih (j + 1) i (by cases d <;> simpa [dZ] using h);exact ⟨c0,by simpa using h1,h2⟩
   obtain ⟨c0,h1,h2⟩ := hg cs 0 off hz;obtain ⟨q1,q2⟩ := hbc' cs c0 dx h1;intro p hp;simp [aK] at hp;subst hp;rcases h2 with h2 | h2
   ·obtain ⟨k0,xs0,e0⟩ := h2; exact q2 k0 xs0 e0
   ·subst h2; exact q1 _ (by simp [aK])
  have Y6 : f = .rd ps := by
   rw [<- Y6];rcases vo (bp c s.env x) u ps with e | ⟨b,j,e⟩
   ·exact e
   ·obtain ⟨k,o,l,e1,e2⟩ := YA e;exact absurd ⟨b,j,k,o,l,e1,e2⟩ hy
  subst Y6;by_cases hx : ∃ b off,bp c s.env x = .ptr b off
  ·obtain ⟨b,off,e⟩ := hx;rw [e] at hp;simp only [ya] at hp;split at hp
   case h_2 => cases hp
   rename_i cs dx;split at hp
   case h_2 => cases hp
   rename_i u' hu;simp at hp;obtain ⟨rfl,rfl⟩ := hp;by_cases hz : aK u' = []
   ·exact .nil hz
   obtain ⟨b1,b2⟩ := hb _ rfl b (by simp [hz]) cs dx;refine OQ (fun d hd p hp => ?_) hu;have := fu.2 ⟨d,cQ hd,hp⟩;cases ho : bI cs with
   | false => rw [MT _ _ _ ho] at this; exact b1 p this
   | true =>
     rcases Bc this with h3 | ⟨i,h3⟩
     ·exact b1 p h3
     ·subst h3; exact b2 ho i
  ·refine .nil ?_;unfold ldOK at hl;split at hl
   ·rename_i e; exact absurd ⟨_,_,e⟩ hx
   ·exact eG.1 hl
 all_goals
  simp only [eR] at hv;exact pure hk h hv
end
end Go.Bm

/- What single operations are worth: regions that draw their order are sound. -/
namespace Go.Bm
open Go.Am
section
variable {P : Program} {c : dR} {call : Nat -> List AV -> Heap -> Option (AV × Heap)} {V : Rt -> Prop}
theorem dv.own {s t : St} (h : dv s t) (p : Rt) : av t p = av s p := by
 cases p with
 | s i => simp only [av,at_,h.1 i]
 | sc i j => simp only [av,at_,h.1 i]
 | c b j => simp only [av,at_,h.2]
theorem Seen.of_same {s s0 t : St} {ps : List Rt} (e : dv s s0) (h : Seen ps s t) : Seen ps s0 t := fun p hp => ⟨by rw [(h p hp).1,e.own],fun b l hb => by rw [(h p hp).2 b l hb,e.2]⟩
theorem pX.of_same {s s0 t : St} {b j : Nat} (e : dv s s0) (h : pX b j s t) : pX b j s0 t := fun cs hc => h cs (by rw [e.2]; exact hc)
theorem aeI {s s1 : St} {kd : Kd} {v : AV} {n : Nat} (h : eR c call s kd = some (v,s1,.al n)) : ∃ z,s1 = ⟨s.env,s.H ++ [z]⟩ := by
 have nc : ∀ {kd : Kd},dm c call kd s ≠ some (v,s1,.al n) := by
  intro kd h;unfold dm at h;split at h
  ·rename_i r hi;subst h;obtain ⟨sl,bs,e | e⟩ := zS hi <;> cases e
  split at h
  ·rename_i r hi;subst h;obtain ⟨b,e⟩ := Dq hi;cases e
  unfold fj at h;split at h
  ·rename_i r hi;subst h;obtain ⟨e,_⟩ := wv hi;cases e
  replace h := (jI h).resolve_right fun h => by obtain ⟨e,_⟩ := wa h; cases e
  unfold dG at h
  (repeat' split at h) <;> simp [wI] at h
  all_goals (obtain ⟨_,_,h⟩ := h; revert h; split <;> simp [wI])
 have ns : ∀ {s s' : St} {k : Nat} {a v : AV} {f : Fq},N6 s k a v = some (s',f) -> f ≠ .al n := by
  intro s s' k a v f h e;have := Ox h;rw [e] at this;simp [calm] at this
 cases kd <;> simp only [eR] at h
 case new => simp at h; exact ⟨_,h.2.1.symm⟩
 case box => split at h <;> simp at h; exact ⟨_,h.2.1.symm⟩
 case call => exact absurd h nc
 case jm => exact absurd h nc
 case st =>
  exfalso;split at h
  ·split at h
   case h_2 => cases h
   rename_i hh;simp only [ai,aF] at h;obtain ⟨_,_,h5⟩ := h;split at h5
   ·exact ns hh h5
   ·cases h5
  ·split at h
   case h_2 => cases h
   rename_i hh;simp only [ai,aF] at h;exact ns hh h.2.2
 case ld =>
  exfalso;split at h
  case h_2 => cases h
  split at h
  case isFalse => cases h
  simp only [ai,aF] at h;obtain ⟨_,_,h5⟩ := h;rcases vo _ _ _ with e | ⟨b,j,e⟩ <;> rw [e] at h5 <;> cases h5
 case KF =>
  split at h
  case h_2 => cases h
  split at h
  case isFalse => cases h
  split at h
  ·simp at h; exact ⟨_,h.2.1.symm⟩
  ·simp at h
 case c5 =>
  exfalso
  (repeat' split at h) <;> simp [wI] at h
  all_goals (obtain ⟨_,_,h⟩ := h; revert h; split <;> simp [wI])
 case copy =>
  exfalso
  (repeat' split at h) <;> simp at h
  obtain ⟨_,_,h5⟩ := h;rcases vF _ _ with e | ⟨_,_,_,_,e⟩ <;> rw [e] at h5 <;> cases h5
 all_goals
  exfalso
  (repeat' split at h) <;> simp at h
theorem IB {i : Nat} {x : AV} {b : Bool} (h : ep i x = .bool b) : x = .bool b := by
 cases x <;> simp [ep] at h <;> simp [h]
theorem PI {i : Nat} {x : AV} (h : ep i x = .undef) : x = .undef := by
 cases x <;> simp [ep] at h <;> rfl
theorem ab2 : pe c call := by
 intro s q v s1 f ⟨hk,s0,t1,e0,he,e1⟩ hc
 have op : eR c call s0 q.kd = some (v,t1,f) -> (∀ t : St,(∀ i ∈ q.reads,ep i (get t.env i) = ep i (get s.env i)) -> CO c call t q = eR c call t q.kd) -> ∃ X,Qq c call s q v s1 f X := by
  intro h C8;obtain ⟨T,k1,k2,k3⟩ := XV h hc;have hr : ∀ i ∈ q.kd.reads,i ∈ q.reads := fun i hi => by simp [O.reads,hi]
  refine ⟨T,⟨e1.symm.trans ⟨fun i => by rw [k1]; exact (e0.1 i).symm,by rw [k1]; show s0.H ++ T = s.H ++ T; rw [e0.2]⟩,?_,fun t h1 h2 h3 => ?_,fun V h1 h2 h2c => ?_⟩⟩
  ·rcases k2 with e | ⟨z,e,e2⟩
   ·by_cases hal : ∃ n,f = .al n
    ·obtain ⟨n,rfl⟩ := hal;obtain ⟨z,hz⟩ := aeI h;rw [k1,e] at hz;simp at hz
    ·exact .inl ⟨e,fun n hn => hal ⟨n,hn⟩⟩
   ·exact .inr ⟨z,e,by rw [e0.2]; exact e2⟩
  ·refine ⟨hk,t,_,dv.rfl',?_,dv.rfl'⟩;rw [C8 t h1];exact k3 t (fun i hi => by rw [h1 i (hr i hi),e0.1]) ⟨fun ps tX => (h2.1 ps tX).of_same e0,fun b j hf => (h2.2 b j hf).of_same e0⟩ h3
  ·exact aeH h hc hk (fun i hi => by rw [<- e0.1]; exact h1 i (hr i hi)) (fun ps tX b hp cs hb => h2 ps tX b hp cs (by rw [e0.2]; exact hb)) fun b j hf cs c0 hb FW => h2c b j hf cs c0 (by rw [e0.2]; exact hb) FW
 have un : f = .no -> v = .undef -> t1 = s0 -> (∀ t : St,(∀ i ∈ q.reads,ep i (get t.env i) = ep i (get s.env i)) -> CO c call t q = some (.undef,t,.no)) -> ∃ X,Qq c call s q v s1 f X := by
  intro hf hv ht C8;subst hf hv ht;refine ⟨[],⟨e1.symm.trans ⟨fun i => (e0.1 i).symm,by show t1.H = s.H ++ []; rw [e0.2]; simp⟩,.inl ⟨rfl,fun n h => by cases h⟩,fun t h1 _ _ => ⟨hk,t,t,dv.rfl',C8 t h1,⟨fun i => rfl,by simp⟩⟩,fun V _ _ _ p hp => by simp [aK] at hp⟩⟩
 unfold CO at he;cases hg : q.guard with
 | none =>
   rw [hg] at he;exact op he fun t _ => by unfold CO; rw [hg]
 | some gp =>
   obtain ⟨g,want⟩ := gp;rw [hg] at he;simp only at he;have Hi : g ∈ q.reads := by simp [O.reads,hg]
   split at he
   ·rename_i b hb;split at he
    ·rename_i PT;refine op he fun t h1 => ?_;unfold CO;rw [hg];have je : get t.env g = .bool b := IB (by rw [h1 g Hi,e0.1 g,hb]; rfl);simp only [je,PT,if_true]
    ·rename_i PT;simp only [ai,aF] at he;refine un he.2.2.symm he.1.symm he.2.1.symm fun t h1 => ?_;unfold CO;rw [hg];have je : get t.env g = .bool b := IB (by rw [h1 g Hi,e0.1 g,hb]; rfl);simp only [je,PT,if_false]
   ·rename_i hb;simp only [ai,aF] at he;refine un he.2.2.symm he.1.symm he.2.1.symm fun t h1 => ?_;unfold CO;rw [hg];have je : get t.env g = .undef := PI (by rw [h1 g Hi,e0.1 g,hb]; rfl);simp only [je]
   ·cases he

/-! Operations that write a few places -/
mutual
theorem zL {g : AV -> AV} : ∀ x,(∀ k p o l,p ∈ aK x -> g (.c8 k p o l) = .c8 k p o l /\ g (.ez k p o l) = .ez k p o l) -> cn g x = x
 | .c8 k p o l,h => by simp only [cn]; exact (h k p o l (by simp [aK])).1
 | .ez k p o l,h => by simp only [cn]; exact (h k p o l (by simp [aK])).2
 | .agg cs,h => by simp only [cn]; rw [nq cs (by simpa only [aK] using h)]
 | .dp cs,h => by simp only [cn]; rw [nq cs (by simpa only [aK] using h)]
 | .func f a b,h => by
   simp only [aK,aD] at h;simp only [cn]; rw [nq a fun k p o l hp => h k p o l (.inl hp),nq b fun k p o l hp => h k p o l (.inr hp)]
 | .any,_ => rfl | .undef,_ => rfl | .eP,_ => rfl | .eT,_ => rfl | .dn,_ => rfl
 | .int _ _,_ => rfl | .bool _,_ => rfl | .str _,_ => rfl | .list _ _,_ => rfl | .dh _,_ => rfl | .ptr _ _,_ => rfl | .sl _ _ _ _,_ => rfl | .own _ _,_ => rfl
theorem nq {g : AV -> AV} : ∀ xs,(∀ k p o l,p ∈ cY xs -> g (.c8 k p o l) = .c8 k p o l /\ g (.ez k p o l) = .ez k p o l) -> cV g xs = xs
 | [],_ => rfl
 | x :: r,h => by
   simp only [cY,aD] at h;simp only [cV]; rw [zL x fun k p o l hp => h k p o l (.inl hp),nq r fun k p o l hp => h k p o l (.inr hp)]
end
theorem Ba {f : Nat -> Rt} : ∀ {cs : List AV} {j l k : Nat} {xs xs' : List AV},cs[l]? = some (.own k xs) -> xs'.length = xs.length -> dZ f j (cs.set l (.own k xs')) = dZ f j cs
 | [],j,l,k,xs,xs',h,_ => by simp at h
 | x :: r,j,0,k,xs,xs',h,hl => by
   simp at h;subst h;simp only [List.set_cons_zero,dZ,hl]
 | x :: r,j,l + 1,k,xs,xs',h,hl => by
   have ih := Ba (f := f) (j := j + 1) (by simpa using h) hl;rw [List.set_cons_succ];cases x <;> simp only [dZ,ih]
theorem OE {s : St} {p : Rt} {k : Nat} {xs xs' : List AV} (h : av s p = some (k,xs)) (hl : xs'.length = xs.length) (i : Nat) : ep i (get (setAt s p (.own k xs')).env i) = ep i (get s.env i) := by
 cases p with
 | s j =>
   simp only [setAt,bw];by_cases e : i = j
   ·subst e;rw [if_pos rfl];simp only [av,at_] at h;split at h
    ·rename_i k2 xs2 e2;simp at h;obtain ⟨rfl,rfl⟩ := h;simp at e2;rw [e2];simp only [ep,hl]
    ·cases h
   ·rw [if_neg e]
 | sc j l =>
   simp only [av,at_] at h;simp only [setAt];split
   ·rename_i cs dx;rw [dx] at h;simp only [bw];by_cases e : i = j
    ·subst e;rw [if_pos rfl,dx];simp only at h;split at h
     ·rename_i k2 xs2 e2;simp at h;obtain ⟨rfl,rfl⟩ := h;simp only [ep,Ba e2 hl]
     ·cases h
    ·rw [if_neg e]
   ·rfl
 | c b j =>
   simp only [setAt];split <;> rfl
theorem wy {i : Nat} : ∀ {l : List Nat},i + kZ ∈ marks l ↔ i ∈ l
 | [] => by simp [marks]
 | j :: r => by simp [marks,wy (l := r)]
theorem fh {s : St} {p : Rt} {v : AV} {i : Nat} (h : i ∉ rootOf p) : get (setAt s p v).env i = get s.env i := by
 cases p with
 | s j => simp only [rootOf,cq] at h; simp only [setAt,bw,if_neg h]
 | sc j l =>
   simp only [rootOf,cq] at h;simp only [setAt];split
   ·simp only [bw,if_neg h]
   ·rfl
 | c b j => simp only [setAt]; split <;> rfl
theorem rl {s : St} {p : Rt} {v : AV} {b : Nat} (h : b ∉ kN p) : aJ (setAt s p v).H b = aJ s.H b := by
 cases p with
 | s j => rfl
 | sc j l => simp only [setAt]; split <;> rfl
 | c d j =>
   simp only [kN,cq] at h;simp only [setAt];split
   ·rw [dD,if_neg (fun e => h e.1)]
   ·rfl
theorem DO {s t : St} (h : dv s t) (p : Rt) (v : AV) : dv (setAt s p v) (setAt t p v) := by
 cases p with
 | s j => exact ⟨fun i => by simp only [setAt,bw,h.1 i],h.2⟩
 | sc j l =>
   simp only [setAt];rw [h.1 j];split
   ·exact ⟨fun i => by simp only [bw,h.1 i],h.2⟩
   ·exact h
 | c b j =>
   simp only [setAt];rw [h.2];split
   ·exact ⟨h.1,rfl⟩
   ·exact h
theorem rk {s : St} {p : Rt} {v u : AV} {d : Nat} (h : d ∉ rootOf p) : dv (setAt ⟨put s.env d u,s.H⟩ p v) ⟨put (setAt s p v).env d u,(setAt s p v).H⟩ := by
 cases p with
 | s j =>
   simp only [rootOf,cq] at h;refine ⟨fun i => ?_,rfl⟩;simp only [setAt,bw];by_cases e : i = j
   ·subst e;have : i ≠ d := fun e => h e.symm;simp [this]
   ·simp [e]
 | sc j l =>
   simp only [rootOf,cq] at h;have hj : j ≠ d := fun e => h e.symm;simp only [setAt,bw,if_neg hj];split
   ·refine ⟨fun i => ?_,rfl⟩;simp only [bw];by_cases e : i = j
    ·subst e; simp [hj]
    ·simp [e]
   ·exact dv.rfl'
 | c b j =>
   simp only [setAt];split
   ·exact dv.rfl'
   ·exact dv.rfl'
theorem u9 {s : St} {p : Rt} {y : Nat × List AV} (h : av s p = some y) : ∀ i ∈ rootOf p,bJ (get s.env i) = true := by
 intro i hi;obtain ⟨k,xs⟩ := y;have h := bZ.1 h;cases p with
 | s j =>
   simp only [rootOf,cq] at hi; subst hi;simp only [at_,ai] at h;rw [h]; rfl
 | sc j l =>
   simp only [rootOf,cq] at hi; subst hi;simp only [at_] at h;split at h
   ·rename_i cs hc;rw [hc];simp only [bJ]
    have : ∀ {cs : List AV} {l : Nat},cs[l]? = some (.own k xs) -> bI cs = true := by
     intro cs
     induction cs with
     | nil => intro l h; simp at h
     | cons x r ih =>
       intro l h;cases l with
       | zero => simp at h; subst h; rfl
       | succ l => simp at h; cases x <;> simp only [bI] <;> exact ih h
    exact this h
   ·cases h
 | c b j => simp [rootOf] at hi
theorem nj {s : St} {p : Rt} {d : Nat} {u : AV} (h : d ∉ rootOf p) : av ⟨put s.env d u,s.H⟩ p = av s p := by
 cases p with
 | s j =>
   simp only [rootOf,cq] at h;have hj : j ≠ d := fun e => h e.symm;simp only [av,at_,bw,if_neg hj]
 | sc j l =>
   simp only [rootOf,cq] at h;have hj : j ≠ d := fun e => h e.symm;simp only [av,at_,bw,if_neg hj]
 | c b j => rfl
structure tQ (c : dR) (call : Nat -> List AV -> Heap -> Option (AV × Heap)) (s : St) (kd : Kd) (v : AV) (s1 : St) (sl : List Nat) (bs : Option (List Nat)) (V : Rt -> Prop) : Prop where
 env : ∀ i,i ∉ sl -> i + kZ ∉ sl -> get s1.env i = get s.env i
 hd : ∀ i,i ∉ sl -> ep i (get s1.env i) = ep i (get s.env i)
 keep : ∀ i,bJ (get s.env i) = false -> aK (get s.env i) = [] -> get s1.env i = get s.env i
 heap : ∀ l,bs = some l -> ∀ b,b ∉ l -> aJ s1.H b = aJ s.H b
 v1 : ∀ i,i ∉ sl -> (∀ p ∈ aK (get s.env i),¬ V p) /\ ¬ V (.s i) /\ ∀ j,¬ V (.sc i j)
 v2 : ∀ l,bs = some l -> ∀ b,b ∉ l -> b + kZ ∉ l -> ∀ cs,aJ s.H b = some cs -> (∀ p ∈ cY cs,¬ V p) /\ (bI cs = true -> ∀ j,¬ V (.c b j))
 go : ∀ d u,d ∉ kd.reads -> d ∉ sl -> d + kZ ∉ sl -> Ll V u -> ∃ t0 t1 sl',dv t0 ⟨put s.env d u,s.H⟩ /\ eR c call t0 kd = some (v,t1,.wr sl' bs) /\ (∀ i ∈ sl',i ∈ sl) /\ dv t1 ⟨put s1.env d u,s1.H⟩
structure Qk (c : dR) (call : Nat -> List AV -> Heap -> Option (AV × Heap)) (s : St) (kd : Kd) (v : AV) (s1 : St) (sl : List Nat) (bs : Option (List Nat)) (V : Rt -> Prop) : Prop where
 env : ∀ i,i ∉ sl -> i + kZ ∉ sl -> get s1.env i = get s.env i
 hd : ∀ i,i ∉ sl -> ep i (get s1.env i) = ep i (get s.env i)
 keep : ∀ i,bJ (get s.env i) = false -> aK (get s.env i) = [] -> get s1.env i = get s.env i
 heap : ∀ l,bs = some l -> ∀ b,mR b l = false -> aJ s1.H b = aJ s.H b
 cell : ∀ l,bs = some l -> ∀ b j,b ∉ l -> kB b j ∉ l -> pX b j s s1 /\ pX b j s1 s
 v1 : ∀ i,i ∉ sl -> (∀ p ∈ aK (get s.env i),¬ V p) /\ ¬ V (.s i) /\ ∀ j,¬ V (.sc i j)
 v2 : ∀ l,bs = some l -> ∀ b,mR b l = false -> b + kZ ∉ l -> ∀ cs,aJ s.H b = some cs -> (∀ p ∈ cY cs,¬ V p) /\ (bI cs = true -> ∀ j,¬ V (.c b j))
 v3 : ∀ l,bs = some l -> ∀ b j,b ∉ l -> b + kZ ∉ l -> kB b j ∉ l -> ∀ cs c,aJ s.H b = some cs -> cs[j]? = some c -> (∀ p ∈ aK c,¬ V p) /\ (∀ k xs,c = .own k xs -> ¬ V (.c b j))
 go : ∀ d u,d ∉ kd.reads -> d ∉ sl -> d + kZ ∉ sl -> Ll V u -> ∃ t0 t1 sl',dv t0 ⟨put s.env d u,s.H⟩ /\ eR c call t0 kd = some (v,t1,.wr sl' bs) /\ (∀ i ∈ sl',i ∈ sl) /\ dv t1 ⟨put s1.env d u,s1.H⟩
theorem FY : ∀ {cs : List AV} {j k : Nat} {xs : List AV},cs[j]? = some (.own k xs) -> bI cs = true
 | [],j,k,xs,h => by simp at h
 | c :: r,0,k,xs,h => by simp at h; subst h; rfl
 | c :: r,j + 1,k,xs,h => by
   have := FY (cs := r) (j := j) (by simpa using h);cases c <;> simp [bI,this]
theorem tQ.up {s s1 : St} {kd : Kd} {v : AV} {sl : List Nat} {bs : Option (List Nat)} : (∃ V,tQ c call s kd v s1 sl bs V) -> ∃ V,Qk c call s kd v s1 sl bs V := by
 rintro ⟨V,h⟩;refine ⟨V,⟨h.env,h.hd,h.keep,fun l hl b hb => h.heap l hl b (nB hb).1,fun l hl b j hb _ => ⟨.of_eq (h.heap l hl b hb),.of_eq (h.heap l hl b hb).symm⟩,h.v1,fun l hl b hb => h.v2 l hl b (nB hb).1,fun l hl b j h1 h2 _ cs c0 hb hc => ?_,h.go⟩⟩;obtain ⟨a1,a2⟩ := h.v2 l hl b h1 h2 cs hb;exact ⟨fun p hp => a1 p (fu.2 ⟨c0,aW hc,hp⟩),fun k xs e => a2 (FY (e ▸ hc)) j⟩
theorem rZ {f : Rt -> Bool} : ∀ {l : List Rt},vO f l = true ↔ ∃ p ∈ l,f p = true
 | [] => by simp [vO]
 | p :: r => by simp [vO,rZ (l := r)]
theorem GH {f : Rt -> Bool} : ∀ {H : Heap} {b : Nat} {cs : List AV},GI f H = false -> aJ H b = some cs -> ∀ p ∈ cY cs,f p = false
 | [],b,cs,_,h => by simp [aJ] at h
 | none :: r,b,cs,ha,h => by
   cases b with
   | zero => simp [aJ] at h
   | succ b => exact GH (H := r) (b := b) (by simpa [GI] using ha) (by simpa [aJ] using h)
 | some ds :: r,b,cs,ha,h => by
   simp only [GI,eM] at ha;cases b with
   | zero =>
     simp [aJ] at h;subst h;intro p hp;cases hf : f p with
     | false => rfl
     | true => rw [rZ.2 ⟨p,hp,hf⟩] at ha; simp at ha
   | succ b => exact GH (H := r) (b := b) ha.2 (by simpa [aJ] using h)
theorem rS {p : Rt} : ∀ {l : List Rt},zT p l = true ↔ p ∈ l
 | [] => by simp [zT]
 | q :: r => by rw [zT,eX,decide_eq_true_eq,rS (l := r),aX]; exact ⟨fun h => h.imp Eq.symm id,fun h => h.imp Eq.symm id⟩
theorem mW {p : Rt} : ∀ {e : Env} {i : Nat},zT p (aK (Am.get e i)) = true \/ (isRoot p i = true /\ Am.get e i ≠ .any) -> i ∈ k9 p e
 | [],i,h => by simp [Am.get,aK,zT] at h
 | (j,v) :: r,i,h => by
   simp only [Am.get] at h;simp only [k9];by_cases e : i = j
   ·subst e;simp only [if_true] at h
    have : (zT p (aK v) || isRoot p i) = true := by
     rcases h with h | h
     ·simp [h]
     ·simp [h.1]
    rw [if_pos this]; simp
   ·rw [if_neg e] at h;have := mW h;split
    ·simp [this]
    ·exact this
theorem Av {p : Rt} : ∀ {sn : List Nat} {e : Env} {i : Nat},i ∈ k9 p (KB sn e) -> mem i sn = false /\ (zT p (aK (Am.get e i)) = true \/ isRoot p i = true)
 | sn,[],i,h => by simp [KB,k9] at h
 | sn,(j,v) :: r,i,h => by
   have WM : ∀ {sn' : List Nat},i ∈ k9 p (KB sn' r) -> mem j sn' = true -> mem i sn' = false /\ (zT p (aK (Am.get ((j,v) :: r) i)) = true \/ isRoot p i = true) := by
    intro sn' h hj;obtain ⟨h1,h2⟩ := Av h;have Bq : i ≠ j := fun e => by rw [e,hj] at h1; cases h1
    exact ⟨h1,by simp only [Am.get]; rw [if_neg Bq]; exact h2⟩
   unfold KB at h;by_cases hj : mem j sn = true
   ·rw [if_pos hj] at h;exact WM h hj
   ·rw [if_neg hj] at h;simp only [k9] at h
    have tail : i ∈ k9 p (KB (j :: sn) r) -> mem i sn = false /\ (zT p (aK (Am.get ((j,v) :: r) i)) = true \/ isRoot p i = true) := fun h => by
     obtain ⟨h1,h2⟩ := WM h (by simp [mem]);unfold mem at h1;split at h1
     ·cases h1
     ·exact ⟨h1,h2⟩
    split at h
    ·rename_i hc;rcases aX.1 h with e | h
     ·subst e;refine ⟨by simpa using hj,?_⟩;simp only [Am.get,if_true];simpa using hc
     ·exact tail h
    ·exact tail h
theorem la {p : Rt} : ∀ {H : Heap} {k b : Nat} {cs : List AV},aJ H b = some cs -> p ∈ cY cs -> k + b ∈ qa p k H
 | [],k,b,cs,h,_ => by simp [aJ] at h
 | none :: r,k,b,cs,h,hp => by
   cases b with
   | zero => simp [aJ] at h
   | succ b =>
     have := la (H := r) (k := k + 1) (b := b) (by simpa [aJ] using h) hp;simp only [qa]; rwa [show k + (b + 1) = k + 1 + b by omega]
 | some ds :: r,k,b,cs,h,hp => by
   cases b with
   | zero =>
     simp [aJ] at h;subst h;simp [qa,rS.2 hp]
   | succ b =>
     have := la (H := r) (k := k + 1) (b := b) (by simpa [aJ] using h) hp;simp only [qa];rw [show k + (b + 1) = k + 1 + b by omega];split
     ·simp [this]
     ·exact this
theorem rm : ∀ {e : Env} {i : Nat},bH (aK (Am.get e i)) = true -> i ∈ bL e
 | [],i,h => by simp [Am.get,aK,bH] at h
 | (j,v) :: r,i,h => by
   simp only [Am.get] at h;simp only [bL];by_cases e : i = j
   ·subst e;simp only [if_true] at h;rw [if_pos h]; simp
   ·rw [if_neg e] at h;have := rm h;split
    ·simp [this]
    ·exact this
theorem HM : ∀ {sn : List Nat} {e : Env} {i : Nat},i ∈ bL (KB sn e) -> mem i sn = false /\ bH (aK (Am.get e i)) = true
 | sn,[],i,h => by simp [KB,bL] at h
 | sn,(j,v) :: r,i,h => by
   have WM : ∀ {sn' : List Nat},i ∈ bL (KB sn' r) -> mem j sn' = true -> mem i sn' = false /\ bH (aK (Am.get ((j,v) :: r) i)) = true := by
    intro sn' h hj;obtain ⟨h1,h2⟩ := HM h;have Bq : i ≠ j := fun e => by rw [e,hj] at h1; cases h1
    exact ⟨h1,by simp only [Am.get]; rw [if_neg Bq]; exact h2⟩
   unfold KB at h;by_cases hj : mem j sn = true
   ·rw [if_pos hj] at h;exact WM h hj
   ·rw [if_neg hj] at h;simp only [bL] at h
    have tail : i ∈ bL (KB (j :: sn) r) -> mem i sn = false /\ bH (aK (Am.get ((j,v) :: r) i)) = true := fun h => by
     obtain ⟨h1,h2⟩ := WM h (by simp [mem]);unfold mem at h1;split at h1
     ·cases h1
     ·exact ⟨h1,h2⟩
    split at h
    ·rename_i hc;rcases aX.1 h with e | h
     ·subst e;refine ⟨by simpa using hj,?_⟩;simp only [Am.get,if_true];exact hc
     ·exact tail h
    ·exact tail h
theorem Bk : ∀ {l : List Rt},bH l = true ↔ ∃ p ∈ l,bh p = false
 | [] => by simp [bH]
 | p :: r => by cases p <;> simp [bH,bh,Bk (l := r)]
theorem Bj {l : List Rt} (h : bH l = false) : ∀ p ∈ l,bh p = true := by
 intro p hp;cases hn : bh p with
 | true => rfl
 | false => rw [Bk.2 ⟨p,hp,hn⟩] at h; cases h
theorem nU (s : St) (i : Nat) : get (Pk s).env i = get s.env i := ((pg s).1 i).symm
end
end Go.Bm

/- Every operation that writes a few places; regions that draw their order are sound. -/
namespace Go.Bm
open Go.Am
section
variable {P : Program} {c : dR} {call : Nat -> List AV -> Heap -> Option (AV × Heap)} {V : Rt -> Prop}
theorem en {i : Nat} {l m : List Nat} (h : i ∉ l ++ m) : i ∉ l /\ i ∉ m := by simpa using h
theorem qC {p : Rt} {i : Nat} : isRoot p i = true ↔ i ∈ rootOf p := by
 cases p <;> simp [isRoot,rootOf,eq_comm]
theorem Di {x : AV} (h : ∀ p ∈ aK x,bh p = true) : cn eC x = x := zL x fun k p o l hp => by
 have := h p hp;cases p <;> simp [bh] at this <;> simp [eC]
theorem zH {l : List Nat} : ∀ {H H' : Heap} {k : Nat} {r : List Nat},dy l k H H' = some r -> ∀ b,k + b ∉ l -> aJ H' b = aJ H b /\ ((k + b) + kZ ∉ r -> ∀ cs,aJ H b = some cs -> bI cs = false /\ cY cs = [])
 | [],[],k,r,_,b,_ => ⟨rfl,fun _ cs h => by simp [aJ] at h⟩
 | [],_ :: _,k,r,h,b,_ => by simp [dy] at h
 | _ :: _,[],k,r,h,b,_ => by simp [dy] at h
 | x :: H,y :: H',k,r,h,b,hb => by
   unfold dy at h;split at h
   case h_2 => cases h
   rename_i r0 h0;cases b with
   | zero =>
     have hm : mem k l = false := by
      cases hh : mem k l with
      | false => rfl
      | true => exact absurd (mem_iff.1 hh) (by simpa using hb)
     rw [hm] at h;simp only [bO,if_false] at h;split at h
     case isFalse => cases h
     rename_i he;have e := ab6 he;subst e;refine ⟨rfl,fun hr cs dx => ?_⟩
     have hx : x = some cs := by
      unfold aJ at dx;simp only [List.getElem?_cons_zero] at dx;cases x with
      | none => simp at dx
      | some d => simp at dx; rw [dx]
     subst hx;cases hc : kM (some cs) with
     | false =>
       rw [hc] at h;simp at h;subst h;exact absurd (by simp) hr
     | true =>
       simp only [kM,aa,bD] at hc;exact ⟨hc.1,eG.1 hc.2⟩
   | succ b =>
     have ih := zH h0 b (by rw [show k + 1 + b = k + (b + 1) by omega]; exact hb);have e : ∀ z (G : Heap),aJ (z :: G) (b + 1) = aJ G b := fun z G => by simp [aJ]
     rw [e,e];refine ⟨ih.1,fun hr => ih.2 fun hm => hr ?_⟩;rw [show k + 1 + b = k + (b + 1) by omega] at hm;split at h
     ·cases h; exact hm
     ·split at h
      ·simp at h;subst h;split
       ·exact hm
       ·exact List.mem_cons_of_mem _ hm
      ·cases h
theorem Zw {p : Rt} {k : Nat} {xs : List AV} {x : AV} (h : p ∉ aK x) : cn (fb p k xs) x = x := zL x fun k' q o l hq => by
 have : q ≠ p := fun e => h (e ▸ hq);constructor <;> simp [fb,this]
theorem abv {p : Rt} {k : Nat} {xs : List AV} {x : List AV} (h : p ∉ cY x) : cV (fb p k xs) x = x := nq x fun k' q o l hq => by
 have : q ≠ p := fun e => h (e ▸ hq);constructor <;> simp [fb,this]
theorem VO {s : St} {p : Rt} {k : Nat} {xs : List AV} {kd : Kd} {v : AV} (hp : av s p = some (k,xs))
  (C8 : ∀ t : St,(∀ i ∈ kd.reads,get t.env i = get s.env i) -> av t p = some (k,xs) -> eR c call t kd = some (v,setAt (bY (fb p k xs) t) p (.list k xs),.wr (k9 p t.env) (some (kN p ++ qa p 0 t.H)))) :
  ∃ V,tQ c call s kd v (setAt (bY (fb p k xs) s) p (.list k xs)) (k9 p s.env) (some (kN p ++ qa p 0 s.H)) V := by
 have vv := u9 hp;have yR : ∀ i ∈ rootOf p,i ∈ k9 p s.env := fun i hi => mW (.inr ⟨qC.2 hi,fun e => by have := vv i hi; rw [e] at this; cases this⟩);have nn : ∀ {i : Nat},i ∉ k9 p s.env -> p ∉ aK (get s.env i) /\ i ∉ rootOf p := fun {i} hi => ⟨fun e => hi (mW (.inl (rS.2 e))),fun e => hi (yR i e)⟩
 have Ge : ∀ i,p ∉ aK (get s.env i) -> i ∉ rootOf p -> get (setAt (bY (fb p k xs) s) p (.list k xs)).env i = get s.env i := fun i h1 h2 => by
  rw [fh h2];show get (kf (fb p k xs) s.env) i = _;rw [de,Zw h1]
 have afl : ∀ b,b ∉ kN p ++ qa p 0 s.H -> aJ (setAt (bY (fb p k xs) s) p (.list k xs)).H b = aJ s.H b := fun b hb => by
  rw [rl fun hm => hb (Qu _ hm)];show aJ (fL (fb p k xs) s.H) b = _;rw [eV];cases dx : aJ s.H b with
  | none => rfl
  | some cs =>
    simp only [cT,ai];refine abv fun hm => hb ?_;have := la (k := 0) dx hm;exact Og _ (by simpa using this)
 refine ⟨fun q => q = p,⟨fun i hi _ => ?_,fun i hi => ?_,fun i h1 h2 => ?_,fun l hl b hb => ?_,fun i hi => ⟨fun q hq e => ?_,fun e => ?_,fun j e => ?_⟩,fun l hl b hb qU cs dx => ⟨fun q hq e => ?_,fun _ j e => ?_⟩,fun d u hd nE _ hu => ?_⟩⟩
 ·obtain ⟨h1,h2⟩ := nn hi;exact Ge i h1 h2
 ·obtain ⟨h1,h2⟩ := nn hi;rw [Ge i h1 h2]
 ·exact Ge i (by rw [h2]; simp) fun hi => by rw [vv i hi] at h1; cases h1
 ·cases hl;exact afl b hb
 ·subst e;exact (nn hi).1 hq
 ·subst e;exact (nn hi).2 (by simp [rootOf])
 ·subst e;exact (nn hi).2 (by simp [rootOf])
 ·subst e;cases hl;have := la (k := 0) dx hq;exact hb (Og _ (by simpa using this))
 ·subst e;cases hl;exact hb (Qu _ (by simp [kN]))
 ·obtain ⟨hd3,hd4⟩ := nn nE
  let t0 : St := Pk ⟨put s.env d u,s.H⟩
  have Nf : dv t0 ⟨put s.env d u,s.H⟩ := (pg _).symm;have hg : ∀ i,get t0.env i = if i = d then u else get s.env i := fun i => by rw [nU,bw]
  have own : av t0 p = av s p := by rw [<- Nf.own p]; exact nj hd4
  have KU : p ∉ aK u := fun hm => hu p hm rfl;refine ⟨t0,setAt (bY (fb p k xs) t0) p (.list k xs),k9 p t0.env,Nf,C8 t0 (fun i hi => by rw [hg,if_neg]; intro e; subst e; exact hd hi) (own.trans hp),fun i hi => ?_,?_⟩
  ·obtain ⟨_,h2⟩ := Av hi;have : get (put s.env d u) i = get t0.env i := (nU ⟨put s.env d u,s.H⟩ i).symm;simp only [this,hg] at h2;rcases h2 with h2 | h2
   ·split at h2
    ·exact absurd (rS.1 h2) KU
    ·exact mW (.inl h2)
   ·exact yR i (qC.1 h2)
  ·have h5 : dv (bY (fb p k xs) t0) ⟨put (bY (fb p k xs) s).env d u,(bY (fb p k xs) s).H⟩ := ⟨fun i => by
    show get (kf (fb p k xs) t0.env) i = get (put (kf (fb p k xs) s.env) d u) i;rw [de,hg,bw,de];split
    ·exact Zw KU
    ·rfl,rfl⟩
   exact (DO h5 p (.list k xs)).trans (rk hd4)
theorem aah {s s1 : St} {kd : Kd} {v : AV} {sl : List Nat} {bs : Option (List Nat)} (je : ∀ t,eR c call t kd = dm c call kd t) (hi : oJ c s kd = none) (hl : mJ c call s kd = none) (hmv : qQ c call s kd = none) (h : dG c call kd s = some (v,s1,.wr sl bs)) : ∃ V,tQ c call s kd v s1 sl bs V := by
 unfold dG at h;split at h
 ·cases h
 rename_i f args ha;split at h
 ·cases h
 rename_i md q hf;split at h
 ·rename_i hm;split at h
  ·cases h
  split at h
  case h_2 => cases h
  split at h
  case isFalse => cases h
  simp only [ai,aF] at h;obtain ⟨_,_,h⟩ := h;split at h <;> cases h
 rename_i hm;split at h
 ·cases h
 rename_i f1 nY Ns;split at h
 case isFalse => cases h
 rename_i Zb;split at h
 ·rename_i jV;split at h
  case isFalse => cases h
  rename_i hp;split at h
  case h_2 => cases h
  rename_i r H' hc;split at h
  case isFalse => cases h
  rename_i hr;simp only [ai,aF] at h;obtain ⟨rfl,rfl,h⟩ := h
  have he : cY args = [] := by
   cases hb : cY args with
   | nil => rfl
   | cons x y => simp [hb] at h
  rw [he] at h Ns hp hc;simp only [dC] at Ns hp hc;simp at h;obtain ⟨rfl,rfl⟩ := h
  have off : ∀ l,jb (iH nY) (dy (iH nY) 0 s.H H') = some l -> ∀ b,b ∉ l -> aJ H' b = aJ s.H b /\ (b + kZ ∉ l -> ∀ cs,aJ s.H b = some cs -> bI cs = false /\ cY cs = []) := by
   intro l hl b hb;cases ho : dy (iH nY) 0 s.H H' with
   | none => rw [ho] at hl; cases hl
   | some r =>
     rw [ho] at hl;have hl : some (iH nY ++ r) = some l := hl;cases hl;have qU := en hb;have := zH ho b (by simpa using qU.1);refine ⟨this.1,fun h2 => this.2 ?_⟩;have := (en h2).2;simpa using this
  refine ⟨fun p => bh p = false,⟨fun i hi _ => ?_,fun i hi => ?_,fun i h1 h2 => ?_,fun l hl b hb => ?_,fun i hi => ⟨fun p hp => ?_,by simp [bh],fun j => by simp [bh]⟩,fun l hl b hb qU cs dx => ?_,fun d u hd nE _ hu => ?_⟩⟩
  ·simp only [he,dC,de];refine Di (Bj ?_);cases hh : bH (aK (get s.env i)) with
   | false => rfl
   | true => exact absurd (rm hh) hi
  ·simp only [he,dC,de];rw [Di (Bj ?_)];cases hh : bH (aK (get s.env i)) with
   | false => rfl
   | true => exact absurd (rm hh) hi
  ·simp only [he,dC,de];exact Di fun p hp => by rw [h2] at hp; simp at hp
  ·exact (off l hl b hb).1
  ·have : bH (aK (get s.env i)) = false := by
    cases hh : bH (aK (get s.env i)) with
    | false => rfl
    | true => exact absurd (rm hh) hi
   rw [Bj this p hp]; simp
  ·obtain ⟨o1,o2⟩ := (off l hl b hb).2 qU cs dx;exact ⟨fun p hp => (by rw [o2] at hp; cases hp),fun ho => (by rw [o1] at ho; cases ho)⟩
  ·let t0 : St := Pk ⟨put s.env d u,s.H⟩
   have hg : ∀ i,get t0.env i = if i = d then u else get s.env i := fun i => by rw [nU,bw]
   have hH : t0.H = s.H := rfl
   have hrd : ∀ i ∈ kd.reads,get t0.env i = get s.env i := fun i hi => by
    rw [hg,if_neg]; intro e; subst e; exact hd hi
   refine ⟨t0,⟨kf eC t0.env,H'⟩,bL t0.env,(pg _).symm,?_,fun i hi => ?_,?_,rfl⟩
   ·rw [je];unfold dm;rw [wC hi,A9 hl];simp only [fj,A5 hmv];apply pL;unfold dG;rw [iQ (e1 := t0.env) (e2 := s.env) fun i hi => by rw [hrd i hi],ha];simp only [hf,hm,he,dC,bO,if_false];rw [iQ (e1 := t0.env) (e2 := s.env) fun i hi => by rw [hrd i hi],Ns];simp only [Zb,if_true,jV,hH,hp,hc,hr];simp
    first
     | done
     | rfl
     | (congr 1)
   ·obtain ⟨_,h2⟩ := HM hi;have : get (put s.env d u) i = get t0.env i := (nU ⟨put s.env d u,s.H⟩ i).symm;simp only [this,hg] at h2;split at h2
    ·rename_i e;subst e;obtain ⟨p,hp,hn⟩ := Bk.1 h2;exact absurd hn (hu p hp)
    ·exact rm h2
   ·intro i;simp only [he,dC,de,hg,bw];split
    ·refine Di fun p hp => ?_;have := hu p hp;simpa using this
    ·rfl
 ·rename_i jV;split at h
  case isFalse => cases h
  rename_i hp0;split at h
  case h_2 => cases h
  rename_i r H' hc;split at h
  case isFalse => cases h
  rename_i sd;simp only [ai,aF] at h;obtain ⟨rfl,rfl,h⟩ := h;split at h
  ·cases h
  unfold mA at h;split at h
  case h_2 => cases h
  rename_i p hbr;split at h
  case h_2 => cases h
  rename_i y hp;obtain ⟨k,xs⟩ := y;simp only [Fq.wr.injEq] at h;obtain ⟨rfl,rfl⟩ := h
  have C9 : ∀ t : St,av t p = some (k,xs) -> dC (cY args) t = setAt (bY (fb p k xs) t) p (.list k xs) := fun t ht => by
   rw [hbr];simp only [dC,F7,ht]
  rw [C9 s hp];refine VO hp fun t ht hpt => ?_;rw [je];unfold dm;rw [wC hi,A9 hl];simp only [fj,A5 hmv];apply pL;unfold dG;rw [iQ (e1 := t.env) (e2 := s.env) fun i hi => by rw [ht i hi],ha];simp only [hf,hm,bO,if_false];rw [C9 t hpt];rw [C9 s hp] at Ns
  have hk : getArgs c (setAt (bY (fb p k xs) t) p (.list k xs)).env kd = some (f1,nY) := by
   rw [<- Ns];refine iQ fun i hi => ?_
   have e0 : get (bY (fb p k xs) t).env i = get (bY (fb p k xs) s).env i := by
    show get (kf (fb p k xs) t.env) i = get (kf (fb p k xs) s.env) i;rw [de,de,ht i hi]
   have e1 : get (setAt (bY (fb p k xs) t) p (.list k xs)).env i = get (setAt (bY (fb p k xs) s) p (.list k xs)).env i := by
    by_cases hr : i ∈ rootOf p
    ·cases p with
     | s i0 =>
       simp [rootOf] at hr; subst hr;simp only [setAt];rw [bw,bw,if_pos rfl,if_pos rfl]
     | sc i0 j =>
       simp [rootOf] at hr; subst hr;simp only [setAt,e0];split
       ·rw [bw,bw,if_pos rfl,if_pos rfl]
       ·exact e0
     | c b j => simp [rootOf] at hr
    ·rw [fh hr,fh hr]; exact e0
   rw [e1]
  rw [hk];simp only [Zb,if_true,jV,bO,if_false,hp0,hc,sd];simp [hbr,mA,hpt]
theorem T0 {s s1 : St} {k n : Nat} {zs : List AV} {ps : List (Nat × Nat × E)} {v : AV} {sl : List Nat} {bs : Option (List Nat)} (h : eR c call s (.c5 k n zs ps) = some (v,s1,.wr sl bs)) : ∃ V,tQ c call s (.c5 k n zs ps) v s1 sl bs V := by
 simp only [eR] at h;split at h
 case h_2 => cases h
 rename_i cs hc;split at h
 case isFalse => cases h
 rename_i hz;simp only [ai,aF] at h;obtain ⟨rfl,rfl,h⟩ := h;split at h
 ·cases h
 unfold mA at h;split at h
 case h_2 => cases h
 rename_i p hbr;split at h
 case h_2 => cases h
 rename_i y hp;obtain ⟨k',xs⟩ := y;simp only [Fq.wr.injEq] at h;obtain ⟨rfl,rfl⟩ := h
 have C9 : ∀ t : St,av t p = some (k',xs) -> dC (fF c s.env ps) t = setAt (bY (fb p k' xs) t) p (.list k' xs) := fun t ht => by
  rw [hbr];simp only [dC,F7,ht]
 rw [C9 s hp] at hc ⊢;refine VO hp fun t ht hpt => ?_;have hpb : fF c t.env ps = fF c s.env ps := pD fun i hi => by rw [ht i hi]
 have hk : oT c (setAt (bY (fb p k' xs) t) p (.list k' xs)).env (rep zs n) ps = some cs := by
  rw [<- hc];refine qF fun i hi => ?_
  have e0 : get (bY (fb p k' xs) t).env i = get (bY (fb p k' xs) s).env i := by
   show get (kf (fb p k' xs) t.env) i = get (kf (fb p k' xs) s.env) i;rw [de,de,ht i hi]
  have e1 : get (setAt (bY (fb p k' xs) t) p (.list k' xs)).env i = get (setAt (bY (fb p k' xs) s) p (.list k' xs)).env i := by
   by_cases hr : i ∈ rootOf p
   ·cases p with
    | s i0 =>
      simp [rootOf] at hr; subst hr;simp only [setAt];rw [bw,bw,if_pos rfl,if_pos rfl]
    | sc i0 j =>
      simp [rootOf] at hr; subst hr;simp only [setAt,e0];split
      ·rw [bw,bw,if_pos rfl,if_pos rfl]
      ·exact e0
    | c b j => simp [rootOf] at hr
   ·rw [fh hr,fh hr]; exact e0
  rw [e1]
 simp only [eR,hpb,C9 t hpt,hk,hz,if_true];simp [hbr,mA,hpt]
theorem ym {b off k : Nat} : ∀ {s : St} {v : AV},GL (cJ b off k) s v = false -> (∀ i,∀ p ∈ aK (get s.env i),cJ b off k p = false) /\ (∀ d cs,aJ s.H d = some cs -> ∀ p ∈ cY cs,cJ b off k p = false) /\ ∀ p ∈ aK v,cJ b off k p = false := by
 intro s v h;simp only [GL,eM] at h;obtain ⟨h1,h2,h3⟩ := h;refine ⟨fun i p hp => ?_,fun d cs hb => GH h3 hb,fun p hp => ?_⟩
 ·cases hh : cJ b off k p with
  | false => rfl
  | true => rw [NT (i := i) (rZ.2 ⟨p,hp,hh⟩)] at h2; cases h2
 ·cases hh : cJ b off k p with
  | false => rfl
  | true => rw [rZ.2 ⟨p,hp,hh⟩] at h1; cases h1
theorem abj {p : Rt} {b : Nat} (h : mR b (Tu p) = false) : b ∉ kN p := by
 cases p with
 | s i => simp [kN]
 | sc i j => simp [kN]
 | c d j =>
   have := (nB h).2 99999;simp only [Tu,kN,cq] at this ⊢;intro e;subst e;exact this rfl
theorem pX.SR {b j : Nat} {s t : St} (h : ∀ cs,aJ s.H b = some cs -> ∃ ds,aJ t.H b = some ds /\ ds[j]? = cs[j]?) : pX b j s t := fun cs hc => by
 obtain ⟨ds,a,e⟩ := h cs hc;exact ⟨ds,a,sR _ e⟩
theorem OD {s : St} {p : Rt} {k : Nat} {xs xs' : List AV} (hp : av s p = some (k,xs)) (hl : xs'.length = xs.length) (b j : Nat) : pX b j s (setAt s p (.own k xs')) /\ pX b j (setAt s p (.own k xs')) s := by
 cases p with
 | s i => exact ⟨.of_eq rfl,.of_eq rfl⟩
 | sc i l =>
   have e : (setAt s (.sc i l) (.own k xs')).H = s.H := by simp only [setAt]; split <;> rfl
   exact ⟨.of_eq (by rw [e]),.of_eq (by rw [e])⟩
 | c d l =>
   have h1 := bZ.1 hp;simp only [at_] at h1;split at h1
   case h_2 => cases h1
   rename_i cs dx;have e : (setAt s (.c d l) (.own k xs')).H = s.H.set d (some (cs.set l (.own k xs'))) := by simp only [setAt,dx]
   have hb : ∀ c,aJ (setAt s (.c d l) (.own k xs')).H c = if c = d then some (cs.set l (.own k xs')) else aJ s.H c := fun c => by
    rw [e,dD];by_cases q : c = d
    ·rw [if_pos ⟨q,by subst q; exact dY dx⟩,if_pos q]
    ·rw [if_neg (fun h => q h.1),if_neg q]
   by_cases q : b = d
   ·subst q;have lc := Ba (f := fun i => Rt.c b i) (j := 0) h1 hl;refine ⟨fun ds nE => ⟨_,by rw [hb,if_pos rfl],?_⟩,fun ds nE => ⟨cs,dx,?_⟩⟩
    ·rw [dx] at nE; cases nE;exact congrArg (·[j]?) lc
    ·rw [hb,if_pos rfl] at nE; cases nE;exact (congrArg (·[j]?) lc).symm
   ·exact ⟨.of_eq (by rw [hb,if_neg q]),.of_eq (by rw [hb,if_neg q])⟩
theorem afR {s s1 : St} {k : Nat} {x y : E} {v : AV} {sl : List Nat} {bs : Option (List Nat)} (h : eR c call s (.st k x y) = some (v,s1,.wr sl bs)) : ∃ V,Qk c call s (.st k x y) v s1 sl bs V := by
 have hcg : ∀ {d : Nat} {u : AV} {e : Env},(∀ i,get e i = if i = d then u else get s.env i) -> d ∉ (Kd.st k x y).reads -> bp c e x = bp c s.env x /\ bp c e y = bp c s.env y := by
  intro d u e he hd;simp only [Kd.reads,aD,not_or] at hd;exact ⟨bT fun i hi => by rw [he,if_neg]; intro e; subst e; exact hd.1 hi,bT fun i hi => by rw [he,if_neg]; intro e; subst e; exact hd.2 hi⟩
 have G3 : ∀ {d : Nat} {u : AV},∀ i,get (put s.env d u) i = if i = d then u else get s.env i := fun i => bw _ _ _ _;simp only [eR] at h;split at h
 ·rename_i k' p i off hx;split at h
  case h_2 => cases h
  rename_i s2 f hh;simp only [ai,aF] at h;obtain ⟨rfl,rfl,h⟩ := h
  have he : aK (bp c s.env y) = [] := by
   cases hb : aK (bp c s.env y) with
   | nil => rfl
   | cons a b => rw [hb] at h; simp at h
  rw [he] at h hh;simp at h;subst h;rw [show dC [] s = s from rfl,hx] at hh;simp only [N6] at hh;split at hh
  case h_2 => cases hh
  rename_i k2 xs hp;split at hh
  case isFalse => cases hh
  rename_i hk;split at hh
  case h_2 => cases hh
  rename_i z hz;by_cases hc : (bp c s.env y).cells.length = k /\ off + k <= k' /\ U9 (bp c s.env y).cells = true
  case neg => rw [if_neg hc] at hh; cases hh
  rw [if_pos hc] at hh;simp only [ai,aF,Fq.wr.injEq] at hh;obtain ⟨rfl,rfl,rfl⟩ := hh;have vv := u9 hp;refine ⟨fun _ => False,⟨fun i _ hi => fh fun hm => hi (wy.2 hm),fun i _ => OE (hk ▸ hp) (dc ..) i,(fun i h1 h2 => fh fun hi => by rw [vv i hi] at h1; cases h1),fun l hl b hb => (by cases hl; exact rl (abj hb)),fun l hl b j hb hbj => (by cases hl; exact OD (hk ▸ hp) (dc ..) b j),fun i hi => ⟨fun _ _ => id,id,fun _ => id⟩,fun l hl b hb qU cs dx => ⟨fun _ _ => id,fun _ _ => id⟩,fun l hl b j _ _ _ cs c0 _ _ => ⟨fun _ _ => id,fun _ _ _ => id⟩,fun d u hd _ hds0 hu => ?_⟩⟩;have nE : d ∉ rootOf p := fun hm => hds0 (wy.2 hm);obtain ⟨e1,e2⟩ := hcg (G3 (d := d) (u := u)) hd;refine ⟨⟨put s.env d u,s.H⟩,_,marks (rootOf p),dv.rfl',?_,fun i hi => hi,rk nE⟩;simp only [eR,e1,hx,e2,he];rw [show dC [] ⟨put s.env d u,s.H⟩ = (⟨put s.env d u,s.H⟩ : St) from rfl,e1,hx,e2];simp only [N6,nj nE,hp,hk,if_true,hz];rw [if_pos hc];simp
 ·rename_i hnp;split at h
  case h_2 => cases h
  rename_i s2 f hh;simp only [ai,aF] at h;obtain ⟨rfl,rfl,rfl⟩ := h;unfold N6 at hh;split at hh
  ·rename_i b off hx;unfold wX at hh;split at hh
   case h_2 => cases hh
   rename_i cs hb;split at hh
   case isFalse => cases hh
   rename_i hc;split at hh
   ·split at hh
    ·split at hh <;> simp at hh
    ·cases hh
   ·rename_i Np;simp only [ai,aF,Fq.wr.injEq] at hh;obtain ⟨rfl,rfl,rfl⟩ := hh
    have Tw : bI ((cs.drop off).take k) = true -> GL (cJ b off k) s (bp c s.env y) = false := fun ho => by
     rw [ho] at Np; simpa using Np
    apply tQ.up;refine ⟨fun p => bI ((cs.drop off).take k) = true /\ cJ b off k p = true,⟨fun i hi _ => rfl,fun i hi => rfl,fun i h1 h2 => rfl,fun l hl d hd => ?_,fun i hi => ⟨fun p hp hV => ?_,fun hV => by simp [cJ] at hV,fun j hV => by simp [cJ] at hV⟩,fun l hl d hd CH ds nE => ⟨fun p hp hV => ?_,fun _ j hV => ?_⟩,fun d u hd nE _ hu => ?_⟩⟩
    ·cases hl;have : d ≠ b := by simpa using hd
     show aJ (s.H.set b _) d = aJ s.H d;rw [dD,if_neg (fun e => this e.1)]
    ·rw [(ym (Tw hV.1)).1 i p hp] at hV; cases hV.2
    ·rw [(ym (Tw hV.1)).2.1 d ds nE p hp] at hV; cases hV.2
    ·cases hl;have : d ≠ b := by simpa using hd
     simp [cJ,this] at hV
    ·let t0 : St := Pk ⟨put s.env d u,s.H⟩
     have hg : ∀ i,get t0.env i = if i = d then u else get s.env i := fun i => by rw [nU,bw]
     have hH : t0.H = s.H := rfl;obtain ⟨e1,e2⟩ := hcg hg hd;refine ⟨t0,⟨t0.env,s.H.set b (some (jK cs off (bp c s.env y).cells))⟩,[],(pg _).symm,?_,fun i hi => hi,(pg _).symm.1,rfl⟩
     have agL : (bI ((cs.drop off).take k) && GL (cJ b off k) t0 (bp c s.env y)) = false := by
      cases ho : bI ((cs.drop off).take k) with
      | false => rfl
      | true =>
        obtain ⟨n1,n2,n3⟩ := ym (Tw ho)
        have nR : ∀ {l : List Rt},(∀ p ∈ l,cJ b off k p = false) -> vO (cJ b off k) l = false := by
         intro l hl;cases hh : vO (cJ b off k) l with
         | false => rfl
         | true => obtain ⟨p,hp,hq⟩ := rZ.1 hh; rw [hl p hp] at hq; cases hq
        have h0 := Tw ho;simp only [GL,eM] at h0;simp only [GL,Bool.true_and,eM];refine ⟨h0.1,?_,by rw [hH]; exact h0.2.2⟩;cases hh : GK (cJ b off k) t0.env with
        | false => rfl
        | true =>
          obtain ⟨i,_,h2⟩ := GJ hh;have : get (put s.env d u) i = get t0.env i := (nU ⟨put s.env d u,s.H⟩ i).symm;simp only [this,hg] at h2;split at h2
          ·obtain ⟨p,hp,hq⟩ := rZ.1 h2;exact absurd ⟨ho,hq⟩ (hu p hp)
          ·rw [nR (n1 i)] at h2; cases h2
     simp only [eR,e1,hx,e2,N6,wX,hH,hb];rw [if_pos hc];simp only [agL,bO,if_false]
  ·rename_i k2 p2 i2 off2 e1;exact absurd e1 (hnp k2 p2 i2 off2)
  ·cases hh
theorem DX {q : Rt} : ∀ {l : List Rt},q ∈ l -> ∀ i ∈ rootOf q,i ∈ xx l
 | [],h,i,_ => by simp at h
 | r :: l,h,i,hi => by
   simp only [xx,aD];rcases aX.1 h with e | e
   ·subst e; exact .inl hi
   ·exact .inr (DX e i hi)
theorem ZH {s t : St} {k : Nat} {x : AV} (h : ∀ p ∈ aK x,av t p = av s p) : cont t k x = cont s k x := by
 cases x <;> try rfl
 case c8 k' p off len => simp only [cont]; rw [h p (by simp [aK])]
 case own k' xs => cases xs <;> rfl
theorem V8 {p : Rt} {x : AV} (h : p ∉ aK x) : cn (sw p) x = x := zL x fun k q o l hq => by
 have : q ≠ p := fun e => h (e ▸ hq);simp [sw,this]
theorem Dh {p : Rt} {x : List AV} (h : p ∉ cY x) : cV (sw p) x = x := nq x fun k q o l hq => by
 have : q ≠ p := fun e => h (e ▸ hq);simp [sw,this]
theorem Gx {p : Rt} {b : Nat} {m : List Nat} (h : mR b (cellOf p ++ m) = false) : b ∉ kN p := by
 intro hb;cases p with
 | s i => simp [kN] at hb
 | sc i j => simp [kN] at hb
 | c d j =>
   simp [kN] at hb;subst hb;exact (nB h).2 j (by simp [cellOf])
theorem adG {s s1 : St} {k : Nat} {x y : E} {v : AV} {sl : List Nat} {bs : Option (List Nat)} (h : eR c call s (.app k x y) = some (v,s1,.wr sl bs)) : ∃ V,Qk c call s (.app k x y) v s1 sl bs V := by
 simp only [eR] at h;split at h
 case h_2 => cases h
 rename_i ys hy;split at h
 case isFalse => cases h
 rename_i hl;split at h
 ·split at h <;> simp at h
 case h_3 => cases h
 rename_i k' p len hx;split at h
 case h_2 => cases h
 rename_i k2 xs hp;split at h
 case isFalse => cases h
 rename_i hc;simp only [ai,aF,Fq.wr.injEq] at h;obtain ⟨rfl,rfl,rfl,rfl⟩ := h;have vv := u9 hp;have yR : ∀ i ∈ rootOf p,i ∈ k9 p s.env := fun i hi => mW (.inr ⟨qC.2 hi,fun e => by have := vv i hi; rw [e] at this; cases this⟩);have nn : ∀ {i : Nat},i ∉ k9 p s.env -> p ∉ aK (get s.env i) /\ i ∉ rootOf p := fun {i} hi => ⟨fun e => hi (mW (.inl (rS.2 e))),fun e => hi (yR i e)⟩
 have Ge : ∀ i,p ∉ aK (get s.env i) -> i ∉ rootOf p -> get (setAt (bY (sw p) s) p .any).env i = get s.env i := fun i h1 h2 => by
  rw [fh h2];show get (kf (sw p) s.env) i = _;rw [de,V8 h1]
 refine ⟨fun q => q = p,⟨fun i hi _ => ?_,fun i hi => ?_,fun i h1 h2 => ?_,fun l hl b hb => ?_,fun l hl b j hb hbj => ?_,fun i hi => ⟨fun q hq e => ?_,fun e => ?_,fun j e => ?_⟩,fun l hl b hb qU cs dx => ⟨fun q hq e => ?_,fun _ j e => ?_⟩,fun l hl b j hb qU hbj cs c0 dx FW => ⟨fun q hq e => ?_,fun k0 xs0 e0 e => ?_⟩,fun d u hd nE hds2 hu => ?_⟩⟩
 ·obtain ⟨h1,h2⟩ := nn (en hi).1;exact Ge i h1 h2
 ·obtain ⟨h1,h2⟩ := nn (en hi).1;rw [Ge i h1 h2]
 ·exact Ge i (by rw [h2]; simp) fun hi => by rw [vv i hi] at h1; cases h1
 ·cases hl;have zX : b ∉ kN p := Gx hb;have qU := (en (nB hb).1).2;rw [rl zX];show aJ (fL (sw p) s.H) b = _;rw [eV];cases dx : aJ s.H b with
  | none => rfl
  | some cs =>
    simp only [cT,ai];refine Dh fun hm => qU ?_;have := la (k := 0) dx hm;simpa using this
 ·cases hl;obtain ⟨zX,qU⟩ := en hb;obtain ⟨Y8,_⟩ := en hbj
  have hsw : ∀ cs,aJ s.H b = some cs -> cV (sw p) cs = cs := fun cs dx => Dh fun hm => qU (by
   have := la (k := 0) dx hm;simpa using this)
  have hn : aJ s.H b = none -> aJ (setAt (bY (sw p) s) p .any).H b = none := fun hn => by
   cases p with
   | s i => show aJ (fL (sw _) s.H) b = none; rw [eV,hn]; rfl
   | sc i l =>
     simp only [setAt];split <;> (show aJ (fL (sw _) s.H) b = none; rw [eV,hn]; rfl)
   | c d l =>
     simp only [setAt];split
     ·rename_i cs dx;have hcs' : aJ (fL (sw (.c d l)) s.H) d = some cs := dx;show aJ ((fL (sw (.c d l)) s.H).set d _) b = none;rw [dD];by_cases e : b = d
      ·subst e; rw [eV,hn] at hcs'; cases hcs'
      ·rw [if_neg (fun h => e h.1),eV,hn]; rfl
     ·show aJ (fL (sw _) s.H) b = none; rw [eV,hn]; rfl
  have hs : ∀ cs,aJ s.H b = some cs -> ∃ ds,aJ (setAt (bY (sw p) s) p .any).H b = some ds /\ ds[j]? = cs[j]? := fun cs dx => by
   have hm : aJ (fL (sw p) s.H) b = some cs := by rw [eV,dx,cT,hsw cs dx]
   cases p with
   | s i => exact ⟨cs,hm,rfl⟩
   | sc i l =>
     simp only [setAt];split <;> exact ⟨cs,hm,rfl⟩
   | c d l =>
     simp only [setAt];split
     ·rename_i es hes;have hes' : aJ (fL (sw (.c d l)) s.H) d = some es := hes;show ∃ ds,aJ ((fL (sw (.c d l)) s.H).set d _) b = some ds /\ _;rw [dD];by_cases e : b = d
      ·subst e;rw [hm] at hes';cases hes';refine ⟨cs.set l .any,by rw [if_pos ⟨rfl,dY hm⟩],?_⟩;rw [List.getElem?_set_ne];intro e2;subst e2;exact Y8 (by simp [cellOf])
      ·rw [if_neg (fun h => e h.1)];exact ⟨cs,hm,rfl⟩
     ·exact ⟨cs,hm,rfl⟩
  refine ⟨.SR hs,.SR fun ds nE => ?_⟩;cases dx : aJ s.H b with
  | none => rw [hn dx] at nE; cases nE
  | some cs =>
    obtain ⟨ds',h1,h2⟩ := hs cs dx;rw [h1] at nE;cases nE;exact ⟨cs,rfl,h2.symm⟩
 ·subst e;exact (nn (en hi).1).1 hq
 ·subst e;exact (nn (en hi).1).2 (by simp [rootOf])
 ·subst e;exact (nn (en hi).1).2 (by simp [rootOf])
 ·subst e;cases hl;obtain ⟨zX,qU⟩ := en (nB hb).1;have := la (k := 0) dx hq;exact qU (by simpa using this)
 ·subst e;cases hl;exact Gx hb (by simp [kN])
 ·subst e;cases hl;obtain ⟨zX,qU⟩ := en hb;have := la (k := 0) dx (fu.2 ⟨c0,aW FW,hq⟩);exact qU (by simpa using this)
 ·subst e;cases hl;exact (en hbj).1 (by simp [cellOf])
 ·have Ze := (en nE).1;have CH : d ∉ xx (aK (bp c s.env y)) := fun hm => (en hds2).2 (wy.2 hm);obtain ⟨hd3,hd4⟩ := nn Ze
  let t0 : St := Pk ⟨put s.env d u,s.H⟩
  have Nf : dv t0 ⟨put s.env d u,s.H⟩ := (pg _).symm;have hg : ∀ i,get t0.env i = if i = d then u else get s.env i := fun i => by rw [nU,bw]
  have hH : t0.H = s.H := rfl;simp only [Kd.reads,aD,not_or] at hd;have e1 : bp c t0.env x = bp c s.env x := bT fun i hi => by rw [hg,if_neg]; intro e; subst e; exact hd.1 hi
  have e2 : bp c t0.env y = bp c s.env y := bT fun i hi => by rw [hg,if_neg]; intro e; subst e; exact hd.2 hi
  have own : ∀ q,d ∉ rootOf q -> av t0 q = av s q := fun q hq => by rw [<- Nf.own q]; exact nj hq
  have e3 : cont t0 k (bp c s.env y) = cont s k (bp c s.env y) := ZH fun q hq => own q fun hr => CH (DX hq d hr);have KU : p ∉ aK u := fun hm => hu p hm rfl;refine ⟨t0,setAt (bY (sw p) t0) p .any,k9 p t0.env ++ marks (xx (aK (bp c s.env y))),Nf,?_,fun i hi => ?_,?_⟩
  ·simp only [eR,e1,e2,e3,hy,hl,if_true,hx,own p hd4,hp];rw [if_pos hc];rfl
  ·rcases aD.1 hi with hi | hi
   ·obtain ⟨_,h2⟩ := Av hi;have : get (put s.env d u) i = get t0.env i := (nU ⟨put s.env d u,s.H⟩ i).symm;simp only [this,hg] at h2;refine aD.2 (.inl ?_);rcases h2 with h2 | h2
    ·split at h2
     ·exact absurd (rS.1 h2) KU
     ·exact mW (.inl h2)
    ·exact yR i (qC.1 h2)
   ·exact aD.2 (.inr hi)
  ·have h5 : dv (bY (sw p) t0) ⟨put (bY (sw p) s).env d u,(bY (sw p) s).H⟩ := ⟨fun i => by
    show get (kf (sw p) t0.env) i = get (put (kf (sw p) s.env) d u) i;rw [de,hg,bw,de];split
    ·exact V8 KU
    ·rfl,rfl⟩
   exact (DO h5 p .any).trans (rk hd4)
theorem adE {s s1 : St} {f : Nat} {x : E} {es : List E} {g : Nat -> List AV -> List AV -> Option (List AV)} {v : AV} {sl : List Nat} {bs : Option (List Nat)} (hi : c.inp f = none) (Ls : c.eat f = some g) (h : P3 s g (bp c s.env x) (dt c s.env es) = some (v,s1,.wr sl bs)) : ∃ V,Qk c call s (.call f (x :: es)) v s1 sl bs V := by unfold P3 at h;cases h
theorem adD {s s1 : St} {kd : Kd} {v : AV} {sl : List Nat} {bs : Option (List Nat)} (hni : ∀ f x es,kd = .call f (x :: es) -> c.inp f ≠ none) (je : ∀ t,eR c call t kd = dm c call kd t) (h : oJ c s kd = some (some (v,s1,.wr sl bs))) : ∃ V,tQ c call s kd v s1 sl bs V := by
 have h0 := h;unfold oJ at h;split at h
 case h_2 => cases h
 rename_i f x es;split at h
 case h_1 =>
  rename_i hin;exact absurd hin (hni _ _ _ rfl)
 rename_i g Ls;simp only [ai] at h;split at h
 case h_4 => cases h
 case h_3 =>
  exfalso
  (repeat' split at h) <;> simp at h
 ·rename_i k hx;split at h
  case isFalse => cases h
  rename_i sd;split at h
  case h_2 => cases h
  rename_i ys res Hi;simp only [ai,aF,Fq.wr.injEq] at h;obtain ⟨rfl,rfl,rfl,rfl⟩ := h;refine ⟨fun _ => False,⟨fun i hi _ => rfl,fun i hi => rfl,fun i h1 h2 => rfl,fun l hl b hb => rfl,fun i hi => ⟨fun _ _ => id,id,fun _ => id⟩,fun l hl b hb qU cs dx => ⟨fun _ _ => id,fun _ _ => id⟩,fun d u hd nE _ hu => ?_⟩⟩;have G3 : ∀ i,get (put s.env d u) i = if i = d then u else get s.env i := fun i => bw _ _ _ _;simp only [Kd.reads,mM,aD,not_or] at hd;have e1 : bp c (put s.env d u) x = bp c s.env x := bT fun i hi => by rw [G3,if_neg]; intro e; subst e; exact hd.1 hi
  have e2 : dt c (put s.env d u) es = dt c s.env es := fy fun i hi => by rw [G3,if_neg]; intro e; subst e; exact hd.2 hi
  refine ⟨⟨put s.env d u,s.H⟩,⟨put s.env d u,s.H⟩,[],dv.rfl',?_,fun i hi => hi,dv.rfl'⟩;rw [je];unfold dm oJ;simp only [Ls,e1,hx,e2];rw [if_pos sd];simp only [Hi]
 rename_i k p len hx;split at h
 case h_2 => cases h
 rename_i k' xs hp;split at h
 case isFalse => cases h
 rename_i hc;split at h
 case h_2 => cases h
 rename_i ys res Hi;simp only [ai,aF,Fq.wr.injEq] at h;obtain ⟨rfl,rfl,rfl,rfl⟩ := h;have vv := u9 hp;refine ⟨fun _ => False,⟨fun i hi _ => fh hi,(fun i hi => by rw [fh hi]),(fun i h1 h2 => fh fun hi => by rw [vv i hi] at h1; cases h1),fun l hl b hb => (by cases hl; exact rl hb),fun i hi => ⟨fun _ _ => id,id,fun _ => id⟩,fun l hl b hb qU cs dx => ⟨fun _ _ => id,fun _ _ => id⟩,fun d u hd nE _ hu => ?_⟩⟩;have G3 : ∀ i,get (put s.env d u) i = if i = d then u else get s.env i := fun i => bw _ _ _ _;simp only [Kd.reads,mM,aD,not_or] at hd;have e1 : bp c (put s.env d u) x = bp c s.env x := bT fun i hi => by rw [G3,if_neg]; intro e; subst e; exact hd.1 hi
 have e2 : dt c (put s.env d u) es = dt c s.env es := fy fun i hi => by rw [G3,if_neg]; intro e; subst e; exact hd.2 hi
 refine ⟨⟨put s.env d u,s.H⟩,_,rootOf p,dv.rfl',?_,fun i hi => hi,rk nE⟩;rw [je];unfold dm oJ;simp only [Ls,e1,hx,nj nE,hp,e2];rw [if_pos hc];simp only [Hi]
theorem aag {s s1 : St} {k : Nat} {x y : E} {v : AV} {sl : List Nat} {bs : Option (List Nat)} (h : eR c call s (.copy k x y) = some (v,s1,.wr sl bs)) : ∃ V,tQ c call s (.copy k x y) v s1 sl bs V := by
 have je : ∀ t,eR c call t (.copy k x y) = match bp c t.env x with
   | .c8 k' p off n => if n = 0 then (match cont t k (bp c t.env y) with
     | some ys => if k' = k /\ bq (aG ys) = true then some (.int .i64 0,t,.all) else none
     | none => none) else match av t p,cont t k (bp c t.env y) with
     | some (wA,xs),some ys => if k' = k /\ wA = k /\ off + n <= xs.length /\ bq (aG ys) = true then some (.int .i64 (min ys.length n : Nat),setAt t p (.own k (jK xs off (ys.take (min ys.length n)))),NH p (bp c t.env y)) else none
     | _,_ => none
   | _ => none := fun t => rfl
 rw [je] at h;split at h
 case h_2 => cases h
 rename_i k' p off n hx;split at h
 ·exfalso
  (repeat' split at h) <;> simp at h
 rename_i hn;split at h
 case h_2 => cases h
 rename_i wA xs ys hp hy;split at h
 case isFalse => cases h
 rename_i hc;simp only [ai,aF] at h;obtain ⟨rfl,rfl,hl⟩ := h;rcases vF p (bp c s.env y) with e | ⟨ky,oy,ly,ey,e⟩
 ·rw [e] at hl; cases hl
 rw [e] at hl;simp only [Fq.wr.injEq] at hl;obtain ⟨rfl,rfl⟩ := hl;have vv := u9 hp;refine ⟨fun _ => False,⟨fun i hi _ => fh hi,(fun i hi => by rw [fh hi]),(fun i h1 h2 => fh fun hi => by rw [vv i hi] at h1; cases h1),fun l hl b hb => (by cases hl; exact rl hb),fun i hi => ⟨fun _ _ => id,id,fun _ => id⟩,fun l hl b hb qU cs dx => ⟨fun _ _ => id,fun _ _ => id⟩,fun d u hd nE _ hu => ?_⟩⟩;have G3 : ∀ i,get (put s.env d u) i = if i = d then u else get s.env i := fun i => bw _ _ _ _;simp only [Kd.reads,mM,aD,not_or] at hd;have e1 : bp c (put s.env d u) x = bp c s.env x := bT fun i hi => by rw [G3,if_neg]; intro e; subst e; exact hd.1 hi
 have e2 : bp c (put s.env d u) y = bp c s.env y := bT fun i hi => by rw [G3,if_neg]; intro e; subst e; exact hd.2 hi
 have e3 : cont (⟨put s.env d u,s.H⟩ : St) k (bp c s.env y) = cont s k (bp c s.env y) := by
  rw [ey];simp only [cont,nj nE]
 refine ⟨⟨put s.env d u,s.H⟩,_,rootOf p,dv.rfl',?_,fun i hi => hi,rk nE⟩;rw [je];simp only [e1,hx,nj nE,hp,e2,e3,hy];rw [if_neg hn,if_pos hc,e]
theorem aaf {s s1 : St} {kd : Kd} {v : AV} {sl : List Nat} {bs : Option (List Nat)} (je : ∀ t,eR c call t kd = dm c call kd t) (h : oJ c s kd = some (some (v,s1,.wr sl bs))) : ∃ V,Qk c call s kd v s1 sl bs V := by
 by_cases hex : ∃ f x es,kd = .call f (x :: es) /\ c.inp f = none
 case neg =>
  exact tQ.up (adD (fun f x es e hn => hex ⟨f,x,es,e,hn⟩) je h)
 case pos =>
  obtain ⟨f,x,es,rfl,hin⟩ := hex;simp only [oJ,hin] at h;split at h
  ·cases h
  ·rename_i g Ls;simp only [ai] at h;exact adE hin Ls h
theorem LB {s s1 : St} {kd : Kd} {v : AV} {sl : List Nat} {bs : Option (List Nat)} (je : ∀ t,eR c call t kd = dm c call kd t) (h : eR c call s kd = some (v,s1,.wr sl bs)) : ∃ V,Qk c call s kd v s1 sl bs V := by
 rw [je] at h;unfold dm at h;cases hi : oJ c s kd with
 | none =>
   rw [hi] at h;cases hl : mJ c call s kd with
   | none =>
     rw [hl] at h;simp only [fj] at h;cases hm : qQ c call s kd with
     | none =>
       rw [hm] at h;replace h := (jI h).resolve_right fun h => by obtain ⟨e,_⟩ := wa h; cases e
       exact tQ.up (aah je hi hl hm h)
     | some r =>
       rw [hm] at h;simp only at h;subst h;obtain ⟨e,_⟩ := wv hm;cases e
   | some r =>
     rw [hl] at h;simp only at h;subst h;obtain ⟨b,e⟩ := Dq hl;cases e
 | some r =>
   rw [hi] at h;simp only at h;subst h;exact aaf je hi
theorem wrOp {s s1 : St} {kd : Kd} {v : AV} {sl : List Nat} {bs : Option (List Nat)} (h : eR c call s kd = some (v,s1,.wr sl bs)) : ∃ V,Qk c call s kd v s1 sl bs V := by
 cases kd
 case call => exact LB (fun _ => rfl) h
 case jm => exact LB (fun _ => rfl) h
 case st => exact afR h
 case app => exact adG h
 case copy => exact tQ.up (aag h)
 case c5 => exact tQ.up (T0 h)
 case ld =>
  exfalso;simp only [eR] at h;split at h
  case h_2 => cases h
  split at h
  case isFalse => cases h
  simp only [ai,aF] at h;obtain ⟨_,_,h5⟩ := h;rcases vo _ _ _ with e | ⟨b,j,e⟩ <;> rw [e] at h5 <;> cases h5
 all_goals
  exfalso;simp only [eR] at h
  (repeat' split at h) <;> simp at h
theorem afS : Al c call := by
 intro s q v s1 sl bs ⟨hk,s0,t1,e0,he,e1⟩
 have op : eR c call s0 q.kd = some (v,t1,.wr sl bs) -> (∀ t : St,(∀ i ∈ q.reads,get t.env i = get s.env i) -> CO c call t q = eR c call t q.kd) -> ∃ V,WrEv c call s q v s1 sl bs V := by
  intro h C8;obtain ⟨V,hV⟩ := wrOp h;have hr : ∀ i ∈ q.kd.reads,i ∈ q.reads := fun i hi => by simp [O.reads,hi]
  refine ⟨V,⟨fun i hi hi2 => by rw [<- e1.1,hV.env i hi hi2,e0.1],fun i hi => by rw [<- e1.1,hV.hd i hi,e0.1],fun i h1 h2 => by rw [<- e1.1,hV.keep i (by rw [<- e0.1]; exact h1) (by rw [<- e0.1]; exact h2),e0.1],fun l hl b hb => by rw [<- e1.2,hV.heap l hl b hb,e0.2],fun l hl b j h1 h2 => (by
   have := hV.cell l hl b j h1 h2;unfold pX at this ⊢;rw [e0.2,<- e1.2]; exact this),fun i hi => by rw [e0.1]; exact hV.v1 i hi,fun l hl b hb qU cs dx => hV.v2 l hl b hb qU cs (by rw [<- e0.2]; exact dx),fun l hl b j h1 h2 h3 cs c0 hb hc => hV.v3 l hl b j h1 h2 h3 cs c0 (by rw [<- e0.2]; exact hb) hc,fun d u hd nE hds2 hu => ?_⟩⟩
  obtain ⟨t0,t2,sl',h1,h2,h3,h4⟩ := hV.go d u (fun h => hd (hr d h)) nE hds2 hu;have h6 : dv (⟨put s0.env d u,s0.H⟩ : St) ⟨put s.env d u,s.H⟩ := ⟨fun i => by simp only [bw,e0.1],e0.2.symm⟩;have hs : dv (⟨put s.env d u,s.H⟩ : St) t0 := (h1.trans h6).symm;refine ⟨t2,sl',⟨hk,t0,t2,hs,?_,dv.rfl'⟩,h3,h4.trans ⟨fun i => by simp only [bw,e1.1],e1.2⟩⟩;rw [C8 t0 fun i hi => ?_]
  ·exact h2
  ·rw [<- hs.1 i];show get (put s.env d u) i = _;rw [bw,if_neg];intro e; subst e; exact hd hi
 unfold CO at he;cases hg : q.guard with
 | none =>
   rw [hg] at he;exact op he fun t _ => by unfold CO; rw [hg]
 | some gp =>
   obtain ⟨g,want⟩ := gp;rw [hg] at he;simp only at he;have Hi : g ∈ q.reads := by simp [O.reads,hg]
   split at he
   ·rename_i b hb;split at he
    ·rename_i PT;refine op he fun t h1 => ?_;unfold CO;rw [hg];simp only [h1 g Hi,e0.1 g,hb,PT,if_true]
    ·cases he
   ·cases he
   ·cases he
theorem lwOp {s s1 : St} {kd : Kd} {v : AV} {b : Nat} (h : eR c call s kd = some (v,s1,.lw b)) : (∀ t,eR c call t kd = dm c call kd t) /\ oJ c s kd = none /\ mJ c call s kd = some (some (v,s1,.lw b)) := by
 have nc : ∀ {kd : Kd},dm c call kd s = some (v,s1,.lw b) -> oJ c s kd = none /\ mJ c call s kd = some (some (v,s1,.lw b)) := by
  intro kd h;unfold dm at h;cases hi : oJ c s kd with
  | some r =>
    rw [hi] at h;simp only at h;subst h;obtain ⟨sl,bs,e | e⟩ := zS hi <;> cases e
  | none =>
    rw [hi] at h;cases hl : mJ c call s kd with
    | some r =>
      rw [hl] at h;simp only at h;subst h;exact ⟨rfl,rfl⟩
    | none =>
      rw [hl] at h;simp only [fj] at h;exfalso;split at h
      ·rename_i r hm;subst h;obtain ⟨e,_⟩ := wv hm;cases e
      replace h := (jI h).resolve_right fun h => by obtain ⟨e,_⟩ := wa h; cases e
      unfold dG at h
      (repeat' split at h)
      all_goals first
       | (cases h; done)
       | (simp [Bs] at h; done)
       | (simp at h; obtain ⟨_,_,h5⟩ := h; revert h5; split <;> simp [Bs]; done)
       | (simp only [ai,aF] at h; obtain ⟨_,_,h5⟩ := h; split at h5 <;> cases h5)
 have ns : ∀ {s s' : St} {k : Nat} {a v : AV},N6 s k a v ≠ some (s',.lw b) := by
  intro s s' k a v h;unfold N6 wX at h
  repeat' split at h
  all_goals first
   | (cases h; done)
   | (simp at h; done)
 cases kd
 case call => exact ⟨fun _ => rfl,nc h⟩
 case jm => exact ⟨fun _ => rfl,nc h⟩
 case st k a v =>
  exfalso;simp only [eR] at h;split at h
  ·split at h
   case h_2 => cases h
   rename_i hh;simp only [ai,aF] at h;obtain ⟨_,_,h5⟩ := h;split at h5
   ·rw [h5] at hh; exact ns hh
   ·cases h5
  ·split at h
   case h_2 => cases h
   rename_i hh;simp only [ai,aF] at h;obtain ⟨_,_,h5⟩ := h;rw [h5] at hh;exact ns hh
 all_goals
  exfalso;simp only [eR] at h
  (repeat' split at h)
  all_goals first
   | (cases h; done)
   | (simp at h; done)
   | (simp [Bs] at h; done)
   | (simp at h; obtain ⟨_,_,h5⟩ := h; rcases vo _ _ _ with e | ⟨b,j,e⟩ <;> rw [e] at h5 <;> cases h5; done)
   | (simp at h; obtain ⟨_,_,h5⟩ := h; rcases vF _ _ with e | ⟨_,_,_,_,e⟩ <;> rw [e] at h5 <;> cases h5; done)
   | (simp at h; obtain ⟨_,_,h5⟩ := h; revert h5; split <;> simp)
theorem agB : Ao c call := by
 intro s q v s1 b ⟨hk,s0,t1,e0,he,e1⟩
 have op : eR c call s0 q.kd = some (v,t1,.lw b) -> (∀ t : St,(∀ i ∈ q.reads,get t.env i = get s.env i) -> CO c call t q = eR c call t q.kd) -> ∃ cs cs',LwEv c call s q v s1 b cs cs' := by
  intro h C8;obtain ⟨je,hi,hl⟩ := lwOp h;obtain ⟨f,x,es,b',md,q',cs,cs',hkd,h1,h2,h3,h4,h5,h6,h7,h8,h9⟩ := vl hl;simp only [Fq.lw.injEq] at h9;subst h9;have hin : ∀ i ∈ mM (x :: es),i ∈ q.reads := fun i hi => by simp [O.reads,hkd,Kd.reads,hi]
  refine ⟨cs,cs',⟨by rw [e0.2]; exact h4,?_,fun t ht hbt => ?_⟩⟩
  ·refine e1.symm.trans ?_;rw [h8];exact ⟨fun i => (e0.1 i).symm,by show s0.H.set b (some cs') = s.H.set b (some cs'); rw [e0.2]⟩
  ·refine ⟨hk,t,⟨t.env,t.H.set b (some cs')⟩,dv.rfl',?_,dv.rfl'⟩;rw [C8 t ht,je];unfold dm;rw [wC hi t]
   have bz : mJ c call t q.kd = some (some (v,⟨t.env,t.H.set b (some cs')⟩,.lw b)) := by
    have e2 : bp c t.env x = bp c s0.env x := bT fun i hi => by rw [ht i (hin i (by simp [mM,hi])),e0.1 i]
    have e3 : dt c t.env es = dt c s0.env es := fy fun i hi => by rw [ht i (hin i (by simp [mM,hi])),e0.1 i]
    rw [hkd];unfold mJ;simp only;rw [if_pos h1];unfold UI;rw [e2,e3,h2];simp only [h3,hbt];rw [if_pos h5,h6];simp only;rw [if_pos h7]
   rw [bz]
 unfold CO at he;cases hg : q.guard with
 | none =>
   rw [hg] at he;exact op he fun t _ => by unfold CO; rw [hg]
 | some gp =>
   obtain ⟨g,want⟩ := gp;rw [hg] at he;simp only at he;have Hi : g ∈ q.reads := by simp [O.reads,hg]
   split at he
   ·rename_i b hb;split at he
    ·rename_i PT;refine op he fun t h1 => ?_;unfold CO;rw [hg];simp only [h1 g Hi,e0.1 g,hb,PT,if_true]
    ·cases he
   ·cases he
   ·cases he
theorem afr (c6 : eQ P c) (Bp : Jx P c call) : GV P c call := Vd c6 Bp (afs ab2 afS agB)
end
end Go.Bm

/- The end of a function that sees boxes of others. -/
namespace Go.Bm
open Go.Am
mutual
theorem Kt {o o' : Rt -> Option (Nat × List AV)} {nb MB : Nat} (hn : nb <= MB) : ∀ x,eO x = true -> cD o nb x -> cD o' MB x
 | .ptr b off,_,h => by simp only [cD] at h ⊢; omega
 | .agg cs,hp,h => by simp only [eO] at hp; simp only [cD] at h ⊢; exact zw hn cs hp h
 | .dp cs,hp,h => by simp only [eO] at hp; simp only [cD] at h ⊢; exact zw hn cs hp h
 | .func f a b,hp,h => by simp only [eO,aa] at hp; simp only [cD] at h ⊢; exact ⟨zw hn a hp.1 h.1,zw hn b hp.2 h.2⟩
 | .own _ _,hp,_ => by simp [eO] at hp
 | .c8 _ _ _ _,hp,_ => by simp [eO] at hp
 | .ez _ _ _ _,hp,_ => by simp [eO] at hp
 | .sl _ b _ _,_,h => by simp only [cD] at h ⊢; omega
 | .any,_,_ => trivial | .undef,_,_ => trivial | .eP,_,_ => trivial | .eT,_,_ => trivial | .dn,_,_ => trivial
 | .int _ _,_,_ => trivial | .bool _,_,_ => trivial | .str _,_,_ => trivial | .list _ _,_,_ => trivial | .dh _,_,_ => trivial
theorem zw {o o' : Rt -> Option (Nat × List AV)} {nb MB : Nat} (hn : nb <= MB) : ∀ xs,cI xs = true -> kF o nb xs -> kF o' MB xs
 | [],_,_ => trivial
 | x :: r,hp,h => by simp only [cI,aa] at hp; exact ⟨Kt hn x hp.1 h.1,zw hn r hp.2 h.2⟩
end
theorem zv {x : AV} (h : eO x = true) : bJ x = false := by
 cases x <;> first | rfl | (simp [eO] at h; done) | skip
 rename_i cs;simp only [eO] at h;simp only [bJ]
 induction cs with
 | nil => rfl
 | cons y r ih =>
   simp only [cI,aa] at h;have h1 := h.1;cases y <;> first | exact ih h.2 | (simp [eO] at h1; done)
theorem S9 : kc fo := by
 intro k r o l;cases r <;> exact ⟨⟨(fun cs e => by cases e),(fun k xs e => by cases e)⟩,⟨(fun cs e => by cases e),(fun k xs e => by cases e)⟩⟩
section
variable {P : Program} {X : Nat -> Prop} {φ n8 φ' : dq} {w w1 w' : World} {N N1 N' : Names} {s s' s1 : St} {Ha : Heap} {B : Nat -> Nat} {base : Nat} {v va : AV} {v' : Value} {c : dR} {a : Act} {call : Nat -> List AV -> Heap -> Option (AV × Heap)} {t : Nat -> Value}
theorem SF {s s' : St} (h : s'.H = s.H) (b j : Nat) : av s' (.c b j) = av s (.c b j) := by simp only [av,at_,h]
theorem wu (r : AV) (i : Nat) : get [(0,r)] i = if i = 0 then r else .any := by simp only [Am.get]
theorem eF.leave (h : eF X φ w N s Ha t) {i0 : Nat} {r : AV} (hr : get s.env i0 = r) (hp : eO r = true) : eF X φ w N ⟨[(0,r)],fL fo s.H⟩ Ha (fun i => if i = 0 then t i0 else undef) := by
 have jH := zv hp
 have slot : ∀ i,(∀ k xs,get [(0,r)] i ≠ .own k xs) /\ (av ⟨[(0,r)],fL fo s.H⟩ (.s i) = none /\ ∀ j,av ⟨[(0,r)],fL fo s.H⟩ (.sc i j) = none) := by
  intro i
  have h0 : bJ (get (⟨[(0,r)],fL fo s.H⟩ : St).env i) = false := by
   show bJ (get [(0,r)] i) = false;rw [wu]; split
   ·exact jH
   ·rfl
  refine ⟨fun k xs e => ?_,dV h0⟩;have h1 : bJ (get [(0,r)] i) = false := h0;rw [e] at h1; cases h1
 have box : ∀ b j,av ⟨[(0,r)],fL fo s.H⟩ (.c b j) = av s (.c b j) := fun b j => by
  rw [<- ji S9 s (.c b j)];exact SF rfl b j
 have own : ∀ {p},(av ⟨[(0,r)],fL fo s.H⟩ p).isSome -> av ⟨[(0,r)],fL fo s.H⟩ p = av s p /\ ∃ b j,p = .c b j := by
  intro p hp;cases p with
  | s i => rw [(slot i).2.1] at hp; cases hp
  | sc i j => rw [(slot i).2.2 j] at hp; cases hp
  | c b j => exact ⟨box b j,b,j,rfl⟩
 have hlen : (fL fo s.H).length = s.H.length := fA _ _;have back : ∀ b,(aJ (fL fo s.H) b).isSome -> (aJ s.H b).isSome := fun b hb => by rw [eV] at hb; simpa using hb
 have hl : ∀ k p a l,(cD (av s) s.H.length (.c8 k p a l) -> cD (av ⟨[(0,r)],fL fo s.H⟩) s.H.length (fo (.c8 k p a l)) /\ Le (cF N (fo (.c8 k p a l))) (cF N (.c8 k p a l))) /\ (cD (av s) s.H.length (.ez k p a l) -> cD (av ⟨[(0,r)],fL fo s.H⟩) s.H.length (fo (.ez k p a l)) /\ Le (cF N (fo (.ez k p a l))) (cF N (.ez k p a l))) := by
  intro k p a l;cases p with
  | s i => exact ⟨fun _ => ⟨trivial,Le.any _⟩,fun _ => ⟨trivial,Le.any _⟩⟩
  | sc i j => exact ⟨fun _ => ⟨trivial,Le.any _⟩,fun _ => ⟨trivial,Le.any _⟩⟩
  | c b j =>
    refine ⟨fun h => ⟨?_,Le.refl _⟩,fun h => ⟨?_,Le.refl _⟩⟩
    ·simp only [fo,cD] at h ⊢; rw [box]; exact h
    ·simp only [fo,cD] at h ⊢; rw [box]; exact h
 refine ⟨fun i => ?_,fun i => ?_,h.heap,fun p k xs e => ?_,fun b cs e => ?_,fun p q n e1 e2 e3 e4 => ?_,fun b p e1 e2 e3 => ?_,fun b d e1 e2 e3 => h.bi b d (back b e1) (back d e2) e3⟩
 ·show bR _ _ (kJ N i (get [(0,r)] i)) (if i = 0 then t i0 else undef);rw [wu];by_cases e : i = 0
  ·subst e;simp only [if_true];have := h.env i0;rw [hr,vY N i0 jH] at this;rw [vY N 0 jH];exact this
  ·rw [if_neg e,if_neg e]; exact .any _ _
 ·show cD _ _ (get [(0,r)] i);rw [wu,hlen];split
  ·have := h.Hd i0;rw [hr] at this;exact Kt (ba _) r hp this
  ·trivial
 ·have := own (p := p) (by rw [e]; rfl);rw [this.1] at e;exact h.own p k xs e
 ·have hb : aJ (fL fo s.H) b = some cs := e;rw [eV] at hb;cases hc : aJ s.H b with
  | none => rw [hc] at hb; cases hb
  | some ds =>
    rw [hc] at hb;simp at hb;subst hb;obtain ⟨as,g1,g2,g3⟩ := h.box b ds hc;refine ⟨as,g1,by rw [b6]; exact g2,fun j d hd => ?_⟩;rw [dU] at hd;cases hj : ds[j]? with
    | none => rw [hj] at hd; cases hd
    | some d0 =>
      rw [hj] at hd;simp at hd;subst hd;obtain ⟨g4,a',g5,g6⟩ := g3 j d0 hj;obtain ⟨k1,k2⟩ := lh (N := N) (N' := N) (o := av s) (o' := av ⟨[(0,r)],fL fo s.H⟩) (nb := s.H.length) (g := fo) rfl S9 hl (r := .c b j) (x := d0) (fun _ _ _ => rfl) g4;refine ⟨?_,a',g5,k2.trans g6⟩;show cD _ (fL fo s.H).length _;rw [hlen]; exact k1
 ·rw [(own e1).1] at e1;rw [(own e2).1] at e2;exact h.inj p q n e1 e2 e3 e4
 ·have e2' : (av s p).isSome := by rw [<- (own e2).1]; exact e2
  exact h.bx b p (back b e1) e2' e3
theorem VX {env : Env} {base : Nat} : ∀ (n : Nat) (H : Heap),base <= H.length -> base <= (trim base env n H).length := by
 intro n
 induction n with
 | zero => intro H h; exact h
 | succ n ih =>
   intro H h;simp only [trim];split
   ·exact ih _ (by simp; omega)
   ·exact h
theorem eF.Zz {H : Heap} {r1 r2 : AV} (h : eF X φ w N ⟨[(0,r1)],H⟩ Ha t) (h1 : eO r1 = true) (h2 : eO r2 = true) (hk : cD (fun _ => none) H.length r2) (hr : bR (Rd X φ w) φ (cF N r2) v') : eF X φ w N ⟨[(0,r2)],H⟩ Ha (fun i => if i = 0 then v' else undef) := by
 have slot : ∀ {r : AV},eO r = true -> ∀ i,bJ (get (⟨[(0,r)],H⟩ : St).env i) = false := fun {r} hp i => by
  show bJ (get [(0,r)] i) = false;rw [wu]; split
  ·exact zv hp
  ·rfl
 have own : ∀ p,av ⟨[(0,r2)],H⟩ p = av ⟨[(0,r1)],H⟩ p := by
  intro p;cases p with
  | s i => rw [(dV (slot h2 i)).1,(dV (slot h1 i)).1]
  | sc i j => rw [(dV (slot h2 i)).2 j,(dV (slot h1 i)).2 j]
  | c b j => exact SF rfl b j
 refine ⟨fun i => ?_,fun i => ?_,h.heap,fun p k xs e => ?_,fun b cs e => ?_,fun p q n e1 e2 => ?_,fun b p e1 e2 => ?_,h.bi⟩
 ·show bR _ _ (kJ N i (get [(0,r2)] i)) (if i = 0 then v' else undef);rw [wu];by_cases e : i = 0
  ·rw [if_pos e,if_pos e,vY N i (zv h2)]; exact hr
  ·rw [if_neg e,if_neg e]; exact .any _ _
 ·show cD _ _ (get [(0,r2)] i);rw [wu];split
  ·exact Kt (ba _) r2 h2 hk
  ·trivial
 ·rw [own] at e; exact h.own p k xs e
 ·obtain ⟨as,g1,g2,g3⟩ := h.box b cs e;refine ⟨as,g1,g2,fun j c hc => ⟨mq (fun p _ => own p) (ba _) c (g3 j c hc).1,(g3 j c hc).2⟩⟩
 ·rw [own] at e1 e2; exact h.inj p q n e1 e2
 ·rw [own] at e2; exact h.bx b p e1 e2
theorem abt (h : eF X φ w N s Ha (tm a)) (hb : (∀ b,b < base -> N.β b = B b) /\ base <= s.H.length) (hv : bR (Rd X φ w) φ (cF N v) v') (hk : cD (av s) s.H.length v) {r : AV} {H' : Heap} (hf : finX base s v = some (r,H')) :
  ∃ φ',SB X φ' w B base ⟨[(0,r)],H'⟩ (fun i => if i = 0 then v' else undef) /\ eZ φ w φ' w := by unfold finX at hf;cases hf
theorem abq (h : eF X φ w N s Ha (tm a)) (hb : (∀ b,b < base -> N.β b = B b) /\ base <= s.H.length) (hv : bR (Rd X φ w) φ (cF N v) v') (hk : cD (av s) s.H.length v) (jH : bJ v = false) {r : AV} {H' : Heap} (hf : eh base s v = some (r,H')) :
  ∃ φ',SB X φ' w B base ⟨[(0,r)],H'⟩ (fun i => if i = 0 then v' else undef) /\ eZ φ w φ' w := by
 unfold eh at hf;split at hf
 case h_2 => cases hf
 rename_i Np;simp only at hf;split at hf
 case isFalse => cases hf
 rename_i hp;simp only [ai,aF] at hf;obtain ⟨rfl,rfl⟩ := hf;have FV := dS.quiet (t := tm a) h hb hk (nx jH) (by rw [lD N jH]; exact hv);obtain ⟨kT,⟨N2,Ha2,OA,qU⟩,a2⟩ := SB.dC (aK v) (FV.put eL Np);have h3 := OA.leave (i0 := eL) rfl hp;simp only [if_true] at h3;refine ⟨kT,⟨N2,Ha2,?_,qU.1,?_⟩,a2⟩
 ·exact eF.trim (base0 := base) _ h3
 ·exact VX _ _ (by rw [fA]; exact qU.2)
theorem shOK (c6 : eQ P c) (vA : vT P c) {n : Nat} (hs : NV P c n) : ShOK P c n := by
 intro f md q hf hm args H r H' h kG X φ w B vargs hl IQ hg;unfold mQ at h;split at h
 ·rename_i x C8;unfold O8 at C8;split at C8
  case h_2 => cases C8
  rename_i g Ls;rw [h] at C8;replace h := C8;exact vA f g md q Ls hf args H r H' (.inl hm) h (fun _ => kG) X φ w B vargs hl IQ hg
 ·rw [hf] at h;simp only at h;split at h
  case isFalse => cases h
  rename_i hle;obtain ⟨fn,h1,h2⟩ := c6.fn f md q hf;simp only [bK,aa,decide_eq_true_eq] at h2;obtain ⟨⟨⟨⟨hn,agI⟩,_⟩,hres⟩,rU⟩ := h2;split at rU
  case h_2 => cases rU
  rename_i code hb;have zU : (vargs ++ pq (fn.ntmps - vargs.size) undef).size = q.n := by simp; omega
  have htm : tm { tmps := vargs ++ pq (fn.ntmps - vargs.size) undef,defers := [] } = fun i => vargs.getD i undef := by
   funext i;simp only [tm,aZ];by_cases hi : i < vargs.size
   ·rw [Array.getElem?_append_left hi]
   ·rw [Array.getElem?_append_right (by omega),Array.getElem?_replicate];rw [Array.getElem?_eq_none (by omega)];split <;> rfl
  have hS : An X φ w B H.length ⟨dJ 0 args,H⟩ { tmps := vargs ++ pq (fn.ntmps - vargs.size) undef,defers := [] } q.n := ⟨by rw [htm]; exact IQ,rfl,zU⟩
  have fin : ∀ {e : Ex} {s : St} {vs : List AV},cC c n H.length q.body ⟨dJ 0 args,H⟩ = some (e,s) -> (e = .ret \/ e = .normal) -> oR c s q.res = some vs -> aV md H.length s (nJ vs) = some (r,H') -> Calls P f vargs w (Lk X φ w B H.length r H') := by
   intro e s vs he hre Lq PO;refine calls_of_wp h1 hb (hs q.n H.length code q.body _ s e (by omega) rU he X φ w B _ hS hg _ fun a' w' φ' hS' sS => ?_);obtain ⟨N,Ha,wg,hbB⟩ := hS'.sb;obtain ⟨TZ,x1,x2,x3,x4⟩ := VV wg (hg.nI sS) Lq;obtain ⟨v,k1,k2⟩ := BG (P := P) (s := ⟨yF N s.env,Ha⟩) (ts := a'.tmps) (fun i => by rw [mz]; exact wg.env i) wg.heap hres x1;unfold aV at PO;rw [hm,if_pos rfl] at PO
   have agK : ∃ kT,SB X kT w' B H.length ⟨[(0,r)],H'⟩ (fun i => if i = 0 then v else undef) /\ eZ φ' w' kT w' := by
    split at PO
    ·exact abt wg hbB (x2 _ _ _ k2) x3 PO
    ·exact abq wg hbB (x2 _ _ _ k2) x3 x4 PO
   obtain ⟨kT,s2,a2⟩ := agK;have : bodyPost P fn (Lk X φ w B H.length r H') .ret a' w' := ⟨hS'.defers,v,k1,v,kT,rfl,s2,sS.trans a2⟩;rcases hre with rfl | rfl
   ·exact this
   ·exact this
  split at h
  ·rename_i s he;split at h
   ·rename_i vs Lq;exact fin he (.inl rfl) Lq h
   ·cases h
  ·rename_i s he;split at h
   ·rename_i vs Lq;exact fin he (.inr rfl) Lq h
   ·cases h
  ·cases h
end
end Go.Bm

/- A state whose older heap holds no more than what is referred to; calls of functions that share boxes. -/
namespace Go.Bm
open Go.Am
mutual
def jq (G : Nat -> Prop) : AV -> Prop
 | .ptr b _ => G b
 | .sl _ b _ _ => G b
 | .agg cs => nD G cs
 | .dp cs => nD G cs
 | .func _ a b => nD G a /\ nD G b
 | _ => True
def nD (G : Nat -> Prop) : List AV -> Prop
 | [] => True
 | x :: r => jq G x /\ nD G r
end
theorem nP {G : Nat -> Prop} : ∀ {cs : List AV},nD G cs ↔ ∀ (i : Nat) (c : AV),cs[i]? = some c -> jq G c
 | [] => by simp [nD]
 | x :: r => by
   simp only [nD,nP (cs := r)];constructor
   ·rintro ⟨h1,h2⟩ i c hc;cases i with
    | zero => simp at hc; exact hc ▸ h1
    | succ i => exact h2 i c (by simpa using hc)
   ·intro h;exact ⟨h 0 x rfl,fun i c hc => h (i + 1) c (by simpa using hc)⟩
theorem bR.refs {R R' : Addr -> Value -> Prop} (hR : ∀ a u,R a u -> R' a u) {G : Nat -> Prop} {φ : dq} {x : AV} {v : Value} (h : bR R φ x v) : ∀ {φ' : dq},jq G x -> φ.length <= φ'.length -> (∀ b,G b -> ∀ p,φ'[b]? = some (some p) -> φ[b]? = some (some p)) -> bR R' φ' x v := by
 induction h with
 | any => intro φ' _ _ _; exact .any _ _
 | undef => intro φ' _ _ _; exact .undef _
 | eP => intro φ' _ _ _; exact .eP _
 | eT => intro φ' _ _ _; exact .eT _
 | dn => intro φ' _ _ _; exact .dn _
 | int => intro φ' _ _ _; exact .int _ _ _
 | bool => intro φ' _ _ _; exact .bool _ _
 | str => intro φ' _ _ _; exact .str _ _
 | agg φ cs vs hl h ih => intro φ' hx hp hb; simp only [jq] at hx; exact .agg _ _ _ hl fun i c v h1 h2 => ih i c v h1 h2 (nP.1 hx i c h1) hp hb
 | dp φ cs vs hl h ih => intro φ' hx hp hb; simp only [jq] at hx; exact .dp _ _ _ hl fun i c v h1 h2 => ih i c v h1 h2 (nP.1 hx i c h1) hp hb
 | func φ f as va bs vb CG CF ha hb YJ UT => intro φ' hx hp Hm; simp only [jq] at hx; exact .func _ _ _ _ _ _ CG CF (fun i c v h1 h2 => YJ i c v h1 h2 (nP.1 hx.1 i c h1) hp Hm) (fun i c v h1 h2 => UT i c v h1 h2 (nP.1 hx.2 i c h1) hp Hm)
 | ub φ k xs a n cap u hn jW hk hu h ih => intro φ' _ _ _; exact .ub _ _ _ _ _ _ u hn jW hk (fun i j x c h1 h2 => hR _ _ (hu i j x c h1 h2)) (fun i j x c h1 h2 => (h i j x c h1 h2).mono hR (.refl _))
 | kL => intro φ' _ _ _; exact .kL _ _
 | dh φ cs a u hu h ih => intro φ' _ _ _; exact .dh _ _ _ u (fun j c h1 => hR _ _ (hu j c h1)) (fun j c h1 => (h j c h1).mono hR (.refl _))
 | ptr φ b off a hb h => intro φ' hx hp je; exact .ptr _ _ _ _ (by omega) fun g sz e => h g sz (je b hx _ e)
 | sl φ k b off len a cap hb hc h => intro φ' hx hp je; exact .sl _ _ _ _ _ _ _ (by omega) hc fun g sz e => h g sz (je b hx _ e)
mutual
theorem JU {G : Nat -> Prop} {N : Names} {o : Rt -> Option (Nat × List AV)} {nb : Nat} (eE : ∀ b,b < nb -> G (N.β b)) (mI : ∀ p,(o p).isSome -> ∀ n,N.ν p = some n -> G n) : ∀ x,cD o nb x -> jq G (cF N x)
 | .c8 k p off len,h => by
   simp only [cD] at h; obtain ⟨xs,e,_⟩ := h;simp only [cF];cases hn : N.ν p with
   | none => exact trivial
   | some n => exact mI p (by rw [e]; rfl) n hn
 | .ez k p i off,h => by
   simp only [cD] at h; obtain ⟨xs,e,_⟩ := h;simp only [cF];cases hn : N.ν p with
   | none => exact trivial
   | some n => exact mI p (by rw [e]; rfl) n hn
 | .ptr b off,h => by simp only [cD] at h; simp only [cF,jq]; exact eE b h
 | .agg cs,h => by simp only [cD] at h; simp only [cF,jq]; exact uu eE mI cs h
 | .dp cs,h => by simp only [cD] at h; simp only [cF,jq]; exact uu eE mI cs h
 | .func f a b,h => by simp only [cD] at h; simp only [cF,jq]; exact ⟨uu eE mI a h.1,uu eE mI b h.2⟩
 | .any,_ => trivial | .undef,_ => trivial | .eP,_ => trivial | .eT,_ => trivial | .dn,_ => trivial
 | .int _ _,_ => trivial | .bool _,_ => trivial | .str _,_ => trivial | .list _ _,_ => trivial | .dh _,_ => trivial | .own _ _,_ => trivial
 | .sl _ b _ _,h => by simp only [cD] at h; simp only [cF,jq]; exact eE b h
theorem uu {G : Nat -> Prop} {N : Names} {o : Rt -> Option (Nat × List AV)} {nb : Nat} (eE : ∀ b,b < nb -> G (N.β b)) (mI : ∀ p,(o p).isSome -> ∀ n,N.ν p = some n -> G n) : ∀ xs,kF o nb xs -> nD G (k8 N xs)
 | [],_ => trivial
 | x :: r,h => ⟨JU eE mI x h.1,uu eE mI r h.2⟩
end
mutual
theorem QX {G : Nat -> Prop} : ∀ x,pl x = true -> jq G x
 | .agg cs,h => by simp only [pl] at h; simp only [jq]; exact uw cs h
 | .dp cs,h => by simp only [pl] at h; simp only [jq]; exact uw cs h
 | .func f a b,h => by simp only [pl,aa] at h; simp only [jq]; exact ⟨uw a h.1,uw b h.2⟩
 | .ptr _ _,h => by simp [pl] at h
 | .sl _ _ _ _,h => by simp [pl] at h
 | .c8 _ _ _ _,_ => trivial | .ez _ _ _ _,_ => trivial
 | .any,_ => trivial | .undef,_ => trivial | .eP,_ => trivial | .eT,_ => trivial | .dn,_ => trivial
 | .int _ _,_ => trivial | .bool _,_ => trivial | .str _,_ => trivial | .list _ _,_ => trivial | .dh _,_ => trivial | .own _ _,_ => trivial
theorem uw {G : Nat -> Prop} : ∀ xs,df xs = true -> nD G xs
 | [],_ => trivial
 | x :: r,h => by simp only [df,aa] at h; exact ⟨QX x h.1,uw r h.2⟩
end
theorem WL {G : Nat -> Prop} {N : Names} {o : Rt -> Option (Nat × List AV)} {nb : Nat} (eE : ∀ b,b < nb -> G (N.β b)) (mI : ∀ p,(o p).isSome -> ∀ n,N.ν p = some n -> G n) {r : Rt} {x : AV} (hr : ∀ k xs,x = .own k xs -> (o r).isSome) (h : cD o nb x) : jq G (jR N r x) := by
 cases x <;> simp only [jR] <;> first | exact JU eE mI _ h | skip
 rename_i k xs;simp only [qP];cases hn : N.ν r with
 | none => exact trivial
 | some n => exact mI r (hr k xs rfl) n hn
mutual
theorem Dl {o o' : Rt -> Option (Nat × List AV)} {nb MB : Nat} (hn : nb <= MB) : ∀ x,(∀ p ∈ aK x,o' p = o p) -> cD o nb x -> cD o' MB x
 | .c8 k p off len,ho,h => by simp only [cD] at h ⊢; obtain ⟨xs,e,h2⟩ := h; exact ⟨xs,by rw [ho p (by simp [aK])]; exact e,h2⟩
 | .ez k p i off,ho,h => by simp only [cD] at h ⊢; obtain ⟨xs,e,h2⟩ := h; exact ⟨xs,by rw [ho p (by simp [aK])]; exact e,h2⟩
 | .ptr b off,_,h => by simp only [cD] at h ⊢; omega
 | .agg cs,ho,h => by simp only [cD] at h ⊢; exact zF hn cs (by simpa only [aK] using ho) h
 | .dp cs,ho,h => by simp only [cD] at h ⊢; exact zF hn cs (by simpa only [aK] using ho) h
 | .func f a b,ho,h => by
   simp only [aK,aD] at ho;simp only [cD] at h ⊢; exact ⟨zF hn a (fun p hp => ho p (.inl hp)) h.1,zF hn b (fun p hp => ho p (.inr hp)) h.2⟩
 | .any,_,_ => trivial | .undef,_,_ => trivial | .eP,_,_ => trivial | .eT,_,_ => trivial | .dn,_,_ => trivial
 | .int _ _,_,_ => trivial | .bool _,_,_ => trivial | .str _,_,_ => trivial | .list _ _,_,_ => trivial | .dh _,_,_ => trivial | .own _ _,_,_ => trivial
 | .sl _ b _ _,_,h => by simp only [cD] at h ⊢; omega
theorem zF {o o' : Rt -> Option (Nat × List AV)} {nb MB : Nat} (hn : nb <= MB) : ∀ xs,(∀ p ∈ cY xs,o' p = o p) -> kF o nb xs -> kF o' MB xs
 | [],_,_ => trivial
 | x :: r,ho,h => by
   simp only [cY,aD] at ho;exact ⟨Dl hn x (fun p hp => ho p (.inl hp)) h.1,zF hn r (fun p hp => ho p (.inr hp)) h.2⟩
end
theorem Aj : ∀ {H : Heap},cO H = true -> (∀ b,b < H.length -> (aJ H b).isSome) /\ ∀ b cs,aJ H b = some cs -> ∀ p ∈ cY cs,bh p = false
 | [],_ => ⟨fun b hb => by simp at hb,fun b cs h => by simp [aJ] at h⟩
 | none :: r,h => by simp [cO] at h
 | some ds :: r,h => by
   simp only [cO,aa,bD] at h;obtain ⟨h1,h2⟩ := Aj h.2;refine ⟨fun b hb => ?_,fun b cs hb => ?_⟩
   ·cases b with
    | zero => simp [aJ]
    | succ b => have := h1 b (by simpa using hb); simpa [aJ] using this
   ·cases b with
    | zero =>
      simp [aJ] at hb;subst hb;intro p hp;exact kb h.1 p hp
    | succ b => exact h2 b cs (by simpa [aJ] using hb)
section
variable {P : Program} {X : Nat -> Prop} {φ n8 φ' : dq} {w w1 w' : World} {N N1 N' : Names} {s s' s1 : St} {Ha : Heap} {B : Nat -> Nat} {base : Nat} {v va : AV} {v' : Value} {c : dR} {a : Act} {call : Nat -> List AV -> Heap -> Option (AV × Heap)} {t : Nat -> Value}
structure Norm (X : Nat -> Prop) (φ : dq) (w : World) (N : Names) (s : St) (t : Nat -> Value) (kT : dq) (H2 : Heap) : Prop where
 wg : eF (fun g => X g \/ (bN φ g /\ ¬ bN kT g)) kT w N s H2 t
 nI : eZ φ w kT w
 good : ∀ n,(aJ H2 n).isSome -> (∃ b,(aJ s.H b).isSome /\ N.β b = n) \/ ∃ p,(av s p).isSome /\ N.ν p = some n
 refs : ∀ n cs,aJ H2 n = some cs -> ∀ c ∈ cs,jq (fun m => (aJ H2 m).isSome) c
 sub : ∀ (n : Nat) (p : Nat × Nat),kT[n]? = some (some p) -> φ[n]? = some (some p)
 live : ∀ (n : Nat) (p : Nat × Nat),kT[n]? = some (some p) -> (aJ H2 n).isSome
 len : kT.length = φ.length
theorem eF.norm (h : eF X φ w N s Ha t) (kG : ∀ b,b < s.H.length -> (aJ s.H b).isSome) : ∃ kT H2,Norm X φ w N s t kT H2 := by
 have hP : ∀ n,∃ B : TQ,(∀ b cs,aJ s.H b = some cs -> N.β b = n -> B = some (Ov N (.c b) 0 cs)) /\ (∀ p k xs,av s p = some (k,xs) -> N.ν p = some n -> B = some (aG xs)) /\ (B.isSome -> (∃ b,(aJ s.H b).isSome /\ N.β b = n) \/ ∃ p,(av s p).isSome /\ N.ν p = some n) := by
  intro n;by_cases h1 : ∃ b cs,aJ s.H b = some cs /\ N.β b = n
  ·obtain ⟨b,cs,hb,hn⟩ := h1;refine ⟨some (Ov N (.c b) 0 cs),fun b' cs' je N9 => ?_,fun p k xs hp N9 => ?_,fun _ => .inl ⟨b,by rw [hb]; rfl,hn⟩⟩
   ·have e := h.bi b b' (by rw [hb]; rfl) (by rw [je]; rfl) (by rw [hn,N9]);subst e;rw [hb] at je; cases je; rfl
   ·exact absurd (by rw [N9,hn]) (h.bx b p (by rw [hb]; rfl) (by rw [hp]; rfl))
  ·by_cases h2 : ∃ p k xs,av s p = some (k,xs) /\ N.ν p = some n
   ·obtain ⟨p,k,xs,hp,hn⟩ := h2;refine ⟨some (aG xs),fun b cs hb N9 => absurd ⟨b,cs,hb,N9⟩ h1,fun p' k' xs' Tq N9 => ?_,fun _ => .inr ⟨p,by rw [hp]; rfl,hn⟩⟩;have e := h.inj p p' n (by rw [hp]; rfl) (by rw [Tq]; rfl) hn N9;subst e;rw [hp] at Tq; cases Tq; rfl
   ·exact ⟨none,fun b cs hb hn => absurd ⟨b,cs,hb,hn⟩ h1,fun p k xs hp hn => absurd ⟨p,k,xs,hp,hn⟩ h2,fun e => by cases e⟩
 obtain ⟨G,hG⟩ := Classical.axiomOfChoice hP;obtain ⟨H2,IV,hH2⟩ := vD Ha.length G;obtain ⟨kT,hlφ,hφ2⟩ : ∃ kT : dq,kT.length = φ.length /\ ∀ m,m < φ.length -> kT[m]? = some (if (G m).isSome then (φ[m]?).join else none) := ⟨(wW φ.length).map fun m => if (G m).isSome then (φ[m]?).join else none,by simp,fun m hm => by simp [hm]⟩;have hlen := h.heap.len
 have Z3 : ∀ n,n < Ha.length -> aJ H2 n = G n := fun n hn => by
  unfold aJ; rw [hH2 n hn]; cases G n <;> rfl
 have sub : ∀ (n : Nat) (p : Nat × Nat),kT[n]? = some (some p) -> φ[n]? = some (some p) /\ (G n).isSome := by
  intro n p hn;have bz := aq hn;rw [hlφ] at bz;rw [hφ2 n bz] at hn;split at hn
  ·rename_i hg;simp at hn;refine ⟨?_,hg⟩;cases e : φ[n]? with
   | none => rw [e] at hn; cases hn
   | some q => rw [e] at hn; simp at hn; rw [hn]
  ·simp at hn
 have XT : ∀ g,bN kT g -> bN φ g := fun g ⟨b,sz,e⟩ => ⟨b,sz,(sub b _ e).1⟩;have nI : eZ φ w kT w := ⟨rfl,rfl,rfl,ba _,ba _,fun g _ jH => ⟨rfl,fun ho => jH (XT g ho)⟩,⟨by omega,fun b p _ hp => (sub b p hp).1⟩⟩;have hR : ∀ a u,Rd X φ w a u -> Rd (fun g => X g \/ (bN φ g /\ ¬ bN kT g)) kT w a u := fun a u ⟨h1,h2,h3⟩ => ⟨fun hx => hx.elim h1 fun hh => h2 hh.1,fun ho => h2 (XT _ ho),h3⟩;have mono : ∀ {x : AV} {u : Value},bR (Rd X φ w) φ x u -> bR (Rd (fun g => X g \/ (bN φ g /\ ¬ bN kT g)) kT w) kT x u := fun r => r.mono hR nI.SC
 have boxG : ∀ b cs,aJ s.H b = some cs -> aJ H2 (N.β b) = some (Ov N (.c b) 0 cs) := fun b cs hb => by
  rw [Z3 _ (h.qX (by rw [hb]; rfl))];exact (hG (N.β b)).1 b cs hb rfl
 have ownG : ∀ p k xs n,av s p = some (k,xs) -> N.ν p = some n -> aJ H2 n = some (aG xs) := fun p k xs n hp hn => by
  rw [Z3 _ (h.iO (by rw [hp]; rfl) hn)];exact (hG n).2.1 p k xs hp hn
 have ae9 : ∀ n,(G n).isSome -> n < Ha.length -> ∀ e,φ[n]? = some e -> kT[n]? = some e := fun n hg hn e he => by
  rw [hφ2 n (by omega),if_pos hg,he]; rfl
 have Y9 : b8 (fun g => X g \/ (bN φ g /\ ¬ bN kT g)) kT w H2 := by
  refine ⟨by omega,fun g hg => hg.elim (h.heap.G7 g) (fun ho => (h.heap.iO ho.1).1),fun n cs hn => ?_,fun n hn => ?_,fun n n' g sz nC e1 e2 => h.heap.inj n n' g sz nC (sub _ _ e1).1 (sub _ _ e2).1⟩
  ·have bz : n < Ha.length := by have := aq hn; omega
   rw [hH2 n bz] at hn;simp only [ai] at hn;have hg : (G n).isSome := by rw [hn]; rfl
   have fin : ∀ {as : List AV},aJ Ha n = some as -> (∀ (i : Nat) (d : AV),cs[i]? = some d -> ∃ a,as[i]? = some a /\ Le d a) -> cs.length <= as.length -> ∃ (g sz : Nat) (arr : Array Value) (e : TypeId),kT[n]? = some (some (g,sz)) /\ w.heap[g]? = some (.cells arr e (0,0)) /\ arr.size = sz /\ cs.length <= sz /\ ¬ (X g \/ (bN φ g /\ ¬ bN kT g)) /\ ∀ (i : Nat) (d : AV),cs[i]? = some d -> ∃ u,arr[i]? = some u /\ bR (Rd (fun g => X g \/ (bN φ g /\ ¬ bN kT g)) kT w) kT d u := by
    intro as has dx hle;obtain ⟨g,sz,arr,e,g1,g2,g3,g4,g5,g6⟩ := h.heap.at has;have h2 := ae9 n hg bz _ g1;refine ⟨g,sz,arr,e,h2,g2,g3,by omega,fun hx => hx.elim g5 fun hh => hh.2 ⟨n,sz,h2⟩,fun i d hd => ?_⟩;obtain ⟨a,ha,hle2⟩ := dx i d hd;obtain ⟨u,u1,u2⟩ := g6 i a ha;exact ⟨u,u1,mono (hle2 _ _ _ u2)⟩
   rcases (hG n).2.2 hg with ⟨b,hb,hbn⟩ | ⟨p,hp,hpn⟩
   ·obtain ⟨ds,nE⟩ := aU.1 hb;have := (hG n).1 b ds nE hbn;rw [hn] at this;simp at this;subst this;obtain ⟨as,a1,a2,a3⟩ := h.box b ds nE;rw [hbn] at a1;refine fin a1 (fun i d hd => ?_) (by rw [iN]; omega);rw [fg] at hd;cases hi : ds[i]? with
    | none => rw [hi] at hd; cases hd
    | some d0 =>
      rw [hi] at hd;simp at hd;subst hd;obtain ⟨_,a',b1,b2⟩ := a3 i d0 hi;exact ⟨a',b1,b2⟩
   ·obtain ⟨⟨k,xs⟩,hpx⟩ := aU.1 hp;have := (hG n).2.1 p k xs hpx hpn;rw [hn] at this;simp at this;subst this;have ho := h.own p k xs hpx;rw [hpn] at ho;obtain ⟨VL,c1,c2,c3,c4⟩ := ho;refine fin c1 (fun i d hd => ?_) (by rw [j9 c3]; exact c2);obtain ⟨_,a',b1,_,b2⟩ := c4 i d hd;exact ⟨a',b1,b2⟩
  ·have bz : n < Ha.length := by have := aq hn; omega
   rw [hH2 n bz] at hn;simp only [ai] at hn;rw [hφ2 n (by omega),hn];rfl
 refine ⟨kT,H2,⟨⟨fun i => mono (h.env i),h.Hd,Y9,fun p k xs e => ?_,fun b cs e => ?_,h.inj,h.bx,h.bi⟩,nI,fun n hn => ?_,fun n cs hn d hd => ?_,fun n p hp => (sub n p hp).1,fun n p hp => ?_,hlφ⟩⟩
 ·have ho := h.own p k xs e;cases hn : N.ν p with
  | none => rw [hn] at ho; exact ho
  | some n =>
    rw [hn] at ho;obtain ⟨VL,c1,c2,c3,c4⟩ := ho;refine ⟨aG xs,ownG p k xs n e hn,by rw [j9 c3]; exact ba _,c3,fun i d hd => ?_⟩;obtain ⟨f1,_⟩ := c4 i d hd;exact ⟨f1,d,hd,(mO f1).2,Le.refl _⟩
 ·obtain ⟨as,a1,a2,a3⟩ := h.box b cs e;refine ⟨_,boxG b cs e,iN _ _ _ _,fun j d hd => ?_⟩;obtain ⟨b1,_⟩ := a3 j d hd;exact ⟨b1,jR N (.c b j) d,by rw [fg,hd]; simp,Le.refl _⟩
 ·obtain ⟨cs,dx⟩ := aU.1 hn;have bz : n < Ha.length := by have := dY dx; omega
  exact (hG n).2.2 (by rw [<- Z3 n bz]; exact hn)
 ·have eE : ∀ b,b < s.H.length -> (aJ H2 (N.β b)).isSome := fun b hb => by
   obtain ⟨ds,nE⟩ := aU.1 (kG b hb);rw [boxG b ds nE]; rfl
  have mI : ∀ p,(av s p).isSome -> ∀ n,N.ν p = some n -> (aJ H2 n).isSome := fun p hp n hn => by
   obtain ⟨⟨k,xs⟩,hpx⟩ := aU.1 hp;rw [ownG p k xs n hpx hn]; rfl
  have bz : n < Ha.length := by have := dY hn; omega
  rcases (hG n).2.2 (by rw [<- Z3 n bz,hn]; rfl) with ⟨b,hb,hbn⟩ | ⟨p,hp,hpn⟩
  ·obtain ⟨ds,nE⟩ := aU.1 hb;have e := boxG b ds nE;rw [hbn,hn] at e;cases e;obtain ⟨j,hj⟩ := bA hd;rw [fg] at hj;cases hi : ds[j]? with
   | none => rw [hi] at hj; cases hj
   | some d0 =>
     rw [hi] at hj;simp at hj;subst hj;obtain ⟨as,a1,a2,a3⟩ := h.box b ds nE
     exact WL (o := av s) (nb := s.H.length) eE mI (r := .c b j) (fun k xs e => by
      have : av s (.c b j) = some (k,xs) := bZ.2 (by simp only [at_,nE,hi,e]);rw [this]; rfl) (a3 j d0 hi).1
  ·obtain ⟨⟨k,xs⟩,hpx⟩ := aU.1 hp;have e := ownG p k xs n hpx hpn;rw [hn] at e;cases e;have ho := h.own p k xs hpx;rw [hpn] at ho;obtain ⟨VL,c1,c2,c3,c4⟩ := ho;obtain ⟨j,hj⟩ := bA hd;exact QX d (mO (c4 j d hj).1).1
 ·have bz : n < Ha.length := by have := aq hp; omega
  rw [Z3 n bz];exact (sub n p hp).2
end
end Go.Bm

/- Calls of functions that share boxes. -/
namespace Go.Bm
open Go.Am
section
variable {P : Program} {X : Nat -> Prop} {φ n8 φ' : dq} {w w1 w' : World} {N N1 N' : Names} {s s' s1 : St} {Ha : Heap} {B : Nat -> Nat} {base : Nat} {v va : AV} {v' : Value} {c : dR} {o : Oper} {a : Act} {kd : Kd} {call : Nat -> List AV -> Heap -> Option (AV × Heap)} {t : Nat -> Value}
theorem u6 : ∀ {l : List AV},cI l = true -> ∀ (i : Nat) (z : AV),l[i]? = some z -> eO z = true
 | [],_,i,z,hz => by simp at hz
 | y :: r,h,i,z,hz => by
   simp only [cI,aa] at h;cases i with
   | zero => simp at hz; subst hz; exact h.1
   | succ i => exact u6 h.2 i z (by simpa using hz)
theorem eF.enter (h : eF X φ w N s Ha t) (kG : cO s.H = true) {args : List AV} {vargs : Array Value} (hp : cI args = true) (ho : ∀ (i : Nat) (x : AV),args[i]? = some x -> cD (av s) s.H.length x) (hr : ∀ (i : Nat) (x : AV) (v : Value),args[i]? = some x -> vargs[i]? = some v -> bR (Rd X φ w) φ (cF N x) v) (hl : args.length = vargs.size) :
  eF X φ w N ⟨dJ 0 args,s.H⟩ Ha (fun i => vargs.getD i undef) := by
 have Du : ∀ i,get (dJ 0 args) i = args[i]?.getD .any := fun i => by rw [rV]; simp
 have jH : ∀ i,bJ (get (dJ 0 args) i) = false := fun i => by
  rw [Du];cases e : args[i]? with
  | none => rfl
  | some x => exact zv (u6 hp i x e)
 have own : ∀ {p},(av ⟨dJ 0 args,s.H⟩ p).isSome -> ∃ b j,p = .c b j := by
  intro p Tq;cases p with
  | s i => rw [(dV (s := ⟨dJ 0 args,s.H⟩) (jH i)).1] at Tq; cases Tq
  | sc i j => rw [(dV (s := ⟨dJ 0 args,s.H⟩) (jH i)).2 j] at Tq; cases Tq
  | c b j => exact ⟨b,j,rfl⟩
 have box : ∀ b j,av ⟨dJ 0 args,s.H⟩ (.c b j) = av s (.c b j) := fun b j => rfl;obtain ⟨_,hbor⟩ := Aj kG;have YH : ∀ {p : Rt},bh p = false -> ∃ b j,p = .c b j := fun {p} hp => by cases p <;> simp [bh] at hp; exact ⟨_,_,rfl⟩
 refine ⟨fun i => ?_,fun i => ?_,h.heap,fun p k xs e => ?_,fun b cs e => ?_,fun p q n e1 e2 e3 e4 => ?_,fun b p e1 e2 e3 => ?_,h.bi⟩
 ·show bR _ _ (kJ N i (get (dJ 0 args) i)) _;rw [vY N i (jH i),Du];cases e : args[i]? with
  | none => exact .any _ _
  | some x =>
    obtain ⟨v,hv⟩ := c7 (l := vargs) (i := i) (by have := aq e; omega);simp only [Option.getD_some];rw [aZ,hv];exact hr i x v e hv
 ·show cD _ _ (get (dJ 0 args) i);rw [Du];cases e : args[i]? with
  | none => trivial
  | some x => exact Kt (ba _) x (u6 hp i x e) (ho i x e)
 ·obtain ⟨b,j,rfl⟩ := own (p := p) (by rw [e]; rfl);exact h.own _ k xs e
 ·obtain ⟨as,g1,g2,g3⟩ := h.box b cs e;refine ⟨as,g1,g2,fun j d hd => ?_⟩;obtain ⟨g4,g5⟩ := g3 j d hd;refine ⟨Dl (ba _) d (fun p Tq => ?_) g4,g5⟩;obtain ⟨b',j',rfl⟩ := YH (hbor b cs e p (kO hd Tq));rfl
 ·obtain ⟨b,j,rfl⟩ := own e1;obtain ⟨b',j',rfl⟩ := own e2;exact h.inj _ _ n e1 e2 e3 e4
 ·obtain ⟨b',j,rfl⟩ := own e2;exact h.bx b (.c b' j) e1 e2 e3
theorem shared (h : eF X φ w N s Ha t) (hb : (∀ b,b < base -> N.β b = B b) /\ base <= s.H.length) {Zz : Env} {t0 : Nat -> Value} {kT : dq} {H2 : Heap} (hn : Norm X φ w N ⟨Zz,s.H⟩ t0 kT H2) (h0 : ∀ i,bJ (get Zz i) = false)
  {r : AV} {H' H1 : Heap} {t1 : Nat -> Value} (iE : eF (fun g => X g \/ (bN φ g /\ ¬ bN kT g)) n8 w1 N1 ⟨[(0,r)],H'⟩ H1 t1) (ad : eZ kT w n8 w1) (eE : ∀ b,b < s.H.length -> N1.β b = N.β b) (hle : s.H.length <= H'.length) (IW : cO H' = true) (hbr : aK r = []) (jH : bJ r = false) :
  ∃ φ',dS X φ' w1 B base ⟨kf eC s.env,H'⟩ r t (t1 0) /\ eZ φ w φ' w1 := by
 obtain ⟨Ts,hbor⟩ := Aj IW;have YH : ∀ {p : Rt},bh p = false -> ∃ b j,p = .c b j := fun {p} hp => by cases p <;> simp [bh] at hp; exact ⟨_,_,rfl⟩
 obtain ⟨HA,H3,h3⟩ := iE.norm Ts;have l3 := h3.wg.heap.len;have l1 := h.heap.len;have l2 := hn.len;have l2h := hn.wg.heap.len;have pl : vS kT HA := ad.SC.trans h3.nI.SC;have hlen : φ.length <= HA.length := by have := pl.len; omega
 have ad2 : eZ kT w HA w1 := ad.trans h3.nI
 -- hidden: known to the caller, not to the callee
 let pZ : Nat -> Bool := fun n => decide (n < φ.length) && !(kT[n]?.join).isSome
 have hid3 : ∀ n,pZ n = true -> HA[n]? = some none /\ aJ H3 n = none := by
  intro n hh;simp only [pZ,aa,decide_eq_true_eq,bD] at hh;obtain ⟨bz,hj⟩ := hh;obtain ⟨e,he⟩ := bg (l := HA) (i := n) (by omega)
  have h3n : HA[n]? = some none := by
   cases e with
   | none => exact he
   | some p =>
     have := pl.Is n p (by omega) he;rw [this] at hj; simp at hj
  refine ⟨h3n,?_⟩;cases hb3 : aJ H3 n with
  | none => rfl
  | some cs =>
    obtain ⟨g,sz,arr,ty,g1,_⟩ := h3.wg.heap.at hb3;rw [h3n] at g1; cases g1
 have IA : ∀ n,(aJ H3 n).isSome -> pZ n = false := fun n hb3 => by
  cases hh : pZ n with
  | false => rfl
  | true => rw [(hid3 n hh).2] at hb3; cases hb3
 obtain ⟨TY,hl4,hφ4⟩ : ∃ TY : dq,TY.length = HA.length /\ ∀ m,m < HA.length -> TY[m]? = if pZ m then φ[m]? else HA[m]? := by
  refine ⟨(wW HA.length).map fun m => if pZ m then (φ[m]?).join else (HA[m]?).join,by simp,fun m hm => ?_⟩;simp only [cU,List.getElem?_range hm,cT];split
  ·rename_i hh;have bz : m < φ.length := by simp only [pZ,aa,decide_eq_true_eq] at hh; exact hh.1
   rw [af bz]; rfl
  ·rw [af hm]; rfl
 obtain ⟨H4,hlh4,hH4⟩ := vD H3.length fun m => if pZ m then (Ha[m]?).join else (H3[m]?).join
 have Ol : ∀ n,pZ n = true -> TY[n]? = φ[n]? := fun n hh => by
  have bz : n < φ.length := by simp only [pZ,aa,decide_eq_true_eq] at hh; exact hh.1
  rw [hφ4 n (by omega),if_pos hh]
 have Lx : ∀ n,pZ n = false -> TY[n]? = HA[n]? := fun n hh => by
  by_cases bz : n < HA.length
  ·rw [hφ4 n bz,hh]; rfl
  ·rw [dz (by omega),dz (by omega)]
 have H4h : ∀ n,pZ n = true -> H4[n]? = Ha[n]? := fun n hh => by
  have bz : n < φ.length := by simp only [pZ,aa,decide_eq_true_eq] at hh; exact hh.1
  rw [hH4 n (by omega),if_pos hh,af (by omega)]; rfl
 have H4n : ∀ n,pZ n = false -> H4[n]? = H3[n]? := fun n hh => by
  by_cases bz : n < H3.length
  ·rw [hH4 n bz,hh,af bz]; rfl
  ·rw [dz (by omega),dz (by omega)]
 have agV : ∀ n,pZ n = true -> aJ H4 n = aJ Ha n := fun n hh => by unfold aJ; rw [H4h n hh]
 have adw : ∀ n,pZ n = false -> aJ H4 n = aJ H3 n := fun n hh => by unfold aJ; rw [H4n n hh]
 have own4 : ∀ {g},bN TY g -> (∃ n sz,pZ n = true /\ φ[n]? = some (some (g,sz))) \/ ∃ n sz,pZ n = false /\ HA[n]? = some (some (g,sz)) := by
  rintro g ⟨n,sz,e⟩;cases hh : pZ n with
  | true => rw [Ol n hh] at e; exact .inl ⟨n,sz,hh,e⟩
  | false => rw [Lx n hh] at e; exact .inr ⟨n,sz,hh,e⟩
 have hidX : ∀ {n g sz},pZ n = true -> φ[n]? = some (some (g,sz)) -> bN φ g /\ ¬ bN kT g := by
  intro n g sz hh e;refine ⟨⟨n,sz,e⟩,fun ⟨m,nC,e'⟩ => ?_⟩;have := h.heap.inj n m g sz nC e (hn.sub m _ e');subst this;simp only [pZ,aa,decide_eq_true_eq,bD] at hh;rw [e'] at hh; simp at hh
 have sub2 : ∀ {g},bN kT g -> bN φ g := fun ⟨m,sz,e⟩ => ⟨m,sz,hn.sub m _ e⟩
 have nI : eZ φ w TY w1 := by
  refine ⟨ad2.os,ad2.tape,ad2.output,ad2.drawn,ad2.size,fun g hg jH => ?_,⟨by omega,fun n p bz hp => ?_⟩⟩
  ·obtain ⟨k1,k2⟩ := ad2.keep g hg (fun ho => jH (sub2 ho));refine ⟨k1,fun ho => ?_⟩;rcases own4 ho with ⟨n,sz,_,e⟩ | ⟨n,sz,_,e⟩
   ·exact jH ⟨n,sz,e⟩
   ·exact k2 ⟨n,sz,e⟩
  ·cases hh : pZ n with
   | true => rwa [Ol n hh] at hp
   | false =>
     rw [Lx n hh] at hp;exact hn.sub n p (pl.Is n p (by omega) hp)
 -- values of the callee
 have hR : ∀ a u,Rd (fun g => (X g \/ (bN φ g /\ ¬ bN kT g)) \/ (bN n8 g /\ ¬ bN HA g)) HA w1 a u -> Rd X TY w1 a u := fun a u ⟨p1,p2,p3⟩ => ⟨fun hx => p1 (.inl (.inl hx)),fun ho => by
  rcases own4 ho with ⟨n,sz,hh,e⟩ | ⟨n,sz,_,e⟩
  ·exact p1 (.inl (.inr (hidX hh e)))
  ·exact p2 ⟨n,sz,e⟩,p3⟩
 have tr34 : ∀ {x : AV} {u : Value},jq (fun m => (aJ H3 m).isSome) x -> bR (Rd (fun g => (X g \/ (bN φ g /\ ¬ bN kT g)) \/ (bN n8 g /\ ¬ bN HA g)) HA w1) HA x u -> bR (Rd X TY w1) TY x u := fun hx r => bR.refs hR r hx (by omega) fun b hb4 p hp => by rwa [Lx b (IA b hb4)] at hp
 have Y9 : b8 X TY w1 H4 := by
  refine ⟨by omega,fun g hg => Nat.lt_of_lt_of_le (h.heap.G7 g hg) ad2.size,fun n cs e => ?_,fun n e => ?_,fun n n' g sz nC e1 e2 => ?_⟩
  ·cases hh : pZ n with
   | true =>
     rw [H4h n hh] at e;obtain ⟨g,sz,arr,ty,g1,g2,g3,g4,g5,g6⟩ := h.heap.live n cs e;have hx := hidX hh g1;refine ⟨g,sz,arr,ty,by rw [Ol n hh]; exact g1,?_,g3,g4,g5,fun i d hd => ?_⟩
     ·rw [(ad2.keep g (h.heap.iO hx.1).1 hx.2).1]; exact g2
     ·obtain ⟨u,u1,u2⟩ := g6 i d hd;exact ⟨u,u1,nI.rep u2⟩
   | false =>
     rw [H4n n hh] at e;obtain ⟨g,sz,arr,ty,g1,g2,g3,g4,g5,g6⟩ := h3.wg.heap.live n cs e;refine ⟨g,sz,arr,ty,by rw [Lx n hh]; exact g1,g2,g3,g4,fun hx => g5 (.inl (.inl hx)),fun i d hd => ?_⟩;obtain ⟨u,u1,u2⟩ := g6 i d hd;exact ⟨u,u1,tr34 (h3.refs n cs (sX.2 e) d (aW hd)) u2⟩
  ·cases hh : pZ n with
   | true => rw [H4h n hh] at e; rw [Ol n hh]; exact h.heap.dead n e
   | false => rw [H4n n hh] at e; rw [Lx n hh]; exact h3.wg.heap.dead n e
  ·have mix : ∀ {n n' sz nC},pZ n = true -> pZ n' = false -> φ[n]? = some (some (g,sz)) -> HA[n']? = some (some (g,nC)) -> False := by
    intro n n' sz nC hh hh' e1 e2;obtain ⟨cs,dx⟩ := aU.1 (h3.live n' _ e2);obtain ⟨g',sz2,arr,ty,g1,_,_,_,g5,_⟩ := h3.wg.heap.at dx;rw [e2] at g1; cases g1;exact g5 (.inl (.inr (hidX hh e1)))
   cases hh : pZ n with
   | true =>
     rw [Ol n hh] at e1;cases hh' : pZ n' with
     | true => rw [Ol n' hh'] at e2; exact h.heap.inj n n' g sz nC e1 e2
     | false => rw [Lx n' hh'] at e2; exact (mix hh hh' e1 e2).elim
   | false =>
     rw [Lx n hh] at e1;cases hh' : pZ n' with
     | true => rw [Ol n' hh'] at e2; exact (mix hh' hh e2 e1).elim
     | false => rw [Lx n' hh'] at e2; exact h3.wg.heap.inj n n' g sz nC e1 e2
 -- names
 let Nb : Names := ⟨N1.β,N.ν⟩
 let N4 : Names := ⟨N1.β,fun p => match p with
  | .c b j => N1.ν (.c b j)
  | p => N.ν p⟩
 have XS : ∀ i,av ⟨kf eC s.env,H'⟩ (.s i) = av s (.s i) := fun i => by
  rw [<- ji wz s (.s i)]; rfl
 have O7 : ∀ i j,av ⟨kf eC s.env,H'⟩ (.sc i j) = av s (.sc i j) := fun i j => by
  rw [<- ji wz s (.sc i j)]; rfl
 have agv : ∀ b j,av ⟨kf eC s.env,H'⟩ (.c b j) = av ⟨[(0,r)],H'⟩ (.c b j) := fun b j => rfl
 have JI : ∀ {p},(av ⟨kf eC s.env,H'⟩ p).isSome -> ((∃ b j,p = .c b j) /\ av ⟨kf eC s.env,H'⟩ p = av ⟨[(0,r)],H'⟩ p /\ N4.ν p = N1.ν p) \/ ((∀ b j,p ≠ .c b j) /\ av ⟨kf eC s.env,H'⟩ p = av s p /\ N4.ν p = N.ν p) := by
  intro p hp;cases p with
  | s i => exact .inr ⟨(fun _ _ e => by cases e),XS i,rfl⟩
  | sc i j => exact .inr ⟨(fun _ _ e => by cases e),O7 i j,rfl⟩
  | c b j => exact .inl ⟨⟨b,j,rfl⟩,agv b j,rfl⟩
 -- blocks of slots are hidden
 have KV : ∀ {p n},(∀ b j,p ≠ .c b j) -> (av s p).isSome -> N.ν p = some n -> pZ n = true := by
  intro p n Tp hp YW;have bz : n < Ha.length := h.iO hp YW;simp only [pZ,aa,decide_eq_true_eq,bD];refine ⟨by omega,?_⟩;cases e : (kT[n]?).join with
  | none => rfl
  | some q =>
    exfalso
    have e' : kT[n]? = some (some q) := by
     cases e2 : kT[n]? with
     | none => rw [e2] at e; cases e
     | some z => rw [e2] at e; simp at e; rw [e]
    rcases hn.good n (hn.live n q e') with ⟨b,zX,qU⟩ | ⟨p',hp1,hp2⟩
    ·exact h.bx b p zX hp (by rw [YW,<- qU])
    ·have hc : ∃ b j,p' = .c b j := by
      cases p' with
      | s i => rw [(dV (s := ⟨Zz,s.H⟩) (h0 i)).1] at hp1; cases hp1
      | sc i j => rw [(dV (s := ⟨Zz,s.H⟩) (h0 i)).2 j] at hp1; cases hp1
      | c b j => exact ⟨b,j,rfl⟩
     obtain ⟨b,j,rfl⟩ := hc;have := h.inj p (.c b j) n hp hp1 YW hp2;exact Tp b j this
 have box3 : ∀ b,(aJ H' b).isSome -> (aJ H3 (N1.β b)).isSome := fun b je => by
  obtain ⟨cs,dx⟩ := aU.1 je;obtain ⟨as,a1,_⟩ := h3.wg.box b cs dx;rw [a1]; rfl
 have own3 : ∀ {p n},(av ⟨[(0,r)],H'⟩ p).isSome -> N1.ν p = some n -> (aJ H3 n).isSome := by
  intro p n hp YW;obtain ⟨⟨k,xs⟩,e⟩ := aU.1 hp;have := h3.wg.own p k xs e;rw [YW] at this;obtain ⟨cs,h1,_⟩ := this;rw [h1]; rfl
 have hl : ∀ k p a l,(cD (av s) s.H.length (.c8 k p a l) -> cD (av ⟨kf eC s.env,H'⟩) s.H.length (eC (.c8 k p a l)) /\ Le (cF N4 (eC (.c8 k p a l))) (cF Nb (.c8 k p a l))) /\ (cD (av s) s.H.length (.ez k p a l) -> cD (av ⟨kf eC s.env,H'⟩) s.H.length (eC (.ez k p a l)) /\ Le (cF N4 (eC (.ez k p a l))) (cF Nb (.ez k p a l))) := by
  intro k p a l;cases p with
  | s i =>
    refine ⟨fun h => ⟨?_,Le.refl _⟩,fun h => ⟨?_,Le.refl _⟩⟩
    ·simp only [eC,cD] at h ⊢; rw [XS]; exact h
    ·simp only [eC,cD] at h ⊢; rw [XS]; exact h
  | sc i j =>
    refine ⟨fun h => ⟨?_,Le.refl _⟩,fun h => ⟨?_,Le.refl _⟩⟩
    ·simp only [eC,cD] at h ⊢; rw [O7]; exact h
    ·simp only [eC,cD] at h ⊢; rw [O7]; exact h
  | c b j => exact ⟨fun _ => ⟨trivial,Le.any _⟩,fun _ => ⟨trivial,Le.any _⟩⟩
 have hsim : eF X TY w1 N4 ⟨kf eC s.env,H'⟩ H4 t := by
  refine ⟨fun i => ?_,fun i => ?_,Y9,fun p k xs e => ?_,fun b cs e => ?_,fun p q n e1 e2 e3 e4 => ?_,fun b p e1 e2 e3 => ?_,fun b d e1 e2 e3 => h3.wg.bi b d e1 e2 e3⟩
  ·show bR _ _ (kJ N4 i (get (kf eC s.env) i)) _;rw [de];have r0 := nI.rep (h.env i);have e0 : kJ N i (get s.env i) = kJ Nb i (get s.env i) := DI (N := Nb) (N' := N) (o := av s) (nb := s.H.length) (fun b je => (eE b je).symm) (fun _ _ => rfl) rfl (fun _ => rfl) (h.Hd i);rw [e0] at r0;refine Yz (N := Nb) (N' := N4) (x := get s.env i) (y := cn eC (get s.env i)) (fun cs dx => ⟨cV eC cs,by rw [dx]; rfl,b6 _ _,fun j c d hc hd => ?_⟩) (fun hna => ⟨lg wz hna,?_⟩) _ _ _ r0
   ·rw [dU,hc] at hd;simp at hd;subst hd;have c6 := h.Hd i;rw [dx] at c6;simp only [cD] at c6;exact (lh (N := Nb) (N' := N4) (o := av s) (o' := av ⟨kf eC s.env,H'⟩) (nb := s.H.length) (g := eC) rfl wz hl (r := .sc i j) (fun _ _ _ => rfl) (iY.1 c6 j c hc)).2
   ·exact (lh (N := Nb) (N' := N4) (o := av s) (o' := av ⟨kf eC s.env,H'⟩) (nb := s.H.length) (g := eC) rfl wz hl (r := .s i) (fun _ _ _ => rfl) (h.Hd i)).2
  ·show cD _ H'.length (get (kf eC s.env) i);rw [de];exact mq (fun _ _ => rfl) hle _ (KK (N := Nb) (N' := N4) (o := av s) (o' := av ⟨kf eC s.env,H'⟩) (nb := s.H.length) (g := eC) rfl wz hl _ (h.Hd i)).1
  ·rcases JI (p := p) (by rw [e]; rfl) with ⟨⟨b,j,rfl⟩,e1,e2⟩ | ⟨Tp,e1,e2⟩
   ·rw [e1] at e;rw [e2];exact (h3.wg.own _ k xs e).same fun n YW => adw n (IA n (own3 (by rw [e]; rfl) YW))
   ·rw [e1] at e;rw [e2];exact (h.own p k xs e).same fun n YW => agV n (KV Tp (by rw [e]; rfl) YW)
  ·obtain ⟨as,a1,a2,a3⟩ := h3.wg.box b cs e;refine ⟨as,by show aJ H4 (N1.β b) = _; rw [adw _ (IA _ (by rw [a1]; rfl))]; exact a1,a2,fun j d hd => ?_⟩;obtain ⟨b1,a',b2,b3⟩ := a3 j d hd;have hbx : ∀ p ∈ aK d,∃ b j,p = .c b j := fun p hp => YH (hbor b cs e p (kO hd hp));refine ⟨Dl (ba _) d (fun p hp => ?_) b1,a',b2,?_⟩
   ·obtain ⟨b',j',rfl⟩ := hbx p hp; rfl
   ·have : jR N4 (.c b j) d = jR N1 (.c b j) d := HG (N := N1) (N' := N4) rfl (fun _ _ _ => rfl) fun p hp => by obtain ⟨b',j',rfl⟩ := hbx p hp; rfl
    rw [this]; exact b3
  ·rcases JI e1 with ⟨Tv,o1,u1⟩ | ⟨Tv,o1,u1⟩ <;> rcases JI e2 with ⟨G4,o2,u2⟩ | ⟨G4,o2,u2⟩ <;> rw [o1] at e1 <;> rw [o2] at e2 <;> rw [u1] at e3 <;> rw [u2] at e4
   ·exact h3.wg.inj p q n e1 e2 e3 e4
   ·have a1 := IA n (own3 e1 e3);have a2 := KV G4 e2 e4;rw [a1] at a2; cases a2
   ·have a1 := IA n (own3 e2 e4);have a2 := KV Tv e1 e3;rw [a1] at a2; cases a2
   ·exact h.inj p q n e1 e2 e3 e4
  ·rcases JI e2 with ⟨G4,o2,u2⟩ | ⟨G4,o2,u2⟩ <;> rw [o2] at e2 <;> rw [u2] at e3
   ·exact h3.wg.bx b p e1 e2 e3
   ·have a1 := IA _ (box3 b e1);have a2 := KV G4 e2 e3;have a3 : pZ (N1.β b) = true := a2;rw [a1] at a3; cases a3
 have hr0 := h3.wg.env 0;simp only [Am.get,if_true] at hr0;rw [vY N1 0 jH] at hr0;have hok0 := h3.wg.Hd 0;simp only [Am.get,if_true] at hok0;refine ⟨TY,dS.quiet hsim ⟨fun b je => ?_,Nat.le_trans hb.2 hle⟩ (Dl (ba _) r (fun p hp => by rw [hbr] at hp; simp at hp) hok0) (nx jH) ?_,nI⟩
 ·show N1.β b = B b;rw [eE b (by have := hb.2; omega)]; exact hb.1 b je
 ·rw [lD N4 jH];have : cF N4 r = cF N1 r := DH (N := N1) (N' := N4) rfl fun p hp => by rw [hbr] at hp; simp at hp
  rw [this];refine tr34 (JU (o := av ⟨[(0,r)],H'⟩) (nb := H'.length) (fun b je => box3 b (Ts b je)) (fun p hp n YW => own3 hp YW) r hok0) hr0
theorem Wk (c6 : eQ P c) (ed : iL P c call) : GU P c call := by
 intro X φ w B base s o a kd f args md q r H' hk h hg ha hf hm hp kG hbr jH IW hc;obtain ⟨N,Ha,h,hb⟩ := h;obtain ⟨vargs,nQ,hA,zV⟩ := yt c6 h hg hk ha hf
 have hent : eF X φ w N ⟨dJ 0 (args.map iP),s.H⟩ Ha (fun i => vargs.getD i undef) := by
  refine h.enter kG hp (fun i x hx => ?_) (fun i x v hx hv => ?_) (by simpa using hA.1)
  ·rw [cU] at hx;cases Nq : args[i]? with
   | none => rw [Nq] at hx; cases hx
   | some y =>
     rw [Nq] at hx;simp at hx;subst hx;have hy := iY.1 zV i y Nq;unfold iP;split
     ·trivial
     ·exact hy
  ·rw [cU] at hx;cases Nq : args[i]? with
   | none => rw [Nq] at hx; cases hx
   | some y =>
     rw [Nq] at hx;simp at hx;subst hx;have r0 := hA.2 i y v Nq hv;have hpy := u6 hp i (iP y) (by rw [cU,Nq]; rfl);by_cases ho : ∃ k,y = .own k []
     ·obtain ⟨k,rfl⟩ := ho;simp only [fB] at r0;cases r0;exact .kL _ _
     ·have hn : iP y = y := by
       unfold iP;split
       ·rename_i k; exact absurd ⟨k,rfl⟩ ho
       ·rfl
      rw [hn] at hpy ⊢;have hy : fB N y = cF N y := by cases y <;> first | rfl | (simp [eO] at hpy; done)
      rw [hy] at r0;exact r0
 obtain ⟨Ts,_⟩ := Aj kG;obtain ⟨kT,H2,hn⟩ := hent.norm Ts
 have h0 : ∀ i,bJ (get (dJ 0 (args.map iP)) i) = false := fun i => by
  rw [rV];simp only [Nat.zero_le,if_true,Nat.sub_zero];cases e : (args.map iP)[i]? with
  | none => rfl
  | some x => exact zv (u6 hp i x e)
 have kX := ed f md q hf (args.map iP) s.H r H' (.inl hm) hc (fun _ => IW) (fun g => X g \/ (bN φ g /\ ¬ bN kT g)) kT w N.β vargs (by simpa using hA.1) ⟨N,H2,hn.wg,fun _ _ => rfl,ba _⟩ (fun g => (hg g).mono (fun a u ⟨h1,h2,h3⟩ => ⟨fun hx => hx.elim h1 fun hh => h2 hh.1,fun ⟨m,sz,e⟩ => h2 ⟨m,sz,hn.sub m _ e⟩,h3⟩) (.refl _));intro K Q hK;unfold Oper.wp;rw [nQ,Oper.upon_enter];refine kX.mono ?_;rintro e w1 ⟨v',n8,rfl,⟨N1,H1,iE,zX,hle⟩,ad⟩;obtain ⟨φ',FV,ad'⟩ := shared h hb hn h0 iE ad zX hle IW hbr jH;exact hK v' w1 φ' (by simpa using FV) ad'
end
end Go.Bm

/- The machine by value is sound. -/
namespace Go.Bm
open Go.Am
section
variable {P : Program} {c : dR}
theorem Wc (c6 : eQ P c) (oK : vU P c) (vA : vT P c) (n : Nat) : NV P c n :=
 Oy c6 oK vA (fun call hc => Wk c6 hc) (fun call hc => afr c6 (adg c6 oK hc (Wk c6 hc))) (fun n hs => shOK c6 vA hs) n
theorem afE (c6 : eQ P c) (oK : vU P c) (vA : vT P c) (n : Nat) : iL P c (oU c n) := Jq c6 vA (Wc c6 oK vA n) (shOK c6 vA (Wc c6 oK vA n))
theorem ZS (c6 : eQ P c) (oK : vU P c) (vA : vT P c) {n f : Nat} {md : Md} {q : eB} (hf : c.fn f = some (md,q)) (jV : md.sh = false) {args : List AV} (hz : df args = true) {r : AV} {H' : Heap} (h : oU c n f args [] = some (r,H')) (hr : pl r = true) {w : World} {vargs : Array Value}
  (ha : pY (fun _ => False) [] w args vargs) (hg : Am.dH (iW c) (fun _ => False) [] w) : Calls P f vargs w (fun e w' => ∃ v,e = .returned v /\ bR (Rd (fun _ => False) [] w') [] r v /\ RowKit.Below w.heap.size w w') :=
 Vp c6 (afE c6 oK vA n) hf jV hz h hr ha hg
end
end Go.Bm

/- More fuel gives the same; runs without counting fuel. -/
namespace Go.Bm
open Go.Am
section
variable {c : dR}
abbrev mG := Nat -> List AV -> Heap -> Option (AV × Heap)
def LeC (f g : mG) : Prop := ∀ n a H r,f n a H = some r -> g n a H = some r
theorem P4 {f g : mG} (h : LeC f g) {kd : Kd} {s : St} {x : AV × St × Fq} (e : dG c f kd s = some x) : dG c g kd s = some x := by
 unfold dG at e ⊢;split at e
 ·cases e
 rename_i n args ha
 try simp only [ha]
 split at e
 ·cases e
 rename_i md q hf
 try simp only [hf]
 split at e
 ·rename_i hm
  try rw [if_pos hm]
  split at e
  ·cases e
  rename_i qJ hz
  try simp only [hz]
  split at e
  case h_2 => cases e
  rename_i r H' hc;rw [h _ _ _ _ hc];exact e
 ·rename_i hm
  try rw [if_neg hm]
  split at e
  ·cases e
  rename_i n1 nY Ns
  try simp only [Ns]
  split at e
  case isFalse => cases e
  rename_i Zb
  try rw [if_pos Zb]
  split at e
  ·rename_i jV
   try rw [if_pos jV]
   split at e
   case isFalse => cases e
   rename_i hp
   try rw [if_pos hp]
   split at e
   case h_2 => cases e
   rename_i r H' hc;rw [h _ _ _ _ hc];exact e
  ·rename_i jV
   try rw [if_neg jV]
   split at e
   case isFalse => cases e
   rename_i hp
   try rw [if_pos hp]
   split at e
   case h_2 => cases e
   rename_i r H' hc;rw [h _ _ _ _ hc];exact e
theorem FC {f : mG} {s : St} {kd : Kd} (h : mJ c f s kd = none) (g : mG) : mJ c g s kd = none := by
 unfold mJ at h ⊢;split at h
 ·split at h
  ·cases h
  ·rename_i hl;exact if_neg hl
 ·rfl
theorem S6 {f : mG} {s : St} {kd : Kd} {v : AV} {s1 : St} {fl : Fq} (h : mJ c f s kd = some (some (v,s1,fl))) : ∃ n args H r H',f n args H = some (r,H') /\ ∀ g : mG,g n args H = some (r,H') -> mJ c g s kd = some (some (v,s1,fl)) := by
 obtain ⟨n,x,es,b,md,q,cs,cs',rfl,h1,h2,h3,h4,h5,h6,h7,rfl,rfl⟩ := vl h;refine ⟨_,_,_,_,_,h6,fun g hg => ?_⟩;unfold mJ;simp only;rw [if_pos h1];unfold UI;rw [h2];simp only [h3,h4];rw [if_pos h5,hg];simp only;rw [if_pos h7]
theorem abf {f g : mG} (h : LeC f g) {kd : Kd} {s : St} {x : AV × St × Fq} (e : mJ c f s kd = some (some x)) : mJ c g s kd = some (some x) := by
 obtain ⟨v,s1,fl⟩ := x;obtain ⟨n,args,H,r,H',h1,h2⟩ := S6 e;exact h2 g (h _ _ _ _ h1)
theorem abc {f : mG} {fn i : Nat} {s : St} {xs : List AV} {x : AV × St × Fq} (e : MJ c f fn i s xs = some x) : ∃ n args H r H',f n args H = some (r,H') /\ ∀ g : mG,g n args H = some (r,H') -> MJ c g fn i s xs = some x := by unfold MJ at e;cases e
theorem Iv {f : mG} {kd : Kd} {s : St} {x : AV × St × Fq} (e : qQ c f s kd = some (some x)) : ∃ n args H r H',f n args H = some (r,H') /\ ∀ g : mG,g n args H = some (r,H') -> qQ c g s kd = some (some x) := by
 unfold qQ at e;split at e
 case h_2 => cases e
 rename_i fn es;split at e
 case h_2 => cases e
 rename_i i hi;simp only [ai] at e;obtain ⟨n,args,H,r,H',h1,h2⟩ := abc e;exact ⟨n,args,H,r,H',h1,fun g hg => by simp only [qQ,hi,h2 g hg]⟩
theorem yf {f : mG} {kd : Kd} {s : St} (h : qQ c f s kd = none) (g : mG) : qQ c g s kd = none := by
 unfold qQ at h ⊢;split at h
 ·split at h
  ·cases h
  ·rename_i hm;simp only [hm]
 ·rfl
theorem P5 {f g : mG} (h : LeC f g) {kd : Kd} {s : St} {x : AV × St × Fq} (e : fj c f kd s = some x) : fj c g kd s = some x := by
 unfold fj at e ⊢;cases hm : qQ c f s kd with
 | none =>
   rw [hm] at e;rw [yf hm g];obtain ⟨v,s1,fl⟩ := x;rcases jI e with e | e
   ·exact pL (P4 h e)
   ·obtain ⟨n,args,H,r,H',h1,h2⟩ := QF e;exact Gh (h2 g (h _ _ _ _ h1))
 | some r =>
   rw [hm] at e;simp only at e;subst e;obtain ⟨n,args,H,r,H',h1,h2⟩ := Iv hm;rw [h2 g (h _ _ _ _ h1)]
theorem Gi {f g : mG} (h : LeC f g) {kd : Kd} {s : St} {x : AV × St × Fq} (e : dm c f kd s = some x) : dm c g kd s = some x := by
 unfold dm at e ⊢;cases hi : oJ c s kd with
 | some r => rw [hi] at e; exact e
 | none =>
   rw [hi] at e;cases hl : mJ c f s kd with
   | none => rw [hl] at e; rw [FC hl g]; exact P5 h e
   | some r =>
     rw [hl] at e;simp only at e;subst e;rw [abf h hl]
theorem Fi {f g : mG} {s : St} {kd : Kd} (h : mw kd = false) : eR c f s kd = eR c g s kd := by
 cases kd <;> first | rfl | (simp [mw] at h)
theorem Kx {f g : mG} (h : LeC f g) {kd : Kd} {s : St} {x : AV × St × Fq} (e : eR c f s kd = some x) : eR c g s kd = some x := by
 cases hk : mw kd with
 | false => rw [<- Fi (f := f) hk]; exact e
 | true =>
   cases kd <;> simp [mw] at hk
   ·simp only [eR] at e ⊢; exact Gi h e
   ·simp only [eR] at e ⊢; exact Gi h e
theorem DK {f g : mG} (h : LeC f g) {s : St} {o : O} {x : St × Fq} (e : p9 c f s o = some x) : p9 c g s o = some x := by
 have op : ∀ {y : AV × St × Fq} {K : AV × St × Fq -> Option (St × Fq)},eR c f s o.kd = some y -> eR c g s o.kd = some y := fun h' => Kx h h';rw [ui] at e ⊢;cases hv : CO c f s o with
 | none => rw [hv] at e; cases e
 | some y =>
   have : CO c g s o = some y := by
    unfold CO at hv ⊢;split at hv
    ·exact Kx h hv
    ·split at hv
     ·split at hv
      ·rename_i hb; simp only [hb,if_true]; exact Kx h hv
      ·rename_i hb; simp only [hb,if_false]; exact hv
     ·exact hv
     ·cases hv
   rw [hv] at e;rw [this];exact e
theorem Dk {f g : mG} (h : LeC f g) : ∀ {os : List O} {s : St} {x : St × List Fq},mn c f os s = some x -> mn c g os s = some x
 | [],s,x,e => e
 | o :: r,s,x,e => by
   simp only [mn] at e ⊢;split at e
   case h_2 => cases e
   rename_i s1 fl h1;rw [DK h h1];simp only;split at e
   case h_2 => cases e
   rename_i s2 oL h2;rw [Dk h h2];exact e
def LeR (f g : Nat -> C -> St -> Option (Ex × St)) : Prop := ∀ b cd s x,f b cd s = some x -> g b cd s = some x
theorem Gy {f g : Nat -> C -> St -> Option (Ex × St)} (h : LeR f g) : LeC (mQ c f) (mQ c g) := by
 intro n a H r e;unfold mQ at e ⊢;split at e
 ·exact e
 split at e
 ·cases e
 split at e
 case isFalse => cases e
 rename_i md fn hf hl;simp only [hl,if_true];split at e
 ·rename_i s' hs; rw [h _ _ _ _ hs]; exact e
 ·rename_i s' hs; rw [h _ _ _ _ hs]; exact e
 ·cases e
theorem Gk : ∀ n,LeR (cC c n) (cC c (n + 1))
 | 0 => fun b cd s x e => by simp [cC] at e
 | n + 1 => by
   have ih := Gk n;intro b cd s x e;unfold cC at e ⊢;cases cd with
   | skip => exact e
   | ret => exact e
   | exit i => exact e
   | aH os dr un keep =>
     simp only at e ⊢;split at e
     case h_2 => cases e
     rename_i s' oL hs;rw [Dk (Gy ih) hs];exact e
   | seq a b' =>
     simp only at e ⊢;cases h1 : cC c n b a s with
     | none => rw [h1] at e; cases e
     | some y =>
       obtain ⟨ex,s1⟩ := y;rw [h1] at e;rw [ih _ _ _ _ h1];cases ex with
       | normal => exact ih _ _ _ _ e
       | exit i => exact e
       | ret => exact e
   | cond y a b' =>
     simp only at e ⊢;split at e
     ·rename_i t ht;split at e
      ·rename_i h1; simp only [h1,if_true]; exact ih _ _ _ _ e
      ·rename_i h1; simp only [h1,if_false,bO]; exact ih _ _ _ _ e
     ·cases e
   | aJ i b' =>
     simp only at e ⊢;cases h1 : cC c n b b' s with
     | none => rw [h1] at e; cases e
     | some y =>
       rw [h1] at e;rw [ih _ _ _ _ h1];exact e
   | loop b' =>
     simp only at e ⊢;cases h1 : cC c n b b' s with
     | none => rw [h1] at e; cases e
     | some y =>
       obtain ⟨ex,s1⟩ := y;rw [h1] at e;rw [ih _ _ _ _ h1];cases ex with
       | normal => exact ih _ _ _ _ e
       | exit i => exact e
       | ret => exact e
theorem pM {n m : Nat} (h : n <= m) : LeR (cC c n) (cC c m) := by
 induction h with
 | refl => exact fun _ _ _ _ e => e
 | step _ ih => exact fun b cd s x e => Gk _ b cd s x (ih b cd s x e)
open Classical in
noncomputable def bj (c : dR) (b : Nat) (cd : C) (s : St) : Option (Ex × St) := if h : ∃ n x,cC c n b cd s = some x then some (yJ (jJ h)) else none
theorem cK {b : Nat} {cd : C} {s : St} {x : Ex × St} : bj c b cd s = some x ↔ ∃ n,cC c n b cd s = some x := by
 unfold bj;constructor
 ·intro e;split at e
  ·rename_i h;have := jJ (jJ h);exact ⟨_,bU e ▸ this⟩
  ·cases e
 ·rintro ⟨n,e⟩;have h : ∃ n x,cC c n b cd s = some x := ⟨n,x,e⟩;rw [dif_pos h];have := jJ (jJ h);have h1 := pM (vV n (yJ h)) _ _ _ _ e;have h2 := pM (tR n (yJ h)) _ _ _ _ this;rw [h1] at h2;cases h2;rfl
noncomputable def bf (c : dR) (f : Nat) (args : List AV) (H : Heap) : Option (AV × Heap) := mQ c (bj c) f args H
theorem lj (n : Nat) : LeR (cC c n) (bj c) := fun b cd s x e => cK.2 ⟨n,e⟩
theorem wO (n : Nat) : LeC (oU c n) (bf c) := Gy (lj n)
theorem lk {f : Nat} {args : List AV} {H : Heap} {r : AV × Heap} : bf c f args H = some r ↔ ∃ n,oU c n f args H = some r := by
 constructor
 ·intro e;unfold bf mQ at e;split at e
  case h_1 =>
   rename_i g hg;exact ⟨0,by unfold oU mQ; rw [hg]; exact e⟩
  rename_i ho;split at e
  ·cases e
  rename_i md fn hf;split at e
  case isFalse => cases e
  rename_i hl;split at e
  ·rename_i s' hs;obtain ⟨n,hn⟩ := cK.1 hs;exact ⟨n,by unfold oU mQ; simp only [ho,hf,hl,if_true,hn]; exact e⟩
  ·rename_i s' hs;obtain ⟨n,hn⟩ := cK.1 hs;exact ⟨n,by unfold oU mQ; simp only [ho,hf,hl,if_true,hn]; exact e⟩
  ·cases e
 ·rintro ⟨n,e⟩;exact wO n _ _ _ _ e
theorem NP {n m : Nat} (h : n <= m) : LeC (oU c n) (oU c m) := Gy (pM h)
theorem SJ {s : St} {kd : Kd} {x : AV × St × Fq} : eR c (bf c) s kd = some x ↔ ∃ n,eR c (oU c n) s kd = some x := by
 constructor
 ·intro e;cases hk : mw kd with
  | false => exact ⟨0,by rw [Fi (g := bf c) hk]; exact e⟩
  | true =>
    have key0 : ∀ {kd : Kd},dG c (bf c) kd s = some x -> ∃ n,dG c (oU c n) kd s = some x := by
     intro kd e;unfold dG at e;split at e
     ·cases e
     rename_i f args ha;split at e
     ·cases e
     rename_i md q hf;split at e
     ·rename_i hm;split at e
      ·cases e
      rename_i qJ hz;split at e
      case h_2 => cases e
      rename_i r H' hc;obtain ⟨n,hn⟩ := lk.1 hc;refine ⟨n,?_⟩;unfold dG;simp only [ha,hf,hm,if_true,hz,hn];exact e
     ·rename_i hm;split at e
      ·cases e
      rename_i f1 nY Ns;split at e
      case isFalse => cases e
      rename_i Zb;split at e
      ·rename_i jV;split at e
       case isFalse => cases e
       rename_i hp;split at e
       case h_2 => cases e
       rename_i r H' hc;obtain ⟨n,hn⟩ := lk.1 hc;refine ⟨n,?_⟩;unfold dG;rw [ha];simp only [hf];rw [if_neg hm,Ns];simp only;rw [if_pos Zb,if_pos jV,if_pos hp,hn];exact e
      ·rename_i jV;split at e
       case isFalse => cases e
       rename_i hp;split at e
       case h_2 => cases e
       rename_i r H' hc;obtain ⟨n,hn⟩ := lk.1 hc;refine ⟨n,?_⟩;unfold dG;rw [ha];simp only [hf];rw [if_neg hm,Ns];simp only;rw [if_pos Zb,if_neg jV,if_pos hp,hn];exact e
    have key1 : ∀ {kd : Kd},fj c (bf c) kd s = some x -> ∃ n,fj c (oU c n) kd s = some x := by
     intro kd e;unfold fj at e ⊢;cases hm : qQ c (bf c) s kd with
     | none =>
       rw [hm] at e;obtain ⟨v,s1,fl⟩ := x;rcases jI e with e | e
       ·obtain ⟨n,hn⟩ := key0 e;exact ⟨n,by rw [yf hm]; exact pL hn⟩
       ·obtain ⟨m,args,H,r,H',h1,h2⟩ := QF e;obtain ⟨n,hn⟩ := lk.1 h1;exact ⟨n,by rw [yf hm]; exact Gh (h2 _ hn)⟩
     | some r =>
       rw [hm] at e;simp only at e;subst e;obtain ⟨m,args,H,r,H',h1,h2⟩ := Iv hm;obtain ⟨n,hn⟩ := lk.1 h1;exact ⟨n,by rw [h2 _ hn]⟩
    have key : ∀ {kd : Kd},dm c (bf c) kd s = some x -> ∃ n,dm c (oU c n) kd s = some x := by
     intro kd e;unfold dm at e ⊢;cases hi : oJ c s kd with
     | some r => rw [hi] at e; exact ⟨0,e⟩
     | none =>
       rw [hi] at e;cases hl : mJ c (bf c) s kd with
       | none =>
         rw [hl] at e;obtain ⟨n,hn⟩ := key1 e;exact ⟨n,by rw [FC hl]; exact hn⟩
       | some r =>
         rw [hl] at e;simp only at e;subst e;obtain ⟨m,args,H,r,H',h1,h2⟩ := S6 (v := x.1) (s1 := x.2.1) (fl := x.2.2) hl;obtain ⟨n,hn⟩ := lk.1 h1;exact ⟨n,by rw [h2 _ hn]⟩
    cases kd <;> simp [mw] at hk
    ·simp only [eR] at e ⊢; exact key e
    ·simp only [eR] at e ⊢; exact key e
 ·rintro ⟨n,e⟩;exact Kx (wO n) e
theorem Uc {s : St} {o : O} {x : St × Fq} : p9 c (bf c) s o = some x ↔ ∃ n,p9 c (oU c n) s o = some x := by
 constructor
 ·intro e;rw [ui] at e;cases hv : CO c (bf c) s o with
  | none => rw [hv] at e; cases e
  | some y =>
    have : ∃ n,CO c (oU c n) s o = some y := by
     unfold CO at hv ⊢;split at hv
     ·obtain ⟨n,hn⟩ := SJ.1 hv;exact ⟨n,hn⟩
     ·split at hv
      ·split at hv
       ·rename_i hb;obtain ⟨n,hn⟩ := SJ.1 hv;exact ⟨n,by simp only [hb,if_true]; exact hn⟩
       ·rename_i hb; exact ⟨0,by simp only [hb,if_false]; exact hv⟩
      ·exact ⟨0,hv⟩
      ·cases hv
    obtain ⟨n,hn⟩ := this;refine ⟨n,?_⟩;rw [hv] at e;rw [ui,hn];exact e
 ·rintro ⟨n,e⟩;exact DK (wO n) e
theorem Fg : ∀ {os : List O} {s : St} {x : St × List Fq},mn c (bf c) os s = some x ↔ ∃ n,mn c (oU c n) os s = some x
 | [],s,x => ⟨fun e => ⟨0,e⟩,fun ⟨_,e⟩ => e⟩
 | o :: r,s,x => by
   constructor
   ·intro e;simp only [mn] at e;split at e
    case h_2 => cases e
    rename_i s1 fl h1;split at e
    case h_2 => cases e
    rename_i s2 oL h2;obtain ⟨n,hn⟩ := Uc.1 h1;obtain ⟨m,hm⟩ := Fg.1 h2;refine ⟨max n m,?_⟩;simp only [mn];rw [DK (NP (vV n m)) hn];simp only;rw [Dk (NP (tR n m)) hm];exact e
   ·rintro ⟨n,e⟩;exact Dk (wO n) e
theorem zy {α : Type} {a b : Option α} (h : ∀ x,a = some x ↔ b = some x) : a = b := by
 cases a with
 | none => cases b with
   | none => rfl
   | some y => exact ((h y).2 rfl)
 | some x => exact ((h x).1 rfl).symm
variable {b : Nat} {s : St}
theorem Gj : bj c b .skip s = some (.normal,s) := cK.2 ⟨1,rfl⟩
theorem Jg : bj c b .ret s = some (.ret,s) := cK.2 ⟨1,rfl⟩
theorem Qa {i : Nat} : bj c b (.exit i) s = some (.exit i,s) := cK.2 ⟨1,rfl⟩
noncomputable def HH (c : dR) (b : Nat) (y : C) : Option (Ex × St) -> Option (Ex × St)
 | some (.normal,s') => bj c b y s'
 | r => r
def regL (dr : Bool) (os : List O) (un : List (Nat × Nat)) (base : Nat) (keep : List Nat) : Option (St × List Fq) -> Option (Ex × St)
 | some (s',oL) => if dr = false \/ Jc os oL un = true then (match PZ base keep s' with
   | some s2 => some (.normal,s2)
   | none => none) else none
 | none => none
def blkL (i : Nat) : Option (Ex × St) -> Option (Ex × St)
 | some (.exit j,s') => if j = i then some (.normal,s') else some (.exit j,s')
 | r => r
theorem kh {x y : C} : bj c b (.seq x y) s = HH c b y (bj c b x s) := by
 apply zy;intro z;constructor
 ·intro e;obtain ⟨n,hn⟩ := cK.1 e;cases n with
  | zero => simp [cC] at hn
  | succ n =>
    simp only [cC] at hn;cases h1 : cC c n b x s with
    | none => rw [h1] at hn; cases hn
    | some w =>
      obtain ⟨ex,s1⟩ := w;rw [h1] at hn;rw [lj n _ _ _ _ h1];cases ex with
      | normal => exact lj n _ _ _ _ hn
      | exit i => exact hn
      | ret => exact hn
 ·intro e;cases h1 : bj c b x s with
  | none => rw [h1] at e; cases e
  | some w =>
    obtain ⟨ex,s1⟩ := w;rw [h1] at e;obtain ⟨n,hn⟩ := cK.1 h1;cases ex with
    | normal =>
      obtain ⟨m,hm⟩ := cK.1 e;refine cK.2 ⟨max n m + 1,?_⟩;simp only [cC];rw [pM (vV n m) _ _ _ _ hn];exact pM (tR n m) _ _ _ _ hm
    | exit i => exact cK.2 ⟨n + 1,by simp only [cC]; rw [hn]; exact e⟩
    | ret => exact cK.2 ⟨n + 1,by simp only [cC]; rw [hn]; exact e⟩
theorem yx {x : C} : bj c b (.loop x) s = HH c b (.loop x) (bj c b x s) := by
 apply zy;intro z;constructor
 ·intro e;obtain ⟨n,hn⟩ := cK.1 e;cases n with
  | zero => simp [cC] at hn
  | succ n =>
    simp only [cC] at hn;cases h1 : cC c n b x s with
    | none => rw [h1] at hn; cases hn
    | some w =>
      obtain ⟨ex,s1⟩ := w;rw [h1] at hn;rw [lj n _ _ _ _ h1];cases ex with
      | normal => exact lj n _ _ _ _ hn
      | exit i => exact hn
      | ret => exact hn
 ·intro e;cases h1 : bj c b x s with
  | none => rw [h1] at e; cases e
  | some w =>
    obtain ⟨ex,s1⟩ := w;rw [h1] at e;obtain ⟨n,hn⟩ := cK.1 h1;cases ex with
    | normal =>
      obtain ⟨m,hm⟩ := cK.1 e;refine cK.2 ⟨max n m + 1,?_⟩;simp only [cC];rw [pM (vV n m) _ _ _ _ hn];exact pM (tR n m) _ _ _ _ hm
    | exit i => exact cK.2 ⟨n + 1,by simp only [cC]; rw [hn]; exact e⟩
    | ret => exact cK.2 ⟨n + 1,by simp only [cC]; rw [hn]; exact e⟩
theorem Jj {i : Nat} {x : C} : bj c b (.aJ i x) s = blkL i (bj c b x s) := by
 apply zy;intro z;constructor
 ·intro e;obtain ⟨n,hn⟩ := cK.1 e;cases n with
  | zero => simp [cC] at hn
  | succ n =>
    simp only [cC] at hn;cases h1 : cC c n b x s with
    | none => rw [h1] at hn; cases hn
    | some w => rw [h1] at hn; rw [lj n _ _ _ _ h1]; exact hn
 ·intro e;cases h1 : bj c b x s with
  | none => rw [h1] at e; cases e
  | some w =>
    obtain ⟨n,hn⟩ := cK.1 h1;rw [h1] at e;exact cK.2 ⟨n + 1,by simp only [cC]; rw [hn]; exact e⟩
theorem Qb {v : E} {t : Bool} {x y : C} (h : bp c s.env v = .bool t) : bj c b (.cond v x y) s = if t then bj c b x s else bj c b y s := by
 apply zy;intro z;constructor
 ·intro e;obtain ⟨n,hn⟩ := cK.1 e;cases n with
  | zero => simp [cC] at hn
  | succ n =>
    simp only [cC,h] at hn;cases t with
    | true => exact lj n _ _ _ _ hn
    | false => exact lj n _ _ _ _ hn
 ·intro e;cases t with
  | true => obtain ⟨n,hn⟩ := cK.1 e; exact cK.2 ⟨n + 1,by simp only [cC,h]; exact hn⟩
  | false => obtain ⟨n,hn⟩ := cK.1 e; exact cK.2 ⟨n + 1,by simp only [cC,h]; exact hn⟩
theorem Jh {os : List O} {dr : Bool} {un : List (Nat × Nat)} {keep : List Nat} : bj c b (.aH os dr un keep) s = regL dr os un b keep (mn c (bf c) os s) := by
 apply zy;intro z;constructor
 ·intro e;obtain ⟨n,hn⟩ := cK.1 e;cases n with
  | zero => simp [cC] at hn
  | succ n =>
    simp only [cC] at hn;split at hn
    case h_2 => cases hn
    rename_i s' oL h1;rw [Fg.2 ⟨n,h1⟩];exact hn
 ·intro e;cases h1 : mn c (bf c) os s with
  | none => rw [h1] at e; cases e
  | some w =>
    obtain ⟨n,hn⟩ := Fg.1 h1;rw [h1] at e;refine cK.2 ⟨n + 1,?_⟩;simp only [cC];have N9 : mn c (mQ c (cC c n)) os s = some w := hn;rw [N9];exact e
theorem ZT {f : Nat} {md : Md} {q : eB} {args : List AV} {H : Heap} (ho : c.orc f = none) (hf : c.fn f = some (md,q)) (hl : args.length <= q.n) : bf c f args H = (match bj c H.length q.body ⟨dJ 0 args,H⟩ with
  | some (.ret,s) => (match oR c s q.res with
    | some vs => aV md H.length s (nJ vs)
    | none => none)
  | some (.normal,s) => (match oR c s q.res with
    | some vs => aV md H.length s (nJ vs)
    | none => none)
  | _ => none) := by
 unfold bf mQ;simp only [O8,ho,hf,hl,if_true];generalize bj c H.length q.body ⟨dJ 0 args,H⟩ = z;cases z with
 | none => rfl
 | some w =>
   obtain ⟨e,s⟩ := w;cases e <;> rfl
end
end Go.Bm

/- Arguments that came in, by value; answers that are bools. -/
namespace Go.Am
open Go.ChangeShapes Go.WideShapes
def adA (k : IntKind) (w : World) (a : Option Addr) (len cap : Nat) (zs : List Int) : Prop :=
 (a = none /\ len = 0 /\ cap = 0 /\ zs = []) \/
 ∃ x,a = some x /\ len <= cap /\ cap <= maxLen /\ zs.length = cap /\ (∀ i,i < zs.length -> w.cell? (x.add i) = some (.int k (zs.getD i 0))) /\ ∀ n ∈ zs,(Lit.int k n).wf = true
theorem WA {k : IntKind} {w : World} {a : Option Addr} {len cap : Nat} {zs : List Int} (h : adA k w a len cap zs) : bR (Rd (fun _ => False) [] w) [] (.list 1 ((zs.take len).map (AV.int k))) (.slice a len cap) := by
 rcases h with ⟨rfl,rfl,rfl,rfl⟩ | ⟨x,rfl,hl,hm,hz,kA,hwz⟩
 ·exact .kL _ _
 ·refine .ub _ 1 _ x len cap (fun i _ => .int k (zs.getD i 0)) (by simp; omega) hl ?_ ?_ ?_
  ·intro y hy;obtain ⟨n,_,rfl⟩ := List.mem_map.mp hy;rfl
  ·intro i j y c hy hc;have hi : i < ((zs.take len).map (AV.int k)).length := (List.getElem?_eq_some_iff.mp hy).1;simp at hi;rw [cU] at hy;cases yG : (zs.take len)[i]? with
   | none => rw [yG] at hy; cases hy
   | some n =>
     rw [yG] at hy;cases hy;cases j with
     | succ j => simp [AV.cells] at hc
     | zero => exact ⟨id,bN.nil _,by simpa using kA i (by omega)⟩
  ·intro i j y c hy hc;rw [cU] at hy;cases yG : (zs.take len)[i]? with
   | none => rw [yG] at hy; cases hy
   | some n =>
     rw [yG] at hy;cases hy;cases j with
     | succ j => simp [AV.cells] at hc
     | zero =>
       simp [AV.cells] at hc;subst hc
       have e : zs.getD i 0 = n := by
        rw [List.getElem?_take] at yG;split at yG
        ·simp [List.getD,yG]
        ·cases yG
       rw [e];exact .int _ _ _
theorem pY.nil {X : Nat -> Prop} {φ : dq} {w : World} : pY X φ w [] #[] := ⟨rfl,fun i x v h => by simp at h⟩
theorem pY.cons {X : Nat -> Prop} {φ : dq} {w : World} {x : AV} {v : Value} {xs : List AV} {vs : List Value} (h : bR (Rd X φ w) φ x v) (r : pY X φ w xs vs.toArray) : pY X φ w (x :: xs) (v :: vs).toArray := by
 obtain ⟨r1,r2⟩ := r;refine ⟨by simpa using r1,fun i y u hy hu => ?_⟩;cases i with
 | zero =>
   simp at hy hu;subst hy hu;exact h
 | succ i =>
   refine r2 i y u (by simpa using hy) (by simpa using hu)
theorem Me {R : Addr -> Value -> Prop} {φ : dq} {b : Bool} {v : Value} (h : bR R φ (.bool b) v) : v = .bool b := by cases h; rfl
end Go.Am
namespace Go.Bm
open Go.Am
theorem NO {P : Program} {c : dR} (c6 : eQ P c) (oK : vU P c) (vA : vT P c) {f : Nat} {md : Md} {q : eB} (hf : c.fn f = some (md,q)) (jV : md.sh = false) {args : List AV} {b : Bool} {H' : Heap} (h : bf c f args [] = some (.bool b,H')) (hz : df args = true) {w : World} {vargs : Array Value}
  (ha : pY (fun _ => False) [] w args vargs) (hg : Am.dH (iW c) (fun _ => False) [] w) : Calls P f vargs w (fun e w' => e = .returned (.bool b) /\ RowKit.Below w.heap.size w w') := by
 obtain ⟨n,hn⟩ := lk.1 h;refine (ZS c6 oK vA hf jV hz hn rfl ha hg).mono ?_;rintro e w' ⟨v,rfl,hr,hb⟩;rw [Me hr];exact ⟨rfl,hb⟩
theorem Zl {c : dR} {g0 : Nat} {k : IntKind} {zs : List Int} (h : ∀ g,c.gl g = if g = g0 then zs.map (AV.int k) else []) {w : World} (hc : ∀ i,(hi : i < zs.length) -> w.cell? ⟨g0,i,none⟩ = some (.int k zs[i])) : Am.dH (iW c) (fun _ => False) [] w := by
 intro g;show bR _ [] (.dh (c.gl g)) _;rw [h g];split
 ·rename_i e;subst e;refine .dh _ _ _ (fun j => .int k (zs.getD j 0)) (fun j d hj => ?_) (fun j d hj => ?_)
  ·rw [cU] at hj;cases e : zs[j]? with
   | none => rw [e] at hj; cases hj
   | some z =>
     have bz := aq e;refine ⟨id,bN.nil _,?_⟩;rw [Addr.jd,Nat.zero_add,hc j bz,bk,e,<- af bz |>.symm.trans e |> bU];rfl
  ·rw [cU] at hj;cases e : zs[j]? with
   | none => rw [e] at hj; cases hj
   | some z =>
     rw [e] at hj;simp at hj;subst hj;rw [bk,e];exact .int _ _ _
 ·exact .dh _ _ _ (fun _ => undef) (fun j c hj => by simp at hj) (fun j c hj => by simp at hj)
end Go.Bm

/- Calls that are known ahead: a table of runs, each proved by itself. -/
namespace Go.Bm
open Go.Am
structure Fact where
 f : Nat
 args : List AV
 H : Heap
 r : AV
 H' : Heap
end Go.Bm
