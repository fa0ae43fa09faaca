/- The machine by value: open orders, shared boxes; the whole. -/
import Derived.Test.YtholnjkicdifdaaDoorMd
import Derived.ProofKit
import Derived.WalkKit
import Derived.OpenShut
/- What a pure operation answers depends on the slots it reads. -/
set_option linter.unusedSimpArgs false
set_option linter.unusedVariables false
namespace Go.Bm
open Go.Am
section
variable {P : Program} {c : Cfg} {call : Nat -> List AV -> Heap -> Option (AV × Heap)}
theorem opnd_congr {e1 e2 : Env} {x : E} (h : ∀ i ∈ x.slot,lend i (get e1 i) = lend i (get e2 i)) : opnd c e1 x = opnd c e2 x := by
 cases x with
 | t i => exact h i (by simp [E.slot])
 | k x => rfl
 | g i => rfl
theorem opnds_congr {e1 e2 : Env} : ∀ {xs : List E},(∀ i ∈ slots xs,lend i (get e1 i) = lend i (get e2 i)) -> opnds c e1 xs = opnds c e2 xs
 | [],_ => rfl
 | x :: r,h => by
   simp only [slots,List.mem_append] at h;simp only [opnds];rw [opnd_congr fun i hi => h i (.inl hi),opnds_congr fun i hi => h i (.inr hi)]
theorem fillB_congr {e1 e2 : Env} : ∀ {ps : List (Nat × Nat × E)} {zs : List AV},(∀ i ∈ slotsP ps,lend i (get e1 i) = lend i (get e2 i)) -> fillB c e1 zs ps = fillB c e2 zs ps
 | [],_,_ => by simp [fillB]
 | (o,s,x) :: r,zs,h => by
   simp only [slotsP,List.mem_append] at h;simp only [fillB];rw [opnd_congr (c := c) fun i hi => h i (.inl hi)];split
   ·exact fillB_congr fun i hi => h i (.inr hi)
   ·rfl
theorem partsBor_congr {e1 e2 : Env} : ∀ {ps : List (Nat × Nat × E)},(∀ i ∈ slotsP ps,lend i (get e1 i) = lend i (get e2 i)) -> partsBor c e1 ps = partsBor c e2 ps
 | [],_ => by simp [partsBor]
 | (o,s,x) :: r,h => by
   simp only [slotsP,List.mem_append] at h;simp only [partsBor];rw [opnd_congr (c := c) fun i hi => h i (.inl hi),partsBor_congr fun i hi => h i (.inr hi)]
theorem bndB_congr {e1 e2 : Env} {d m : Nat} {x : Option E} (h : ∀ i ∈ slotO x,lend i (get e1 i) = lend i (get e2 i)) : bndB c e1 d m x = bndB c e2 d m x := by
 cases x with
 | none => rfl
 | some x => simp only [bndB]; rw [opnd_congr h]
theorem opP_congr {e1 e2 : Env} {kd : Kd} (h : ∀ i ∈ kd.reads,lend i (get e1 i) = lend i (get e2 i)) : opP c e1 kd = opP c e2 kd := by
 cases kd <;> simp only [Kd.reads,List.mem_append] at h <;> simp only [opP]
 case pick x y z => rw [opnd_congr (c := c) fun i hi => h i (.inl hi),opnd_congr (c := c) fun i hi => h i (.inr (.inl hi)),opnd_congr (c := c) fun i hi => h i (.inr (.inr hi))]
 case build => rw [fillB_congr (c := c) h]
 case slc k x lo hi => rw [opnd_congr (c := c) fun i hi => h i (.inl hi)]; simp only [bndB_congr (c := c) fun i hi => h i (.inr (.inl hi)),bndB_congr (c := c) fun i hi => h i (.inr (.inr hi))]
 case asl n x u => rw [opnd_congr (c := c) fun i hi => h i (.inl hi)]
 case min => rw [opnds_congr (c := c) h]
 case max => rw [opnds_congr (c := c) h]
 case mkf => rw [opnds_congr (c := c) fun i hi => h i (.inl hi),opnds_congr (c := c) fun i hi => h i (.inr hi)]
 all_goals first
  | rfl
  | rw [opnd_congr (c := c) h]
  | rw [opnd_congr (c := c) fun i hi => h i (.inl hi),opnd_congr (c := c) fun i hi => h i (.inr hi)]
theorem getArgs0_congr {e1 e2 : Env} {kd : Kd} (h : ∀ i ∈ kd.reads,lend i (get e1 i) = lend i (get e2 i)) : getArgs0 c e1 kd = getArgs0 c e2 kd := by
 cases kd <;> simp only [getArgs0]
 case call => rw [opnds_congr (c := c) h]
 case callv =>
  simp only [Kd.reads,List.mem_append] at h;rw [opnd_congr (c := c) fun i hi => h i (.inl hi),opnds_congr (c := c) fun i hi => h i (.inr hi)]
theorem getArgs_congr {e1 e2 : Env} {kd : Kd} (h : ∀ i ∈ kd.reads,lend i (get e1 i) = lend i (get e2 i)) : getArgs c e1 kd = getArgs c e2 kd := by
 unfold getArgs;rw [getArgs0_congr h]
def Seen (ps : List Rt) (s t : St) : Prop := ∀ p ∈ ps,ownAt t p = ownAt s p /\ ∀ b l,p = .c b l -> blk t.H b = blk s.H b
theorem peek_congr {s t : St} {ag : Option Nat} {x v : AV} {ps : List Rt} (h : peek s ag x = some (v,ps)) (hs : Seen ps s t) : peek t ag x = some (v,ps) := by
 unfold peek at h ⊢;split at h
 ·exact h
 ·rename_i b off;split at h
  case h_2 => cases h
  rename_i cs hb;split at h
  case h_2 => cases h
  rename_i u hu;simp only [Option.some.injEq,Prod.mk.injEq] at h;obtain ⟨rfl,rfl⟩ := h;have := (hs _ (List.mem_singleton.2 rfl)).2 b _ rfl;simp only [this,hb,hu]
 ·rename_i k p i off;split at h
  case h_2 => cases h
  rename_i k' xs ho;split at h
  case isFalse => cases h
  rename_i hk;split at h
  case h_2 => cases h
  rename_i y hy;split at h
  case h_2 => cases h
  rename_i u hu;simp at h;obtain ⟨rfl,rfl⟩ := h;have := (hs p (by simp)).1;simp only [this,ho,hk,if_true,hy,hu]
 ·cases h
def SeenC (b j : Nat) (s t : St) : Prop := ∀ cs,blk s.H b = some cs -> ∃ ds,blk t.H b = some ds /\ (lendC (.c b) 0 ds)[j]? = (lendC (.c b) 0 cs)[j]?
def SeenF (f : Fq) (s t : St) : Prop := (∀ ps,f = .rd ps -> Seen ps s t) /\ ∀ b j,f = .rc b j -> SeenC b j s t
theorem lendC_get0 (f : Nat -> Rt) : ∀ {cs ds : List AV} {j i : Nat},cs[i]? = ds[i]? -> (lendC f j cs)[i]? = (lendC f j ds)[i]?
 | [],[],_,_,_ => rfl
 | [],d :: ds,j,0,h => by simp at h
 | c :: cs,[],j,0,h => by simp at h
 | [],d :: ds,j,i + 1,h => by
   have := lendC_get0 f (cs := []) (ds := ds) (j := j + 1) (i := i) (by simpa using h);cases d <;> simpa [lendC] using this
 | c :: cs,[],j,i + 1,h => by
   have := lendC_get0 f (cs := cs) (ds := []) (j := j + 1) (i := i) (by simpa using h);cases c <;> simpa [lendC] using this
 | c :: cs,d :: ds,j,0,h => by
   simp at h;subst h;cases c <;> simp [lendC]
 | c :: cs,d :: ds,j,i + 1,h => by
   have := lendC_get0 f (cs := cs) (ds := ds) (j := j + 1) (i := i) (by simpa using h);cases c <;> cases d <;> simpa [lendC] using this
theorem rdN_bor {ag : Option Nat} {cs ds : List AV} {k : Nat} {p : Rt} {o l : Nat} (h : rdN ag cs = some (.bor k p o l)) (e : ds[0]? = cs[0]?) : rdN ag ds = some (.bor k p o l) := by
 unfold rdN rdc at h ⊢;cases ag with
 | some n => simp only at h ⊢; (repeat' split at h) <;> simp_all
 | none =>
   simp only at h ⊢;have : ds.head? = cs.head? := by rw [List.head?_eq_getElem?,List.head?_eq_getElem?]; exact e
   rw [this]; exact h
theorem peek_cell {s t : St} {ag : Option Nat} {x v : AV} {ps : List Rt} (h : peek s ag x = some (v,ps)) (hs : SeenF (ldLab x v ps) s t) : peek t ag x = some (v,ps) := by
 by_cases hx : ∃ b off k o l,x = .ptr b off /\ v = .bor k (.c b off) o l
 ·obtain ⟨b,off,k,o,l,rfl,rfl⟩ := hx;have hs' := hs.2 b off (by simp [ldLab]);unfold peek at h ⊢;simp only at h ⊢;split at h
  case h_2 => cases h
  rename_i cs hb;split at h
  case h_2 => cases h
  rename_i u hu;simp only [Option.some.injEq,Prod.mk.injEq] at h;obtain ⟨rfl,h2⟩ := h;obtain ⟨ds,d1,d2⟩ := hs' cs hb
  have : rdN ag ((lendC (.c b) 0 ds).drop off) = some (.bor k (.c b off) o l) := rdN_bor hu (by
   rw [List.getElem?_drop,List.getElem?_drop];simpa using d2)
  simp only [d1,this,h2]
 ·refine peek_congr h (hs.1 ps ?_);unfold ldLab;split
  ·rename_i b off k d j o l;split
   ·rename_i hc;obtain ⟨rfl,rfl⟩ := hc;exact absurd ⟨_,_,_,_,_,rfl,rfl⟩ hx
   ·rfl
  ·rfl
end
end Go.Bm

/- Operations that change nothing that is there: what they answer depends on the slots they read and on the places they name. -/
namespace Go.Bm
open Go.Am
section
variable {P : Program} {c : Cfg} {call : Nat -> List AV -> Heap -> Option (AV × Heap)}
theorem Seen.left {ps qs : List Rt} {s t : St} (h : Seen (ps ++ qs) s t) : Seen ps s t := fun p hp => h p (by simp [hp])
theorem Seen.right {ps qs : List Rt} {s t : St} (h : Seen (ps ++ qs) s t) : Seen qs s t := fun p hp => h p (by simp [hp])
mutual
theorem frzV_congr {b : Bool} {s t : St} : ∀ x,Seen (borOf x) s t -> frzV b t x = frzV b s x
 | .bor k p off len,h => by simp only [frzV]; rw [(h p (by simp [borOf])).1]
 | .agg cs,h => by simp only [frzV]; rw [frzL_congr cs (by simpa [borOf] using h)]
 | .tup cs,h => by simp only [frzV]; rw [frzL_congr cs (by simpa [borOf] using h)]
 | .func f a b',h => by
   have h' : Seen (borL a ++ borL b') s t := by simpa [borOf] using h
   simp only [frzV]; rw [frzL_congr a h'.left,frzL_congr b' h'.right]
 | .own _ _,_ => rfl
 | .ptr _ _,_ => rfl
 | .pto _ _ _ _,_ => rfl
 | .sl _ _ _ _,_ => rfl
 | .any,_ => rfl
 | .undef,_ => rfl
 | .bool _,_ => rfl
 | .int _ _,_ => rfl
 | .nilp,_ => rfl
 | .nilf,_ => rfl
 | .nils,_ => rfl
 | .str _,_ => rfl
 | .fptr _,_ => rfl
 | .list _ _,_ => rfl
theorem frzL_congr {b : Bool} {s t : St} : ∀ xs,Seen (borL xs) s t -> frzL b t xs = frzL b s xs
 | [],_ => rfl
 | x :: r,h => by
   have h' : Seen (borOf x ++ borL r) s t := by simpa [borL] using h
   simp only [frzL]; rw [frzV_congr x h'.left,frzL_congr r h'.right]
end
theorem cont_congr {s t : St} {k : Nat} {x : AV} (h : Seen (borOf x) s t) : cont t k x = cont s k x := by
 cases x <;> try rfl
 case bor k' p off len => simp only [cont]; rw [(h p (by simp [borOf])).1]
 case own k' xs => cases xs <;> rfl
theorem frzS_congr {s t : St} {k b off len : Nat} (h : Seen [.c b 1] s t) : frzS t k b off len = frzS s k b off len := by
 unfold frzS;rw [(h _ (List.mem_singleton.2 rfl)).2 b 1 rfl]
theorem frzA_congr {s t : St} : ∀ xs,Seen (borL xs ++ slsL xs) s t -> frzA t xs = frzA s xs
 | [],_ => rfl
 | x :: r,h => by
   have hb : Seen (borOf x ++ borL r) s t := by simpa [borL] using h.left
   have hsl : Seen (slsL r) s t := fun p hp => h p (List.mem_append.2 (.inr (by cases x <;> simp [slsL,hp])));have ih := frzA_congr r fun p hp => (List.mem_append.1 hp).elim (fun q => hb.right p q) (hsl p);have hx := frzV_congr (b := false) x hb.left;cases x <;> try (simp only [frzA]; rw [hx,ih]; done)
   case sl k b off len =>
    simp only [frzA];rw [ih,frzS_congr fun p hp => h p (List.mem_append.2 (.inr (by simp [slsL,List.mem_singleton.1 hp])))]
   case own k xs =>
    cases xs with
    | nil => simp only [frzA]; rw [ih]
    | cons y ys => simp only [frzA]; rw [hx,ih]
def calm : Fq -> Bool
 | .no | .rc _ _ | .rd _ | .al _ => true
 | _ => false
def CalmOK (s s1 : St) (kd : Kd) (f : Fq) (v : AV) (g : St -> Option (AV × St × Fq)) : Prop :=
 ∃ T,s1 = ⟨s.env,s.H ++ T⟩ /\ (T = [] \/ ∃ z,T = [z] /\ f = .al s.H.length) /\ ∀ t : St,(∀ i ∈ kd.reads,lend i (get t.env i) = lend i (get s.env i)) -> SeenF f s t -> (∀ n,f = .al n -> t.H.length = n) -> g t = some (v,⟨t.env,t.H ++ T⟩,f)
theorem ldLab_or (x v : AV) (ps : List Rt) : ldLab x v ps = .rd ps \/ ∃ b j,ldLab x v ps = .rc b j := by
 unfold ldLab;split
 ·split
  ·exact .inr ⟨_,_,rfl⟩
  ·exact .inl rfl
 ·exact .inl rfl
theorem CalmOK.still {s : St} {kd : Kd} {f : Fq} {v : AV} {g : St -> Option (AV × St × Fq)} (h : ∀ t : St,(∀ i ∈ kd.reads,lend i (get t.env i) = lend i (get s.env i)) -> SeenF f s t -> g t = some (v,t,f)) : CalmOK s s kd f v g :=
 ⟨[],by simp,.inl rfl,fun t h1 h2 _ => by rw [h t h1 h2]; simp⟩
end
end Go.Bm

/- Every calm operation depends on what it names alone. -/
namespace Go.Bm
open Go.Am
section
variable {P : Program} {c : Cfg} {call : Nat -> List AV -> Heap -> Option (AV × Heap)}
theorem stBox_fl {s s' : St} {b off k : Nat} {v : AV} {f : Fq} (h : stBox s b off k v = some (s',f)) : calm f = false := by
 unfold stBox at h
 repeat' split at h
 all_goals first
  | (cases h; done)
  | (simp at h; obtain ⟨_,rfl⟩ := h; rfl)
theorem stB_fl {s s' : St} {k : Nat} {a v : AV} {f : Fq} (h : stB s k a v = some (s',f)) : calm f = false := by
 unfold stB at h;split at h
 ·exact stBox_fl h
 ·repeat' split at h
  all_goals first
   | (cases h; done)
   | (simp at h; obtain ⟨_,rfl⟩ := h; rfl)
 ·cases h
theorem frzLab_or (s : St) (l : List Rt) : frzLab s l = .all \/ ∃ sl bs,frzLab s l = .wr sl bs := by
 unfold frzLab;split
 ·split
  ·split
   ·exact .inr ⟨_,_,rfl⟩
   ·exact .inl rfl
  ·exact .inl rfl
 ·exact .inl rfl
theorem frzLab_calm (s : St) (l : List Rt) : calm (frzLab s l) = false := by rcases frzLab_or s l with e | ⟨_,_,e⟩ <;> rw [e] <;> rfl
theorem frzLab_bo (s : St) (l ps : List Rt) : (frzLab s l = .bo ps) = False := by rcases frzLab_or s l with e | ⟨_,_,e⟩ <;> rw [e] <;> simp
theorem frzLab_al (s : St) (l : List Rt) (n : Nat) : (frzLab s l = .al n) = False := by rcases frzLab_or s l with e | ⟨_,_,e⟩ <;> rw [e] <;> simp
theorem frzLab_lw (s : St) (l : List Rt) (n : Nat) : (frzLab s l = .lw n) = False := by rcases frzLab_or s l with e | ⟨_,_,e⟩ <;> rw [e] <;> simp
theorem doCall_calm {s s1 : St} {kd : Kd} {v : AV} {f : Fq} (h : doCallO c call kd s = some (v,s1,f)) (hf : calm f = true) : CalmOK s s1 kd f v (doCallO c call kd) := by
 unfold doCallO at h;split at h
 ·cases h
 rename_i f0 args ha;split at h
 ·cases h
 rename_i md q hq;split at h
 ·rename_i hm;split at h
  ·cases h
  rename_i args' hz;split at h
  case h_2 => cases h
  rename_i r H' hc;split at h
  case isFalse => cases h
  rename_i hr;simp at h;obtain ⟨rfl,rfl,rfl⟩ := h;refine .still fun t h1 h2 => ?_
  have hs : Seen (borL args ++ slsL args) s t := by
   by_cases he : (borL args ++ slsL args).isEmpty = true
   ·rw [List.isEmpty_iff.1 he]; intro p hp; simp at hp
   ·exact h2.1 _ (by simp [he] <;> simpa using he)
  unfold doCallO;rw [getArgs_congr h1,ha];simp only [hq,hm,if_true,frzA_congr args hs,hz,hc,hr];simp
 ·rename_i hm;split at h
  ·cases h
  rename_i f1 args1 ha1;split at h
  case isFalse => cases h
  rename_i hff;split at h
  ·repeat' split at h
   all_goals first
    | (cases h; done)
    | (simp at h; obtain ⟨_,_,rfl⟩ := h; exfalso; simp [calm] at hf; done)
    | (simp at h; obtain ⟨_,_,rfl⟩ := h; exfalso; revert hf; split <;> simp [calm])
  ·rename_i hsh;split at h
   case isFalse => cases h
   rename_i hp;split at h
   case h_2 => cases h
   rename_i r H' hc;split at h
   case isFalse => cases h
   rename_i hr;simp at h;obtain ⟨rfl,rfl,rfl⟩ := h
   have he : borL args = [] := by
    cases hb : borL args with
    | nil => rfl
    | cons x y => rw [hb] at hf; simp [frzLab_calm] at hf
   rw [he] at ha1 ⊢;simp only [frzAll] at ha1 ⊢;refine .still fun t h1 h2 => ?_;unfold doCallO;rw [getArgs_congr h1,ha];simp only [hq,hm,he,frzAll,Bool.false_eq_true,if_false];rw [getArgs_congr h1,ha1];simp only [hff,if_true,hsh,hp,hc,hr,Bool.false_eq_true,if_false];simp
theorem inpB_none {s : St} {kd : Kd} (h : inpB c s kd = none) (t : St) : inpB c t kd = none := by
 unfold inpB at h ⊢;split at h
 ·split at h
  ·rename_i f x es hi;split at h
   ·rename_i he; simp only [hi,he]
   ·cases h
  ·cases h
 ·rfl
theorem locB_none {s : St} {kd : Kd} (h : locB c call s kd = none) (t : St) : locB c call t kd = none := by
 unfold locB at h ⊢;split at h
 ·rename_i f x es;split at h
  ·cases h
  ·rename_i hl;exact if_neg hl
 ·rfl
theorem eatV_fl {s s1 : St} {g : Nat -> List AV -> List AV -> Option (List AV)} {x : AV} {es : List AV} {v : AV} {f : Fq} (h : eatV s g x es = some (v,s1,f)) : ∃ sl bs,f = .wr sl bs \/ f = .all := by unfold eatV at h;cases h
theorem inpB_fl {s s1 : St} {kd : Kd} {v : AV} {f : Fq} (h : inpB c s kd = some (some (v,s1,f))) : ∃ sl bs,f = .wr sl bs \/ f = .all := by
 unfold inpB at h;split at h
 case h_2 => cases h
 split at h
 case h_1 =>
  split at h
  ·cases h
  ·simp only [Option.some.injEq] at h;exact eatV_fl h
 simp only [Option.some.injEq] at h
 (repeat' split at h) <;> simp at h
 all_goals first
  | exact ⟨_,_,.inl h.2.2.symm⟩
  | exact ⟨[],none,.inr h.2.2.symm⟩
theorem movB_none {call' : Nat -> List AV -> Heap -> Option (AV × Heap)} {s : St} {kd : Kd} (h : movB c call s kd = none) (t : St) : movB c call' t kd = none := by
 unfold movB at h ⊢;split at h
 ·split at h
  ·cases h
  ·rename_i hm;simp only [hm]
 ·rfl
theorem movB_fl {s s1 : St} {kd : Kd} {v : AV} {f : Fq} (h : movB c call s kd = some (some (v,s1,f))) : f = .all /\ ∃ k ys,v = .own k ys := by
 unfold movB at h;split at h
 case h_2 => cases h
 split at h
 case h_2 => cases h
 simp only [Option.some.injEq] at h;unfold movV at h
 (repeat' split at h) <;> first
  | (cases h; done)
  | (simp only [Option.some.injEq,Prod.mk.injEq] at h; exact ⟨h.2.2.symm,_,_,h.1.symm⟩)
theorem doCallM_calm {s s1 : St} {kd : Kd} {v : AV} {f : Fq} (h : doCallM c call kd s = some (v,s1,f)) (hf : calm f = true) : CalmOK s s1 kd f v (doCallM c call kd) := by
 unfold doCallM at h;cases hm : movB c call s kd with
 | some r =>
   rw [hm] at h;simp only at h;subst h;obtain ⟨rfl,_⟩ := movB_fl hm;simp [calm] at hf
 | none =>
   rw [hm] at h;rcases doCallP_or h with h | h
   ·obtain ⟨T,h1,h2,h3⟩ := doCall_calm h hf;refine ⟨T,h1,h2,fun t a b d => ?_⟩;unfold doCallM;rw [movB_none hm t];exact doCallP_of (h3 t a b d)
   ·obtain ⟨rfl,_⟩ := snkB_fl h;simp [calm] at hf
theorem doCallB_calm {s s1 : St} {kd : Kd} {v : AV} {f : Fq} (h : doCallB c call kd s = some (v,s1,f)) (hf : calm f = true) : CalmOK s s1 kd f v (doCallB c call kd) := by
 unfold doCallB at h;cases hi : inpB c s kd with
 | some r =>
   rw [hi] at h;simp only at h;subst h;obtain ⟨sl,bs,rfl | rfl⟩ := inpB_fl hi <;> simp [calm] at hf
 | none =>
   rw [hi] at h;cases hl : locB c call s kd with
   | some r =>
     rw [hl] at h;simp only at h;subst h;obtain ⟨b,rfl⟩ := locB_fl hl;simp [calm] at hf
   | none =>
     rw [hl] at h;obtain ⟨T,h1,h2,h3⟩ := doCallM_calm h hf;refine ⟨T,h1,h2,fun t a b d => ?_⟩;unfold doCallB;rw [inpB_none hi t,locB_none hl t];exact h3 t a b d
end
end Go.Bm

/- Every operation that is calm depends on what it names alone. -/
namespace Go.Bm
open Go.Am
section
variable {P : Program} {c : Cfg} {call : Nat -> List AV -> Heap -> Option (AV × Heap)}
theorem opB_calm {s s1 : St} {kd : Kd} {v : AV} {f : Fq} (h : opB c call s kd = some (v,s1,f)) (hf : calm f = true) : CalmOK s s1 kd f v (fun t => opB c call t kd) := by
 have pure : ∀ {kd : Kd} {v : AV} {s1 : St} {f : Fq},(match opP c s.env kd with
   | some v => some (v,s,Fq.no)
   | none => none) = some (v,s1,f) -> CalmOK s s1 kd f v (fun t => match opP c t.env kd with
   | some v => some (v,t,Fq.no)
   | none => none) := by
  intro kd v s1 f h;split at h
  case h_2 => cases h
  rename_i u hu;simp at h;obtain ⟨rfl,rfl,rfl⟩ := h;refine .still fun t h1 _ => ?_;simp only [opP_congr (c := c) h1,hu]
 cases kd
 case call f0 xs => simp only [opB] at h ⊢; exact doCallB_calm h hf
 case callv x xs => simp only [opB] at h ⊢; exact doCallB_calm h hf
 case ld ag x =>
  simp only [opB] at h;split at h
  case h_2 => cases h
  rename_i u ps hp;split at h
  case isFalse => cases h
  rename_i hl;simp at h;obtain ⟨rfl,rfl,rfl⟩ := h;refine .still fun t h1 h2 => ?_;simp only [opB,opnd_congr (c := c) h1,peek_cell hp h2,hl,if_true]
 case copy k x y =>
  exfalso;simp only [opB] at h
  (repeat' split at h) <;> first
   | (cases h; done)
   | (simp only [Option.some.injEq,Prod.mk.injEq] at h; obtain ⟨_,_,rfl⟩ := h; first
     | (simp [calm] at hf; done)
     | (rcases cpLab_or _ _ with e | ⟨_,_,_,_,e⟩ <;> rw [e] at hf <;> simp [calm] at hf))
 case asl n x hi =>
  simp only [opB] at h;split at h
  ·rename_i b off hx;split at h
   case h_2 => cases h
   rename_i m cs hm hb;split at h
   case isFalse => cases h
   rename_i hl;simp at h;obtain ⟨rfl,rfl,rfl⟩ := h;refine .still fun t h1 h2 => ?_;simp only [Kd.reads,List.mem_append] at h1;have e := ((h2.1 _ rfl) _ (List.mem_singleton.2 rfl)).2 b 1 rfl;have hm' : bndB c t.env n n hi = some m := by rw [bndB_congr (c := c) fun i hi => h1 i (.inr hi)]; exact hm
   simp only [opB,opnd_congr (c := c) fun i hi => h1 i (.inl hi),hx,hm',e,hb,hl,if_true]
  ·rename_i hno;split at h
   case h_2 => cases h
   rename_i u hu;simp at h;obtain ⟨rfl,rfl,rfl⟩ := h;refine .still fun t h1 _ => ?_;have e := opP_congr (c := c) h1;simp only [Kd.reads,List.mem_append] at h1;have ex : opnd c t.env x = opnd c s.env x := opnd_congr (c := c) fun i hi => h1 i (.inl hi);simp only [opB,ex,e,hu]
 case new zs =>
  simp only [opB] at h;simp at h;obtain ⟨rfl,rfl,rfl⟩ := h;exact ⟨_,rfl,.inr ⟨_,rfl,rfl⟩,fun t _ _ h3 => by simp only [opB]; rw [h3 _ rfl]⟩
 case box x =>
  simp only [opB] at h;split at h
  case isFalse => cases h
  rename_i hl;simp at h;obtain ⟨rfl,rfl,rfl⟩ := h;refine ⟨_,rfl,.inr ⟨_,rfl,rfl⟩,fun t h1 _ h3 => ?_⟩;simp only [opB,opnd_congr (c := c) h1,hl,if_true];rw [h3 _ rfl]
 case bslice k n zs ps =>
  simp only [opB] at h;split at h
  case h_2 => cases h
  rename_i cs hc;split at h
  case isFalse => cases h
  rename_i hz;simp at h;obtain ⟨rfl,rfl,rfl⟩ := h
  have he : partsBor c s.env ps = [] := by
   cases hb : partsBor c s.env ps with
   | nil => rfl
   | cons x y => simp [hb,calm] at hf
  rw [he] at hc ⊢;simp only [frzAll] at hc ⊢;refine .still fun t h1 _ => ?_;simp only [opB,partsBor_congr (c := c) h1,he,frzAll,fillB_congr (c := c) h1,hc,hz,if_true];simp
 case st k a v =>
  exfalso;simp only [opB] at h;split at h
  ·split at h
   case h_2 => cases h
   rename_i hh;have h4 := stB_fl hh;simp only [Option.some.injEq,Prod.mk.injEq] at h;obtain ⟨_,_,h5⟩ := h;rw [<- h5] at hf;split at hf
   ·rw [hf] at h4; cases h4
   ·simp [calm] at hf
  ·split at h
   case h_2 => cases h
   rename_i hh;have h4 := stB_fl hh;simp only [Option.some.injEq,Prod.mk.injEq] at h;obtain ⟨_,_,h5⟩ := h;rw [<- h5] at hf;rw [hf] at h4;cases h4
 case app k x y =>
  simp only [opB] at h;split at h
  case h_2 => cases h
  rename_i ys hy;split at h
  case isFalse => cases h
  rename_i hl;split at h
  ·rename_i k' hx;split at h
   case isFalse => cases h
   rename_i hle;simp at h;obtain ⟨rfl,rfl,rfl⟩ := h;refine .still fun t h1 h2 => ?_;simp only [Kd.reads,List.mem_append] at h1;simp only [opB];rw [opnd_congr (c := c) fun i hi => h1 i (.inl hi),opnd_congr (c := c) fun i hi => h1 i (.inr hi),cont_congr (h2.1 _ rfl),hy];simp only [hl,if_true,hx,hle]
  ·exfalso
   repeat' split at h
   all_goals first
    | (cases h; done)
    | (simp at h; obtain ⟨_,_,rfl⟩ := h; simp [calm] at hf)
  ·cases h
 case mks k zs l cp =>
  simp only [opB] at h;split at h
  case h_2 => cases h
  rename_i k1 n1 k2 n2 e1 e2;split at h
  case isFalse => cases h
  rename_i hb;split at h
  ·rename_i z hz;simp at h;obtain ⟨rfl,rfl,rfl⟩ := h;refine ⟨_,rfl,.inr ⟨_,rfl,rfl⟩,fun t h1 _ h3 => ?_⟩;simp only [Kd.reads,List.mem_append] at h1;simp only [opB];rw [opnd_congr (c := c) fun i hi => h1 i (.inl hi),opnd_congr (c := c) fun i hi => h1 i (.inr hi),e1,e2];simp only [hb,and_self,if_true,hz];rw [h3 _ rfl]
  ·rename_i hz;simp at h;obtain ⟨rfl,rfl,rfl⟩ := h;refine .still fun t h1 h2 => ?_;simp only [Kd.reads,List.mem_append] at h1;simp only [opB];rw [opnd_congr (c := c) fun i hi => h1 i (.inl hi),opnd_congr (c := c) fun i hi => h1 i (.inr hi),e1,e2];simp only [hb,and_self,if_true,hz]
 case clr k zs x =>
  simp only [opB] at h;split at h
  case h_3 => cases h
  all_goals
   rename_i e1;simp at h;obtain ⟨rfl,rfl,rfl⟩ := h;refine .still fun t h1 h2 => ?_;simp only [opB,opnd_congr (c := c) h1,e1]
 all_goals
  simp only [opB] at h ⊢;exact pure h
end
end Go.Bm

/- A state without shadowed entries: who mentions a place, by what can be read. -/
namespace Go.Bm
open Go.Am
section
def nrm : List Nat -> Env -> Env
 | _,[] => []
 | sn,(i,v) :: r => if mem i sn then nrm sn r else (i,v) :: nrm (i :: sn) r
theorem get_nrm : ∀ (sn : List Nat) (e : Env) (i : Nat),get (nrm sn e) i = if mem i sn = true then .any else get e i
 | sn,[],i => by simp [nrm,Am.get]
 | sn,(j,v) :: r,i => by
   unfold nrm;by_cases hj : mem j sn = true
   ·rw [if_pos hj,get_nrm sn r i];by_cases hi : mem i sn = true
    ·simp [hi]
    ·simp only [hi,Bool.false_eq_true,if_false,Am.get];have : j ≠ i := fun e => hi (e ▸ hj);have h2 : i ≠ j := fun e => this e.symm;simp [hi,h2]
   ·rw [if_neg hj];simp only [Am.get];rw [get_nrm (j :: sn) r i];by_cases hji : j = i
    ·subst hji;simp [hj]
    ·have h2 : i ≠ j := fun e => hji e.symm
     have : mem i (j :: sn) = mem i sn := by
      conv => lhs; unfold mem
      rw [if_neg h2]
     simp only [this,h2,if_false]
theorem anyE_get {f : Rt -> Bool} : ∀ {e : Env} {i : Nat},anyR f (borOf (get e i)) = true -> anyE f e = true
 | [],i,h => by simp [Am.get,borOf,anyR] at h
 | (j,v) :: r,i,h => by
   simp only [Am.get] at h;simp only [anyE,Bool.or_eq_true];split at h
   ·exact .inl h
   ·exact .inr (anyE_get h)
theorem anyE_nrm {f : Rt -> Bool} : ∀ {sn : List Nat} {e : Env},anyE f (nrm sn e) = true -> ∃ i,mem i sn = false /\ anyR f (borOf (Am.get e i)) = true
 | sn,[],h => by simp [nrm,anyE] at h
 | sn,(j,v) :: r,h => by
   unfold nrm at h;by_cases hj : mem j sn = true
   ·rw [if_pos hj] at h;obtain ⟨i,h1,h2⟩ := anyE_nrm h;have hne : i ≠ j := fun e => by rw [e,hj] at h1; cases h1
    exact ⟨i,h1,by simp only [Am.get]; rw [if_neg hne]; exact h2⟩
   ·rw [if_neg hj] at h;simp only [anyE,Bool.or_eq_true] at h;rcases h with h | h
    ·exact ⟨j,by simpa using hj,by simp only [Am.get,if_true]; exact h⟩
    ·obtain ⟨i,h1,h2⟩ := anyE_nrm h
     have hne : i ≠ j := fun e => by
      rw [e] at h1;unfold mem at h1;simp at h1
     refine ⟨i,?_,by simp only [Am.get]; rw [if_neg hne]; exact h2⟩;unfold mem at h1;rw [if_neg hne] at h1;exact h1
def nrmS (s : St) : St := ⟨nrm [] s.env,s.H⟩
theorem nrmS_same (s : St) : Same s (nrmS s) := ⟨fun i => by simp only [nrmS]; rw [get_nrm]; simp [mem],rfl⟩
end
end Go.Bm

/- A step is an operation's value, put to its slot; what a calm operation and one that writes a few places are worth. -/
namespace Go.Bm
open Go.Am
section
variable {P : Program} {c : Cfg} {call : Nat -> List AV -> Heap -> Option (AV × Heap)}
def evB (c : Cfg) (call : Nat -> List AV -> Heap -> Option (AV × Heap)) (s : St) (q : O) : Option (AV × St × Fq) :=
 match q.guard with
 | none => opB c call s q.kd
 | some (g,want) => match get s.env g with
   | .bool b => if b = want then opB c call s q.kd else some (.undef,s,.no)
   | .undef => some (.undef,s,.no)
   | _ => none
theorem stepB_ev (s : St) (q : O) : stepB c call s q = match evB c call s q with
  | some (v,s',fl) => finO s.env q.dst v s' fl
  | none => none := by
 unfold stepB evB;cases hg : q.guard with
 | none => rfl
 | some p =>
   obtain ⟨g,want⟩ := p;simp only;generalize get s.env g = u;cases u <;> try rfl
   rename_i b;simp only;by_cases hb : b = want
   ·simp only [hb,if_true]; rfl
   ·simp only [hb,if_false]
def putO (s : St) (d : Option Nat) (v : AV) : St := match d with
 | none => s
 | some d => ⟨put s.env d v,s.H⟩
theorem putO_H (s : St) (d : Option Nat) (v : AV) : (putO s d v).H = s.H := by cases d <;> rfl
theorem putO_get (s : St) (d : Option Nat) (v : AV) (i : Nat) : get (putO s d v).env i = if d = some i then v else get s.env i := by
 cases d with
 | none => simp [putO]
 | some d =>
   simp only [putO,get_put];by_cases h : i = d
   ·subst h; simp
   ·have : d ≠ i := fun e => h e.symm;simp [h,this]
theorem putO_same {s t : St} (h : Same s t) (d : Option Nat) (v : AV) : Same (putO s d v) (putO t d v) :=
 ⟨fun i => by rw [putO_get,putO_get,h.1 i],by rw [putO_H,putO_H]; exact h.2⟩
def Ev (c : Cfg) (call : Nat -> List AV -> Heap -> Option (AV × Heap)) (s : St) (q : O) (v : AV) (s1 : St) (f : Fq) : Prop :=
 konst q.kd = true /\ ∃ s0 t1,Same s s0 /\ evB c call s0 q = some (v,t1,f) /\ Same t1 s1
theorem Ev.same {s t s1 t1 : St} {q : O} {v : AV} {f : Fq} (h : Ev c call s q v s1 f) (e : Same s t) (e1 : Same s1 t1) : Ev c call t q v t1 f := by
 obtain ⟨hk,s0,u1,a,b,d⟩ := h;exact ⟨hk,s0,u1,e.symm.trans a,b,d.trans e1⟩
structure CalmEv (c : Cfg) (call : Nat -> List AV -> Heap -> Option (AV × Heap)) (s : St) (q : O) (v : AV) (s1 : St) (f : Fq) (X : Heap) : Prop where
 st : Same s1 ⟨s.env,s.H ++ X⟩
 nw : (X = [] /\ ∀ n,f ≠ .al n) \/ ∃ z,X = [z] /\ f = .al s.H.length
 go : ∀ t : St,(∀ i ∈ q.reads,lend i (get t.env i) = lend i (get s.env i)) -> SeenF f s t -> (∀ n,f = .al n -> t.H.length = n) -> Ev c call t q v ⟨t.env,t.H ++ X⟩ f
 val : ∀ V : Rt -> Prop,(∀ i ∈ q.reads,(∀ p ∈ borOf (get s.env i),¬ V p) /\ ¬ V (.s i) /\ ∀ j,¬ V (.sc i j)) ->
  (∀ ps,f = .rd ps -> ∀ b,Rt.c b 0 ∈ ps -> ∀ cs,blk s.H b = some cs -> (∀ p ∈ borL cs,¬ V p) /\ (hasOwnL cs = true -> ∀ j,¬ V (.c b j))) ->
  (∀ b j,f = .rc b j -> ∀ cs c,blk s.H b = some cs -> cs[j]? = some c -> (∀ p ∈ borOf c,¬ V p) /\ (∀ k xs,c = .own k xs -> ¬ V (.c b j))) -> ∀ p ∈ borOf v,¬ V p
structure LwEv (c : Cfg) (call : Nat -> List AV -> Heap -> Option (AV × Heap)) (s : St) (q : O) (v : AV) (s1 : St) (b : Nat) (cs cs' : List AV) : Prop where
 bl : blk s.H b = some cs
 st : Same s1 ⟨s.env,s.H.set b (some cs')⟩
 go : ∀ t : St,(∀ i ∈ q.reads,get t.env i = get s.env i) -> blk t.H b = some cs -> Ev c call t q v ⟨t.env,t.H.set b (some cs')⟩ (.lw b)
structure WrEv (c : Cfg) (call : Nat -> List AV -> Heap -> Option (AV × Heap)) (s : St) (q : O) (v : AV) (s1 : St) (sl : List Nat) (bs : Option (List Nat)) (V : Rt -> Prop) : Prop where
 env : ∀ i,i ∉ sl -> i + BIGB ∉ sl -> get s1.env i = get s.env i
 hd : ∀ i,i ∉ sl -> lend i (get s1.env i) = lend i (get s.env i)
 keep : ∀ i,hasOwn (get s.env i) = false -> borOf (get s.env i) = [] -> get s1.env i = get s.env i
 heap : ∀ l,bs = some l -> ∀ b,boxIn b l = false -> blk s1.H b = blk s.H b
 cell : ∀ l,bs = some l -> ∀ b j,b ∉ l -> cellN b j ∉ l -> SeenC b j s s1 /\ SeenC b j s1 s
 v1 : ∀ i,i ∉ sl -> (∀ p ∈ borOf (get s.env i),¬ V p) /\ ¬ V (.s i) /\ ∀ j,¬ V (.sc i j)
 v2 : ∀ l,bs = some l -> ∀ b,boxIn b l = false -> b + BIGB ∉ l -> ∀ cs,blk s.H b = some cs -> (∀ p ∈ borL cs,¬ V p) /\ (hasOwnL cs = true -> ∀ j,¬ V (.c b j))
 v3 : ∀ l,bs = some l -> ∀ b j,b ∉ l -> b + BIGB ∉ l -> cellN b j ∉ l -> ∀ cs c,blk s.H b = some cs -> cs[j]? = some c -> (∀ p ∈ borOf c,¬ V p) /\ (∀ k xs,c = .own k xs -> ¬ V (.c b j))
 go : ∀ d u,d ∉ q.reads -> d ∉ sl -> d + BIGB ∉ sl -> (∀ p ∈ borOf u,¬ V p) -> ∃ t1 sl',Ev c call ⟨put s.env d u,s.H⟩ q v t1 (.wr sl' bs) /\ (∀ i ∈ sl',i ∈ sl) /\ Same t1 ⟨put s1.env d u,s1.H⟩
end
end Go.Bm

/- Two steps whose order is open commute, given what single operations are worth. -/
namespace Go.Bm
open Go.Am
section
variable {P : Program} {c : Cfg} {call : Nat -> List AV -> Heap -> Option (AV × Heap)}
def CalmAll (c : Cfg) (call : Nat -> List AV -> Heap -> Option (AV × Heap)) : Prop := ∀ s q v s1 f,Ev c call s q v s1 f -> calm f = true -> ∃ X,CalmEv c call s q v s1 f X
def WrAll (c : Cfg) (call : Nat -> List AV -> Heap -> Option (AV × Heap)) : Prop := ∀ s q v s1 sl bs,Ev c call s q v s1 (.wr sl bs) -> ∃ V,WrEv c call s q v s1 sl bs V
def LwAll (c : Cfg) (call : Nat -> List AV -> Heap -> Option (AV × Heap)) : Prop := ∀ s q v s1 b,Ev c call s q v s1 (.lw b) -> ∃ cs cs',LwEv c call s q v s1 b cs cs'
theorem evB_fl {s s1 : St} {q : O} {v : AV} {f : Fq} (h : evB c call s q = some (v,s1,f)) : ∀ ps,f ≠ .bo ps := by
 have hop : ∀ {kd : Kd} {v : AV} {s1 : St} {f : Fq},opB c call s kd = some (v,s1,f) -> ∀ ps,f ≠ .bo ps := by
  intro kd v s1 f h ps e;subst e
  have st : ∀ {s s' : St} {k : Nat} {a v : AV},stB s k a v ≠ some (s',.bo ps) := by
   intro s s' k a v h;unfold stB stBox at h
   repeat' split at h
   all_goals first
    | (cases h; done)
    | (simp at h; done)
  have ic : ∀ {kd : Kd},inpB c s kd ≠ some (some (v,s1,.bo ps)) := fun h => by
   obtain ⟨sl,bs,e | e⟩ := inpB_fl h <;> cases e
  have oc : ∀ {kd : Kd},doCallB c call kd s ≠ some (v,s1,.bo ps) := by
   intro kd h;unfold doCallB at h;split at h
   ·rename_i r hi; subst h; exact ic hi
   split at h
   ·rename_i r hi; subst h; obtain ⟨b,e⟩ := locB_fl hi; cases e
   unfold doCallM at h;split at h
   ·rename_i r hi; subst h; obtain ⟨e,_⟩ := movB_fl hi; cases e
   ·replace h := (doCallP_or h).resolve_right fun h => by obtain ⟨e,_⟩ := snkB_fl h; cases e
    unfold doCallO at h
    (repeat' split at h)
    all_goals first
     | (cases h; done)
     | (simp [frzLab_bo] at h; done)
     | (simp at h; obtain ⟨_,_,h5⟩ := h; revert h5; split <;> simp [frzLab_bo])
  cases kd <;> simp only [opB] at h
  case call => exact oc h
  case callv => exact oc h
  case st k a v =>
   split at h
   ·split at h
    case h_2 => cases h
    rename_i hh;simp only [Option.some.injEq,Prod.mk.injEq] at h;obtain ⟨_,_,h5⟩ := h;split at h5
    ·rw [h5] at hh; exact st hh
    ·cases h5
   ·split at h
    case h_2 => cases h
    rename_i hh;simp only [Option.some.injEq,Prod.mk.injEq] at h;obtain ⟨_,_,h5⟩ := h;rw [h5] at hh;exact st hh
  all_goals
   (repeat' split at h)
   all_goals first
    | (cases h; done)
    | (simp at h; done)
    | (simp at h; obtain ⟨_,_,h5⟩ := h; rcases ldLab_or _ _ _ with e | ⟨b,j,e⟩ <;> rw [e] at h5 <;> cases h5; done)
    | (simp at h; obtain ⟨_,_,h5⟩ := h; rcases cpLab_or _ _ with e | ⟨_,_,_,_,e⟩ <;> rw [e] at h5 <;> cases h5; done)
    | (simp at h; obtain ⟨_,_,h5⟩ := h; revert h5; split <;> simp)
 unfold evB at h;split at h
 ·exact hop h
 ·split at h
  ·split at h
   ·exact hop h
   ·simp at h; obtain ⟨_,_,rfl⟩ := h; intro ps; simp
  ·simp at h; obtain ⟨_,_,rfl⟩ := h; intro ps; simp
  ·cases h
theorem Ev.fl {s s1 : St} {q : O} {v : AV} {f : Fq} (h : Ev c call s q v s1 f) : ∀ ps,f ≠ .bo ps := let ⟨_,_,_,_,b,_⟩ := h; evB_fl b
theorem relab_get {e e' : Env} {d : Option Nat} {f : Fq} (h : ∀ i,d = some i -> get e i = get e' i) : relab e d f = relab e' d f := by
 unfold relab;cases d with
 | none => rfl
 | some d => simp only; rw [h d rfl]
theorem relab_clean {e : Env} {d : Option Nat} {f : Fq} (h : cwF (relab e d f) = true) : ∀ i,d = some i -> hasOwn (get e i) = false := by
 rintro i rfl;unfold relab at h;cases hh : hasOwn (get e i) with
 | false => rfl
 | true => simp [hh,cwF] at h
theorem relab_wr {e : Env} {d : Option Nat} {sl : List Nat} {bs : Option (List Nat)} (h : cwF (relab e d (.wr sl bs)) = true) : relab e d (.wr sl bs) = .wr sl bs /\ ∀ i,d = some i -> hasOwn (get e i) = false /\ borOf (get e i) = [] := by
 refine ⟨?_,fun i hi => ⟨relab_clean h i hi,?_⟩⟩
 ·unfold relab at h ⊢;cases d with
  | none => rfl
  | some d =>
    simp only at h ⊢;split at h
    ·simp [cwF] at h
    rename_i h1;rw [if_neg h1];split at h
    ·rename_i h2; rw [if_pos h2]
    ·simp [cwF] at h
 ·subst hi;unfold relab at h;simp only at h;split at h
  ·simp [cwF] at h
  ·split at h
   ·rename_i h2; exact List.isEmpty_iff.1 h2
   ·simp [cwF] at h
theorem relab_lw {e : Env} {d : Option Nat} {b : Nat} (h : cwF (relab e d (.lw b)) = true) : relab e d (.lw b) = .lw b /\ ∀ i,d = some i -> hasOwn (get e i) = false /\ borOf (get e i) = [] := by
 refine ⟨?_,fun i hi => ⟨relab_clean h i hi,?_⟩⟩
 ·unfold relab at h ⊢;cases d with
  | none => rfl
  | some d =>
    simp only at h ⊢;split at h
    ·simp [cwF] at h
    rename_i h1;rw [if_neg h1];split at h
    ·rename_i h2; rw [if_pos h2]
    ·simp [cwF] at h
 ·subst hi;unfold relab at h;simp only at h;split at h
  ·simp [cwF] at h
  ·split at h
   ·rename_i h2; exact List.isEmpty_iff.1 h2
   ·simp [cwF] at h
theorem relab_cw {e : Env} {d : Option Nat} {f : Fq} (h : cwF (relab e d f) = true) : cwF f = true := by
 unfold relab at h;split at h
 ·exact h
 ·split at h
  ·simp [cwF] at h
  ·split at h
   ·exact h
   ·split at h
    ·rfl
    ·rfl
    ·rfl
    ·simp [cwF] at h
theorem relab_of_wr {e e' : Env} {d : Option Nat} {sl sl' : List Nat} {bs bs' : Option (List Nat)} (h : ∀ i,d = some i -> hasOwn (get e i) = false /\ borOf (get e i) = []) : relab e d (.wr sl bs) = .wr sl bs := by
 unfold relab;cases d with
 | none => rfl
 | some d => simp [h d rfl]
theorem TS.out (HC : CalmAll c call) (HW : WrAll c call) (HL : LwAll c call) {s s' : St} {q : O} {f : Fq} (h : TS c call s q f s') (hf : cwF f = true) : ∃ v s1 f1,Ev c call s q v s1 f1 /\ cwF (relab s.env q.dst f1) = true /\ LeF (relab s.env q.dst f1) f /\ Same s' (putO s1 q.dst v) := by
 obtain ⟨hk,s0,t1,f0,e0,hst,hle,e1⟩ := h;rw [stepB_ev] at hst;split at hst
 case h_2 => cases hst
 rename_i v u1 f1 he;have hfl := finO_fl hst;have hrel : relab s0.env q.dst f1 = relab s.env q.dst f1 := relab_get fun i _ => (e0.1 i).symm
 have hcw : cwF (relab s.env q.dst f1) = true := by
  rw [<- hrel,<- hfl];cases f0 <;> cases f <;> simp [LeF,cwF] at hle hf ⊢
 have hev : Ev c call s q v u1 f1 := ⟨hk,s0,u1,e0,he,Same.rfl'⟩;refine ⟨v,u1,f1,hev,hcw,by rw [<- hrel,<- hfl]; exact hle,?_⟩;unfold finO at hst;split at hst
 case h_2 => cases hst
 rename_i u2 hp;simp only [Option.some.injEq,Prod.mk.injEq] at hst;obtain ⟨rfl,_⟩ := hst;refine e1.symm.trans ?_;cases hd : q.dst with
 | none => rw [hd] at hp; simp [putdB] at hp; subst hp; exact Same.rfl'
 | some d =>
   rw [hd] at hp
   have hno : hasOwn (get u1.env d) = false := by
    have h0 := relab_clean hcw d hd;have hc1 := relab_cw hcw;by_cases hcalm : calm f1 = true
    ·obtain ⟨X,hX⟩ := HC _ _ _ _ _ hev hcalm;rw [hX.st.1 d];exact h0
    ·cases f1 <;> simp [calm,cwF] at hcalm hc1
     case wr sl bs =>
      obtain ⟨V,hV⟩ := HW _ _ _ _ _ _ hev;have h2 := (relab_wr hcw).2 d hd;rw [hV.keep d h2.1 h2.2];exact h0
     case lw b =>
      obtain ⟨cs,cs',hL⟩ := HL _ _ _ _ _ hev;rw [hL.st.1 d];exact h0
     case bo => exact absurd rfl (hev.fl _)
   simp only [putdB,putB,slowP,hno,Bool.false_and,Bool.false_eq_true,if_false,Option.some.injEq] at hp;subst hp;exact Same.rfl'
theorem TS.mk (HC : CalmAll c call) (HW : WrAll c call) (HL : LwAll c call) {s s1 s' : St} {q : O} {v : AV} {f f1 : Fq} (hev : Ev c call s q v s1 f1) (hcw : cwF (relab s.env q.dst f1) = true) (hle : LeF (relab s.env q.dst f1) f) (hs : Same s' (putO s1 q.dst v)) : TS c call s q f s' := by
 have hev' := hev;obtain ⟨hk,s0,t1,e0,he,e1⟩ := hev';have hrel : relab s0.env q.dst f1 = relab s.env q.dst f1 := relab_get fun i _ => (e0.1 i).symm
 have hput : putdB t1 q.dst v = some (putO t1 q.dst v) := by
  cases hd : q.dst with
  | none => rfl
  | some d =>
    have hno : hasOwn (get t1.env d) = false := by
     have h0 := relab_clean hcw d hd;have hc1 := relab_cw hcw;rw [e1.1 d];by_cases hcalm : calm f1 = true
     ·obtain ⟨X,hX⟩ := HC _ _ _ _ _ hev hcalm;rw [hX.st.1 d];exact h0
     ·cases f1 <;> simp [calm,cwF] at hcalm hc1
      case wr sl bs =>
       obtain ⟨V,hV⟩ := HW _ _ _ _ _ _ hev;have h2 := (relab_wr hcw).2 d hd;rw [hV.keep d h2.1 h2.2];exact h0
      case lw b =>
       obtain ⟨cs,cs',hL⟩ := HL _ _ _ _ _ hev;rw [hL.st.1 d];exact h0
      case bo => exact absurd rfl (hev.fl _)
    simp only [putdB,putB,slowP,hno,Bool.false_and,Bool.false_eq_true,if_false,putO]
 refine ⟨hk,s0,putO t1 q.dst v,relab s.env q.dst f1,e0,?_,hle,(putO_same e1 _ _).trans hs.symm⟩;rw [stepB_ev,he];simp only [finO,hput,hrel]
end
end Go.Bm

/- Two steps whose order is open commute. -/
namespace Go.Bm
open Go.Am
section
variable {P : Program} {c : Cfg} {call : Nat -> List AV -> Heap -> Option (AV × Heap)}
theorem notSlot_get {d : Nat} : ∀ {ps : List Rt},notSlot d ps = true -> ∀ p ∈ ps,(∀ i,p = .s i -> i ≠ d) /\ ∀ i j,p = .sc i j -> i ≠ d
 | [],_,p,hp => by simp at hp
 | q :: r,h,p,hp => by
   have ih : notSlot d r = true -> p ∈ r -> _ := fun h hp => notSlot_get (d := d) h p hp;rcases List.mem_cons.1 hp with e | e
   ·subst e;cases p with
    | s i => simp only [notSlot,Bool.and_eq_true,decide_eq_true_eq] at h; exact ⟨(fun k hk => by cases hk; exact h.1),fun k j hk => by cases hk⟩
    | sc i j => simp only [notSlot,Bool.and_eq_true,decide_eq_true_eq] at h; exact ⟨(fun k hk => by cases hk),fun k l hk => (by cases hk; exact h.1)⟩
    | c b j => exact ⟨(fun k hk => by cases hk),fun k l hk => by cases hk⟩
   ·have h' : notSlot d r = true := by
     cases q <;> simp only [notSlot,Bool.and_eq_true] at h
     ·exact h.2
     ·exact h.2
     ·exact h
    exact ih h' e
theorem apartR_get {sl : List Nat} {bs : Option (List Nat)} : ∀ {ps : List Rt},apartR sl bs ps = true -> ∀ p ∈ ps,(∀ i,p = .s i -> i ∉ sl /\ i + BIGB ∉ sl) /\ (∀ i j,p = .sc i j -> i ∉ sl /\ i + BIGB ∉ sl) /\ ∀ b j,p = .c b j -> ∃ l,bs = some l /\ boxIn b l = false /\ (j = 0 -> b + BIGB ∉ l)
 | [],_,p,hp => by simp at hp
 | q :: r,h,p,hp => by
   have nm : ∀ {i : Nat} {l : List Nat},mem i l = false -> i ∉ l := fun h hi => by rw [mem_iff.2 hi] at h; cases h
   rcases List.mem_cons.1 hp with e | e
   ·subst e;cases p with
    | s i => simp only [apartR,Bool.and_eq_true,Bool.not_eq_true'] at h; exact ⟨fun k hk => (by cases hk; exact ⟨nm h.1.1,nm h.1.2⟩),(fun k j hk => by cases hk),fun k j hk => by cases hk⟩
    | sc i j => simp only [apartR,Bool.and_eq_true,Bool.not_eq_true'] at h; exact ⟨(fun k hk => by cases hk),(fun k l hk => (by cases hk; exact ⟨nm h.1.1,nm h.1.2⟩)),fun k j hk => by cases hk⟩
    | c b j =>
      simp only [apartR,Bool.and_eq_true] at h;refine ⟨(fun k hk => by cases hk),(fun k l hk => by cases hk),fun k l hk => ?_⟩;cases hk;cases bs with
      | none => simp at h
      | some l =>
        simp only [Bool.and_eq_true,Bool.not_eq_true',Bool.or_eq_true,decide_eq_true_eq] at h;exact ⟨l,rfl,h.1.1,fun e => h.1.2.elim (fun q => absurd e q) nm⟩
   ·have h' : apartR sl bs r = true := by
     cases q <;> simp only [apartR,Bool.and_eq_true] at h <;> exact h.2
    exact apartR_get h' p e
theorem noneIn_get {sl : List Nat} : ∀ {l : List Nat},noneIn sl l = true -> ∀ i ∈ l,i ∉ sl
 | [],_,i,hi => by simp at hi
 | j :: r,h,i,hi => by
   simp only [noneIn,Bool.and_eq_true,Bool.not_eq_true'] at h;rcases List.mem_cons.1 hi with e | e
   ·subst e; intro hm; rw [mem_iff.2 hm] at h; cases h.1
   ·exact noneIn_get h.2 i e
theorem oldBoxes_get {n : Nat} : ∀ {ps : List Rt},oldBoxes n ps = true -> ∀ b j,Rt.c b j ∈ ps -> b < n
 | [],_,b,j,h => by simp at h
 | q :: r,h,b,j,hp => by
   rcases List.mem_cons.1 hp with e | e
   ·subst e; simp only [oldBoxes,Bool.and_eq_true,decide_eq_true_eq] at h; exact h.1
   ·have h' : oldBoxes n r = true := by cases q <;> simp only [oldBoxes,Bool.and_eq_true] at h <;> first | exact h | exact h.2
    exact oldBoxes_get h' b j e
theorem Seen.mk' {ps : List Rt} {s t : St} (h1 : ∀ p ∈ ps,(∀ i,p = .s i -> get t.env i = get s.env i) /\ (∀ i j,p = .sc i j -> get t.env i = get s.env i) /\ ∀ b j,p = .c b j -> blk t.H b = blk s.H b) : Seen ps s t := by
 intro p hp;obtain ⟨a,b,d⟩ := h1 p hp;refine ⟨?_,fun k l e => d k l e⟩;cases p with
 | s i => simp only [ownAt,at_]; rw [a i rfl]
 | sc i j => simp only [ownAt,at_]; rw [b i j rfl]
 | c k j => simp only [ownAt,at_]; rw [d k j rfl]
theorem apart_of {x y : O} (h : apartO x y = true) : (∀ i,x.dst = some i -> i ∉ y.reads /\ y.dst ≠ some i) /\ ∀ i,y.dst = some i -> i ∉ x.reads /\ x.dst ≠ some i := by
 have nm : ∀ {i : Nat} {l : List Nat},mem i l = false -> i ∉ l := fun h hi => by rw [mem_iff.2 hi] at h; cases h
 unfold apartO at h;simp only [Bool.and_eq_true] at h;obtain ⟨h1,h2⟩ := h;refine ⟨fun i hi => ?_,fun i hi => ?_⟩
 ·rw [hi] at h1;simp only [Bool.and_eq_true,Bool.not_eq_true',decide_eq_true_eq] at h1;exact ⟨nm h1.1,h1.2⟩
 ·rw [hi] at h2;simp only [Bool.not_eq_true'] at h2;refine ⟨nm h2,fun e => ?_⟩;rw [e] at h1;simp only [Bool.and_eq_true,Bool.not_eq_true',decide_eq_true_eq] at h1;exact h1.2 hi
def rdsF : Fq -> List Rt
 | .rd ps => ps
 | .bo ps => ps
 | .rc b _ => [.c b 0]
 | _ => []
theorem relab_calm {e : Env} {d : Option Nat} {f : Fq} (h : cwF (relab e d f) = true) (hc : calm f = true) : rdsF (relab e d f) = rdsF f /\ (∀ n,f = .al n -> relab e d f = .al n) /\ (∀ n,relab e d f = .al n -> f = .al n) /\ ((∀ ps,relab e d f ≠ .bo ps) -> relab e d f = f /\ ∀ i,d = some i -> borOf (get e i) = []) := by
 unfold relab at h ⊢;cases d with
 | none => exact ⟨rfl,fun n h => h,fun n h => h,fun _ => ⟨rfl,fun i hi => by cases hi⟩⟩
 | some d =>
   simp only at h ⊢;split at h
   ·simp [cwF] at h
   rename_i h1;rw [if_neg h1];split at h
   ·rename_i h2;rw [if_pos h2];exact ⟨rfl,fun n h => h,fun n h => h,fun _ => ⟨rfl,fun i hi => by cases hi; exact List.isEmpty_iff.1 h2⟩⟩
   ·rename_i h2;rw [if_neg h2];cases f <;> simp [calm,cwF] at hc h ⊢ <;> simp [rdsF]
theorem LeF.cw {f g : Fq} (h : LeF f g) (hg : cwF g = true) : (∀ sl bs,f ≠ .wr sl bs) -> f = g := by
 intro hn;cases f <;> cases g <;> simp [LeF,cwF] at h hg hn ⊢ <;> exact h
theorem ok_cw {f g : Fq} (h : f.ok g = true) : cwF f = true /\ cwF g = true := by
 cases f <;> cases g <;> simp [Fq.ok,cwF] at h ⊢
theorem ok_al {f g : Fq} {n m : Nat} (h : f.ok g = true) (hf : f = .al n) : g ≠ .al m := by
 subst hf; intro e; subst e; simp [Fq.ok] at h
theorem ok_old {f g : Fq} {n : Nat} (h : f.ok g = true) (hf : f = .al n) : oldBoxes n (rdsF g) = true := by
 subst hf; cases g <;> simp [Fq.ok,rdsF,oldBoxes] at h ⊢ <;> exact h
theorem ok_old' {f g : Fq} {n : Nat} (h : f.ok g = true) (hg : g = .al n) : oldBoxes n (rdsF f) = true := by
 subst hg; cases f <;> simp [Fq.ok,rdsF,oldBoxes] at h ⊢ <;> exact h
theorem dstOff_get {d : Option Nat} {f : Fq} (h : dstOff d f = true) (hf : cwF f = true) : ∀ i,d = some i -> notSlot i (rdsF f) = true := by
 rintro i rfl;cases f <;> simp [dstOff,rdsF,notSlot] at h ⊢ <;> exact h
theorem wrOff_get {sl : List Nat} {bs : Option (List Nat)} {y : O} {g : Fq} (h : wrOff (.wr sl bs) y g = true) : (∀ i ∈ y.reads,i ∉ sl) /\ (∀ i,y.dst = some i -> i ∉ sl /\ i + BIGB ∉ sl) /\ (∀ ps,g = .rd ps -> apartR sl bs ps = true) /\ ∀ b j,g = .rc b j -> ∃ l,bs = some l /\ b ∉ l /\ b + BIGB ∉ l /\ cellN b j ∉ l := by
 have nm : ∀ {i : Nat} {l : List Nat},mem i l = false -> i ∉ l := fun h hi => by rw [mem_iff.2 hi] at h; cases h
 simp only [wrOff,Bool.and_eq_true] at h;obtain ⟨⟨h1,h2⟩,h3⟩ := h;refine ⟨noneIn_get h1,fun i hi => ?_,fun ps hp => ?_,fun b j hp => ?_⟩
 ·rw [hi] at h2; simp only [Bool.and_eq_true,Bool.not_eq_true'] at h2; exact ⟨nm h2.1,nm h2.2⟩
 ·subst hp; exact h3
 ·subst hp;cases bs with
  | none => simp [apartC] at h3
  | some l =>
    simp only [apartC,Bool.and_eq_true,Bool.not_eq_true'] at h3;exact ⟨l,rfl,nm h3.1,nm h3.2.1,nm h3.2.2⟩
theorem blk_app {H X : Heap} {b : Nat} (h : b < H.length) : blk (H ++ X) b = blk H b := by
 unfold blk; rw [List.getElem?_append_left h]
theorem boxIn_iff {b : Nat} : ∀ {l : List Nat},boxIn b l = true ↔ ∃ x ∈ l,x = b \/ isCell b x = true
 | [] => by simp [boxIn]
 | x :: r => by
   simp only [boxIn,Bool.or_eq_true,decide_eq_true_eq,boxIn_iff (l := r),List.mem_cons,exists_eq_or_imp];exact ⟨fun h => h.elim (fun h => .inl (.inl h)) (fun h => h.elim (fun h => .inl (.inr h)) .inr),fun h => h.elim (fun h => h.elim .inl (fun h => .inr (.inl h))) (fun h => .inr (.inr h))⟩
theorem boxIn_sub {b : Nat} {l l' : List Nat} (h : ∀ x ∈ l,x ∈ l') (hb : boxIn b l' = false) : boxIn b l = false := by
 cases e : boxIn b l with
 | false => rfl
 | true =>
   obtain ⟨x,h1,h2⟩ := boxIn_iff.1 e;rw [boxIn_iff.2 ⟨x,h x h1,h2⟩] at hb;cases hb
theorem boxIn_cell {b : Nat} {l : List Nat} (h : boxIn b l = false) : b ∉ l /\ ∀ j,cellN b j ∉ l := by
 refine ⟨fun hb => ?_,fun j hb => ?_⟩
 ·rw [boxIn_iff.2 ⟨b,hb,.inl rfl⟩] at h; cases h
 ·rw [boxIn_iff.2 ⟨_,hb,.inr (by
   unfold isCell cellN CELLM;simp only [Bool.and_eq_true,decide_eq_true_eq];refine ⟨by omega,by omega,?_⟩;rw [Nat.add_sub_cancel_left];exact Nat.mul_mod_left _ _)⟩] at h
  cases h
theorem SeenC.of_eq {b j : Nat} {s t : St} (h : blk t.H b = blk s.H b) : SeenC b j s t := fun cs hc => ⟨cs,by rw [h]; exact hc,rfl⟩
theorem comm_calm (HC : CalmAll c call) (HW : WrAll c call) (HL : LwAll c call) {s s1 s2 u1 u2 : St} {x y : O} {f g f1 g1 : Fq} {vx vy : AV} (hx : Ev c call s x vx u1 f1) (hfx : cwF (relab s.env x.dst f1) = true) (hlx : LeF (relab s.env x.dst f1) f) (hs1 : Same s1 (putO u1 x.dst vx)) (hy : Ev c call s1 y vy u2 g1) (hgy : cwF (relab s1.env y.dst g1) = true) (hly : LeF (relab s1.env y.dst g1) g) (hs2 : Same s2 (putO u2 y.dst vy)) (hcx : calm f1 = true) (hcy : calm g1 = true) (hap : apartO x y = true) (hok : okPair x f y g = true) :
  ∃ s1',TS c call s y g s1' /\ TS c call s1' x f s2 := by
 obtain ⟨ax,ay⟩ := apart_of hap;simp only [okPair,Bool.and_eq_true] at hok;obtain ⟨⟨hok,hd1,hd2⟩,_⟩ := hok;obtain ⟨cf,cg⟩ := ok_cw hok;obtain ⟨X,hX⟩ := HC _ _ _ _ _ hx hcx;obtain ⟨Y,hY⟩ := HC _ _ _ _ _ hy hcy;obtain ⟨r1,r2,r3,_⟩ := relab_calm hfx hcx;obtain ⟨q1,q2,q3,_⟩ := relab_calm hgy hcy
 have nwx : ∀ sl bs,relab s.env x.dst f1 ≠ .wr sl bs := fun sl bs e => by
  have := relab_cw hfx;unfold relab at e;cases f1 <;> simp [calm] at hcx <;> (repeat' split at e) <;> simp_all
 have nwy : ∀ sl bs,relab s1.env y.dst g1 ≠ .wr sl bs := fun sl bs e => by
  unfold relab at e;cases g1 <;> simp [calm] at hcy <;> (repeat' split at e) <;> simp_all
 have ef : relab s.env x.dst f1 = f := hlx.cw cf nwx;have eg : relab s1.env y.dst g1 = g := hly.cw cg nwy;have g1s : ∀ i,get s1.env i = if x.dst = some i then vx else get s.env i := fun i => by rw [hs1.1,putO_get,hX.st.1]
 have H1 : s1.H = s.H ++ X := by rw [hs1.2,putO_H,hX.st.2]
 have dxy : ∀ i,x.dst = some i -> y.dst ≠ some i := fun i h => (ax i h).2
 -- y from s
 have yr : ∀ i ∈ y.reads,get s.env i = get s1.env i := fun i hi => by
  rw [g1s,if_neg];intro e;exact (ax i e).1 hi
 have yseen : ∀ ps,g1 = .rd ps -> Seen ps s1 s := fun ps hps => by
  have hps' : rdsF g = ps := by rw [<- eg,q1,hps]; rfl
  refine Seen.mk' fun p hp => ⟨fun i e => ?_,fun i j e => ?_,fun b j e => ?_⟩
  ·rw [g1s,if_neg];intro e2;have := dstOff_get hd1 cg i e2;rw [hps'] at this;exact (notSlot_get this p hp).1 i e rfl
  ·rw [g1s,if_neg];intro e2;have := dstOff_get hd1 cg i e2;rw [hps'] at this;exact (notSlot_get this p hp).2 i j e rfl
  ·subst e;rw [H1];rcases hX.nw with ⟨e,_⟩ | ⟨z,e,e2⟩
   ·rw [e]; simp
   ·have := ok_old hok (by rw [<- ef]; exact r2 _ e2);rw [hps'] at this;exact (blk_app (oldBoxes_get this b j hp)).symm
 have yseen : SeenF g1 s1 s := ⟨yseen,fun b j hg => by
  refine .of_eq ?_;rw [H1];rcases hX.nw with ⟨e,_⟩ | ⟨z,e,e2⟩
  ·rw [e]; simp
  ·have := ok_old hok (by rw [<- ef]; exact r2 _ e2);rw [show rdsF g = [.c b 0] by rw [<- eg,q1,hg]; rfl] at this;exact (blk_app (oldBoxes_get this b 0 (by simp))).symm⟩
 have yal : ∀ n,g1 = .al n -> s.H.length = n := fun n hn => by
  rcases hX.nw with ⟨e,_⟩ | ⟨z,e,e2⟩
  ·rcases hY.nw with ⟨e3,e4⟩ | ⟨z3,e3,e4⟩
   ·exact absurd hn (e4 n)
   ·rw [e4] at hn; cases hn; rw [H1,e]; simp
  ·exfalso;exact ok_al hok (by rw [<- ef]; exact r2 _ e2) (by rw [<- eg]; exact q2 n hn)
 have hy' := hY.go s (fun i hi => by rw [yr i hi]) yseen yal
 have gy : ∀ i,y.dst = some i -> get s1.env i = get s.env i := fun i hi => by
  rw [g1s,if_neg];intro e;exact dxy i e hi
 have ryy : relab s.env y.dst g1 = relab s1.env y.dst g1 := relab_get fun i hi => (gy i hi).symm;refine ⟨putO ⟨s.env,s.H ++ Y⟩ y.dst vy,TS.mk HC HW HL hy' (by rw [ryy]; exact hgy) (by rw [ryy]; exact hly) Same.rfl',?_⟩
 -- x from there
 generalize ht : putO ⟨s.env,s.H ++ Y⟩ y.dst vy = t;have gt : ∀ i,get t.env i = if y.dst = some i then vy else get s.env i := fun i => by rw [<- ht,putO_get]
 have Ht : t.H = s.H ++ Y := by rw [<- ht,putO_H]
 have Hl : s.H.length <= s1.H.length := by rw [H1]; simp
 have xr : ∀ i ∈ x.reads,get t.env i = get s.env i := fun i hi => by
  rw [gt,if_neg];intro e;exact (ay i e).1 hi
 have xseen : ∀ ps,f1 = .rd ps -> Seen ps s t := fun ps hps => by
  have hps' : rdsF f = ps := by rw [<- ef,r1,hps]; rfl
  refine Seen.mk' fun p hp => ⟨fun i e => ?_,fun i j e => ?_,fun b j e => ?_⟩
  ·rw [gt,if_neg];intro e2;have := dstOff_get hd2 cf i e2;rw [hps'] at this;exact (notSlot_get this p hp).1 i e rfl
  ·rw [gt,if_neg];intro e2;have := dstOff_get hd2 cf i e2;rw [hps'] at this;exact (notSlot_get this p hp).2 i j e rfl
  ·subst e;rw [Ht];rcases hY.nw with ⟨e,_⟩ | ⟨z,e,e2⟩
   ·rw [e]; simp
   ·have h6 := ok_old' hok (by rw [<- eg]; exact q2 _ e2);rw [hps'] at h6;have h7 := oldBoxes_get h6 b j hp;rcases hX.nw with ⟨e3,_⟩ | ⟨z3,e3,e4⟩
    ·rw [H1,e3] at h7;exact blk_app (by simpa using h7)
    ·rw [hps] at e4; cases e4
 have xseen : SeenF f1 s t := ⟨xseen,fun b j hg => by
  refine .of_eq ?_;rw [Ht];rcases hY.nw with ⟨e,_⟩ | ⟨z,e,e2⟩
  ·rw [e]; simp
  ·have h6 := ok_old' hok (by rw [<- eg]; exact q2 _ e2);rw [show rdsF f = [.c b 0] by rw [<- ef,r1,hg]; rfl] at h6;have h7 := oldBoxes_get h6 b 0 (by simp);rcases hX.nw with ⟨e3,_⟩ | ⟨z3,e3,e4⟩
   ·rw [H1,e3] at h7;exact blk_app (by simpa using h7)
   ·rw [hg] at e4; cases e4⟩
 have xal : ∀ n,f1 = .al n -> t.H.length = n := fun n hn => by
  rcases hX.nw with ⟨_,e⟩ | ⟨z,e,e2⟩
  ·exact absurd hn (e n)
  ·rcases hY.nw with ⟨e3,_⟩ | ⟨z3,e3,e4⟩
   ·rw [Ht,e3]; rw [hn] at e2; cases e2; simp
   ·exfalso;exact ok_al hok (by rw [<- ef]; exact r2 _ hn) (by rw [<- eg]; exact q2 _ e4)
 have hx' := hX.go t (fun i hi => by rw [xr i hi]) xseen xal
 have gx : ∀ i,x.dst = some i -> get t.env i = get s.env i := fun i hi => by
  rw [gt,if_neg];exact dxy i hi
 have rxx : relab t.env x.dst f1 = relab s.env x.dst f1 := relab_get gx;refine TS.mk HC HW HL hx' (by rw [rxx]; exact hfx) (by rw [rxx]; exact hlx) ⟨fun i => ?_,?_⟩
 ·rw [hs2.1,putO_get,hY.st.1,putO_get];show (if y.dst = some i then vy else get s1.env i) = (if x.dst = some i then vx else get t.env i);rw [g1s,gt];by_cases e1 : x.dst = some i
  ·have := dxy i e1;simp [e1,this]
  ·simp [e1]
 ·rw [hs2.2,putO_H,hY.st.2,putO_H];show s1.H ++ Y = t.H ++ X;rw [H1,Ht];rcases hX.nw with ⟨e,_⟩ | ⟨z,e,e2⟩
  ·rw [e]; simp
  ·rcases hY.nw with ⟨e3,_⟩ | ⟨z3,e3,e4⟩
   ·rw [e3]; simp
   ·exact absurd (by rw [<- eg]; exact q2 _ e4) (ok_al hok (by rw [<- ef]; exact r2 _ e2))
theorem LeF.sub {sl sl' : List Nat} {bs bs' : Option (List Nat)} (h : LeF (.wr sl bs) (.wr sl' bs')) : ∀ i ∈ sl,i ∈ sl' := h.1
theorem LeF.wr_of {f : Fq} {sl : List Nat} {bs : Option (List Nat)} (h : LeF (.wr sl bs) f) (hc : cwF f = true) : ∃ sl' bs',f = .wr sl' bs' := by
 cases f <;> simp [LeF,cwF] at h hc ⊢
theorem ok_wr {f : Fq} {sl : List Nat} {bs : Option (List Nat)} (h : f.ok (.wr sl bs) = true) : (∀ ps,f ≠ .bo ps) /\ (∀ n,f ≠ .al n) := by
 cases f <;> simp [Fq.ok] at h ⊢
theorem ok_wr' {f : Fq} {sl : List Nat} {bs : Option (List Nat)} (h : Fq.ok (.wr sl bs) f = true) : (∀ ps,f ≠ .bo ps) /\ (∀ n,f ≠ .al n) /\ ∀ sl bs,f ≠ .wr sl bs := by
 cases f <;> simp [Fq.ok] at h ⊢
theorem comm_cw (HC : CalmAll c call) (HW : WrAll c call) (HL : LwAll c call) {s s1 s2 u1 u2 : St} {x y : O} {f g f1 : Fq} {sl0 : List Nat} {bs0 : Option (List Nat)} {vx vy : AV} (hx : Ev c call s x vx u1 f1) (hfx : cwF (relab s.env x.dst f1) = true) (hlx : LeF (relab s.env x.dst f1) f) (hs1 : Same s1 (putO u1 x.dst vx)) (hy : Ev c call s1 y vy u2 (.wr sl0 bs0)) (hgy : cwF (relab s1.env y.dst (.wr sl0 bs0)) = true) (hly : LeF (relab s1.env y.dst (.wr sl0 bs0)) g) (hs2 : Same s2 (putO u2 y.dst vy)) (hcx : calm f1 = true) (hap : apartO x y = true) (hok : okPair x f y g = true) :
  ∃ s1',TS c call s y g s1' /\ TS c call s1' x f s2 := by
 obtain ⟨ax,ay⟩ := apart_of hap;simp only [okPair,Bool.and_eq_true] at hok;obtain ⟨⟨hok,hd1,hd2⟩,_,hw⟩ := hok;obtain ⟨cf,cg⟩ := ok_cw hok;obtain ⟨X,hX⟩ := HC _ _ _ _ _ hx hcx;obtain ⟨V,hV⟩ := HW _ _ _ _ _ _ hy;obtain ⟨r1,r2,r3,r4⟩ := relab_calm hfx hcx;obtain ⟨q1,q2⟩ := relab_wr hgy;rw [q1] at hly;obtain ⟨sl,bs,rfl⟩ := hly.wr_of cg;obtain ⟨o1,o2⟩ := ok_wr hok
 have nwx : ∀ sl bs,relab s.env x.dst f1 ≠ .wr sl bs := fun sl bs e => by
  unfold relab at e;cases f1 <;> simp [calm] at hcx <;> (repeat' split at e) <;> simp_all
 have ef : relab s.env x.dst f1 = f := hlx.cw cf nwx;obtain ⟨e1,hbx⟩ := r4 (fun ps e => o1 ps (ef ▸ e));have ef' : f1 = f := e1 ▸ ef
 have hX0 : X = [] := by
  rcases hX.nw with ⟨e,_⟩ | ⟨z,e,e2⟩
  ·exact e
  ·exact absurd (ef' ▸ e2) (o2 _)
 subst hX0;obtain ⟨w1,w2,w3,w4⟩ := wrOff_get hw;have sub : ∀ {i : Nat},i ∉ sl -> i ∉ sl0 := fun h hi => h (hly.sub _ hi);have dxy : ∀ i,x.dst = some i -> y.dst ≠ some i := fun i h => (ax i h).2;have g1s : ∀ i,get s1.env i = if x.dst = some i then vx else get s.env i := fun i => by rw [hs1.1,putO_get,hX.st.1]
 have H1 : s1.H = s.H := by rw [hs1.2,putO_H,hX.st.2]; simp
 -- y from s
 have hgo : ∃ t1 sl',Ev c call s y vy t1 (.wr sl' bs0) /\ (∀ i ∈ sl',i ∈ sl0) /\ (∀ i,get t1.env i = if x.dst = some i then get s.env i else get u2.env i) /\ t1.H = u2.H := by
  cases hd : x.dst with
  | none =>
    refine ⟨u2,sl0,hy.same ⟨fun i => ?_,H1⟩ Same.rfl',fun i hi => hi,fun i => by simp,rfl⟩;rw [g1s,hd]; simp
  | some d =>
    obtain ⟨t1,sl',h1,h2,h3⟩ := hV.go d (get s.env d) (fun h => (ax d hd).1 h) (sub (w2 d hd).1) (sub (w2 d hd).2) (fun p hp => by rw [hbx d hd] at hp; simp at hp);refine ⟨t1,sl',h1.same ⟨fun i => ?_,H1⟩ Same.rfl',h2,fun i => ?_,h3.2⟩
    ·show get (put s1.env d (get s.env d)) i = get s.env i;rw [get_put];split
     ·rename_i e; rw [e]
     ·rename_i e;rw [g1s,hd,if_neg];simp; exact fun h => e h.symm
    ·rw [h3.1];show get (put u2.env d (get s.env d)) i = _;rw [get_put];by_cases e : i = d
     ·subst e; simp
     ·have : d ≠ i := fun h => e h.symm;simp [e,this]
 obtain ⟨t1,sl',hy',hsl',gt1,Ht1⟩ := hgo
 have gy : ∀ i,y.dst = some i -> get s1.env i = get s.env i := fun i hi => by
  rw [g1s,if_neg];intro e;exact dxy i e hi
 have ryy : relab s.env y.dst (.wr sl' bs0) = .wr sl' bs0 := relab_of_wr (sl' := sl') (bs' := bs0) (e' := s.env) fun i hi => by rw [<- gy i hi]; exact q2 i hi
 have ley : LeF (.wr sl' bs0) (.wr sl bs) := ⟨fun i hi => hly.1 i (hsl' i hi),hly.2⟩;refine ⟨putO t1 y.dst vy,TS.mk HC HW HL hy' (by rw [ryy]; rfl) (by rw [ryy]; exact ley) Same.rfl',?_⟩;generalize ht : putO t1 y.dst vy = t;have gt : ∀ i,get t.env i = if y.dst = some i then vy else if x.dst = some i then get s.env i else get u2.env i := fun i => by rw [<- ht,putO_get,gt1]
 have Ht : t.H = u2.H := by rw [<- ht,putO_H,Ht1]
 have away : ∀ i,i ∉ sl -> i + BIGB ∉ sl -> y.dst ≠ some i -> get t.env i = get s.env i := fun i hi hi2 hd => by
  rw [gt,if_neg hd];split
  ·rfl
  ·rename_i e;rw [hV.env i (sub hi) (sub hi2),g1s,if_neg e]
 have awayH : ∀ i,i ∉ sl -> y.dst ≠ some i -> lend i (get t.env i) = lend i (get s.env i) := fun i hi hd => by
  rw [gt,if_neg hd];split
  ·rfl
  ·rename_i e;rw [hV.hd i (sub hi),g1s,if_neg e]
 have xr : ∀ i ∈ x.reads,lend i (get t.env i) = lend i (get s.env i) := fun i hi => awayH i (w1 i hi) fun e => (ay i e).1 hi
 have xseen : ∀ ps,f1 = .rd ps -> Seen ps s t := fun ps hps => by
  have hps' : f = .rd ps := by rw [<- ef']; exact hps
  refine Seen.mk' fun p hp => ?_;obtain ⟨a1,a2,a3⟩ := apartR_get (w3 ps hps') p hp
  have ns : ∀ i,y.dst = some i -> (∀ k,p = .s k -> k ≠ i) /\ ∀ k j,p = .sc k j -> k ≠ i := fun i hi => by
   have := dstOff_get hd2 cf i hi;rw [hps'] at this;exact notSlot_get this p hp
  refine ⟨fun i e => away i (a1 i e).1 (a1 i e).2 fun h => (ns i h).1 i e rfl,fun i j e => away i (a2 i j e).1 (a2 i j e).2 fun h => (ns i h).2 i j e rfl,fun b j e => ?_⟩;obtain ⟨l,e5,e6,_⟩ := a3 b j e;subst e5;have h8 := hly.2;cases bs0 with
  | none => simp at h8
  | some l0 =>
    rw [Ht,hV.heap l0 rfl b (boxIn_sub h8 e6),H1]
 have xseen : SeenF f1 s t := ⟨xseen,fun b j hps => by
  have hps' : f = .rc b j := by rw [<- ef']; exact hps
  obtain ⟨l,e5,e6,e7,e8⟩ := w4 b j hps';subst e5;have h8 := hly.2;cases bs0 with
  | none => simp at h8
  | some l0 =>
    have h9 := (hV.cell l0 rfl b j (fun h => e6 (h8 b h)) (fun h => e8 (h8 _ h))).1;intro cs hc;rw [<- H1] at hc;rw [Ht];exact h9 cs hc⟩
 have xal : ∀ n,f1 = .al n -> t.H.length = n := fun n hn => absurd (ef' ▸ hn) (o2 n);have hx' := hX.go t xr xseen xal;have gx : ∀ i,x.dst = some i -> get t.env i = get s.env i := fun i hi => away i (w2 i hi).1 (w2 i hi).2 (dxy i hi);have rxx : relab t.env x.dst f1 = relab s.env x.dst f1 := relab_get gx;refine TS.mk HC HW HL hx' (by rw [rxx]; exact hfx) (by rw [rxx]; exact hlx) ⟨fun i => ?_,?_⟩
 ·rw [hs2.1,putO_get,putO_get];show (if y.dst = some i then vy else get u2.env i) = (if x.dst = some i then vx else get t.env i);rw [gt];by_cases e1 : x.dst = some i
  ·have := dxy i e1;simp only [e1,this,if_true,if_false];rw [hV.env i (sub (w2 i e1).1) (sub (w2 i e1).2),g1s,if_pos e1]
  ·simp [e1]
 ·rw [hs2.2,putO_H,putO_H];show u2.H = t.H ++ [];rw [Ht]; simp
theorem comm_wc (HC : CalmAll c call) (HW : WrAll c call) (HL : LwAll c call) {s s1 s2 u1 u2 : St} {x y : O} {f g g1 : Fq} {sl0 : List Nat} {bs0 : Option (List Nat)} {vx vy : AV} (hx : Ev c call s x vx u1 (.wr sl0 bs0)) (hfx : cwF (relab s.env x.dst (.wr sl0 bs0)) = true) (hlx : LeF (relab s.env x.dst (.wr sl0 bs0)) f) (hs1 : Same s1 (putO u1 x.dst vx)) (hy : Ev c call s1 y vy u2 g1) (hgy : cwF (relab s1.env y.dst g1) = true) (hly : LeF (relab s1.env y.dst g1) g) (hs2 : Same s2 (putO u2 y.dst vy)) (hcy : calm g1 = true) (hap : apartO x y = true) (hok : okPair x f y g = true) :
  ∃ s1',TS c call s y g s1' /\ TS c call s1' x f s2 := by
 obtain ⟨ax,ay⟩ := apart_of hap;simp only [okPair,Bool.and_eq_true] at hok;obtain ⟨⟨hok,hd1,hd2⟩,hw,_⟩ := hok;obtain ⟨cf,cg⟩ := ok_cw hok;obtain ⟨V,hV⟩ := HW _ _ _ _ _ _ hx;obtain ⟨Y,hY⟩ := HC _ _ _ _ _ hy hcy;obtain ⟨r1,r2⟩ := relab_wr hfx;obtain ⟨q1,q2,q3,q4⟩ := relab_calm hgy hcy;rw [r1] at hlx;obtain ⟨sl,bs,rfl⟩ := hlx.wr_of cf;obtain ⟨o1,o2,_⟩ := ok_wr' hok
 have nwy : ∀ sl bs,relab s1.env y.dst g1 ≠ .wr sl bs := fun sl bs e => by
  unfold relab at e;cases g1 <;> simp [calm] at hcy <;> (repeat' split at e) <;> simp_all
 have eg : relab s1.env y.dst g1 = g := hly.cw cg nwy;obtain ⟨e1,_⟩ := q4 (fun ps e => o1 ps (eg ▸ e));have eg' : g1 = g := e1 ▸ eg
 have hY0 : Y = [] := by
  rcases hY.nw with ⟨e,_⟩ | ⟨z,e,e2⟩
  ·exact e
  ·exact absurd (eg' ▸ e2) (o2 _)
 subst hY0;obtain ⟨w1,w2,w3,w4⟩ := wrOff_get hw;have sub : ∀ {i : Nat},i ∉ sl -> i ∉ sl0 := fun h hi => h (hlx.sub _ hi);have dxy : ∀ i,x.dst = some i -> y.dst ≠ some i := fun i h => (ax i h).2;have g1s : ∀ i,get s1.env i = if x.dst = some i then vx else get u1.env i := fun i => by rw [hs1.1,putO_get]
 have H1 : s1.H = u1.H := by rw [hs1.2,putO_H]
 have away : ∀ i,i ∉ sl -> i + BIGB ∉ sl -> x.dst ≠ some i -> get s.env i = get s1.env i := fun i hi hi2 hd => by rw [g1s,if_neg hd,hV.env i (sub hi) (sub hi2)]
 have awayH : ∀ i,i ∉ sl -> x.dst ≠ some i -> lend i (get s.env i) = lend i (get s1.env i) := fun i hi hd => by rw [g1s,if_neg hd,hV.hd i (sub hi)]
 have cellO : ∀ b j,g1 = .rc b j -> ∃ l,bs0 = some l /\ b ∉ l /\ b + BIGB ∉ l /\ cellN b j ∉ l := fun b j hps => by
  obtain ⟨l,e5,e6,e7,e8⟩ := w4 b j (by rw [<- eg']; exact hps);subst e5;have h8 := hlx.2;cases bs0 with
  | none => simp at h8
  | some l0 => exact ⟨l0,rfl,fun h => e6 (h8 b h),fun h => e7 (h8 _ h),fun h => e8 (h8 _ h)⟩
 have boxes : ∀ {ps : List Rt},g1 = .rd ps -> ∀ b j,Rt.c b j ∈ ps -> ∃ l,bs0 = some l /\ boxIn b l = false /\ (j = 0 -> b + BIGB ∉ l) := fun {ps} hps b j hp => by
  have hps' : g = .rd ps := by rw [<- eg']; exact hps
  obtain ⟨_,_,a3⟩ := apartR_get (w3 ps hps') _ hp;obtain ⟨l,e5,e6,e7⟩ := a3 b j rfl;subst e5;have h8 := hlx.2;cases bs0 with
  | none => simp at h8
  | some l0 => exact ⟨l0,rfl,boxIn_sub h8 e6,fun e h => e7 e (h8 _ h)⟩
 have yr : ∀ i ∈ y.reads,lend i (get s.env i) = lend i (get s1.env i) := fun i hi => awayH i (w1 i hi) fun e => (ax i e).1 hi
 have yseen : ∀ ps,g1 = .rd ps -> Seen ps s1 s := fun ps hps => by
  have hps' : g = .rd ps := by rw [<- eg']; exact hps
  refine Seen.mk' fun p hp => ?_;obtain ⟨a1,a2,_⟩ := apartR_get (w3 ps hps') p hp
  have ns : ∀ i,x.dst = some i -> (∀ k,p = .s k -> k ≠ i) /\ ∀ k j,p = .sc k j -> k ≠ i := fun i hi => by
   have := dstOff_get hd1 cg i hi;rw [hps'] at this;exact notSlot_get this p hp
  refine ⟨fun i e => away i (a1 i e).1 (a1 i e).2 fun h => (ns i h).1 i e rfl,fun i j e => away i (a2 i j e).1 (a2 i j e).2 fun h => (ns i h).2 i j e rfl,fun b j e => ?_⟩;subst e;obtain ⟨l,e5,e6,_⟩ := boxes hps b j hp;rw [H1,hV.heap l e5 b e6]
 have yseen : SeenF g1 s1 s := ⟨yseen,fun b j hps => by
  obtain ⟨l,e5,e6,e7,e8⟩ := cellO b j hps;intro cs hc;rw [H1] at hc;exact (hV.cell l e5 b j e6 e8).2 cs hc⟩
 have yal : ∀ n,g1 = .al n -> s.H.length = n := fun n hn => absurd (eg' ▸ hn) (o2 n);have hy' := hY.go s yr yseen yal;have gy : ∀ i,y.dst = some i -> get s1.env i = get s.env i := fun i hi => (away i (w2 i hi).1 (w2 i hi).2 (fun e => dxy i e hi)).symm;have ryy : relab s.env y.dst g1 = relab s1.env y.dst g1 := relab_get fun i hi => (gy i hi).symm;refine ⟨putO ⟨s.env,s.H ++ []⟩ y.dst vy,TS.mk HC HW HL hy' (by rw [ryy]; exact hgy) (by rw [ryy]; exact hly) Same.rfl',?_⟩
 have seenV : ∀ p ∈ borOf vy,¬ V p := by
  obtain ⟨Y',hYs⟩ := HC _ _ _ _ _ hy' hcy;refine hYs.val V (fun i hi => hV.v1 i (sub (w1 i hi))) (fun ps hps b hp cs hb => ?_) fun b j hps cs c0 hb hc => ?_
  ·obtain ⟨l0,e5,e6,e7⟩ := boxes hps b 0 hp;exact hV.v2 l0 e5 b e6 (e7 rfl) cs hb
  ·obtain ⟨l0,e5,e6,e7,e8⟩ := cellO b j hps;exact hV.v3 l0 e5 b j e6 e7 e8 cs c0 hb hc
 have hgo : ∃ t1 sl',Ev c call (putO ⟨s.env,s.H ++ []⟩ y.dst vy) x vx t1 (.wr sl' bs0) /\ (∀ i ∈ sl',i ∈ sl0) /\ Same t1 (putO u1 y.dst vy) := by
  cases hd : y.dst with
  | none => exact ⟨u1,sl0,hx.same ⟨fun i => rfl,by simp [putO]⟩ Same.rfl',fun i hi => hi,Same.rfl'⟩
  | some d =>
    obtain ⟨t1,sl',h1,h2,h3⟩ := hV.go d vy (fun h => (ay d hd).1 h) (sub (w2 d hd).1) (sub (w2 d hd).2) seenV;exact ⟨t1,sl',h1.same ⟨fun i => rfl,by simp [putO]⟩ Same.rfl',h2,h3⟩
 obtain ⟨t1,sl',hx',hsl',ht1⟩ := hgo;have gx : ∀ i,x.dst = some i -> get (putO ⟨s.env,s.H ++ []⟩ y.dst vy).env i = get s.env i := fun i hi => by rw [putO_get,if_neg (dxy i hi)]
 have rxx : relab (putO ⟨s.env,s.H ++ []⟩ y.dst vy).env x.dst (.wr sl' bs0) = .wr sl' bs0 := relab_of_wr (sl' := sl') (bs' := bs0) (e' := s.env) fun i hi => by rw [gx i hi]; exact r2 i hi
 have lex : LeF (.wr sl' bs0) (.wr sl bs) := ⟨fun i hi => hlx.1 i (hsl' i hi),hlx.2⟩;refine TS.mk HC HW HL hx' (by rw [rxx]; rfl) (by rw [rxx]; exact lex) ⟨fun i => ?_,?_⟩
 ·rw [hs2.1,putO_get,hY.st.1,putO_get,ht1.1,putO_get];show (if y.dst = some i then vy else get s1.env i) = (if x.dst = some i then vx else if y.dst = some i then vy else get u1.env i);rw [g1s];by_cases e1 : x.dst = some i
  ·have := dxy i e1;simp [e1,this]
  ·simp [e1]
 ·rw [hs2.2,putO_H,hY.st.2,putO_H,ht1.2,putO_H];show s1.H ++ [] = u1.H;rw [H1]; simp
theorem LeF.lw_of {f : Fq} {b : Nat} (h : LeF (.lw b) f) (hc : cwF f = true) : f = .lw b := by
 cases f <;> simp [LeF,cwF] at h hc ⊢
 exact h.symm
theorem ok_lw {f : Fq} {b : Nat} (h : f.ok (.lw b) = true) : (∀ ps,f ≠ .bo ps) /\ (∀ n,f = .al n -> b < n) /\ (∀ ps,f = .rd ps -> offBox b ps = true) /\ (∀ d j,f = .rc d j -> d ≠ b) /\ (∀ sl bs,f ≠ .wr sl bs) /\ ∀ d,f ≠ .lw d := by
 cases f <;> simp [Fq.ok] at h ⊢ <;> exact h
theorem ok_lw' {f : Fq} {b : Nat} (h : Fq.ok (.lw b) f = true) : (∀ ps,f ≠ .bo ps) /\ (∀ n,f = .al n -> b < n) /\ (∀ ps,f = .rd ps -> offBox b ps = true) /\ (∀ d j,f = .rc d j -> d ≠ b) /\ (∀ sl bs,f ≠ .wr sl bs) /\ ∀ d,f ≠ .lw d := by
 cases f <;> simp [Fq.ok] at h ⊢ <;> exact h
theorem offBox_get {b : Nat} : ∀ {ps : List Rt},offBox b ps = true -> ∀ d j,Rt.c d j ∈ ps -> d ≠ b
 | [],_,d,j,h => by simp at h
 | q :: r,h,d,j,hp => by
   rcases List.mem_cons.1 hp with e | e
   ·subst e; simp only [offBox,Bool.and_eq_true,decide_eq_true_eq] at h; exact h.1
   ·have h' : offBox b r = true := by cases q <;> simp only [offBox,Bool.and_eq_true] at h <;> first | exact h | exact h.2
    exact offBox_get h' d j e
theorem comm_cl (HC : CalmAll c call) (HW : WrAll c call) (HL : LwAll c call) {s s1 s2 u1 u2 : St} {x y : O} {f g f1 : Fq} {b : Nat} {vx vy : AV} (hx : Ev c call s x vx u1 f1) (hfx : cwF (relab s.env x.dst f1) = true) (hlx : LeF (relab s.env x.dst f1) f) (hs1 : Same s1 (putO u1 x.dst vx)) (hy : Ev c call s1 y vy u2 (.lw b)) (hgy : cwF (relab s1.env y.dst (.lw b)) = true) (hly : LeF (relab s1.env y.dst (.lw b)) g) (hs2 : Same s2 (putO u2 y.dst vy)) (hcx : calm f1 = true) (hap : apartO x y = true) (hok : okPair x f y g = true) :
  ∃ s1',TS c call s y g s1' /\ TS c call s1' x f s2 := by
 obtain ⟨ax,ay⟩ := apart_of hap;simp only [okPair,Bool.and_eq_true] at hok;obtain ⟨⟨hok,hd1,hd2⟩,_⟩ := hok;obtain ⟨cf,cg⟩ := ok_cw hok;obtain ⟨X,hX⟩ := HC _ _ _ _ _ hx hcx;obtain ⟨cs,cs',hY⟩ := HL _ _ _ _ _ hy;obtain ⟨r1,r2,r3,r4⟩ := relab_calm hfx hcx;obtain ⟨q1,q2⟩ := relab_lw hgy;have hly' := hly;rw [q1] at hly';have hg := hly'.lw_of cg;subst hg;obtain ⟨o1,o2,o3,o4,_,_⟩ := ok_lw hok
 have nwx : ∀ sl bs,relab s.env x.dst f1 ≠ .wr sl bs := fun sl bs e => by
  unfold relab at e;cases f1 <;> simp [calm] at hcx <;> (repeat' split at e) <;> simp_all
 have ef : relab s.env x.dst f1 = f := hlx.cw cf nwx;obtain ⟨e1,_⟩ := r4 (fun ps e => o1 ps (ef ▸ e));have ef' : f1 = f := e1 ▸ ef;subst ef';have g1s : ∀ i,get s1.env i = if x.dst = some i then vx else get s.env i := fun i => by rw [hs1.1,putO_get,hX.st.1]
 have H1 : s1.H = s.H ++ X := by rw [hs1.2,putO_H,hX.st.2]
 have dxy : ∀ i,x.dst = some i -> y.dst ≠ some i := fun i h => (ax i h).2
 have blt : b < s.H.length := by
  have h1 := blk_lt hY.bl;rcases hX.nw with ⟨e,_⟩ | ⟨z,e,e2⟩
  ·rw [H1,e] at h1; simpa using h1
  ·exact o2 _ e2
 have hbs : blk s.H b = some cs := by
  have h1 := hY.bl;rw [H1,blk_app blt] at h1;exact h1
 have yr : ∀ i ∈ y.reads,get s.env i = get s1.env i := fun i hi => by
  rw [g1s,if_neg];intro e;exact (ax i e).1 hi
 have hy' := hY.go s yr hbs
 have gy : ∀ i,y.dst = some i -> get s1.env i = get s.env i := fun i hi => by
  rw [g1s,if_neg];intro e;exact dxy i e hi
 have ryy : relab s.env y.dst (.lw b) = relab s1.env y.dst (.lw b) := relab_get fun i hi => (gy i hi).symm;refine ⟨putO ⟨s.env,s.H.set b (some cs')⟩ y.dst vy,TS.mk HC HW HL hy' (by rw [ryy]; exact hgy) (by rw [ryy]; exact hly) Same.rfl',?_⟩;generalize ht : putO ⟨s.env,s.H.set b (some cs')⟩ y.dst vy = t;have gt : ∀ i,get t.env i = if y.dst = some i then vy else get s.env i := fun i => by rw [<- ht,putO_get]
 have Ht : t.H = s.H.set b (some cs') := by rw [<- ht,putO_H]
 have xr : ∀ i ∈ x.reads,get t.env i = get s.env i := fun i hi => by
  rw [gt,if_neg];intro e;exact (ay i e).1 hi
 have hbx : ∀ d,d ≠ b -> blk t.H d = blk s.H d := fun d hd => by rw [Ht,blk_set,if_neg (fun h => hd h.1)]
 have xseen : SeenF f1 s t := by
  refine ⟨fun ps hps => Seen.mk' fun p hp => ⟨fun i e => ?_,fun i j e => ?_,fun d j e => ?_⟩,fun d j hf => .of_eq (hbx d (o4 d j hf))⟩
  ·rw [gt,if_neg];intro e2;have := dstOff_get hd2 cf i e2;rw [hps] at this;exact (notSlot_get (show notSlot i ps = true from this) p hp).1 i e rfl
  ·rw [gt,if_neg];intro e2;have := dstOff_get hd2 cf i e2;rw [hps] at this;exact (notSlot_get (show notSlot i ps = true from this) p hp).2 i j e rfl
  ·subst e;exact hbx d (offBox_get (o3 ps hps) d j hp)
 have xal : ∀ n,f1 = .al n -> t.H.length = n := fun n hn => by
  rcases hX.nw with ⟨_,e⟩ | ⟨z,e,e2⟩
  ·exact absurd hn (e n)
  ·rw [hn] at e2; cases e2; rw [Ht]; simp
 have hx' := hX.go t (fun i hi => by rw [xr i hi]) xseen xal
 have gx : ∀ i,x.dst = some i -> get t.env i = get s.env i := fun i hi => by
  rw [gt,if_neg];exact dxy i hi
 have rxx : relab t.env x.dst f1 = relab s.env x.dst f1 := relab_get gx;refine TS.mk HC HW HL hx' (by rw [rxx]; exact hfx) (by rw [rxx]; exact hlx) ⟨fun i => ?_,?_⟩
 ·rw [hs2.1,putO_get,hY.st.1,putO_get];show (if y.dst = some i then vy else get s1.env i) = if x.dst = some i then vx else get t.env i;rw [g1s,gt];by_cases h1 : x.dst = some i
  ·simp [h1,dxy i h1]
  ·simp [h1]
 ·rw [hs2.2,putO_H,hY.st.2,putO_H];show s1.H.set b (some cs') = t.H ++ X;rw [H1,Ht,List.set_append_left _ _ blt]
theorem comm_lc (HC : CalmAll c call) (HW : WrAll c call) (HL : LwAll c call) {s s1 s2 u1 u2 : St} {x y : O} {f g g1 : Fq} {b : Nat} {vx vy : AV} (hx : Ev c call s x vx u1 (.lw b)) (hfx : cwF (relab s.env x.dst (.lw b)) = true) (hlx : LeF (relab s.env x.dst (.lw b)) f) (hs1 : Same s1 (putO u1 x.dst vx)) (hy : Ev c call s1 y vy u2 g1) (hgy : cwF (relab s1.env y.dst g1) = true) (hly : LeF (relab s1.env y.dst g1) g) (hs2 : Same s2 (putO u2 y.dst vy)) (hcy : calm g1 = true) (hap : apartO x y = true) (hok : okPair x f y g = true) :
  ∃ s1',TS c call s y g s1' /\ TS c call s1' x f s2 := by
 obtain ⟨ax,ay⟩ := apart_of hap;simp only [okPair,Bool.and_eq_true] at hok;obtain ⟨⟨hok,hd1,hd2⟩,_⟩ := hok;obtain ⟨cf,cg⟩ := ok_cw hok;obtain ⟨cs,cs',hX⟩ := HL _ _ _ _ _ hx;obtain ⟨Y,hY⟩ := HC _ _ _ _ _ hy hcy;obtain ⟨q1,q2⟩ := relab_lw hfx;have hlx' := hlx;rw [q1] at hlx';have hf := hlx'.lw_of cf;subst hf;obtain ⟨o1,o2,o3,o4,_,_⟩ := ok_lw' hok;obtain ⟨r1,r2,r3,r4⟩ := relab_calm hgy hcy
 have nwy : ∀ sl bs,relab s1.env y.dst g1 ≠ .wr sl bs := fun sl bs e => by
  unfold relab at e;cases g1 <;> simp [calm] at hcy <;> (repeat' split at e) <;> simp_all
 have eg : relab s1.env y.dst g1 = g := hly.cw cg nwy;obtain ⟨e1,_⟩ := r4 (fun ps e => o1 ps (eg ▸ e));have eg' : g1 = g := e1 ▸ eg;subst eg';have g1s : ∀ i,get s1.env i = if x.dst = some i then vx else get s.env i := fun i => by rw [hs1.1,putO_get,hX.st.1]
 have H1 : s1.H = s.H.set b (some cs') := by rw [hs1.2,putO_H,hX.st.2]
 have dxy : ∀ i,x.dst = some i -> y.dst ≠ some i := fun i h => (ax i h).2;have blt : b < s.H.length := blk_lt hX.bl;have hbx : ∀ d,d ≠ b -> blk s.H d = blk s1.H d := fun d hd => by rw [H1,blk_set,if_neg (fun h => hd h.1)]
 have yr : ∀ i ∈ y.reads,get s.env i = get s1.env i := fun i hi => by
  rw [g1s,if_neg];intro e;exact (ax i e).1 hi
 have yseen : SeenF g1 s1 s := by
  refine ⟨fun ps hps => Seen.mk' fun p hp => ⟨fun i e => ?_,fun i j e => ?_,fun d j e => ?_⟩,fun d j hf => .of_eq (hbx d (o4 d j hf))⟩
  ·rw [g1s,if_neg];intro e2;have := dstOff_get hd1 cg i e2;rw [hps] at this;exact (notSlot_get (show notSlot i ps = true from this) p hp).1 i e rfl
  ·rw [g1s,if_neg];intro e2;have := dstOff_get hd1 cg i e2;rw [hps] at this;exact (notSlot_get (show notSlot i ps = true from this) p hp).2 i j e rfl
  ·subst e;exact hbx d (offBox_get (o3 ps hps) d j hp)
 have yal : ∀ n,g1 = .al n -> s.H.length = n := fun n hn => by
  rcases hY.nw with ⟨_,e⟩ | ⟨z,e,e2⟩
  ·exact absurd hn (e n)
  ·rw [hn] at e2; cases e2; rw [H1]; simp
 have hy' := hY.go s (fun i hi => by rw [yr i hi]) yseen yal
 have gy : ∀ i,y.dst = some i -> get s1.env i = get s.env i := fun i hi => by
  rw [g1s,if_neg];intro e;exact dxy i e hi
 have ryy : relab s.env y.dst g1 = relab s1.env y.dst g1 := relab_get fun i hi => (gy i hi).symm;refine ⟨putO ⟨s.env,s.H ++ Y⟩ y.dst vy,TS.mk HC HW HL hy' (by rw [ryy]; exact hgy) (by rw [ryy]; exact hly) Same.rfl',?_⟩;generalize ht : putO ⟨s.env,s.H ++ Y⟩ y.dst vy = t;have gt : ∀ i,get t.env i = if y.dst = some i then vy else get s.env i := fun i => by rw [<- ht,putO_get]
 have Ht : t.H = s.H ++ Y := by rw [<- ht,putO_H]
 have xr : ∀ i ∈ x.reads,get t.env i = get s.env i := fun i hi => by
  rw [gt,if_neg];intro e;exact (ay i e).1 hi
 have hx' := hX.go t xr (by rw [Ht,blk_app blt]; exact hX.bl)
 have gx : ∀ i,x.dst = some i -> get t.env i = get s.env i := fun i hi => by
  rw [gt,if_neg];exact dxy i hi
 have rxx : relab t.env x.dst (.lw b) = relab s.env x.dst (.lw b) := relab_get gx;refine TS.mk HC HW HL hx' (by rw [rxx]; exact hfx) (by rw [rxx]; exact hlx) ⟨fun i => ?_,?_⟩
 ·rw [hs2.1,putO_get,hY.st.1,putO_get];show (if y.dst = some i then vy else get s1.env i) = if x.dst = some i then vx else get t.env i;rw [g1s,gt];by_cases h1 : x.dst = some i
  ·simp [h1,dxy i h1]
  ·simp [h1]
 ·rw [hs2.2,putO_H,hY.st.2,putO_H];show s1.H ++ Y = t.H.set b (some cs');rw [H1,Ht,List.set_append_left _ _ blt]
theorem commTS (HC : CalmAll c call) (HW : WrAll c call) (HL : LwAll c call) : CommT (TS c call) := by
 intro s x f s1 y g s2 hx hy hap hok;have hok' := hok;simp only [okPair,Bool.and_eq_true] at hok';obtain ⟨cf,cg⟩ := ok_cw hok'.1.1;obtain ⟨vx,u1,f1,x1,x2,x3,x4⟩ := hx.out HC HW HL cf;obtain ⟨vy,u2,g1,y1,y2,y3,y4⟩ := hy.out HC HW HL cg;have c1 := relab_cw x2;have c2 := relab_cw y2;by_cases hcx : calm f1 = true
 ·by_cases hcy : calm g1 = true
  ·exact comm_calm HC HW HL x1 x2 x3 x4 y1 y2 y3 y4 hcx hcy hap hok
  ·cases g1 <;> simp [calm,cwF] at hcy c2
   case wr sl bs => exact comm_cw HC HW HL x1 x2 x3 x4 y1 y2 y3 y4 hcx hap hok
   case bo => exact absurd rfl (y1.fl _)
   case lw b => exact comm_cl HC HW HL x1 x2 x3 x4 y1 y2 y3 y4 hcx hap hok
 ·cases f1 <;> simp [calm,cwF] at hcx c1
  case wr sl bs =>
   by_cases hcy : calm g1 = true
   ·exact comm_wc HC HW HL x1 x2 x3 x4 y1 y2 y3 y4 hcy hap hok
   ·cases g1 <;> simp [calm,cwF] at hcy c2
    case wr sl' bs' =>
     exfalso;rw [(relab_wr x2).1] at x3;rw [(relab_wr y2).1] at y3;obtain ⟨_,_,rfl⟩ := x3.wr_of cf;obtain ⟨_,_,rfl⟩ := y3.wr_of cg;exact (ok_wr' hok'.1.1).2.2 _ _ rfl
    case bo => exact absurd rfl (y1.fl _)
    case lw b =>
     exfalso;rw [(relab_wr x2).1] at x3;rw [(relab_lw y2).1] at y3;obtain ⟨_,_,rfl⟩ := x3.wr_of cf;have := y3.lw_of cg;subst this;exact (ok_lw hok'.1.1).2.2.2.2.1 _ _ rfl
  case bo => exact absurd rfl (x1.fl _)
  case lw b =>
   by_cases hcy : calm g1 = true
   ·exact comm_lc HC HW HL x1 x2 x3 x4 y1 y2 y3 y4 hcy hap hok
   ·exfalso;rw [(relab_lw x2).1] at x3;have hf := x3.lw_of cf;subst hf;obtain ⟨_,_,_,_,o5,o6⟩ := ok_lw' hok'.1.1;cases g1 <;> simp [calm,cwF] at hcy c2
    case wr sl' bs' =>
     rw [(relab_wr y2).1] at y3;obtain ⟨_,_,rfl⟩ := y3.wr_of cg;exact o5 _ _ rfl
    case bo => exact absurd rfl (y1.fl _)
    case lw d =>
     rw [(relab_lw y2).1] at y3;exact o6 _ (y3.lw_of cg)
end
end Go.Bm

/- What the value of a calm operation mentions was read. -/
namespace Go.Bm
open Go.Am
section
variable {P : Program} {c : Cfg} {call : Nat -> List AV -> Heap -> Option (AV × Heap)} {V : Rt -> Prop}
def NoV (V : Rt -> Prop) (x : AV) : Prop := ∀ p ∈ borOf x,¬ V p
theorem mem_borL {p : Rt} : ∀ {cs : List AV},p ∈ borL cs ↔ ∃ x ∈ cs,p ∈ borOf x
 | [] => by simp [borL]
 | x :: r => by simp [borL,mem_borL (cs := r)]
theorem lendC_bor {f : Nat -> Rt} {p : Rt} : ∀ {cs : List AV} {j : Nat},p ∈ borL (lendC f j cs) -> p ∈ borL cs \/ ∃ i,p = f i
 | [],j,h => by simp [lendC,borL] at h
 | x :: r,j,h => by
   have ih := fun h => lendC_bor (f := f) (p := p) (cs := r) (j := j + 1) h;cases x <;> simp only [lendC,borL,borOf,List.mem_append,List.nil_append,List.mem_cons,List.not_mem_nil,or_false] at h ih ⊢
   case own k xs =>
    rcases h with h | h
    ·exact .inr ⟨j,h⟩
    ·exact ih h
   all_goals first
    | exact ih h
    | (rcases h with h | h
       ·exact .inl (.inl h)
       ·rcases ih h with h | h
        ·exact .inl (.inr h)
        ·exact .inr h)
theorem lend_bor {i : Nat} {x : AV} {p : Rt} (h : p ∈ borOf (lend i x)) : p ∈ borOf x \/ p = .s i \/ ∃ j,p = .sc i j := by
 cases x <;> simp only [lend] at h
 case own k xs => simp [borOf] at h; exact .inr (.inl h)
 case agg cs =>
  simp only [borOf] at h ⊢;rcases lendC_bor h with h | h
  ·exact .inl h
  ·exact .inr (.inr h)
 all_goals exact .inl h
def RdOK (V : Rt -> Prop) (env : Env) (l : List Nat) : Prop := ∀ i ∈ l,(∀ p ∈ borOf (get env i),¬ V p) /\ ¬ V (.s i) /\ ∀ j,¬ V (.sc i j)
theorem RdOK.left {env : Env} {l m : List Nat} (h : RdOK V env (l ++ m)) : RdOK V env l := fun i hi => h i (by simp [hi])
theorem RdOK.right {env : Env} {l m : List Nat} (h : RdOK V env (l ++ m)) : RdOK V env m := fun i hi => h i (by simp [hi])
theorem opnd_nv {env : Env} {x : E} (hk : kE x = true) (h : RdOK V env x.slot) : NoV V (opnd c env x) := by
 intro p hp;cases x with
 | t i =>
   simp only [opnd] at hp;obtain ⟨h1,h2,h3⟩ := h i (by simp [E.slot]);rcases lend_bor hp with e | e | ⟨j,e⟩
   ·exact h1 p e
   ·subst e; exact h2
   ·subst e; exact h3 j
 | k x => simp only [opnd] at hp; simp only [kE,List.isEmpty_iff] at hk; rw [hk] at hp; simp at hp
 | g i => simp [opnd,borOf] at hp
theorem opnds_nv {env : Env} : ∀ {xs : List E},kEs xs = true -> RdOK V env (slots xs) -> ∀ p ∈ borL (opnds c env xs),¬ V p
 | [],_,_,p,hp => by simp [opnds,borL] at hp
 | x :: r,hk,h,p,hp => by
   simp only [kEs,Bool.and_eq_true] at hk;simp only [slots] at h;simp only [opnds,borL,List.mem_append] at hp;rcases hp with hp | hp
   ·exact opnd_nv hk.1 h.left p hp
   ·exact opnds_nv hk.2 h.right p hp
theorem NoV.cells {x : AV} (h : NoV V x) : ∀ d ∈ x.cells,NoV V d := by
 intro d hd p hp;by_cases ha : ∃ cs,x = .agg cs
 ·obtain ⟨cs,rfl⟩ := ha;exact h p (by simp only [borOf]; exact mem_borL.2 ⟨d,hd,hp⟩)
 ·have : x.cells = [x] := by cases x <;> first | rfl | exact absurd ⟨_,rfl⟩ ha
  rw [this] at hd;simp at hd;subst hd;exact h p hp
theorem fillB_nv {env : Env} : ∀ {ps : List (Nat × Nat × E)} {zs cs : List AV},kPs ps = true -> RdOK V env (slotsP ps) -> (∀ d ∈ zs,NoV V d) -> fillB c env zs ps = some cs -> ∀ d ∈ cs,NoV V d
 | [],zs,cs,_,_,hz,hf => by simp [fillB] at hf; subst hf; exact hz
 | (o,n,x) :: r,zs,cs,hk,h,hz,hf => by
   simp only [kPs,Bool.and_eq_true] at hk;simp only [slotsP] at h;simp only [fillB] at hf;split at hf
   case isFalse => cases hf
   refine fillB_nv hk.2 h.right (fun d hd => ?_) hf;unfold ovw at hd;simp only [List.mem_append] at hd;rcases hd with (hd | hd) | hd
   ·exact hz d (List.mem_of_mem_take hd)
   ·exact (opnd_nv hk.1 h.left).cells d hd
   ·exact hz d (List.mem_of_mem_drop hd)
theorem rdc_nv {ag : Option Nat} {cs : List AV} {v : AV} (h : ∀ d ∈ cs,NoV V d) (hv : rdc ag cs = some v) : NoV V v := by
 unfold rdc at hv;split at hv
 ·split at hv
  ·simp at hv; subst hv;intro p hp;simp only [borOf] at hp;obtain ⟨d,hd,hp⟩ := mem_borL.1 hp;exact h d (List.mem_of_mem_take hd) p hp
  ·cases hv
 ·exact h v (List.mem_of_mem_head? hv)
theorem rdN_nv {ag : Option Nat} {cs : List AV} {v : AV} (h : ∀ d ∈ cs,NoV V d) (hv : rdN ag cs = some v) : NoV V v := by
 unfold rdN at hv;split at hv
 ·rename_i u hu;split at hv
  ·cases hv
  ·simp at hv; subst hv; exact rdc_nv h hu
 ·cases hv
theorem NoV.nil {v : AV} (h : borOf v = []) : NoV V v := fun p hp => by rw [h] at hp; simp at hp
theorem binA_bor {op : BinOp} {x y v : AV} (h : binA op x y = some v) : borOf v = [] := by
 unfold binA at h;split at h
 ·split at h
  ·split at h <;> simp at h; subst h; rfl
  ·split at h <;> simp at h; subst h; rfl
  ·split at h
   ·unfold arith at h
    split at h <;> first
     | (simp at h; subst h; rfl)
     | (split at h <;> simp at h <;> (subst h; rfl))
     | cases h
   ·cases h
 ·cases h
theorem unA_bor {op : UnOp} {x v : AV} (h : unA op x = some v) : borOf v = [] := by
 unfold unA at h;split at h <;> simp at h <;> (subst h; rfl)
theorem minF_bor {mx : Bool} : ∀ {r : List AV} {k : IntKind} {a : Int} {v : AV},minF mx (.int k a) r = some v -> borOf v = []
 | [],k,a,v,h => by simp [minF] at h; subst h; rfl
 | y :: r,k,a,v,h => by
   cases y <;> simp only [minF] at h <;> try (cases h; done)
   exact minF_bor h
theorem minA_bor {mx : Bool} {l : List AV} {v : AV} (h : minA mx l = some v) : borOf v = [] := by
 unfold minA at h;split at h
 ·exact minF_bor h
 ·cases h
theorem opP_nv {env : Env} {kd : Kd} {v : AV} (hv : opP c env kd = some v) (hk : konst kd = true) (h : RdOK V env kd.reads) : NoV V v := by
 cases kd <;> simp only [opP] at hv <;> simp only [konst,Bool.and_eq_true] at hk <;> simp only [Kd.reads] at h
 case mv x => simp at hv; subst hv; exact opnd_nv hk h
 case pick t a b =>
  split at hv
  ·simp at hv; subst hv;split
   ·exact opnd_nv hk.2.1 h.right.left
   ·exact opnd_nv hk.2.2 h.right.right
  ·cases hv
 case build zs ps =>
  split at hv
  ·rename_i cs hf;simp at hv; subst hv
   have hz : ∀ d ∈ zs,NoV V d := fun d hd p hp => by
    have := mem_borL.2 ⟨d,hd,hp⟩;rw [List.isEmpty_iff.1 hk.1] at this;simp at this
   intro p hp;simp only [borOf] at hp;obtain ⟨d,hd,hp⟩ := mem_borL.1 hp;exact fillB_nv hk.2 h hz hf d hd p hp
  ·cases hv
 case nilck x =>
  have ho := opnd_nv (c := c) hk h;split at hv
  ·simp at hv; subst hv; exact .nil rfl
  ·simp at hv; subst hv; exact .nil rfl
  ·rename_i e;simp at hv; subst hv;rw [e] at ho; exact ho
  ·cases hv
 case bin => exact .nil (binA_bor hv)
 case eq => split at hv <;> simp at hv; subst hv; exact .nil rfl
 case un => exact .nil (unA_bor hv)
 case cvt => split at hv <;> simp at hv; subst hv; exact .nil rfl
 case mkf fn a b =>
  split at hv
  ·cases hv
  ·simp at hv; subst hv;intro p hp;simp only [borOf,List.mem_append] at hp;rcases hp with hp | hp
   ·exact opnds_nv hk.1 h.left p hp
   ·exact opnds_nv hk.2 h.right p hp
 case slc k x lo hi =>
  have ho := opnd_nv (c := c) hk.1 h.left;split at hv
  case h_2 => cases hv
  split at hv
  case h_2 => cases hv
  split at hv
  case h_2 => cases hv
  split at hv
  ·split at hv <;> simp at hv; subst hv; exact .nil rfl
  ·split at hv <;> simp at hv; subst hv; exact .nil rfl
  ·rename_i e;rw [e] at ho;split at hv <;> simp at hv; subst hv
   intro p hp; exact ho p (by simpa [borOf] using hp)
  ·split at hv <;> simp at hv; subst hv; exact .nil rfl
  ·cases hv
 case asl n x hi =>
  cases hi with
  | some y => simp at hv
  | none =>
  (repeat' split at hv) <;> simp at hv
  obtain ⟨_,rfl⟩ := hv;exact .nil rfl
 case fad off x =>
  have ho := opnd_nv (c := c) hk h;split at hv
  ·simp at hv; subst hv; exact .nil rfl
  ·simp at hv; subst hv; exact .nil rfl
  ·rename_i e;rw [e] at ho;simp at hv; subst hv;intro p hp; exact ho p (by simpa [borOf] using hp)
  ·cases hv
 case fld off ag x =>
  have ho := opnd_nv (c := c) hk h;split at hv
  ·rename_i cs e;rw [e] at ho;exact rdN_nv (fun d hd p hp => ho p (by simp only [borOf]; exact mem_borL.2 ⟨d,List.mem_of_mem_drop hd,hp⟩)) hv
  ·cases hv
 case ixa k x i =>
  have ho := opnd_nv (c := c) hk.1 h.left;split at hv
  ·(repeat' split at hv) <;> simp at hv; subst hv; exact .nil rfl
  ·rename_i e;rw [e] at ho
   (repeat' split at hv) <;> simp at hv; subst hv
   intro p hp; exact ho p (by simpa [borOf] using hp)
  ·(repeat' split at hv) <;> simp at hv; subst hv; exact .nil rfl
  ·cases hv
 case ixp n k x i =>
  have ho := opnd_nv (c := c) hk.1 h.left;split at hv
  case h_2 => cases hv
  split at hv
  ·simp at hv; subst hv; exact .nil rfl
  ·simp at hv; subst hv; exact .nil rfl
  ·rename_i e;rw [e] at ho;simp at hv; subst hv;intro p hp; exact ho p (by simpa [borOf] using hp)
  ·cases hv
 case ix n k ag x i =>
  have ho := opnd_nv (c := c) hk.1 h.left;split at hv
  case h_2 => cases hv
  split at hv
  ·rename_i cs e;rw [e] at ho;exact rdN_nv (fun d hd p hp => ho p (by simp only [borOf]; exact mem_borL.2 ⟨d,List.mem_of_mem_drop hd,hp⟩)) hv
  ·cases hv
 case ixs tab i => (repeat' split at hv) <;> simp at hv; subst hv; exact .nil rfl
 case ext i x =>
  have ho := opnd_nv (c := c) hk h;split at hv
  ·rename_i vs e;rw [e] at ho;split at hv
   ·rename_i u hu;split at hv <;> simp at hv; subst hv
    intro p hp; exact ho p (by simp only [borOf]; exact mem_borL.2 ⟨u,List.mem_of_getElem? hu,hp⟩)
   ·cases hv
  ·cases hv
 case len => split at hv <;> simp at hv; subst hv; exact .nil rfl
 case min => exact .nil (minA_bor hv)
 case max => exact .nil (minA_bor hv)
 all_goals (cases hv; done)
mutual
theorem clean_bor : ∀ x,clean x = true -> borOf x = []
 | .bor _ _ _ _,h => by simp [clean] at h
 | .pto _ _ _ _,h => by simp [clean] at h
 | .agg cs,h => by simp only [clean] at h; simp only [borOf]; exact clean_borL cs h
 | .tup cs,h => by simp only [clean] at h; simp only [borOf]; exact clean_borL cs h
 | .func _ _ _,h => by simp [clean] at h
 | .any,_ => rfl | .undef,_ => rfl | .nilp,_ => rfl | .nilf,_ => rfl | .nils,_ => rfl
 | .int _ _,_ => rfl | .bool _,_ => rfl | .str _,_ => rfl | .list _ _,_ => rfl | .fptr _,_ => rfl | .ptr _ _,_ => rfl | .sl _ _ _ _,_ => rfl | .own _ _,_ => rfl
theorem clean_borL : ∀ xs,cleanL xs = true -> borL xs = []
 | [],_ => rfl
 | x :: r,h => by simp only [cleanL,Bool.and_eq_true] at h; simp only [borL,clean_bor x h.1,clean_borL r h.2,List.append_nil]
end
theorem doCall_nv {s s1 : St} {kd : Kd} {v : AV} {f : Fq} (h : doCallB c call kd s = some (v,s1,f)) : borOf v = [] \/ ∃ sl bs,f = .wr sl bs \/ f = .all := by
 unfold doCallB at h;split at h
 ·rename_i r hi;subst h;obtain ⟨sl,bs,e⟩ := inpB_fl hi;exact .inr ⟨sl,bs,e⟩
 split at h
 ·rename_i r hi;subst h;obtain ⟨_,_,_,_,_,_,_,_,_,_,_,_,_,_,_,hr,_,_⟩ := locB_get hi;exact .inl (pl_bor _ hr.1)
 unfold doCallM at h;split at h
 ·rename_i r hi;subst h;exact .inr ⟨[],none,.inr (movB_fl hi).1⟩
 rcases doCallP_or h with h | h
 case inr => exact .inl (snkB_fl h).2
 unfold doCallO at h;split at h
 ·cases h
 split at h
 ·cases h
 split at h
 ·split at h
  ·cases h
  split at h
  case h_2 => cases h
  split at h
  case isFalse => cases h
  rename_i hr;simp at h;obtain ⟨rfl,_,_⟩ := h;simp only [okRes,Bool.and_eq_true] at hr;exact .inl (clean_bor _ hr.1)
 ·split at h
  ·cases h
  split at h
  case isFalse => cases h
  split at h
  ·split at h
   case isFalse => cases h
   split at h
   case h_2 => cases h
   split at h
   case isFalse => cases h
   rename_i hr;simp only [Option.some.injEq,Prod.mk.injEq] at h;simp only [Bool.and_eq_true] at hr;obtain ⟨rfl,_,_⟩ := h;exact .inl (List.isEmpty_iff.1 hr.1.1)
  ·split at h
   case isFalse => cases h
   split at h
   case h_2 => cases h
   split at h
   case isFalse => cases h
   rename_i hr;simp at h;obtain ⟨rfl,_,_⟩ := h;exact .inl (pl_bor _ hr)
theorem lendC_id (f : Nat -> Rt) : ∀ (j : Nat) (cs : List AV),hasOwnL cs = false -> lendC f j cs = cs
 | _,[],_ => rfl
 | j,x :: r,h => by
   cases x with
   | own k xs => simp [hasOwnL] at h
   | _ => simp only [hasOwnL] at h; simp only [lendC,lendC_id f (j + 1) r h]
theorem ldLab_rc {x v : AV} {ps : List Rt} {b j : Nat} (h : ldLab x v ps = .rc b j) : ∃ k o l,x = .ptr b j /\ v = .bor k (.c b j) o l := by
 unfold ldLab at h;split at h
 ·split at h
  ·rename_i hc;obtain ⟨rfl,rfl⟩ := hc;cases h;exact ⟨_,_,_,rfl,rfl⟩
  ·cases h
 ·cases h
theorem opB_nv {s s1 : St} {kd : Kd} {v : AV} {f : Fq} (hv : opB c call s kd = some (v,s1,f)) (hf : calm f = true) (hk : konst kd = true) (h : RdOK V s.env kd.reads)
  (hb : ∀ ps,f = .rd ps -> ∀ b,Rt.c b 0 ∈ ps -> ∀ cs,blk s.H b = some cs -> (∀ p ∈ borL cs,¬ V p) /\ (hasOwnL cs = true -> ∀ j,¬ V (.c b j)))
  (hbc : ∀ b j,f = .rc b j -> ∀ cs c,blk s.H b = some cs -> cs[j]? = some c -> (∀ p ∈ borOf c,¬ V p) /\ (∀ k xs,c = .own k xs -> ¬ V (.c b j))) : NoV V v := by
 have pure : ∀ {kd : Kd},konst kd = true -> RdOK V s.env kd.reads -> (match opP c s.env kd with
   | some v => some (v,s,Fq.no)
   | none => none) = some (v,s1,f) -> NoV V v := by
  intro kd hk h h2;split at h2
  case h_2 => cases h2
  rename_i u hu;simp at h2;obtain ⟨rfl,_,_⟩ := h2;exact opP_nv hu hk h
 have call_ : ∀ {kd : Kd},doCallB c call kd s = some (v,s1,f) -> NoV V v := by
  intro kd h2;rcases doCall_nv h2 with e | ⟨sl,bs,e | e⟩
  ·exact .nil e
  ·subst e; simp [calm] at hf
  ·subst e; simp [calm] at hf
 cases kd
 case call => simp only [opB] at hv; exact call_ hv
 case callv => simp only [opB] at hv; exact call_ hv
 case new => simp only [opB] at hv; simp at hv; obtain ⟨rfl,_,_⟩ := hv; exact .nil rfl
 case box => simp only [opB] at hv; split at hv <;> simp at hv; obtain ⟨rfl,_,_⟩ := hv; exact .nil rfl
 case bslice => simp only [opB] at hv; (repeat' split at hv) <;> simp at hv <;> (obtain ⟨rfl,_,_⟩ := hv; exact .nil rfl)
 case mks => simp only [opB] at hv; (repeat' split at hv) <;> simp at hv <;> (obtain ⟨rfl,_,_⟩ := hv; exact .nil rfl)
 case clr => simp only [opB] at hv; (repeat' split at hv) <;> simp at hv <;> (obtain ⟨rfl,_,_⟩ := hv; exact .nil rfl)
 case app => simp only [opB] at hv; (repeat' split at hv) <;> simp at hv <;> (obtain ⟨rfl,_,_⟩ := hv; exact .nil rfl)
 case st => simp only [opB] at hv; (repeat' split at hv) <;> simp at hv <;> (obtain ⟨rfl,_,_⟩ := hv; exact .nil rfl)
 case copy => simp only [opB] at hv; (repeat' split at hv) <;> simp at hv <;> (obtain ⟨rfl,_,_⟩ := hv; exact .nil rfl)
 case asl n x hi =>
  simp only [opB] at hv;split at hv
  ·(repeat' split at hv) <;> simp at hv <;> (obtain ⟨rfl,_,_⟩ := hv; exact .nil rfl)
  ·exact pure hk h hv
 case ld ag x =>
  simp only [opB] at hv;split at hv
  case h_2 => cases hv
  rename_i u ps hp;split at hv
  case isFalse => cases hv
  rename_i hl;simp at hv;obtain ⟨rfl,rfl,hlab⟩ := hv;by_cases hy : ∃ b off k o l,opnd c s.env x = .ptr b off /\ u = .bor k (.c b off) o l
  ·obtain ⟨b,off,k,o,l,e,rfl⟩ := hy;rw [e] at hp hlab;have hbc' := hbc b off (by rw [<- hlab]; simp [ldLab]);simp only [peek] at hp;split at hp
   case h_2 => cases hp
   rename_i cs hcs;split at hp
   case h_2 => cases hp
   rename_i u' hu;simp at hp;obtain ⟨rfl,_⟩ := hp
   have hz : ((lendC (.c b) 0 cs).drop off)[0]? = some (.bor k (.c b off) o l) := by
    unfold rdN rdc at hu;cases ag with
    | some n => simp only at hu; (repeat' split at hu) <;> simp_all
    | none =>
      simp only at hu;rw [<- List.head?_eq_getElem?]
      (repeat' split at hu) <;> simp_all
   rw [List.getElem?_drop,Nat.add_zero] at hz
   have hg : ∀ (cs : List AV) (j i : Nat),(lendC (.c b) j cs)[i]? = some (.bor k (.c b off) o l) -> ∃ c0,cs[i]? = some c0 /\ ((∃ k xs,c0 = .own k xs) \/ c0 = .bor k (.c b off) o l) := by
    intro cs
    induction cs with
    | nil => intro j i h; simp [lendC] at h
    | cons d r ih =>
      intro j i h;cases i with
      | zero =>
        refine ⟨d,rfl,?_⟩
        cases d <;> first
         | exact .inl ⟨_,_,rfl⟩
         | (simp [lendC] at h; done)
         | (simp [lendC] at h; right; simp [h])
      | succ i =>
        obtain ⟨c0,h1,h2⟩ := ih (j + 1) i (by cases d <;> simpa [lendC] using h);exact ⟨c0,by simpa using h1,h2⟩
   obtain ⟨c0,h1,h2⟩ := hg cs 0 off hz;obtain ⟨q1,q2⟩ := hbc' cs c0 hcs h1;intro p hp;simp [borOf] at hp;subst hp;rcases h2 with h2 | h2
   ·obtain ⟨k0,xs0,e0⟩ := h2; exact q2 k0 xs0 e0
   ·subst h2; exact q1 _ (by simp [borOf])
  have hlab : f = .rd ps := by
   rw [<- hlab];rcases ldLab_or (opnd c s.env x) u ps with e | ⟨b,j,e⟩
   ·exact e
   ·obtain ⟨k,o,l,e1,e2⟩ := ldLab_rc e;exact absurd ⟨b,j,k,o,l,e1,e2⟩ hy
  subst hlab;by_cases hx : ∃ b off,opnd c s.env x = .ptr b off
  ·obtain ⟨b,off,e⟩ := hx;rw [e] at hp;simp only [peek] at hp;split at hp
   case h_2 => cases hp
   rename_i cs hcs;split at hp
   case h_2 => cases hp
   rename_i u' hu;simp at hp;obtain ⟨rfl,rfl⟩ := hp;by_cases hz : borOf u' = []
   ·exact .nil hz
   obtain ⟨b1,b2⟩ := hb _ rfl b (by simp [hz]) cs hcs;refine rdN_nv (fun d hd p hp => ?_) hu;have := mem_borL.2 ⟨d,List.mem_of_mem_drop hd,hp⟩;cases ho : hasOwnL cs with
   | false => rw [lendC_id _ _ _ ho] at this; exact b1 p this
   | true =>
     rcases lendC_bor this with h3 | ⟨i,h3⟩
     ·exact b1 p h3
     ·subst h3; exact b2 ho i
  ·refine .nil ?_;unfold ldOK at hl;split at hl
   ·rename_i e; exact absurd ⟨_,_,e⟩ hx
   ·exact List.isEmpty_iff.1 hl
 all_goals
  simp only [opB] at hv;exact pure hk h hv
end
end Go.Bm

/- What single operations are worth: regions that draw their order are sound. -/
namespace Go.Bm
open Go.Am
section
variable {P : Program} {c : Cfg} {call : Nat -> List AV -> Heap -> Option (AV × Heap)} {V : Rt -> Prop}
theorem Same.own {s t : St} (h : Same s t) (p : Rt) : ownAt t p = ownAt s p := by
 cases p with
 | s i => simp only [ownAt,at_,h.1 i]
 | sc i j => simp only [ownAt,at_,h.1 i]
 | c b j => simp only [ownAt,at_,h.2]
theorem Seen.of_same {s s0 t : St} {ps : List Rt} (e : Same s s0) (h : Seen ps s t) : Seen ps s0 t := fun p hp => ⟨by rw [(h p hp).1,e.own],fun b l hb => by rw [(h p hp).2 b l hb,e.2]⟩
theorem SeenC.of_same {s s0 t : St} {b j : Nat} (e : Same s s0) (h : SeenC b j s t) : SeenC b j s0 t := fun cs hc => h cs (by rw [e.2]; exact hc)
theorem opB_al {s s1 : St} {kd : Kd} {v : AV} {n : Nat} (h : opB c call s kd = some (v,s1,.al n)) : ∃ z,s1 = ⟨s.env,s.H ++ [z]⟩ := by
 have nc : ∀ {kd : Kd},doCallB c call kd s ≠ some (v,s1,.al n) := by
  intro kd h;unfold doCallB at h;split at h
  ·rename_i r hi;subst h;obtain ⟨sl,bs,e | e⟩ := inpB_fl hi <;> cases e
  split at h
  ·rename_i r hi;subst h;obtain ⟨b,e⟩ := locB_fl hi;cases e
  unfold doCallM at h;split at h
  ·rename_i r hi;subst h;obtain ⟨e,_⟩ := movB_fl hi;cases e
  replace h := (doCallP_or h).resolve_right fun h => by obtain ⟨e,_⟩ := snkB_fl h; cases e
  unfold doCallO at h
  (repeat' split at h) <;> simp [frzLab_al] at h
  all_goals (obtain ⟨_,_,h⟩ := h; revert h; split <;> simp [frzLab_al])
 have ns : ∀ {s s' : St} {k : Nat} {a v : AV} {f : Fq},stB s k a v = some (s',f) -> f ≠ .al n := by
  intro s s' k a v f h e;have := stB_fl h;rw [e] at this;simp [calm] at this
 cases kd <;> simp only [opB] at h
 case new => simp at h; exact ⟨_,h.2.1.symm⟩
 case box => split at h <;> simp at h; exact ⟨_,h.2.1.symm⟩
 case call => exact absurd h nc
 case callv => exact absurd h nc
 case st =>
  exfalso;split at h
  ·split at h
   case h_2 => cases h
   rename_i hh;simp only [Option.some.injEq,Prod.mk.injEq] at h;obtain ⟨_,_,h5⟩ := h;split at h5
   ·exact ns hh h5
   ·cases h5
  ·split at h
   case h_2 => cases h
   rename_i hh;simp only [Option.some.injEq,Prod.mk.injEq] at h;exact ns hh h.2.2
 case ld =>
  exfalso;split at h
  case h_2 => cases h
  split at h
  case isFalse => cases h
  simp only [Option.some.injEq,Prod.mk.injEq] at h;obtain ⟨_,_,h5⟩ := h;rcases ldLab_or _ _ _ with e | ⟨b,j,e⟩ <;> rw [e] at h5 <;> cases h5
 case mks =>
  split at h
  case h_2 => cases h
  split at h
  case isFalse => cases h
  split at h
  ·simp at h; exact ⟨_,h.2.1.symm⟩
  ·simp at h
 case bslice =>
  exfalso
  (repeat' split at h) <;> simp at h
 case copy =>
  exfalso
  (repeat' split at h) <;> simp at h
  obtain ⟨_,_,h5⟩ := h;rcases cpLab_or _ _ with e | ⟨_,_,_,_,e⟩ <;> rw [e] at h5 <;> cases h5
 all_goals
  exfalso
  (repeat' split at h) <;> simp at h
theorem lend_bool {i : Nat} {x : AV} {b : Bool} (h : lend i x = .bool b) : x = .bool b := by
 cases x <;> simp [lend] at h <;> simp [h]
theorem lend_undef {i : Nat} {x : AV} (h : lend i x = .undef) : x = .undef := by
 cases x <;> simp [lend] at h <;> rfl
theorem calmAll : CalmAll c call := by
 intro s q v s1 f ⟨hk,s0,t1,e0,he,e1⟩ hc
 have op : opB c call s0 q.kd = some (v,t1,f) -> (∀ t : St,(∀ i ∈ q.reads,lend i (get t.env i) = lend i (get s.env i)) -> evB c call t q = opB c call t q.kd) -> ∃ X,CalmEv c call s q v s1 f X := by
  intro h hgo;obtain ⟨T,k1,k2,k3⟩ := opB_calm h hc;have hr : ∀ i ∈ q.kd.reads,i ∈ q.reads := fun i hi => by simp [O.reads,hi]
  refine ⟨T,⟨e1.symm.trans ⟨fun i => by rw [k1]; exact (e0.1 i).symm,by rw [k1]; show s0.H ++ T = s.H ++ T; rw [e0.2]⟩,?_,fun t h1 h2 h3 => ?_,fun V h1 h2 h2c => ?_⟩⟩
  ·rcases k2 with e | ⟨z,e,e2⟩
   ·by_cases hal : ∃ n,f = .al n
    ·obtain ⟨n,rfl⟩ := hal;obtain ⟨z,hz⟩ := opB_al h;rw [k1,e] at hz;simp at hz
    ·exact .inl ⟨e,fun n hn => hal ⟨n,hn⟩⟩
   ·exact .inr ⟨z,e,by rw [e0.2]; exact e2⟩
  ·refine ⟨hk,t,_,Same.rfl',?_,Same.rfl'⟩;rw [hgo t h1];exact k3 t (fun i hi => by rw [h1 i (hr i hi),e0.1]) ⟨fun ps hps => (h2.1 ps hps).of_same e0,fun b j hf => (h2.2 b j hf).of_same e0⟩ h3
  ·exact opB_nv h hc hk (fun i hi => by rw [<- e0.1]; exact h1 i (hr i hi)) (fun ps hps b hp cs hb => h2 ps hps b hp cs (by rw [e0.2]; exact hb)) fun b j hf cs c0 hb hc0 => h2c b j hf cs c0 (by rw [e0.2]; exact hb) hc0
 have un : f = .no -> v = .undef -> t1 = s0 -> (∀ t : St,(∀ i ∈ q.reads,lend i (get t.env i) = lend i (get s.env i)) -> evB c call t q = some (.undef,t,.no)) -> ∃ X,CalmEv c call s q v s1 f X := by
  intro hf hv ht hgo;subst hf hv ht;refine ⟨[],⟨e1.symm.trans ⟨fun i => (e0.1 i).symm,by show t1.H = s.H ++ []; rw [e0.2]; simp⟩,.inl ⟨rfl,fun n h => by cases h⟩,fun t h1 _ _ => ⟨hk,t,t,Same.rfl',hgo t h1,⟨fun i => rfl,by simp⟩⟩,fun V _ _ _ p hp => by simp [borOf] at hp⟩⟩
 unfold evB at he;cases hg : q.guard with
 | none =>
   rw [hg] at he;exact op he fun t _ => by unfold evB; rw [hg]
 | some gp =>
   obtain ⟨g,want⟩ := gp;rw [hg] at he;simp only at he;have hgr : g ∈ q.reads := by simp [O.reads,hg]
   split at he
   ·rename_i b hb;split at he
    ·rename_i hbw;refine op he fun t h1 => ?_;unfold evB;rw [hg];have hb' : get t.env g = .bool b := lend_bool (by rw [h1 g hgr,e0.1 g,hb]; rfl);simp only [hb',hbw,if_true]
    ·rename_i hbw;simp only [Option.some.injEq,Prod.mk.injEq] at he;refine un he.2.2.symm he.1.symm he.2.1.symm fun t h1 => ?_;unfold evB;rw [hg];have hb' : get t.env g = .bool b := lend_bool (by rw [h1 g hgr,e0.1 g,hb]; rfl);simp only [hb',hbw,if_false]
   ·rename_i hb;simp only [Option.some.injEq,Prod.mk.injEq] at he;refine un he.2.2.symm he.1.symm he.2.1.symm fun t h1 => ?_;unfold evB;rw [hg];have hb' : get t.env g = .undef := lend_undef (by rw [h1 g hgr,e0.1 g,hb]; rfl);simp only [hb']
   ·cases he

/-! Operations that write a few places -/
mutual
theorem mapB_fix {g : AV -> AV} : ∀ x,(∀ k p o l,p ∈ borOf x -> g (.bor k p o l) = .bor k p o l /\ g (.pto k p o l) = .pto k p o l) -> mapB g x = x
 | .bor k p o l,h => by simp only [mapB]; exact (h k p o l (by simp [borOf])).1
 | .pto k p o l,h => by simp only [mapB]; exact (h k p o l (by simp [borOf])).2
 | .agg cs,h => by simp only [mapB]; rw [mapBL_fix cs (by simpa only [borOf] using h)]
 | .tup cs,h => by simp only [mapB]; rw [mapBL_fix cs (by simpa only [borOf] using h)]
 | .func f a b,h => by
   simp only [borOf,List.mem_append] at h;simp only [mapB]; rw [mapBL_fix a fun k p o l hp => h k p o l (.inl hp),mapBL_fix b fun k p o l hp => h k p o l (.inr hp)]
 | .any,_ => rfl | .undef,_ => rfl | .nilp,_ => rfl | .nilf,_ => rfl | .nils,_ => rfl
 | .int _ _,_ => rfl | .bool _,_ => rfl | .str _,_ => rfl | .list _ _,_ => rfl | .fptr _,_ => rfl | .ptr _ _,_ => rfl | .sl _ _ _ _,_ => rfl | .own _ _,_ => rfl
theorem mapBL_fix {g : AV -> AV} : ∀ xs,(∀ k p o l,p ∈ borL xs -> g (.bor k p o l) = .bor k p o l /\ g (.pto k p o l) = .pto k p o l) -> mapBL g xs = xs
 | [],_ => rfl
 | x :: r,h => by
   simp only [borL,List.mem_append] at h;simp only [mapBL]; rw [mapB_fix x fun k p o l hp => h k p o l (.inl hp),mapBL_fix r fun k p o l hp => h k p o l (.inr hp)]
end
theorem lendC_set {f : Nat -> Rt} : ∀ {cs : List AV} {j l k : Nat} {xs xs' : List AV},cs[l]? = some (.own k xs) -> xs'.length = xs.length -> lendC f j (cs.set l (.own k xs')) = lendC f j cs
 | [],j,l,k,xs,xs',h,_ => by simp at h
 | x :: r,j,0,k,xs,xs',h,hl => by
   simp at h;subst h;simp only [List.set_cons_zero,lendC,hl]
 | x :: r,j,l + 1,k,xs,xs',h,hl => by
   have ih := lendC_set (f := f) (j := j + 1) (by simpa using h) hl;rw [List.set_cons_succ];cases x <;> simp only [lendC,ih]
theorem setAt_lend {s : St} {p : Rt} {k : Nat} {xs xs' : List AV} (h : ownAt s p = some (k,xs)) (hl : xs'.length = xs.length) (i : Nat) : lend i (get (setAt s p (.own k xs')).env i) = lend i (get s.env i) := by
 cases p with
 | s j =>
   simp only [setAt,get_put];by_cases e : i = j
   ·subst e;rw [if_pos rfl];simp only [ownAt,at_] at h;split at h
    ·rename_i k2 xs2 e2;simp at h;obtain ⟨rfl,rfl⟩ := h;simp at e2;rw [e2];simp only [lend,hl]
    ·cases h
   ·rw [if_neg e]
 | sc j l =>
   simp only [ownAt,at_] at h;simp only [setAt];split
   ·rename_i cs hcs;rw [hcs] at h;simp only [get_put];by_cases e : i = j
    ·subst e;rw [if_pos rfl,hcs];simp only at h;split at h
     ·rename_i k2 xs2 e2;simp at h;obtain ⟨rfl,rfl⟩ := h;simp only [lend,lendC_set e2 hl]
     ·cases h
    ·rw [if_neg e]
   ·rfl
 | c b j =>
   simp only [setAt];split <;> rfl
theorem marks_mem {i : Nat} : ∀ {l : List Nat},i + BIGB ∈ marks l ↔ i ∈ l
 | [] => by simp [marks]
 | j :: r => by simp [marks,marks_mem (l := r)]
theorem setAt_get {s : St} {p : Rt} {v : AV} {i : Nat} (h : i ∉ rootOf p) : get (setAt s p v).env i = get s.env i := by
 cases p with
 | s j => simp only [rootOf,List.mem_singleton] at h; simp only [setAt,get_put,if_neg h]
 | sc j l =>
   simp only [rootOf,List.mem_singleton] at h;simp only [setAt];split
   ·simp only [get_put,if_neg h]
   ·rfl
 | c b j => simp only [setAt]; split <;> rfl
theorem setAt_blk {s : St} {p : Rt} {v : AV} {b : Nat} (h : b ∉ boxOf p) : blk (setAt s p v).H b = blk s.H b := by
 cases p with
 | s j => rfl
 | sc j l => simp only [setAt]; split <;> rfl
 | c d j =>
   simp only [boxOf,List.mem_singleton] at h;simp only [setAt];split
   ·rw [blk_set,if_neg (fun e => h e.1)]
   ·rfl
theorem setAt_same {s t : St} (h : Same s t) (p : Rt) (v : AV) : Same (setAt s p v) (setAt t p v) := by
 cases p with
 | s j => exact ⟨fun i => by simp only [setAt,get_put,h.1 i],h.2⟩
 | sc j l =>
   simp only [setAt];rw [h.1 j];split
   ·exact ⟨fun i => by simp only [get_put,h.1 i],h.2⟩
   ·exact h
 | c b j =>
   simp only [setAt];rw [h.2];split
   ·exact ⟨h.1,rfl⟩
   ·exact h
theorem setAt_put {s : St} {p : Rt} {v u : AV} {d : Nat} (h : d ∉ rootOf p) : Same (setAt ⟨put s.env d u,s.H⟩ p v) ⟨put (setAt s p v).env d u,(setAt s p v).H⟩ := by
 cases p with
 | s j =>
   simp only [rootOf,List.mem_singleton] at h;refine ⟨fun i => ?_,rfl⟩;simp only [setAt,get_put];by_cases e : i = j
   ·subst e;have : i ≠ d := fun e => h e.symm;simp [this]
   ·simp [e]
 | sc j l =>
   simp only [rootOf,List.mem_singleton] at h;have hj : j ≠ d := fun e => h e.symm;simp only [setAt,get_put,if_neg hj];split
   ·refine ⟨fun i => ?_,rfl⟩;simp only [get_put];by_cases e : i = j
    ·subst e; simp [hj]
    ·simp [e]
   ·exact Same.rfl'
 | c b j =>
   simp only [setAt];split
   ·exact Same.rfl'
   ·exact Same.rfl'
theorem own_root {s : St} {p : Rt} {y : Nat × List AV} (h : ownAt s p = some y) : ∀ i ∈ rootOf p,hasOwn (get s.env i) = true := by
 intro i hi;obtain ⟨k,xs⟩ := y;have h := ownAt_iff.1 h;cases p with
 | s j =>
   simp only [rootOf,List.mem_singleton] at hi; subst hi;simp only [at_,Option.some.injEq] at h;rw [h]; rfl
 | sc j l =>
   simp only [rootOf,List.mem_singleton] at hi; subst hi;simp only [at_] at h;split at h
   ·rename_i cs hc;rw [hc];simp only [hasOwn]
    have : ∀ {cs : List AV} {l : Nat},cs[l]? = some (.own k xs) -> hasOwnL cs = true := by
     intro cs
     induction cs with
     | nil => intro l h; simp at h
     | cons x r ih =>
       intro l h;cases l with
       | zero => simp at h; subst h; rfl
       | succ l => simp at h; cases x <;> simp only [hasOwnL] <;> exact ih h
    exact this h
   ·cases h
 | c b j => simp [rootOf] at hi
theorem ownAt_pute {s : St} {p : Rt} {d : Nat} {u : AV} (h : d ∉ rootOf p) : ownAt ⟨put s.env d u,s.H⟩ p = ownAt s p := by
 cases p with
 | s j =>
   simp only [rootOf,List.mem_singleton] at h;have hj : j ≠ d := fun e => h e.symm;simp only [ownAt,at_,get_put,if_neg hj]
 | sc j l =>
   simp only [rootOf,List.mem_singleton] at h;have hj : j ≠ d := fun e => h e.symm;simp only [ownAt,at_,get_put,if_neg hj]
 | c b j => rfl
structure WrOp0 (c : Cfg) (call : Nat -> List AV -> Heap -> Option (AV × Heap)) (s : St) (kd : Kd) (v : AV) (s1 : St) (sl : List Nat) (bs : Option (List Nat)) (V : Rt -> Prop) : Prop where
 env : ∀ i,i ∉ sl -> i + BIGB ∉ sl -> get s1.env i = get s.env i
 hd : ∀ i,i ∉ sl -> lend i (get s1.env i) = lend i (get s.env i)
 keep : ∀ i,hasOwn (get s.env i) = false -> borOf (get s.env i) = [] -> get s1.env i = get s.env i
 heap : ∀ l,bs = some l -> ∀ b,b ∉ l -> blk s1.H b = blk s.H b
 v1 : ∀ i,i ∉ sl -> (∀ p ∈ borOf (get s.env i),¬ V p) /\ ¬ V (.s i) /\ ∀ j,¬ V (.sc i j)
 v2 : ∀ l,bs = some l -> ∀ b,b ∉ l -> b + BIGB ∉ l -> ∀ cs,blk s.H b = some cs -> (∀ p ∈ borL cs,¬ V p) /\ (hasOwnL cs = true -> ∀ j,¬ V (.c b j))
 go : ∀ d u,d ∉ kd.reads -> d ∉ sl -> d + BIGB ∉ sl -> NoV V u -> ∃ t0 t1 sl',Same t0 ⟨put s.env d u,s.H⟩ /\ opB c call t0 kd = some (v,t1,.wr sl' bs) /\ (∀ i ∈ sl',i ∈ sl) /\ Same t1 ⟨put s1.env d u,s1.H⟩
structure WrOp (c : Cfg) (call : Nat -> List AV -> Heap -> Option (AV × Heap)) (s : St) (kd : Kd) (v : AV) (s1 : St) (sl : List Nat) (bs : Option (List Nat)) (V : Rt -> Prop) : Prop where
 env : ∀ i,i ∉ sl -> i + BIGB ∉ sl -> get s1.env i = get s.env i
 hd : ∀ i,i ∉ sl -> lend i (get s1.env i) = lend i (get s.env i)
 keep : ∀ i,hasOwn (get s.env i) = false -> borOf (get s.env i) = [] -> get s1.env i = get s.env i
 heap : ∀ l,bs = some l -> ∀ b,boxIn b l = false -> blk s1.H b = blk s.H b
 cell : ∀ l,bs = some l -> ∀ b j,b ∉ l -> cellN b j ∉ l -> SeenC b j s s1 /\ SeenC b j s1 s
 v1 : ∀ i,i ∉ sl -> (∀ p ∈ borOf (get s.env i),¬ V p) /\ ¬ V (.s i) /\ ∀ j,¬ V (.sc i j)
 v2 : ∀ l,bs = some l -> ∀ b,boxIn b l = false -> b + BIGB ∉ l -> ∀ cs,blk s.H b = some cs -> (∀ p ∈ borL cs,¬ V p) /\ (hasOwnL cs = true -> ∀ j,¬ V (.c b j))
 v3 : ∀ l,bs = some l -> ∀ b j,b ∉ l -> b + BIGB ∉ l -> cellN b j ∉ l -> ∀ cs c,blk s.H b = some cs -> cs[j]? = some c -> (∀ p ∈ borOf c,¬ V p) /\ (∀ k xs,c = .own k xs -> ¬ V (.c b j))
 go : ∀ d u,d ∉ kd.reads -> d ∉ sl -> d + BIGB ∉ sl -> NoV V u -> ∃ t0 t1 sl',Same t0 ⟨put s.env d u,s.H⟩ /\ opB c call t0 kd = some (v,t1,.wr sl' bs) /\ (∀ i ∈ sl',i ∈ sl) /\ Same t1 ⟨put s1.env d u,s1.H⟩
theorem hasOwnL_of : ∀ {cs : List AV} {j k : Nat} {xs : List AV},cs[j]? = some (.own k xs) -> hasOwnL cs = true
 | [],j,k,xs,h => by simp at h
 | c :: r,0,k,xs,h => by simp at h; subst h; rfl
 | c :: r,j + 1,k,xs,h => by
   have := hasOwnL_of (cs := r) (j := j) (by simpa using h);cases c <;> simp [hasOwnL,this]
theorem WrOp0.up {s s1 : St} {kd : Kd} {v : AV} {sl : List Nat} {bs : Option (List Nat)} : (∃ V,WrOp0 c call s kd v s1 sl bs V) -> ∃ V,WrOp c call s kd v s1 sl bs V := by
 rintro ⟨V,h⟩;refine ⟨V,⟨h.env,h.hd,h.keep,fun l hl b hb => h.heap l hl b (boxIn_cell hb).1,fun l hl b j hb _ => ⟨.of_eq (h.heap l hl b hb),.of_eq (h.heap l hl b hb).symm⟩,h.v1,fun l hl b hb => h.v2 l hl b (boxIn_cell hb).1,fun l hl b j h1 h2 _ cs c0 hb hc => ?_,h.go⟩⟩;obtain ⟨a1,a2⟩ := h.v2 l hl b h1 h2 cs hb;exact ⟨fun p hp => a1 p (mem_borL.2 ⟨c0,List.mem_of_getElem? hc,hp⟩),fun k xs e => a2 (hasOwnL_of (e ▸ hc)) j⟩
theorem anyR_iff {f : Rt -> Bool} : ∀ {l : List Rt},anyR f l = true ↔ ∃ p ∈ l,f p = true
 | [] => by simp [anyR]
 | p :: r => by simp [anyR,anyR_iff (l := r)]
theorem anyH_blk {f : Rt -> Bool} : ∀ {H : Heap} {b : Nat} {cs : List AV},anyH f H = false -> blk H b = some cs -> ∀ p ∈ borL cs,f p = false
 | [],b,cs,_,h => by simp [blk] at h
 | none :: r,b,cs,ha,h => by
   cases b with
   | zero => simp [blk] at h
   | succ b => exact anyH_blk (H := r) (b := b) (by simpa [anyH] using ha) (by simpa [blk] using h)
 | some ds :: r,b,cs,ha,h => by
   simp only [anyH,Bool.or_eq_false_iff] at ha;cases b with
   | zero =>
     simp [blk] at h;subst h;intro p hp;cases hf : f p with
     | false => rfl
     | true => rw [anyR_iff.2 ⟨p,hp,hf⟩] at ha; simp at ha
   | succ b => exact anyH_blk (H := r) (b := b) ha.2 (by simpa [blk] using h)
theorem inRt_iff {p : Rt} : ∀ {l : List Rt},inRt p l = true ↔ p ∈ l
 | [] => by simp [inRt]
 | q :: r => by rw [inRt,Bool.or_eq_true,decide_eq_true_eq,inRt_iff (l := r),List.mem_cons]; exact ⟨fun h => h.imp Eq.symm id,fun h => h.imp Eq.symm id⟩
theorem seesP_get {p : Rt} : ∀ {e : Env} {i : Nat},inRt p (borOf (Am.get e i)) = true \/ (isRoot p i = true /\ Am.get e i ≠ .any) -> i ∈ seesP p e
 | [],i,h => by simp [Am.get,borOf,inRt] at h
 | (j,v) :: r,i,h => by
   simp only [Am.get] at h;simp only [seesP];by_cases e : i = j
   ·subst e;simp only [if_true] at h
    have : (inRt p (borOf v) || isRoot p i) = true := by
     rcases h with h | h
     ·simp [h]
     ·simp [h.1]
    rw [if_pos this]; simp
   ·rw [if_neg e] at h;have := seesP_get h;split
    ·simp [this]
    ·exact this
theorem seesP_nrm {p : Rt} : ∀ {sn : List Nat} {e : Env} {i : Nat},i ∈ seesP p (nrm sn e) -> mem i sn = false /\ (inRt p (borOf (Am.get e i)) = true \/ isRoot p i = true)
 | sn,[],i,h => by simp [nrm,seesP] at h
 | sn,(j,v) :: r,i,h => by
   have rec_ : ∀ {sn' : List Nat},i ∈ seesP p (nrm sn' r) -> mem j sn' = true -> mem i sn' = false /\ (inRt p (borOf (Am.get ((j,v) :: r) i)) = true \/ isRoot p i = true) := by
    intro sn' h hj;obtain ⟨h1,h2⟩ := seesP_nrm h;have hne : i ≠ j := fun e => by rw [e,hj] at h1; cases h1
    exact ⟨h1,by simp only [Am.get]; rw [if_neg hne]; exact h2⟩
   unfold nrm at h;by_cases hj : mem j sn = true
   ·rw [if_pos hj] at h;exact rec_ h hj
   ·rw [if_neg hj] at h;simp only [seesP] at h
    have tail : i ∈ seesP p (nrm (j :: sn) r) -> mem i sn = false /\ (inRt p (borOf (Am.get ((j,v) :: r) i)) = true \/ isRoot p i = true) := fun h => by
     obtain ⟨h1,h2⟩ := rec_ h (by simp [mem]);unfold mem at h1;split at h1
     ·cases h1
     ·exact ⟨h1,h2⟩
    split at h
    ·rename_i hc;rcases List.mem_cons.1 h with e | h
     ·subst e;refine ⟨by simpa using hj,?_⟩;simp only [Am.get,if_true];simpa using hc
     ·exact tail h
    ·exact tail h
theorem seesB_get {p : Rt} : ∀ {H : Heap} {k b : Nat} {cs : List AV},blk H b = some cs -> p ∈ borL cs -> k + b ∈ seesB p k H
 | [],k,b,cs,h,_ => by simp [blk] at h
 | none :: r,k,b,cs,h,hp => by
   cases b with
   | zero => simp [blk] at h
   | succ b =>
     have := seesB_get (H := r) (k := k + 1) (b := b) (by simpa [blk] using h) hp;simp only [seesB]; rwa [show k + (b + 1) = k + 1 + b by omega]
 | some ds :: r,k,b,cs,h,hp => by
   cases b with
   | zero =>
     simp [blk] at h;subst h;simp [seesB,inRt_iff.2 hp]
   | succ b =>
     have := seesB_get (H := r) (k := k + 1) (b := b) (by simpa [blk] using h) hp;simp only [seesB];rw [show k + (b + 1) = k + 1 + b by omega];split
     ·simp [this]
     ·exact this
theorem seesC_get : ∀ {e : Env} {i : Nat},inBox (borOf (Am.get e i)) = true -> i ∈ seesC e
 | [],i,h => by simp [Am.get,borOf,inBox] at h
 | (j,v) :: r,i,h => by
   simp only [Am.get] at h;simp only [seesC];by_cases e : i = j
   ·subst e;simp only [if_true] at h;rw [if_pos h]; simp
   ·rw [if_neg e] at h;have := seesC_get h;split
    ·simp [this]
    ·exact this
theorem seesC_nrm : ∀ {sn : List Nat} {e : Env} {i : Nat},i ∈ seesC (nrm sn e) -> mem i sn = false /\ inBox (borOf (Am.get e i)) = true
 | sn,[],i,h => by simp [nrm,seesC] at h
 | sn,(j,v) :: r,i,h => by
   have rec_ : ∀ {sn' : List Nat},i ∈ seesC (nrm sn' r) -> mem j sn' = true -> mem i sn' = false /\ inBox (borOf (Am.get ((j,v) :: r) i)) = true := by
    intro sn' h hj;obtain ⟨h1,h2⟩ := seesC_nrm h;have hne : i ≠ j := fun e => by rw [e,hj] at h1; cases h1
    exact ⟨h1,by simp only [Am.get]; rw [if_neg hne]; exact h2⟩
   unfold nrm at h;by_cases hj : mem j sn = true
   ·rw [if_pos hj] at h;exact rec_ h hj
   ·rw [if_neg hj] at h;simp only [seesC] at h
    have tail : i ∈ seesC (nrm (j :: sn) r) -> mem i sn = false /\ inBox (borOf (Am.get ((j,v) :: r) i)) = true := fun h => by
     obtain ⟨h1,h2⟩ := rec_ h (by simp [mem]);unfold mem at h1;split at h1
     ·cases h1
     ·exact ⟨h1,h2⟩
    split at h
    ·rename_i hc;rcases List.mem_cons.1 h with e | h
     ·subst e;refine ⟨by simpa using hj,?_⟩;simp only [Am.get,if_true];exact hc
     ·exact tail h
    ·exact tail h
theorem inBox_iff : ∀ {l : List Rt},inBox l = true ↔ ∃ p ∈ l,notBox p = false
 | [] => by simp [inBox]
 | p :: r => by cases p <;> simp [inBox,notBox,inBox_iff (l := r)]
theorem inBox_off {l : List Rt} (h : inBox l = false) : ∀ p ∈ l,notBox p = true := by
 intro p hp;cases hn : notBox p with
 | true => rfl
 | false => rw [inBox_iff.2 ⟨p,hp,hn⟩] at h; cases h
theorem get_nrmS (s : St) (i : Nat) : get (nrmS s).env i = get s.env i := ((nrmS_same s).1 i).symm
end
end Go.Bm

/- Every operation that writes a few places; regions that draw their order are sound. -/
namespace Go.Bm
open Go.Am
section
variable {P : Program} {c : Cfg} {call : Nat -> List AV -> Heap -> Option (AV × Heap)} {V : Rt -> Prop}
theorem notmem_app {i : Nat} {l m : List Nat} (h : i ∉ l ++ m) : i ∉ l /\ i ∉ m := by simpa using h
theorem isRoot_root {p : Rt} {i : Nat} : isRoot p i = true ↔ i ∈ rootOf p := by
 cases p <;> simp [isRoot,rootOf,eq_comm]
theorem swC_fix {x : AV} (h : ∀ p ∈ borOf x,notBox p = true) : mapB swC x = x := mapB_fix x fun k p o l hp => by
 have := h p hp;cases p <;> simp [notBox] at this <;> simp [swC]
theorem offBoxes_get {l : List Nat} : ∀ {H H' : Heap} {k : Nat} {r : List Nat},offBoxes l k H H' = some r -> ∀ b,k + b ∉ l -> blk H' b = blk H b /\ ((k + b) + BIGB ∉ r -> ∀ cs,blk H b = some cs -> hasOwnL cs = false /\ borL cs = [])
 | [],[],k,r,_,b,_ => ⟨rfl,fun _ cs h => by simp [blk] at h⟩
 | [],_ :: _,k,r,h,b,_ => by simp [offBoxes] at h
 | _ :: _,[],k,r,h,b,_ => by simp [offBoxes] at h
 | x :: H,y :: H',k,r,h,b,hb => by
   unfold offBoxes at h;split at h
   case h_2 => cases h
   rename_i r0 h0;cases b with
   | zero =>
     have hm : mem k l = false := by
      cases hh : mem k l with
      | false => rfl
      | true => exact absurd (mem_iff.1 hh) (by simpa using hb)
     rw [hm] at h;simp only [Bool.false_eq_true,if_false] at h;split at h
     case isFalse => cases h
     rename_i he;have e := blkE_eq he;subst e;refine ⟨rfl,fun hr cs hcs => ?_⟩
     have hx : x = some cs := by
      unfold blk at hcs;simp only [List.getElem?_cons_zero] at hcs;cases x with
      | none => simp at hcs
      | some d => simp at hcs; rw [hcs]
     subst hx;cases hc : calmB (some cs) with
     | false =>
       rw [hc] at h;simp at h;subst h;exact absurd (by simp) hr
     | true =>
       simp only [calmB,Bool.and_eq_true,Bool.not_eq_true'] at hc;exact ⟨hc.1,List.isEmpty_iff.1 hc.2⟩
   | succ b =>
     have ih := offBoxes_get h0 b (by rw [show k + 1 + b = k + (b + 1) by omega]; exact hb);have e : ∀ z (G : Heap),blk (z :: G) (b + 1) = blk G b := fun z G => by simp [blk]
     rw [e,e];refine ⟨ih.1,fun hr => ih.2 fun hm => hr ?_⟩;rw [show k + 1 + b = k + (b + 1) by omega] at hm;split at h
     ·cases h; exact hm
     ·split at h
      ·simp at h;subst h;split
       ·exact hm
       ·exact List.mem_cons_of_mem _ hm
      ·cases h
theorem fb_fix {p : Rt} {k : Nat} {xs : List AV} {x : AV} (h : p ∉ borOf x) : mapB (fb p k xs) x = x := mapB_fix x fun k' q o l hq => by
 have : q ≠ p := fun e => h (e ▸ hq);constructor <;> simp [fb,this]
theorem fb_fixL {p : Rt} {k : Nat} {xs : List AV} {x : List AV} (h : p ∉ borL x) : mapBL (fb p k xs) x = x := mapBL_fix x fun k' q o l hq => by
 have : q ≠ p := fun e => h (e ▸ hq);constructor <;> simp [fb,this]
theorem wr_frz {s : St} {p : Rt} {k : Nat} {xs : List AV} {kd : Kd} {v : AV} (hbx : notBox p = true) (hp : ownAt s p = some (k,xs))
  (hgo : ∀ t : St,(∀ i ∈ kd.reads,get t.env i = get s.env i) -> ownAt t p = some (k,xs) -> opB c call t kd = some (v,setAt (mapSt (fb p k xs) t) p (.list k xs),.wr (seesP p t.env) (some (seesB p 0 t.H)))) :
  ∃ V,WrOp0 c call s kd v (setAt (mapSt (fb p k xs) s) p (.list k xs)) (seesP p s.env) (some (seesB p 0 s.H)) V := by
 have hroot := own_root hp;have rootSee : ∀ i ∈ rootOf p,i ∈ seesP p s.env := fun i hi => seesP_get (.inr ⟨isRoot_root.2 hi,fun e => by have := hroot i hi; rw [e] at this; cases this⟩);have notSee : ∀ {i : Nat},i ∉ seesP p s.env -> p ∉ borOf (get s.env i) /\ i ∉ rootOf p := fun {i} hi => ⟨fun e => hi (seesP_get (.inl (inRt_iff.2 e))),fun e => hi (rootSee i e)⟩
 have envOf : ∀ i,p ∉ borOf (get s.env i) -> i ∉ rootOf p -> get (setAt (mapSt (fb p k xs) s) p (.list k xs)).env i = get s.env i := fun i h1 h2 => by
  rw [setAt_get h2];show get (mapE (fb p k xs) s.env) i = _;rw [get_mapE,fb_fix h1]
 have heapOf : ∀ b,b ∉ seesB p 0 s.H -> blk (setAt (mapSt (fb p k xs) s) p (.list k xs)).H b = blk s.H b := fun b hb => by
  rw [setAt_blk (by cases p <;> simp [boxOf,notBox] at hbx ⊢)];show blk (mapH (fb p k xs) s.H) b = _;rw [blk_mapH];cases hcs : blk s.H b with
  | none => rfl
  | some cs =>
    simp only [Option.map_some,Option.some.injEq];refine fb_fixL fun hm => hb ?_;have := seesB_get (k := 0) hcs hm;simpa using this
 refine ⟨fun q => q = p,⟨fun i hi _ => ?_,fun i hi => ?_,fun i h1 h2 => ?_,fun l hl b hb => ?_,fun i hi => ⟨fun q hq e => ?_,fun e => ?_,fun j e => ?_⟩,fun l hl b hb hb2 cs hcs => ⟨fun q hq e => ?_,fun _ j e => ?_⟩,fun d u hd hds _ hu => ?_⟩⟩
 ·obtain ⟨h1,h2⟩ := notSee hi;exact envOf i h1 h2
 ·obtain ⟨h1,h2⟩ := notSee hi;rw [envOf i h1 h2]
 ·exact envOf i (by rw [h2]; simp) fun hi => by rw [hroot i hi] at h1; cases h1
 ·cases hl;exact heapOf b hb
 ·subst e;exact (notSee hi).1 hq
 ·subst e;exact (notSee hi).2 (by simp [rootOf])
 ·subst e;exact (notSee hi).2 (by simp [rootOf])
 ·subst e;cases hl;have := seesB_get (k := 0) hcs hq;exact hb (by simpa using this)
 ·subst e; simp [notBox] at hbx
 ·obtain ⟨hd3,hd4⟩ := notSee hds
  let t0 : St := nrmS ⟨put s.env d u,s.H⟩
  have hsame : Same t0 ⟨put s.env d u,s.H⟩ := (nrmS_same _).symm;have hg : ∀ i,get t0.env i = if i = d then u else get s.env i := fun i => by rw [get_nrmS,get_put]
  have own : ownAt t0 p = ownAt s p := by rw [<- hsame.own p]; exact ownAt_pute hd4
  have hu' : p ∉ borOf u := fun hm => hu p hm rfl;refine ⟨t0,setAt (mapSt (fb p k xs) t0) p (.list k xs),seesP p t0.env,hsame,hgo t0 (fun i hi => by rw [hg,if_neg]; intro e; subst e; exact hd hi) (own.trans hp),fun i hi => ?_,?_⟩
  ·obtain ⟨_,h2⟩ := seesP_nrm hi;have : get (put s.env d u) i = get t0.env i := (get_nrmS ⟨put s.env d u,s.H⟩ i).symm;simp only [this,hg] at h2;rcases h2 with h2 | h2
   ·split at h2
    ·exact absurd (inRt_iff.1 h2) hu'
    ·exact seesP_get (.inl h2)
   ·exact rootSee i (isRoot_root.1 h2)
  ·have h5 : Same (mapSt (fb p k xs) t0) ⟨put (mapSt (fb p k xs) s).env d u,(mapSt (fb p k xs) s).H⟩ := ⟨fun i => by
    show get (mapE (fb p k xs) t0.env) i = get (put (mapE (fb p k xs) s.env) d u) i;rw [get_mapE,hg,get_put,get_mapE];split
    ·exact fb_fix hu'
    ·rfl,rfl⟩
   exact (setAt_same h5 p (.list k xs)).trans (setAt_put hd4)
theorem wr_call {s s1 : St} {kd : Kd} {v : AV} {sl : List Nat} {bs : Option (List Nat)} (hb' : ∀ t,opB c call t kd = doCallB c call kd t) (hi : inpB c s kd = none) (hl : locB c call s kd = none) (hmv : movB c call s kd = none) (h : doCallO c call kd s = some (v,s1,.wr sl bs)) : ∃ V,WrOp0 c call s kd v s1 sl bs V := by
 unfold doCallO at h;split at h
 ·cases h
 rename_i f args ha;split at h
 ·cases h
 rename_i md q hf;split at h
 ·rename_i hm;split at h
  ·cases h
  split at h
  case h_2 => cases h
  split at h
  case isFalse => cases h
  simp only [Option.some.injEq,Prod.mk.injEq] at h;obtain ⟨_,_,h⟩ := h;split at h <;> cases h
 rename_i hm;split at h
 ·cases h
 rename_i f1 args1 ha1;split at h
 case isFalse => cases h
 rename_i hff;split at h
 ·rename_i hsh;split at h
  case isFalse => cases h
  rename_i hp;split at h
  case h_2 => cases h
  rename_i r H' hc;split at h
  case isFalse => cases h
  rename_i hr;simp only [Option.some.injEq,Prod.mk.injEq] at h;obtain ⟨rfl,rfl,h⟩ := h
  have he : borL args = [] := by
   cases hb : borL args with
   | nil => rfl
   | cons x y => simp [hb] at h
  rw [he] at h ha1 hp hc;simp only [frzAll] at ha1 hp hc;simp at h;obtain ⟨rfl,rfl⟩ := h
  have off : ∀ l,offLab (ptrsL args1) (offBoxes (ptrsL args1) 0 s.H H') = some l -> ∀ b,b ∉ l -> blk H' b = blk s.H b /\ (b + BIGB ∉ l -> ∀ cs,blk s.H b = some cs -> hasOwnL cs = false /\ borL cs = []) := by
   intro l hl b hb;cases ho : offBoxes (ptrsL args1) 0 s.H H' with
   | none => rw [ho] at hl; cases hl
   | some r =>
     rw [ho] at hl;have hl : some (ptrsL args1 ++ r) = some l := hl;cases hl;have hb2 := notmem_app hb;have := offBoxes_get ho b (by simpa using hb2.1);refine ⟨this.1,fun h2 => this.2 ?_⟩;have := (notmem_app h2).2;simpa using this
  refine ⟨fun p => notBox p = false,⟨fun i hi _ => ?_,fun i hi => ?_,fun i h1 h2 => ?_,fun l hl b hb => ?_,fun i hi => ⟨fun p hp => ?_,by simp [notBox],fun j => by simp [notBox]⟩,fun l hl b hb hb2 cs hcs => ?_,fun d u hd hds _ hu => ?_⟩⟩
  ·simp only [he,frzAll,get_mapE];refine swC_fix (inBox_off ?_);cases hh : inBox (borOf (get s.env i)) with
   | false => rfl
   | true => exact absurd (seesC_get hh) hi
  ·simp only [he,frzAll,get_mapE];rw [swC_fix (inBox_off ?_)];cases hh : inBox (borOf (get s.env i)) with
   | false => rfl
   | true => exact absurd (seesC_get hh) hi
  ·simp only [he,frzAll,get_mapE];exact swC_fix fun p hp => by rw [h2] at hp; simp at hp
  ·exact (off l hl b hb).1
  ·have : inBox (borOf (get s.env i)) = false := by
    cases hh : inBox (borOf (get s.env i)) with
    | false => rfl
    | true => exact absurd (seesC_get hh) hi
   rw [inBox_off this p hp]; simp
  ·obtain ⟨o1,o2⟩ := (off l hl b hb).2 hb2 cs hcs;exact ⟨fun p hp => (by rw [o2] at hp; cases hp),fun ho => (by rw [o1] at ho; cases ho)⟩
  ·let t0 : St := nrmS ⟨put s.env d u,s.H⟩
   have hg : ∀ i,get t0.env i = if i = d then u else get s.env i := fun i => by rw [get_nrmS,get_put]
   have hH : t0.H = s.H := rfl
   have hrd : ∀ i ∈ kd.reads,get t0.env i = get s.env i := fun i hi => by
    rw [hg,if_neg]; intro e; subst e; exact hd hi
   refine ⟨t0,⟨mapE swC t0.env,H'⟩,seesC t0.env,(nrmS_same _).symm,?_,fun i hi => ?_,?_,rfl⟩
   ·rw [hb'];unfold doCallB;rw [inpB_none hi,locB_none hl];simp only [doCallM,movB_none hmv];apply doCallP_of;unfold doCallO;rw [getArgs_congr (e1 := t0.env) (e2 := s.env) fun i hi => by rw [hrd i hi],ha];simp only [hf,hm,he,frzAll,Bool.false_eq_true,if_false];rw [getArgs_congr (e1 := t0.env) (e2 := s.env) fun i hi => by rw [hrd i hi],ha1];simp only [hff,if_true,hsh,hH,hp,hc,hr];simp
    first
     | done
     | rfl
     | (congr 1)
   ·obtain ⟨_,h2⟩ := seesC_nrm hi;have : get (put s.env d u) i = get t0.env i := (get_nrmS ⟨put s.env d u,s.H⟩ i).symm;simp only [this,hg] at h2;split at h2
    ·rename_i e;subst e;obtain ⟨p,hp,hn⟩ := inBox_iff.1 h2;exact absurd hn (hu p hp)
    ·exact seesC_get h2
   ·intro i;simp only [he,frzAll,get_mapE,hg,get_put];split
    ·refine swC_fix fun p hp => ?_;have := hu p hp;simpa using this
    ·rfl
 ·rename_i hsh;split at h
  case isFalse => cases h
  rename_i hp0;split at h
  case h_2 => cases h
  rename_i r H' hc;split at h
  case isFalse => cases h
  rename_i hpl;simp only [Option.some.injEq,Prod.mk.injEq] at h;obtain ⟨rfl,rfl,h⟩ := h;split at h
  ·cases h
  unfold frzLab at h;split at h
  case h_2 => cases h
  rename_i p hbr;split at h
  case isFalse => cases h
  rename_i hnb;split at h
  case h_2 => cases h
  rename_i y hp;obtain ⟨k,xs⟩ := y;simp only [Fq.wr.injEq] at h;obtain ⟨rfl,rfl⟩ := h
  have hfz : ∀ t : St,ownAt t p = some (k,xs) -> frzAll (borL args) t = setAt (mapSt (fb p k xs) t) p (.list k xs) := fun t ht => by
   rw [hbr];simp only [frzAll,frzP,ht]
  rw [hfz s hp];refine wr_frz hnb hp fun t ht hpt => ?_;rw [hb'];unfold doCallB;rw [inpB_none hi,locB_none hl];simp only [doCallM,movB_none hmv];apply doCallP_of;unfold doCallO;rw [getArgs_congr (e1 := t.env) (e2 := s.env) fun i hi => by rw [ht i hi],ha];simp only [hf,hm,Bool.false_eq_true,if_false];rw [hfz t hpt];rw [hfz s hp] at ha1
  have hk : getArgs c (setAt (mapSt (fb p k xs) t) p (.list k xs)).env kd = some (f1,args1) := by
   rw [<- ha1];refine getArgs_congr fun i hi => ?_
   have e0 : get (mapSt (fb p k xs) t).env i = get (mapSt (fb p k xs) s).env i := by
    show get (mapE (fb p k xs) t.env) i = get (mapE (fb p k xs) s.env) i;rw [get_mapE,get_mapE,ht i hi]
   have e1 : get (setAt (mapSt (fb p k xs) t) p (.list k xs)).env i = get (setAt (mapSt (fb p k xs) s) p (.list k xs)).env i := by
    by_cases hr : i ∈ rootOf p
    ·cases p with
     | s i0 =>
       simp [rootOf] at hr; subst hr;simp only [setAt];rw [get_put,get_put,if_pos rfl,if_pos rfl]
     | sc i0 j =>
       simp [rootOf] at hr; subst hr;simp only [setAt,e0];split
       ·rw [get_put,get_put,if_pos rfl,if_pos rfl]
       ·exact e0
     | c b j => simp [rootOf] at hr
    ·rw [setAt_get hr,setAt_get hr]; exact e0
   rw [e1]
  rw [hk];simp only [hff,if_true,hsh,Bool.false_eq_true,if_false,hp0,hc,hpl];simp [hbr,frzLab,hpt,hnb]
theorem inCells_no {b off k : Nat} : ∀ {s : St} {v : AV},anyB (inCells b off k) s v = false -> (∀ i,∀ p ∈ borOf (get s.env i),inCells b off k p = false) /\ (∀ d cs,blk s.H d = some cs -> ∀ p ∈ borL cs,inCells b off k p = false) /\ ∀ p ∈ borOf v,inCells b off k p = false := by
 intro s v h;simp only [anyB,Bool.or_eq_false_iff] at h;obtain ⟨h1,h2,h3⟩ := h;refine ⟨fun i p hp => ?_,fun d cs hb => anyH_blk h3 hb,fun p hp => ?_⟩
 ·cases hh : inCells b off k p with
  | false => rfl
  | true => rw [anyE_get (i := i) (anyR_iff.2 ⟨p,hp,hh⟩)] at h2; cases h2
 ·cases hh : inCells b off k p with
  | false => rfl
  | true => rw [anyR_iff.2 ⟨p,hp,hh⟩] at h1; cases h1
theorem hdr_box {p : Rt} {b : Nat} (h : boxIn b (hdrOf p) = false) : b ∉ boxOf p := by
 cases p with
 | s i => simp [boxOf]
 | sc i j => simp [boxOf]
 | c d j =>
   have := (boxIn_cell h).2 99999;simp only [hdrOf,boxOf,List.mem_singleton] at this ⊢;intro e;subst e;exact this rfl
theorem SeenC.of_cell {b j : Nat} {s t : St} (h : ∀ cs,blk s.H b = some cs -> ∃ ds,blk t.H b = some ds /\ ds[j]? = cs[j]?) : SeenC b j s t := fun cs hc => by
 obtain ⟨ds,a,e⟩ := h cs hc;exact ⟨ds,a,lendC_get0 _ e⟩
theorem setAt_seen {s : St} {p : Rt} {k : Nat} {xs xs' : List AV} (hp : ownAt s p = some (k,xs)) (hl : xs'.length = xs.length) (b j : Nat) : SeenC b j s (setAt s p (.own k xs')) /\ SeenC b j (setAt s p (.own k xs')) s := by
 cases p with
 | s i => exact ⟨.of_eq rfl,.of_eq rfl⟩
 | sc i l =>
   have e : (setAt s (.sc i l) (.own k xs')).H = s.H := by simp only [setAt]; split <;> rfl
   exact ⟨.of_eq (by rw [e]),.of_eq (by rw [e])⟩
 | c d l =>
   have h1 := ownAt_iff.1 hp;simp only [at_] at h1;split at h1
   case h_2 => cases h1
   rename_i cs hcs;have e : (setAt s (.c d l) (.own k xs')).H = s.H.set d (some (cs.set l (.own k xs'))) := by simp only [setAt,hcs]
   have hb : ∀ c,blk (setAt s (.c d l) (.own k xs')).H c = if c = d then some (cs.set l (.own k xs')) else blk s.H c := fun c => by
    rw [e,blk_set];by_cases q : c = d
    ·rw [if_pos ⟨q,by subst q; exact blk_lt hcs⟩,if_pos q]
    ·rw [if_neg (fun h => q h.1),if_neg q]
   by_cases q : b = d
   ·subst q;have lc := lendC_set (f := fun i => Rt.c b i) (j := 0) h1 hl;refine ⟨fun ds hds => ⟨_,by rw [hb,if_pos rfl],?_⟩,fun ds hds => ⟨cs,hcs,?_⟩⟩
    ·rw [hcs] at hds; cases hds;exact congrArg (·[j]?) lc
    ·rw [hb,if_pos rfl] at hds; cases hds;exact (congrArg (·[j]?) lc).symm
   ·exact ⟨.of_eq (by rw [hb,if_neg q]),.of_eq (by rw [hb,if_neg q])⟩
theorem wr_st {s s1 : St} {k : Nat} {x y : E} {v : AV} {sl : List Nat} {bs : Option (List Nat)} (h : opB c call s (.st k x y) = some (v,s1,.wr sl bs)) : ∃ V,WrOp c call s (.st k x y) v s1 sl bs V := by
 have hcg : ∀ {d : Nat} {u : AV} {e : Env},(∀ i,get e i = if i = d then u else get s.env i) -> d ∉ (Kd.st k x y).reads -> opnd c e x = opnd c s.env x /\ opnd c e y = opnd c s.env y := by
  intro d u e he hd;simp only [Kd.reads,List.mem_append,not_or] at hd;exact ⟨opnd_congr fun i hi => by rw [he,if_neg]; intro e; subst e; exact hd.1 hi,opnd_congr fun i hi => by rw [he,if_neg]; intro e; subst e; exact hd.2 hi⟩
 have hpe : ∀ {d : Nat} {u : AV},∀ i,get (put s.env d u) i = if i = d then u else get s.env i := fun i => get_put _ _ _ _;simp only [opB] at h;split at h
 ·rename_i k' p i off hx;split at h
  case h_2 => cases h
  rename_i s2 f hh;simp only [Option.some.injEq,Prod.mk.injEq] at h;obtain ⟨rfl,rfl,h⟩ := h
  have he : borOf (opnd c s.env y) = [] := by
   cases hb : borOf (opnd c s.env y) with
   | nil => rfl
   | cons a b => rw [hb] at h; simp at h
  rw [he] at h hh;simp at h;subst h;rw [show frzAll [] s = s from rfl,hx] at hh;simp only [stB] at hh;split at hh
  case h_2 => cases hh
  rename_i k2 xs hp;split at hh
  case isFalse => cases hh
  rename_i hk;split at hh
  case h_2 => cases hh
  rename_i z hz;by_cases hc : (opnd c s.env y).cells.length = k /\ off + k <= k' /\ fzL (opnd c s.env y).cells = true
  case neg => rw [if_neg hc] at hh; cases hh
  rw [if_pos hc] at hh;simp only [Option.some.injEq,Prod.mk.injEq,Fq.wr.injEq] at hh;obtain ⟨rfl,rfl,rfl⟩ := hh;have hroot := own_root hp;refine ⟨fun _ => False,⟨fun i _ hi => setAt_get fun hm => hi (marks_mem.2 hm),fun i _ => setAt_lend (hk ▸ hp) (List.length_set ..) i,(fun i h1 h2 => setAt_get fun hi => by rw [hroot i hi] at h1; cases h1),fun l hl b hb => (by cases hl; exact setAt_blk (hdr_box hb)),fun l hl b j hb hbj => (by cases hl; exact setAt_seen (hk ▸ hp) (List.length_set ..) b j),fun i hi => ⟨fun _ _ => id,id,fun _ => id⟩,fun l hl b hb hb2 cs hcs => ⟨fun _ _ => id,fun _ _ => id⟩,fun l hl b j _ _ _ cs c0 _ _ => ⟨fun _ _ => id,fun _ _ _ => id⟩,fun d u hd _ hds0 hu => ?_⟩⟩;have hds : d ∉ rootOf p := fun hm => hds0 (marks_mem.2 hm);obtain ⟨e1,e2⟩ := hcg (hpe (d := d) (u := u)) hd;refine ⟨⟨put s.env d u,s.H⟩,_,marks (rootOf p),Same.rfl',?_,fun i hi => hi,setAt_put hds⟩;simp only [opB,e1,hx,e2,he];rw [show frzAll [] ⟨put s.env d u,s.H⟩ = (⟨put s.env d u,s.H⟩ : St) from rfl,e1,hx,e2];simp only [stB,ownAt_pute hds,hp,hk,if_true,hz];rw [if_pos hc];simp
 ·rename_i hnp;split at h
  case h_2 => cases h
  rename_i s2 f hh;simp only [Option.some.injEq,Prod.mk.injEq] at h;obtain ⟨rfl,rfl,rfl⟩ := h;unfold stB at hh;split at hh
  ·rename_i b off hx;unfold stBox at hh;split at hh
   case h_2 => cases hh
   rename_i cs hb;split at hh
   case isFalse => cases hh
   rename_i hc;split at hh
   ·split at hh
    ·split at hh <;> simp at hh
    ·cases hh
   ·rename_i hany;simp only [Option.some.injEq,Prod.mk.injEq,Fq.wr.injEq] at hh;obtain ⟨rfl,rfl,rfl⟩ := hh
    have hany' : hasOwnL ((cs.drop off).take k) = true -> anyB (inCells b off k) s (opnd c s.env y) = false := fun ho => by
     rw [ho] at hany; simpa using hany
    apply WrOp0.up;refine ⟨fun p => hasOwnL ((cs.drop off).take k) = true /\ inCells b off k p = true,⟨fun i hi _ => rfl,fun i hi => rfl,fun i h1 h2 => rfl,fun l hl d hd => ?_,fun i hi => ⟨fun p hp hV => ?_,fun hV => by simp [inCells] at hV,fun j hV => by simp [inCells] at hV⟩,fun l hl d hd hd2 ds hds => ⟨fun p hp hV => ?_,fun _ j hV => ?_⟩,fun d u hd hds _ hu => ?_⟩⟩
    ·cases hl;have : d ≠ b := by simpa using hd
     show blk (s.H.set b _) d = blk s.H d;rw [blk_set,if_neg (fun e => this e.1)]
    ·rw [(inCells_no (hany' hV.1)).1 i p hp] at hV; cases hV.2
    ·rw [(inCells_no (hany' hV.1)).2.1 d ds hds p hp] at hV; cases hV.2
    ·cases hl;have : d ≠ b := by simpa using hd
     simp [inCells,this] at hV
    ·let t0 : St := nrmS ⟨put s.env d u,s.H⟩
     have hg : ∀ i,get t0.env i = if i = d then u else get s.env i := fun i => by rw [get_nrmS,get_put]
     have hH : t0.H = s.H := rfl;obtain ⟨e1,e2⟩ := hcg hg hd;refine ⟨t0,⟨t0.env,s.H.set b (some (ovw cs off (opnd c s.env y).cells))⟩,[],(nrmS_same _).symm,?_,fun i hi => hi,(nrmS_same _).symm.1,rfl⟩
     have hfast : (hasOwnL ((cs.drop off).take k) && anyB (inCells b off k) t0 (opnd c s.env y)) = false := by
      cases ho : hasOwnL ((cs.drop off).take k) with
      | false => rfl
      | true =>
        obtain ⟨n1,n2,n3⟩ := inCells_no (hany' ho)
        have nR : ∀ {l : List Rt},(∀ p ∈ l,inCells b off k p = false) -> anyR (inCells b off k) l = false := by
         intro l hl;cases hh : anyR (inCells b off k) l with
         | false => rfl
         | true => obtain ⟨p,hp,hq⟩ := anyR_iff.1 hh; rw [hl p hp] at hq; cases hq
        have h0 := hany' ho;simp only [anyB,Bool.or_eq_false_iff] at h0;simp only [anyB,Bool.true_and,Bool.or_eq_false_iff];refine ⟨h0.1,?_,by rw [hH]; exact h0.2.2⟩;cases hh : anyE (inCells b off k) t0.env with
        | false => rfl
        | true =>
          obtain ⟨i,_,h2⟩ := anyE_nrm hh;have : get (put s.env d u) i = get t0.env i := (get_nrmS ⟨put s.env d u,s.H⟩ i).symm;simp only [this,hg] at h2;split at h2
          ·obtain ⟨p,hp,hq⟩ := anyR_iff.1 h2;exact absurd ⟨ho,hq⟩ (hu p hp)
          ·rw [nR (n1 i)] at h2; cases h2
     simp only [opB,e1,hx,e2,stB,stBox,hH,hb];rw [if_pos hc];simp only [hfast,Bool.false_eq_true,if_false]
  ·rename_i k2 p2 i2 off2 e1;exact absurd e1 (hnp k2 p2 i2 off2)
  ·cases hh
theorem rootsL_get {q : Rt} : ∀ {l : List Rt},q ∈ l -> ∀ i ∈ rootOf q,i ∈ rootsL l
 | [],h,i,_ => by simp at h
 | r :: l,h,i,hi => by
   simp only [rootsL,List.mem_append];rcases List.mem_cons.1 h with e | e
   ·subst e; exact .inl hi
   ·exact .inr (rootsL_get e i hi)
theorem cont_put {s t : St} {k : Nat} {x : AV} (h : ∀ p ∈ borOf x,ownAt t p = ownAt s p) : cont t k x = cont s k x := by
 cases x <;> try rfl
 case bor k' p off len => simp only [cont]; rw [h p (by simp [borOf])]
 case own k' xs => cases xs <;> rfl
theorem sw_fix {p : Rt} {x : AV} (h : p ∉ borOf x) : mapB (sw p) x = x := mapB_fix x fun k q o l hq => by
 have : q ≠ p := fun e => h (e ▸ hq);simp [sw,this]
theorem sw_fixL {p : Rt} {x : List AV} (h : p ∉ borL x) : mapBL (sw p) x = x := mapBL_fix x fun k q o l hq => by
 have : q ≠ p := fun e => h (e ▸ hq);simp [sw,this]
theorem cellOf_box {p : Rt} {b : Nat} {m : List Nat} (h : boxIn b (cellOf p ++ m) = false) : b ∉ boxOf p := by
 intro hb;cases p with
 | s i => simp [boxOf] at hb
 | sc i j => simp [boxOf] at hb
 | c d j =>
   simp [boxOf] at hb;subst hb;exact (boxIn_cell h).2 j (by simp [cellOf])
theorem wr_app {s s1 : St} {k : Nat} {x y : E} {v : AV} {sl : List Nat} {bs : Option (List Nat)} (h : opB c call s (.app k x y) = some (v,s1,.wr sl bs)) : ∃ V,WrOp c call s (.app k x y) v s1 sl bs V := by
 simp only [opB] at h;split at h
 case h_2 => cases h
 rename_i ys hy;split at h
 case isFalse => cases h
 rename_i hl;split at h
 ·split at h <;> simp at h
 case h_3 => cases h
 rename_i k' p len hx;split at h
 case h_2 => cases h
 rename_i k2 xs hp;split at h
 case isFalse => cases h
 rename_i hc;simp only [Option.some.injEq,Prod.mk.injEq,Fq.wr.injEq] at h;obtain ⟨rfl,rfl,rfl,rfl⟩ := h;have hroot := own_root hp;have rootSee : ∀ i ∈ rootOf p,i ∈ seesP p s.env := fun i hi => seesP_get (.inr ⟨isRoot_root.2 hi,fun e => by have := hroot i hi; rw [e] at this; cases this⟩);have notSee : ∀ {i : Nat},i ∉ seesP p s.env -> p ∉ borOf (get s.env i) /\ i ∉ rootOf p := fun {i} hi => ⟨fun e => hi (seesP_get (.inl (inRt_iff.2 e))),fun e => hi (rootSee i e)⟩
 have envOf : ∀ i,p ∉ borOf (get s.env i) -> i ∉ rootOf p -> get (setAt (mapSt (sw p) s) p .any).env i = get s.env i := fun i h1 h2 => by
  rw [setAt_get h2];show get (mapE (sw p) s.env) i = _;rw [get_mapE,sw_fix h1]
 refine ⟨fun q => q = p,⟨fun i hi _ => ?_,fun i hi => ?_,fun i h1 h2 => ?_,fun l hl b hb => ?_,fun l hl b j hb hbj => ?_,fun i hi => ⟨fun q hq e => ?_,fun e => ?_,fun j e => ?_⟩,fun l hl b hb hb2 cs hcs => ⟨fun q hq e => ?_,fun _ j e => ?_⟩,fun l hl b j hb hb2 hbj cs c0 hcs hc0 => ⟨fun q hq e => ?_,fun k0 xs0 e0 e => ?_⟩,fun d u hd hds hds2 hu => ?_⟩⟩
 ·obtain ⟨h1,h2⟩ := notSee (notmem_app hi).1;exact envOf i h1 h2
 ·obtain ⟨h1,h2⟩ := notSee (notmem_app hi).1;rw [envOf i h1 h2]
 ·exact envOf i (by rw [h2]; simp) fun hi => by rw [hroot i hi] at h1; cases h1
 ·cases hl;have hb1 : b ∉ boxOf p := cellOf_box hb;have hb2 := (notmem_app (boxIn_cell hb).1).2;rw [setAt_blk hb1];show blk (mapH (sw p) s.H) b = _;rw [blk_mapH];cases hcs : blk s.H b with
  | none => rfl
  | some cs =>
    simp only [Option.map_some,Option.some.injEq];refine sw_fixL fun hm => hb2 ?_;have := seesB_get (k := 0) hcs hm;simpa using this
 ·cases hl;obtain ⟨hb1,hb2⟩ := notmem_app hb;obtain ⟨hj1,_⟩ := notmem_app hbj
  have hsw : ∀ cs,blk s.H b = some cs -> mapBL (sw p) cs = cs := fun cs hcs => sw_fixL fun hm => hb2 (by
   have := seesB_get (k := 0) hcs hm;simpa using this)
  have hn : blk s.H b = none -> blk (setAt (mapSt (sw p) s) p .any).H b = none := fun hn => by
   cases p with
   | s i => show blk (mapH (sw _) s.H) b = none; rw [blk_mapH,hn]; rfl
   | sc i l =>
     simp only [setAt];split <;> (show blk (mapH (sw _) s.H) b = none; rw [blk_mapH,hn]; rfl)
   | c d l =>
     simp only [setAt];split
     ·rename_i cs hcs;have hcs' : blk (mapH (sw (.c d l)) s.H) d = some cs := hcs;show blk ((mapH (sw (.c d l)) s.H).set d _) b = none;rw [blk_set];by_cases e : b = d
      ·subst e; rw [blk_mapH,hn] at hcs'; cases hcs'
      ·rw [if_neg (fun h => e h.1),blk_mapH,hn]; rfl
     ·show blk (mapH (sw _) s.H) b = none; rw [blk_mapH,hn]; rfl
  have hs : ∀ cs,blk s.H b = some cs -> ∃ ds,blk (setAt (mapSt (sw p) s) p .any).H b = some ds /\ ds[j]? = cs[j]? := fun cs hcs => by
   have hm : blk (mapH (sw p) s.H) b = some cs := by rw [blk_mapH,hcs,Option.map_some,hsw cs hcs]
   cases p with
   | s i => exact ⟨cs,hm,rfl⟩
   | sc i l =>
     simp only [setAt];split <;> exact ⟨cs,hm,rfl⟩
   | c d l =>
     simp only [setAt];split
     ·rename_i es hes;have hes' : blk (mapH (sw (.c d l)) s.H) d = some es := hes;show ∃ ds,blk ((mapH (sw (.c d l)) s.H).set d _) b = some ds /\ _;rw [blk_set];by_cases e : b = d
      ·subst e;rw [hm] at hes';cases hes';refine ⟨cs.set l .any,by rw [if_pos ⟨rfl,blk_lt hm⟩],?_⟩;rw [List.getElem?_set_ne];intro e2;subst e2;exact hj1 (by simp [cellOf])
      ·rw [if_neg (fun h => e h.1)];exact ⟨cs,hm,rfl⟩
     ·exact ⟨cs,hm,rfl⟩
  refine ⟨.of_cell hs,.of_cell fun ds hds => ?_⟩;cases hcs : blk s.H b with
  | none => rw [hn hcs] at hds; cases hds
  | some cs =>
    obtain ⟨ds',h1,h2⟩ := hs cs hcs;rw [h1] at hds;cases hds;exact ⟨cs,rfl,h2.symm⟩
 ·subst e;exact (notSee (notmem_app hi).1).1 hq
 ·subst e;exact (notSee (notmem_app hi).1).2 (by simp [rootOf])
 ·subst e;exact (notSee (notmem_app hi).1).2 (by simp [rootOf])
 ·subst e;cases hl;obtain ⟨hb1,hb2⟩ := notmem_app (boxIn_cell hb).1;have := seesB_get (k := 0) hcs hq;exact hb2 (by simpa using this)
 ·subst e;cases hl;exact cellOf_box hb (by simp [boxOf])
 ·subst e;cases hl;obtain ⟨hb1,hb2⟩ := notmem_app hb;have := seesB_get (k := 0) hcs (mem_borL.2 ⟨c0,List.mem_of_getElem? hc0,hq⟩);exact hb2 (by simpa using this)
 ·subst e;cases hl;exact (notmem_app hbj).1 (by simp [cellOf])
 ·have hd1 := (notmem_app hds).1;have hd2 : d ∉ rootsL (borOf (opnd c s.env y)) := fun hm => (notmem_app hds2).2 (marks_mem.2 hm);obtain ⟨hd3,hd4⟩ := notSee hd1
  let t0 : St := nrmS ⟨put s.env d u,s.H⟩
  have hsame : Same t0 ⟨put s.env d u,s.H⟩ := (nrmS_same _).symm;have hg : ∀ i,get t0.env i = if i = d then u else get s.env i := fun i => by rw [get_nrmS,get_put]
  have hH : t0.H = s.H := rfl;simp only [Kd.reads,List.mem_append,not_or] at hd;have e1 : opnd c t0.env x = opnd c s.env x := opnd_congr fun i hi => by rw [hg,if_neg]; intro e; subst e; exact hd.1 hi
  have e2 : opnd c t0.env y = opnd c s.env y := opnd_congr fun i hi => by rw [hg,if_neg]; intro e; subst e; exact hd.2 hi
  have own : ∀ q,d ∉ rootOf q -> ownAt t0 q = ownAt s q := fun q hq => by rw [<- hsame.own q]; exact ownAt_pute hq
  have e3 : cont t0 k (opnd c s.env y) = cont s k (opnd c s.env y) := cont_put fun q hq => own q fun hr => hd2 (rootsL_get hq d hr);have hu' : p ∉ borOf u := fun hm => hu p hm rfl;refine ⟨t0,setAt (mapSt (sw p) t0) p .any,seesP p t0.env ++ marks (rootsL (borOf (opnd c s.env y))),hsame,?_,fun i hi => ?_,?_⟩
  ·simp only [opB,e1,e2,e3,hy,hl,if_true,hx,own p hd4,hp];rw [if_pos hc];rfl
  ·rcases List.mem_append.1 hi with hi | hi
   ·obtain ⟨_,h2⟩ := seesP_nrm hi;have : get (put s.env d u) i = get t0.env i := (get_nrmS ⟨put s.env d u,s.H⟩ i).symm;simp only [this,hg] at h2;refine List.mem_append.2 (.inl ?_);rcases h2 with h2 | h2
    ·split at h2
     ·exact absurd (inRt_iff.1 h2) hu'
     ·exact seesP_get (.inl h2)
    ·exact rootSee i (isRoot_root.1 h2)
   ·exact List.mem_append.2 (.inr hi)
  ·have h5 : Same (mapSt (sw p) t0) ⟨put (mapSt (sw p) s).env d u,(mapSt (sw p) s).H⟩ := ⟨fun i => by
    show get (mapE (sw p) t0.env) i = get (put (mapE (sw p) s.env) d u) i;rw [get_mapE,hg,get_put,get_mapE];split
    ·exact sw_fix hu'
    ·rfl,rfl⟩
   exact (setAt_same h5 p .any).trans (setAt_put hd4)
theorem wr_eat {s s1 : St} {f : Nat} {x : E} {es : List E} {g : Nat -> List AV -> List AV -> Option (List AV)} {v : AV} {sl : List Nat} {bs : Option (List Nat)} (hi : c.inp f = none) (hgf : c.eat f = some g) (h : eatV s g (opnd c s.env x) (opnds c s.env es) = some (v,s1,.wr sl bs)) : ∃ V,WrOp c call s (.call f (x :: es)) v s1 sl bs V := by unfold eatV at h;cases h
theorem wr_inp {s s1 : St} {kd : Kd} {v : AV} {sl : List Nat} {bs : Option (List Nat)} (hni : ∀ f x es,kd = .call f (x :: es) -> c.inp f ≠ none) (hb' : ∀ t,opB c call t kd = doCallB c call kd t) (h : inpB c s kd = some (some (v,s1,.wr sl bs))) : ∃ V,WrOp0 c call s kd v s1 sl bs V := by
 have h0 := h;unfold inpB at h;split at h
 case h_2 => cases h
 rename_i f x es;split at h
 case h_1 =>
  rename_i hin;exact absurd hin (hni _ _ _ rfl)
 rename_i g hgf;simp only [Option.some.injEq] at h;split at h
 case h_4 => cases h
 case h_3 =>
  exfalso
  (repeat' split at h) <;> simp at h
 ·rename_i k hx;split at h
  case isFalse => cases h
  rename_i hpl;split at h
  case h_2 => cases h
  rename_i ys res hgr;simp only [Option.some.injEq,Prod.mk.injEq,Fq.wr.injEq] at h;obtain ⟨rfl,rfl,rfl,rfl⟩ := h;refine ⟨fun _ => False,⟨fun i hi _ => rfl,fun i hi => rfl,fun i h1 h2 => rfl,fun l hl b hb => rfl,fun i hi => ⟨fun _ _ => id,id,fun _ => id⟩,fun l hl b hb hb2 cs hcs => ⟨fun _ _ => id,fun _ _ => id⟩,fun d u hd hds _ hu => ?_⟩⟩;have hpe : ∀ i,get (put s.env d u) i = if i = d then u else get s.env i := fun i => get_put _ _ _ _;simp only [Kd.reads,slots,List.mem_append,not_or] at hd;have e1 : opnd c (put s.env d u) x = opnd c s.env x := opnd_congr fun i hi => by rw [hpe,if_neg]; intro e; subst e; exact hd.1 hi
  have e2 : opnds c (put s.env d u) es = opnds c s.env es := opnds_congr fun i hi => by rw [hpe,if_neg]; intro e; subst e; exact hd.2 hi
  refine ⟨⟨put s.env d u,s.H⟩,⟨put s.env d u,s.H⟩,[],Same.rfl',?_,fun i hi => hi,Same.rfl'⟩;rw [hb'];unfold doCallB inpB;simp only [hgf,e1,hx,e2];rw [if_pos hpl];simp only [hgr]
 rename_i k p len hx;split at h
 case h_2 => cases h
 rename_i k' xs hp;split at h
 case isFalse => cases h
 rename_i hc;split at h
 case h_2 => cases h
 rename_i ys res hgr;simp only [Option.some.injEq,Prod.mk.injEq,Fq.wr.injEq] at h;obtain ⟨rfl,rfl,rfl,rfl⟩ := h;have hroot := own_root hp;refine ⟨fun _ => False,⟨fun i hi _ => setAt_get hi,(fun i hi => by rw [setAt_get hi]),(fun i h1 h2 => setAt_get fun hi => by rw [hroot i hi] at h1; cases h1),fun l hl b hb => (by cases hl; exact setAt_blk hb),fun i hi => ⟨fun _ _ => id,id,fun _ => id⟩,fun l hl b hb hb2 cs hcs => ⟨fun _ _ => id,fun _ _ => id⟩,fun d u hd hds _ hu => ?_⟩⟩;have hpe : ∀ i,get (put s.env d u) i = if i = d then u else get s.env i := fun i => get_put _ _ _ _;simp only [Kd.reads,slots,List.mem_append,not_or] at hd;have e1 : opnd c (put s.env d u) x = opnd c s.env x := opnd_congr fun i hi => by rw [hpe,if_neg]; intro e; subst e; exact hd.1 hi
 have e2 : opnds c (put s.env d u) es = opnds c s.env es := opnds_congr fun i hi => by rw [hpe,if_neg]; intro e; subst e; exact hd.2 hi
 refine ⟨⟨put s.env d u,s.H⟩,_,rootOf p,Same.rfl',?_,fun i hi => hi,setAt_put hds⟩;rw [hb'];unfold doCallB inpB;simp only [hgf,e1,hx,ownAt_pute hds,hp,e2];rw [if_pos hc];simp only [hgr]
theorem wr_copy {s s1 : St} {k : Nat} {x y : E} {v : AV} {sl : List Nat} {bs : Option (List Nat)} (h : opB c call s (.copy k x y) = some (v,s1,.wr sl bs)) : ∃ V,WrOp0 c call s (.copy k x y) v s1 sl bs V := by
 have hb' : ∀ t,opB c call t (.copy k x y) = match opnd c t.env x with
   | .bor k' p off n => if n = 0 then (match cont t k (opnd c t.env y) with
     | some ys => if k' = k /\ allLeaf (flatCells ys) = true then some (.int .i64 0,t,.all) else none
     | none => none) else match ownAt t p,cont t k (opnd c t.env y) with
     | some (k'',xs),some ys => if k' = k /\ k'' = k /\ off + n <= xs.length /\ allLeaf (flatCells ys) = true then some (.int .i64 (min ys.length n : Nat),setAt t p (.own k (ovw xs off (ys.take (min ys.length n)))),cpLab p (opnd c t.env y)) else none
     | _,_ => none
   | _ => none := fun t => rfl
 rw [hb'] at h;split at h
 case h_2 => cases h
 rename_i k' p off n hx;split at h
 ·exfalso
  (repeat' split at h) <;> simp at h
 rename_i hn;split at h
 case h_2 => cases h
 rename_i k'' xs ys hp hy;split at h
 case isFalse => cases h
 rename_i hc;simp only [Option.some.injEq,Prod.mk.injEq] at h;obtain ⟨rfl,rfl,hl⟩ := h;rcases cpLab_or p (opnd c s.env y) with e | ⟨ky,oy,ly,ey,e⟩
 ·rw [e] at hl; cases hl
 rw [e] at hl;simp only [Fq.wr.injEq] at hl;obtain ⟨rfl,rfl⟩ := hl;have hroot := own_root hp;refine ⟨fun _ => False,⟨fun i hi _ => setAt_get hi,(fun i hi => by rw [setAt_get hi]),(fun i h1 h2 => setAt_get fun hi => by rw [hroot i hi] at h1; cases h1),fun l hl b hb => (by cases hl; exact setAt_blk hb),fun i hi => ⟨fun _ _ => id,id,fun _ => id⟩,fun l hl b hb hb2 cs hcs => ⟨fun _ _ => id,fun _ _ => id⟩,fun d u hd hds _ hu => ?_⟩⟩;have hpe : ∀ i,get (put s.env d u) i = if i = d then u else get s.env i := fun i => get_put _ _ _ _;simp only [Kd.reads,slots,List.mem_append,not_or] at hd;have e1 : opnd c (put s.env d u) x = opnd c s.env x := opnd_congr fun i hi => by rw [hpe,if_neg]; intro e; subst e; exact hd.1 hi
 have e2 : opnd c (put s.env d u) y = opnd c s.env y := opnd_congr fun i hi => by rw [hpe,if_neg]; intro e; subst e; exact hd.2 hi
 have e3 : cont (⟨put s.env d u,s.H⟩ : St) k (opnd c s.env y) = cont s k (opnd c s.env y) := by
  rw [ey];simp only [cont,ownAt_pute hds]
 refine ⟨⟨put s.env d u,s.H⟩,_,rootOf p,Same.rfl',?_,fun i hi => hi,setAt_put hds⟩;rw [hb'];simp only [e1,hx,ownAt_pute hds,hp,e2,e3,hy];rw [if_neg hn,if_pos hc,e]
theorem wr_inpB {s s1 : St} {kd : Kd} {v : AV} {sl : List Nat} {bs : Option (List Nat)} (hb' : ∀ t,opB c call t kd = doCallB c call kd t) (h : inpB c s kd = some (some (v,s1,.wr sl bs))) : ∃ V,WrOp c call s kd v s1 sl bs V := by
 by_cases hex : ∃ f x es,kd = .call f (x :: es) /\ c.inp f = none
 case neg =>
  exact WrOp0.up (wr_inp (fun f x es e hn => hex ⟨f,x,es,e,hn⟩) hb' h)
 case pos =>
  obtain ⟨f,x,es,rfl,hin⟩ := hex;simp only [inpB,hin] at h;split at h
  ·cases h
  ·rename_i g hgf;simp only [Option.some.injEq] at h;exact wr_eat hin hgf h
theorem wr_callB {s s1 : St} {kd : Kd} {v : AV} {sl : List Nat} {bs : Option (List Nat)} (hb' : ∀ t,opB c call t kd = doCallB c call kd t) (h : opB c call s kd = some (v,s1,.wr sl bs)) : ∃ V,WrOp c call s kd v s1 sl bs V := by
 rw [hb'] at h;unfold doCallB at h;cases hi : inpB c s kd with
 | none =>
   rw [hi] at h;cases hl : locB c call s kd with
   | none =>
     rw [hl] at h;simp only [doCallM] at h;cases hm : movB c call s kd with
     | none =>
       rw [hm] at h;replace h := (doCallP_or h).resolve_right fun h => by obtain ⟨e,_⟩ := snkB_fl h; cases e
       exact WrOp0.up (wr_call hb' hi hl hm h)
     | some r =>
       rw [hm] at h;simp only at h;subst h;obtain ⟨e,_⟩ := movB_fl hm;cases e
   | some r =>
     rw [hl] at h;simp only at h;subst h;obtain ⟨b,e⟩ := locB_fl hl;cases e
 | some r =>
   rw [hi] at h;simp only at h;subst h;exact wr_inpB hb' hi
theorem wrOp {s s1 : St} {kd : Kd} {v : AV} {sl : List Nat} {bs : Option (List Nat)} (h : opB c call s kd = some (v,s1,.wr sl bs)) : ∃ V,WrOp c call s kd v s1 sl bs V := by
 cases kd
 case call => exact wr_callB (fun _ => rfl) h
 case callv => exact wr_callB (fun _ => rfl) h
 case st => exact wr_st h
 case app => exact wr_app h
 case copy => exact WrOp0.up (wr_copy h)
 case ld =>
  exfalso;simp only [opB] at h;split at h
  case h_2 => cases h
  split at h
  case isFalse => cases h
  simp only [Option.some.injEq,Prod.mk.injEq] at h;obtain ⟨_,_,h5⟩ := h;rcases ldLab_or _ _ _ with e | ⟨b,j,e⟩ <;> rw [e] at h5 <;> cases h5
 all_goals
  exfalso;simp only [opB] at h
  (repeat' split at h) <;> simp at h
theorem wrAll : WrAll c call := by
 intro s q v s1 sl bs ⟨hk,s0,t1,e0,he,e1⟩
 have op : opB c call s0 q.kd = some (v,t1,.wr sl bs) -> (∀ t : St,(∀ i ∈ q.reads,get t.env i = get s.env i) -> evB c call t q = opB c call t q.kd) -> ∃ V,WrEv c call s q v s1 sl bs V := by
  intro h hgo;obtain ⟨V,hV⟩ := wrOp h;have hr : ∀ i ∈ q.kd.reads,i ∈ q.reads := fun i hi => by simp [O.reads,hi]
  refine ⟨V,⟨fun i hi hi2 => by rw [<- e1.1,hV.env i hi hi2,e0.1],fun i hi => by rw [<- e1.1,hV.hd i hi,e0.1],fun i h1 h2 => by rw [<- e1.1,hV.keep i (by rw [<- e0.1]; exact h1) (by rw [<- e0.1]; exact h2),e0.1],fun l hl b hb => by rw [<- e1.2,hV.heap l hl b hb,e0.2],fun l hl b j h1 h2 => (by
   have := hV.cell l hl b j h1 h2;unfold SeenC at this ⊢;rw [e0.2,<- e1.2]; exact this),fun i hi => by rw [e0.1]; exact hV.v1 i hi,fun l hl b hb hb2 cs hcs => hV.v2 l hl b hb hb2 cs (by rw [<- e0.2]; exact hcs),fun l hl b j h1 h2 h3 cs c0 hb hc => hV.v3 l hl b j h1 h2 h3 cs c0 (by rw [<- e0.2]; exact hb) hc,fun d u hd hds hds2 hu => ?_⟩⟩
  obtain ⟨t0,t2,sl',h1,h2,h3,h4⟩ := hV.go d u (fun h => hd (hr d h)) hds hds2 hu;have h6 : Same (⟨put s0.env d u,s0.H⟩ : St) ⟨put s.env d u,s.H⟩ := ⟨fun i => by simp only [get_put,e0.1],e0.2.symm⟩;have hs : Same (⟨put s.env d u,s.H⟩ : St) t0 := (h1.trans h6).symm;refine ⟨t2,sl',⟨hk,t0,t2,hs,?_,Same.rfl'⟩,h3,h4.trans ⟨fun i => by simp only [get_put,e1.1],e1.2⟩⟩;rw [hgo t0 fun i hi => ?_]
  ·exact h2
  ·rw [<- hs.1 i];show get (put s.env d u) i = _;rw [get_put,if_neg];intro e; subst e; exact hd hi
 unfold evB at he;cases hg : q.guard with
 | none =>
   rw [hg] at he;exact op he fun t _ => by unfold evB; rw [hg]
 | some gp =>
   obtain ⟨g,want⟩ := gp;rw [hg] at he;simp only at he;have hgr : g ∈ q.reads := by simp [O.reads,hg]
   split at he
   ·rename_i b hb;split at he
    ·rename_i hbw;refine op he fun t h1 => ?_;unfold evB;rw [hg];simp only [h1 g hgr,e0.1 g,hb,hbw,if_true]
    ·cases he
   ·cases he
   ·cases he
theorem lwOp {s s1 : St} {kd : Kd} {v : AV} {b : Nat} (h : opB c call s kd = some (v,s1,.lw b)) : (∀ t,opB c call t kd = doCallB c call kd t) /\ inpB c s kd = none /\ locB c call s kd = some (some (v,s1,.lw b)) := by
 have nc : ∀ {kd : Kd},doCallB c call kd s = some (v,s1,.lw b) -> inpB c s kd = none /\ locB c call s kd = some (some (v,s1,.lw b)) := by
  intro kd h;unfold doCallB at h;cases hi : inpB c s kd with
  | some r =>
    rw [hi] at h;simp only at h;subst h;obtain ⟨sl,bs,e | e⟩ := inpB_fl hi <;> cases e
  | none =>
    rw [hi] at h;cases hl : locB c call s kd with
    | some r =>
      rw [hl] at h;simp only at h;subst h;exact ⟨rfl,rfl⟩
    | none =>
      rw [hl] at h;simp only [doCallM] at h;exfalso;split at h
      ·rename_i r hm;subst h;obtain ⟨e,_⟩ := movB_fl hm;cases e
      replace h := (doCallP_or h).resolve_right fun h => by obtain ⟨e,_⟩ := snkB_fl h; cases e
      unfold doCallO at h
      (repeat' split at h)
      all_goals first
       | (cases h; done)
       | (simp [frzLab_lw] at h; done)
       | (simp at h; obtain ⟨_,_,h5⟩ := h; revert h5; split <;> simp [frzLab_lw]; done)
       | (simp only [Option.some.injEq,Prod.mk.injEq] at h; obtain ⟨_,_,h5⟩ := h; split at h5 <;> cases h5)
 have ns : ∀ {s s' : St} {k : Nat} {a v : AV},stB s k a v ≠ some (s',.lw b) := by
  intro s s' k a v h;unfold stB stBox at h
  repeat' split at h
  all_goals first
   | (cases h; done)
   | (simp at h; done)
 cases kd
 case call => exact ⟨fun _ => rfl,nc h⟩
 case callv => exact ⟨fun _ => rfl,nc h⟩
 case st k a v =>
  exfalso;simp only [opB] at h;split at h
  ·split at h
   case h_2 => cases h
   rename_i hh;simp only [Option.some.injEq,Prod.mk.injEq] at h;obtain ⟨_,_,h5⟩ := h;split at h5
   ·rw [h5] at hh; exact ns hh
   ·cases h5
  ·split at h
   case h_2 => cases h
   rename_i hh;simp only [Option.some.injEq,Prod.mk.injEq] at h;obtain ⟨_,_,h5⟩ := h;rw [h5] at hh;exact ns hh
 all_goals
  exfalso;simp only [opB] at h
  (repeat' split at h)
  all_goals first
   | (cases h; done)
   | (simp at h; done)
   | (simp at h; obtain ⟨_,_,h5⟩ := h; rcases ldLab_or _ _ _ with e | ⟨b,j,e⟩ <;> rw [e] at h5 <;> cases h5; done)
   | (simp at h; obtain ⟨_,_,h5⟩ := h; rcases cpLab_or _ _ with e | ⟨_,_,_,_,e⟩ <;> rw [e] at h5 <;> cases h5; done)
   | (simp at h; obtain ⟨_,_,h5⟩ := h; revert h5; split <;> simp)
theorem lwAll : LwAll c call := by
 intro s q v s1 b ⟨hk,s0,t1,e0,he,e1⟩
 have op : opB c call s0 q.kd = some (v,t1,.lw b) -> (∀ t : St,(∀ i ∈ q.reads,get t.env i = get s.env i) -> evB c call t q = opB c call t q.kd) -> ∃ cs cs',LwEv c call s q v s1 b cs cs' := by
  intro h hgo;obtain ⟨hb',hi,hl⟩ := lwOp h;obtain ⟨f,x,es,b',md,q',cs,cs',hkd,h1,h2,h3,h4,h5,h6,h7,h8,h9⟩ := locB_get hl;simp only [Fq.lw.injEq] at h9;subst h9;have hin : ∀ i ∈ slots (x :: es),i ∈ q.reads := fun i hi => by simp [O.reads,hkd,Kd.reads,hi]
  refine ⟨cs,cs',⟨by rw [e0.2]; exact h4,?_,fun t ht hbt => ?_⟩⟩
  ·refine e1.symm.trans ?_;rw [h8];exact ⟨fun i => (e0.1 i).symm,by show s0.H.set b (some cs') = s.H.set b (some cs'); rw [e0.2]⟩
  ·refine ⟨hk,t,⟨t.env,t.H.set b (some cs')⟩,Same.rfl',?_,Same.rfl'⟩;rw [hgo t ht,hb'];unfold doCallB;rw [inpB_none hi t]
   have hlt : locB c call t q.kd = some (some (v,⟨t.env,t.H.set b (some cs')⟩,.lw b)) := by
    have e2 : opnd c t.env x = opnd c s0.env x := opnd_congr fun i hi => by rw [ht i (hin i (by simp [slots,hi])),e0.1 i]
    have e3 : opnds c t.env es = opnds c s0.env es := opnds_congr fun i hi => by rw [ht i (hin i (by simp [slots,hi])),e0.1 i]
    rw [hkd];unfold locB;simp only;rw [if_pos h1];unfold locV;rw [e2,e3,h2];simp only [h3,hbt];rw [if_pos h5,h6];simp only;rw [if_pos h7]
   rw [hlt]
 unfold evB at he;cases hg : q.guard with
 | none =>
   rw [hg] at he;exact op he fun t _ => by unfold evB; rw [hg]
 | some gp =>
   obtain ⟨g,want⟩ := gp;rw [hg] at he;simp only at he;have hgr : g ∈ q.reads := by simp [O.reads,hg]
   split at he
   ·rename_i b hb;split at he
    ·rename_i hbw;refine op he fun t h1 => ?_;unfold evB;rw [hg];simp only [h1 g hgr,e0.1 g,hb,hbw,if_true]
    ·cases he
   ·cases he
   ·cases he
theorem drawOK (hok : CfgOKB P c) (hops : OpsOK P c call) : DrawOK P c call := draw_comm hok hops (commTS calmAll wrAll lwAll)
end
end Go.Bm

/- The end of a function that sees boxes of others. -/
namespace Go.Bm
open Go.Am
mutual
theorem plp_ok {o o' : Rt -> Option (Nat × List AV)} {nb nb' : Nat} (hn : nb <= nb') : ∀ x,plp x = true -> okV o nb x -> okV o' nb' x
 | .ptr b off,_,h => by simp only [okV] at h ⊢; omega
 | .agg cs,hp,h => by simp only [plp] at hp; simp only [okV] at h ⊢; exact plp_okL hn cs hp h
 | .tup cs,hp,h => by simp only [plp] at hp; simp only [okV] at h ⊢; exact plp_okL hn cs hp h
 | .func f a b,hp,h => by simp only [plp,Bool.and_eq_true] at hp; simp only [okV] at h ⊢; exact ⟨plp_okL hn a hp.1 h.1,plp_okL hn b hp.2 h.2⟩
 | .own _ _,hp,_ => by simp [plp] at hp
 | .bor _ _ _ _,hp,_ => by simp [plp] at hp
 | .pto _ _ _ _,hp,_ => by simp [plp] at hp
 | .sl _ b _ _,_,h => by simp only [okV] at h ⊢; omega
 | .any,_,_ => trivial | .undef,_,_ => trivial | .nilp,_,_ => trivial | .nilf,_,_ => trivial | .nils,_,_ => trivial
 | .int _ _,_,_ => trivial | .bool _,_,_ => trivial | .str _,_,_ => trivial | .list _ _,_,_ => trivial | .fptr _,_,_ => trivial
theorem plp_okL {o o' : Rt -> Option (Nat × List AV)} {nb nb' : Nat} (hn : nb <= nb') : ∀ xs,plpL xs = true -> okL o nb xs -> okL o' nb' xs
 | [],_,_ => trivial
 | x :: r,hp,h => by simp only [plpL,Bool.and_eq_true] at hp; exact ⟨plp_ok hn x hp.1 h.1,plp_okL hn r hp.2 h.2⟩
end
theorem plp_own {x : AV} (h : plp x = true) : hasOwn x = false := by
 cases x <;> first | rfl | (simp [plp] at h; done) | skip
 rename_i cs;simp only [plp] at h;simp only [hasOwn]
 induction cs with
 | nil => rfl
 | cons y r ih =>
   simp only [plpL,Bool.and_eq_true] at h;have h1 := h.1;cases y <;> first | exact ih h.2 | (simp [plp] at h1; done)
theorem leafSwS : LeafG swS := by
 intro k r o l;cases r <;> exact ⟨⟨(fun cs e => by cases e),(fun k xs e => by cases e)⟩,⟨(fun cs e => by cases e),(fun k xs e => by cases e)⟩⟩
section
variable {P : Program} {X : Nat -> Prop} {φ φ1 φ' : Phi} {w w1 w' : World} {N N1 N' : Names} {s s' s1 : St} {Ha : Heap} {B : Nat -> Nat} {base : Nat} {v va : AV} {v' : Value} {c : Cfg} {a : Act} {call : Nat -> List AV -> Heap -> Option (AV × Heap)} {t : Nat -> Value}
theorem ownAt_H {s s' : St} (h : s'.H = s.H) (b j : Nat) : ownAt s' (.c b j) = ownAt s (.c b j) := by simp only [ownAt,at_,h]
theorem one_get (r : AV) (i : Nat) : get [(0,r)] i = if i = 0 then r else .any := by simp only [Am.get]
theorem Sim.leave (h : Sim X φ w N s Ha t) {i0 : Nat} {r : AV} (hr : get s.env i0 = r) (hp : plp r = true) : Sim X φ w N ⟨[(0,r)],mapH swS s.H⟩ Ha (fun i => if i = 0 then t i0 else undef) := by
 have hno := plp_own hp
 have slot : ∀ i,(∀ k xs,get [(0,r)] i ≠ .own k xs) /\ (ownAt ⟨[(0,r)],mapH swS s.H⟩ (.s i) = none /\ ∀ j,ownAt ⟨[(0,r)],mapH swS s.H⟩ (.sc i j) = none) := by
  intro i
  have h0 : hasOwn (get (⟨[(0,r)],mapH swS s.H⟩ : St).env i) = false := by
   show hasOwn (get [(0,r)] i) = false;rw [one_get]; split
   ·exact hno
   ·rfl
  refine ⟨fun k xs e => ?_,hasOwn_at h0⟩;have h1 : hasOwn (get [(0,r)] i) = false := h0;rw [e] at h1; cases h1
 have box : ∀ b j,ownAt ⟨[(0,r)],mapH swS s.H⟩ (.c b j) = ownAt s (.c b j) := fun b j => by
  rw [<- ownAt_mapSt leafSwS s (.c b j)];exact ownAt_H rfl b j
 have own : ∀ {p},(ownAt ⟨[(0,r)],mapH swS s.H⟩ p).isSome -> ownAt ⟨[(0,r)],mapH swS s.H⟩ p = ownAt s p /\ ∃ b j,p = .c b j := by
  intro p hp;cases p with
  | s i => rw [(slot i).2.1] at hp; cases hp
  | sc i j => rw [(slot i).2.2 j] at hp; cases hp
  | c b j => exact ⟨box b j,b,j,rfl⟩
 have hlen : (mapH swS s.H).length = s.H.length := mapH_length _ _;have back : ∀ b,(blk (mapH swS s.H) b).isSome -> (blk s.H b).isSome := fun b hb => by rw [blk_mapH] at hb; simpa using hb
 have hl : ∀ k p a l,(okV (ownAt s) s.H.length (.bor k p a l) -> okV (ownAt ⟨[(0,r)],mapH swS s.H⟩) s.H.length (swS (.bor k p a l)) /\ Le (trV N (swS (.bor k p a l))) (trV N (.bor k p a l))) /\ (okV (ownAt s) s.H.length (.pto k p a l) -> okV (ownAt ⟨[(0,r)],mapH swS s.H⟩) s.H.length (swS (.pto k p a l)) /\ Le (trV N (swS (.pto k p a l))) (trV N (.pto k p a l))) := by
  intro k p a l;cases p with
  | s i => exact ⟨fun _ => ⟨trivial,Le.any _⟩,fun _ => ⟨trivial,Le.any _⟩⟩
  | sc i j => exact ⟨fun _ => ⟨trivial,Le.any _⟩,fun _ => ⟨trivial,Le.any _⟩⟩
  | c b j =>
    refine ⟨fun h => ⟨?_,Le.refl _⟩,fun h => ⟨?_,Le.refl _⟩⟩
    ·simp only [swS,okV] at h ⊢; rw [box]; exact h
    ·simp only [swS,okV] at h ⊢; rw [box]; exact h
 refine ⟨fun i => ?_,fun i => ?_,h.heap,fun p k xs e => ?_,fun b cs e => ?_,fun p q n e1 e2 e3 e4 => ?_,fun b p e1 e2 e3 => ?_,fun b d e1 e2 e3 => h.bi b d (back b e1) (back d e2) e3⟩
 ·show Rep _ _ (trS N i (get [(0,r)] i)) (if i = 0 then t i0 else undef);rw [one_get];by_cases e : i = 0
  ·subst e;simp only [if_true];have := h.env i0;rw [hr,trS_trV N i0 hno] at this;rw [trS_trV N 0 hno];exact this
  ·rw [if_neg e,if_neg e]; exact .any _ _
 ·show okV _ _ (get [(0,r)] i);rw [one_get,hlen];split
  ·have := h.oke i0;rw [hr] at this;exact plp_ok (Nat.le_refl _) r hp this
  ·trivial
 ·have := own (p := p) (by rw [e]; rfl);rw [this.1] at e;exact h.own p k xs e
 ·have hb : blk (mapH swS s.H) b = some cs := e;rw [blk_mapH] at hb;cases hc : blk s.H b with
  | none => rw [hc] at hb; cases hb
  | some ds =>
    rw [hc] at hb;simp at hb;subst hb;obtain ⟨as,g1,g2,g3⟩ := h.box b ds hc;refine ⟨as,g1,by rw [mapBL_length]; exact g2,fun j d hd => ?_⟩;rw [mapBL_get] at hd;cases hj : ds[j]? with
    | none => rw [hj] at hd; cases hd
    | some d0 =>
      rw [hj] at hd;simp at hd;subst hd;obtain ⟨g4,a',g5,g6⟩ := g3 j d0 hj;obtain ⟨k1,k2⟩ := le_trP_mapB (N := N) (N' := N) (o := ownAt s) (o' := ownAt ⟨[(0,r)],mapH swS s.H⟩) (nb := s.H.length) (g := swS) rfl leafSwS hl (r := .c b j) (x := d0) (fun _ _ _ => rfl) g4;refine ⟨?_,a',g5,k2.trans g6⟩;show okV _ (mapH swS s.H).length _;rw [hlen]; exact k1
 ·rw [(own e1).1] at e1;rw [(own e2).1] at e2;exact h.inj p q n e1 e2 e3 e4
 ·have e2' : (ownAt s p).isSome := by rw [<- (own e2).1]; exact e2
  exact h.bx b p (back b e1) e2' e3
theorem trim_len {env : Env} {base : Nat} : ∀ (n : Nat) (H : Heap),base <= H.length -> base <= (trim base env n H).length := by
 intro n
 induction n with
 | zero => intro H h; exact h
 | succ n ih =>
   intro H h;simp only [trim];split
   ·exact ih _ (by simp; omega)
   ·exact h
theorem Sim.env0 {H : Heap} {r1 r2 : AV} (h : Sim X φ w N ⟨[(0,r1)],H⟩ Ha t) (h1 : plp r1 = true) (h2 : plp r2 = true) (hk : okV (fun _ => none) H.length r2) (hr : Rep (Rd X φ w) φ (trV N r2) v') : Sim X φ w N ⟨[(0,r2)],H⟩ Ha (fun i => if i = 0 then v' else undef) := by
 have slot : ∀ {r : AV},plp r = true -> ∀ i,hasOwn (get (⟨[(0,r)],H⟩ : St).env i) = false := fun {r} hp i => by
  show hasOwn (get [(0,r)] i) = false;rw [one_get]; split
  ·exact plp_own hp
  ·rfl
 have own : ∀ p,ownAt ⟨[(0,r2)],H⟩ p = ownAt ⟨[(0,r1)],H⟩ p := by
  intro p;cases p with
  | s i => rw [(hasOwn_at (slot h2 i)).1,(hasOwn_at (slot h1 i)).1]
  | sc i j => rw [(hasOwn_at (slot h2 i)).2 j,(hasOwn_at (slot h1 i)).2 j]
  | c b j => exact ownAt_H rfl b j
 refine ⟨fun i => ?_,fun i => ?_,h.heap,fun p k xs e => ?_,fun b cs e => ?_,fun p q n e1 e2 => ?_,fun b p e1 e2 => ?_,h.bi⟩
 ·show Rep _ _ (trS N i (get [(0,r2)] i)) (if i = 0 then v' else undef);rw [one_get];by_cases e : i = 0
  ·rw [if_pos e,if_pos e,trS_trV N i (plp_own h2)]; exact hr
  ·rw [if_neg e,if_neg e]; exact .any _ _
 ·show okV _ _ (get [(0,r2)] i);rw [one_get];split
  ·exact plp_ok (Nat.le_refl _) r2 h2 hk
  ·trivial
 ·rw [own] at e; exact h.own p k xs e
 ·obtain ⟨as,g1,g2,g3⟩ := h.box b cs e;refine ⟨as,g1,g2,fun j c hc => ⟨okV_mono (fun p _ => own p) (Nat.le_refl _) c (g3 j c hc).1,(g3 j c hc).2⟩⟩
 ·rw [own] at e1 e2; exact h.inj p q n e1 e2
 ·rw [own] at e2; exact h.bx b p e1 e2
theorem fin_bxB (h : Sim X φ w N s Ha (tm a)) (hb : (∀ b,b < base -> N.β b = B b) /\ base <= s.H.length) (hv : Rep (Rd X φ w) φ (trV N v) v') (hk : okV (ownAt s) s.H.length v) {r : AV} {H' : Heap} (hf : finX base s v = some (r,H')) :
  ∃ φ',SB X φ' w B base ⟨[(0,r)],H'⟩ (fun i => if i = 0 then v' else undef) /\ Adv φ w φ' w := by unfold finX at hf;cases hf
theorem fin_shB (h : Sim X φ w N s Ha (tm a)) (hb : (∀ b,b < base -> N.β b = B b) /\ base <= s.H.length) (hv : Rep (Rd X φ w) φ (trV N v) v') (hk : okV (ownAt s) s.H.length v) (hno : hasOwn v = false) {r : AV} {H' : Heap} (hf : finS base s v = some (r,H')) :
  ∃ φ',SB X φ' w B base ⟨[(0,r)],H'⟩ (fun i => if i = 0 then v' else undef) /\ Adv φ w φ' w := by
 unfold finS at hf;split at hf
 case h_2 => cases hf
 rename_i hany;simp only at hf;split at hf
 case isFalse => cases hf
 rename_i hp;simp only [Option.some.injEq,Prod.mk.injEq] at hf;obtain ⟨rfl,rfl⟩ := hf;have hput := PutOK.quiet (t := tm a) h hb hk (hasOwn_eo hno) (by rw [trQ_trV N hno]; exact hv);obtain ⟨φ2,⟨N2,Ha2,sim2,hb2⟩,a2⟩ := SB.frzAll (borOf v) (hput.put HAND hany);have h3 := sim2.leave (i0 := HAND) rfl hp;simp only [if_true] at h3;refine ⟨φ2,⟨N2,Ha2,?_,hb2.1,?_⟩,a2⟩
 ·exact Sim.trim (base0 := base) _ h3
 ·exact trim_len _ _ (by rw [mapH_length]; exact hb2.2)
theorem shOK (hok : CfgOKB P c) (horc : OrcOKB P c) {n : Nat} (hs : SndB P c n) : ShOK P c n := by
 intro f md q hf hm args H r H' h hall X φ w B vargs hl hsb hg;unfold callW at h;split at h
 ·rename_i x hgo;unfold orcA at hgo;split at hgo
  case h_2 => cases hgo
  rename_i g hgf;rw [h] at hgo;replace h := hgo;exact horc f g md q hgf hf args H r H' (.inl hm) h (fun _ => hall) X φ w B vargs hl hsb hg
 ·rw [hf] at h;simp only at h;split at h
  case isFalse => cases h
  rename_i hle;obtain ⟨fn,h1,h2⟩ := hok.fn f md q hf;simp only [chkFB,Bool.and_eq_true,decide_eq_true_eq] at h2;obtain ⟨⟨⟨⟨hn,hhand⟩,_⟩,hres⟩,hbody⟩ := h2;split at hbody
  case h_2 => cases hbody
  rename_i code hb;have hsize : (vargs ++ Array.replicate (fn.ntmps - vargs.size) undef).size = q.n := by simp; omega
  have htm : tm { tmps := vargs ++ Array.replicate (fn.ntmps - vargs.size) undef,defers := [] } = fun i => vargs.getD i undef := by
   funext i;simp only [tm,Array.getD_eq_getD_getElem?];by_cases hi : i < vargs.size
   ·rw [Array.getElem?_append_left hi]
   ·rw [Array.getElem?_append_right (by omega),Array.getElem?_replicate];rw [Array.getElem?_eq_none (by omega)];split <;> rfl
  have hS : SRB X φ w B H.length ⟨mkEnv 0 args,H⟩ { tmps := vargs ++ Array.replicate (fn.ntmps - vargs.size) undef,defers := [] } q.n := ⟨by rw [htm]; exact hsb,rfl,hsize⟩
  have fin : ∀ {e : Ex} {s : St} {vs : List AV},codeB c n H.length q.body ⟨mkEnv 0 args,H⟩ = some (e,s) -> (e = .ret \/ e = .normal) -> resVs c s q.res = some vs -> finB md H.length s (tupOf vs) = some (r,H') -> Calls P f vargs w (RetB X φ w B H.length r H') := by
   intro e s vs he hre hvs hfin;refine calls_of_wp h1 hb (hs q.n H.length code q.body _ s e (by omega) hbody he X φ w B _ hS hg _ fun a' w' φ' hS' hadv => ?_);obtain ⟨N,Ha,sim,hbB⟩ := hS'.sb;obtain ⟨xas,x1,x2,x3,x4⟩ := tup_tr sim (hg.adv hadv) hvs;obtain ⟨v,k1,k2⟩ := run_results (P := P) (s := ⟨trE N s.env,Ha⟩) (ts := a'.tmps) (fun i => by rw [get_trE]; exact sim.env i) sim.heap hres x1;unfold finB at hfin;rw [hm,if_pos rfl] at hfin
   have hfin' : ∃ φ2,SB X φ2 w' B H.length ⟨[(0,r)],H'⟩ (fun i => if i = 0 then v else undef) /\ Adv φ' w' φ2 w' := by
    split at hfin
    ·exact fin_bxB sim hbB (x2 _ _ _ k2) x3 hfin
    ·exact fin_shB sim hbB (x2 _ _ _ k2) x3 x4 hfin
   obtain ⟨φ2,s2,a2⟩ := hfin';have : bodyPost P fn (RetB X φ w B H.length r H') .ret a' w' := ⟨hS'.defers,v,k1,v,φ2,rfl,s2,hadv.trans a2⟩;rcases hre with rfl | rfl
   ·exact this
   ·exact this
  split at h
  ·rename_i s he;split at h
   ·rename_i vs hvs;exact fin he (.inl rfl) hvs h
   ·cases h
  ·rename_i s he;split at h
   ·rename_i vs hvs;exact fin he (.inr rfl) hvs h
   ·cases h
  ·cases h
end
end Go.Bm

/- A state whose older heap holds no more than what is referred to; calls of functions that share boxes. -/
namespace Go.Bm
open Go.Am
mutual
def refsIn (G : Nat -> Prop) : AV -> Prop
 | .ptr b _ => G b
 | .sl _ b _ _ => G b
 | .agg cs => refsInL G cs
 | .tup cs => refsInL G cs
 | .func _ a b => refsInL G a /\ refsInL G b
 | _ => True
def refsInL (G : Nat -> Prop) : List AV -> Prop
 | [] => True
 | x :: r => refsIn G x /\ refsInL G r
end
theorem refsInL_get {G : Nat -> Prop} : ∀ {cs : List AV},refsInL G cs ↔ ∀ (i : Nat) (c : AV),cs[i]? = some c -> refsIn G c
 | [] => by simp [refsInL]
 | x :: r => by
   simp only [refsInL,refsInL_get (cs := r)];constructor
   ·rintro ⟨h1,h2⟩ i c hc;cases i with
    | zero => simp at hc; exact hc ▸ h1
    | succ i => exact h2 i c (by simpa using hc)
   ·intro h;exact ⟨h 0 x rfl,fun i c hc => h (i + 1) c (by simpa using hc)⟩
theorem Rep.refs {R R' : Addr -> Value -> Prop} (hR : ∀ a u,R a u -> R' a u) {G : Nat -> Prop} {φ : Phi} {x : AV} {v : Value} (h : Rep R φ x v) : ∀ {φ' : Phi},refsIn G x -> φ.length <= φ'.length -> (∀ b,G b -> ∀ p,φ'[b]? = some (some p) -> φ[b]? = some (some p)) -> Rep R' φ' x v := by
 induction h with
 | any => intro φ' _ _ _; exact .any _ _
 | undef => intro φ' _ _ _; exact .undef _
 | nilp => intro φ' _ _ _; exact .nilp _
 | nilf => intro φ' _ _ _; exact .nilf _
 | nils => intro φ' _ _ _; exact .nils _
 | int => intro φ' _ _ _; exact .int _ _ _
 | bool => intro φ' _ _ _; exact .bool _ _
 | str => intro φ' _ _ _; exact .str _ _
 | agg φ cs vs hl h ih => intro φ' hx hp hb; simp only [refsIn] at hx; exact .agg _ _ _ hl fun i c v h1 h2 => ih i c v h1 h2 (refsInL_get.1 hx i c h1) hp hb
 | tup φ cs vs hl h ih => intro φ' hx hp hb; simp only [refsIn] at hx; exact .tup _ _ _ hl fun i c v h1 h2 => ih i c v h1 h2 (refsInL_get.1 hx i c h1) hp hb
 | func φ f as va bs vb hla hlb ha hb iha ihb => intro φ' hx hp hbb; simp only [refsIn] at hx; exact .func _ _ _ _ _ _ hla hlb (fun i c v h1 h2 => iha i c v h1 h2 (refsInL_get.1 hx.1 i c h1) hp hbb) (fun i c v h1 h2 => ihb i c v h1 h2 (refsInL_get.1 hx.2 i c h1) hp hbb)
 | lst φ k xs a n cap u hn hcap hk hu h ih => intro φ' _ _ _; exact .lst _ _ _ _ _ _ u hn hcap hk (fun i j x c h1 h2 => hR _ _ (hu i j x c h1 h2)) (fun i j x c h1 h2 => (h i j x c h1 h2).mono hR (.refl _))
 | lst0 => intro φ' _ _ _; exact .lst0 _ _
 | fptr φ cs a u hu h ih => intro φ' _ _ _; exact .fptr _ _ _ u (fun j c h1 => hR _ _ (hu j c h1)) (fun j c h1 => (h j c h1).mono hR (.refl _))
 | ptr φ b off a hb h => intro φ' hx hp hb'; exact .ptr _ _ _ _ (by omega) fun g sz e => h g sz (hb' b hx _ e)
 | sl φ k b off len a cap hb hc h => intro φ' hx hp hb'; exact .sl _ _ _ _ _ _ _ (by omega) hc fun g sz e => h g sz (hb' b hx _ e)
mutual
theorem refs_tr {G : Nat -> Prop} {N : Names} {o : Rt -> Option (Nat × List AV)} {nb : Nat} (hβ : ∀ b,b < nb -> G (N.β b)) (hν : ∀ p,(o p).isSome -> ∀ n,N.ν p = some n -> G n) : ∀ x,okV o nb x -> refsIn G (trV N x)
 | .bor k p off len,h => by
   simp only [okV] at h; obtain ⟨xs,e,_⟩ := h;simp only [trV];cases hn : N.ν p with
   | none => exact trivial
   | some n => exact hν p (by rw [e]; rfl) n hn
 | .pto k p i off,h => by
   simp only [okV] at h; obtain ⟨xs,e,_⟩ := h;simp only [trV];cases hn : N.ν p with
   | none => exact trivial
   | some n => exact hν p (by rw [e]; rfl) n hn
 | .ptr b off,h => by simp only [okV] at h; simp only [trV,refsIn]; exact hβ b h
 | .agg cs,h => by simp only [okV] at h; simp only [trV,refsIn]; exact refs_trL hβ hν cs h
 | .tup cs,h => by simp only [okV] at h; simp only [trV,refsIn]; exact refs_trL hβ hν cs h
 | .func f a b,h => by simp only [okV] at h; simp only [trV,refsIn]; exact ⟨refs_trL hβ hν a h.1,refs_trL hβ hν b h.2⟩
 | .any,_ => trivial | .undef,_ => trivial | .nilp,_ => trivial | .nilf,_ => trivial | .nils,_ => trivial
 | .int _ _,_ => trivial | .bool _,_ => trivial | .str _,_ => trivial | .list _ _,_ => trivial | .fptr _,_ => trivial | .own _ _,_ => trivial
 | .sl _ b _ _,h => by simp only [okV] at h; simp only [trV,refsIn]; exact hβ b h
theorem refs_trL {G : Nat -> Prop} {N : Names} {o : Rt -> Option (Nat × List AV)} {nb : Nat} (hβ : ∀ b,b < nb -> G (N.β b)) (hν : ∀ p,(o p).isSome -> ∀ n,N.ν p = some n -> G n) : ∀ xs,okL o nb xs -> refsInL G (trL N xs)
 | [],_ => trivial
 | x :: r,h => ⟨refs_tr hβ hν x h.1,refs_trL hβ hν r h.2⟩
end
mutual
theorem refs_pl {G : Nat -> Prop} : ∀ x,pl x = true -> refsIn G x
 | .agg cs,h => by simp only [pl] at h; simp only [refsIn]; exact refs_plL cs h
 | .tup cs,h => by simp only [pl] at h; simp only [refsIn]; exact refs_plL cs h
 | .func f a b,h => by simp only [pl,Bool.and_eq_true] at h; simp only [refsIn]; exact ⟨refs_plL a h.1,refs_plL b h.2⟩
 | .ptr _ _,h => by simp [pl] at h
 | .sl _ _ _ _,h => by simp [pl] at h
 | .bor _ _ _ _,_ => trivial | .pto _ _ _ _,_ => trivial
 | .any,_ => trivial | .undef,_ => trivial | .nilp,_ => trivial | .nilf,_ => trivial | .nils,_ => trivial
 | .int _ _,_ => trivial | .bool _,_ => trivial | .str _,_ => trivial | .list _ _,_ => trivial | .fptr _,_ => trivial | .own _ _,_ => trivial
theorem refs_plL {G : Nat -> Prop} : ∀ xs,plL xs = true -> refsInL G xs
 | [],_ => trivial
 | x :: r,h => by simp only [plL,Bool.and_eq_true] at h; exact ⟨refs_pl x h.1,refs_plL r h.2⟩
end
theorem refs_trP {G : Nat -> Prop} {N : Names} {o : Rt -> Option (Nat × List AV)} {nb : Nat} (hβ : ∀ b,b < nb -> G (N.β b)) (hν : ∀ p,(o p).isSome -> ∀ n,N.ν p = some n -> G n) {r : Rt} {x : AV} (hr : ∀ k xs,x = .own k xs -> (o r).isSome) (h : okV o nb x) : refsIn G (trP N r x) := by
 cases x <;> simp only [trP] <;> first | exact refs_tr hβ hν _ h | skip
 rename_i k xs;simp only [ownT];cases hn : N.ν r with
 | none => exact trivial
 | some n => exact hν r (hr k xs rfl) n hn
mutual
theorem okV_bor {o o' : Rt -> Option (Nat × List AV)} {nb nb' : Nat} (hn : nb <= nb') : ∀ x,(∀ p ∈ borOf x,o' p = o p) -> okV o nb x -> okV o' nb' x
 | .bor k p off len,ho,h => by simp only [okV] at h ⊢; obtain ⟨xs,e,h2⟩ := h; exact ⟨xs,by rw [ho p (by simp [borOf])]; exact e,h2⟩
 | .pto k p i off,ho,h => by simp only [okV] at h ⊢; obtain ⟨xs,e,h2⟩ := h; exact ⟨xs,by rw [ho p (by simp [borOf])]; exact e,h2⟩
 | .ptr b off,_,h => by simp only [okV] at h ⊢; omega
 | .agg cs,ho,h => by simp only [okV] at h ⊢; exact okL_bor hn cs (by simpa only [borOf] using ho) h
 | .tup cs,ho,h => by simp only [okV] at h ⊢; exact okL_bor hn cs (by simpa only [borOf] using ho) h
 | .func f a b,ho,h => by
   simp only [borOf,List.mem_append] at ho;simp only [okV] at h ⊢; exact ⟨okL_bor hn a (fun p hp => ho p (.inl hp)) h.1,okL_bor hn b (fun p hp => ho p (.inr hp)) h.2⟩
 | .any,_,_ => trivial | .undef,_,_ => trivial | .nilp,_,_ => trivial | .nilf,_,_ => trivial | .nils,_,_ => trivial
 | .int _ _,_,_ => trivial | .bool _,_,_ => trivial | .str _,_,_ => trivial | .list _ _,_,_ => trivial | .fptr _,_,_ => trivial | .own _ _,_,_ => trivial
 | .sl _ b _ _,_,h => by simp only [okV] at h ⊢; omega
theorem okL_bor {o o' : Rt -> Option (Nat × List AV)} {nb nb' : Nat} (hn : nb <= nb') : ∀ xs,(∀ p ∈ borL xs,o' p = o p) -> okL o nb xs -> okL o' nb' xs
 | [],_,_ => trivial
 | x :: r,ho,h => by
   simp only [borL,List.mem_append] at ho;exact ⟨okV_bor hn x (fun p hp => ho p (.inl hp)) h.1,okL_bor hn r (fun p hp => ho p (.inr hp)) h.2⟩
end
theorem allB_get : ∀ {H : Heap},allB H = true -> (∀ b,b < H.length -> (blk H b).isSome) /\ ∀ b cs,blk H b = some cs -> ∀ p ∈ borL cs,notBox p = false
 | [],_ => ⟨fun b hb => by simp at hb,fun b cs h => by simp [blk] at h⟩
 | none :: r,h => by simp [allB] at h
 | some ds :: r,h => by
   simp only [allB,Bool.and_eq_true,Bool.not_eq_true'] at h;obtain ⟨h1,h2⟩ := allB_get h.2;refine ⟨fun b hb => ?_,fun b cs hb => ?_⟩
   ·cases b with
    | zero => simp [blk]
    | succ b => have := h1 b (by simpa using hb); simpa [blk] using this
   ·cases b with
    | zero =>
      simp [blk] at hb;subst hb;intro p hp;exact anyR_false h.1 p hp
    | succ b => exact h2 b cs (by simpa [blk] using hb)
section
variable {P : Program} {X : Nat -> Prop} {φ φ1 φ' : Phi} {w w1 w' : World} {N N1 N' : Names} {s s' s1 : St} {Ha : Heap} {B : Nat -> Nat} {base : Nat} {v va : AV} {v' : Value} {c : Cfg} {a : Act} {call : Nat -> List AV -> Heap -> Option (AV × Heap)} {t : Nat -> Value}
structure Norm (X : Nat -> Prop) (φ : Phi) (w : World) (N : Names) (s : St) (t : Nat -> Value) (φ2 : Phi) (H2 : Heap) : Prop where
 sim : Sim (fun g => X g \/ (Owned φ g /\ ¬ Owned φ2 g)) φ2 w N s H2 t
 adv : Adv φ w φ2 w
 good : ∀ n,(blk H2 n).isSome -> (∃ b,(blk s.H b).isSome /\ N.β b = n) \/ ∃ p,(ownAt s p).isSome /\ N.ν p = some n
 refs : ∀ n cs,blk H2 n = some cs -> ∀ c ∈ cs,refsIn (fun m => (blk H2 m).isSome) c
 sub : ∀ (n : Nat) (p : Nat × Nat),φ2[n]? = some (some p) -> φ[n]? = some (some p)
 live : ∀ (n : Nat) (p : Nat × Nat),φ2[n]? = some (some p) -> (blk H2 n).isSome
 len : φ2.length = φ.length
theorem Sim.norm (h : Sim X φ w N s Ha t) (hall : ∀ b,b < s.H.length -> (blk s.H b).isSome) : ∃ φ2 H2,Norm X φ w N s t φ2 H2 := by
 have hP : ∀ n,∃ B : Blk,(∀ b cs,blk s.H b = some cs -> N.β b = n -> B = some (trC N (.c b) 0 cs)) /\ (∀ p k xs,ownAt s p = some (k,xs) -> N.ν p = some n -> B = some (flatCells xs)) /\ (B.isSome -> (∃ b,(blk s.H b).isSome /\ N.β b = n) \/ ∃ p,(ownAt s p).isSome /\ N.ν p = some n) := by
  intro n;by_cases h1 : ∃ b cs,blk s.H b = some cs /\ N.β b = n
  ·obtain ⟨b,cs,hb,hn⟩ := h1;refine ⟨some (trC N (.c b) 0 cs),fun b' cs' hb' hn' => ?_,fun p k xs hp hn' => ?_,fun _ => .inl ⟨b,by rw [hb]; rfl,hn⟩⟩
   ·have e := h.bi b b' (by rw [hb]; rfl) (by rw [hb']; rfl) (by rw [hn,hn']);subst e;rw [hb] at hb'; cases hb'; rfl
   ·exact absurd (by rw [hn',hn]) (h.bx b p (by rw [hb]; rfl) (by rw [hp]; rfl))
  ·by_cases h2 : ∃ p k xs,ownAt s p = some (k,xs) /\ N.ν p = some n
   ·obtain ⟨p,k,xs,hp,hn⟩ := h2;refine ⟨some (flatCells xs),fun b cs hb hn' => absurd ⟨b,cs,hb,hn'⟩ h1,fun p' k' xs' hp' hn' => ?_,fun _ => .inr ⟨p,by rw [hp]; rfl,hn⟩⟩;have e := h.inj p p' n (by rw [hp]; rfl) (by rw [hp']; rfl) hn hn';subst e;rw [hp] at hp'; cases hp'; rfl
   ·exact ⟨none,fun b cs hb hn => absurd ⟨b,cs,hb,hn⟩ h1,fun p k xs hp hn => absurd ⟨p,k,xs,hp,hn⟩ h2,fun e => by cases e⟩
 obtain ⟨G,hG⟩ := Classical.axiomOfChoice hP;obtain ⟨H2,hl2,hH2⟩ := exists_heap Ha.length G;obtain ⟨φ2,hlφ,hφ2⟩ : ∃ φ2 : Phi,φ2.length = φ.length /\ ∀ m,m < φ.length -> φ2[m]? = some (if (G m).isSome then (φ[m]?).join else none) := ⟨(List.range φ.length).map fun m => if (G m).isSome then (φ[m]?).join else none,by simp,fun m hm => by simp [hm]⟩;have hlen := h.heap.len
 have blk2 : ∀ n,n < Ha.length -> blk H2 n = G n := fun n hn => by
  unfold blk; rw [hH2 n hn]; cases G n <;> rfl
 have sub : ∀ (n : Nat) (p : Nat × Nat),φ2[n]? = some (some p) -> φ[n]? = some (some p) /\ (G n).isSome := by
  intro n p hn;have hlt := lt_of_getElem? hn;rw [hlφ] at hlt;rw [hφ2 n hlt] at hn;split at hn
  ·rename_i hg;simp at hn;refine ⟨?_,hg⟩;cases e : φ[n]? with
   | none => rw [e] at hn; cases hn
   | some q => rw [e] at hn; simp at hn; rw [hn]
  ·simp at hn
 have ownSub : ∀ g,Owned φ2 g -> Owned φ g := fun g ⟨b,sz,e⟩ => ⟨b,sz,(sub b _ e).1⟩;have adv : Adv φ w φ2 w := ⟨rfl,rfl,rfl,Nat.le_refl _,Nat.le_refl _,fun g _ hno => ⟨rfl,fun ho => hno (ownSub g ho)⟩,⟨by omega,fun b p _ hp => (sub b p hp).1⟩⟩;have hR : ∀ a u,Rd X φ w a u -> Rd (fun g => X g \/ (Owned φ g /\ ¬ Owned φ2 g)) φ2 w a u := fun a u ⟨h1,h2,h3⟩ => ⟨fun hx => hx.elim h1 fun hh => h2 hh.1,fun ho => h2 (ownSub _ ho),h3⟩;have mono : ∀ {x : AV} {u : Value},Rep (Rd X φ w) φ x u -> Rep (Rd (fun g => X g \/ (Owned φ g /\ ¬ Owned φ2 g)) φ2 w) φ2 x u := fun r => r.mono hR adv.phi
 have boxG : ∀ b cs,blk s.H b = some cs -> blk H2 (N.β b) = some (trC N (.c b) 0 cs) := fun b cs hb => by
  rw [blk2 _ (h.box_lt (by rw [hb]; rfl))];exact (hG (N.β b)).1 b cs hb rfl
 have ownG : ∀ p k xs n,ownAt s p = some (k,xs) -> N.ν p = some n -> blk H2 n = some (flatCells xs) := fun p k xs n hp hn => by
  rw [blk2 _ (h.own_lt (by rw [hp]; rfl) hn)];exact (hG n).2.1 p k xs hp hn
 have liveφ : ∀ n,(G n).isSome -> n < Ha.length -> ∀ e,φ[n]? = some e -> φ2[n]? = some e := fun n hg hn e he => by
  rw [hφ2 n (by omega),if_pos hg,he]; rfl
 have hheap : HRel (fun g => X g \/ (Owned φ g /\ ¬ Owned φ2 g)) φ2 w H2 := by
  refine ⟨by omega,fun g hg => hg.elim (h.heap.xlt g) (fun ho => (h.heap.own_lt ho.1).1),fun n cs hn => ?_,fun n hn => ?_,fun n n' g sz sz' e1 e2 => h.heap.inj n n' g sz sz' (sub _ _ e1).1 (sub _ _ e2).1⟩
  ·have hlt : n < Ha.length := by have := lt_of_getElem? hn; omega
   rw [hH2 n hlt] at hn;simp only [Option.some.injEq] at hn;have hg : (G n).isSome := by rw [hn]; rfl
   have fin : ∀ {as : List AV},blk Ha n = some as -> (∀ (i : Nat) (d : AV),cs[i]? = some d -> ∃ a,as[i]? = some a /\ Le d a) -> cs.length <= as.length -> ∃ (g sz : Nat) (arr : Array Value) (e : TypeId),φ2[n]? = some (some (g,sz)) /\ w.heap[g]? = some (.cells arr e (0,0)) /\ arr.size = sz /\ cs.length <= sz /\ ¬ (X g \/ (Owned φ g /\ ¬ Owned φ2 g)) /\ ∀ (i : Nat) (d : AV),cs[i]? = some d -> ∃ u,arr[i]? = some u /\ Rep (Rd (fun g => X g \/ (Owned φ g /\ ¬ Owned φ2 g)) φ2 w) φ2 d u := by
    intro as has hcs hle;obtain ⟨g,sz,arr,e,g1,g2,g3,g4,g5,g6⟩ := h.heap.at has;have h2 := liveφ n hg hlt _ g1;refine ⟨g,sz,arr,e,h2,g2,g3,by omega,fun hx => hx.elim g5 fun hh => hh.2 ⟨n,sz,h2⟩,fun i d hd => ?_⟩;obtain ⟨a,ha,hle2⟩ := hcs i d hd;obtain ⟨u,u1,u2⟩ := g6 i a ha;exact ⟨u,u1,mono (hle2 _ _ _ u2)⟩
   rcases (hG n).2.2 hg with ⟨b,hb,hbn⟩ | ⟨p,hp,hpn⟩
   ·obtain ⟨ds,hds⟩ := Option.isSome_iff_exists.1 hb;have := (hG n).1 b ds hds hbn;rw [hn] at this;simp at this;subst this;obtain ⟨as,a1,a2,a3⟩ := h.box b ds hds;rw [hbn] at a1;refine fin a1 (fun i d hd => ?_) (by rw [trC_length]; omega);rw [trC_get] at hd;cases hi : ds[i]? with
    | none => rw [hi] at hd; cases hd
    | some d0 =>
      rw [hi] at hd;simp at hd;subst hd;obtain ⟨_,a',b1,b2⟩ := a3 i d0 hi;exact ⟨a',b1,b2⟩
   ·obtain ⟨⟨k,xs⟩,hpx⟩ := Option.isSome_iff_exists.1 hp;have := (hG n).2.1 p k xs hpx hpn;rw [hn] at this;simp at this;subst this;have ho := h.own p k xs hpx;rw [hpn] at ho;obtain ⟨cs0,c1,c2,c3,c4⟩ := ho;refine fin c1 (fun i d hd => ?_) (by rw [flat_len c3]; exact c2);obtain ⟨_,a',b1,_,b2⟩ := c4 i d hd;exact ⟨a',b1,b2⟩
  ·have hlt : n < Ha.length := by have := lt_of_getElem? hn; omega
   rw [hH2 n hlt] at hn;simp only [Option.some.injEq] at hn;rw [hφ2 n (by omega),hn];rfl
 refine ⟨φ2,H2,⟨⟨fun i => mono (h.env i),h.oke,hheap,fun p k xs e => ?_,fun b cs e => ?_,h.inj,h.bx,h.bi⟩,adv,fun n hn => ?_,fun n cs hn d hd => ?_,fun n p hp => (sub n p hp).1,fun n p hp => ?_,hlφ⟩⟩
 ·have ho := h.own p k xs e;cases hn : N.ν p with
  | none => rw [hn] at ho; exact ho
  | some n =>
    rw [hn] at ho;obtain ⟨cs0,c1,c2,c3,c4⟩ := ho;refine ⟨flatCells xs,ownG p k xs n e hn,by rw [flat_len c3]; exact Nat.le_refl _,c3,fun i d hd => ?_⟩;obtain ⟨f1,_⟩ := c4 i d hd;exact ⟨f1,d,hd,(fz_pl f1).2,Le.refl _⟩
 ·obtain ⟨as,a1,a2,a3⟩ := h.box b cs e;refine ⟨_,boxG b cs e,trC_length _ _ _ _,fun j d hd => ?_⟩;obtain ⟨b1,_⟩ := a3 j d hd;exact ⟨b1,trP N (.c b j) d,by rw [trC_get,hd]; simp,Le.refl _⟩
 ·obtain ⟨cs,hcs⟩ := Option.isSome_iff_exists.1 hn;have hlt : n < Ha.length := by have := blk_lt hcs; omega
  exact (hG n).2.2 (by rw [<- blk2 n hlt]; exact hn)
 ·have hβ : ∀ b,b < s.H.length -> (blk H2 (N.β b)).isSome := fun b hb => by
   obtain ⟨ds,hds⟩ := Option.isSome_iff_exists.1 (hall b hb);rw [boxG b ds hds]; rfl
  have hν : ∀ p,(ownAt s p).isSome -> ∀ n,N.ν p = some n -> (blk H2 n).isSome := fun p hp n hn => by
   obtain ⟨⟨k,xs⟩,hpx⟩ := Option.isSome_iff_exists.1 hp;rw [ownG p k xs n hpx hn]; rfl
  have hlt : n < Ha.length := by have := blk_lt hn; omega
  rcases (hG n).2.2 (by rw [<- blk2 n hlt,hn]; rfl) with ⟨b,hb,hbn⟩ | ⟨p,hp,hpn⟩
  ·obtain ⟨ds,hds⟩ := Option.isSome_iff_exists.1 hb;have e := boxG b ds hds;rw [hbn,hn] at e;cases e;obtain ⟨j,hj⟩ := List.getElem?_of_mem hd;rw [trC_get] at hj;cases hi : ds[j]? with
   | none => rw [hi] at hj; cases hj
   | some d0 =>
     rw [hi] at hj;simp at hj;subst hj;obtain ⟨as,a1,a2,a3⟩ := h.box b ds hds
     exact refs_trP (o := ownAt s) (nb := s.H.length) hβ hν (r := .c b j) (fun k xs e => by
      have : ownAt s (.c b j) = some (k,xs) := ownAt_iff.2 (by simp only [at_,hds,hi,e]);rw [this]; rfl) (a3 j d0 hi).1
  ·obtain ⟨⟨k,xs⟩,hpx⟩ := Option.isSome_iff_exists.1 hp;have e := ownG p k xs n hpx hpn;rw [hn] at e;cases e;have ho := h.own p k xs hpx;rw [hpn] at ho;obtain ⟨cs0,c1,c2,c3,c4⟩ := ho;obtain ⟨j,hj⟩ := List.getElem?_of_mem hd;exact refs_pl d (fz_pl (c4 j d hj).1).1
 ·have hlt : n < Ha.length := by have := lt_of_getElem? hp; omega
  rw [blk2 n hlt];exact (sub n p hp).2
end
end Go.Bm

/- Calls of functions that share boxes. -/
namespace Go.Bm
open Go.Am
section
variable {P : Program} {X : Nat -> Prop} {φ φ1 φ' : Phi} {w w1 w' : World} {N N1 N' : Names} {s s' s1 : St} {Ha : Heap} {B : Nat -> Nat} {base : Nat} {v va : AV} {v' : Value} {c : Cfg} {o : Oper} {a : Act} {kd : Kd} {call : Nat -> List AV -> Heap -> Option (AV × Heap)} {t : Nat -> Value}
theorem plpL_get : ∀ {l : List AV},plpL l = true -> ∀ (i : Nat) (z : AV),l[i]? = some z -> plp z = true
 | [],_,i,z,hz => by simp at hz
 | y :: r,h,i,z,hz => by
   simp only [plpL,Bool.and_eq_true] at h;cases i with
   | zero => simp at hz; subst hz; exact h.1
   | succ i => exact plpL_get h.2 i z (by simpa using hz)
theorem Sim.enter (h : Sim X φ w N s Ha t) (hall : allB s.H = true) {args : List AV} {vargs : Array Value} (hp : plpL args = true) (ho : ∀ (i : Nat) (x : AV),args[i]? = some x -> okV (ownAt s) s.H.length x) (hr : ∀ (i : Nat) (x : AV) (v : Value),args[i]? = some x -> vargs[i]? = some v -> Rep (Rd X φ w) φ (trV N x) v) (hl : args.length = vargs.size) :
  Sim X φ w N ⟨mkEnv 0 args,s.H⟩ Ha (fun i => vargs.getD i undef) := by
 have hgi : ∀ i,get (mkEnv 0 args) i = args[i]?.getD .any := fun i => by rw [get_mkEnv]; simp
 have hno : ∀ i,hasOwn (get (mkEnv 0 args) i) = false := fun i => by
  rw [hgi];cases e : args[i]? with
  | none => rfl
  | some x => exact plp_own (plpL_get hp i x e)
 have own : ∀ {p},(ownAt ⟨mkEnv 0 args,s.H⟩ p).isSome -> ∃ b j,p = .c b j := by
  intro p hp';cases p with
  | s i => rw [(hasOwn_at (s := ⟨mkEnv 0 args,s.H⟩) (hno i)).1] at hp'; cases hp'
  | sc i j => rw [(hasOwn_at (s := ⟨mkEnv 0 args,s.H⟩) (hno i)).2 j] at hp'; cases hp'
  | c b j => exact ⟨b,j,rfl⟩
 have box : ∀ b j,ownAt ⟨mkEnv 0 args,s.H⟩ (.c b j) = ownAt s (.c b j) := fun b j => rfl;obtain ⟨_,hbor⟩ := allB_get hall;have isBox : ∀ {p : Rt},notBox p = false -> ∃ b j,p = .c b j := fun {p} hp => by cases p <;> simp [notBox] at hp; exact ⟨_,_,rfl⟩
 refine ⟨fun i => ?_,fun i => ?_,h.heap,fun p k xs e => ?_,fun b cs e => ?_,fun p q n e1 e2 e3 e4 => ?_,fun b p e1 e2 e3 => ?_,h.bi⟩
 ·show Rep _ _ (trS N i (get (mkEnv 0 args) i)) _;rw [trS_trV N i (hno i),hgi];cases e : args[i]? with
  | none => exact .any _ _
  | some x =>
    obtain ⟨v,hv⟩ := agetElem?_some_of (l := vargs) (i := i) (by have := lt_of_getElem? e; omega);simp only [Option.getD_some];rw [Array.getD_eq_getD_getElem?,hv];exact hr i x v e hv
 ·show okV _ _ (get (mkEnv 0 args) i);rw [hgi];cases e : args[i]? with
  | none => trivial
  | some x => exact plp_ok (Nat.le_refl _) x (plpL_get hp i x e) (ho i x e)
 ·obtain ⟨b,j,rfl⟩ := own (p := p) (by rw [e]; rfl);exact h.own _ k xs e
 ·obtain ⟨as,g1,g2,g3⟩ := h.box b cs e;refine ⟨as,g1,g2,fun j d hd => ?_⟩;obtain ⟨g4,g5⟩ := g3 j d hd;refine ⟨okV_bor (Nat.le_refl _) d (fun p hp' => ?_) g4,g5⟩;obtain ⟨b',j',rfl⟩ := isBox (hbor b cs e p (borL_mem hd hp'));rfl
 ·obtain ⟨b,j,rfl⟩ := own e1;obtain ⟨b',j',rfl⟩ := own e2;exact h.inj _ _ n e1 e2 e3 e4
 ·obtain ⟨b',j,rfl⟩ := own e2;exact h.bx b (.c b' j) e1 e2 e3
theorem shared (h : Sim X φ w N s Ha t) (hb : (∀ b,b < base -> N.β b = B b) /\ base <= s.H.length) {env0 : Env} {t0 : Nat -> Value} {φ2 : Phi} {H2 : Heap} (hn : Norm X φ w N ⟨env0,s.H⟩ t0 φ2 H2) (h0 : ∀ i,hasOwn (get env0 i) = false)
  {r : AV} {H' H1 : Heap} {t1 : Nat -> Value} (sim1 : Sim (fun g => X g \/ (Owned φ g /\ ¬ Owned φ2 g)) φ1 w1 N1 ⟨[(0,r)],H'⟩ H1 t1) (ad : Adv φ2 w φ1 w1) (hβ : ∀ b,b < s.H.length -> N1.β b = N.β b) (hle : s.H.length <= H'.length) (hall' : allB H' = true) (hbr : borOf r = []) (hno : hasOwn r = false) :
  ∃ φ',PutOK X φ' w1 B base ⟨mapE swC s.env,H'⟩ r t (t1 0) /\ Adv φ w φ' w1 := by
 obtain ⟨hlive,hbor⟩ := allB_get hall';have isBox : ∀ {p : Rt},notBox p = false -> ∃ b j,p = .c b j := fun {p} hp => by cases p <;> simp [notBox] at hp; exact ⟨_,_,rfl⟩
 obtain ⟨φ3,H3,h3⟩ := sim1.norm hlive;have l3 := h3.sim.heap.len;have l1 := h.heap.len;have l2 := hn.len;have l2h := hn.sim.heap.len;have pl : PhiLe φ2 φ3 := ad.phi.trans h3.adv.phi;have hlen : φ.length <= φ3.length := by have := pl.len; omega
 have ad2 : Adv φ2 w φ3 w1 := ad.trans h3.adv
 -- hidden: known to the caller, not to the callee
 let hid : Nat -> Bool := fun n => decide (n < φ.length) && !(φ2[n]?.join).isSome
 have hid3 : ∀ n,hid n = true -> φ3[n]? = some none /\ blk H3 n = none := by
  intro n hh;simp only [hid,Bool.and_eq_true,decide_eq_true_eq,Bool.not_eq_true'] at hh;obtain ⟨hlt,hj⟩ := hh;obtain ⟨e,he⟩ := getElem?_some_of (l := φ3) (i := n) (by omega)
  have h3n : φ3[n]? = some none := by
   cases e with
   | none => exact he
   | some p =>
     have := pl.old n p (by omega) he;rw [this] at hj; simp at hj
  refine ⟨h3n,?_⟩;cases hb3 : blk H3 n with
  | none => rfl
  | some cs =>
    obtain ⟨g,sz,arr,ty,g1,_⟩ := h3.sim.heap.at hb3;rw [h3n] at g1; cases g1
 have live3 : ∀ n,(blk H3 n).isSome -> hid n = false := fun n hb3 => by
  cases hh : hid n with
  | false => rfl
  | true => rw [(hid3 n hh).2] at hb3; cases hb3
 obtain ⟨φ4,hl4,hφ4⟩ : ∃ φ4 : Phi,φ4.length = φ3.length /\ ∀ m,m < φ3.length -> φ4[m]? = if hid m then φ[m]? else φ3[m]? := by
  refine ⟨(List.range φ3.length).map fun m => if hid m then (φ[m]?).join else (φ3[m]?).join,by simp,fun m hm => ?_⟩;simp only [List.getElem?_map,List.getElem?_range hm,Option.map_some];split
  ·rename_i hh;have hlt : m < φ.length := by simp only [hid,Bool.and_eq_true,decide_eq_true_eq] at hh; exact hh.1
   rw [List.getElem?_eq_getElem hlt]; rfl
  ·rw [List.getElem?_eq_getElem hm]; rfl
 obtain ⟨H4,hlh4,hH4⟩ := exists_heap H3.length fun m => if hid m then (Ha[m]?).join else (H3[m]?).join
 have φ4h : ∀ n,hid n = true -> φ4[n]? = φ[n]? := fun n hh => by
  have hlt : n < φ.length := by simp only [hid,Bool.and_eq_true,decide_eq_true_eq] at hh; exact hh.1
  rw [hφ4 n (by omega),if_pos hh]
 have φ4n : ∀ n,hid n = false -> φ4[n]? = φ3[n]? := fun n hh => by
  by_cases hlt : n < φ3.length
  ·rw [hφ4 n hlt,hh]; rfl
  ·rw [List.getElem?_eq_none (by omega),List.getElem?_eq_none (by omega)]
 have H4h : ∀ n,hid n = true -> H4[n]? = Ha[n]? := fun n hh => by
  have hlt : n < φ.length := by simp only [hid,Bool.and_eq_true,decide_eq_true_eq] at hh; exact hh.1
  rw [hH4 n (by omega),if_pos hh,List.getElem?_eq_getElem (by omega)]; rfl
 have H4n : ∀ n,hid n = false -> H4[n]? = H3[n]? := fun n hh => by
  by_cases hlt : n < H3.length
  ·rw [hH4 n hlt,hh,List.getElem?_eq_getElem hlt]; rfl
  ·rw [List.getElem?_eq_none (by omega),List.getElem?_eq_none (by omega)]
 have blk4h : ∀ n,hid n = true -> blk H4 n = blk Ha n := fun n hh => by unfold blk; rw [H4h n hh]
 have blk4n : ∀ n,hid n = false -> blk H4 n = blk H3 n := fun n hh => by unfold blk; rw [H4n n hh]
 have own4 : ∀ {g},Owned φ4 g -> (∃ n sz,hid n = true /\ φ[n]? = some (some (g,sz))) \/ ∃ n sz,hid n = false /\ φ3[n]? = some (some (g,sz)) := by
  rintro g ⟨n,sz,e⟩;cases hh : hid n with
  | true => rw [φ4h n hh] at e; exact .inl ⟨n,sz,hh,e⟩
  | false => rw [φ4n n hh] at e; exact .inr ⟨n,sz,hh,e⟩
 have hidX : ∀ {n g sz},hid n = true -> φ[n]? = some (some (g,sz)) -> Owned φ g /\ ¬ Owned φ2 g := by
  intro n g sz hh e;refine ⟨⟨n,sz,e⟩,fun ⟨m,sz',e'⟩ => ?_⟩;have := h.heap.inj n m g sz sz' e (hn.sub m _ e');subst this;simp only [hid,Bool.and_eq_true,decide_eq_true_eq,Bool.not_eq_true'] at hh;rw [e'] at hh; simp at hh
 have sub2 : ∀ {g},Owned φ2 g -> Owned φ g := fun ⟨m,sz,e⟩ => ⟨m,sz,hn.sub m _ e⟩
 have adv : Adv φ w φ4 w1 := by
  refine ⟨ad2.os,ad2.tape,ad2.output,ad2.drawn,ad2.size,fun g hg hno => ?_,⟨by omega,fun n p hlt hp => ?_⟩⟩
  ·obtain ⟨k1,k2⟩ := ad2.keep g hg (fun ho => hno (sub2 ho));refine ⟨k1,fun ho => ?_⟩;rcases own4 ho with ⟨n,sz,_,e⟩ | ⟨n,sz,_,e⟩
   ·exact hno ⟨n,sz,e⟩
   ·exact k2 ⟨n,sz,e⟩
  ·cases hh : hid n with
   | true => rwa [φ4h n hh] at hp
   | false =>
     rw [φ4n n hh] at hp;exact hn.sub n p (pl.old n p (by omega) hp)
 -- values of the callee
 have hR : ∀ a u,Rd (fun g => (X g \/ (Owned φ g /\ ¬ Owned φ2 g)) \/ (Owned φ1 g /\ ¬ Owned φ3 g)) φ3 w1 a u -> Rd X φ4 w1 a u := fun a u ⟨p1,p2,p3⟩ => ⟨fun hx => p1 (.inl (.inl hx)),fun ho => by
  rcases own4 ho with ⟨n,sz,hh,e⟩ | ⟨n,sz,_,e⟩
  ·exact p1 (.inl (.inr (hidX hh e)))
  ·exact p2 ⟨n,sz,e⟩,p3⟩
 have tr34 : ∀ {x : AV} {u : Value},refsIn (fun m => (blk H3 m).isSome) x -> Rep (Rd (fun g => (X g \/ (Owned φ g /\ ¬ Owned φ2 g)) \/ (Owned φ1 g /\ ¬ Owned φ3 g)) φ3 w1) φ3 x u -> Rep (Rd X φ4 w1) φ4 x u := fun hx r => Rep.refs hR r hx (by omega) fun b hb4 p hp => by rwa [φ4n b (live3 b hb4)] at hp
 have hheap : HRel X φ4 w1 H4 := by
  refine ⟨by omega,fun g hg => Nat.lt_of_lt_of_le (h.heap.xlt g hg) ad2.size,fun n cs e => ?_,fun n e => ?_,fun n n' g sz sz' e1 e2 => ?_⟩
  ·cases hh : hid n with
   | true =>
     rw [H4h n hh] at e;obtain ⟨g,sz,arr,ty,g1,g2,g3,g4,g5,g6⟩ := h.heap.live n cs e;have hx := hidX hh g1;refine ⟨g,sz,arr,ty,by rw [φ4h n hh]; exact g1,?_,g3,g4,g5,fun i d hd => ?_⟩
     ·rw [(ad2.keep g (h.heap.own_lt hx.1).1 hx.2).1]; exact g2
     ·obtain ⟨u,u1,u2⟩ := g6 i d hd;exact ⟨u,u1,adv.rep u2⟩
   | false =>
     rw [H4n n hh] at e;obtain ⟨g,sz,arr,ty,g1,g2,g3,g4,g5,g6⟩ := h3.sim.heap.live n cs e;refine ⟨g,sz,arr,ty,by rw [φ4n n hh]; exact g1,g2,g3,g4,fun hx => g5 (.inl (.inl hx)),fun i d hd => ?_⟩;obtain ⟨u,u1,u2⟩ := g6 i d hd;exact ⟨u,u1,tr34 (h3.refs n cs (blk_iff.2 e) d (List.mem_of_getElem? hd)) u2⟩
  ·cases hh : hid n with
   | true => rw [H4h n hh] at e; rw [φ4h n hh]; exact h.heap.dead n e
   | false => rw [H4n n hh] at e; rw [φ4n n hh]; exact h3.sim.heap.dead n e
  ·have mix : ∀ {n n' sz sz'},hid n = true -> hid n' = false -> φ[n]? = some (some (g,sz)) -> φ3[n']? = some (some (g,sz')) -> False := by
    intro n n' sz sz' hh hh' e1 e2;obtain ⟨cs,hcs⟩ := Option.isSome_iff_exists.1 (h3.live n' _ e2);obtain ⟨g',sz2,arr,ty,g1,_,_,_,g5,_⟩ := h3.sim.heap.at hcs;rw [e2] at g1; cases g1;exact g5 (.inl (.inr (hidX hh e1)))
   cases hh : hid n with
   | true =>
     rw [φ4h n hh] at e1;cases hh' : hid n' with
     | true => rw [φ4h n' hh'] at e2; exact h.heap.inj n n' g sz sz' e1 e2
     | false => rw [φ4n n' hh'] at e2; exact (mix hh hh' e1 e2).elim
   | false =>
     rw [φ4n n hh] at e1;cases hh' : hid n' with
     | true => rw [φ4h n' hh'] at e2; exact (mix hh' hh e2 e1).elim
     | false => rw [φ4n n' hh'] at e2; exact h3.sim.heap.inj n n' g sz sz' e1 e2
 -- names
 let Nb : Names := ⟨N1.β,N.ν⟩
 let N4 : Names := ⟨N1.β,fun p => match p with
  | .c b j => N1.ν (.c b j)
  | p => N.ν p⟩
 have own_s : ∀ i,ownAt ⟨mapE swC s.env,H'⟩ (.s i) = ownAt s (.s i) := fun i => by
  rw [<- ownAt_mapSt leafSwC s (.s i)]; rfl
 have own_sc : ∀ i j,ownAt ⟨mapE swC s.env,H'⟩ (.sc i j) = ownAt s (.sc i j) := fun i j => by
  rw [<- ownAt_mapSt leafSwC s (.sc i j)]; rfl
 have own_c : ∀ b j,ownAt ⟨mapE swC s.env,H'⟩ (.c b j) = ownAt ⟨[(0,r)],H'⟩ (.c b j) := fun b j => rfl
 have slotOf : ∀ {p},(ownAt ⟨mapE swC s.env,H'⟩ p).isSome -> ((∃ b j,p = .c b j) /\ ownAt ⟨mapE swC s.env,H'⟩ p = ownAt ⟨[(0,r)],H'⟩ p /\ N4.ν p = N1.ν p) \/ ((∀ b j,p ≠ .c b j) /\ ownAt ⟨mapE swC s.env,H'⟩ p = ownAt s p /\ N4.ν p = N.ν p) := by
  intro p hp;cases p with
  | s i => exact .inr ⟨(fun _ _ e => by cases e),own_s i,rfl⟩
  | sc i j => exact .inr ⟨(fun _ _ e => by cases e),own_sc i j,rfl⟩
  | c b j => exact .inl ⟨⟨b,j,rfl⟩,own_c b j,rfl⟩
 -- blocks of slots are hidden
 have hidOwn : ∀ {p n},(∀ b j,p ≠ .c b j) -> (ownAt s p).isSome -> N.ν p = some n -> hid n = true := by
  intro p n hpc hp hnu;have hlt : n < Ha.length := h.own_lt hp hnu;simp only [hid,Bool.and_eq_true,decide_eq_true_eq,Bool.not_eq_true'];refine ⟨by omega,?_⟩;cases e : (φ2[n]?).join with
  | none => rfl
  | some q =>
    exfalso
    have e' : φ2[n]? = some (some q) := by
     cases e2 : φ2[n]? with
     | none => rw [e2] at e; cases e
     | some z => rw [e2] at e; simp at e; rw [e]
    rcases hn.good n (hn.live n q e') with ⟨b,hb1,hb2⟩ | ⟨p',hp1,hp2⟩
    ·exact h.bx b p hb1 hp (by rw [hnu,<- hb2])
    ·have hc : ∃ b j,p' = .c b j := by
      cases p' with
      | s i => rw [(hasOwn_at (s := ⟨env0,s.H⟩) (h0 i)).1] at hp1; cases hp1
      | sc i j => rw [(hasOwn_at (s := ⟨env0,s.H⟩) (h0 i)).2 j] at hp1; cases hp1
      | c b j => exact ⟨b,j,rfl⟩
     obtain ⟨b,j,rfl⟩ := hc;have := h.inj p (.c b j) n hp hp1 hnu hp2;exact hpc b j this
 have box3 : ∀ b,(blk H' b).isSome -> (blk H3 (N1.β b)).isSome := fun b hb' => by
  obtain ⟨cs,hcs⟩ := Option.isSome_iff_exists.1 hb';obtain ⟨as,a1,_⟩ := h3.sim.box b cs hcs;rw [a1]; rfl
 have own3 : ∀ {p n},(ownAt ⟨[(0,r)],H'⟩ p).isSome -> N1.ν p = some n -> (blk H3 n).isSome := by
  intro p n hp hnu;obtain ⟨⟨k,xs⟩,e⟩ := Option.isSome_iff_exists.1 hp;have := h3.sim.own p k xs e;rw [hnu] at this;obtain ⟨cs,h1,_⟩ := this;rw [h1]; rfl
 have hl : ∀ k p a l,(okV (ownAt s) s.H.length (.bor k p a l) -> okV (ownAt ⟨mapE swC s.env,H'⟩) s.H.length (swC (.bor k p a l)) /\ Le (trV N4 (swC (.bor k p a l))) (trV Nb (.bor k p a l))) /\ (okV (ownAt s) s.H.length (.pto k p a l) -> okV (ownAt ⟨mapE swC s.env,H'⟩) s.H.length (swC (.pto k p a l)) /\ Le (trV N4 (swC (.pto k p a l))) (trV Nb (.pto k p a l))) := by
  intro k p a l;cases p with
  | s i =>
    refine ⟨fun h => ⟨?_,Le.refl _⟩,fun h => ⟨?_,Le.refl _⟩⟩
    ·simp only [swC,okV] at h ⊢; rw [own_s]; exact h
    ·simp only [swC,okV] at h ⊢; rw [own_s]; exact h
  | sc i j =>
    refine ⟨fun h => ⟨?_,Le.refl _⟩,fun h => ⟨?_,Le.refl _⟩⟩
    ·simp only [swC,okV] at h ⊢; rw [own_sc]; exact h
    ·simp only [swC,okV] at h ⊢; rw [own_sc]; exact h
  | c b j => exact ⟨fun _ => ⟨trivial,Le.any _⟩,fun _ => ⟨trivial,Le.any _⟩⟩
 have hsim : Sim X φ4 w1 N4 ⟨mapE swC s.env,H'⟩ H4 t := by
  refine ⟨fun i => ?_,fun i => ?_,hheap,fun p k xs e => ?_,fun b cs e => ?_,fun p q n e1 e2 e3 e4 => ?_,fun b p e1 e2 e3 => ?_,fun b d e1 e2 e3 => h3.sim.bi b d e1 e2 e3⟩
  ·show Rep _ _ (trS N4 i (get (mapE swC s.env) i)) _;rw [get_mapE];have r0 := adv.rep (h.env i);have e0 : trS N i (get s.env i) = trS Nb i (get s.env i) := trS_congr2 (N := Nb) (N' := N) (o := ownAt s) (nb := s.H.length) (fun b hb' => (hβ b hb').symm) (fun _ _ => rfl) rfl (fun _ => rfl) (h.oke i);rw [e0] at r0;refine le_trS (N := Nb) (N' := N4) (x := get s.env i) (y := mapB swC (get s.env i)) (fun cs hcs => ⟨mapBL swC cs,by rw [hcs]; rfl,mapBL_length _ _,fun j c d hc hd => ?_⟩) (fun hna => ⟨mapB_nagg leafSwC hna,?_⟩) _ _ _ r0
   ·rw [mapBL_get,hc] at hd;simp at hd;subst hd;have hok := h.oke i;rw [hcs] at hok;simp only [okV] at hok;exact (le_trP_mapB (N := Nb) (N' := N4) (o := ownAt s) (o' := ownAt ⟨mapE swC s.env,H'⟩) (nb := s.H.length) (g := swC) rfl leafSwC hl (r := .sc i j) (fun _ _ _ => rfl) (okL_get.1 hok j c hc)).2
   ·exact (le_trP_mapB (N := Nb) (N' := N4) (o := ownAt s) (o' := ownAt ⟨mapE swC s.env,H'⟩) (nb := s.H.length) (g := swC) rfl leafSwC hl (r := .s i) (fun _ _ _ => rfl) (h.oke i)).2
  ·show okV _ H'.length (get (mapE swC s.env) i);rw [get_mapE];exact okV_mono (fun _ _ => rfl) hle _ (le_mapB (N := Nb) (N' := N4) (o := ownAt s) (o' := ownAt ⟨mapE swC s.env,H'⟩) (nb := s.H.length) (g := swC) rfl leafSwC hl _ (h.oke i)).1
  ·rcases slotOf (p := p) (by rw [e]; rfl) with ⟨⟨b,j,rfl⟩,e1,e2⟩ | ⟨hpc,e1,e2⟩
   ·rw [e1] at e;rw [e2];exact (h3.sim.own _ k xs e).same fun n hnu => blk4n n (live3 n (own3 (by rw [e]; rfl) hnu))
   ·rw [e1] at e;rw [e2];exact (h.own p k xs e).same fun n hnu => blk4h n (hidOwn hpc (by rw [e]; rfl) hnu)
  ·obtain ⟨as,a1,a2,a3⟩ := h3.sim.box b cs e;refine ⟨as,by show blk H4 (N1.β b) = _; rw [blk4n _ (live3 _ (by rw [a1]; rfl))]; exact a1,a2,fun j d hd => ?_⟩;obtain ⟨b1,a',b2,b3⟩ := a3 j d hd;have hbx : ∀ p ∈ borOf d,∃ b j,p = .c b j := fun p hp => isBox (hbor b cs e p (borL_mem hd hp));refine ⟨okV_bor (Nat.le_refl _) d (fun p hp => ?_) b1,a',b2,?_⟩
   ·obtain ⟨b',j',rfl⟩ := hbx p hp; rfl
   ·have : trP N4 (.c b j) d = trP N1 (.c b j) d := trP_congr (N := N1) (N' := N4) rfl (fun _ _ _ => rfl) fun p hp => by obtain ⟨b',j',rfl⟩ := hbx p hp; rfl
    rw [this]; exact b3
  ·rcases slotOf e1 with ⟨hc1,o1,u1⟩ | ⟨hc1,o1,u1⟩ <;> rcases slotOf e2 with ⟨hc2,o2,u2⟩ | ⟨hc2,o2,u2⟩ <;> rw [o1] at e1 <;> rw [o2] at e2 <;> rw [u1] at e3 <;> rw [u2] at e4
   ·exact h3.sim.inj p q n e1 e2 e3 e4
   ·have a1 := live3 n (own3 e1 e3);have a2 := hidOwn hc2 e2 e4;rw [a1] at a2; cases a2
   ·have a1 := live3 n (own3 e2 e4);have a2 := hidOwn hc1 e1 e3;rw [a1] at a2; cases a2
   ·exact h.inj p q n e1 e2 e3 e4
  ·rcases slotOf e2 with ⟨hc2,o2,u2⟩ | ⟨hc2,o2,u2⟩ <;> rw [o2] at e2 <;> rw [u2] at e3
   ·exact h3.sim.bx b p e1 e2 e3
   ·have a1 := live3 _ (box3 b e1);have a2 := hidOwn hc2 e2 e3;have a3 : hid (N1.β b) = true := a2;rw [a1] at a3; cases a3
 have hr0 := h3.sim.env 0;simp only [Am.get,if_true] at hr0;rw [trS_trV N1 0 hno] at hr0;have hok0 := h3.sim.oke 0;simp only [Am.get,if_true] at hok0;refine ⟨φ4,PutOK.quiet hsim ⟨fun b hb' => ?_,Nat.le_trans hb.2 hle⟩ (okV_bor (Nat.le_refl _) r (fun p hp => by rw [hbr] at hp; simp at hp) hok0) (hasOwn_eo hno) ?_,adv⟩
 ·show N1.β b = B b;rw [hβ b (by have := hb.2; omega)]; exact hb.1 b hb'
 ·rw [trQ_trV N4 hno];have : trV N4 r = trV N1 r := tr_congr (N := N1) (N' := N4) rfl fun p hp => by rw [hbr] at hp; simp at hp
  rw [this];refine tr34 (refs_tr (o := ownAt ⟨[(0,r)],H'⟩) (nb := H'.length) (fun b hb' => box3 b (hlive b hb')) (fun p hp n hnu => own3 hp hnu) r hok0) hr0
theorem shCall (hok : CfgOKB P c) (hcall : CallOKB P c call) : ShCall P c call := by
 intro X φ w B base s o a kd f args md q r H' hk h hg ha hf hm hp hall hbr hno hall' hc;obtain ⟨N,Ha,h,hb⟩ := h;obtain ⟨vargs,hrun,hA,hokl⟩ := enter_call hok h hg hk ha hf
 have hent : Sim X φ w N ⟨mkEnv 0 (args.map nilL),s.H⟩ Ha (fun i => vargs.getD i undef) := by
  refine h.enter hall hp (fun i x hx => ?_) (fun i x v hx hv => ?_) (by simpa using hA.1)
  ·rw [List.getElem?_map] at hx;cases hai : args[i]? with
   | none => rw [hai] at hx; cases hx
   | some y =>
     rw [hai] at hx;simp at hx;subst hx;have hy := okL_get.1 hokl i y hai;unfold nilL;split
     ·trivial
     ·exact hy
  ·rw [List.getElem?_map] at hx;cases hai : args[i]? with
   | none => rw [hai] at hx; cases hx
   | some y =>
     rw [hai] at hx;simp at hx;subst hx;have r0 := hA.2 i y v hai hv;have hpy := plpL_get hp i (nilL y) (by rw [List.getElem?_map,hai]; rfl);by_cases ho : ∃ k,y = .own k []
     ·obtain ⟨k,rfl⟩ := ho;simp only [trO] at r0;cases r0;exact .lst0 _ _
     ·have hn : nilL y = y := by
       unfold nilL;split
       ·rename_i k; exact absurd ⟨k,rfl⟩ ho
       ·rfl
      rw [hn] at hpy ⊢;have hy : trO N y = trV N y := by cases y <;> first | rfl | (simp [plp] at hpy; done)
      rw [hy] at r0;exact r0
 obtain ⟨hlive,_⟩ := allB_get hall;obtain ⟨φ2,H2,hn⟩ := hent.norm hlive
 have h0 : ∀ i,hasOwn (get (mkEnv 0 (args.map nilL)) i) = false := fun i => by
  rw [get_mkEnv];simp only [Nat.zero_le,if_true,Nat.sub_zero];cases e : (args.map nilL)[i]? with
  | none => rfl
  | some x => exact plp_own (plpL_get hp i x e)
 have hcalls := hcall f md q hf (args.map nilL) s.H r H' (.inl hm) hc (fun _ => hall') (fun g => X g \/ (Owned φ g /\ ¬ Owned φ2 g)) φ2 w N.β vargs (by simpa using hA.1) ⟨N,H2,hn.sim,fun _ _ => rfl,Nat.le_refl _⟩ (fun g => (hg g).mono (fun a u ⟨h1,h2,h3⟩ => ⟨fun hx => hx.elim h1 fun hh => h2 hh.1,fun ⟨m,sz,e⟩ => h2 ⟨m,sz,hn.sub m _ e⟩,h3⟩) (.refl _));intro K Q hK;unfold Oper.wp;rw [hrun,Oper.upon_enter];refine hcalls.mono ?_;rintro e w1 ⟨v',φ1,rfl,⟨N1,H1,sim1,hb1,hle⟩,ad⟩;obtain ⟨φ',hput,ad'⟩ := shared h hb hn h0 sim1 ad hb1 hle hall' hbr hno;exact hK v' w1 φ' (by simpa using hput) ad'
end
end Go.Bm

/- The machine by value is sound. -/
namespace Go.Bm
open Go.Am
section
variable {P : Program} {c : Cfg}
theorem soundB (hok : CfgOKB P c) (hinp : InpOK P c) (horc : OrcOKB P c) (n : Nat) : SndB P c n :=
 snd_givenB hok hinp horc (fun call hc => shCall hok hc) (fun call hc => drawOK hok (opsOK hok hinp hc (shCall hok hc))) (fun n hs => shOK hok horc hs) n
theorem callsB (hok : CfgOKB P c) (hinp : InpOK P c) (horc : OrcOKB P c) (n : Nat) : CallOKB P c (callB c n) := callW_okB hok horc (soundB hok hinp horc n) (shOK hok horc (soundB hok hinp horc n))
theorem calls_of (hok : CfgOKB P c) (hinp : InpOK P c) (horc : OrcOKB P c) {n f : Nat} {md : Md} {q : AFn} (hf : c.fn f = some (md,q)) (hsh : md.sh = false) {args : List AV} (hz : plL args = true) {r : AV} {H' : Heap} (h : callB c n f args [] = some (r,H')) (hr : pl r = true) {w : World} {vargs : Array Value}
  (ha : ARel (fun _ => False) [] w args vargs) (hg : Am.GlOK (cAm c) (fun _ => False) [] w) : Calls P f vargs w (fun e w' => ∃ v,e = .returned v /\ Rep (Rd (fun _ => False) [] w') [] r v /\ RowKit.Below w.heap.size w w') :=
 calls_ofB hok (callsB hok hinp horc n) hf hsh hz h hr ha hg
end
end Go.Bm

/- More fuel gives the same; runs without counting fuel. -/
namespace Go.Bm
open Go.Am
section
variable {c : Cfg}
abbrev CallF := Nat -> List AV -> Heap -> Option (AV × Heap)
def LeC (f g : CallF) : Prop := ∀ n a H r,f n a H = some r -> g n a H = some r
theorem doCallO_le {f g : CallF} (h : LeC f g) {kd : Kd} {s : St} {x : AV × St × Fq} (e : doCallO c f kd s = some x) : doCallO c g kd s = some x := by
 unfold doCallO at e ⊢;split at e
 ·cases e
 rename_i n args ha
 try simp only [ha]
 split at e
 ·cases e
 rename_i md q hf
 try simp only [hf]
 split at e
 ·rename_i hm
  try rw [if_pos hm]
  split at e
  ·cases e
  rename_i args' hz
  try simp only [hz]
  split at e
  case h_2 => cases e
  rename_i r H' hc;rw [h _ _ _ _ hc];exact e
 ·rename_i hm
  try rw [if_neg hm]
  split at e
  ·cases e
  rename_i n1 args1 ha1
  try simp only [ha1]
  split at e
  case isFalse => cases e
  rename_i hff
  try rw [if_pos hff]
  split at e
  ·rename_i hsh
   try rw [if_pos hsh]
   split at e
   case isFalse => cases e
   rename_i hp
   try rw [if_pos hp]
   split at e
   case h_2 => cases e
   rename_i r H' hc;rw [h _ _ _ _ hc];exact e
  ·rename_i hsh
   try rw [if_neg hsh]
   split at e
   case isFalse => cases e
   rename_i hp
   try rw [if_pos hp]
   split at e
   case h_2 => cases e
   rename_i r H' hc;rw [h _ _ _ _ hc];exact e
theorem locB_none' {f : CallF} {s : St} {kd : Kd} (h : locB c f s kd = none) (g : CallF) : locB c g s kd = none := by
 unfold locB at h ⊢;split at h
 ·split at h
  ·cases h
  ·rename_i hl;exact if_neg hl
 ·rfl
theorem locB_of {f : CallF} {s : St} {kd : Kd} {v : AV} {s1 : St} {fl : Fq} (h : locB c f s kd = some (some (v,s1,fl))) : ∃ n args H r H',f n args H = some (r,H') /\ ∀ g : CallF,g n args H = some (r,H') -> locB c g s kd = some (some (v,s1,fl)) := by
 obtain ⟨n,x,es,b,md,q,cs,cs',rfl,h1,h2,h3,h4,h5,h6,h7,rfl,rfl⟩ := locB_get h;refine ⟨_,_,_,_,_,h6,fun g hg => ?_⟩;unfold locB;simp only;rw [if_pos h1];unfold locV;rw [h2];simp only [h3,h4];rw [if_pos h5,hg];simp only;rw [if_pos h7]
theorem locB_le {f g : CallF} (h : LeC f g) {kd : Kd} {s : St} {x : AV × St × Fq} (e : locB c f s kd = some (some x)) : locB c g s kd = some (some x) := by
 obtain ⟨v,s1,fl⟩ := x;obtain ⟨n,args,H,r,H',h1,h2⟩ := locB_of e;exact h2 g (h _ _ _ _ h1)
theorem movV_of {f : CallF} {fn i : Nat} {s : St} {xs : List AV} {x : AV × St × Fq} (e : movV c f fn i s xs = some x) : ∃ n args H r H',f n args H = some (r,H') /\ ∀ g : CallF,g n args H = some (r,H') -> movV c g fn i s xs = some x := by
 unfold movV at e ⊢;split at e
 case h_2 => cases e
 rename_i md q k p len hf ha;split at e
 case h_2 => cases e
 rename_i k' ys hp;split at e
 case isFalse => cases e
 rename_i hc;split at e
 case h_2 => cases e
 rename_i k2 zs H' hcl;refine ⟨_,_,_,_,_,hcl,fun g hg => ?_⟩;rw [if_pos hc,hg];exact e
theorem movB_some {f : CallF} {kd : Kd} {s : St} {x : AV × St × Fq} (e : movB c f s kd = some (some x)) : ∃ n args H r H',f n args H = some (r,H') /\ ∀ g : CallF,g n args H = some (r,H') -> movB c g s kd = some (some x) := by
 unfold movB at e;split at e
 case h_2 => cases e
 rename_i fn es;split at e
 case h_2 => cases e
 rename_i i hi;simp only [Option.some.injEq] at e;obtain ⟨n,args,H,r,H',h1,h2⟩ := movV_of e;exact ⟨n,args,H,r,H',h1,fun g hg => by simp only [movB,hi,h2 g hg]⟩
theorem movB_none' {f : CallF} {kd : Kd} {s : St} (h : movB c f s kd = none) (g : CallF) : movB c g s kd = none := by
 unfold movB at h ⊢;split at h
 ·split at h
  ·cases h
  ·rename_i hm;simp only [hm]
 ·rfl
theorem doCallM_le {f g : CallF} (h : LeC f g) {kd : Kd} {s : St} {x : AV × St × Fq} (e : doCallM c f kd s = some x) : doCallM c g kd s = some x := by
 unfold doCallM at e ⊢;cases hm : movB c f s kd with
 | none =>
   rw [hm] at e;rw [movB_none' hm g];obtain ⟨v,s1,fl⟩ := x;rcases doCallP_or e with e | e
   ·exact doCallP_of (doCallO_le h e)
   ·obtain ⟨n,args,H,r,H',h1,h2⟩ := snkB_of e;exact doCallP_sn (h2 g (h _ _ _ _ h1))
 | some r =>
   rw [hm] at e;simp only at e;subst e;obtain ⟨n,args,H,r,H',h1,h2⟩ := movB_some hm;rw [h2 g (h _ _ _ _ h1)]
theorem doCallB_le {f g : CallF} (h : LeC f g) {kd : Kd} {s : St} {x : AV × St × Fq} (e : doCallB c f kd s = some x) : doCallB c g kd s = some x := by
 unfold doCallB at e ⊢;cases hi : inpB c s kd with
 | some r => rw [hi] at e; exact e
 | none =>
   rw [hi] at e;cases hl : locB c f s kd with
   | none => rw [hl] at e; rw [locB_none' hl g]; exact doCallM_le h e
   | some r =>
     rw [hl] at e;simp only at e;subst e;rw [locB_le h hl]
theorem opB_nocall {f g : CallF} {s : St} {kd : Kd} (h : isCallK kd = false) : opB c f s kd = opB c g s kd := by
 cases kd <;> first | rfl | (simp [isCallK] at h)
theorem opB_le {f g : CallF} (h : LeC f g) {kd : Kd} {s : St} {x : AV × St × Fq} (e : opB c f s kd = some x) : opB c g s kd = some x := by
 cases hk : isCallK kd with
 | false => rw [<- opB_nocall (f := f) hk]; exact e
 | true =>
   cases kd <;> simp [isCallK] at hk
   ·simp only [opB] at e ⊢; exact doCallB_le h e
   ·simp only [opB] at e ⊢; exact doCallB_le h e
theorem stepB_le {f g : CallF} (h : LeC f g) {s : St} {o : O} {x : St × Fq} (e : stepB c f s o = some x) : stepB c g s o = some x := by
 have op : ∀ {y : AV × St × Fq} {K : AV × St × Fq -> Option (St × Fq)},opB c f s o.kd = some y -> opB c g s o.kd = some y := fun h' => opB_le h h';rw [stepB_ev] at e ⊢;cases hv : evB c f s o with
 | none => rw [hv] at e; cases e
 | some y =>
   have : evB c g s o = some y := by
    unfold evB at hv ⊢;split at hv
    ·exact opB_le h hv
    ·split at hv
     ·split at hv
      ·rename_i hb; simp only [hb,if_true]; exact opB_le h hv
      ·rename_i hb; simp only [hb,if_false]; exact hv
     ·exact hv
     ·cases hv
   rw [hv] at e;rw [this];exact e
theorem opsB_le {f g : CallF} (h : LeC f g) : ∀ {os : List O} {s : St} {x : St × List Fq},opsB c f os s = some x -> opsB c g os s = some x
 | [],s,x,e => e
 | o :: r,s,x,e => by
   simp only [opsB] at e ⊢;split at e
   case h_2 => cases e
   rename_i s1 fl h1;rw [stepB_le h h1];simp only;split at e
   case h_2 => cases e
   rename_i s2 fls h2;rw [opsB_le h h2];exact e
def LeR (f g : Nat -> C -> St -> Option (Ex × St)) : Prop := ∀ b cd s x,f b cd s = some x -> g b cd s = some x
theorem callW_le {f g : Nat -> C -> St -> Option (Ex × St)} (h : LeR f g) : LeC (callW c f) (callW c g) := by
 intro n a H r e;unfold callW at e ⊢;split at e
 ·exact e
 split at e
 ·cases e
 split at e
 case isFalse => cases e
 rename_i md fn hf hl;simp only [hl,if_true];split at e
 ·rename_i s' hs; rw [h _ _ _ _ hs]; exact e
 ·rename_i s' hs; rw [h _ _ _ _ hs]; exact e
 ·cases e
theorem codeB_mono : ∀ n,LeR (codeB c n) (codeB c (n + 1))
 | 0 => fun b cd s x e => by simp [codeB] at e
 | n + 1 => by
   have ih := codeB_mono n;intro b cd s x e;unfold codeB at e ⊢;cases cd with
   | skip => exact e
   | ret => exact e
   | exit i => exact e
   | reg os dr un keep =>
     simp only at e ⊢;split at e
     case h_2 => cases e
     rename_i s' fls hs;rw [opsB_le (callW_le ih) hs];exact e
   | seq a b' =>
     simp only at e ⊢;cases h1 : codeB c n b a s with
     | none => rw [h1] at e; cases e
     | some y =>
       obtain ⟨ex,s1⟩ := y;rw [h1] at e;rw [ih _ _ _ _ h1];cases ex with
       | normal => exact ih _ _ _ _ e
       | exit i => exact e
       | ret => exact e
   | cond y a b' =>
     simp only at e ⊢;split at e
     ·rename_i t ht;split at e
      ·rename_i h1; simp only [h1,if_true]; exact ih _ _ _ _ e
      ·rename_i h1; simp only [h1,if_false,Bool.false_eq_true]; exact ih _ _ _ _ e
     ·cases e
   | blk i b' =>
     simp only at e ⊢;cases h1 : codeB c n b b' s with
     | none => rw [h1] at e; cases e
     | some y =>
       rw [h1] at e;rw [ih _ _ _ _ h1];exact e
   | loop b' =>
     simp only at e ⊢;cases h1 : codeB c n b b' s with
     | none => rw [h1] at e; cases e
     | some y =>
       obtain ⟨ex,s1⟩ := y;rw [h1] at e;rw [ih _ _ _ _ h1];cases ex with
       | normal => exact ih _ _ _ _ e
       | exit i => exact e
       | ret => exact e
theorem codeB_le {n m : Nat} (h : n <= m) : LeR (codeB c n) (codeB c m) := by
 induction h with
 | refl => exact fun _ _ _ _ e => e
 | step _ ih => exact fun b cd s x e => codeB_mono _ b cd s x (ih b cd s x e)
open Classical in
noncomputable def codeL (c : Cfg) (b : Nat) (cd : C) (s : St) : Option (Ex × St) := if h : ∃ n x,codeB c n b cd s = some x then some (Classical.choose (Classical.choose_spec h)) else none
theorem codeL_iff {b : Nat} {cd : C} {s : St} {x : Ex × St} : codeL c b cd s = some x ↔ ∃ n,codeB c n b cd s = some x := by
 unfold codeL;constructor
 ·intro e;split at e
  ·rename_i h;have := Classical.choose_spec (Classical.choose_spec h);exact ⟨_,Option.some.inj e ▸ this⟩
  ·cases e
 ·rintro ⟨n,e⟩;have h : ∃ n x,codeB c n b cd s = some x := ⟨n,x,e⟩;rw [dif_pos h];have := Classical.choose_spec (Classical.choose_spec h);have h1 := codeB_le (Nat.le_max_left n (Classical.choose h)) _ _ _ _ e;have h2 := codeB_le (Nat.le_max_right n (Classical.choose h)) _ _ _ _ this;rw [h1] at h2;cases h2;rfl
noncomputable def callL (c : Cfg) (f : Nat) (args : List AV) (H : Heap) : Option (AV × Heap) := callW c (codeL c) f args H
theorem codeB_leL (n : Nat) : LeR (codeB c n) (codeL c) := fun b cd s x e => codeL_iff.2 ⟨n,e⟩
theorem callB_leL (n : Nat) : LeC (callB c n) (callL c) := callW_le (codeB_leL n)
theorem callL_iff {f : Nat} {args : List AV} {H : Heap} {r : AV × Heap} : callL c f args H = some r ↔ ∃ n,callB c n f args H = some r := by
 constructor
 ·intro e;unfold callL callW at e;split at e
  case h_1 =>
   rename_i g hg;exact ⟨0,by unfold callB callW; rw [hg]; exact e⟩
  rename_i ho;split at e
  ·cases e
  rename_i md fn hf;split at e
  case isFalse => cases e
  rename_i hl;split at e
  ·rename_i s' hs;obtain ⟨n,hn⟩ := codeL_iff.1 hs;exact ⟨n,by unfold callB callW; simp only [ho,hf,hl,if_true,hn]; exact e⟩
  ·rename_i s' hs;obtain ⟨n,hn⟩ := codeL_iff.1 hs;exact ⟨n,by unfold callB callW; simp only [ho,hf,hl,if_true,hn]; exact e⟩
  ·cases e
 ·rintro ⟨n,e⟩;exact callB_leL n _ _ _ _ e
theorem callB_le {n m : Nat} (h : n <= m) : LeC (callB c n) (callB c m) := callW_le (codeB_le h)
theorem opB_lim {s : St} {kd : Kd} {x : AV × St × Fq} : opB c (callL c) s kd = some x ↔ ∃ n,opB c (callB c n) s kd = some x := by
 constructor
 ·intro e;cases hk : isCallK kd with
  | false => exact ⟨0,by rw [opB_nocall (g := callL c) hk]; exact e⟩
  | true =>
    have key0 : ∀ {kd : Kd},doCallO c (callL c) kd s = some x -> ∃ n,doCallO c (callB c n) kd s = some x := by
     intro kd e;unfold doCallO at e;split at e
     ·cases e
     rename_i f args ha;split at e
     ·cases e
     rename_i md q hf;split at e
     ·rename_i hm;split at e
      ·cases e
      rename_i args' hz;split at e
      case h_2 => cases e
      rename_i r H' hc;obtain ⟨n,hn⟩ := callL_iff.1 hc;refine ⟨n,?_⟩;unfold doCallO;simp only [ha,hf,hm,if_true,hz,hn];exact e
     ·rename_i hm;split at e
      ·cases e
      rename_i f1 args1 ha1;split at e
      case isFalse => cases e
      rename_i hff;split at e
      ·rename_i hsh;split at e
       case isFalse => cases e
       rename_i hp;split at e
       case h_2 => cases e
       rename_i r H' hc;obtain ⟨n,hn⟩ := callL_iff.1 hc;refine ⟨n,?_⟩;unfold doCallO;rw [ha];simp only [hf];rw [if_neg hm,ha1];simp only;rw [if_pos hff,if_pos hsh,if_pos hp,hn];exact e
      ·rename_i hsh;split at e
       case isFalse => cases e
       rename_i hp;split at e
       case h_2 => cases e
       rename_i r H' hc;obtain ⟨n,hn⟩ := callL_iff.1 hc;refine ⟨n,?_⟩;unfold doCallO;rw [ha];simp only [hf];rw [if_neg hm,ha1];simp only;rw [if_pos hff,if_neg hsh,if_pos hp,hn];exact e
    have key1 : ∀ {kd : Kd},doCallM c (callL c) kd s = some x -> ∃ n,doCallM c (callB c n) kd s = some x := by
     intro kd e;unfold doCallM at e ⊢;cases hm : movB c (callL c) s kd with
     | none =>
       rw [hm] at e;obtain ⟨v,s1,fl⟩ := x;rcases doCallP_or e with e | e
       ·obtain ⟨n,hn⟩ := key0 e;exact ⟨n,by rw [movB_none' hm]; exact doCallP_of hn⟩
       ·obtain ⟨m,args,H,r,H',h1,h2⟩ := snkB_of e;obtain ⟨n,hn⟩ := callL_iff.1 h1;exact ⟨n,by rw [movB_none' hm]; exact doCallP_sn (h2 _ hn)⟩
     | some r =>
       rw [hm] at e;simp only at e;subst e;obtain ⟨m,args,H,r,H',h1,h2⟩ := movB_some hm;obtain ⟨n,hn⟩ := callL_iff.1 h1;exact ⟨n,by rw [h2 _ hn]⟩
    have key : ∀ {kd : Kd},doCallB c (callL c) kd s = some x -> ∃ n,doCallB c (callB c n) kd s = some x := by
     intro kd e;unfold doCallB at e ⊢;cases hi : inpB c s kd with
     | some r => rw [hi] at e; exact ⟨0,e⟩
     | none =>
       rw [hi] at e;cases hl : locB c (callL c) s kd with
       | none =>
         rw [hl] at e;obtain ⟨n,hn⟩ := key1 e;exact ⟨n,by rw [locB_none' hl]; exact hn⟩
       | some r =>
         rw [hl] at e;simp only at e;subst e;obtain ⟨m,args,H,r,H',h1,h2⟩ := locB_of (v := x.1) (s1 := x.2.1) (fl := x.2.2) hl;obtain ⟨n,hn⟩ := callL_iff.1 h1;exact ⟨n,by rw [h2 _ hn]⟩
    cases kd <;> simp [isCallK] at hk
    ·simp only [opB] at e ⊢; exact key e
    ·simp only [opB] at e ⊢; exact key e
 ·rintro ⟨n,e⟩;exact opB_le (callB_leL n) e
theorem stepB_lim {s : St} {o : O} {x : St × Fq} : stepB c (callL c) s o = some x ↔ ∃ n,stepB c (callB c n) s o = some x := by
 constructor
 ·intro e;rw [stepB_ev] at e;cases hv : evB c (callL c) s o with
  | none => rw [hv] at e; cases e
  | some y =>
    have : ∃ n,evB c (callB c n) s o = some y := by
     unfold evB at hv ⊢;split at hv
     ·obtain ⟨n,hn⟩ := opB_lim.1 hv;exact ⟨n,hn⟩
     ·split at hv
      ·split at hv
       ·rename_i hb;obtain ⟨n,hn⟩ := opB_lim.1 hv;exact ⟨n,by simp only [hb,if_true]; exact hn⟩
       ·rename_i hb; exact ⟨0,by simp only [hb,if_false]; exact hv⟩
      ·exact ⟨0,hv⟩
      ·cases hv
    obtain ⟨n,hn⟩ := this;refine ⟨n,?_⟩;rw [hv] at e;rw [stepB_ev,hn];exact e
 ·rintro ⟨n,e⟩;exact stepB_le (callB_leL n) e
theorem opsB_lim : ∀ {os : List O} {s : St} {x : St × List Fq},opsB c (callL c) os s = some x ↔ ∃ n,opsB c (callB c n) os s = some x
 | [],s,x => ⟨fun e => ⟨0,e⟩,fun ⟨_,e⟩ => e⟩
 | o :: r,s,x => by
   constructor
   ·intro e;simp only [opsB] at e;split at e
    case h_2 => cases e
    rename_i s1 fl h1;split at e
    case h_2 => cases e
    rename_i s2 fls h2;obtain ⟨n,hn⟩ := stepB_lim.1 h1;obtain ⟨m,hm⟩ := opsB_lim.1 h2;refine ⟨max n m,?_⟩;simp only [opsB];rw [stepB_le (callB_le (Nat.le_max_left n m)) hn];simp only;rw [opsB_le (callB_le (Nat.le_max_right n m)) hm];exact e
   ·rintro ⟨n,e⟩;exact opsB_le (callB_leL n) e
theorem opt_ext {α : Type} {a b : Option α} (h : ∀ x,a = some x ↔ b = some x) : a = b := by
 cases a with
 | none => cases b with
   | none => rfl
   | some y => exact ((h y).2 rfl)
 | some x => exact ((h x).1 rfl).symm
variable {b : Nat} {s : St}
theorem codeL_skip : codeL c b .skip s = some (.normal,s) := codeL_iff.2 ⟨1,rfl⟩
theorem codeL_ret : codeL c b .ret s = some (.ret,s) := codeL_iff.2 ⟨1,rfl⟩
theorem codeL_exit {i : Nat} : codeL c b (.exit i) s = some (.exit i,s) := codeL_iff.2 ⟨1,rfl⟩
noncomputable def thenL (c : Cfg) (b : Nat) (y : C) : Option (Ex × St) -> Option (Ex × St)
 | some (.normal,s') => codeL c b y s'
 | r => r
def regL (dr : Bool) (os : List O) (un : List (Nat × Nat)) (base : Nat) (keep : List Nat) : Option (St × List Fq) -> Option (Ex × St)
 | some (s',fls) => if dr = false \/ drawB os fls un = true then (match endR base keep s' with
   | some s2 => some (.normal,s2)
   | none => none) else none
 | none => none
def blkL (i : Nat) : Option (Ex × St) -> Option (Ex × St)
 | some (.exit j,s') => if j = i then some (.normal,s') else some (.exit j,s')
 | r => r
theorem codeL_seq {x y : C} : codeL c b (.seq x y) s = thenL c b y (codeL c b x s) := by
 apply opt_ext;intro z;constructor
 ·intro e;obtain ⟨n,hn⟩ := codeL_iff.1 e;cases n with
  | zero => simp [codeB] at hn
  | succ n =>
    simp only [codeB] at hn;cases h1 : codeB c n b x s with
    | none => rw [h1] at hn; cases hn
    | some w =>
      obtain ⟨ex,s1⟩ := w;rw [h1] at hn;rw [codeB_leL n _ _ _ _ h1];cases ex with
      | normal => exact codeB_leL n _ _ _ _ hn
      | exit i => exact hn
      | ret => exact hn
 ·intro e;cases h1 : codeL c b x s with
  | none => rw [h1] at e; cases e
  | some w =>
    obtain ⟨ex,s1⟩ := w;rw [h1] at e;obtain ⟨n,hn⟩ := codeL_iff.1 h1;cases ex with
    | normal =>
      obtain ⟨m,hm⟩ := codeL_iff.1 e;refine codeL_iff.2 ⟨max n m + 1,?_⟩;simp only [codeB];rw [codeB_le (Nat.le_max_left n m) _ _ _ _ hn];exact codeB_le (Nat.le_max_right n m) _ _ _ _ hm
    | exit i => exact codeL_iff.2 ⟨n + 1,by simp only [codeB]; rw [hn]; exact e⟩
    | ret => exact codeL_iff.2 ⟨n + 1,by simp only [codeB]; rw [hn]; exact e⟩
theorem codeL_loop {x : C} : codeL c b (.loop x) s = thenL c b (.loop x) (codeL c b x s) := by
 apply opt_ext;intro z;constructor
 ·intro e;obtain ⟨n,hn⟩ := codeL_iff.1 e;cases n with
  | zero => simp [codeB] at hn
  | succ n =>
    simp only [codeB] at hn;cases h1 : codeB c n b x s with
    | none => rw [h1] at hn; cases hn
    | some w =>
      obtain ⟨ex,s1⟩ := w;rw [h1] at hn;rw [codeB_leL n _ _ _ _ h1];cases ex with
      | normal => exact codeB_leL n _ _ _ _ hn
      | exit i => exact hn
      | ret => exact hn
 ·intro e;cases h1 : codeL c b x s with
  | none => rw [h1] at e; cases e
  | some w =>
    obtain ⟨ex,s1⟩ := w;rw [h1] at e;obtain ⟨n,hn⟩ := codeL_iff.1 h1;cases ex with
    | normal =>
      obtain ⟨m,hm⟩ := codeL_iff.1 e;refine codeL_iff.2 ⟨max n m + 1,?_⟩;simp only [codeB];rw [codeB_le (Nat.le_max_left n m) _ _ _ _ hn];exact codeB_le (Nat.le_max_right n m) _ _ _ _ hm
    | exit i => exact codeL_iff.2 ⟨n + 1,by simp only [codeB]; rw [hn]; exact e⟩
    | ret => exact codeL_iff.2 ⟨n + 1,by simp only [codeB]; rw [hn]; exact e⟩
theorem codeL_blk {i : Nat} {x : C} : codeL c b (.blk i x) s = blkL i (codeL c b x s) := by
 apply opt_ext;intro z;constructor
 ·intro e;obtain ⟨n,hn⟩ := codeL_iff.1 e;cases n with
  | zero => simp [codeB] at hn
  | succ n =>
    simp only [codeB] at hn;cases h1 : codeB c n b x s with
    | none => rw [h1] at hn; cases hn
    | some w => rw [h1] at hn; rw [codeB_leL n _ _ _ _ h1]; exact hn
 ·intro e;cases h1 : codeL c b x s with
  | none => rw [h1] at e; cases e
  | some w =>
    obtain ⟨n,hn⟩ := codeL_iff.1 h1;rw [h1] at e;exact codeL_iff.2 ⟨n + 1,by simp only [codeB]; rw [hn]; exact e⟩
theorem codeL_cond {v : E} {t : Bool} {x y : C} (h : opnd c s.env v = .bool t) : codeL c b (.cond v x y) s = if t then codeL c b x s else codeL c b y s := by
 apply opt_ext;intro z;constructor
 ·intro e;obtain ⟨n,hn⟩ := codeL_iff.1 e;cases n with
  | zero => simp [codeB] at hn
  | succ n =>
    simp only [codeB,h] at hn;cases t with
    | true => exact codeB_leL n _ _ _ _ hn
    | false => exact codeB_leL n _ _ _ _ hn
 ·intro e;cases t with
  | true => obtain ⟨n,hn⟩ := codeL_iff.1 e; exact codeL_iff.2 ⟨n + 1,by simp only [codeB,h]; exact hn⟩
  | false => obtain ⟨n,hn⟩ := codeL_iff.1 e; exact codeL_iff.2 ⟨n + 1,by simp only [codeB,h]; exact hn⟩
theorem codeL_reg {os : List O} {dr : Bool} {un : List (Nat × Nat)} {keep : List Nat} : codeL c b (.reg os dr un keep) s = regL dr os un b keep (opsB c (callL c) os s) := by
 apply opt_ext;intro z;constructor
 ·intro e;obtain ⟨n,hn⟩ := codeL_iff.1 e;cases n with
  | zero => simp [codeB] at hn
  | succ n =>
    simp only [codeB] at hn;split at hn
    case h_2 => cases hn
    rename_i s' fls h1;rw [opsB_lim.2 ⟨n,h1⟩];exact hn
 ·intro e;cases h1 : opsB c (callL c) os s with
  | none => rw [h1] at e; cases e
  | some w =>
    obtain ⟨n,hn⟩ := opsB_lim.1 h1;rw [h1] at e;refine codeL_iff.2 ⟨n + 1,?_⟩;simp only [codeB];have hn' : opsB c (callW c (codeB c n)) os s = some w := hn;rw [hn'];exact e
theorem callL_of {f : Nat} {md : Md} {q : AFn} {args : List AV} {H : Heap} (ho : c.orc f = none) (hf : c.fn f = some (md,q)) (hl : args.length <= q.n) : callL c f args H = (match codeL c H.length q.body ⟨mkEnv 0 args,H⟩ with
  | some (.ret,s) => (match resVs c s q.res with
    | some vs => finB md H.length s (tupOf vs)
    | none => none)
  | some (.normal,s) => (match resVs c s q.res with
    | some vs => finB md H.length s (tupOf vs)
    | none => none)
  | _ => none) := by
 unfold callL callW;simp only [orcA,ho,hf,hl,if_true];generalize codeL c H.length q.body ⟨mkEnv 0 args,H⟩ = z;cases z with
 | none => rfl
 | some w =>
   obtain ⟨e,s⟩ := w;cases e <;> rfl
end
end Go.Bm

/- Arguments that came in, by value; answers that are bools. -/
namespace Go.Am
open Go.ChangeShapes Go.WideShapes
def IsRow (k : IntKind) (w : World) (a : Option Addr) (len cap : Nat) (zs : List Int) : Prop :=
 (a = none /\ len = 0 /\ cap = 0 /\ zs = []) \/
 ∃ x,a = some x /\ len <= cap /\ cap <= maxLen /\ zs.length = cap /\ (∀ i,i < zs.length -> w.cell? (x.add i) = some (.int k (zs.getD i 0))) /\ ∀ n ∈ zs,(Lit.int k n).wf = true
theorem rowRep {k : IntKind} {w : World} {a : Option Addr} {len cap : Nat} {zs : List Int} (h : IsRow k w a len cap zs) : Rep (Rd (fun _ => False) [] w) [] (.list 1 ((zs.take len).map (AV.int k))) (.slice a len cap) := by
 rcases h with ⟨rfl,rfl,rfl,rfl⟩ | ⟨x,rfl,hl,hm,hz,hcell,hwz⟩
 ·exact .lst0 _ _
 ·refine .lst _ 1 _ x len cap (fun i _ => .int k (zs.getD i 0)) (by simp; omega) hl ?_ ?_ ?_
  ·intro y hy;obtain ⟨n,_,rfl⟩ := List.mem_map.mp hy;rfl
  ·intro i j y c hy hc;have hi : i < ((zs.take len).map (AV.int k)).length := (List.getElem?_eq_some_iff.mp hy).1;simp at hi;rw [List.getElem?_map] at hy;cases hz' : (zs.take len)[i]? with
   | none => rw [hz'] at hy; cases hy
   | some n =>
     rw [hz'] at hy;cases hy;cases j with
     | succ j => simp [AV.cells] at hc
     | zero => exact ⟨id,Owned.nil _,by simpa using hcell i (by omega)⟩
  ·intro i j y c hy hc;rw [List.getElem?_map] at hy;cases hz' : (zs.take len)[i]? with
   | none => rw [hz'] at hy; cases hy
   | some n =>
     rw [hz'] at hy;cases hy;cases j with
     | succ j => simp [AV.cells] at hc
     | zero =>
       simp [AV.cells] at hc;subst hc
       have e : zs.getD i 0 = n := by
        rw [List.getElem?_take] at hz';split at hz'
        ·simp [List.getD,hz']
        ·cases hz'
       rw [e];exact .int _ _ _
theorem ARel.nil {X : Nat -> Prop} {φ : Phi} {w : World} : ARel X φ w [] #[] := ⟨rfl,fun i x v h => by simp at h⟩
theorem ARel.cons {X : Nat -> Prop} {φ : Phi} {w : World} {x : AV} {v : Value} {xs : List AV} {vs : List Value} (h : Rep (Rd X φ w) φ x v) (r : ARel X φ w xs vs.toArray) : ARel X φ w (x :: xs) (v :: vs).toArray := by
 obtain ⟨r1,r2⟩ := r;refine ⟨by simpa using r1,fun i y u hy hu => ?_⟩;cases i with
 | zero =>
   simp at hy hu;subst hy hu;exact h
 | succ i =>
   refine r2 i y u (by simpa using hy) (by simpa using hu)
theorem rep_bool_eq {R : Addr -> Value -> Prop} {φ : Phi} {b : Bool} {v : Value} (h : Rep R φ (.bool b) v) : v = .bool b := by cases h; rfl
end Go.Am
namespace Go.Bm
open Go.Am
theorem calls_boolL {P : Program} {c : Cfg} (hok : CfgOKB P c) (hinp : InpOK P c) (horc : OrcOKB P c) {f : Nat} {md : Md} {q : AFn} (hf : c.fn f = some (md,q)) (hsh : md.sh = false) {args : List AV} {b : Bool} {H' : Heap} (h : callL c f args [] = some (.bool b,H')) (hz : plL args = true) {w : World} {vargs : Array Value}
  (ha : ARel (fun _ => False) [] w args vargs) (hg : Am.GlOK (cAm c) (fun _ => False) [] w) : Calls P f vargs w (fun e w' => e = .returned (.bool b) /\ RowKit.Below w.heap.size w w') := by
 obtain ⟨n,hn⟩ := callL_iff.1 h;refine (calls_of hok hinp horc hf hsh hz hn rfl ha hg).mono ?_;rintro e w' ⟨v,rfl,hr,hb⟩;rw [rep_bool_eq hr];exact ⟨rfl,hb⟩
theorem glOK_tab {c : Cfg} {g0 : Nat} {k : IntKind} {zs : List Int} (h : ∀ g,c.gl g = if g = g0 then zs.map (AV.int k) else []) {w : World} (hc : ∀ i,(hi : i < zs.length) -> w.cell? ⟨g0,i,none⟩ = some (.int k zs[i])) : Am.GlOK (cAm c) (fun _ => False) [] w := by
 intro g;show Rep _ [] (.fptr (c.gl g)) _;rw [h g];split
 ·rename_i e;subst e;refine .fptr _ _ _ (fun j => .int k (zs.getD j 0)) (fun j d hj => ?_) (fun j d hj => ?_)
  ·rw [List.getElem?_map] at hj;cases e : zs[j]? with
   | none => rw [e] at hj; cases hj
   | some z =>
     have hlt := lt_of_getElem? e;refine ⟨id,Owned.nil _,?_⟩;rw [Addr.add_none,Nat.zero_add,hc j hlt,List.getD_eq_getElem?_getD,e,<- List.getElem?_eq_getElem hlt |>.symm.trans e |> Option.some.inj];rfl
  ·rw [List.getElem?_map] at hj;cases e : zs[j]? with
   | none => rw [e] at hj; cases hj
   | some z =>
     rw [e] at hj;simp at hj;subst hj;rw [List.getD_eq_getElem?_getD,e];exact .int _ _ _
 ·exact .fptr _ _ _ (fun _ => undef) (fun j c hj => by simp at hj) (fun j c hj => by simp at hj)
end Go.Bm

/- Calls that are known ahead: a table of runs, each proved by itself. -/
namespace Go.Bm
open Go.Am
structure Fact where
 f : Nat
 args : List AV
 H : Heap
 r : AV
 H' : Heap
end Go.Bm
