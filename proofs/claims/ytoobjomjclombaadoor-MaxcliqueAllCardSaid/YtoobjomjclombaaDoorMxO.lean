/- The runs of the older machine as oracles. -/
import Derived.Test.YtoobjomjclombaaDoorMxA
set_option linter.unusedSimpArgs false
set_option linter.unusedVariables false
namespace Go.Bm
open Go.Am
theorem frz_ret {X : Nat -> Prop} {φ1 φ : Phi} {w w' : World} {N : Names} {Ha : Heap} {B : Nat -> Nat} {v' : Value} {r : AV} (hno : ∀ p,ownAt ⟨[(0,r)],[]⟩ p = none) (htr : trS ⟨N.β,fun _ => none⟩ 0 r = r) (hov : ∀ o n,okV o n r) (h1 : HRel X φ1 w' Ha) (a1 : Adv φ w φ1 w') (hr : Rep (Rd X φ1 w') φ1 r v') : RetB X φ w B 0 r [] (.returned v') w' := by
 have hgi : ∀ i,Am.get [(0,r)] i = if i = 0 then r else .any := fun i => by simp only [Am.get]
 refine ⟨v',φ1,rfl,⟨⟨N.β,fun _ => none⟩,Ha,⟨fun i => ?_,fun i => ?_,h1,fun p k' xs e => ?_,fun b cs e => by simp [blk] at e,fun p q n e => ?_,fun b p e => by simp [blk] at e,fun b c e => by simp [blk] at e⟩,fun b hb => by omega,Nat.zero_le _⟩,a1⟩
 ·show Rep _ _ (trS _ i (Am.get [(0,r)] i)) (if i = 0 then v' else undef)
  rw [hgi]
  by_cases e : i = 0
  ·rw [if_pos e,if_pos e,e,htr]; exact hr
  ·rw [if_neg e,if_neg e]; exact .any _ _
 ·show okV _ _ (Am.get [(0,r)] i)
  rw [hgi]
  split
  ·exact hov _ _
  ·trivial
 ·rw [hno] at e; cases e
 ·rw [hno] at e; cases e
theorem own_no {r : AV} (h1 : ∀ k xs,r ≠ .own k xs) (h2 : ∀ cs,r ≠ .agg cs) : ∀ p,ownAt ⟨[(0,r)],[]⟩ p = none := by
 have hgi : ∀ i,Am.get [(0,r)] i = if i = 0 then r else .any := fun i => by simp only [Am.get]
 intro p
 cases p with
 | s i =>
   simp only [ownAt,at_,hgi]
   by_cases hi : i = 0
   ·rw [if_pos hi]
    split
    ·rename_i k xs e
     exact absurd (Option.some.inj e) (h1 k xs)
    ·rfl
   ·rw [if_neg hi]
 | sc i j =>
   simp only [ownAt,at_,hgi]
   by_cases hi : i = 0
   ·rw [if_pos hi]
    cases r <;> first | rfl | exact absurd rfl (h2 _)
   ·rw [if_neg hi]
 | c b j => simp [ownAt,at_,blk]
theorem am_orc {c : Am.Cfg} {P : Program} (hok : Am.CfgOK P c) (horc : OrcOK P c) {f : Nat} {m : Am.Md} {q : AFn} (hf : c.fn f = some (m,q)) {args : List AV} {r : AV} {n : Nat} {x : AV} {H1 : Heap} {bs : List Nat} (hc : aCall c n f args [] = some (x,H1)) (hz : Am.frz H1 DEEP x = some (r,bs))
  (hp : ∀ a ∈ args,a.plain = true) (ht : ∀ (N : Names) (i : Nat) (a : AV),args[i]? = some a -> trS N i a = a) (hno : ∀ p,ownAt ⟨[(0,r)],[]⟩ p = none) (htr : ∀ N : Names,trS N 0 r = r) (hov : ∀ o n,okV o n r)
  {X : Nat -> Prop} {φ : Phi} {w : World} {B : Nat -> Nat} {vargs : Array Value} (hl : args.length = vargs.size) (hs : SB X φ w B 0 ⟨mkEnv 0 args,[]⟩ (fun i => vargs.getD i undef)) (hg : Am.GlOK c X φ w) :
  Calls P f vargs w (RetB X φ w B 0 r []) := by
 obtain ⟨N,Ha,h,hb⟩ := hs
 refine (pure_call (callW_ok hok horc (snd_all hok horc n)) hf hc hz h.heap hg ⟨hl,fun i a u ha hu => ?_⟩).mono ?_
 ·have e := h.env i
  have hget : Am.get (mkEnv 0 args) i = a := by rw [get_mkEnv]; simp [ha]
  have hv : vargs.getD i undef = u := by rw [Array.getD_eq_getD_getElem?,hu]; rfl
  have e2 : Rep (Rd X φ w) φ (trS N i (Am.get (mkEnv 0 args) i)) (vargs.getD i undef) := e
  rw [hget,hv,ht N i a ha] at e2
  exact e2.of_plain (hp a (List.mem_of_getElem? ha)) []
 ·rintro e w' ⟨v',φ1,rfl,rr,h1,a1⟩
  exact frz_ret (N := N) hno (htr _) hov h1 a1 rr
theorem runA_get {f : Nat} {args : List AV} {r : AV} (h : Go.AmP.runA f args r = true) : ∃ x H bs,aCall Go.AmP.cfgM 400 f args [] = some (x,H) /\ Am.frz H DEEP x = some (r,bs) := by
 unfold Go.AmP.runA at h
 split at h
 ·rename_i x H e
  split at h
  ·rename_i y bs e2
   refine ⟨x,H,bs,e,?_⟩
   rw [e2,avE_eq _ _ h]
  ·cases h
 ·cases h
theorem mb_orc {args : List AV} {H : Heap} {r : AV} {H' : Heap} (hg : gMb args H = some (r,H')) {X : Nat -> Prop} {φ : Phi} {w : World} {B : Nat -> Nat} {vargs : Array Value} (hl : args.length = vargs.size) (hs : SB X φ w B H.length ⟨mkEnv 0 args,H⟩ (fun i => vargs.getD i undef)) (hG : Am.GlOK Go.AmP.cfgM X φ w) :
  Calls Go.Proofs.Tryd.prog Go.AmP.nQr vargs w (RetB X φ w B H.length r H') := by
 unfold gMb at hg
 split at hg
 case h_2 => cases hg
 split at hg
 case isFalse => cases hg
 rename_i e
 have e := avLE_eq _ _ e
 subst e
 simp only [Option.some.injEq,Prod.mk.injEq] at hg
 obtain ⟨rfl,rfl⟩ := hg
 obtain ⟨x,H1,bs,h1,h2⟩ := runA_get Go.AmP.run_b
 exact am_orc Go.AmP.cfgMOK Go.AmP.orcMOK (show Go.AmP.cfgM.fn Go.AmP.nQr = some (.P,Go.AmP.qQr) from Go.AmP.gQr) h1 h2 (fun a ha => by simp only [List.mem_singleton] at ha; subst ha; rfl) (fun N i a ha => by
  match i with
  | 0 => cases ha; rfl
  | i + 1 => simp at ha) (own_no (fun _ _ h => by cases h) (fun _ h => by cases h)) (fun N => rfl) (fun o n => ⟨trivial,trivial,trivial⟩) hl hs hG
theorem mc_orc {args : List AV} {H : Heap} {r : AV} {H' : Heap} (hg : gMc args H = some (r,H')) {X : Nat -> Prop} {φ : Phi} {w : World} {B : Nat -> Nat} {vargs : Array Value} (hl : args.length = vargs.size) (hs : SB X φ w B H.length ⟨mkEnv 0 args,H⟩ (fun i => vargs.getD i undef)) (hG : Am.GlOK Go.AmP.cfgM X φ w) :
  Calls Go.Proofs.Tryd.prog Go.AmP.nQi vargs w (RetB X φ w B H.length r H') := by
 unfold gMc at hg
 split at hg
 case h_2 => cases hg
 split at hg
 case isFalse => cases hg
 rename_i e
 have e := avLE_eq _ _ e
 subst e
 simp only [Option.some.injEq,Prod.mk.injEq] at hg
 obtain ⟨rfl,rfl⟩ := hg
 obtain ⟨x,H1,bs,h1,h2⟩ := runA_get Go.AmP.run_c
 exact am_orc Go.AmP.cfgMOK Go.AmP.orcMOK (show Go.AmP.cfgM.fn Go.AmP.nQi = some (.P,Go.AmP.qQi) from Go.AmP.gQi) h1 h2 (fun a ha => by simp only [List.mem_singleton] at ha; subst ha; rfl) (fun N i a ha => by
  match i with
  | 0 => cases ha; rfl
  | i + 1 => simp at ha) (own_no (fun _ _ h => by cases h) (fun _ h => by cases h)) (fun N => rfl) (fun o n => ⟨trivial,trivial,trivial⟩) hl hs hG
theorem mp_orc {args : List AV} {H : Heap} {r : AV} {H' : Heap} (hg : gMp args H = some (r,H')) {X : Nat -> Prop} {φ : Phi} {w : World} {B : Nat -> Nat} {vargs : Array Value} (hl : args.length = vargs.size) (hs : SB X φ w B H.length ⟨mkEnv 0 args,H⟩ (fun i => vargs.getD i undef)) (hG : Am.GlOK Go.AmP.cfgM X φ w) :
  Calls Go.Proofs.Tryd.prog Go.AmP.nQj vargs w (RetB X φ w B H.length r H') := by
 unfold gMp at hg
 split at hg
 case h_2 => cases hg
 split at hg
 case isFalse => cases hg
 rename_i e
 have e := avLE_eq _ _ e
 subst e
 simp only [Option.some.injEq,Prod.mk.injEq] at hg
 obtain ⟨rfl,rfl⟩ := hg
 obtain ⟨x,H1,bs,h1,h2⟩ := runA_get Go.AmP.run_p
 exact am_orc Go.AmP.cfgMOK Go.AmP.orcMOK (show Go.AmP.cfgM.fn Go.AmP.nQj = some (.P,Go.AmP.qQj) from Go.AmP.gQj) h1 h2 (fun a ha => by
  simp only [List.mem_cons,List.not_mem_nil,or_false] at ha
  rcases ha with rfl | rfl <;> rfl) (fun N i a ha => by
  match i with
  | 0 => cases ha; rfl
  | 1 => cases ha; rfl
  | i + 2 => simp at ha) (own_no (fun _ _ h => by cases h) (fun _ h => by cases h)) (fun N => rfl) (fun o n => trivial) hl hs hG
end Go.Bm
