/- More fuel never changes an answer; guards as a rewriting rule. -/
import Derived.Test.YtnffadblmhadbaaAmL
namespace Go.Am
section
variable {c : Cfg}
theorem callW_mono {run run' : C → St → Option (Ex × St)} (h : ∀ cd s r, run cd s = some r → run' cd s = some r) (f : Nat) (args : List AV) (H : Heap) (r : AV × Heap) (hr : callW c run f args H = some r) : callW c run' f args H = some r := by
  unfold callW at hr ⊢
  cases ho : c.orc f with
  | some g => simpa only [ho] using hr
  | none =>
    simp only [ho] at hr ⊢
    cases hf : c.fn f with
    | none => simp only [hf] at hr; cases hr
    | some p =>
      obtain ⟨m, q⟩ := p
      simp only [hf] at hr ⊢
      split at hr
      · rename_i hl
        rw [if_pos hl]
        cases hx : run q.body ⟨mkEnv 0 args, H⟩ with
        | none => rw [hx] at hr; cases hr
        | some z => rw [hx] at hr; rw [h _ _ _ hx]; exact hr
      · cases hr
theorem doCall_mono {call call' : Nat → List AV → Heap → Option (AV × Heap)} (h : ∀ f a H r, call f a H = some r → call' f a H = some r) (f : Nat) (a : List AV) (H : Heap) (r : AV × Heap × Fp) (hr : doCall c call f a H = some r) : doCall c call' f a H = some r := by
  unfold doCall at hr ⊢
  cases hf : c.fn f with
  | none => simp only [hf] at hr; cases hr
  | some p =>
    obtain ⟨m, q⟩ := p
    cases m with
    | K =>
      simp only [hf] at hr ⊢
      cases hc : call f a H with
      | none => rw [hc] at hr; cases hr
      | some z => rw [hc] at hr; rw [h _ _ _ _ hc]; exact hr
    | T =>
      simp only [hf] at hr ⊢
      cases hc : call f a H with
      | none => rw [hc] at hr; cases hr
      | some z => rw [hc] at hr; rw [h _ _ _ _ hc]; exact hr
    | P =>
      simp only [hf] at hr ⊢
      split at hr
      · rename_i hp
        rw [if_pos hp]
        cases hc : call f a [] with
        | none => rw [hc] at hr; cases hr
        | some z => rw [hc] at hr; rw [h _ _ _ _ hc]; exact hr
      · rename_i hp
        rw [if_neg hp]
        cases hm : mapF (frz H DEEP) a with
        | none => rw [hm] at hr; cases hr
        | some y =>
          obtain ⟨a', bs⟩ := y
          simp only [hm] at hr ⊢
          cases hc : call f a' [] with
          | none => rw [hc] at hr; cases hr
          | some z => rw [hc] at hr; rw [h _ _ _ _ hc]; exact hr
theorem aOp_mono {call call' : Nat → List AV → Heap → Option (AV × Heap)} (h : ∀ f a H r, call f a H = some r → call' f a H = some r) {env : Env} {H : Heap} {kd : Kd} {r : AV × Heap × Fp} (hr : aOp c call env H kd = some r) : aOp c call' env H kd = some r := by
  by_cases hk : kd.isCall = false
  · rw [← aOp_nocall (call := call) hk]; exact hr
  · cases kd with
    | call f xs => exact doCall_mono h _ _ _ _ hr
    | callv x xs =>
      simp only [aOp] at hr ⊢
      split at hr
      · rename_i f as bs hx
        exact doCall_mono h _ _ _ _ hr
      · cases hr
    | _ => simp [Kd.isCall] at hk
theorem stepO_mono {call call' : Nat → List AV → Heap → Option (AV × Heap)} (h : ∀ f a H r, call f a H = some r → call' f a H = some r) {s : St} {o : O} {r : St × Fp} (hr : stepO c call s o = some r) : stepO c call' s o = some r := by
  unfold stepO at hr ⊢
  cases hg : o.guard with
  | none =>
    simp only [hg] at hr ⊢
    cases hc : aOp c call s.env s.H o.kd with
    | none => rw [hc] at hr; cases hr
    | some z => rw [hc] at hr; rw [aOp_mono h hc]; exact hr
  | some p =>
    obtain ⟨g, w⟩ := p
    simp only [hg] at hr ⊢
    cases hv : get s.env g with
    | bool b =>
      simp only [hv] at hr ⊢
      split at hr
      · rename_i hb
        rw [if_pos hb]
        cases hc : aOp c call s.env s.H o.kd with
        | none => rw [hc] at hr; cases hr
        | some z => rw [hc] at hr; rw [aOp_mono h hc]; exact hr
      · rename_i hb
        rw [if_neg hb]
        exact hr
    | _ => simp only [hv] at hr ⊢; exact hr
theorem aOps_mono {call call' : Nat → List AV → Heap → Option (AV × Heap)} (h : ∀ f a H r, call f a H = some r → call' f a H = some r) : ∀ (os : List O) {s : St} {r : St × List Fp}, aOps c call os s = some r → aOps c call' os s = some r := by
  intro os
  induction os with
  | nil => intro s r hr; exact hr
  | cons o os ih =>
    intro s r hr
    unfold aOps at hr ⊢
    cases ho : stepO c call s o with
    | none => rw [ho] at hr; cases hr
    | some p =>
      obtain ⟨s1, f⟩ := p
      simp only [ho] at hr
      simp only [stepO_mono h ho]
      cases h1 : aOps c call os s1 with
      | none => rw [h1] at hr; cases hr
      | some z => rw [h1] at hr; rw [ih h1]; exact hr
theorem aCode_mono : ∀ (n : Nat) (cd : C) (s : St) (r : Ex × St), aCode c n cd s = some r → aCode c (n + 1) cd s = some r := by
  intro n
  induction n with
  | zero => intro cd s r h; simp [aCode] at h
  | succ n ih =>
    intro cd s r h
    have hc := callW_mono (c := c) ih
    cases cd with
    | skip => exact h
    | ret => exact h
    | exit id => exact h
    | reg os dr un keep =>
      rw [aCode] at h ⊢
      cases ho : aOps c (callW c (aCode c n)) os s with
      | none => rw [ho] at h; cases h
      | some p => rw [ho] at h; rw [aOps_mono hc os ho]; exact h
    | seq a b =>
      rw [aCode] at h ⊢
      cases ha : aCode c n a s with
      | none => rw [ha] at h; cases h
      | some p =>
        obtain ⟨e, s1⟩ := p
        rw [ha] at h
        rw [ih _ _ _ ha]
        cases e with
        | normal => exact ih _ _ _ h
        | exit id => exact h
        | ret => exact h
    | cond x a b =>
      rw [aCode] at h ⊢
      split at h
      · rename_i t ht
        cases t
        · exact ih _ _ _ h
        · exact ih _ _ _ h
      · cases h
    | blk id b =>
      rw [aCode] at h ⊢
      cases hb : aCode c n b s with
      | none => rw [hb] at h; cases h
      | some p => rw [hb] at h; rw [ih _ _ _ hb]; exact h
    | loop b =>
      rw [aCode] at h ⊢
      cases ha : aCode c n b s with
      | none => rw [ha] at h; cases h
      | some p =>
        obtain ⟨e, s1⟩ := p
        rw [ha] at h
        rw [ih _ _ _ ha]
        cases e with
        | normal => exact ih _ _ _ h
        | exit id => exact h
        | ret => exact h
theorem aCall_mono {n m : Nat} (h : n ≤ m) {f : Nat} {args : List AV} {H : Heap} {r : AV × Heap} (hr : aCall c n f args H = some r) : aCall c m f args H = some r := by
  induction m with
  | zero => obtain rfl : n = 0 := by omega
            exact hr
  | succ m ih =>
    by_cases hn : n = m + 1
    · subst hn; exact hr
    · exact callW_mono (aCode_mono m) _ _ _ _ (ih (by omega))
theorem Cl.run {n : Nat} {f : Nat} {args : List AV} {H : Heap} {r : AV} {H' : Heap} (hr : aCall c n f args H = some (r, H')) : Cl c f args H r H' := ⟨n, fun _ hm => aCall_mono hm hr⟩
/-- A run by the kernel that ends with the bool t. -/
def isB (t : Bool) (o : Option (AV × Heap)) : Bool :=
  match o with
  | some (.bool b, _) => b == t
  | _ => false
theorem Pu.run {n : Nat} {f : Nat} {args : List AV} {t : Bool} (hr : isB t (aCall c n f args []) = true) : Pu c f args (.bool t) := by
  cases ho : aCall c n f args [] with
  | none => rw [ho] at hr; cases hr
  | some p =>
    obtain ⟨r, H⟩ := p
    rw [ho] at hr
    cases r <;> simp [isB] at hr
    subst hr
    exact Pu.of (Cl.run ho) (bs := []) rfl

theorem WO_grd {d : Option Nat} {g : Nat} {w : Bool} {kd : Kd} {os : List O} {s : St} {acc : List Fp} {K : St → List Fp → Prop} : WO c (⟨d, some (g, w), kd⟩ :: os) s acc K ↔ (match get s.env g with
    | .bool b => if b = w then WO c (⟨d, none, kd⟩ :: os) s acc K else WO c os ⟨putd s.env d .undef, s.H⟩ (acc ++ [.no]) K
    | .undef => WO c os ⟨putd s.env d .undef, s.H⟩ (acc ++ [.no]) K
    | _ => False) := by
  have hs : ∀ (r : Option (St × Fp)), (∀ m, stepO c (callW c (aCode c m)) s ⟨d, some (g, w), kd⟩ = r) → ∀ s1 f, r = some (s1, f) → (WO c (⟨d, some (g, w), kd⟩ :: os) s acc K ↔ WO c os s1 (acc ++ [f]) K) := by
    intro r h s1 f hr
    constructor
    · rintro ⟨n, s', fls, h1, h2⟩
      have hn := h1 n (Nat.le_refl _)
      simp only [aOps, h, hr] at hn
      split at hn
      · rename_i s2 fls2 h3
        simp at hn
        obtain ⟨rfl, rfl⟩ := hn
        refine ⟨n, s2, fls2, fun m hm => ?_, by simpa using h2⟩
        have hm := h1 m hm
        simp only [aOps, h, hr] at hm
        split at hm
        · rename_i s3 fls3 h4
          simp at hm
          rw [h4, hm.1, hm.2]
        · cases hm
      · cases hn
    · intro h'
      exact WO_of ⟨0, fun m _ => (h m).trans hr⟩ h'
  cases hg : get s.env g with
  | bool b =>
    simp only
    by_cases hb : b = w
    · rw [if_pos hb]
      subst hb
      refine ⟨?_, WO_want hg⟩
      rintro ⟨n, s', fls, h1, h2⟩
      refine ⟨n, s', fls, fun m hm => ?_, h2⟩
      have := h1 m hm
      simpa only [aOps, stepO, hg, if_true] using this
    · rw [if_neg hb]
      exact hs _ (fun m => by simp only [stepO, hg, if_neg hb]) _ _ rfl
  | undef => exact hs _ (fun m => by simp only [stepO, hg]) _ _ rfl
  | _ =>
    simp only
    constructor
    · rintro ⟨n, s', fls, h1, h2⟩
      have hn := h1 n (Nat.le_refl _)
      simp [aOps, stepO, hg] at hn
    · intro h; exact h.elim
end
end Go.Am
