/- The library's sort and clone of ints, and its clone and Insert of pairs stand in the configuration. -/
import Derived.Test.YtmoginoicilobabGreatCfS
import Derived.Test.YtmoginoicilobabGreatLayP
open Go.Proofs.Tryz renaming prog → af
namespace Go.BmP
open Go.Am Go.Bm Go.Shelf
def adw (P : Program) (f : Nat) (g : Nat -> List AV -> List AV -> Option (List AV)) : Prop := ∀ k xs es ys,g k xs es = some ys -> (∀ x ∈ xs,x.cells.length = k) -> (∀ x ∈ xs,∀ d ∈ x.cells,fz d = true) ->
 ((∀ y ∈ ys,y.cells.length = k) /\ ∀ y ∈ ys,∀ d ∈ y.cells,fz d = true) /\
 (xs = [] -> ∀ w (vargs : Array Value),es.length + 1 = vargs.size -> vargs[0]? = some (.slice none 0 0) -> (∀ (i : Nat) (e : AV) (v : Value),es[i]? = some e -> vargs[i + 1]? = some v -> bI (la w none) [] e v) -> Calls P f vargs w (ko w none k ys)) /\
 ∀ w (vargs : Array Value) g0 arr te a cap,w.heap[g0]? = some (.cells arr te (0,0)) -> (∀ (i : Nat) (d : AV),(aA xs)[i]? = some d -> ∃ u,arr[i]? = some u /\ bI (fun _ _ => False) [] d u) -> es.length + 1 = vargs.size -> vargs[0]? = some (.slice (some a) xs.length cap) -> (0 < cap -> a = ⟨g0,0,none⟩) -> xs.length <= cap -> cap * k <= arr.size ->
  (∀ (i : Nat) (e : AV) (v : Value),es[i]? = some e -> vargs[i + 1]? = some v -> bI (la w (some g0)) [] e v) -> Calls P f vargs w (ko w (some g0) k ys)
theorem Ul {P : Program} {f : Nat} {g : Nat -> List AV -> List AV -> Option (List AV)} (hg : ∀ k xs es ys,g k xs es = some ys -> ∀ e ∈ es,GU e = false) (h : adw P f g) : yf P f g ko := by
 intro k xs es ys e h1 h2;obtain ⟨p,q,r⟩ := h k xs es ys e h1 h2
 have bes : ∀ og w (i : Nat) x v,es[i]? = some x -> bI (RA x w og) [] x v -> bI (la w og) [] x v := fun og w i x v hx hr => by
  have n := hg k xs es ys e x (List.mem_of_getElem? hx);have : RA x = la := by cases x <;> first | rfl | (simp [GU] at n; done)
  rwa [this] at hr
 refine ⟨p,fun hx w vargs a b c => q hx w vargs a b fun i x v u1 u2 => bes _ _ i x v u1 (c i x v u1 u2),fun w vargs g0 arr te a cap a1 a2 a3 a4 a5 a6 a7 c => r w vargs g0 arr te a cap a1 a2 a3 a4 a5 a6 a7 fun i x v u1 u2 => bes _ _ i x v u1 (c i x v u1 u2)⟩
theorem acu : ∀ k xs es ys,Oy k xs es = some ys -> ∀ e ∈ es,GU e = false := by
 intro k xs es ys h e he;unfold Oy at h;split at h
 ·simp at he;rcases he with rfl | rfl <;> rfl
 ·cases h
theorem acQ : ∀ k xs es ys,O3 k xs es = some ys -> ∀ e ∈ es,GU e = false := by
 intro k xs es ys h e he;unfold O3 at h;split at h
 ·simp at he;rcases he with rfl | rfl <;> rfl
 ·cases h
theorem adk : zB af ak := by
 constructor
 ·intro f g hf;have CY : Ky f = some g := hf;unfold Ky at CY;split at CY
  ·rename_i e;subst e;cases CY;exact ⟨⟨_,_,sQ2⟩,fun k xs es ys res hg _ _ => Xl aaf hg⟩
  ·cases CY
 ·intro f g hf;have CY : eatS f = some g := hf;unfold eatS at CY;split at CY
  ·rename_i e;subst e;cases CY;exact ⟨⟨_,_,sQa2⟩,yf.weak (Ul acu aim)⟩
  ·split at CY
   ·rename_i e;subst e;cases CY;exact ⟨⟨_,_,sQa6⟩,yf.weak (Ul acQ aiD)⟩
   ·cases CY
theorem adj : uR af ak := by
 intro f g md q hf hq args H r H' hH hg _ X φ w B vargs hl hs _;have CY : orcF f = some g := hf;unfold orcF at CY;split at CY
 ·rename_i e;subst e;cases CY;exact aaM hg hl hs
 ·split at CY
  ·rename_i e;subst e;cases CY;exact aaO hg hl hs
  ·cases CY
end Go.BmP
