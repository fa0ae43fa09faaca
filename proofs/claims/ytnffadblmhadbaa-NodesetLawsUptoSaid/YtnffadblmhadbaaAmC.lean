/- The heap relation under the steps of the machine; freezing. -/
import Derived.Test.YtnffadblmhadbaaAmB
namespace Go.Am

theorem blk_some {H : Heap} {b : Nat} {cs : List AV} (h : blk H b = some cs) : H[b]? = some (some cs) := by
  unfold blk at h
  split at h
  · rename_i h'; rw [h']; simpa using h
  · cases h
theorem HRel.at {X : Nat → Prop} {φ : Phi} {w : World} {H : Heap} (h : HRel X φ w H) {b : Nat} {cs : List AV} (hb : blk H b = some cs) :
    ∃ (g sz : Nat) (arr : Array Value) (e : TypeId), φ[b]? = some (some (g, sz)) ∧ w.heap[g]? = some (.cells arr e (0, 0)) ∧ arr.size = sz ∧ cs.length ≤ sz ∧ ¬ X g ∧
      ∀ (i : Nat) (c : AV), cs[i]? = some c → ∃ u, arr[i]? = some u ∧ Rep (Rd X φ w) φ c u := h.live b cs (blk_some hb)

theorem Owned.nil (g : Nat) : ¬ Owned [] g := fun ⟨b, sz, h⟩ => by simp at h
theorem owned_append {φ : Phi} {p : Nat × Nat} {g : Nat} (h : Owned (φ ++ [some p]) g) : Owned φ g ∨ g = p.1 := by
  obtain ⟨b, sz, hb⟩ := h
  by_cases hlt : b < φ.length
  · rw [List.getElem?_append_left hlt] at hb
    exact .inl ⟨b, sz, hb⟩
  · rw [List.getElem?_append_right (by omega)] at hb
    have h0 : b - φ.length = 0 := by
      have := lt_of_getElem? hb
      simp at this; omega
    rw [h0] at hb
    simp at hb
    right; rw [hb]
theorem owned_set {φ : Phi} {b g : Nat} (h : Owned (φ.set b none) g) : Owned φ g := by
  obtain ⟨c, sz, hc⟩ := h
  refine ⟨c, sz, ?_⟩
  rw [List.getElem?_set] at hc
  split at hc
  · split at hc <;> simp at hc
  · exact hc

/-- A world that has only new blocks. -/
theorem Adv.of_same {φ : Phi} {w w' : World} {ψ : Phi} (h : Adv [] w ψ w') : Adv φ w φ w' :=
  ⟨h.os, h.tape, h.output, h.size, fun g hg ho => ⟨(h.keep g hg (Owned.nil g)).1, ho⟩, .refl _⟩
theorem HRel.of_same {X : Nat → Prop} {φ : Phi} {w w' : World} {H : Heap} {ψ : Phi} (h : HRel X φ w H) (a : Adv [] w ψ w') : HRel X φ w' H := by
  have k : Adv φ w φ w' := Adv.of_same a
  refine ⟨h.len, fun g hg => Nat.lt_of_lt_of_le (h.xlt g hg) a.size, fun b cs hb => ?_, h.dead, h.inj⟩
  obtain ⟨g, sz, arr, e, h1, h2, h3, h4, h5, h6⟩ := h.live b cs hb
  refine ⟨g, sz, arr, e, h1, ?_, h3, h4, h5, fun i c hc => ?_⟩
  · rw [(a.keep g (Array.getElem?_eq_some_iff.1 h2).1 (Owned.nil g)).1]; exact h2
  · obtain ⟨u, hu, r⟩ := h6 i c hc
    exact ⟨u, hu, k.rep r⟩

/-- A new block. -/
theorem HRel.alloc {X : Nat → Prop} {φ : Phi} {w w' : World} {H : Heap} (h : HRel X φ w H) {arr : Array Value} {e : TypeId} (hw : w'.heap = w.heap.push (.cells arr e (0, 0)))
    (ho : w'.os = w.os) (ht : w'.tape = w.tape) (hp : w'.output = w.output) {cs : List AV} (hl : cs.length ≤ arr.size)
    (hc : ∀ (i : Nat) (c : AV), cs[i]? = some c → ∃ u, arr[i]? = some u ∧ Rep (Rd X φ w) φ c u) :
    HRel X (φ ++ [some (w.heap.size, arr.size)]) w' (H ++ [some cs]) ∧ Adv φ w (φ ++ [some (w.heap.size, arr.size)]) w' := by
  have own : ∀ g, Owned φ g → g < w.heap.size := by
    intro g ⟨b, sz, hb⟩
    have hlt : b < H.length := h.len ▸ lt_of_getElem? hb
    obtain ⟨x, hx⟩ := getElem?_some_of hlt
    cases x with
    | none => rw [h.dead b hx] at hb; simp at hb
    | some cs =>
      obtain ⟨g', sz', arr, e, h1, h2, _⟩ := h.live b cs hx
      rw [h1] at hb
      simp at hb
      rw [← hb.1]
      exact (Array.getElem?_eq_some_iff.1 h2).1
  have a : Adv φ w (φ ++ [some (w.heap.size, arr.size)]) w' := by
    refine ⟨ho, ht, hp, by rw [hw]; simp, fun g hg hn => ⟨?_, ?_⟩, ⟨by simp, fun b p hb hp => ?_⟩⟩
    · rw [hw, Array.getElem?_push, if_neg (by omega)]
    · intro ho
      rcases owned_append ho with h1 | h1
      · exact hn h1
      · simp at h1; omega
    · rwa [List.getElem?_append_left hb] at hp
  refine ⟨⟨by simp [h.len], fun g hg => ?_, fun b ds hb => ?_, fun b hb => ?_, fun b b' g sz sz' h1 h2 => ?_⟩, a⟩
  · rw [hw]; have := h.xlt g hg; simp; omega
  · by_cases hlt : b < H.length
    · rw [List.getElem?_append_left hlt] at hb
      obtain ⟨g, sz, ar, e', h1, h2, h3, h4, h5, h6⟩ := h.live b ds hb
      refine ⟨g, sz, ar, e', by rw [List.getElem?_append_left (by rw [h.len]; exact hlt)]; exact h1, ?_, h3, h4, h5, fun i c hc => ?_⟩
      · rw [hw, Array.getElem?_push, if_neg (by have := (Array.getElem?_eq_some_iff.1 h2).1; omega)]; exact h2
      · obtain ⟨u, hu, r⟩ := h6 i c hc
        exact ⟨u, hu, a.rep r⟩
    · have hb' := lt_of_getElem? hb
      simp at hb'
      have hbe : b = H.length := by omega
      subst hbe
      simp at hb
      subst hb
      refine ⟨w.heap.size, arr.size, arr, e, by rw [← h.len]; simp, by rw [hw]; simp, rfl, hl, fun hx => by have := h.xlt _ hx; omega, fun i c hi => ?_⟩
      obtain ⟨u, hu, r⟩ := hc i c hi
      exact ⟨u, hu, a.rep r⟩
  · by_cases hlt : b < H.length
    · rw [List.getElem?_append_left hlt] at hb
      rw [List.getElem?_append_left (by rw [h.len]; exact hlt)]
      exact h.dead b hb
    · have hb' := lt_of_getElem? hb
      simp at hb'
      have hbe : b = H.length := by omega
      subst hbe
      simp at hb
  · have new : ∀ (b g sz : Nat), (φ ++ [some (w.heap.size, arr.size)])[b]? = some (some (g, sz)) → (b < φ.length ∧ φ[b]? = some (some (g, sz)) ∧ g < w.heap.size) ∨ (b = φ.length ∧ g = w.heap.size) := by
      intro b g sz hb
      by_cases hlt : b < φ.length
      · rw [List.getElem?_append_left hlt] at hb
        exact .inl ⟨hlt, hb, own g ⟨b, sz, hb⟩⟩
      · have hb' := lt_of_getElem? hb
        simp at hb'
        have hbe : b = φ.length := by omega
        subst hbe
        simp at hb
        exact .inr ⟨rfl, hb.1.symm⟩
    rcases new b g sz h1 with ⟨l1, e1, g1⟩ | ⟨l1, g1⟩ <;> rcases new b' g sz' h2 with ⟨l2, e2, g2⟩ | ⟨l2, g2⟩
    · exact h.inj b b' g sz sz' e1 e2
    · omega
    · omega
    · omega

/-- A store into an own block. -/
theorem HRel.store {X : Nat → Prop} {φ : Phi} {w w' : World} {H : Heap} (h : HRel X φ w H) {b g sz : Nat} {arr arr' : Array Value} {e : TypeId} {cs' : List AV}
    (hφ : φ[b]? = some (some (g, sz))) (hg : w.heap[g]? = some (.cells arr e (0, 0))) (hsz : arr.size = sz) (hs : arr'.size = arr.size) (hw : w' = w.setRow g arr') (hX : ¬ X g)
    (hl : cs'.length ≤ arr'.size) (hc : ∀ (i : Nat) (c : AV), cs'[i]? = some c → ∃ u, arr'[i]? = some u ∧ Rep (Rd X φ w) φ c u) :
    HRel X φ w' (H.set b (some cs')) ∧ Adv φ w φ w' := by
  subst hw
  have a : Adv φ w φ (w.setRow g arr') := ⟨rfl, rfl, rfl, by simp, fun k _ ho => ⟨setRow_other w g k _ (fun e => ho ⟨b, sz, e ▸ hφ⟩), ho⟩, .refl _⟩
  refine ⟨⟨by simp [h.len], fun k hk => by simpa using h.xlt k hk, fun c ds hb => ?_, fun c hb => ?_, h.inj⟩, a⟩
  · rw [List.getElem?_set] at hb
    split at hb
    · rename_i hbc
      subst hbc
      split at hb
      · simp at hb
        subst hb
        refine ⟨g, sz, arr', e, hφ, setRow_heap w g arr arr' e _ hg, by omega, by omega, hX, fun i c hi => ?_⟩
        obtain ⟨u, hu, r⟩ := hc i c hi
        exact ⟨u, hu, a.rep r⟩
      · simp at hb
    · rename_i hbc
      obtain ⟨g', sz', ar, e', h1, h2, h3, h4, h5, h6⟩ := h.live c ds hb
      refine ⟨g', sz', ar, e', h1, ?_, h3, h4, h5, fun i c hi => ?_⟩
      · rw [setRow_other w g g' _ (fun eq => hbc (h.inj b c g sz sz' hφ (eq ▸ h1)))]; exact h2
      · obtain ⟨u, hu, r⟩ := h6 i c hi
        exact ⟨u, hu, a.rep r⟩
  · rw [List.getElem?_set] at hb
    split at hb
    · split at hb <;> simp at hb
    · exact h.dead c hb

/-- A block is given up: nothing is written there any more. -/
theorem HRel.kill1 {X : Nat → Prop} {φ : Phi} {w : World} {H : Heap} (h : HRel X φ w H) (b : Nat) : HRel X (φ.set b none) w (H.set b none) ∧ Adv φ w (φ.set b none) w := by
  have a : Adv φ w (φ.set b none) w := by
    refine ⟨rfl, rfl, rfl, Nat.le_refl _, fun g _ ho => ⟨rfl, fun hx => ho (owned_set hx)⟩, ⟨by simp, fun c p hc hp => ?_⟩⟩
    rw [List.getElem?_set] at hp
    split at hp
    · split at hp <;> simp at hp
    · exact hp
  refine ⟨⟨by simp [h.len], h.xlt, fun c ds hb => ?_, fun c hb => ?_, fun c c' g sz sz' h1 h2 => ?_⟩, a⟩
  · rw [List.getElem?_set] at hb
    split at hb
    · split at hb <;> simp at hb
    · rename_i hbc
      obtain ⟨g', sz', ar, e', h1, h2, h3, h4, h5, h6⟩ := h.live c ds hb
      refine ⟨g', sz', ar, e', ?_, h2, h3, h4, h5, fun i c hi => ?_⟩
      · rw [List.getElem?_set, if_neg hbc]; exact h1
      · obtain ⟨u, hu, r⟩ := h6 i c hi
        exact ⟨u, hu, a.rep r⟩
  · rw [List.getElem?_set] at hb ⊢
    split at hb
    · rename_i hbc
      rw [if_pos hbc]
      split at hb
      · rename_i hlt
        rw [if_pos (by rw [h.len]; exact hlt)]
      · simp at hb
    · rename_i hbc
      rw [if_neg hbc]
      exact h.dead c hb
  · have un : ∀ (c g sz : Nat), (φ.set b none)[c]? = some (some (g, sz)) → φ[c]? = some (some (g, sz)) := by
      intro c g sz hc
      rw [List.getElem?_set] at hc
      split at hc
      · split at hc <;> simp at hc
      · exact hc
    exact h.inj c c' g sz sz' (un c g sz h1) (un c' g sz' h2)
def killP : Phi → List Nat → Phi
  | φ, [] => φ
  | φ, b :: r => killP (φ.set b none) r
theorem HRel.kill {X : Nat → Prop} {w : World} : ∀ (bs : List Nat) {φ : Phi} {H : Heap}, HRel X φ w H → HRel X (killP φ bs) w (kill H bs) ∧ Adv φ w (killP φ bs) w
  | [], φ, H, h => ⟨h, .refl _ _⟩
  | b :: r, φ, H, h => by
    obtain ⟨h1, a1⟩ := h.kill1 b
    obtain ⟨h2, a2⟩ := HRel.kill r h1
    exact ⟨h2, a1.trans a2⟩
theorem killP_sub : ∀ (bs : List Nat) (φ : Phi) (c : Nat) (p : Nat × Nat), (killP φ bs)[c]? = some (some p) → φ[c]? = some (some p) ∧ c ∉ bs
  | [], φ, c, p, h => ⟨h, by simp⟩
  | b :: r, φ, c, p, h => by
    obtain ⟨h1, h2⟩ := killP_sub r (φ.set b none) c p h
    rw [List.getElem?_set] at h1
    split at h1
    · split at h1 <;> simp at h1
    · rename_i hbc
      exact ⟨h1, by simp [h2]; exact fun e => hbc e.symm⟩

/-- What an append in place leaves: the block goes on under a new number. -/
theorem HRel.move {X : Nat → Prop} {φ : Phi} {w w' : World} {H : Heap} (h : HRel X φ w H) {b g sz : Nat} {arr arr' : Array Value} {e : TypeId} {cs' : List AV}
    (hφ : φ[b]? = some (some (g, sz))) (hg : w.heap[g]? = some (.cells arr e (0, 0))) (hsz : arr.size = sz) (hs : arr'.size = arr.size) (hw : w' = w.setRow g arr') (hX : ¬ X g)
    (hl : cs'.length ≤ arr'.size) (hc : ∀ (i : Nat) (c : AV), cs'[i]? = some c → ∃ u, arr'[i]? = some u ∧ Rep (Rd X φ w) φ c u) :
    HRel X (φ.set b none ++ [some (g, sz)]) w' (H.set b none ++ [some cs']) ∧ Adv φ w (φ.set b none ++ [some (g, sz)]) w' := by
  subst hw
  have hbl : b < φ.length := lt_of_getElem? hφ
  have look : ∀ (c : Nat) (p : Nat × Nat), (φ.set b none ++ [some (g, sz)])[c]? = some (some p) → (c < φ.length ∧ c ≠ b ∧ φ[c]? = some (some p)) ∨ (c = φ.length ∧ p = (g, sz)) := by
    intro c p hc
    by_cases hlt : c < φ.length
    · rw [List.getElem?_append_left (by simpa using hlt), List.getElem?_set] at hc
      split at hc
      · simp_all
      · rename_i hbc; exact .inl ⟨hlt, fun e => hbc e.symm, hc⟩
    · have hb' := lt_of_getElem? hc
      simp at hb'
      have hbe : c = φ.length := by omega
      subst hbe
      rw [List.getElem?_append_right (by simp)] at hc
      simp at hc
      exact .inr ⟨rfl, hc.symm⟩
  have a : Adv φ w (φ.set b none ++ [some (g, sz)]) (w.setRow g arr') := by
    refine ⟨rfl, rfl, rfl, by simp, fun k _ ho => ⟨setRow_other w g k _ (fun e => ho ⟨b, sz, e ▸ hφ⟩), ?_⟩, ⟨by simp, fun c p hc hp => ?_⟩⟩
    · intro ⟨c, s, hc⟩
      rcases look c _ hc with ⟨_, _, h1⟩ | ⟨_, h1⟩
      · exact ho ⟨c, s, h1⟩
      · simp at h1; exact ho ⟨b, sz, h1.1 ▸ hφ⟩
    · rcases look c p hp with ⟨_, _, h1⟩ | ⟨h1, _⟩
      · exact h1
      · omega
  refine ⟨⟨by simp [h.len], fun k hk => by simpa using h.xlt k hk, fun c ds hb => ?_, fun c hb => ?_, fun c c' k s s' h1 h2 => ?_⟩, a⟩
  · by_cases hlt : c < H.length
    · rw [List.getElem?_append_left (by simpa using hlt), List.getElem?_set] at hb
      split at hb
      · split at hb <;> simp at hb
      · rename_i hbc
        obtain ⟨g', sz', ar, e', h1, h2, h3, h4, h5, h6⟩ := h.live c ds hb
        refine ⟨g', sz', ar, e', ?_, ?_, h3, h4, h5, fun i c hi => ?_⟩
        · rw [List.getElem?_append_left (by simp [h.len, hlt]), List.getElem?_set, if_neg hbc]; exact h1
        · rw [setRow_other w g g' _ (fun eq => hbc (h.inj b c g sz sz' hφ (eq ▸ h1)))]; exact h2
        · obtain ⟨u, hu, r⟩ := h6 i c hi
          exact ⟨u, hu, a.rep r⟩
    · have hb' := lt_of_getElem? hb
      simp at hb'
      have hbe : c = H.length := by omega
      subst hbe
      rw [List.getElem?_append_right (by simp)] at hb
      simp at hb
      subst hb
      refine ⟨g, sz, arr', e, ?_, setRow_heap w g arr arr' e _ hg, by omega, by omega, hX, fun i c hi => ?_⟩
      · rw [List.getElem?_append_right (by simp [h.len])]; simp [h.len]
      · obtain ⟨u, hu, r⟩ := hc i c hi
        exact ⟨u, hu, a.rep r⟩
  · by_cases hlt : c < H.length
    · rw [List.getElem?_append_left (by simpa using hlt), List.getElem?_set] at hb
      rw [List.getElem?_append_left (by simp [h.len, hlt]), List.getElem?_set]
      split at hb
      · rename_i hbc
        rw [if_pos hbc, if_pos (by omega)]
      · rename_i hbc
        rw [if_neg hbc]; exact h.dead c hb
    · have hb' := lt_of_getElem? hb
      simp at hb'
      have hbe : c = H.length := by omega
      subst hbe
      rw [List.getElem?_append_right (by simp)] at hb
      simp at hb
  · rcases look c _ h1 with ⟨l1, n1, e1⟩ | ⟨l1, e1⟩ <;> rcases look c' _ h2 with ⟨l2, n2, e2⟩ | ⟨l2, e2⟩
    · exact h.inj c c' k s s' e1 e2
    · simp at e2; exact absurd (h.inj c b k s sz e1 (e2.1 ▸ hφ)) n1
    · simp at e1; exact absurd (h.inj c' b k s' sz e2 (e1.1 ▸ hφ)) n2
    · omega

/-- The younger blocks are dropped. -/
theorem heapOK_mem {n : Nat} : ∀ {H : Heap}, heapOK n H = true → ∀ (b : Nat) (cs : List AV), H[b]? = some (some cs) → refsLtL n cs = true
  | [], _, b, cs, hb => by simp at hb
  | none :: r, h, b, cs, hb => by
    cases b with
    | zero => simp at hb
    | succ b => simp at hb; exact heapOK_mem (H := r) (by simpa [heapOK] using h) b cs hb
  | some ds :: r, h, b, cs, hb => by
    simp only [heapOK, Bool.and_eq_true] at h
    cases b with
    | zero => simp at hb; subst hb; exact h.1
    | succ b => simp at hb; exact heapOK_mem (H := r) h.2 b cs hb
theorem owned_take {φ : Phi} {n g : Nat} (h : Owned (φ.take n) g) : Owned φ g := by
  obtain ⟨b, sz, hb⟩ := h
  rw [List.getElem?_take] at hb
  split at hb
  · exact ⟨b, sz, hb⟩
  · simp at hb
theorem rd_take {X : Nat → Prop} {φ : Phi} {w : World} {n : Nat} : ∀ a u, Rd X φ w a u → Rd X (φ.take n) w a u := fun _ _ ⟨h1, h2, h3⟩ => ⟨h1, fun h => h2 (owned_take h), h3⟩
theorem HRel.take {X : Nat → Prop} {φ : Phi} {w : World} {H : Heap} (h : HRel X φ w H) {n : Nat} (hn : n ≤ H.length) (hok : heapOK n (H.take n) = true) : HRel X (φ.take n) w (H.take n) := by
  refine ⟨by simp [h.len], h.xlt, fun b cs hb => ?_, fun b hb => ?_, fun b b' g sz sz' h1 h2 => ?_⟩
  · have hr := heapOK_mem hok b cs hb
    have hlt : b < n := by have := lt_of_getElem? hb; simp at this; omega
    rw [List.getElem?_take_of_lt hlt] at hb
    obtain ⟨g, sz, ar, e, h1, h2, h3, h4, h5, h6⟩ := h.live b cs hb
    refine ⟨g, sz, ar, e, by rw [List.getElem?_take_of_lt hlt]; exact h1, h2, h3, h4, h5, fun i c hi => ?_⟩
    obtain ⟨u, hu, r⟩ := h6 i c hi
    exact ⟨u, hu, (r.take (refsLtL_mem hr i c hi)).mono rd_take (.refl _)⟩
  · have hlt : b < n := by have := lt_of_getElem? hb; simp at this; omega
    rw [List.getElem?_take_of_lt hlt] at hb ⊢
    exact h.dead b hb
  · rw [List.getElem?_take] at h1 h2
    split at h1 <;> split at h2 <;> first | exact h.inj b b' g sz sz' h1 h2 | (first | simp at h1 | simp at h2)
theorem Adv.take {φ φ' : Phi} {w w' : World} (h : Adv φ w φ' w') : Adv φ w (φ'.take φ.length) w' :=
  ⟨h.os, h.tape, h.output, h.size, fun g hg ho => ⟨(h.keep g hg ho).1, fun hx => (h.keep g hg ho).2 (owned_take hx)⟩,
   ⟨by rw [List.length_take]; have := h.phi.len; omega, fun b p hb hp => h.phi.old b p hb (by rwa [List.getElem?_take_of_lt hb] at hp)⟩⟩

/-! Freezing -/
theorem mapF_spec {f : AV → Option (AV × List Nat)} : ∀ {xs ys : List AV} {bs : List Nat}, mapF f xs = some (ys, bs) →
    ys.length = xs.length ∧ ∀ (i : Nat) (x : AV), xs[i]? = some x → ∃ y b, f x = some (y, b) ∧ ys[i]? = some y ∧ ∀ c ∈ b, c ∈ bs
  | [], ys, bs, h => by simp [mapF] at h; obtain ⟨rfl, rfl⟩ := h; exact ⟨rfl, fun i x hx => by simp at hx⟩
  | x :: r, ys, bs, h => by
    simp only [mapF] at h
    split at h
    · rename_i y b ys' bs' h1 h2
      simp at h
      obtain ⟨rfl, rfl⟩ := h
      obtain ⟨hl, hm⟩ := mapF_spec h2
      refine ⟨by simp [hl], fun i z hz => ?_⟩
      cases i with
      | zero => simp at hz; subst hz; exact ⟨y, b, h1, by simp, fun c hc => by simp [hc]⟩
      | succ i =>
        simp at hz
        obtain ⟨y', b', e1, e2, e3⟩ := hm i z hz
        exact ⟨y', b', e1, by simpa using e2, fun c hc => by simp [e3 c hc]⟩
    · cases h
theorem el_cells (l : List AV) : (el l).cells = l := by
  unfold el
  split <;> first | rfl | skip
  rename_i x hx
  cases x <;> first | rfl | (exact absurd rfl (hx _))
theorem grp_spec (k : Nat) : ∀ (n : Nat) (ys : List AV), n * k ≤ ys.length → (grp k n ys).length = n ∧ ∀ (i : Nat) (x : AV), (grp k n ys)[i]? = some x → x.cells = (ys.drop (i * k)).take k ∧ i < n
  | 0, ys, _ => ⟨rfl, fun i x hx => by simp [grp] at hx⟩
  | n + 1, ys, h => by
    have h' : n * k ≤ (ys.drop k).length := by rw [List.length_drop]; rw [Nat.add_mul] at h; omega
    obtain ⟨hl, hm⟩ := grp_spec k n (ys.drop k) h'
    refine ⟨by simp [grp, hl], fun i x hx => ?_⟩
    cases i with
    | zero => simp [grp] at hx; subst hx; rw [el_cells]; simp
    | succ i =>
      simp [grp] at hx
      obtain ⟨e1, e2⟩ := hm i x hx
      refine ⟨?_, by omega⟩
      rw [e1, List.drop_drop]
      congr 2
      rw [Nat.add_mul]; omega
theorem cell_of_heap {w : World} {g : Nat} {arr : Array Value} {e : TypeId} {fr : Nat × Nat} (h : w.heap[g]? = some (.cells arr e fr)) (o : Nat) : w.cell? ⟨g, o, none⟩ = arr[o]? := cell_of_row w g o arr e fr h

theorem frz_rep {X : Nat → Prop} {φ : Phi} {w : World} {H : Heap} (h : HRel X φ w H) {R : Addr → Value → Prop} (hR : ∀ a u, Rd X φ w a u → R a u) :
    ∀ (n : Nat) (x y : AV) (v : Value) (bs : List Nat), frz H n x = some (y, bs) →
      (∀ b ∈ bs, ∀ g sz : Nat, φ[b]? = some (some (g, sz)) → ∀ o u, w.cell? ⟨g, o, none⟩ = some u → R ⟨g, o, none⟩ u) → Rep (Rd X φ w) φ x v → Rep R [] y v
  | 0, _, _, _, _, hf, _, _ => by simp [frz] at hf
  | n + 1, x, y, v, bs, hf, hb, r => by
    have ih := frz_rep h hR n
    have many : ∀ {cs ys : List AV} {bs' : List Nat} {vs : Array Value}, mapF (frz H n) cs = some (ys, bs') → (∀ b ∈ bs', b ∈ bs) → cs.length = vs.size →
        (∀ (i : Nat) (c : AV) (v : Value), cs[i]? = some c → vs[i]? = some v → Rep (Rd X φ w) φ c v) →
        ys.length = vs.size ∧ ∀ (i : Nat) (c : AV) (v : Value), ys[i]? = some c → vs[i]? = some v → Rep R [] c v := by
      intro cs ys bs' vs hm hsub hl hr
      obtain ⟨hl', hm'⟩ := mapF_spec hm
      refine ⟨by omega, fun i c v hc hv => ?_⟩
      obtain ⟨x, hx⟩ := getElem?_some_of (l := cs) (i := i) (by have := lt_of_getElem? hc; omega)
      obtain ⟨y, b, e1, e2, e3⟩ := hm' i x hx
      rw [e2] at hc
      simp at hc
      subst hc
      exact ih x _ v b e1 (fun b' hb' => hb b' (hsub _ (e3 b' hb'))) (hr i x v hx hv)
    cases x with
    | ptr b off =>
      simp only [frz] at hf
      split at hf
      · rename_i cs hcs
        split at hf
        · rename_i ys bs' hm
          simp at hf
          obtain ⟨rfl, rfl⟩ := hf
          obtain ⟨g, sz, arr, e, h1, h2, h3, h4, h5, h6⟩ := h.at hcs
          obtain ⟨hl', hm'⟩ := mapF_spec hm
          cases r with
          | ptr _ _ _ a hbl ha =>
            obtain rfl := ha g sz h1
            refine .fptr _ _ _ (fun j => arr[off + j]?.getD undef) (fun j c hc => ?_) (fun j c hc => ?_)
            · obtain ⟨x, hx⟩ := getElem?_some_of (l := cs.drop off) (i := j) (by have := lt_of_getElem? hc; omega)
              rw [List.getElem?_drop] at hx
              obtain ⟨u, hu, _⟩ := h6 _ _ hx
              rw [Addr.add_none]
              refine hb b (by simp) g sz h1 _ _ ?_
              rw [cell_of_heap h2, hu]; simp
            · obtain ⟨x, hx⟩ := getElem?_some_of (l := cs.drop off) (i := j) (by have := lt_of_getElem? hc; omega)
              obtain ⟨y, b', e1, e2, e3⟩ := hm' j x hx
              rw [e2] at hc
              simp at hc
              subst hc
              rw [List.getElem?_drop] at hx
              obtain ⟨u, hu, r⟩ := h6 _ _ hx
              refine ih x _ _ b' e1 (fun c hc => hb c (by simp [e3 c hc])) ?_
              rw [hu]; exact r
        · cases hf
      · cases hf
    | sl k b off len =>
      simp only [frz] at hf
      split at hf
      · rename_i cs hcs
        split at hf
        · rename_i hfit
          split at hf
          · rename_i ys bs' hm
            simp at hf
            obtain ⟨rfl, rfl⟩ := hf
            obtain ⟨g, sz, arr, e, h1, h2, h3, h4, h5, h6⟩ := h.at hcs
            obtain ⟨hl', hm'⟩ := mapF_spec hm
            have hl2 : ys.length = len * k := by rw [hl', List.length_take, List.length_drop]; omega
            obtain ⟨gl, gm⟩ := grp_spec k len ys (by omega)
            cases r with
            | sl _ _ _ _ _ a cap hbl hc ha =>
              obtain ⟨haddr, hcap⟩ := ha g sz h1
              by_cases hc0 : 0 < cap
              case neg =>
                have hlen0 : len = 0 := by omega
                subst hlen0
                refine .lst _ _ _ _ _ _ (fun _ _ => undef) gl.symm hc (fun x hx => ?_) (fun i j x c hx hc => ?_) (fun i j x c hx hc => ?_)
                all_goals simp [grp] at hx
              obtain rfl := haddr hc0
              have key : ∀ (i j : Nat) (x c : AV), (grp k len ys)[i]? = some x → x.cells[j]? = some c → i * k + j < len * k ∧ j < k ∧ ys[i * k + j]? = some c := by
                intro i j x c hx hc
                obtain ⟨e1, e2⟩ := gm i x hx
                rw [e1, List.getElem?_take] at hc
                split at hc
                · rename_i hj
                  rw [List.getElem?_drop] at hc
                  have := lt_of_getElem? hc
                  exact ⟨by omega, hj, hc⟩
                · cases hc
              refine .lst _ _ _ _ _ _ (fun i j => arr[off + (i * k + j)]?.getD undef) gl.symm hc (fun x hx => ?_) (fun i j x c hx hc => ?_) (fun i j x c hx hc => ?_)
              · obtain ⟨i, hi⟩ := List.getElem?_of_mem hx
                obtain ⟨e1, e2⟩ := gm i x hi
                rw [e1, List.length_take, List.length_drop, hl2]
                have : i * k + k ≤ len * k := by rw [← Nat.succ_mul]; exact Nat.mul_le_mul_right _ e2
                omega
              · obtain ⟨k1, k2, k3⟩ := key i j x c hx hc
                obtain ⟨z, hz⟩ := getElem?_some_of (l := (cs.drop off).take (len * k)) (i := i * k + j) (by have := lt_of_getElem? k3; omega)
                rw [List.getElem?_take_of_lt k1, List.getElem?_drop] at hz
                obtain ⟨u, hu, _⟩ := h6 _ _ hz
                rw [Addr.add_none]
                refine hb b (by simp) g sz h1 _ _ ?_
                rw [cell_of_heap h2, hu]; simp
              · obtain ⟨k1, k2, k3⟩ := key i j x c hx hc
                obtain ⟨z, hz⟩ := getElem?_some_of (l := (cs.drop off).take (len * k)) (i := i * k + j) (by have := lt_of_getElem? k3; omega)
                obtain ⟨y, b', e1, e2, e3⟩ := hm' _ z hz
                rw [e2] at k3
                simp at k3
                subst k3
                rw [List.getElem?_take_of_lt k1, List.getElem?_drop] at hz
                obtain ⟨u, hu, r⟩ := h6 _ _ hz
                refine ih z _ _ b' e1 (fun c hc => hb c (by simp [e3 c hc])) ?_
                rw [hu]; exact r
          · cases hf
        · cases hf
      · cases hf
    | agg cs =>
      simp only [frz] at hf
      split at hf
      · rename_i ys bs' hm
        simp at hf
        obtain ⟨rfl, rfl⟩ := hf
        cases r with
        | agg _ _ vs hl hr =>
          obtain ⟨l1, r1⟩ := many hm (fun _ h => h) hl hr
          exact .agg _ _ _ l1 r1
      · cases hf
    | tup cs =>
      simp only [frz] at hf
      split at hf
      · rename_i ys bs' hm
        simp at hf
        obtain ⟨rfl, rfl⟩ := hf
        cases r with
        | tup _ _ vs hl hr =>
          obtain ⟨l1, r1⟩ := many hm (fun _ h => h) hl hr
          exact .tup _ _ _ l1 r1
      · cases hf
    | func f as cs =>
      simp only [frz] at hf
      split at hf
      · rename_i ys bs1 zs bs2 hm1 hm2
        simp at hf
        obtain ⟨rfl, rfl⟩ := hf
        cases r with
        | func _ _ _ va _ vb hla hlb ha hb' =>
          obtain ⟨l1, r1⟩ := many hm1 (fun _ h => by simp [h]) hla ha
          obtain ⟨l2, r2⟩ := many hm2 (fun _ h => by simp [h]) hlb hb'
          exact .func _ _ _ _ _ _ l1 l2 r1 r2
      · cases hf
    | _ =>
      simp only [frz, Option.some.injEq, Prod.mk.injEq] at hf
      obtain ⟨rfl, rfl⟩ := hf
      exact (r.of_plain rfl []).mono hR (.refl _)
end Go.Am
