/- Triangles under other names, and of two graphs beside each other: plain law. -/
import Derived.Test.YtahcjjgkefjhbaaTriQ
import Derived.Test.YtahcjjgkefjhbaaNmP
set_option linter.unusedSimpArgs false
set_option linter.unusedVariables false
namespace Go.BmP
open Go.Am Go.Bm
/-- In how many triangles a node is. -/
def tn (N : Nat) (Es : List Ed) (v : Nat) : Nat := sm N fun w => sm w fun u => ad Es u w * (ad Es u v * ad Es w v)
theorem bump_get {n : List Int} {w v : Nat} (hv : v < n.length) : (bump n w).getD v 0 = n.getD v 0 + if v = w then 1 else 0 := by
  unfold bump
  simp only [List.getD_eq_getElem?_getD, show ((w : Int)).toNat = w by omega]
  by_cases e : v = w
  · subst e; rw [List.getElem?_set_self hv, if_pos rfl]; rfl
  · rw [List.getElem?_set_ne (Ne.symm e), if_neg e]; omega
theorem bumps_get {v : Nat} : ∀ {S n : List Int}, v < n.length → (∀ x ∈ S, 0 ≤ x) → S.Nodup → (S.foldl bump n).getD v 0 = n.getD v 0 + if (v : Int) ∈ S then 1 else 0
  | [], n, _, _, _ => by simp
  | x :: r, n, hv, h0, hn => by
    obtain ⟨n1, n2⟩ := List.nodup_cons.1 hn
    have hx := h0 x (by simp)
    obtain ⟨w, rfl⟩ : ∃ w : Nat, x = w := ⟨x.toNat, by omega⟩
    rw [List.foldl_cons, bumps_get (by rw [bump_length]; exact hv) (fun y hy => h0 y (by simp [hy])) n2, bump_get hv]
    by_cases e : v = w
    · subst e; rw [if_pos rfl, if_neg n1, if_pos (by simp)]; omega
    · have e2 : ¬ (v : Int) = (w : Int) := by omega
      rw [if_neg e]
      by_cases q : (v : Int) ∈ r
      · rw [if_pos q, if_pos (by simp [q])]; omega
      · rw [if_neg q, if_neg (by simp [q, e2])]; omega
theorem tris_get {N : Nat} {Es : List Ed} (hG : GOK (N : Int) Es) {v : Nat} : ∀ (l : List Ed) (n : List Int), (∀ e ∈ l, e ∈ Es) → v < n.length → (l.foldl (fun n e => (com N Es e).foldl bump n) n).getD v 0 = n.getD v 0 + ((l.map fun e => if (v : Int) ∈ com N Es e then 1 else 0).sum : Nat)
  | [], n, _, _ => by simp
  | e :: r, n, h, hv => by
    have he := hG.2.2 e (h e (by simp))
    have cu := com_up hG (e := e) (by omega)
    have cm := com_mem hG (e := e) (by omega)
    rw [List.foldl_cons, tris_get hG r _ (fun x hx => h x (by simp [hx])) (by rw [bumps_length]; exact hv), bumps_get hv (fun x hx => by have := (jn_bd hG ((cm x).1 hx).1).2.1; omega) (List.Pairwise.imp (fun {a b} h => by omega) cu), List.map_cons, List.sum_cons]
    split <;> omega
theorem triN_get {N : Nat} {Es : List Ed} (hG : GOK (N : Int) Es) {v : Nat} (hv : v < N) : (triN N Es).getD v 0 = (tn N Es v : Nat) := by
  have h := tris_get hG (v := v) Es (List.replicate N 0) (fun _ h => h) (by simpa using hv)
  have z : (List.replicate N (0 : Int)).getD v 0 = 0 := by rw [List.getD_eq_getElem?_getD, List.getElem?_replicate, if_pos hv]; rfl
  rw [z, Int.zero_add] at h
  unfold triN
  rw [h]
  congr 1
  have h1 : (Es.map fun e => if (v : Int) ∈ com N Es e then 1 else 0).sum = (Es.map fun e => ad Es e.1.toNat v * ad Es e.2.toNat v).sum := by
    congr 1
    refine List.map_congr_left fun e he => ?_
    have hb := hG.2.2 e he
    have cm := com_mem hG (e := e) (by omega) (v : Int)
    unfold ad
    rw [show ((e.1.toNat : Nat) : Int) = e.1 by omega, show ((e.2.toNat : Nat) : Int) = e.2 by omega]
    by_cases k1 : jn Es e.1 v
    · by_cases k2 : jn Es e.2 v
      · rw [if_pos (cm.2 ⟨k1, k2⟩), if_pos k1, if_pos k2]
      · rw [if_neg fun q => k2 (cm.1 q).2, if_neg k2]; simp
    · rw [if_neg fun q => k1 (cm.1 q).1, if_neg k1]; simp
  rw [h1]
  refine (sum_edges N (fun u w => ad Es u v * ad Es w v) Es (upE_nodup hG.2.1) hG.2.2).trans ?_
  exact sm_congr fun w _ => sm_congr fun u hu => by rw [inE_ad hG hu]
theorem tn_two {N : Nat} {Es : List Ed} (hG : GOK (N : Int) Es) (v : Nat) : 2 * tn N Es v = sm N fun u => sm N fun w => ad Es u w * (ad Es u v * ad Es w v) := by
  rw [sm_sq (fun u w => ad Es u w * (ad Es u v * ad Es w v)) (fun u => by rw [ad_irr hG]; simp), tn, ← sm_mul]
  refine sm_congr fun w _ => ?_
  rw [← sm_mul]
  refine sm_congr fun u _ => ?_
  rw [ad_symm Es w u, Nat.mul_comm (ad Es w v)]
  omega
theorem sm_list (f : Nat → Nat) : ∀ n, sm n f = ((allN n).map fun x => f x.toNat).sum
  | 0 => rfl
  | n + 1 => by
    rw [allN_succ, List.map_append, List.sum_append, ← sm_list f n, sm]
    simp
theorem sm_perm {N : Nat} {nm : List Int} (hp : nm.Perm (allN N)) (f : Nat → Nat) : sm N (fun i => f (nmf nm i).toNat) = sm N f := by
  have h1 : sm N f = (nm.map fun x => f x.toNat).sum := by rw [sm_list]; exact ((hp.map _).sum_nat).symm
  have hl := nmf_len hp
  have e : nm = (List.range N).map fun i => nmf nm ((i : Nat) : Int) := by
    refine List.ext_getElem (by simp [hl]) fun i h1 h2 => ?_
    obtain ⟨k, hk⟩ := nmf_get hp (x := (i : Int)) (by unfold inN; simp at h2; omega)
    rw [List.getElem_map, List.getElem_range, hk]
    congr 1
  rw [h1, sm_list]
  conv => rhs; rw [e]
  rw [List.map_map]
  congr 1
  unfold allN
  rw [List.map_map]
  refine List.map_congr_left fun i _ => ?_
  simp
theorem ad_rn {N : Nat} {Es : List Ed} {nm : List Int} (hG : GOK (N : Int) Es) (hp : nm.Perm (allN N)) {a b : Nat} (ha : a < N) (hb : b < N) : ad (rnG nm Es) (nmf nm a).toNat (nmf nm b).toNat = ad Es a b := by
  have h1 := nmf_bd hp (a : Int) ⟨by omega, by omega⟩
  have h2 := nmf_bd hp (b : Int) ⟨by omega, by omega⟩
  unfold inN at h1 h2
  unfold ad
  rw [show (((nmf nm a).toNat : Nat) : Int) = nmf nm a by omega, show (((nmf nm b).toNat : Nat) : Int) = nmf nm b by omega]
  have := rn_jn hG hp (a := (a : Int)) (b := (b : Int)) ⟨by omega, by omega⟩ ⟨by omega, by omega⟩
  by_cases k : jn Es a b
  · rw [if_pos (this.2 k), if_pos k]
  · rw [if_neg fun q => k (this.1 q), if_neg k]
theorem tn_rn {N : Nat} {Es : List Ed} {nm : List Int} (hG : GOK (N : Int) Es) (hp : nm.Perm (allN N)) {v : Nat} (hv : v < N) : tn N (rnG nm Es) (nmf nm v).toNat = tn N Es v := by
  have h1 := tn_two hG v
  have h2 := tn_two (rnG_ok hG hp) (nmf nm v).toNat
  rw [← sm_perm hp fun u => sm N fun w => ad (rnG nm Es) u w * (ad (rnG nm Es) u (nmf nm v).toNat * ad (rnG nm Es) w (nmf nm v).toNat)] at h2
  rw [sm_congr (g := fun u => sm N fun w => ad Es u w * (ad Es u v * ad Es w v)) fun u hu => ?_] at h2
  · omega
  · rw [← sm_perm hp fun w => ad (rnG nm Es) (nmf nm u).toNat w * (ad (rnG nm Es) (nmf nm u).toNat (nmf nm v).toNat * ad (rnG nm Es) w (nmf nm v).toNat)]
    exact sm_congr fun w hw => by rw [ad_rn hG hp hu hw, ad_rn hG hp hu hv, ad_rn hG hp hw hv]
/-! Two graphs beside each other -/
def shE (a : Nat) (e : Ed) : Ed := (e.1 + a, e.2 + a)
def bsE (a : Nat) (E F : List Ed) : List Ed := ofE (E ++ F.map (shE a)) []
theorem bsE_mem {a b : Nat} {E F : List Ed} (hE : GOK (a : Int) E) (hF : GOK (b : Int) F) (z : Ed) : z ∈ bsE a E F ↔ z ∈ E ∨ ∃ e ∈ F, z = shE a e := by
  unfold bsE
  rw [(ofE_spec (E ++ F.map (shE a)) [] List.Pairwise.nil).2]
  have nr : ∀ e : Ed, e.1 < e.2 → nrmE e.1 e.2 = e := fun e h => by unfold nrmE; rw [if_neg (by omega), if_pos h]
  constructor
  · rintro (k | ⟨e, he, rfl⟩)
    · cases k
    · rcases List.mem_append.1 he with q | q
      · left; rw [nr e (hE.2.2 e q).2.1]; exact q
      · obtain ⟨d, hd, rfl⟩ := List.mem_map.1 q
        have := (hF.2.2 d hd).2.1
        right
        exact ⟨d, hd, nr _ (by simp [shE]; exact this)⟩
  · rintro (k | ⟨d, hd, rfl⟩)
    · exact .inr ⟨z, by simp [k], (nr z (hE.2.2 z k).2.1).symm⟩
    · have := (hF.2.2 d hd).2.1
      exact .inr ⟨shE a d, List.mem_append.2 (.inr (List.mem_map.2 ⟨d, hd, rfl⟩)), (nr _ (by simp [shE]; exact this)).symm⟩
theorem bsE_ok {a b : Nat} {E F : List Ed} (hE : GOK (a : Int) E) (hF : GOK (b : Int) F) (h : a + b ≤ 64) : GOK ((a + b : Nat) : Int) (bsE a E F) := by
  refine ⟨by omega, (ofE_spec _ [] List.Pairwise.nil).1, fun z hz => ?_⟩
  rcases (bsE_mem hE hF z).1 hz with k | ⟨e, he, rfl⟩
  · have := hE.2.2 z k; omega
  · have := hF.2.2 e he
    simp only [shE]; omega
theorem bsE_jn {a b : Nat} {E F : List Ed} (hE : GOK (a : Int) E) (hF : GOK (b : Int) F) (x y : Int) : jn (bsE a E F) x y ↔ jn E x y ∨ jn F (x - a) (y - a) := by
  unfold jn
  rw [bsE_mem hE hF, bsE_mem hE hF]
  have key : ∀ x y : Int, (∃ e ∈ F, (x, y) = shE a e) ↔ (x - a, y - a) ∈ F := fun x y => by
    constructor
    · rintro ⟨e, he, h⟩
      obtain ⟨h1, h2⟩ := Prod.mk.inj h
      rw [h1, h2, show e.1 + (a : Int) - a = e.1 by omega, show e.2 + (a : Int) - a = e.2 by omega]
      exact he
    · intro h
      exact ⟨_, h, Prod.ext (by simp [shE]) (by simp [shE])⟩
  rw [key, key]
  constructor
  · rintro ((h | h) | (h | h))
    · exact .inl (.inl h)
    · exact .inr (.inl h)
    · exact .inl (.inr h)
    · exact .inr (.inr h)
  · rintro ((h | h) | (h | h))
    · exact .inl (.inl h)
    · exact .inr (.inl h)
    · exact .inl (.inr h)
    · exact .inr (.inr h)
theorem sm_shift (f : Nat → Nat) (a : Nat) : ∀ m, sm (a + m) f = sm a f + sm m fun i => f (a + i)
  | 0 => rfl
  | m + 1 => by rw [show a + (m + 1) = a + m + 1 by omega, sm, sm_shift f a m, sm]; omega
theorem tri_bs {a b : Nat} {E F : List Ed} (hE : GOK (a : Int) E) (hF : GOK (b : Int) F) : tri (a + b) (bsE a E F) = tri a E + tri b F := by
  have lo : ∀ u v : Nat, u < a → ad (bsE a E F) u v = ad E u v := fun u v hu => by
    unfold ad
    have := bsE_jn hE hF (u : Int) (v : Int)
    by_cases k : jn E u v
    · rw [if_pos (this.2 (.inl k)), if_pos k]
    · rw [if_neg fun q => ?_, if_neg k]
      rcases this.1 q with q | q
      · exact k q
      · have := (jn_bd hF q).1; omega
  have hi : ∀ u v : Nat, ad (bsE a E F) (a + u) (a + v) = ad F u v := fun u v => by
    unfold ad
    have := bsE_jn hE hF ((a + u : Nat) : Int) ((a + v : Nat) : Int)
    rw [show ((a + u : Nat) : Int) - a = u by omega, show ((a + v : Nat) : Int) - a = v by omega] at this
    by_cases k : jn F u v
    · rw [if_pos (this.2 (.inr k)), if_pos k]
    · rw [if_neg fun q => ?_, if_neg k]
      rcases this.1 q with q | q
      · have := (jn_bd hE q).1; omega
      · exact k q
  have mid : ∀ u v : Nat, u < a → ad (bsE a E F) u (a + v) = 0 := fun u v hu => by
    rw [lo u (a + v) hu]
    unfold ad
    rw [if_neg fun q => by have := (jn_bd hE q).2.1; omega]
  unfold tri trip
  rw [sm_shift _ a b]
  congr 1
  · refine sm_congr fun w hw => sm_congr fun v hv => sm_congr fun u hu => ?_
    dsimp only
    rw [lo u v (by omega), lo u w (by omega), lo v w (by omega)]
  · refine sm_congr fun w _ => ?_
    rw [sm_shift _ a w, sm_congr (g := fun _ => 0) (n := a) fun v hv => ?_, sm_zero, Nat.zero_add]
    · refine sm_congr fun v _ => ?_
      rw [sm_shift _ a v, sm_congr (g := fun _ => 0) (n := a) fun u hu => ?_, sm_zero, Nat.zero_add]
      · refine sm_congr fun u _ => ?_
        dsimp only
        rw [hi, hi, hi]
      · dsimp only
        rw [mid u v hu]; simp
    · rw [sm_congr (g := fun _ => 0) fun u hu => ?_, sm_zero]
      dsimp only
      rw [mid v w hv]; simp
end Go.BmP
