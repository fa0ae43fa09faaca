/- What an edge more or less does to the numbers of triangles: what changed reckons. -/
import Derived.Test.YtcjfhegnnjnmgaaKepP
set_option linter.unusedSimpArgs false
set_option linter.unusedVariables false
namespace Go.BmP
open Go.Am Go.Bm
theorem addAt_get {n : List Int} {w v : Nat} {b : Int} (hv : v < n.length) : (addAt n (w : Int) b).getD v 0 = n.getD v 0 + if v = w then b else 0 := by
 unfold addAt
 simp only [List.getD_eq_getElem?_getD, show ((w : Int)).toNat = w by omega]
 by_cases e : v = w
 ·subst e; rw [List.getElem?_set_self hv, if_pos rfl]; rfl
 ·rw [List.getElem?_set_ne (Ne.symm e), if_neg e]; omega
theorem addAts_get {v : Nat} {b : Int} : ∀ {S n : List Int}, v < n.length -> (∀ x ∈ S, 0 <= x) -> S.Nodup -> (S.foldl (fun n w => addAt n w b) n).getD v 0 = n.getD v 0 + if (v : Int) ∈ S then b else 0
 | [], n, _, _, _ => by simp
 | x :: r, n, hv, h0, hn => by
   obtain ⟨n1, n2⟩ := List.nodup_cons.1 hn
   have hx := h0 x (by simp)
   obtain ⟨w, rfl⟩ : ∃ w : Nat, x = w := ⟨x.toNat, by omega⟩
   rw [List.foldl_cons, addAts_get (by rw [addAt_length]; exact hv) (fun y hy => h0 y (by simp [hy])) n2, addAt_get hv]
   by_cases e : v = w
   ·subst e; rw [if_pos rfl, if_neg n1, if_pos (by simp)]; omega
   ·have e2 : ¬ (v : Int) = (w : Int) := by omega
    rw [if_neg e]
    by_cases q : (v : Int) ∈ r
    ·rw [if_pos q, if_pos (by simp [q])]; omega
    ·rw [if_neg q, if_neg (by simp [q, e2])]; omega
theorem chN_get {Ns T : List Int} {u v z : Nat} {b : Int} (hz : z < Ns.length) (h0 : ∀ x ∈ T, 0 <= x) (hn : T.Nodup) : (chN Ns T u v b).getD z 0 = Ns.getD z 0 + (if (z : Int) ∈ T then b else 0) + (if z = u then b * T.length else 0) + if z = v then b * T.length else 0 := by
 unfold chN
 rw [addAt_get (by rw [addAt_length, addAts_length]; exact hz), addAt_get (by rw [addAts_length]; exact hz), addAts_get hz h0 hn]
theorem getD_ext {a b : List Int} (hl : a.length = b.length) (h : ∀ z, z < a.length -> a.getD z 0 = b.getD z 0) : a = b := by
 apply List.ext_getElem hl
 intro i h1 h2
 have := h i h1
 rw [List.getD_eq_getElem?_getD, List.getD_eq_getElem?_getD, List.getElem?_eq_getElem h1, List.getElem?_eq_getElem h2] at this
 exact this
theorem com_put {N : Nat} {Es : List Ed} (hG : GOK (N : Int) Es) {u v : Int} (q : EndsOK N u v) : com N (putE (nrmE u v) Es) (u, v) = com N Es (u, v) := by
 have hG' := put_ok hG q
 obtain ⟨hn, hu, hv⟩ := q
 have hb : 0 <= (u, v).1 /\ (u, v).1 < (N : Int) /\ 0 <= (u, v).2 /\ (u, v).2 < (N : Int) := ⟨hu.1, hu.2, hv.1, hv.2⟩
 refine up_ext (com_up hG' hb) (com_up hG hb) fun x => ?_
 rw [com_mem hG' hb, com_mem hG hb]
 simp only
 constructor
 ·rintro ⟨h1, h2⟩
  have b1 := (jn_bd hG' h1).2.2
  have b2 := (jn_bd hG' h2).2.2
  rw [jn_put hn] at h1 h2
  refine ⟨h1.elim id fun k => ?_, h2.elim id fun k => ?_⟩ <;> exfalso <;> omega
 ·rintro ⟨h1, h2⟩
  exact ⟨(jn_put hn).2 (.inl h1), (jn_put hn).2 (.inl h2)⟩
section
variable {N : Nat} {Es : List Ed} (hG : GOK (N : Int) Es) {u v : Int} (q : EndsOK N u v) (m : ¬ nrmE u v ∈ Es)
include hG q m
theorem tn_put2 (z : Nat) (hz : z < N) : tn N (putE (nrmE u v) Es) z = tn N Es z + (if (z : Int) ∈ com N Es (u, v) then 1 else 0) + (if z = u.toNat then (com N Es (u, v)).length else 0) + if z = v.toNat then (com N Es (u, v)).length else 0 := by
 obtain ⟨hn, hu, hv⟩ := q
 obtain ⟨a, rfl⟩ : ∃ a : Nat, u = a := ⟨u.toNat, by omega⟩
 obtain ⟨b, rfl⟩ : ∃ b : Nat, v = b := ⟨v.toNat, by omega⟩
 have h := tn_put hG (a := a) (b := b) (by omega) (by omega) (by omega) m z
 have cc := com_count hG (u := a) (v := b) (by omega) (by omega)
 have cm := com_mem hG (e := ((a : Int), (b : Int))) ⟨hu.1, hu.2, hv.1, hv.2⟩ (z : Int)
 have e : ad Es a z * ad Es b z = if (z : Int) ∈ com N Es ((a : Int), (b : Int)) then 1 else 0 := by
  unfold ad
  by_cases k1 : jn Es a z
  ·by_cases k2 : jn Es b z
   ·rw [if_pos (cm.2 ⟨k1, k2⟩), if_pos k1, if_pos k2]
   ·rw [if_neg fun q => k2 (cm.1 q).2, if_neg k2]; simp
  ·rw [if_neg fun q => k1 (cm.1 q).1, if_neg k1]; simp
 rw [h, e, cc, show ((a : Int)).toNat = a by omega, show ((b : Int)).toNat = b by omega]
 omega
theorem put_nums : triN N (putE (nrmE u v) Es) = chN (triN N Es) (com N Es (u, v)) u.toNat v.toNat 1 := by
 have hG' := put_ok hG q
 have hb : 0 <= (u, v).1 /\ (u, v).1 < (N : Int) /\ 0 <= (u, v).2 /\ (u, v).2 < (N : Int) := ⟨q.2.1.1, q.2.1.2, q.2.2.1, q.2.2.2⟩
 have cu := com_up hG hb
 have cm := com_mem hG hb
 refine getD_ext (by rw [chN_length, triN_length, triN_length]) fun z hz => ?_
 rw [triN_length] at hz
 rw [triN_get hG' hz, chN_get (by rw [triN_length]; exact hz) (fun x hx => (jn_bd hG ((cm x).1 hx).1).2.1.1) (List.Pairwise.imp (fun {a b} h => by omega) cu), triN_get hG hz, tn_put2 hG q m z hz]
 split <;> split <;> split <;> simp
theorem put_tri : tri N (putE (nrmE u v) Es) = tri N Es + (com N Es (u, v)).length := by
 have hG' := put_ok hG q
 have s1 := tn_sum hG
 have s2 := tn_sum hG'
 have hu := q.2.1
 have hv := q.2.2
 have cc := com_count hG (u := u.toNat) (v := v.toNat) (by omega) (by omega)
 rw [show ((u.toNat : Nat) : Int) = u by omega, show ((v.toNat : Nat) : Int) = v by omega] at cc
 have hb : 0 <= (u, v).1 /\ (u, v).1 < (N : Int) /\ 0 <= (u, v).2 /\ (u, v).2 < (N : Int) := ⟨q.2.1.1, q.2.1.2, q.2.2.1, q.2.2.2⟩
 have cm := com_mem hG hb
 have e : (sm N fun z => if (z : Int) ∈ com N Es (u, v) then 1 else 0) = (com N Es (u, v)).length := by
  rw [cc]
  refine sm_congr fun z hz => ?_
  have k := cm (z : Int)
  unfold ad
  rw [show ((u.toNat : Nat) : Int) = u by omega, show ((v.toNat : Nat) : Int) = v by omega]
  by_cases k1 : jn Es u z
  ·by_cases k2 : jn Es v z
   ·rw [if_pos (k.2 ⟨k1, k2⟩), if_pos k1, if_pos k2]
   ·rw [if_neg fun q => k2 (k.1 q).2, if_neg k2]; simp
  ·rw [if_neg fun q => k1 (k.1 q).1, if_neg k1]; simp
 rw [sm_congr fun z hz => tn_put2 hG q m z hz, sm_add, sm_add, sm_add, s1, e, sm_ind (fun _ => (com N Es (u, v)).length), sm_ind (fun _ => (com N Es (u, v)).length), if_pos (by omega), if_pos (by omega)] at s2
 omega
end
theorem remE_sub (x : Ed) (Es : List Ed) : (remE x Es).Sublist Es := by
 unfold remE
 rw [<- List.eraseIdx_eq_take_drop_succ]
 exact List.eraseIdx_sublist _ _
theorem remE_mem {x : Ed} {Es : List Ed} (hU : UpE Es) (hx : x ∈ Es) (y : Ed) : y ∈ remE x Es ↔ y ∈ Es /\ y ≠ x := by
 have hp := (pos_mem hU).1 hx
 have hk := lt_of_getElem? hp
 have e : Es = Es.take (posE x Es) ++ x :: Es.drop (posE x Es + 1) := by
  have := List.drop_eq_getElem_cons hk
  rw [List.getElem?_eq_getElem hk] at hp
  rw [Option.some.inj hp] at this
  rw [<- this, List.take_append_drop]
 have hN := upE_nodup hU
 unfold remE
 generalize Es.take (posE x Es) = A at *
 generalize Es.drop (posE x Es + 1) = B at *
 subst e
 rw [List.nodup_append] at hN
 obtain ⟨_, n2, n3⟩ := hN
 have n4 := (List.nodup_cons.1 n2).1
 simp only [List.mem_append, List.mem_cons]
 constructor
 ·rintro (h | h)
  ·exact ⟨.inl h, n3 y h x (by simp)⟩
  ·exact ⟨.inr (.inr h), fun e => n4 (e ▸ h)⟩
 ·rintro ⟨h | h | h, hne⟩
  ·exact .inl h
  ·exact absurd h hne
  ·exact .inr h
theorem remE_up {x : Ed} {Es : List Ed} (hU : UpE Es) : UpE (remE x Es) := List.Pairwise.sublist (remE_sub x Es) hU
theorem put_rem {x : Ed} {Es : List Ed} (hU : UpE Es) (hx : x ∈ Es) : putE x (remE x Es) = Es := by
 refine upE_ext (putE_up _ (remE_up hU)) hU fun y => ?_
 rw [putE_mem, remE_mem hU hx]
 constructor
 ·rintro (rfl | h)
  ·exact hx
  ·exact h.1
 ·intro h
  by_cases e : y = x
  ·exact .inl e
  ·exact .inr ⟨h, e⟩
theorem rem_put {x : Ed} {Es : List Ed} (hU : UpE Es) (hx : x ∉ Es) : remE x (putE x Es) = Es := by
 have hP := putE_up x hU
 refine upE_ext (remE_up hP) hU fun y => ?_
 rw [remE_mem hP ((putE_mem _ _ _).2 (.inl rfl)), putE_mem]
 constructor
 ·rintro ⟨rfl | h, hne⟩
  ·exact absurd rfl hne
  ·exact h
 ·exact fun h => ⟨.inr h, fun e => hx (e ▸ h)⟩
section
variable {N : Nat} {Es : List Ed} (hG : GOK (N : Int) Es) {u v : Int} (q : EndsOK N u v) (m : nrmE u v ∈ Es)
include hG m
theorem rem_ok : GOK (N : Int) (remE (nrmE u v) Es) := ⟨hG.1, remE_up hG.2.1, fun e he => hG.2.2 e ((remE_mem hG.2.1 m e).1 he).1⟩
theorem rem_not : ¬ nrmE u v ∈ remE (nrmE u v) Es := fun h => ((remE_mem hG.2.1 m _).1 h).2 rfl
include q
theorem com_rem : com N (remE (nrmE u v) Es) (u, v) = com N Es (u, v) := by
 have h := com_put (rem_ok hG m) q
 rw [put_rem hG.2.1 m] at h
 exact h.symm
theorem rem_nums : triN N (remE (nrmE u v) Es) = chN (triN N Es) (com N Es (u, v)) u.toNat v.toNat (-1) := by
 have hF := rem_ok hG m
 have h := put_nums hF q (rem_not hG m)
 rw [put_rem hG.2.1 m, com_rem hG q m] at h
 have hb : 0 <= (u, v).1 /\ (u, v).1 < (N : Int) /\ 0 <= (u, v).2 /\ (u, v).2 < (N : Int) := ⟨q.2.1.1, q.2.1.2, q.2.2.1, q.2.2.2⟩
 have cu := com_up hG hb
 have cm := com_mem hG hb
 have c0 : ∀ x ∈ com N Es (u, v), 0 <= x := fun x hx => (jn_bd hG ((cm x).1 hx).1).2.1.1
 have cn : (com N Es (u, v)).Nodup := List.Pairwise.imp (fun {a b} h => by omega) cu
 refine getD_ext (by rw [chN_length, triN_length, triN_length]) fun z hz => ?_
 rw [triN_length] at hz
 rw [chN_get (by rw [triN_length]; exact hz) c0 cn, h, chN_get (by rw [triN_length]; exact hz) c0 cn]
 split <;> split <;> split <;> omega
theorem rem_tri : tri N Es = tri N (remE (nrmE u v) Es) + (com N Es (u, v)).length := by
 have h := put_tri (rem_ok hG m) q (rem_not hG m)
 rw [put_rem hG.2.1 m, com_rem hG q m] at h
 exact h
end
end Go.BmP
