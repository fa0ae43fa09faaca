/- The degrees of a graph can be had; the edges that are made of numbers have them as degrees. -/
import Derived.Test.YtjfdniggjdnkiaaHhQ
import Derived.Test.YtjfdniggjdnkiaaTriQ
import Derived.Test.YtjfdniggjdnkiaaGofP
set_option linter.unusedSimpArgs false
set_option linter.unusedVariables false
namespace Go.BmP
open Go.Am Go.Bm
theorem sm_swap (f : Nat -> Nat -> Nat) (m : Nat) : ∀ n, sm n (fun u => sm m fun v => f u v) = sm m fun v => sm n fun u => f u v
 | 0 => by
   have := sm_zero m
   show 0 = _
   simp only [sm]
   exact this.symm
 | n + 1 => by
   show sm n (fun u => sm m fun v => f u v) + sm m (fun v => f n v) = sm m fun v => sm n (fun u => f u v) + f n v
   rw [sm_swap f m n, <- sm_add]
theorem sm_le {f g : Nat -> Nat} : ∀ {n : Nat}, (∀ i, i < n -> f i <= g i) -> sm n f <= sm n g
 | 0, _ => Nat.le_refl _
 | n + 1, h => Nat.add_le_add (sm_le fun i hi => h i (by omega)) (h n (by omega))
theorem lab_sm (d lab : Nat -> Nat) (b : Nat) : ∀ N, sL b ((List.range N).map fun i => ((d i : Int), lab i)) = (sm N (fun i => if lab i = b then d i else 0) : Nat) /\ cL' b ((List.range N).map fun i => ((d i : Int), lab i)) = (sm N (fun i => if lab i = b then 1 else 0) : Nat)
 | 0 => ⟨rfl, rfl⟩
 | n + 1 => by
   obtain ⟨h1, h2⟩ := lab_sm d lab b n
   rw [List.range_succ, List.map_append, sL_app, cL_app, h1, h2]
   simp only [List.map_cons, List.map_nil, sL, cL', sm]
   constructor <;> split <;> omega
def dgr (N : Nat) (Es : List Ed) (u : Nat) : Nat := sm N fun w => ad Es u w
def dgs (N : Nat) (Es : List Ed) : List Int := (List.range N).map fun u => ((dgr N Es u : Nat) : Int)
theorem sm_pos3 (N : Nat) (lab : Nat -> Nat) (i : Nat) (hi : i < N) (h2 : lab i ≠ 2) : sm N (fun w => if lab w ≠ 2 /\ w ≠ i then 1 else 0) + 1 + sm N (fun w => if lab w = 2 then 1 else 0) = N := by
 have h1 : sm N (fun w => if w = i then 1 else 0) = 1 := by rw [sm_ind (fun _ => 1) i N, if_pos hi]
 have h3 : sm N (fun w => ((if lab w ≠ 2 /\ w ≠ i then 1 else 0) + (if w = i then 1 else 0)) + (if lab w = 2 then 1 else 0)) = N := by
  refine (sm_congr fun w _ => ?_).trans (sm_one N)
  by_cases e : w = i
  ·subst e; simp [h2]
  ·by_cases f : lab w = 2 <;> simp [e, f]
 rw [sm_add, sm_add, h1] at h3
 exact h3
theorem ff_graph {N : Nat} {Es : List Ed} (hG : GOK (N : Int) Es) : FF (dgs N Es) := by
 refine .of fun L hl hm => ?_
 have hlen : L.length = N := by
  have := congrArg List.length hm
  simpa [dgs] using this
 let lab : Nat -> Nat := fun i => (L.map Prod.snd).getD i 0
 have hL : L = (List.range N).map fun i => ((dgr N Es i : Int), lab i) := by
  apply List.ext_getElem
  ·simp [hlen]
  ·intro i h1 h2
   have e1 : (L.map Prod.fst)[i]? = (dgs N Es)[i]? := by rw [hm]
   have hi : i < N := by omega
   simp [dgs, h1, hi] at e1
   simp only [List.getElem_map, List.getElem_range]
   refine Prod.ext e1 ?_
   show _ = (L.map Prod.snd).getD i 0
   simp [List.getD, h1]
 rw [hL]
 obtain ⟨s1, c1⟩ := lab_sm (dgr N Es) lab 1 N
 obtain ⟨s2, c2⟩ := lab_sm (dgr N Es) lab 2 N
 unfold fv
 rw [s1, c1, s2, c2, List.length_map, List.length_range]
 -- what S can have
 have key : ∀ i, i < N -> (if lab i = 1 then dgr N Es i else 0) <= (if lab i = 1 then N - 1 - sm N (fun w => if lab w = 2 then 1 else 0) else 0) + sm N (fun w => if lab i = 1 /\ lab w = 2 then ad Es i w else 0) := by
  intro i hi
  by_cases h : lab i = 1
  ·have h3 := sm_pos3 N lab i hi (by omega)
   have h4 : dgr N Es i <= sm N (fun w => (if lab w ≠ 2 /\ w ≠ i then 1 else 0) + (if lab i = 1 /\ lab w = 2 then ad Es i w else 0)) := by
    refine sm_le fun w _ => ?_
    by_cases e : w = i
    ·subst e; rw [ad_irr hG]; omega
    ·by_cases f : lab w = 2
     ·simp [e, f, h]
     ·have : ad Es i w <= 1 := by unfold ad; split <;> omega
      simp [e, f, h]; exact this
   rw [sm_add] at h4
   rw [if_pos h, if_pos h]
   omega
  ·rw [if_neg h]; exact Nat.zero_le _
 have h5 := sm_le key
 rw [sm_add, sm_swap] at h5
 have h6 : sm N (fun w => sm N fun i => if lab i = 1 /\ lab w = 2 then ad Es i w else 0) <= sm N (fun w => if lab w = 2 then dgr N Es w else 0) := by
  refine sm_le fun w _ => ?_
  by_cases f : lab w = 2
  ·rw [if_pos f]
   refine sm_le fun i _ => ?_
   split
   ·rw [ad_symm]; exact Nat.le_refl _
   ·exact Nat.zero_le _
  ·have : sm N (fun i => if lab i = 1 /\ lab w = 2 then ad Es i w else 0) = sm N fun _ => 0 := sm_congr fun i _ => by simp [f]
   rw [this, sm_zero]; exact Nat.zero_le _
 have h7 : sm N (fun i => if lab i = 1 then N - 1 - sm N (fun w => if lab w = 2 then 1 else 0) else 0) = (N - 1 - sm N (fun w => if lab w = 2 then 1 else 0)) * sm N (fun i => if lab i = 1 then 1 else 0) := by
  rw [<- sm_mul]
  refine sm_congr fun i _ => ?_
  split <;> simp
 rw [h7] at h5
 generalize hS : sm N (fun i => if lab i = 1 then 1 else 0) = S at *
 generalize hT : sm N (fun w => if lab w = 2 then 1 else 0) = T at *
 by_cases h0 : S = 0
 ·subst h0
  rw [Nat.mul_zero] at h5
  have : ((0 : Nat) : Int) * ((N : Int) - 1 - (T : Int)) = 0 := by simp
  rw [this]
  omega
 ·-- some node is in S, so that T is not all but one
  have hT1 : T + 1 <= N := by
   have : ∃ i, i < N /\ lab i = 1 := by
    apply Classical.byContradiction
    intro h
    apply h0
    rw [<- hS]
    have : sm N (fun i => if lab i = 1 then 1 else 0) = sm N fun _ => 0 := sm_congr fun i hi => if_neg fun e => h ⟨i, hi, e⟩
    rw [this, sm_zero]
   obtain ⟨i, hi, e⟩ := this
   have := sm_pos3 N lab i hi (by omega)
   omega
  have e : ((N - 1 - T : Nat) : Int) = (N : Int) - 1 - T := by omega
  have e2 : (S : Int) * ((N : Int) - 1 - T) = (((N - 1 - T) * S : Nat) : Int) := by rw [Int.natCast_mul, e, Int.mul_comm]
  rw [e2]
  omega
theorem sumI_sm (f : Nat -> Nat) : ∀ N, sumI ((List.range N).map fun u => ((f u : Nat) : Int)) = (sm N f : Nat)
 | 0 => rfl
 | n + 1 => by
   rw [List.range_succ, List.map_append, sumI_app, sumI_sm f n]
   simp [sumI, sm]
theorem even_graph {N : Nat} {Es : List Ed} (hG : GOK (N : Int) Es) : EvenS (dgs N Es) := by
 unfold EvenS dgs
 rw [sumI_sm]
 have h : sm N (fun u => dgr N Es u) = 2 * sm N (fun v => sm v fun u => ad Es u v) := by
  unfold dgr
  rw [sm_sq (fun u v => ad Es u v) (fun u => ad_irr hG u), <- sm_mul]
  refine sm_congr fun v _ => ?_
  rw [<- sm_mul]
  refine sm_congr fun u _ => ?_
  show ad Es u v + ad Es v u = _
  rw [ad_symm Es v u]; omega
 exact ⟨((sm N fun v => sm v fun u => ad Es u v : Nat) : Int), by show ((sm N fun u => dgr N Es u : Nat) : Int) = _; rw [h]; omega⟩
theorem rz_graph {N : Nat} {Es : List Ed} (hG : GOK (N : Int) Es) {y : List Int} (hp : y.Perm (dgs N Es)) : ∃ out, rz y = some out := by
 have h0 : ∀ d ∈ y, 0 <= d := fun d hd => by
  have := hp.mem_iff.1 hd
  unfold dgs at this
  obtain ⟨u, _, rfl⟩ := List.mem_map.1 this
  omega
 have := (rz_some h0).2 ⟨(ff_graph hG).perm hp.symm, by unfold EvenS; rw [sumI_perm hp]; exact even_graph hG⟩
 exact Option.isSome_iff_exists.1 this
def cnj (N : Nat) (E : List Ed) (u : Int) : Nat := sm N fun w => if jn E u w then 1 else 0
theorem sm_mem {N : Nat} : ∀ {W : List Int}, W.Nodup -> (∀ x ∈ W, 0 <= x /\ x < (N : Int)) -> sm N (fun w => if ((w : Nat) : Int) ∈ W then 1 else 0) = W.length
 | [], _, _ => by simp [sm_zero]
 | a :: W, hn, hb => by
   obtain ⟨h1, h2⟩ := List.nodup_cons.1 hn
   have ih := sm_mem h2 fun x hx => hb x (List.mem_cons_of_mem _ hx)
   have ha := hb a List.mem_cons_self
   have h3 : sm N (fun w => if w = a.toNat then 1 else 0) = 1 := by rw [sm_ind (fun _ => 1) a.toNat N, if_pos (by omega)]
   have h4 : sm N (fun w => if ((w : Nat) : Int) ∈ a :: W then 1 else 0) = sm N fun w => (if ((w : Nat) : Int) ∈ W then 1 else 0) + if w = a.toNat then 1 else 0 := ?_
   ·rw [h4, sm_add, h3, ih, List.length_cons]
   refine sm_congr fun w _ => ?_
   by_cases e : w = a.toNat
   ·have ea : ((w : Nat) : Int) = a := by omega
    rw [ea]; simp [e, h1]
   ·have ea : ¬ ((w : Nat) : Int) = a := by omega
    simp [e, ea]
theorem jn_star {v x w : Int} {W : List Int} : jn (W.map fun z => (v, z)) x w ↔ (x = v /\ w ∈ W) \/ (w = v /\ x ∈ W) := by
 unfold jn
 simp only [List.mem_map, Prod.mk.injEq]
 constructor
 ·rintro (⟨z, hz, rfl, rfl⟩ | ⟨z, hz, rfl, rfl⟩)
  ·exact .inl ⟨rfl, hz⟩
  ·exact .inr ⟨rfl, hz⟩
 ·rintro (⟨rfl, h⟩ | ⟨rfl, h⟩)
  ·exact .inl ⟨w, h, rfl, rfl⟩
  ·exact .inr ⟨x, h, rfl, rfl⟩
theorem jn_append {A B : List Ed} {x w : Int} : jn (A ++ B) x w ↔ jn A x w \/ jn B x w := by
 unfold jn
 simp only [List.mem_append]
 constructor
 ·rintro ((h | h) | (h | h)) <;> simp [h]
 ·rintro ((h | h) | (h | h)) <;> simp [h]
theorem otr_spec {N : Nat} : ∀ (n : Nat) (L out out' : List (Int × Int)), L.length = n -> (L.map Prod.fst).Nodup -> (∀ x ∈ L, (0 <= x.1 /\ x.1 < (N : Int)) /\ 0 <= x.2) -> otr n L out = some out' ->
  ∃ new : List Ed, out' = out ++ new /\ (∀ e ∈ new, e.1 ≠ e.2 /\ e.1 ∈ L.map Prod.fst /\ e.2 ∈ L.map Prod.fst) /\ (∀ x ∈ L, (cnj N new x.1 : Int) = x.2)
 | 0, L, out, out', hL, _, _, h => by
   obtain rfl := List.eq_nil_of_length_eq_zero hL
   simp only [otr, Option.some.injEq] at h
   subst h
   exact ⟨[], by simp, by simp, by simp⟩
 | n + 1, L, out, out', hL, hnd, hb, h => by
   have sp := isortC_perm cfM L
   have sl := isortC_length cfM L
   obtain ⟨⟨v, d⟩, r, hs⟩ : ∃ y r, isortC cfM L = y :: r := by
    cases h : isortC cfM L with
    | nil => rw [h] at sl; simp at sl; omega
    | cons y r => exact ⟨y, r, rfl⟩
   have hotr : otr (n + 1) L out = if (r.length : Int) < d then none else match inn v d.toNat 0 r out with
    | none => none
    | some (r', out') => otr n r' out' := by rw [otr, hs]; rfl
   rw [hotr] at h
   rw [hs] at sp sl
   have hrl : r.length = n := by simp at sl; omega
   have isp := inn_spec v d.toNat [] r out
   simp only [List.length_nil, List.nil_append] at isp
   rw [isp] at h
   split at h
   ·cases h
   ·rename_i hdr
    split at h
    ·cases h
    ·rename_i r' out1 hi
     split at hi
     ·rename_i hc
      simp only [Option.some.injEq, Prod.mk.injEq] at hi
      obtain ⟨rfl, rfl⟩ := hi
      have pf : ((v, d) :: r).map Prod.fst |>.Perm (L.map Prod.fst) := sp.map Prod.fst
      have hnd2 : (v :: r.map Prod.fst).Nodup := (pf.nodup_iff).2 hnd
      obtain ⟨hv, hr⟩ := List.nodup_cons.1 hnd2
      have hb2 : ∀ x ∈ (v, d) :: r, (0 <= x.1 /\ x.1 < (N : Int)) /\ 0 <= x.2 := fun x hx => hb x (sp.mem_iff.1 hx)
      have hvb := hb2 (v, d) List.mem_cons_self
      simp only at hvb
      have hfst : ((r.take d.toNat).map dec1 ++ r.drop d.toNat).map Prod.fst = r.map Prod.fst := by
       rw [List.map_append, List.map_map]
       have : (Prod.fst ∘ dec1) = Prod.fst := rfl
       rw [this, <- List.map_append, List.take_append_drop]
      obtain ⟨new, e1, e2, e3⟩ := otr_spec (N := N) n _ _ _ (by simp; omega) (by rw [hfst]; exact hr) (fun x hx => by
       rcases List.mem_append.1 hx with hx | hx
       ·obtain ⟨y, hy, rfl⟩ := List.mem_map.1 hx
        have h1 := hb2 y (List.mem_cons_of_mem _ (List.mem_of_mem_take hy))
        have h2 := hc.2 y hy
        simp only [dec1]; omega
       ·exact hb2 x (List.mem_cons_of_mem _ (List.mem_of_mem_drop hx))) h
      rw [hfst] at e2
      have hW : ((r.take d.toNat).map fun x : Int × Int => ((v, x.1) : Ed)) = ((r.take d.toNat).map Prod.fst).map fun z => (v, z) := by rw [List.map_map]; rfl
      have hWn : ((r.take d.toNat).map Prod.fst).Nodup := hr.sublist ((List.take_sublist _ _).map _)
      have hWm : ∀ x, x ∈ (r.take d.toNat).map Prod.fst -> x ∈ r.map Prod.fst := fun x hx => ((List.take_sublist _ _).map _).subset hx
      generalize hWd : (r.take d.toNat).map Prod.fst = W at *
      have hWl : W.length = d.toNat := by rw [<- hWd, List.length_map, List.length_take]; omega
      have nov : ∀ x, jn new v x -> False := by
       intro x hx
       unfold jn at hx
       rcases hx with hx | hx
       ·exact hv (e2 _ hx).2.1
       ·exact hv (e2 _ hx).2.2
      refine ⟨(W.map fun z => (v, z)) ++ new, by rw [e1, hW]; simp, ?_, ?_⟩
      ·intro e he
       rcases List.mem_append.1 he with he | he
       ·obtain ⟨z, hz, rfl⟩ := List.mem_map.1 he
        have hzr := hWm z hz
        exact ⟨fun e => hv (by simp only at e; rw [e]; exact hzr), pf.mem_iff.1 List.mem_cons_self, pf.mem_iff.1 (List.mem_cons_of_mem _ hzr)⟩
       ·obtain ⟨a, b, c⟩ := e2 e he
        exact ⟨a, pf.mem_iff.1 (List.mem_cons_of_mem _ b), pf.mem_iff.1 (List.mem_cons_of_mem _ c)⟩
      ·intro x hx
       have hx' := sp.mem_iff.2 hx
       rcases List.mem_cons.1 hx' with rfl | hxr
       ·simp only
        have : cnj N ((W.map fun z => (v, z)) ++ new) v = sm N fun w => if ((w : Nat) : Int) ∈ W then 1 else 0 := by
         refine sm_congr fun w _ => ?_
         have : jn ((W.map fun z => (v, z)) ++ new) v w ↔ ((w : Nat) : Int) ∈ W := by
          rw [jn_append, jn_star]
          constructor
          ·rintro ((⟨_, h⟩ | ⟨_, h⟩) | h)
           ·exact h
           ·exact absurd (hWm _ h) hv
           ·exact absurd h (nov _)
          ·intro h; exact .inl (.inl ⟨rfl, h⟩)
         simp only [this]
        rw [this, sm_mem hWn (fun z hz => by
         obtain ⟨y, hy, rfl⟩ := List.mem_map.1 (hWm z hz)
         exact (hb2 y (List.mem_cons_of_mem _ hy)).1), hWl]
        omega
       ·have hxv : x.1 ≠ v := fun e => hv (by rw [<- e]; exact List.mem_map_of_mem hxr)
        have hcn : cnj N ((W.map fun z => (v, z)) ++ new) x.1 = (if x.1 ∈ W then 1 else 0) + cnj N new x.1 := by
         have h3 : sm N (fun w => if w = v.toNat then (if x.1 ∈ W then 1 else 0) else 0) = if x.1 ∈ W then 1 else 0 := by rw [sm_ind (fun _ => if x.1 ∈ W then 1 else 0) v.toNat N, if_pos (by omega)]
         rw [<- h3]
         unfold cnj
         rw [<- sm_add]
         refine sm_congr fun w _ => ?_
         by_cases ew : w = v.toNat
         ·have ev : ((w : Nat) : Int) = v := by omega
          rw [ev]
          have n1 : ¬ jn new x.1 v := fun h => nov x.1 (by unfold jn at *; exact h.symm)
          have : jn ((W.map fun z => (v, z)) ++ new) x.1 v ↔ x.1 ∈ W := by
           rw [jn_append, jn_star]
           constructor
           ·rintro ((⟨h, _⟩ | ⟨_, h⟩) | h)
            ·exact absurd h hxv
            ·exact h
            ·exact absurd h n1
           ·intro h; exact .inl (.inr ⟨rfl, h⟩)
          simp only [this, ew, if_true, n1, if_false, Nat.add_zero]
         ·have ev : ¬ ((w : Nat) : Int) = v := by omega
          have : jn ((W.map fun z => (v, z)) ++ new) x.1 w ↔ jn new x.1 w := by
           rw [jn_append, jn_star]
           constructor
           ·rintro ((⟨h, _⟩ | ⟨h, _⟩) | h)
            ·exact absurd h hxv
            ·exact absurd h ev
            ·exact h
           ·intro h; exact .inr h
          simp only [this, ew, if_false, Nat.zero_add]
        rw [hcn]
        rw [<- List.take_append_drop d.toNat r] at hxr
        rcases List.mem_append.1 hxr with hxt | hxd
        ·have hin : x.1 ∈ W := by rw [<- hWd]; exact List.mem_map_of_mem hxt
         have := e3 (dec1 x) (List.mem_append_left _ (List.mem_map_of_mem hxt))
         rw [if_pos hin]
         simp only [dec1] at this
         omega
        ·have hni : x.1 ∉ W := by
          intro hin
          rw [<- List.take_append_drop d.toNat r, List.map_append, hWd] at hr
          exact (List.nodup_append.1 hr).2.2 _ hin _ (List.mem_map_of_mem hxd) rfl
         have := e3 x (List.mem_append_right _ hxd)
         rw [if_neg hni]
         omega
     ·cases hi
end Go.BmP
/- The graph that is made of numbers. -/
set_option linter.unusedSimpArgs false
set_option linter.unusedVariables false
namespace Go.BmP
open Go.Am Go.Bm
theorem needs_fst (l : List Int) : (needs l).map Prod.fst = (List.range l.length).map fun i => ((i : Nat) : Int) := by
 unfold needs
 rw [List.map_map]
 apply List.ext_getElem?
 intro i
 simp only [List.getElem?_map, List.getElem?_zipIdx, List.getElem?_range]
 by_cases h : i < l.length
 ·simp [h]
 ·simp [h, List.getElem?_eq_none (by omega : l.length <= i)]
theorem rz_spec {y : List Int} {out : List Ed} (h : rz y = some out) : (∀ e ∈ out, e.1 ≠ e.2 /\ (0 <= e.1 /\ e.1 < (y.length : Int)) /\ 0 <= e.2 /\ e.2 < (y.length : Int)) /\ ∀ i (hi : i < y.length), (cnj y.length out i : Int) = y[i] := by
 unfold rz at h
 split at h
 case isFalse => cases h
 rename_i ha
 have hl : (needs y).length = y.length := by simp [needs]
 have hn : ((needs y).map Prod.fst).Nodup := by
  rw [needs_fst]
  exact List.Pairwise.map _ (fun a b h e => h (by omega)) (List.nodup_range (n := y.length))
 have hm : ∀ z, z ∈ (needs y).map Prod.fst -> 0 <= z /\ z < (y.length : Int) := by
  intro z hz
  rw [needs_fst] at hz
  obtain ⟨i, hi, rfl⟩ := List.mem_map.1 hz
  have := List.mem_range.1 hi
  omega
 obtain ⟨new, e1, e2, e3⟩ := otr_spec (N := y.length) y.length (needs y) [] out hl hn (fun x hx => ⟨hm _ (List.mem_map_of_mem hx), by
  have h1 : x.2 ∈ y := by rw [<- needs_snd y]; exact List.mem_map_of_mem hx
  exact (of_decide_eq_true (List.all_eq_true.1 ha _ h1)).1⟩) h
 rw [List.nil_append] at e1
 subst e1
 refine ⟨fun e he => ⟨(e2 e he).1, hm _ (e2 e he).2.1, hm _ (e2 e he).2.2⟩, fun i hi => ?_⟩
 have hx : (((i : Nat) : Int), y[i]) ∈ needs y := by
  unfold needs
  exact List.mem_map.2 ⟨(y[i], i), List.mem_zipIdx_iff_getElem?.2 (by simp), rfl⟩
 exact e3 _ hx
theorem nrm_jn {a b : Int} (e : Ed) : (a, b) = nrmE e.1 e.2 \/ (b, a) = nrmE e.1 e.2 ↔ e = (a, b) \/ e = (b, a) := by
 obtain ⟨u, v⟩ := e
 unfold nrmE
 simp only [Prod.mk.injEq]
 by_cases h1 : v < u
 ·rw [if_pos h1, if_neg (by omega)]; omega
 ·by_cases h2 : u < v
  ·rw [if_neg h1, if_pos h2]; omega
  ·rw [if_neg h1, if_neg h2]; omega
theorem jn_gof {out : List Ed} {a b : Int} : jn (gofL out) a b ↔ jn out a b := by
 unfold jn
 rw [gofL_mem, gofL_mem]
 constructor
 ·rintro (⟨e, he, h⟩ | ⟨e, he, h⟩)
  ·rcases (nrm_jn e).1 (.inl h) with rfl | rfl
   ·exact .inl he
   ·exact .inr he
  ·rcases (nrm_jn e).1 (.inr h) with rfl | rfl
   ·exact .inl he
   ·exact .inr he
 ·rintro (h | h)
  ·rcases (nrm_jn (a := a) (b := b) (a, b)).2 (.inl rfl) with k | k
   ·exact .inl ⟨_, h, k⟩
   ·exact .inr ⟨_, h, k⟩
  ·rcases (nrm_jn (a := a) (b := b) (b, a)).2 (.inr rfl) with k | k
   ·exact .inl ⟨_, h, k⟩
   ·exact .inr ⟨_, h, k⟩
theorem gof_ok {N : Nat} (hN : N <= 64) {out : List Ed} (h : ∀ e ∈ out, e.1 ≠ e.2 /\ (0 <= e.1 /\ e.1 < (N : Int)) /\ 0 <= e.2 /\ e.2 < (N : Int)) : GOK (N : Int) (gofL out) := by
 refine ⟨⟨by omega, by omega⟩, gofL_up out, fun z hz => ?_⟩
 obtain ⟨e, he, rfl⟩ := (gofL_mem out z).1 hz
 obtain ⟨h1, h2, h3⟩ := h e he
 unfold nrmE
 simp only
 by_cases k1 : e.2 < e.1
 ·rw [if_pos k1, if_neg (by omega)]; omega
 ·rw [if_neg k1, if_pos (by omega)]; omega
theorem dgs_gof {y : List Int} {out : List Ed} (h : rz y = some out) : dgs y.length (gofL out) = y := by
 obtain ⟨_, h2⟩ := rz_spec h
 unfold dgs
 apply List.ext_getElem
 ·simp
 ·intro i h3 h4
  simp only [List.getElem_map, List.getElem_range]
  rw [<- h2 i h4]
  have : dgr y.length (gofL out) i = cnj y.length out i := sm_congr fun w _ => by
   unfold ad
   have := jn_gof (out := out) (a := (i : Int)) (b := (w : Int))
   by_cases k : jn out i w
   ·rw [if_pos (this.2 k), if_pos k]
   ·rw [if_neg fun q => k (this.1 q), if_neg k]
  rw [this]
theorem otr_len : ∀ (n : Nat) (L out out' : List (Int × Int)), L.length = n -> otr n L out = some out' -> out'.length <= out.length + n * n
 | 0, L, out, out', _, h => by
   simp only [otr, Option.some.injEq] at h
   subst h; omega
 | n + 1, L, out, out', hL, h => by
   have sl := isortC_length cfM L
   obtain ⟨⟨v, d⟩, r, hs⟩ : ∃ y r, isortC cfM L = y :: r := by
    cases h : isortC cfM L with
    | nil => rw [h] at sl; simp at sl; omega
    | cons y r => exact ⟨y, r, rfl⟩
   have hotr : otr (n + 1) L out = if (r.length : Int) < d then none else match inn v d.toNat 0 r out with
    | none => none
    | some (r', out') => otr n r' out' := by rw [otr, hs]; rfl
   rw [hotr] at h
   rw [hs] at sl
   have hrl : r.length = n := by simp at sl; omega
   have isp := inn_spec v d.toNat [] r out
   simp only [List.length_nil, List.nil_append] at isp
   rw [isp] at h
   split at h
   ·cases h
   ·split at h
    ·cases h
    ·rename_i r' out1 hi
     split at hi
     ·rename_i hc
      simp only [Option.some.injEq, Prod.mk.injEq] at hi
      obtain ⟨rfl, rfl⟩ := hi
      have := otr_len n _ _ _ (by simp; omega) h
      simp only [List.length_append, List.length_map, List.length_take] at this
      have e : (n + 1) * (n + 1) = n * n + n + n + 1 := by rw [Nat.add_mul, Nat.mul_add]; omega
      omega
     ·cases hi
theorem rz_len {y : List Int} {out : List Ed} (hy : y.length <= 64) (h : rz y = some out) : out.length < 1000000 := by
 unfold rz at h
 split at h
 case isFalse => cases h
 have := otr_len y.length (needs y) [] out (by simp [needs]) h
 have : y.length * y.length <= 64 * 64 := Nat.mul_le_mul hy hy
 simp at *
 omega
end Go.BmP
