/- What two ascending lists have in common, as triangles.shared finds it. -/
import Derived.Test.YtmoginoicilobaaGreatDoorUseM
import Derived.Test.YtmoginoicilobaaGreatDoorR02d
import Derived.Test.YtmoginoicilobaaGreatDoorL01
import Derived.Test.YtmoginoicilobaaGreatDoorK05
set_option linter.unusedSimpArgs false
set_option linter.unusedVariables false
set_option maxRecDepth 100000
set_option maxHeartbeats 4000000
open List renaming append_assoc → dI, append_nil → ft, drop_eq_getElem_cons → aP, drop_length → cz, drop_of_length_le → N0, drop_zero → b9, eq_of_mem_replicate → mL, foldl_cons → dF, foldl_nil → yI, getD_eq_getElem?_getD → bk, getElem?_eq_getElem → af, getElem?_map → cU, getElem?_set_ne → c9, getElem?_set_self → ua, getElem_mem → cG, length_cons → b7, length_map → iM, length_replicate → dT, length_singleton → xq, map_cons → dN, map_nil → DB, map_set → TU, mem_append → aD, mem_cons → aX, mem_cons_of_mem → fx, mem_map → wR, mem_of_getElem? → aW, mem_or_eq_of_mem_set → bP, mem_singleton → cq, nil_append → ei, pairwise_cons → br, replicate → aM, set_set → wQ, singleton_append → xp, sum_cons → tT, take → fe, take_of_length_le → aL
open Nat renaming le_of_ble_eq_true → ab, strongRecOn → qK, zero_add → dL
open Ne renaming symm → oV
open Option.some renaming inj → bU
namespace Go.BmP
open Go.Am Go.Bm
def shr : List Int -> List Int -> List Int
 | [],_ => []
 | _ :: _,[] => []
 | x :: r,y :: s => if x < y then shr r (y :: s) else if y < x then shr (x :: r) s else x :: shr r s
termination_by a b => a.length + b.length
theorem QJ : ∀ (n : Nat) (a b : List Int),a.length + b.length = n -> (shr a b).length <= a.length /\ (shr a b).length <= b.length := by
 intro n
 induction n using qK with
 | ind n ih =>
   intro a b h;cases a with
   | nil => simp [shr]
   | cons x r =>
     cases b with
     | nil => simp [shr]
     | cons y s =>
       rw [shr];simp only [b7] at h ⊢;split
       ·have := ih (r.length + (s.length + 1)) (by omega) r (y :: s) (by simp);simp only [b7] at this;omega
       ·split
        ·have := ih (r.length + 1 + s.length) (by omega) (x :: r) s (by simp);simp only [b7] at this;omega
        ·have := ih (r.length + s.length) (by omega) r s rfl;simp only [b7];omega
theorem QI (z : Int) : ∀ (n : Nat) (a b : List Int),a.length + b.length = n -> Up a -> Up b -> (z ∈ shr a b ↔ z ∈ a /\ z ∈ b) := by
 intro n
 induction n using qK with
 | ind n ih =>
   intro a b h ha hb;cases a with
   | nil => simp [shr]
   | cons x r =>
     cases b with
     | nil => simp [shr]
     | cons y s =>
       obtain ⟨a1,a2⟩ := br.1 ha;obtain ⟨b1,b2⟩ := br.1 hb;rw [shr];simp only [b7] at h;split
       ·rename_i bz;rw [ih (r.length + (s.length + 1)) (by omega) r (y :: s) (by simp) a2 hb];constructor
        ·rintro ⟨h1,h2⟩; exact ⟨fx _ h1,h2⟩
        ·rintro ⟨h1,h2⟩;rcases aX.1 h1 with e | e
         ·subst e;rcases aX.1 h2 with e | e
          ·omega
          ·have := b1 z e; omega
         ·exact ⟨e,h2⟩
       ·split
        ·rename_i h1 bz;rw [ih (r.length + 1 + s.length) (by omega) (x :: r) s (by simp) ha b2];constructor
         ·rintro ⟨h1,h2⟩; exact ⟨h1,fx _ h2⟩
         ·rintro ⟨k1,h2⟩;rcases aX.1 h2 with e | e
          ·subst e;rcases aX.1 k1 with e | e
           ·omega
           ·have := a1 z e; omega
          ·exact ⟨k1,e⟩
        ·have e : x = y := by omega
         subst e;rw [aX,ih (r.length + s.length) (by omega) r s rfl a2 b2];simp only [aX];constructor
         ·rintro (h | ⟨h1,h2⟩)
          ·exact ⟨.inl h,.inl h⟩
          ·exact ⟨.inr h1,.inr h2⟩
         ·rintro ⟨h1 | h1,h2 | h2⟩
          ·exact .inl h1
          ·exact .inl h1
          ·exact .inl h2
          ·exact .inr ⟨h1,h2⟩
theorem adO : ∀ (n : Nat) (a b : List Int),a.length + b.length = n -> Up a -> Up b -> Up (shr a b) := by
 intro n
 induction n using qK with
 | ind n ih =>
   intro a b h ha hb;cases a with
   | nil => simp [shr,Up]
   | cons x r =>
     cases b with
     | nil => simp [shr,Up]
     | cons y s =>
       obtain ⟨a1,a2⟩ := br.1 ha;obtain ⟨b1,b2⟩ := br.1 hb;rw [shr];simp only [b7] at h;split
       ·exact ih (r.length + (s.length + 1)) (by omega) r (y :: s) (by simp) a2 hb
       ·split
        ·exact ih (r.length + 1 + s.length) (by omega) (x :: r) s (by simp) ha b2
        ·refine br.2 ⟨fun z hz => ?_,ih (r.length + s.length) (by omega) r s rfl a2 b2⟩;exact a1 z ((QI z _ r s rfl a2 b2).1 hz).1
def QM (a b o : List Int) (J : Env) : St := ⟨(0,.list 1 (ints a)) :: (1,.list 1 (ints b)) :: (5,.own 1 (ints o)) :: J,[]⟩
theorem adP (x y : Int) (r s o : List Int) (hr : r.length < 4294967295) (hs : s.length < 4294967295) (h : x < y) : bj aj 0 qT (QM (x :: r) (y :: s) o []) = some (.normal,QM r (y :: s) o []) := by
 have h1 : (0 : Int) < (r.length : Int) + 1 := by omega
 have h2 : (0 : Int) < (s.length : Int) + 1 := by omega
 have h3 : (1 : Int) <= (r.length : Int) + 1 := by omega
 have ht : fe r.length (ints r) = ints r := aL (by simp [ints]);have hc : bf aj VI [.int .i64 x,.int .i64 y] [] = some (.int .i64 (-1),[]) := by rw [vG,Gl,if_pos h]
 unfold qT QM;simp [x8,x7,xZ,xY,xX,xW,xV,xU,xT,xS,sN,h1,h2,h3,ht,hc,idx,pj,ae,sQ8,iQ8,lQ8]
theorem adQ (x y : Int) (r s o : List Int) (hr : r.length < 4294967295) (hs : s.length < 4294967295) (h0 : ¬ x < y) (h : y < x) : bj aj 0 qT (QM (x :: r) (y :: s) o []) = some (.normal,QM (x :: r) s o []) := by
 have h1 : (0 : Int) < (r.length : Int) + 1 := by omega
 have h2 : (0 : Int) < (s.length : Int) + 1 := by omega
 have h3 : (1 : Int) <= (s.length : Int) + 1 := by omega
 have ht : fe s.length (ints s) = ints s := aL (by simp [ints]);have hc : bf aj VI [.int .i64 x,.int .i64 y] [] = some (.int .i64 1,[]) := by rw [vG,Gl,if_neg h0,if_pos h]
 unfold qT QM;simp [x8,x7,xZ,xY,xX,xW,xV,xU,xT,xS,sN,h1,h2,h3,ht,hc,idx,pj,ae,sQ8,iQ8,lQ8]
theorem adR (x : Int) (r s o : List Int) (hr : r.length < 4294967295) (hs : s.length < 4294967295) (ho : o.length < 4294967295) : bj aj 0 qT (QM (x :: r) (x :: s) o []) = some (.normal,QM r s (o ++ [x]) []) := by
 have h1 : (0 : Int) < (r.length : Int) + 1 := by omega
 have h2 : (0 : Int) < (s.length : Int) + 1 := by omega
 have h3 : (1 : Int) <= (s.length : Int) + 1 := by omega
 have h4 : (1 : Int) <= (r.length : Int) + 1 := by omega
 have ht : fe s.length (ints s) = ints s := aL (by simp [ints]);have ht2 : fe r.length (ints r) = ints r := aL (by simp [ints]);have hL : o.length + 1 <= 4294967296 := by omega
 have hc : bf aj VI [.int .i64 x,.int .i64 x] [] = some (.int .i64 0,[]) := by rw [vG,Gl,if_neg (by omega),if_neg (by omega)]
 unfold qT QM;simp [x8,x7,xZ,xY,xX,xW,xV,xU,xT,xS,sN,h1,h2,h3,h4,ht,ht2,hL,hc,kR,idx,pj,ae,er,dE,sQ8,iQ8,lQ8]
theorem Wj : ∀ (n : Nat) (a b o : List Int),a.length + b.length = n -> a.length + o.length < 4294967295 -> b.length < 4294967295 -> ∃ a' b',bj aj 0 (.loop qT) (QM a b o []) = some (.exit 0,QM a' b' (o ++ shr a b) [(13,.bool false)]) := by
 intro n
 induction n using qK with
 | ind n ih =>
   intro a b o h ha hb;cases a with
   | nil =>
     refine ⟨[],b,bm ?_⟩;rw [shr,ft];unfold qT QM;simp [x8,x7,xZ,xY,xX,xW,xV,xU,xT,xS,sN,ec]
   | cons x r =>
     simp only [b7] at h ha;have h1 : (0 : Int) < (r.length : Int) + 1 := by omega
     cases b with
     | nil =>
       refine ⟨x :: r,[],bm ?_⟩;rw [shr,ft];unfold qT QM;simp [x8,x7,xZ,xY,xX,xW,xV,xU,xT,xS,sN,h1,ec,pj,ae]
     | cons y s =>
       simp only [b7] at h hb;rw [shr];split
       ·rename_i bz;obtain ⟨a',b',e⟩ := ih (r.length + (s.length + 1)) (by omega) r (y :: s) o (by simp) (by omega) (by simp; omega);exact ⟨a',b',(aR (adP x y r s o (by omega) (by omega) bz)).trans e⟩
       ·split
        ·rename_i h0 bz;obtain ⟨a',b',e⟩ := ih (r.length + 1 + s.length) (by omega) (x :: r) s o (by simp) (by simp; omega) (by omega);exact ⟨a',b',(aR (adQ x y r s o (by omega) (by omega) h0 bz)).trans e⟩
        ·have e0 : y = x := by omega
         subst e0;obtain ⟨a',b',e⟩ := ih (r.length + s.length) (by omega) r s (o ++ [y]) rfl (by simp; omega) (by omega);refine ⟨a',b',(aR (adR y r s o (by omega) (by omega) (by omega))).trans ?_⟩;rw [e,dI];rfl
theorem OB (a b : List Int) (ha : a.length < 4294967295) (hb : b.length < 4294967295) : bf aj PF [.list 1 (ints a),.list 1 (ints b)] [] = some (.list 1 (ints (shr a b)),[]) := by
 rw [aB oQa0 sQa0 (ab rfl)];obtain ⟨a',b',e⟩ := Wj _ a b [] rfl (by simpa using ha) hb;have hl := QJ _ a b rfl;unfold qQa0 cQa0;unfold QM at e;rw [ei,ec] at e;have ht : fe (shr a b).length (ints (shr a b)) = ints (shr a b) := aL (by simp [ints]);simp [x8,x7,xZ,xY,xX,xW,xV,xU,xT,xS,sN,e,ht,ae,aY,aV]
/- Slices that own each other's cells: the rows of triangles.lists, one step of it. -/
theorem ZR {b j k : Nat} (h : k < 1000000) : (kB b j = k) = False := by
 unfold kB xm; exact eq_false (by omega)
theorem Vn {b j k : Nat} (h : k < 1000000) : (k = kB b j) = False := by
 unfold kB xm; exact eq_false (by omega)
theorem Vo {b j i : Nat} : (kB b j = kB b i) = (j = i) := by
 unfold kB xm; exact propext ⟨fun h => by omega,fun h => by omega⟩
theorem KQ {b d j : Nat} (h : b < 1000000) (k : d < 1000000) : vt b (kB d j) = decide (b = d) := by
 unfold vt kB xm;by_cases e : b = d
 ·subst e;have h1 : 1000000 <= b + (j + 1) * 1000000 := by omega
  have h2 : b <= b + (j + 1) * 1000000 := by omega
  simp only [h1,h2,decide_true,Bool.true_and,Nat.add_sub_cancel_left,Nat.mul_mod_left]
 ·have : ¬ (d + (j + 1) * 1000000 - b) % 1000000 = 0 := by omega
  simp only [this,e,decide_false,Bool.and_false]
def NZ (C : List AV) : Prop := ∀ c ∈ C,(∃ xs,c = .own 1 xs) \/ c = .any
theorem Gv : ∀ {C : List AV},NZ C -> cY C = []
 | [],_ => rfl
 | c :: r,h => by
   simp only [cY,Gv (fun x hx => h x (fx _ hx)),ft];rcases h c (by simp) with ⟨xs,rfl⟩ | rfl <;> rfl
theorem vJ {g : AV -> AV} : ∀ {C : List AV},NZ C -> cV g C = C
 | [],_ => rfl
 | c :: r,h => by
   simp only [cV,vJ (fun x hx => h x (fx _ hx))];rcases h c (by simp) with ⟨xs,rfl⟩ | rfl <;> rfl
theorem vI {b : Nat} : ∀ {C : List AV},NZ C -> jO b C = true
 | [],_ => rfl
 | c :: r,h => by
   simp only [jO,vI (fun x hx => h x (fx _ hx)),Bool.and_true];rcases h c (by simp) with ⟨xs,rfl⟩ | rfl <;> rfl
theorem Gu {C : List AV} (h : NZ C) (u : Nat) {x : AV} (hx : (∃ xs,x = .own 1 xs) \/ x = .any) : NZ (C.set u x) := by
 intro c hc;rcases bP hc with e | e
 ·exact h c e
 ·subst e; exact hx
theorem Dr {b : Nat} : ∀ {C : List AV} {j u k : Nat} {xs : List AV},C[u]? = some (.own k xs) -> (dZ (.c b) j C)[u]? = some (.c8 k (.c b (j + u)) 0 xs.length)
 | [],j,u,k,xs,h => by simp at h
 | c :: r,j,0,k,xs,h => by simp at h; subst h; simp [dZ]
 | c :: r,j,u + 1,k,xs,h => by
   have := Dr (b := b) (C := r) (j := j + 1) (u := u) (by simpa using h);rw [show j + 1 + u = j + (u + 1) by omega] at this;cases c <;> simpa [dZ] using this
theorem SH {C : List AV} {u : Nat} {x : AV} (h : u < C.length) : jK C u [x] = C.set u x := by
 unfold jK;rw [List.set_eq_take_append_cons_drop,if_pos h];simp
theorem SE {C : List AV} {u : Nat} {x : AV} (h : C[u]? = some x) (n : ∀ k xs,x ≠ .own k xs) : bI ((C.drop u).take 1) = false := by
 have : (C.drop u).take 1 = [x] := by
  have hl : u < C.length := aq h;rw [aP hl];rw [af hl] at h;simp at h;simp [h]
 rw [this];cases x <;> first | rfl | exact absurd rfl (n _ _)
theorem La {p : Rt} {b : Nat} : ∀ {C : List AV} {j u k o l : Nat},C[u]? = some (.c8 k p o l) -> (∀ (i : Nat) (c : AV),C[i]? = some c -> i ≠ u -> p ∉ aK c) -> BC p (.c b) j C = some (.c b (j + u))
 | [],j,u,k,o,l,h,_ => by simp at h
 | c :: r,j,0,k,o,l,h,_ => by simp at h; subst h; simp [BC,CR]
 | c :: r,j,u + 1,k,o,l,h,hn => by
   have ih := La (p := p) (b := b) (C := r) (j := j + 1) (u := u) (by simpa using h) fun i c hc hi => hn (i + 1) c (by simpa using hc) (by omega)
   have hb : CR p (.c b j) c = none := by
    have := hn 0 c rfl (by omega);cases c <;> simp only [CR]
    rename_i k' q o' l';simp only [aK,cq] at this;rw [if_neg fun e => this e.symm]
   simp only [BC,hb];rw [ih,show j + 1 + u = j + (u + 1) by omega]
theorem jY {C : List AV} {u v : Nat} {x y : AV} (h : C[v]? = some y) (n : u ≠ v) : (C.set u x)[v]? = some y := by
 rw [c9 n]; exact h
theorem jZ {C : List AV} {u : Nat} {x y : AV} (h : C[u]? = some y) : (C.set u x)[u]? = some x := by
 rw [ua (aq h)]
theorem K9 {p : Rt} {f : Nat -> Rt} : ∀ {C : List AV} {j : Nat},p ∉ cY C -> BC p f j C = none
 | [],_,_ => rfl
 | c :: r,j,h => by
   simp only [cY,aD,not_or] at h
   have hb : CR p (f j) c = none := by
    have := h.1;cases c <;> simp only [CR]
    rename_i k' q o' l';simp only [aK,cq] at this;rw [if_neg fun e => this e.symm]
   simp only [BC,hb,K9 h.2]
theorem agC (C : List AV) (N u v : Nat) (Ru Rv : List Int) (Es : List Ed) (n i : Int) (hu : C[u]? = some (.own 1 (ints Ru))) (hv : C[v]? = some (.own 1 (ints Rv))) (CE : u ≠ v) (hq : NZ C) (hN : C.length = N) (hRu : Ru.length < 4294967295) (hRv : Rv.length < 4294967295) :
  bj aj 0 (.aH Cr true [(26,26),(27,27),(0,2),(2,3),(2,4),(0,5),(1,5),(2,5),(3,5),(2,6),(5,6),(2,7),(5,7),(0,8),(1,8),(2,8),(3,8),(4,8),(5,8),(6,8),(2,9),(5,9),(0,10),(1,10),(2,10),(3,10),(4,10),(5,10),(2,11),(5,11),(8,11),(10,11),(0,12),(1,12),(2,12),(3,12),(4,12),(5,12),(6,12),(7,12),(8,12),(9,12),(10,12),(0,13),(1,13),(2,13),(3,13),(4,13),(5,13),(6,13),(7,13),(8,13),(9,13),(10,13),(0,14),(1,14),(2,14),(3,14),(4,14),(5,14),(2,15),(5,15),(8,15),(10,15),(12,15),(13,15),(14,15),(2,16),(5,16),(8,16),(10,16),(12,16),(13,16),(14,16),(0,17),(1,17),(2,17),(3,17),(4,17),(5,17),(6,17),(7,17),(8,17),(9,17),(10,17),(11,17),(12,17),(13,17),(14,17),(15,17),(2,18),(5,18),(8,18),(10,18),(12,18),(13,18),(14,18),(0,19),(1,19),(2,19),(3,19),(4,19),(5,19),(6,19),(7,19),(8,19),(9,19),(10,19),(11,19),(12,19),(13,19),(14,19),(2,20),(5,20),(8,20),(10,20),(12,20),(13,20),(14,20),(17,20),(19,20),(0,21),(1,21),(2,21),(3,21),(4,21),(5,21),(6,21),(7,21),(8,21),(9,21),(10,21),(11,21),(12,21),(13,21),(14,21),(15,21),(16,21),(17,21),(18,21),(19,21),(0,22),(1,22),(2,22),(3,22),(4,22),(5,22),(6,22),(7,22),(8,22),(9,22),(10,22),(11,22),(12,22),(13,22),(14,22),(15,22),(16,22),(17,22),(18,22),(19,22),(0,23),(1,23),(2,23),(3,23),(4,23),(5,23),(5,24),(3,25),(4,25),(5,25)] [3,12,13,14]) ⟨[(3,.sl 1 1 0 N),(5,.ptr 2 0),(12,.list 2 (bc Es)),(13,.int .i64 n),(14,.int .i64 i)],[some [.int .i64 N,.list 2 (bc Es)],some C,some [.int .i64 u,.int .i64 v]]⟩
   = some (.normal,⟨[(3,.sl 1 1 0 N),(12,.list 2 (bc Es)),(13,.int .i64 n),(14,.int .i64 i)],[some [.int .i64 N,.list 2 (bc Es)],some ((C.set u (.own 1 (ints (Ru ++ [(v : Int)])))).set v (.own 1 (ints (Rv ++ [(u : Int)]))))]⟩) := by
 have lu : u < C.length := aq hu;have lv : v < C.length := aq hv;have k1 : (u : Int) < N := by omega
 have k2 : (v : Int) < N := by omega
 have hvu : v ≠ u := fun e => CE e.symm;have r1 : (dZ (.c 1) 0 C)[u]? = some (.c8 1 (.c 1 u) 0 Ru.length) := by have := Dr (b := 1) (j := 0) hu; rwa [dL,ae] at this
 have m1 : cV (sw (.c 1 u)) C = C := vJ hq;have n1 := Gv hq;have hq1 : NZ (C.set u .any) := Gu hq u (.inr rfl);have hv1 : (C.set u .any)[v]? = some (.own 1 (ints Rv)) := jY hv CE;have r2 : (dZ (.c 1) 0 (C.set u .any))[v]? = some (.c8 1 (.c 1 v) 0 Rv.length) := by have := Dr (b := 1) (j := 0) hv1; rwa [dL,ae] at this
 have m2 : cV (sw (.c 1 v)) (C.set u .any) = C.set u .any := vJ hq1;have n2 := Gv hq1;have l1 : Ru.length + 1 <= 4294967296 := by omega
 have l2 : Rv.length + 1 <= 4294967296 := by omega
 have YP : ((C.set u .any).set v .any)[u]? = some .any := jY (jZ hu) hvu;have o1 := SE YP (by intro k xs e; cases e)
 have w1 : ∀ x,fe u ((C.set u .any).set v .any) ++ x :: List.drop (u + 1) ((C.set u .any).set v .any) = ((C.set u x).set v .any) := fun x => by
  have := SH (C := (C.set u .any).set v .any) (u := u) (x := x) (by simpa using lu);simp only [jK,xq,dI,xp] at this;rw [this,List.set_comm _ _ hvu,wQ]
 have hv2 : ∀ x,((C.set u x).set v .any)[v]? = some .any := fun x => jZ (jY hv CE);have o2 := fun x => SE (hv2 x) (by intro k xs e; cases e)
 have w2 : ∀ x y,fe v ((C.set u x).set v .any) ++ y :: List.drop (v + 1) ((C.set u x).set v .any) = ((C.set u x).set v y) := fun x y => by
  have := SH (C := (C.set u x).set v .any) (u := v) (x := y) (by simpa using lv);simp only [jK,xq,dI,xp] at this;rw [this,wQ]
 have q1 : u + 1 <= C.length := lu;have q2 : v + 1 <= C.length := lv
 have bC : ∀ (p : Rt),cY C = [] -> ∀ (i : Nat) (c : AV),C[i]? = some c -> p ∉ aK c := fun p hb i c hc hm => by
  have := fu.2 ⟨c,aW hc,hm⟩;rw [hb] at this; cases this
 have g1 : BC (.s 32) (.c 1) 0 ((C.set u (.c8 1 (.s 32) 0 (Ru.length + 1))).set v (.c8 1 (.s 41) 0 (Rv.length + 1))) = some (.c 1 u) := by
  have := La (p := .s 32) (b := 1) (C := (C.set u (.c8 1 (.s 32) 0 (Ru.length + 1))).set v (.c8 1 (.s 41) 0 (Rv.length + 1))) (j := 0) (u := u) (k := 1) (o := 0) (l := Ru.length + 1) (jY (jZ hu) hvu) fun i c hc hi => by
   by_cases e : i = v
   ·subst e;rw [jZ (jY hv CE)] at hc;cases hc;simp [aK]
   ·rw [c9 (oV e),c9 (oV hi)] at hc;exact bC _ n1 i c hc
  rw [this,dL]
 have a1 : ((C.set u (.c8 1 (.s 32) 0 (Ru.length + 1))).set v (.c8 1 (.s 41) 0 (Rv.length + 1)))[u]? = some (.c8 1 (.s 32) 0 (Ru.length + 1)) := jY (jZ hu) hvu
 have mset : ∀ (g : AV -> AV) (D : List AV) (i : Nat) (x : AV),cV g (D.set i x) = (cV g D).set i (cn g x) := fun g D => by
  induction D with
  | nil => intro i x; rfl
  | cons d r ih => intro i x; cases i <;> simp [cV,ih]
 have p1 : ∀ Y,(cV (rt (.s 32) (.c 1 u) (Ru.length + 1)) ((C.set u (.c8 1 (.s 32) 0 (Ru.length + 1))).set v (.c8 1 (.s 41) 0 (Rv.length + 1)))).set u Y = (C.set u Y).set v (.c8 1 (.s 41) 0 (Rv.length + 1)) := fun Y => by
  rw [mset,mset,vJ hq,List.set_comm _ _ hvu,wQ];simp [cn,rt]
 have g2 : BC (.s 41) (.c 1) 0 ((C.set u (.own 1 (ints (Ru ++ [(v : Int)])))).set v (.c8 1 (.s 41) 0 (Rv.length + 1))) = some (.c 1 v) := by
  have := La (p := .s 41) (b := 1) (C := (C.set u (.own 1 (ints (Ru ++ [(v : Int)])))).set v (.c8 1 (.s 41) 0 (Rv.length + 1))) (j := 0) (u := v) (k := 1) (o := 0) (l := Rv.length + 1) (jZ (jY hv CE)) fun i c hc hi => by
   rw [c9 (oV hi)] at hc;by_cases e : i = u
   ·subst e;rw [jZ hu] at hc;cases hc;simp [aK]
   ·rw [c9 (oV e)] at hc;exact bC _ n1 i c hc
  rw [this,dL]
 have a2 : ((C.set u (.own 1 (ints (Ru ++ [(v : Int)])))).set v (.c8 1 (.s 41) 0 (Rv.length + 1)))[v]? = some (.c8 1 (.s 41) 0 (Rv.length + 1)) := jZ (jY hv CE)
 have p2 : ∀ Y,(cV (rt (.s 41) (.c 1 v) (Rv.length + 1)) ((C.set u (.own 1 (ints (Ru ++ [(v : Int)])))).set v (.c8 1 (.s 41) 0 (Rv.length + 1)))).set v Y = (C.set u (.own 1 (ints (Ru ++ [(v : Int)])))).set v Y := fun Y => by
  rw [mset,mset,vJ hq,wQ];simp [cn]
 have z1 : fe (Ru.length + 1) (ints (Ru ++ [(v : Int)])) = ints (Ru ++ [(v : Int)]) := aL (by simp [ints]);have z2 : fe (Rv.length + 1) (ints (Rv ++ [(u : Int)])) = ints (Rv ++ [(u : Int)]) := aL (by simp [ints]);have y1 : jO 2 ((C.set u (.own 1 (ints (Ru ++ [(v : Int)])))).set v (.own 1 (ints (Rv ++ [(u : Int)])))) = true := vI (Gu (Gu hq u (.inl ⟨_,rfl⟩)) v (.inl ⟨_,rfl⟩))
 have nb4 : ∀ p,p ≠ .s 32 -> p ≠ .s 41 -> p ∉ cY ((C.set u (.c8 1 (.s 32) 0 (Ru.length + 1))).set v (.c8 1 (.s 41) 0 (Rv.length + 1))) := fun p h1 h2 hm => by
  obtain ⟨c,hc,hp⟩ := fu.1 hm;rcases bP hc with e | e
  ·rcases bP e with e | e
   ·have := fu.2 ⟨c,e,hp⟩; rw [n1] at this; cases this
   ·subst e; simp [aK] at hp; exact h1 hp
  ·subst e; simp [aK] at hp; exact h2 hp
 have nb5 : ∀ p,p ≠ .s 41 -> p ∉ cY ((C.set u (.own 1 (ints (Ru ++ [(v : Int)])))).set v (.c8 1 (.s 41) 0 (Rv.length + 1))) := fun p h2 hm => by
  obtain ⟨c,hc,hp⟩ := fu.1 hm;rcases bP hc with e | e
  ·rcases bP e with e | e
   ·have := fu.2 ⟨c,e,hp⟩; rw [n1] at this; cases this
   ·subst e; simp [aK] at hp
  ·subst e; simp [aK] at hp; exact h2 hp
 have f31 : BC (.s 31) (.c 1) 0 _ = none := K9 (nb4 (.s 31) (by decide) (by decide));have s31 := Dh (nb4 (.s 31) (by decide) (by decide));have f40 : BC (.s 40) (.c 1) 0 _ = none := K9 (nb5 (.s 40) (by decide));have s40 := Dh (nb5 (.s 40) (by decide));have c21 : vt 2 1 = false := by decide
 generalize bc Es = Z at *;unfold Cr;simp [Im,Il,Ik,Cu,Ct,Cr,Cq,Ij,Ii,Ih,AW,AU,AR,ZR,Vn,Vo,KQ,k1,k2,hu,hv,CE,hvu,r1,m1,n1,hv1,r2,m2,n2,l1,l2,o1,o2,w1,w2,q1,q2,g1,a1,p1,g2,a2,p2,z1,z2,y1,f31,s31,f40,s40,c21,kR,idx,aJ,ae,er,dE,FU,-kB,-xm,-vt]
/- What triangles.lists returns: the neighbours of each node, ascending. -/
def KI (o : List (List Int)) : List AV := o.map fun S => .list 1 (ints S)
theorem abg (o : List (List Int)) (i : Nat) : (KI o)[i]? = (o[i]?).map fun S => .list 1 (ints S) := cU
theorem PH (o : List (List Int)) : (KI o).length = o.length := iM _
def rws (R : List (List Int)) : List AV := R.map fun r => .own 1 (ints r)
theorem JM (R : List (List Int)) (i : Nat) : (rws R)[i]? = (R[i]?).map fun S => .own 1 (ints S) := cU
theorem DT (R : List (List Int)) : (rws R).length = R.length := iM _
theorem JL (R : List (List Int)) (i : Nat) (S : List Int) : (rws R).set i (.own 1 (ints S)) = rws (R.set i S) := by simp [rws,TU]
theorem yM (R : List (List Int)) : NZ (rws R) := fun c hc => by
 obtain ⟨r,_,rfl⟩ := wR.1 hc;exact .inl ⟨_,rfl⟩
theorem QP : ∀ R : List (List Int),CN (rws R) = some (KI R)
 | [] => rfl
 | r :: R => by
   have := QP R;simp only [rws,KI,dN,CN,Va] at this ⊢;rw [this]
theorem Wv (N : Nat) : rep [.own 1 []] N = rws (aM N []) := by
 induction N with
 | zero => rfl
 | succ n ih => rw [rep,ih]; rfl
def Dp (R : List (List Int)) (e : Ed) : List (List Int) := (R.set e.1.toNat (R.getD e.1.toNat [] ++ [e.2])).set e.2.toNat (R.getD e.2.toNat [] ++ [e.1])
theorem yk (R : List (List Int)) (e : Ed) : (Dp R e).length = R.length := by simp [Dp]
def wV (N : Nat) (Es : List Ed) (R : List (List Int)) (i : Nat) (J : Env) : St := ⟨(3,.sl 1 1 0 N) :: (12,.list 2 (bc Es)) :: (13,.int .i64 Es.length) :: (14,.int .i64 i) :: J,[some [.int .i64 N,.list 2 (bc Es)],some (rws R)]⟩
theorem Yv (N : Nat) (Es : List Ed) (hE : Es.length < 4294967295) (R : List (List Int)) (hR : R.length = N) (i : Nat) (hi : i < Es.length) (h : 0 <= Es[i].1 /\ Es[i].1 < Es[i].2 /\ Es[i].2 < (N : Int)) (hl : ∀ r ∈ R,r.length < 4294967295) :
  bj aj 0 M8 (wV N Es R i []) = some (.normal,wV N Es (Dp R Es[i]) (i + 1) []) := by
 obtain ⟨u,hu⟩ : ∃ u : Nat,Es[i].1 = u := ⟨Es[i].1.toNat,by omega⟩;obtain ⟨v,hv⟩ : ∃ v : Nat,Es[i].2 = v := ⟨Es[i].2.toNat,by omega⟩;have lu : u < R.length := by omega
 have lv : v < R.length := by omega
 have k1 : (i : Int) < Es.length := by omega
 have hw := dw (i := i) (by omega);have g3 : (bc Es)[i]? = some (.agg [.int .i64 u,.int .i64 v]) := by rw [aO,af hi]; simp [cB,hu,hv]
 have g4 : ∀ h,(bc Es)[i]'h = .agg [.int .i64 u,.int .i64 v] := fun h => by
  have := af (l := bc Es) h;rw [g3] at this;exact (bU this).symm
 have g5 := au Es;have e1 : (rws R)[u]? = some (.own 1 (ints R[u])) := by rw [JM,af lu]; rfl
 have e2 : (rws R)[v]? = some (.own 1 (ints R[v])) := by rw [JM,af lv]; rfl
 have x5 := agC (rws R) N u v R[u] R[v] Es Es.length i e1 e2 (by omega) (yM R) (by rw [DT]; exact hR) (hl _ (cG lu)) (hl _ (cG lv))
 have e3 : ((rws R).set u (.own 1 (ints (R[u] ++ [(v : Int)])))).set v (.own 1 (ints (R[v] ++ [(u : Int)]))) = rws (Dp R Es[i]) := by
  rw [JL,JL];unfold Dp;rw [hu,hv];simp [bk,af lu,af lv]
 rw [e3] at x5;generalize Dp R Es[i] = R2 at *
 have x3 : bj aj 0 (.aH Cu false [] [3,12,13,14,15]) (wV N Es R i []) = some (.normal,wV N Es R i [(15,.bool true)]) := by
  unfold wV;generalize rws R = C;generalize bc Es = Z at *;unfold Cu;simp [k1]
 have xc : bj aj 0 (.cond (.t 15) .skip (.exit 0)) (wV N Es R i [(15,.bool true)]) = some (.normal,wV N Es R i [(15,.bool true)]) := by
  unfold wV;generalize rws R = C;generalize bc Es = Z at *;simp
 have x4 : bj aj 0 (.aH Ct false [] [3,5,12,13,14]) (wV N Es R i [(15,.bool true)]) = some (.normal,⟨[(3,.sl 1 1 0 N),(5,.ptr 2 0),(12,.list 2 (bc Es)),(13,.int .i64 Es.length),(14,.int .i64 i)],[some [.int .i64 N,.list 2 (bc Es)],some (rws R),some [.int .i64 u,.int .i64 v]]⟩) := by
  unfold wV;generalize rws R = C at *;generalize bc Es = Z at *;unfold Ct;simp [k1,g3,g4,g5,hi,idx,aJ]
 have x6 : bj aj 0 (.aH Cq false [] [3,12,13,14]) ⟨[(3,.sl 1 1 0 N),(12,.list 2 (bc Es)),(13,.int .i64 Es.length),(14,.int .i64 i)],[some [.int .i64 N,.list 2 (bc Es)],some (rws R2)]⟩ = some (.normal,wV N Es R2 (i + 1) []) := by
  unfold wV;have hp : jO 1 (rws R2) = true := vI (yM R2);generalize rws R2 = C at *;generalize bc Es = Z at *;unfold Cq;simp [hw]
 unfold M8;rw [kh,x3,oX,kh,xc,oX,kh,Jj,kh,x4,oX,x5,Z2,oX,x6]
theorem Yq {R : List (List Int)} {e : Ed} {n : Nat} (h : ∀ r ∈ R,r.length <= n) : ∀ r ∈ Dp R e,r.length <= n + 1 := by
 have gd : ∀ k,(R.getD k []).length <= n := fun k => by
  rw [bk];cases hk : R[k]? with
  | none => simp
  | some r => exact h r (aW hk)
 intro r hr;unfold Dp at hr;rcases bP hr with e1 | e1
 ·rcases bP e1 with e2 | e2
  ·have := h r e2; omega
  ·subst e2; have := gd e.1.toNat; simp; exact this
 ·subst e1; have := gd e.2.toNat; simp; exact this
theorem S7 (N : Nat) (Es : List Ed) (hE : Es.length < 4294967295) (hG : ∀ e ∈ Es,0 <= e.1 /\ e.1 < e.2 /\ e.2 < (N : Int)) : ∀ (k i : Nat) (R : List (List Int)),i + k = Es.length -> R.length = N -> (∀ r ∈ R,r.length <= i) -> bj aj 0 (.loop M8) (wV N Es R i []) = some (.exit 0,wV N Es ((Es.drop i).foldl Dp R) Es.length [(15,.bool false)])
 | 0,i,R,hi,hR,hl => by
   obtain rfl : i = Es.length := by omega
   rw [cz,yI];refine bm ?_;unfold wV;generalize rws R = C at *;generalize bc Es = Z at *;unfold M8;simp [Im,Il,Ik,Cu,Ct,Cr,Cq,Ij,Ii,Ih,AW,AU,AR]
 | k + 1,i,R,hi,hR,hl => by
   have bz : i < Es.length := by omega
   rw [aP bz,dF];have ih := S7 N Es hE hG k (i + 1) (Dp R Es[i]) (by omega) (by rw [yk]; exact hR) (Yq hl);exact (aR (Yv N Es hE R hR i bz (hG _ (cG bz)) fun r hr => by have := hl r hr; omega)).trans ih
theorem LK (l : List Int) (h : l.length <= 4294967296) : Ud 1 (ints l) [] = some (ints (fi l),none) := by
 unfold Ud;rw [if_pos (by rw [ae]; exact h),ints,CD];rfl
def PG (N : Nat) (Es : List Ed) (R : List (List Int)) (i : Nat) (J : Env) : St := ⟨(3,.sl 1 1 0 N) :: (45,.sl 1 1 0 N) :: (46,.int .i64 N) :: (47,.int .i64 i) :: J,[some [.int .i64 N,.list 2 (bc Es)],some (rws R)]⟩
theorem Yp (N : Nat) (Es : List Ed) (R : List (List Int)) (hR : R.length = N) (i : Nat) (hi : i < R.length) (hN : N < 4294967295) (hl : R[i].length <= 4294967296) :
  bj aj 0 M7 (PG N Es R i []) = some (.normal,PG N Es (R.set i (fi R[i])) (i + 1) []) := by
 have k1 : (i : Int) < N := by omega
 have hw := dw (i := i) (by omega);have e1 : (rws R)[i]? = some (.own 1 (ints R[i])) := by rw [JM,af hi]; rfl
 have l1 : (dZ (.c 1) 0 (rws R))[i]? = some (.c8 1 (.c 1 i) 0 R[i].length) := by have := Dr (b := 1) (j := 0) e1; rwa [dL,ae] at this
 have so := LK R[i] hl;have d1 : List.drop R[i].length (ints R[i]) = [] := N0 (by rw [ae]; omega);have d2 : fe R[i].length (ints R[i]) = ints R[i] := aL (by rw [ae]; omega);have st : (rws R).set i (.own 1 (ints (fi R[i]))) = rws (R.set i (fi R[i])) := JL ..;have hp : jO 1 (rws (R.set i (fi R[i]))) = true := vI (yM _);unfold PG M7;generalize rws (R.set i (fi R[i])) = C2 at *;generalize rws R = C at *;generalize bc Es = Z at *;generalize R[i] = r at *;simp [Im,Il,Ik,Cu,Ct,Cr,Cq,Ij,Ii,Ih,AW,AU,AR,k1,hw,e1,l1,so,d1,d2,st,hp,idx,aJ,ae,iQS,lQS]
theorem S5 (N : Nat) (Es : List Ed) (hN : N < 4294967295) : ∀ (k i : Nat) (R : List (List Int)),i + k = N -> R.length = N -> (∀ r ∈ R,r.length <= 4294967296) -> bj aj 0 (.loop M7) (PG N Es R i []) = some (.exit 2,PG N Es (R.take i ++ (R.drop i).map fi) N [(48,.bool false)])
 | 0,i,R,hi,hR,hl => by
   obtain rfl : i = N := by omega
   rw [aL (by omega),N0 (by omega),DB,ft];refine bm ?_;unfold PG M7;generalize rws R = C at *;generalize bc Es = Z at *;simp [Im,Il,Ik,Cu,Ct,Cr,Cq,Ij,Ii,Ih,AW,AU,AR]
 | k + 1,i,R,hi,hR,hl => by
   have bz : i < R.length := by omega
   have ih := S5 N Es hN k (i + 1) (R.set i (fi R[i])) (by omega) (by simpa using hR) (fun r hr => by
    rcases bP hr with e | e
    ·exact hl r e
    ·subst e; rw [pc]; exact hl _ (cG bz))
   have e : (R.set i (fi R[i])).take (i + 1) ++ ((R.set i (fi R[i])).drop (i + 1)).map fi = R.take i ++ (R.drop i).map fi := by
    rw [aP bz,dN,List.take_succ_eq_append_getElem (by simpa using bz),List.drop_set_of_lt (by omega),List.take_set_of_le (Nat.le_refl _)];simp
   rw [e] at ih;exact (aR (Yp N Es R hR i bz hN (hl _ (cG bz)))).trans ih
def qR (N : Nat) (Es : List Ed) : List (List Int) := (Es.foldl Dp (aM N [])).map fi
theorem Bv (Es : List Ed) : ∀ R : List (List Int),(Es.foldl Dp R).length = R.length := by
 induction Es with
 | nil => intro R; rfl
 | cons e r ih => intro R; rw [dF,ih,yk]
theorem Zs (Es : List Ed) : ∀ (R : List (List Int)) (n : Nat),(∀ r ∈ R,r.length <= n) -> ∀ r ∈ Es.foldl Dp R,r.length <= n + Es.length := by
 induction Es with
 | nil => intro R n h; simpa using h
 | cons e r ih =>
   intro R n h x hx;rw [dF] at hx;have := ih (Dp R e) (n + 1) (Yq h) x hx;simp; omega
theorem UJ (N : Nat) (Es : List Ed) (hN : N <= 64) (hE : Es.length < 4294967295) (hG : ∀ e ∈ Es,0 <= e.1 /\ e.1 < e.2 /\ e.2 < (N : Int)) : bf aj nQ9 [.agg [.int .i64 N,.list 2 (bc Es)]] [] = some (.list 1 (KI (qR N Es)),[]) := by
 have C4 : ∀ r ∈ aM N ([] : List Int),r.length <= 0 := fun r hr => by rw [mL hr]; simp
 have e1 := S7 N Es hE hG Es.length 0 (aM N []) (by omega) (by simp) C4;rw [b9] at e1;have bd := Zs Es _ 0 C4;have ln := Bv Es (aM N []);rw [dT] at ln;have e2 := S5 N Es (by omega) N 0 (Es.foldl Dp (aM N [])) (by omega) ln (fun r hr => by have := bd r hr; omega);rw [List.take_zero,ei,b9] at e2;have fz := QP ((Es.foldl Dp (aM N [])).map fi);have fl : (rws ((Es.foldl Dp (aM N [])).map fi)).length = N := by rw [DT,iM,ln]
 have hr : qR N Es = (Es.foldl Dp (aM N [])).map fi := rfl;rw [aB oQ9 sQ9 (ab rfl)];have h0 : N <= 4294967296 := by omega
 have h0i : (N : Int) <= 4294967296 := by omega
 have z0 := Wv N;have tk : ∀ C : List AV,C.length = N -> fe N C = C := fun C h => aL (by omega);rw [<- hr] at e2 fz fl;have t1 := tk _ fl;unfold wV at e1;unfold PG at e2;rw [iB] at e1 e2;generalize qR N Es = Rz at *;generalize Es.foldl Dp (aM N []) = Ry at *;have p1 : jO 1 (rws (aM N [])) = true := vI (yM _);generalize rws (aM N []) = C0 at *;generalize rws Ry = C1 at *;generalize rws Rz = C2 at *;have g5 := au Es;generalize bc Es = Z at *;unfold qQ9 cQ9;simp [Im,Il,Ik,Cu,Ct,Cr,Cq,Ij,Ii,Ih,AW,AU,AR,e1,e2,h0,h0i,kR,z0,fz,fl,t1,g5,aJ,aY,aV]
/- The neighbours that triangles.lists computes: plain law. -/
def nbF (u : Int) (e : Ed) : Option Int := if e.1 = u then some e.2 else if e.2 = u then some e.1 else none
theorem abe {R : List (List Int)} {e : Ed} {u : Nat} (hu : u < R.length) (h0 : 0 <= e.1) (h1 : e.1 < e.2) : (Dp R e).getD u [] = R.getD u [] ++ (nbF u e).toList := by
 unfold Dp nbF;simp only [bk];by_cases k1 : e.1 = (u : Int)
 ·have k2 : ¬ e.2 = (u : Int) := by omega
  rw [if_pos k1,c9 (by omega),show e.1.toNat = u by omega,ua hu];rfl
 ·rw [if_neg k1];by_cases k2 : e.2 = (u : Int)
  ·rw [if_pos k2,show e.2.toNat = u by omega,ua (by simpa using hu)];rfl
  ·rw [if_neg k2,c9 (by omega),c9 (by omega)];simp
theorem I5 {N : Nat} {u : Nat} (hu : u < N) : ∀ (Es : List Ed) (R : List (List Int)),R.length = N -> (∀ e ∈ Es,0 <= e.1 /\ e.1 < e.2) -> (Es.foldl Dp R).getD u [] = R.getD u [] ++ Es.filterMap (nbF u)
 | [],R,_,_ => by simp
 | e :: r,R,hR,h => by
   have he := h e (by simp);rw [dF,I5 hu r (Dp R e) (by rw [yk]; exact hR) (fun x hx => h x (by simp [hx])),abe (by omega) he.1 he.2,List.filterMap_cons,dI];congr 1;cases nbF u e <;> simp
def ph (N : Nat) (Es : List Ed) (u : Int) : List Int := (qR N Es).getD u.toNat []
theorem Cy (N : Nat) (Es : List Ed) : (qR N Es).length = N := by rw [qR,iM,Bv,dT]
theorem Yd {N : Nat} {Es : List Ed} {u : Nat} (hu : u < N) (h : ∀ e ∈ Es,0 <= e.1 /\ e.1 < e.2) : ph N Es u = fi (Es.filterMap (nbF u)) := by
 have := I5 hu Es (aM N []) (by simp) h;have e0 : (aM N ([] : List Int)).getD u [] = [] := by rw [bk,List.getElem?_replicate,if_pos hu]; rfl
 rw [e0,ei] at this;unfold ph qR;have hl : u < (Es.foldl Dp (aM N [])).length := by rw [Bv,dT]; exact hu
 rw [show ((u : Int)).toNat = u by omega,bk,cU];rw [bk] at this;rw [af hl] at this ⊢;simp at this ⊢;rw [this]
theorem vi {u x : Int} {e : Ed} : nbF u e = some x ↔ (e.1 = u /\ e.2 = x) \/ (e.1 ≠ u /\ e.2 = u /\ e.1 = x) := by
 unfold nbF;split
 ·rename_i h; simp [h]
 ·rename_i h;split
  ·rename_i h2; simp [h,h2]
  ·rename_i h2; simp [h,h2]
theorem o9 {N : Nat} {Es : List Ed} (hG : kC (N : Int) Es) {u : Int} (h0 : 0 <= u) (h1 : u < N) (x : Int) : x ∈ ph N Es u ↔ jn Es u x := by
 obtain ⟨w,rfl⟩ : ∃ w : Nat,u = w := ⟨u.toNat,by omega⟩;rw [Yd (by omega) fun e he => ⟨(hG.2.2 e he).1,(hG.2.2 e he).2.1⟩,(kW _).mem_iff,List.mem_filterMap];unfold jn;constructor
 ·rintro ⟨e,he,h⟩;rcases vi.1 h with ⟨a,b⟩ | ⟨a,b,c⟩
  ·left; rw [<- a,<- b]; exact he
  ·right; rw [<- b,<- c]; exact he
 ·rintro (h | h)
  ·exact ⟨_,h,vi.2 (.inl ⟨rfl,rfl⟩)⟩
  ·have := (hG.2.2 _ h).2.1;exact ⟨_,h,vi.2 (.inr ⟨by simp only at this ⊢; omega,rfl,rfl⟩)⟩
theorem vh {N : Nat} {Es : List Ed} (hG : kC (N : Int) Es) {u : Int} (h0 : 0 <= u) (h1 : u < N) : Up (ph N Es u) := by
 obtain ⟨w,rfl⟩ : ∃ w : Nat,u = w := ⟨u.toNat,by omega⟩;rw [Yd (by omega) fun e he => ⟨(hG.2.2 e he).1,(hG.2.2 e he).2.1⟩]
 have nd : (Es.filterMap (nbF w)).Nodup := by
  have hp : Es.Pairwise (fun a b => yj a b /\ (a.1 < a.2 /\ b.1 < b.2)) := by
   refine List.Pairwise.imp_of_mem (fun {a b} ha hb h => ⟨h,(hG.2.2 a ha).2.1,(hG.2.2 b hb).2.1⟩) hG.2.1
  refine List.Pairwise.filterMap _ (fun a b h x hx y hy e => ?_) hp;subst e;obtain ⟨h1,h2,h3⟩ := h
  have : a = b := by
   rcases vi.1 hx with ⟨p,q⟩ | ⟨p,q,r⟩ <;> rcases vi.1 hy with ⟨p',q'⟩ | ⟨p',q',r'⟩
   ·exact Prod.ext (by omega) (by omega)
   ·exfalso; omega
   ·exfalso; omega
   ·exact Prod.ext (by omega) (by omega)
  subst this;exact KG h1
 have nd2 : (fi (Es.filterMap (nbF w))).Nodup := (kW _).nodup_iff.2 nd;refine List.Pairwise.imp₂ (fun {a b} h1 h2 => ?_) (rR _) nd2;omega
theorem zQ {N : Nat} {Es : List Ed} (hG : kC (N : Int) Es) {u x : Int} (h : jn Es u x) : (0 <= u /\ u < N) /\ (0 <= x /\ x < N) /\ u ≠ x := by
 rcases h with h | h <;> (have := hG.2.2 _ h; simp only at this; omega)
theorem VT {N : Nat} : ∀ {l : List Int} {a : Nat},Up l -> (∀ x ∈ l,(a : Int) <= x /\ x < N) -> l.length <= N - a
 | [],a,_,_ => by simp
 | x :: r,a,hu,h => by
   obtain ⟨h1,h2⟩ := br.1 hu;have hx := h x (by simp);have ih := VT (l := r) (a := a + 1) h2 fun y hy => ⟨by have := h1 y hy; omega,(h y (by simp [hy])).2⟩;simp only [b7];omega
theorem qA {N : Nat} {Es : List Ed} (hG : kC (N : Int) Es) {u : Int} (h0 : 0 <= u) (h1 : u < N) : (ph N Es u).length <= N := by
 have := VT (a := 0) (N := N) (vh hG h0 h1) fun x hx => ⟨by have := (zQ hG ((o9 hG h0 h1 x).1 hx)).2.1; omega,(zQ hG ((o9 hG h0 h1 x).1 hx)).2.1.2⟩;omega
def qW (N : Nat) (Es : List Ed) (e : Ed) : List Int := shr (ph N Es e.1) (ph N Es e.2)
theorem Ac {N : Nat} {Es : List Ed} (hG : kC (N : Int) Es) {e : Ed} (h : 0 <= e.1 /\ e.1 < N /\ 0 <= e.2 /\ e.2 < N) (x : Int) : x ∈ qW N Es e ↔ jn Es e.1 x /\ jn Es e.2 x := by
 rw [qW,QI x _ _ _ rfl (vh hG h.1 h.2.1) (vh hG h.2.2.1 h.2.2.2),o9 hG h.1 h.2.1,o9 hG h.2.2.1 h.2.2.2]
theorem ZI {N : Nat} {Es : List Ed} (hG : kC (N : Int) Es) {e : Ed} (h : 0 <= e.1 /\ e.1 < N /\ 0 <= e.2 /\ e.2 < N) : Up (qW N Es e) := adO _ _ _ rfl (vh hG h.1 h.2.1) (vh hG h.2.2.1 h.2.2.2)
theorem wM {N : Nat} {Es : List Ed} (hG : kC (N : Int) Es) {e : Ed} (h : 0 <= e.1 /\ e.1 < N /\ 0 <= e.2 /\ e.2 < N) : (qW N Es e).length <= N := Nat.le_trans (QJ _ _ _ rfl).1 (qA hG h.1 h.2.1)
def bump (n : List Int) (w : Int) : List Int := n.set w.toNat (n.getD w.toNat 0 + 1)
theorem qI (n : List Int) (w : Int) : (bump n w).length = n.length := by simp [bump]
theorem K6 {n : List Int} {w : Int} {k : Int} (hk : 0 <= k) (h : ∀ x ∈ n,0 <= x /\ x <= k) : ∀ x ∈ bump n w,0 <= x /\ x <= k + 1 := by
 intro x hx;rcases bP hx with e | e
 ·have := h x e; omega
 ·subst e;rw [bk];cases hn : n[w.toNat]? with
  | none => simp; omega
  | some y => have := h y (aW hn); simp; omega
theorem mD : ∀ (S n : List Int),(S.foldl bump n).length = n.length
 | [],n => rfl
 | w :: r,n => by rw [dF,mD r,qI]
theorem Af : ∀ (S n : List Int) (k : Int),0 <= k -> (∀ x ∈ n,0 <= x /\ x <= k) -> ∀ x ∈ S.foldl bump n,0 <= x /\ x <= k + S.length
 | [],n,k,hk,h => by simpa using h
 | w :: r,n,k,hk,h => by
   intro x hx;rw [dF] at hx;have := Af r (bump n w) (k + 1) (by omega) (K6 hk h) x hx;simp only [b7];omega
def rf (N : Nat) (Es : List Ed) : List Int := Es.foldl (fun n e => (qW N Es e).foldl bump n) (aM N 0)
def qM (N : Nat) (Es : List Ed) : Nat := (Es.map fun e => (qW N Es e).length).sum
theorem Yt {N : Nat} {Es : List Ed} {u : Nat} (hu : u < N) : (KI (qR N Es))[u]? = some (.list 1 (ints (ph N Es u))) := by
 rw [abg];unfold ph;rw [show ((u : Int)).toNat = u by omega,bk,af (by rw [Cy]; exact hu)];rfl
/- What triangles counts: Count and Nodes. -/
def Qe (Z Y : List AV) (len i : Int) (S : List Int) (s : Int) (n : List Int) (j : Nat) (J : Env) : St := ⟨(4,.list 1 Z) :: (5,.int .i64 s) :: (6,.own 1 (ints n)) :: (17,.list 2 Y) :: (18,.int .i64 len) :: (19,.int .i64 i) :: (33,.list 1 (ints S)) :: (34,.int .i64 S.length) :: (35,.int .i64 j) :: J,[]⟩
theorem ZN (Z Y : List AV) (len i : Int) (S : List Int) (s : Int) (n : List Int) (j : Nat) (hj : j < S.length) (hS : S.length < 4294967295) (hw : 0 <= S[j] /\ S[j] < (n.length : Int)) (hn : ∀ x ∈ n,0 <= x /\ x < 4294967295) (hs : 0 <= s /\ s < 4294967295) :
  bj aj 0 M5 (Qe Z Y len i S s n j []) = some (.normal,Qe Z Y len i S (s + 1) (bump n S[j]) (j + 1) []) := by
 obtain ⟨w,ew⟩ : ∃ w : Nat,S[j] = w := ⟨S[j].toNat,by omega⟩;have lw : w < n.length := by omega
 have k1 : (j : Int) < S.length := by omega
 have k2 : (w : Int) < n.length := by omega
 have Y8 := dw (i := j) (by omega);have N8 : IntKind.i64.wrap (s + 1) = s + 1 := cS (by omega) (by omega);have hb := hn n[w] (cG lw);have YY : IntKind.i64.wrap (n[w] + 1) = n[w] + 1 := cS (by omega) (by omega);have g3 : (ints S)[j]? = some (.int .i64 w) := by rw [aI,af hj]; simp [ew]
 have g4 : ∀ h,(ints S)[j]'h = .int .i64 w := fun h => by rw [aT]; rw [ew]
 have g5 := ae S
 have b1 : (ints n).set w (.int .i64 (n[w] + 1)) = ints (bump n S[j]) := by
  unfold bump;rw [ew,show ((w : Int)).toNat = w by omega,bk,af lw];simp [ints,TU]
 have g6 : (ints n)[w]? = some (.int .i64 n[w]) := by rw [aI,af lw]; rfl
 have g7 : ∀ h,(ints n)[w]'h = .int .i64 n[w] := fun h => aT ..;have g8 := ae n;generalize bump n S[j] = n2 at *;generalize n[w] = x at *;unfold Qe M5;generalize ints n = NN at *;generalize ints S = SS at *;generalize ints n2 = N2 at *;simp [Ig,Ie,Ic,Ib,Ia,H9,H8,H7,H6,H5,AQ,AP,AO,AN,k1,k2,hj,Y8,N8,YY,g3,g4,g5,b1,g6,g7,g8,lw,idx]
theorem TF (Z Y : List AV) (len i : Int) (S : List Int) (hS : S.length < 1000) (N : Nat) (hw : ∀ x ∈ S,0 <= x /\ x < (N : Int)) (K : Int) (hK : K < 1000000000) : ∀ (k j : Nat) (s : Int) (n : List Int),j + k = S.length -> n.length = N -> (∀ x ∈ n,0 <= x /\ x <= K + j) -> 0 <= s /\ s <= K + j -> 0 <= K ->
  bj aj 0 (.loop M5) (Qe Z Y len i S s n j []) = some (.exit 2,Qe Z Y len i S (s + k) ((S.drop j).foldl bump n) S.length [(36,.bool false)])
 | 0,j,s,n,hi,hn,hb,hs,h0 => by
   obtain rfl : j = S.length := by omega
   rw [cz,yI];refine bm ?_;rw [show s + ((0 : Nat) : Int) = s by omega];unfold Qe M5;generalize ints n = NN at *;generalize ints S = SS at *;simp [Ig,Ie,Ic,Ib,Ia,H9,H8,H7,H6,H5,AQ,AP,AO,AN]
 | k + 1,j,s,n,hi,hn,hb,hs,h0 => by
   have bz : j < S.length := by omega
   rw [aP bz,dF];have hx := hw _ (cG bz);have ih := TF Z Y len i S hS N hw K hK k (j + 1) (s + 1) (bump n S[j]) (by omega) (by rw [qI]; exact hn) (fun x hx => by have := K6 (k := K + j) (by omega) hb x hx; omega) (by omega) h0;rw [show s + 1 + (k : Int) = s + ((k + 1 : Nat) : Int) by omega] at ih;exact (aR (ZN Z Y len i S s n j bz (by omega) (by omega) (fun x hx => by have := hb x hx; omega) (by omega))).trans ih
def Qc (Z : List AV) (Es : List Ed) (s : Int) (n : List Int) (i : Nat) (J : Env) : St := ⟨(4,.list 1 Z) :: (5,.int .i64 s) :: (6,.own 1 (ints n)) :: (17,.list 2 (bc Es)) :: (18,.int .i64 Es.length) :: (19,.int .i64 i) :: J,[]⟩
theorem ZJ {N : Nat} {Es : List Ed} (hG : kC (N : Int) Es) (hE : Es.length < 1000000) (i : Nat) (hi : i < Es.length) (K : Int) (hK : 0 <= K /\ K < 1000000000) (s : Int) (n : List Int) (hn : n.length = N) (hb : ∀ x ∈ n,0 <= x /\ x <= K) (hs : 0 <= s /\ s <= K) :
  bj aj 0 M4 (Qc (KI (qR N Es)) Es s n i []) = some (.normal,Qc (KI (qR N Es)) Es (s + (qW N Es Es[i]).length) ((qW N Es Es[i]).foldl bump n) (i + 1) []) := by
 have he := hG.2.2 _ (cG hi);have hN := hG.1;obtain ⟨u,hu⟩ : ∃ u : Nat,Es[i].1 = u := ⟨Es[i].1.toNat,by omega⟩;obtain ⟨v,hv⟩ : ∃ v : Nat,Es[i].2 = v := ⟨Es[i].2.toNat,by omega⟩;have cm := Ac hG (e := Es[i]) (by omega);have cl := wM hG (e := Es[i]) (by omega)
 have cw : ∀ x ∈ qW N Es Es[i],0 <= x /\ x < (N : Int) := fun x hx => by
  have := (zQ hG ((cm x).1 hx).1).2.1; omega
 have lp := TF (KI (qR N Es)) (bc Es) Es.length i (qW N Es Es[i]) (by omega) N cw K (by omega) (qW N Es Es[i]).length 0 s n (by omega) hn (fun x hx => by have := hb x hx; omega) (by omega) (by omega);rw [b9] at lp;have sr := OB (ph N Es u) (ph N Es v) (by have := qA hG (u := (u : Int)) (by omega) (by omega); omega) (by have := qA hG (u := (v : Int)) (by omega) (by omega); omega);have e1 : shr (ph N Es u) (ph N Es v) = qW N Es Es[i] := by unfold qW; rw [hu,hv]
 rw [e1] at sr;have a1 := Yt (N := N) (Es := Es) (u := u) (by omega);have a2 := Yt (N := N) (Es := Es) (u := v) (by omega);have a5 : (KI (qR N Es)).length = N := by rw [PH,Cy]
 have a3 : ∀ h,(KI (qR N Es))[u]'h = .list 1 (ints (ph N Es u)) := fun h => by
  have := af (l := KI (qR N Es)) h;rw [a1] at this;exact (bU this).symm
 have a4 : ∀ h,(KI (qR N Es))[v]'h = .list 1 (ints (ph N Es v)) := fun h => by
  have := af (l := KI (qR N Es)) h;rw [a2] at this;exact (bU this).symm
 have k1 : (i : Int) < Es.length := by omega
 have k2 : (u : Int) < N := by omega
 have k3 : (v : Int) < N := by omega
 have k4 : u < N := by omega
 have k5 : v < N := by omega
 have hw := dw (i := i) (by omega);have g3 : (bc Es)[i]? = some (.agg [.int .i64 u,.int .i64 v]) := by rw [aO,af hi]; simp [cB,hu,hv]
 have g4 : ∀ h,(bc Es)[i]'h = .agg [.int .i64 u,.int .i64 v] := fun h => by
  have := af (l := bc Es) h;rw [g3] at this;exact (bU this).symm
 have g5 := au Es;have g6 := ae (qW N Es Es[i]);unfold Qe at lp;rw [iB] at lp;unfold Qc M4;generalize qW N Es Es[i] = S at *;generalize KI (qR N Es) = Z at *;generalize bc Es = Y at *;generalize ints (S.foldl bump n) = N2 at *;generalize ints n = NN at *;generalize ints S = SS at *;generalize ints (ph N Es u) = nu at *;generalize ints (ph N Es v) = nv at *;simp [Ig,Ie,Ic,Ib,Ia,H9,H8,H7,H6,H5,AQ,AP,AO,AN,k1,k2,k3,k4,k5,hi,hw,g3,g4,g5,g6,a1,a2,a3,a4,a5,sr,lp,idx,aJ,sQa0,iQa0,lQa0,df,pl]
theorem TD {N : Nat} {Es : List Ed} (hG : kC (N : Int) Es) (hE : Es.length < 1000000) : ∀ (k i : Nat) (s : Int) (n : List Int),i + k = Es.length -> n.length = N -> (∀ x ∈ n,0 <= x /\ x <= (64 * i : Nat)) -> 0 <= s /\ s <= (64 * i : Nat) ->
  bj aj 0 (.loop M4) (Qc (KI (qR N Es)) Es s n i []) = some (.exit 0,Qc (KI (qR N Es)) Es (s + (((Es.drop i).map fun e => (qW N Es e).length).sum : Nat)) ((Es.drop i).foldl (fun n e => (qW N Es e).foldl bump n) n) Es.length [(20,.bool false)])
 | 0,i,s,n,hi,hn,hb,hs => by
   obtain rfl : i = Es.length := by omega
   rw [cz,yI,DB,List.sum_nil];refine bm ?_;rw [show s + ((0 : Nat) : Int) = s by omega];unfold Qc M4;generalize ints n = NN at *;generalize KI (qR N Es) = Z at *;generalize bc Es = Y at *;simp [Ig,Ie,Ic,Ib,Ia,H9,H8,H7,H6,H5,AQ,AP,AO,AN]
 | k + 1,i,s,n,hi,hn,hb,hs => by
   have bz : i < Es.length := by omega
   have he := hG.2.2 _ (cG bz);have hN := hG.1;have cl := wM hG (e := Es[i]) (by omega);rw [aP bz,dF,dN,tT];have ih := TD hG hE k (i + 1) (s + (qW N Es Es[i]).length) ((qW N Es Es[i]).foldl bump n) (by omega) (by rw [mD]; exact hn) (fun x hx => by have := Af _ _ (64 * i : Nat) (by omega) hb x hx; omega) (by omega);rw [show s + ((qW N Es Es[i]).length : Int) + ((((Es.drop (i + 1)).map fun e => (qW N Es e).length).sum : Nat) : Int) = s + (((qW N Es Es[i]).length + ((Es.drop (i + 1)).map fun e => (qW N Es e).length).sum : Nat) : Int) by omega] at ih;exact (aR (ZJ hG hE i bz (64 * i : Nat) (by omega) s n hn hb hs)).trans ih
theorem ug (N : Nat) (Es : List Ed) : (rf N Es).length = N := by
 have : ∀ (l : List Ed) (n : List Int),(l.foldl (fun n e => (qW N Es e).foldl bump n) n).length = n.length := by
  intro l
  induction l with
  | nil => intro n; rfl
  | cons e r ih => intro n; rw [dF,ih,mD]
 rw [rf,this,dT]
theorem P7 {N : Nat} {Es : List Ed} (hG : kC (N : Int) Es) (hE : Es.length < 1000000) : bf aj nQW [.agg [.int .i64 N,.list 2 (bc Es)]] [] = some (.dp [.int .i64 ((qM N Es : Int) / 3),.list 1 (ints (rf N Es))],[]) := by
 have hN := hG.1;have lr := UJ N Es (by omega) (by omega) hG.2.2;have lp := TD hG hE Es.length 0 0 (aM N 0) (by omega) (by simp) (fun x hx => by rw [mL hx]; omega) (by omega);rw [b9,Int.zero_add] at lp;have eS : ((Es.map fun e => (qW N Es e).length).sum : Nat) = qM N Es := rfl;have eN : Es.foldl (fun n e => (qW N Es e).foldl bump n) (aM N 0) = rf N Es := rfl
 have bS : qM N Es <= 64 * Es.length := by
  unfold qM
  have : ∀ l : List Ed,(∀ e ∈ l,e ∈ Es) -> (l.map fun e => (qW N Es e).length).sum <= 64 * l.length := by
   intro l
   induction l with
   | nil => intro _; simp
   | cons e r ih =>
     intro h;have he := hG.2.2 e (h e (by simp));have := wM hG (e := e) (by omega);have := ih fun x hx => h x (by simp [hx]);simp only [dN,tT,b7];omega
  exact this Es fun e h => h
 rw [eS,eN] at lp;have lnN := ug N Es
 have q3 : IntKind.i64.wrap ((qM N Es : Int).tdiv 3) = (qM N Es : Int) / 3 := by
  rw [Int.tdiv_eq_ediv_of_nonneg (by omega),cS (by omega) (by omega)]
 have q4 : IntKind.i64.wrap ((qM N Es : Int) / 3) = (qM N Es : Int) / 3 := cS (by omega) (by omega);have h0i : (N : Int) <= 4294967296 := by omega
 have h0 : N <= 4294967296 := by omega
 have rp : aM N (AV.int .i64 0) = ints (aM N 0) := by simp [ints]
 have tk : fe N (ints (rf N Es)) = ints (rf N Es) := aL (by rw [ae,lnN]; omega);have tk0 : fe N (ints (aM N 0)) = ints (aM N 0) := aL (by rw [ae,dT]; omega);have g5 := au Es;have g6 : (ints (rf N Es)).length = N := by rw [ae,lnN]
 have g7 : (ints (aM N 0)).length = N := by rw [ae,dT]
 unfold Qc at lp;rw [iB] at lp;rw [aB oQW sQW (ab rfl)];unfold qQW cQW;generalize qM N Es = tS at *;generalize ints (rf N Es) = tN at *;generalize ints (aM N 0) = t0 at *;generalize KI (qR N Es) = Z at *;generalize bc Es = Y at *;simp [Ig,Ie,Ic,Ib,Ia,H9,H8,H7,H6,H5,AQ,AP,AO,AN,lr,lp,q3,q4,h0i,h0,rp,tk,tk0,g5,g6,g7,kR,aJ,sQ9,iQ9,lQ9,df,pl,aY,aV]
theorem Jf {N : Nat} {Es : List Ed} (hG : kC (N : Int) Es) (hE : Es.length < 1000000) : bf aj nQH [.agg [.int .i64 N,.list 2 (bc Es)]] [] = some (.dp [.int .i64 ((qM N Es : Int) / 3),.int .i64 0],[]) := by
 have g := fH N Es (by omega);rw [dW.2 hG] at g;have cr := P7 hG hE;rw [aB oQH sQH (ab rfl)];unfold qQH cQH;generalize bc Es = Y at *;generalize ints (rf N Es) = tN at *;generalize (qM N Es : Int) / 3 = tS at *;simp [acW,acV,acU,acT,acS,acR,g,cr,aJ,G9,IM,IJ,sQW,iQW,lQW,df,pl,aY,aV]
/- The neighbours and the degree of a node, by the reference. -/
def Lp (v : Int) (e : Ed) : List Int := (if e.1 = v then [e.2] else []) ++ (if e.2 = v then [e.1] else [])
def Pm (v : Int) (Es : List Ed) (o : List Int) (i : Nat) (J : Env) : St := ⟨(1,.int .i64 v) :: (5,.own 1 (ints o)) :: (12,.list 2 (bc Es)) :: (13,.int .i64 Es.length) :: (14,.int .i64 i) :: J,[]⟩
theorem Ye (v : Int) (Es : List Ed) (hE : Es.length < 1000000) (i : Nat) (hi : i < Es.length) (o : List Int) (ho : o.length < 4294967290) : bj aj 0 M6 (Pm v Es o i []) = some (.normal,Pm v Es (o ++ Lp v Es[i]) (i + 1) []) := by
 have k1 : (i : Int) < Es.length := by omega
 have hw := dw (i := i) (by omega);have g3 : (bc Es)[i]? = some (.agg [.int .i64 Es[i].1,.int .i64 Es[i].2]) := by rw [aO,af hi]; simp [cB]
 have g4 : ∀ h,(bc Es)[i]'h = .agg [.int .i64 Es[i].1,.int .i64 Es[i].2] := fun h => by
  have := af (l := bc Es) h;rw [g3] at this;exact (bU this).symm
 have g5 := au Es;have l1 : o.length + 1 <= 4294967296 := by omega
 have l2 : (o ++ [Es[i].2]).length + 1 <= 4294967296 := by simp; omega
 have l3 : o.length + 1 + 1 <= 4294967296 := by omega
 generalize Es[i] = e at *;obtain ⟨a,b⟩ := e;unfold Pm M6 Lp;generalize bc Es = Y at *;have t2 : fe (o.length + 1) (ints (o ++ [b])) = ints (o ++ [b]) := aL (by simp [ints]);have t3 : fe (o.length + 2) (o ++ [v,v]) = o ++ [v,v] := aL (by simp);by_cases h1 : a = v
 ·by_cases h2 : b = v
  ·simp [Cf,Ce,Cd,Cc,Cb,Ca,B9,B8,B7,B6,uJ,uI,uH,k1,hi,hw,g3,g4,g5,l1,l2,l3,t2,t3,h1,h2,kR,idx,aJ,ae,er,dE]
  ·simp [Cf,Ce,Cd,Cc,Cb,Ca,B9,B8,B7,B6,uJ,uI,uH,k1,hi,hw,g3,g4,g5,l1,l2,h1,h2,kR,idx,aJ,ae,er,dE]
 ·by_cases h2 : b = v
  ·simp [Cf,Ce,Cd,Cc,Cb,Ca,B9,B8,B7,B6,uJ,uI,uH,k1,hi,hw,g3,g4,g5,l1,l2,h1,h2,kR,idx,aJ,ae,er,dE]
  ·simp [Cf,Ce,Cd,Cc,Cb,Ca,B9,B8,B7,B6,uJ,uI,uH,k1,hi,hw,g3,g4,g5,l1,l2,h1,h2,kR,idx,aJ,ae,er,dE]
theorem S0 (v : Int) (e : Ed) : (Lp v e).length <= 2 := by
 unfold Lp; split <;> split <;> simp
theorem SZ (v : Int) (Es : List Ed) (hE : Es.length < 1000000) : ∀ (k i : Nat) (o : List Int),i + k = Es.length -> o.length <= 2 * i -> bj aj 0 (.loop M6) (Pm v Es o i []) = some (.exit 0,Pm v Es (o ++ ((Es.drop i).map (Lp v)).flatten) Es.length [(15,.bool false)])
 | 0,i,o,hi,ho => by
   obtain rfl : i = Es.length := by omega
   rw [cz,DB,List.flatten_nil,ft];refine bm ?_;unfold Pm M6;generalize bc Es = Y at *;simp [Cf,Ce,Cd,Cc,Cb,Ca,B9,B8,B7,B6,uJ,uI,uH]
 | k + 1,i,o,hi,ho => by
   have bz : i < Es.length := by omega
   have := S0 v Es[i];have ih := SZ v Es hE k (i + 1) (o ++ Lp v Es[i]) (by omega) (by simp; omega);rw [dI] at ih;rw [aP bz,dN,List.flatten_cons];exact (aR (Ye v Es hE i bz o (by omega))).trans ih
theorem ae8 {N : Nat} {Es : List Ed} (hG : kC (N : Int) Es) {v : Int} (h0 : 0 <= v) (h1 : v < N) : oQ (Es.map (Lp v)).flatten = ph N Es v := by
 refine uf (kU _).1 (vh hG h0 h1) fun x => ?_;rw [(kU _).2,o9 hG h0 h1,List.mem_flatten];unfold jn;constructor
 ·rintro ⟨l,hl,hx⟩;obtain ⟨e,he,rfl⟩ := wR.1 hl;unfold Lp at hx;rcases aD.1 hx with h | h
  ·split at h
   ·rename_i k; simp at h; subst h; left; rw [<- k]; exact he
   ·cases h
  ·split at h
   ·rename_i k; simp at h; subst h; right; rw [<- k]; exact he
   ·cases h
 ·rintro (h | h)
  ·exact ⟨_,wR.2 ⟨_,h,rfl⟩,by simp [Lp]⟩
  ·exact ⟨_,wR.2 ⟨_,h,rfl⟩,by simp [Lp]⟩
theorem pG {N : Nat} {Es : List Ed} (hG : kC (N : Int) Es) (hE : Es.length < 1000000) {v : Int} (h0 : 0 <= v) (h1 : v < N) : bf aj nQQ [.agg [.int .i64 N,.list 2 (bc Es)],.int .i64 v] [] = some (.list 1 (ints (ph N Es v)),[]) := by
 have g := j5 N Es (by omega);rw [dW.2 hG] at g;have lp := SZ v Es hE Es.length 0 [] (by omega) (by simp);rw [b9,ei] at lp
 have bl : (Es.map (Lp v)).flatten.length <= 2 * Es.length := by
  have : ∀ l : List Ed,(l.map (Lp v)).flatten.length <= 2 * l.length := by
   intro l
   induction l with
   | nil => simp
   | cons e r ih =>
     have := S0 v e;simp only [dN,List.flatten_cons,List.length_append,b7];omega
  exact this Es
 have of := X8 (Es.map (Lp v)).flatten (by omega);rw [ae8 hG h0 h1] at of;have tk : fe (Es.map (Lp v)).flatten.length (ints (Es.map (Lp v)).flatten) = ints (Es.map (Lp v)).flatten := aL (by rw [ae]; omega);have g5 := au Es;have g6 := ae (Es.map (Lp v)).flatten;unfold Pm at lp;rw [iB,ec] at lp;rw [aB oQQ sQQ (ab rfl)];unfold qQQ cQQ;generalize (Es.map (Lp v)).flatten = fl at *;cases fl with
 | nil =>
   rw [ec] at *;generalize bc Es = Y at *;generalize ints (ph N Es v) = nv at *;simp [Cf,Ce,Cd,Cc,Cb,Ca,B9,B8,B7,B6,uJ,uI,uH,g,lp,of,tk,g5,g6,aJ,G8,IL,II,sQ5,iQ5,lQ5,df,pl,aY,aV]
 | cons x r =>
   rw [pj] at *;rw [b7] at *;generalize bc Es = Y at *;generalize ints (ph N Es v) = nv at *;generalize ints r = rr at *;simp [Cf,Ce,Cd,Cc,Cb,Ca,B9,B8,B7,B6,uJ,uI,uH,g,lp,of,tk,g5,g6,aJ,G8,IL,II,sQ5,iQ5,lQ5,df,pl,aY,aV]
end Go.BmP
