/- The library's Delete at a list of pairs, for one pair: it takes over the slice that it is given. What its function does. -/
import Derived.Test.YtmoginoicilobabGreatInsO
set_option linter.unusedVariables false
set_option linter.unusedSimpArgs false
open Array renaming getElem?_eq_getElem → dX
open Go.Proofs.Tryz renaming prog → af
open List renaming append_assoc → bK, getElem?_append → kC, getElem?_drop → aQ, getElem?_take → bf, mem_append → aC, mem_of_mem_drop → cF, mem_of_mem_take → cD
open Option.some renaming inj → cK, injEq → ah
namespace Go.Proofs
open Go.Shelf Go.RowKit Go.Lib
theorem zL {P : Program} {ops : Array Oper} {o : Oper} {a : Act} {w : World} {K : Act -> World -> Prop} {Q : Exit -> Act -> World -> Prop} {E : Prop}
  (hg : o.guard = none) (d x : Operand) (dT sT : TypeId) (fc : o.op = Op.call { callee := Callee.builtin Builtin.append,args := #[d,x],argTypes := #[dT,sT] })
  (v u : Value) (hd : a.eval d = v) (hx : a.eval x = u) {v' : Value} {w' : World} (hr : (Builtin.append_ #[dT,sT] o.type #[v,u]).run P w = .ok v' w') (hK : K (a.put o.dst v') w') :
  if Region.wanted o (yielded ops a.tmps) = true then Oper.wp P o a w K Q else E := by
 have hw : Region.wanted o (yielded ops a.tmps) = true := by simp [Region.wanted,hg]
 rw [if_pos hw];unfold Oper.wp;simp [execOp,fc,resolve,invoke,builtin,hd,hx,hr,Result.andThen];exact hK
theorem Dx {P : Program} (w : World) (t e ty : TypeId) (z : Value) (ht : P.underlying t = some (.slice e)) (hv : ∀ w,(zeroValue e).run P w = .ok z w) (g o n c : Nat) (hn : 0 < n) (cur : Array Value) (te : TypeId) (hg : w.heap[g]? = some (.cells cur te (0,0)))
  (jX : o + (Builtin.zeroCells z.cells n).size <= cur.size) (h1 : ∀ v ∈ (Builtin.zeroCells z.cells n).toList,v.oneCell' = true) :
  (Builtin.clear_ #[t] ty #[.slice (some ⟨g,o,none⟩) n c]).run P w = .ok (.tuple #[]) (w.setRow g (cur.toList.take o ++ (Builtin.zeroCells z.cells n).toList ++ cur.toList.drop (o + (Builtin.zeroCells z.cells n).toList.length)).toArray) := by
 have yk := run_storeCells_at P g o te (Builtin.zeroCells z.cells n).toList 0 cur w hg (by simpa using jX) h1;simp only [Nat.add_zero] at yk;obtain ⟨m,rfl⟩ : ∃ m,n = m + 1 := ⟨n - 1,by omega⟩;simp [Builtin.clear_,run_underlying ht,hv] at yk ⊢;simp [yk]
def FM (i n : Nat) (cur : Array Value) (cs : List Value) : List Value :=
 (cur.toList.take (i * 2) ++ cs ++ cur.toList.drop (i * 2 + cs.length)).take ((n - 1) * 2) ++ (jj 1).toList ++ (cur.toList.take (i * 2) ++ cs ++ cur.toList.drop (i * 2 + cs.length)).drop ((n - 1) * 2 + 2)
set_option maxHeartbeats 4000000 in
set_option maxRecDepth 100000 in
theorem aaH (g n c i : Nat) (cur : Array Value) (te : TypeId) (cs : List Value) (w : World) (hi : i < n) (hcn : n <= c) (hL : n <= 4294967296)
  (hg : w.heap[g]? = some (.cells cur te (0,0))) (jX : c * 2 <= cur.size) (xT : cs.length = 2 * (n - (i + 1)))
  (dC : ∀ j v,cs[j]? = some v -> w.cell? ⟨g,(i + 1) * 2 + j,none⟩ = some v) (h1c : ∀ v ∈ cs,v.oneCell' = true) :
  Calls Tryz.prog 71 #[.slice (some ⟨g,0,none⟩) n c,.int .i64 i,.int .i64 ((i : Int) + 1)] w fun e w' =>
   e = .returned (.slice (some ⟨g,0,none⟩) (n - 1) c) /\ w' = w.drew.setRow g (FM i n cur cs).toArray := by
 have t0 := Tryz.underlying0; have a0 := Tryz.isAgg0; have z0 := Tryz.sizeOf0; have v0 := Tryz.zeroValue0; have t3 := Tryz.underlying3; have a3 := Tryz.isAgg3; have z3 := Tryz.sizeOf3; have v3 := Tryz.zeroValue3; have t4 := Tryz.underlying4; have a4 := Tryz.isAgg4; have z4 := Tryz.sizeOf4; have v4 := Tryz.zeroValue4; have t27 := Tryz.underlying23; have a27 := Tryz.isAgg23; have z27 := Tryz.sizeOf23; have v27 := Tryz.zeroValue23; have z43 := Tryz.sizeOf60; have vE := Tryz.zeroValue60;have u0 := run_underlying t0; have u3 := run_underlying t3; have u4 := run_underlying t4; have u27 := run_underlying t27;have mixed := insM;obtain ⟨i0,Px,h0z,OL,h0b⟩ := info_parts y8;have hz2 : ¬ ((i : Int) = (i : Int) + 1) := by omega
 obtain ⟨A,hA,VN⟩ : ∃ A : Addr,(if c = i + 1 then (some (⟨g,0,none⟩ : Addr)) else some ⟨g,(i + 1) * 2,none⟩) = some A /\ (∀ t u,cs[t]? = some u -> w.cell? (A.add t) = some u) := by
  by_cases h : c = i + 1
  ·refine ⟨⟨g,0,none⟩,by simp [h],fun t u hu => ?_⟩;have h0 : cs.length = 0 := by omega
   rw [List.length_eq_zero_iff.1 h0] at hu;simp at hu
  ·exact ⟨⟨g,(i + 1) * 2,none⟩,by simp [h],fun t u hu => by rw [Addr.add_lit]; exact dC t u hu⟩
 obtain ⟨ml,zc⟩ : ∃ ml,ml = (cur.toList.take (i * 2) ++ cs ++ cur.toList.drop (i * 2 + cs.length)) := ⟨_,rfl⟩
 have yl : ∀ ty sc,(Builtin.append_ #[23,23] ty #[.slice (some ⟨g,0,none⟩) i c,.slice (some A) (n - (i + 1)) sc]).run Tryz.prog w.drew = .ok (.slice (some ⟨g,0,none⟩) (n - 1) c) (w.drew.setRow g ml.toArray) := fun ty sc => by
  have hgd : w.drew.heap[g]? = some (.cells cur te (0,0)) := hg;have := Go.Am.lJ (P := Tryz.prog) (ty := ty) (c := sc) t27 Px hgd (a := A) (m := n - (i + 1)) (news := cs) (sLen := i) (sCap := c) (by rw [xT,OL]; omega) (fun j u hj => VN j u hj) h1c (by omega) (by rw [OL,xT]; omega);rw [OL,show i + (n - (i + 1)) = n - 1 by omega] at this;rw [this,zc]
 have aeG : ml.length = cur.size := by rw [zc]; simp; omega
 obtain ⟨W1,hW1⟩ : ∃ W1,W1 = w.drew.setRow g ml.toArray := ⟨_,rfl⟩;rw [<- hW1] at yl;have hg1 : W1.heap[g]? = some (.cells ml.toArray te (0,0)) := by rw [hW1]; exact setRow_heap w.drew g cur _ te _ hg
 have hzz : ∀ v ∈ (Builtin.zeroCells (Value.agg #[.int .i64 0,.int .i64 0]).cells 1).toList,v.oneCell' = true := by
  intro v hv;have e : (Builtin.zeroCells (Value.agg #[.int .i64 0,.int .i64 0]).cells 1).toList = [.int .i64 0,.int .i64 0] := by simp [Builtin.zeroCells,Value.cells,Array.range,List.range,List.range.loop]
  rw [e] at hv;simp only [List.mem_cons,List.not_mem_nil,or_false,or_self] at hv;subst hv;rfl
 have hcr : ∀ ty cc,(Builtin.clear_ #[23] ty #[.slice (some ⟨g,(n - 1) * 2,none⟩) 1 cc]).run Tryz.prog W1 = .ok (.tuple #[]) (W1.setRow g (ml.take ((n - 1) * 2) ++ (jj 1).toList ++ ml.drop ((n - 1) * 2 + 2)).toArray) := fun ty cc => by
  have := Dx W1 23 60 ty _ t27 vE g ((n - 1) * 2) 1 cc (by omega) ml.toArray te hg1 (by simp [Builtin.zeroCells,Value.cells]; omega) hzz;rw [this];simp [jj,Builtin.zeroCells,Value.cells]
 have HW : Hid (W1 = w.drew.setRow g ml.toArray) := hW1;have HR : Hid (ml = (cur.toList.take (i * 2) ++ cs ++ cur.toList.drop (i * 2 + cs.length))) := zc;clear hW1 zc VN dC aeG hg1;have pg : (0 : Int) <= (i : Int) + 1 := by omega
 have hb0 : (i : Int) <= (i : Int) + 1 := by omega
 have Ld : i <= n := by omega
 have hic : i <= c := by omega
 have hi1 : (i : Int) + 1 <= (n : Int) := by omega
 have hi1c : (i : Int) + 1 <= (c : Int) := by omega
 have hi1n : i + 1 <= n := by omega
 have aiN : i + 1 <= c := by omega
 have hnc : (n : Int) <= (c : Int) := by omega
 have htn : ((i : Int) + 1).toNat = i + 1 := by omega
 have T7 : n - 1 <= n := by omega
 have hn1c : n - 1 <= c := by omega
 have hnn : n - (n - 1) = 1 := by omega
 have hcn1 : ¬ (c = n - 1) := by omega
 have hnI : ((n - 1 : Nat) : Int) <= (n : Int) := by omega
 go_enter Tryz.func71,Tryz.ntmps71
 go_wp2_with fail
 go_region_law_o (refine zL rfl (.tmp 22) (.tmp 25) 23 23 rfl (.slice (some ⟨g,0,none⟩) i c) (.slice (some A) (n - (i + 1)) (c - (i + 1))) (by simp [Act.eval,Act.put]) (by simp [Act.eval,Act.put]) (yl _ _) ?_)
 go_wp2
 go_ret
 refine ⟨rfl,?_⟩;rw [show W1 = w.drew.setRow g ml.toArray from HW,setRow_setRow,show ml = _ from HR];unfold FM;simp only [bK]
end Go.Proofs
/- The library's Delete at a list of pairs, for one pair: what is asked of a function that takes over a slice. -/
namespace Go.Bm
open Go.Am Go.Shelf Go.Proofs Go.RowKit Go.Lib
def O3 (k : Nat) (xs es : List AV) : Option (List AV) :=
 match es with
 | [.int .i64 i,.int .i64 m] => if k = 2 /\ 0 <= i /\ i.toNat < xs.length /\ m = i + 1 /\ xs.length <= jQ then some (xs.take i.toNat ++ xs.drop (i.toNat + 1)) else none
 | _ => none
theorem XL {fl : List AV} {A B rest : List Value} {j2 m2 : Nat} (hA : ∀ (i : Nat) (d : AV),(fl.take j2)[i]? = some d -> ∃ u,A[i]? = some u /\ bI (fun _ _ => False) [] d u) (hB : ∀ (i : Nat) (d : AV),(fl.drop m2)[i]? = some d -> ∃ u,B[i]? = some u /\ bI (fun _ _ => False) [] d u)
  (lA : A.length = (fl.take j2).length) : ∀ (i : Nat) (d : AV),(fl.take j2 ++ fl.drop m2)[i]? = some d -> ∃ u,(A ++ B ++ rest)[i]? = some u /\ bI (fun _ _ => False) [] d u := by
 intro i d hd;rw [kC] at hd;rw [bK,kC,lA];by_cases h1 : i < (fl.take j2).length
 ·rw [if_pos h1] at hd ⊢; exact hA i d hd
 ·rw [if_neg h1] at hd ⊢;obtain ⟨u,u1,u2⟩ := hB _ d hd;exact ⟨u,by rw [List.getElem?_append_left (au u1)]; exact u1,u2⟩
theorem Wh {j n : Nat} {cur : Array Value} {D : List Value} (hj : j < n) (h : n * 2 <= cur.size) (hD : D.length = 2 * (n - (j + 1))) : FM j n cur D = cur.toList.take (j * 2) ++ D ++ ((jj 1).toList ++ (cur.toList.drop (j * 2 + D.length)).drop 2) := by
 unfold FM;have l1 : (cur.toList.take (j * 2) ++ D).length = (n - 1) * 2 := by simp; omega
 rw [List.take_left' l1,List.drop_append,l1,List.drop_of_length_le (by omega),List.nil_append,show (n - 1) * 2 + 2 - (n - 1) * 2 = 2 by omega,bK]
theorem aiD : ∀ k xs es ys,O3 k xs es = some ys -> (∀ x ∈ xs,x.cells.length = k) -> (∀ x ∈ xs,∀ d ∈ x.cells,fz d = true) ->
 ((∀ y ∈ ys,y.cells.length = k) /\ ∀ y ∈ ys,∀ d ∈ y.cells,fz d = true) /\
 (xs = [] -> ∀ w (vargs : Array Value),es.length + 1 = vargs.size -> vargs[0]? = some (.slice none 0 0) -> (∀ (i : Nat) (e : AV) (v : Value),es[i]? = some e -> vargs[i + 1]? = some v -> bI (la w none) [] e v) -> Calls af 71 vargs w (ko w none k ys)) /\
 ∀ w (vargs : Array Value) g0 arr te a cap,w.heap[g0]? = some (.cells arr te (0,0)) -> (∀ (i : Nat) (d : AV),(aA xs)[i]? = some d -> ∃ u,arr[i]? = some u /\ bI (fun _ _ => False) [] d u) -> es.length + 1 = vargs.size -> vargs[0]? = some (.slice (some a) xs.length cap) -> (0 < cap -> a = ⟨g0,0,none⟩) -> xs.length <= cap -> cap * k <= arr.size ->
  (∀ (i : Nat) (e : AV) (v : Value),es[i]? = some e -> vargs[i + 1]? = some v -> bI (la w (some g0)) [] e v) -> Calls af 71 vargs w (ko w (some g0) k ys) := by
 intro k xs es ys hg hk hf;have hL : jQ = 4294967296 := rfl;unfold O3 at hg;split at hg
 case h_2 => cases hg
 rename_i i m;split at hg
 case isFalse => cases hg
 rename_i hc;obtain ⟨rfl,h0,Ld,rfl,hlim⟩ := hc;simp only [ah] at hg;obtain ⟨j,rfl⟩ : ∃ j : Nat,i = j := ⟨i.toNat,by omega⟩;rw [show ((j : Nat) : Int).toNat = j by omega] at hg Ld;subst hg;have hlen : (xs.take j ++ xs.drop (j + 1)).length = xs.length - 1 := by simp; omega
 have hfl := gC hk
 have hfi : aA (xs.take j ++ xs.drop (j + 1)) = (aA xs).take (j * 2) ++ (aA xs).drop ((j + 1) * 2) := by
  rw [aiO,nE hk,vC hk]
 refine ⟨⟨fun y hy => ?_,fun y hy => ?_⟩,fun hx => ?_,fun w vargs g0 arr te a cap T9 fQ hl CV ha fD kM Cw => ?_⟩
 ·rcases aC.1 hy with h | h
  ·exact hk y (cD h)
  ·exact hk y (cF h)
 ·rcases aC.1 hy with h | h
  ·exact hf y (cD h)
  ·exact hf y (cF h)
 ·subst hx; simp at Ld
 ·have ke : vargs = #[.slice (some a) xs.length cap,.int .i64 j,.int .i64 ((j : Int) + 1)] := by
   obtain ⟨v1,h1⟩ := cv (l := vargs) (i := 1) (by rw [<- hl]; simp);obtain ⟨v2,h2⟩ := cv (l := vargs) (i := 2) (by rw [<- hl]; simp);have r1 := Cw 0 _ v1 rfl h1;have r2 := Cw 1 _ v2 rfl h2;cases r1;cases r2;apply Array.ext
   ·rw [<- hl]; rfl
   ·intro t p1 p2;have p3 : t < 3 := by simpa using p2
    match t,p3 with
    | 0,_ => rw [dX p1] at CV; exact cK CV
    | 1,_ => rw [dX p1] at h1; exact cK h1
    | 2,_ => rw [dX p1] at h2; exact cK h2
  subst ke;have Li := ha (by omega);subst Li;have hsz' : xs.length * 2 <= arr.size := Nat.le_trans (Nat.mul_le_mul_right 2 fD) kM
  have one : ∀ (t : Nat) (u : Value),t < xs.length * 2 -> arr[t]? = some u -> u.oneCell' = true := by
   intro t u ht hu;obtain ⟨d,hd⟩ := aV (l := aA xs) (i := t) (by omega);obtain ⟨u',u1,u2⟩ := fQ t d hd;rw [hu] at u1;cases u1;obtain ⟨y,hy,Ub⟩ := jg (List.mem_of_getElem? hd);exact u2.kR (iC (hf y hy d Ub)).2
  have IC : ∀ t,w.cell? ⟨g0,t,none⟩ = arr[t]? := fun t => O8 T9;obtain ⟨A,hA⟩ : ∃ A,A = arr.toList.take (j * 2) := ⟨_,rfl⟩;obtain ⟨D,hD⟩ : ∃ D,D = (arr.toList.take (xs.length * 2)).drop ((j + 1) * 2) := ⟨_,rfl⟩;have lA : A.length = j * 2 := by rw [hA]; simp; omega
  have lD : D.length = 2 * (xs.length - (j + 1)) := by rw [hD]; simp; omega
  have gD : ∀ t u,D[t]? = some u -> (j + 1) * 2 + t < xs.length * 2 /\ arr[(j + 1) * 2 + t]? = some u := fun t u h => by
   rw [hD,aQ,bf] at h;split at h
   ·rename_i q; exact ⟨q,by simpa using h⟩
   ·cases h
  have rA : ∀ (t : Nat) (d : AV),((aA xs).take (j * 2))[t]? = some d -> ∃ u,A[t]? = some u /\ bI (fun _ _ => False) [] d u := fun t d hd => by
   rw [bf] at hd;split at hd
   ·rename_i q;obtain ⟨u,u1,u2⟩ := fQ t d hd;exact ⟨u,by rw [hA,bf,if_pos q]; simpa using u1,u2⟩
   ·cases hd
  have rD : ∀ (t : Nat) (d : AV),((aA xs).drop ((j + 1) * 2))[t]? = some d -> ∃ u,D[t]? = some u /\ bI (fun _ _ => False) [] d u := fun t d hd => by
   rw [aQ] at hd;obtain ⟨u,u1,u2⟩ := fQ _ d hd;have := au hd;exact ⟨u,by rw [hD,aQ,bf,if_pos (by omega)]; simpa using u1,u2⟩
  have lAf : A.length = ((aA xs).take (j * 2)).length := by rw [lA]; simp; omega
  refine (aaH g0 xs.length cap j arr te D w Ld fD (by omega) T9 kM lD (fun t u h => by rw [IC]; exact (gD t u h).2) (fun u hu => by
   obtain ⟨t,ht⟩ := List.getElem?_of_mem hu;obtain ⟨q1,q2⟩ := gD t u ht;exact one _ u q1 q2)).mono ?_
  rintro e' w' ⟨rfl,rfl⟩;have Cr := Wh (j := j) (n := xs.length) (cur := arr) (D := D) Ld hsz' lD;rw [<- hA] at Cr;have hz : (jj 1).toList.length = 2 := by simp [jj,Builtin.zeroCells,Value.cells]
  have hrl : (FM j xs.length arr D).length = arr.size := by
   rw [Cr]; simp only [List.length_append,lA,lD,hz,List.length_drop,Array.length_toList]; omega
  rw [<- hlen];refine Af (te := te) T9 rfl rfl rfl rfl (Nat.le_succ _) (by rw [hlen]; omega) (by simp [hrl]; omega) fun i d hd => ?_;rw [hfi] at hd;rw [Cr];obtain ⟨u,u1,u2⟩ := XL (rest := (jj 1).toList ++ (arr.toList.drop (j * 2 + D.length)).drop 2) rA rD lAf i d hd;exact ⟨u,by simpa using u1,u2⟩
end Go.Bm
