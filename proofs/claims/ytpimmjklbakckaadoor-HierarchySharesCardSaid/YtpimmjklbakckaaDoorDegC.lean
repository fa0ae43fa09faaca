/- The numbers that peeling writes are the core numbers. -/
import Derived.Test.YtpimmjklbakckaaDoorPeB
set_option linter.unusedSimpArgs false
set_option linter.unusedVariables false
open Bool renaming and_eq_true → ae
open List renaming countP_eq_length_filter → Fy, getD_eq_getElem?_getD → aT, replicate → aV
open Nat renaming testBit_two_pow_sub_one → sr
namespace Go.BmP
open Go.Am Go.Bm
def Ms (m' m:Nat):Prop:=∀j,m'.testBit j=true->m.testBit j=true
theorem L9 (A:List Nat) {m' m:Nat} (h:Ms m' m) (v:Nat):Xu A m' v<=Xu A m v:=by
 unfold Xu sj;rw[<-Fy,<-Fy];refine List.countP_mono_left fun j _ hj=>?_;simp only[Nat.testBit_and,ae] at hj ⊢;exact⟨h j hj.1,hj.2⟩
def X8 (A:List Nat) (k m:Nat):Prop:=∀j,m.testBit j=true->k<=Xu A m j
def InC (A:List Nat) (m k v:Nat):Prop:=∃m',Ms m' m/\m'.testBit v=true/\X8 A k m'
theorem ZE {A:List Nat} {m' m k v:Nat} (h:Ms m' m) (c:InC A m' k v):InC A m k v:=by
 obtain⟨x,a,b,d⟩:=c;exact⟨x,fun j hj=>h j (a j hj),b,d⟩
theorem WI {A:List Nat} {m k l v:Nat} (h:l<=k) (c:InC A m k v):InC A m l v:=by
 obtain⟨x,a,b,d⟩:=c;exact⟨x,a,b,fun j hj=>Nat.le_trans h (d j hj)⟩
theorem Tk {A:List Nat} {m v d:Nat} (h:Pick A m v d):X8 A d m:=fun j hj=>by
 rcases h.2.2.2 j hj with q|q
 ·omega
 ·omega
theorem LM (L:List Int) (i j:Nat) (x:Int) (h:i<L.length):(L.set i x).getD j 0=if j=i then x else L.getD j 0:=by
 rw[aT,List.getElem?_set,aT];by_cases e:i=j
 ·subst e; rw[if_pos rfl,if_pos h,if_pos rfl]; rfl
 ·rw[if_neg e,if_neg fun q=>e q.symm]
theorem GJ {A:List Nat}:∀{m:Nat} {o ds:List Nat},m<18446744073709551616->wq A m o ds->∀(k:Nat) (L:List Int),(∀v,m.testBit v=true->v<L.length) ->
  (∀v,m.testBit v=false->(pR o ds k L).getD v 0=L.getD v 0)/\∀ v,m.testBit v=true->∃x:Nat,(pR o ds k L).getD v 0=(x:Int)/\k<=x/\∀ j,j<=x ↔ j<=k\/InC A m j v
 |_,_,_,_,.nil,k,L,_=>⟨fun v _=>by rw[pR]; simp,fun v hv=>by simp at hv⟩
 |m,_,_,hm,.cons (v:=v0) (d:=d) (o:=o) (ds:=ds) hp hr,k,L,hL=>by
   have Ls:=hp.1;have hb:=hp.2.1;have wb:=fun j=>jZ hm Ls j;have Yj:=hL v0 hb
   obtain⟨i1,i2⟩:=GJ (m:=wo m v0) (Nat.lt_of_le_of_lt Nat.and_le_left hm) hr (max k d) (L.set v0 ((max k d:Nat):Int)) (fun v hv=>by
    rw[wb] at hv;simp only[ae] at hv;rw[List.length_set]; exact hL v hv.1)
   have gd:=Tk hp;rw[pR]
   have sub:Ms (wo m v0) m:=fun j hj=>by
    rw[wb] at hj;simp only[ae] at hj;exact hj.1
   refine⟨fun v hv=>?_,fun v hv=>?_⟩
   ·have tn:v≠v0:=fun e=>by subst e; rw[hb] at hv; cases hv
    rw[i1 v (by rw[wb,hv]; rfl),LM _ _ _ _ Yj,if_neg tn]
   ·by_cases e:v=v0
    ·subst e;refine⟨max k d,?_,by omega,fun j=>?_⟩
     ·rw[i1 v (by rw[wb]; simp),LM _ _ _ _ Yj,if_pos rfl]
     ·constructor
      ·intro hj;by_cases q:j<=k
       ·exact .inl q
       ·exact .inr (WI (k:=d) (by omega) ⟨m,fun _ h=>h,hb,gd⟩)
      ·rintro (q|⟨m',s,b,g⟩)
       ·omega
       ·have h1:=g v b;have h2:=L9 A s v;have h3:=hp.2.2.1;omega
    ·obtain⟨x,e1,e2,e3⟩:=i2 v (by rw[wb,hv]; simp[e]);refine⟨x,e1,by omega,fun j=>?_⟩;rw[e3 j];constructor
     ·rintro (q|q)
      ·by_cases q2:j<=k
       ·exact .inl q2
       ·exact .inr (WI (k:=d) (by omega) ⟨m,fun _ h=>h,hv,gd⟩)
      ·exact .inr (ZE sub q)
     ·rintro (q|⟨m',s,b,g⟩)
      ·exact .inl (by omega)
      ·by_cases q:m'.testBit v0=true
       ·have h1:=g v0 q;have h2:=L9 A s v0;have h3:=hp.2.2.1;exact .inl (by omega)
       ·refine .inr ⟨m',fun j hj=>?_,b,g⟩;rw[wb,s j hj];have:j≠v0:=fun e=>by subst e; exact q hj
        simp[this]
theorem Vx {A:List Nat} {N:Nat} (hN:N<=64) {o ds:List Nat} (h:wq A (2 ^ N-1) o ds) {v:Nat} (hv:v<N):∃x:Nat,(pR o ds 0 (aV N 0)).getD v 0=(x:Int)/\∀ j,j<=x ↔ j=0\/InC A (2 ^ N-1) j v:=by
 have hp:2 ^ N<=2 ^ 64:=Nat.pow_le_pow_right (by decide) hN
 obtain⟨_,h2⟩:=GJ (show 2 ^ N-1<18446744073709551616 by omega) h 0 (aV N 0) (fun v hv=>by
  rw[sr] at hv;rw[List.length_replicate];exact of_decide_eq_true hv)
 obtain⟨x,e,_,hx⟩:=h2 v (by rw[sr]; exact decide_eq_true hv);exact⟨x,e,fun j=>by rw[hx]; simp⟩
/- The degeneracy: the greatest core number; greedy colourings against the order of peeling; cliques. Plain. -/
theorem D7 {A B:List Int} (hA:A.Nodup) (hs:∀x∈A,x∈B):A.length<=B.length:=by
 induction A generalizing B with
 |nil=>simp
 |cons a r ih=>
   have hc:=List.nodup_cons.1 hA;have hm:=hs a (by simp);have:=ih (B:=B.erase a) hc.2 fun x hx=>(List.mem_erase_of_ne (fun e=>hc.1 (by rw[<-e]; exact hx))).2 (hs x (by simp[hx]));rw[List.length_erase_of_mem hm] at this;have:=List.length_pos_of_mem hm;simp only[List.length_cons]; omega
theorem XV (m:Nat):(cI m).length=sj m:=by unfold cI sj; rw[List.length_map]
def Fw (A:List Nat) (N:Nat) (L:List Int):Prop:=L.length=N/\∀ v,v<N->∃x:Nat,L.getD v 0=(x:Int)/\∀ j,j<=x ↔ j=0\/InC A (2 ^ N-1) j v
def dgO (L:List Int):Int:=L.foldl (fun k n=>if k<n then n else k) 0
theorem Vv {A:List Nat} {N:Nat} (hN:N<=64) {o ds:List Nat} (h:wq A (2 ^ N-1) o ds) (hl:(pR o ds 0 (aV N 0)).length=N):Fw A N (pR o ds 0 (aV N 0)):=⟨hl,fun v hv=>Vx hN h hv⟩
/- The reference's k-core and its core numbers. Plain. -/
set_option linter.unusedSectionVars false
def cst (nb:Nat->List Int) (k:Int) (s:List Int × Bool) (v:Int):List Int × Bool:=if ((meet (nb v.toNat) s.1).length:Int)<k then (minus s.1 [v],true) else s
structure Crs (A:List Nat) (N k:Nat) (l:List Int):Prop where
 up:Up l
 bd:∀x∈l,0<=x/\x<(N:Int)
 keep:∀M,X8 A k M->Ms M (2 ^ N-1)->∀j:Nat,M.testBit j=true->(j:Int)∈l
section
variable {A:List Nat} {nb:Nat->List Int} {N k:Nat} (hN:N<=64) (TG:∀v,v<N->nb v=cI (A.getD v 0))
include hN TG
end
def NumK (A:List Nat) (N k:Nat) (L:List Int):Prop:=L.length=N/\∀ v,v<N->∃x:Nat,L.getD v 0=(x:Int)/\∀ j,j<=x ↔ j=0\/(j<=k/\InC A (2 ^ N-1) j v)
def stK (k:Int) (L:List Int) (v:Int):List Int:=L.set v.toNat k
end Go.BmP
