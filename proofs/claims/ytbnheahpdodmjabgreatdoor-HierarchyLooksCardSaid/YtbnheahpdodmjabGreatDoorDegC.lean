/- The numbers that peeling writes are the core numbers. -/
import Derived.Test.YtbnheahpdodmjabGreatDoorPeB
set_option linter.unusedSimpArgs false
set_option linter.unusedVariables false
open Bool renaming and_eq_true → ae
open List renaming countP_eq_length_filter → Ns, foldl_cons → dV, getD_eq_getElem?_getD → aG, getElem?_eq_getElem → aj, length_cons → cH, length_map → aX, length_replicate → cY, length_set → cF, mem_cons → aO, mem_cons_of_mem → cK, mem_cons_self → cI, mem_map → jZ, mem_range → iP, nodup_cons → mh, replicate → bh
open Nat renaming le_refl → aJ, testBit_and → bW, testBit_two_pow_sub_one → eY
open Option renaming getD_some → eJ
namespace Go.BmP
open Go.Am Go.Bm
def Og (m' m:Nat):Prop:=∀j,m'.testBit j=true->m.testBit j=true
theorem MI (A:List Nat) {m' m:Nat} (h:Og m' m) (v:Nat):dgM A m' v<=dgM A m v:=by
 unfold dgM vK;rw[<-Ns,<-Ns];refine List.countP_mono_left fun j _ hj=>?_;simp only[bW,ae] at hj ⊢;exact⟨h j hj.1,hj.2⟩
def ahq (A:List Nat) (k m:Nat):Prop:=∀j,m.testBit j=true->k<=dgM A m j
def Wi (A:List Nat) (m k v:Nat):Prop:=∃m',Og m' m/\m'.testBit v=true/\ahq A k m'
theorem aiQ {A:List Nat} {m' m k v:Nat} (h:Og m' m) (c:Wi A m' k v):Wi A m k v:=by
 obtain⟨x,a,b,d⟩:=c;exact⟨x,fun j hj=>h j (a j hj),b,d⟩
theorem XV {A:List Nat} {m k l v:Nat} (h:l<=k) (c:Wi A m k v):Wi A m l v:=by
 obtain⟨x,a,b,d⟩:=c;exact⟨x,a,b,fun j hj=>Nat.le_trans h (d j hj)⟩
theorem acW {A:List Nat} {m v d:Nat} (h:Pick A m v d):ahq A d m:=fun j hj=>by
 rcases h.2.2.2 j hj with q|q
 ·omega
 ·omega
theorem Mu (L:List Int) (i j:Nat) (x:Int) (h:i<L.length):(L.set i x).getD j 0=if j=i then x else L.getD j 0:=by
 rw[aG,List.getElem?_set,aG];by_cases e:i=j
 ·subst e; rw[if_pos rfl,if_pos h,if_pos rfl]; rfl
 ·rw[if_neg e,if_neg fun q=>e q.symm]
theorem Pk {A:List Nat}:∀{m:Nat} {o ds:List Nat},m<18446744073709551616->AO A m o ds->∀(k:Nat) (L:List Int),(∀v,m.testBit v=true->v<L.length) ->
  (∀v,m.testBit v=false->(sK o ds k L).getD v 0=L.getD v 0)/\∀ v,m.testBit v=true->∃x:Nat,(sK o ds k L).getD v 0=(x:Int)/\k<=x/\∀ j,j<=x ↔ j<=k\/Wi A m j v
 |_,_,_,_,.nil,k,L,_=>⟨fun v _=>by rw[sK]; simp,fun v hv=>by simp at hv⟩
 |m,_,_,hm,.cons (v:=v0) (d:=d) (o:=o) (ds:=ds) hp hr,k,L,hL=>by
   have Vh:=hp.1;have hb:=hp.2.1;have wb:=fun j=>mA hm Vh j;have hl0:=hL v0 hb
   obtain⟨i1,i2⟩:=Pk (m:=wo m v0) (Nat.lt_of_le_of_lt Nat.and_le_left hm) hr (max k d) (L.set v0 ((max k d:Nat):Int)) (fun v hv=>by
    rw[wb] at hv;simp only[ae] at hv;rw[cF]; exact hL v hv.1)
   have gd:=acW hp;rw[sK]
   have sub:Og (wo m v0) m:=fun j hj=>by
    rw[wb] at hj;simp only[ae] at hj;exact hj.1
   refine⟨fun v hv=>?_,fun v hv=>?_⟩
   ·have qF:v≠v0:=fun e=>by subst e; rw[hb] at hv; cases hv
    rw[i1 v (by rw[wb,hv]; rfl),Mu _ _ _ _ hl0,if_neg qF]
   ·by_cases e:v=v0
    ·subst e;refine⟨max k d,?_,by omega,fun j=>?_⟩
     ·rw[i1 v (by rw[wb]; simp),Mu _ _ _ _ hl0,if_pos rfl]
     ·constructor
      ·intro hj;by_cases q:j<=k
       ·exact .inl q
       ·exact .inr (XV (k:=d) (by omega) ⟨m,fun _ h=>h,hb,gd⟩)
      ·rintro (q|⟨m',s,b,g⟩)
       ·omega
       ·have h1:=g v b;have h2:=MI A s v;have h3:=hp.2.2.1;omega
    ·obtain⟨x,e1,e2,e3⟩:=i2 v (by rw[wb,hv]; simp[e]);refine⟨x,e1,by omega,fun j=>?_⟩;rw[e3 j];constructor
     ·rintro (q|q)
      ·by_cases q2:j<=k
       ·exact .inl q2
       ·exact .inr (XV (k:=d) (by omega) ⟨m,fun _ h=>h,hv,gd⟩)
      ·exact .inr (aiQ sub q)
     ·rintro (q|⟨m',s,b,g⟩)
      ·exact .inl (by omega)
      ·by_cases q:m'.testBit v0=true
       ·have h1:=g v0 q;have h2:=MI A s v0;have h3:=hp.2.2.1;exact .inl (by omega)
       ·refine .inr ⟨m',fun j hj=>?_,b,g⟩;rw[wb,s j hj];have:j≠v0:=fun e=>by subst e; exact q hj
        simp[this]
theorem ae9 {A:List Nat} {N:Nat} (hN:N<=64) {o ds:List Nat} (h:AO A (2 ^ N-1) o ds) {v:Nat} (hv:v<N):∃x:Nat,(sK o ds 0 (bh N 0)).getD v 0=(x:Int)/\∀ j,j<=x ↔ j=0\/Wi A (2 ^ N-1) j v:=by
 have hp:2 ^ N<=2 ^ 64:=Nat.pow_le_pow_right (by decide) hN
 obtain⟨_,h2⟩:=Pk (show 2 ^ N-1<18446744073709551616 by omega) h 0 (bh N 0) (fun v hv=>by
  rw[eY] at hv;rw[cY];exact of_decide_eq_true hv)
 obtain⟨x,e,_,hx⟩:=h2 v (by rw[eY]; exact decide_eq_true hv);exact⟨x,e,fun j=>by rw[hx]; simp⟩
/- The degeneracy: the greatest core number; greedy colourings against the order of peeling; cliques. Plain. -/
theorem xm {A B:List Int} (hA:A.Nodup) (hs:∀x∈A,x∈B):A.length<=B.length:=by
 induction A generalizing B with
 |nil=>simp
 |cons a r ih=>
   have hc:=mh.1 hA;have hm:=hs a (by simp);have:=ih (B:=B.erase a) hc.2 fun x hx=>(List.mem_erase_of_ne (fun e=>hc.1 (by rw[<-e]; exact hx))).2 (hs x (by simp[hx]));rw[List.length_erase_of_mem hm] at this;have:=List.length_pos_of_mem hm;simp only[cH]; omega
theorem M6 (m:Nat):(bZ m).length=vK m:=by unfold bZ vK; rw[aX]
def rG (A:List Nat) (N:Nat) (L:List Int):Prop:=L.length=N/\∀ v,v<N->∃x:Nat,L.getD v 0=(x:Int)/\∀ j,j<=x ↔ j=0\/Wi A (2 ^ N-1) j v
def Wv (L:List Int):Int:=L.foldl (fun k n=>if k<n then n else k) 0
theorem RG {A:List Nat} {N j v:Nat} (h:Wi A (2 ^ N-1) j v):v<N:=by
 obtain⟨m',s,b,_⟩:=h;have:=s v b;rw[eY] at this;exact of_decide_eq_true this
theorem Fu:∀(L:List Int) (k:Int),k<=L.foldl (fun k n=>if k<n then n else k) k/\(∀x∈L,x<=L.foldl (fun k n=>if k<n then n else k) k)/\(L.foldl (fun k n=>if k<n then n else k) k=k\/L.foldl (fun k n=>if k<n then n else k) k∈L)
 |[],k=>⟨by simp,by simp,.inl rfl⟩
 |x::r,k=>by
   obtain⟨a,b,c⟩:=Fu r (if k<x then x else k);rw[dV];generalize r.foldl (fun k n=>if k<n then n else k) (if k<x then x else k)=z at *;refine⟨by split at a<;>omega,fun y hy=>?_,?_⟩
   ·rcases aO.1 hy with rfl|hy
    ·split at a<;>omega
    ·exact b y hy
   ·rcases c with c|c
    ·by_cases q:k<x
     ·rw[if_pos q] at c; right; rw[c]; exact cI
     ·rw[if_neg q] at c; left; exact c
    ·right; exact cK _ c
theorem agP {A:List Nat} {N:Nat} {L:List Int} (h:rG A N L):∃K:Nat,Wv L=(K:Int)/\(∀v j,Wi A (2 ^ N-1) j v->j<=K)/\(K=0\/∃ v,Wi A (2 ^ N-1) K v):=by
 obtain⟨hl,hx⟩:=h;obtain⟨a,b,c⟩:=Fu L 0;change 0<=Wv L at a;change ∀x∈L,x<=Wv L at b;change Wv L=0\/Wv L∈L at c;obtain⟨K,hK⟩:∃K:Nat,Wv L=(K:Int):=⟨(Wv L).toNat,by omega⟩;rw[hK] at b c
 have gt:∀v (hv:v<N),L.getD v 0∈L:=fun v hv=>by
  have:v<L.length:=by omega
  rw[aG,aj this];exact List.getElem_mem this
 refine⟨K,hK,fun v j hj=>?_,?_⟩
 ·have hv:=RG hj;obtain⟨x,e,q⟩:=hx v hv;have h1:=(q j).2 (.inr hj);have h2:=b _ (gt v hv);omega
 ·rcases c with c|c
  ·left; omega
  ·obtain⟨v,hv,e⟩:=List.getElem_of_mem c;obtain⟨x,e2,q⟩:=hx v (by omega);rw[aG,aj hv] at e2;simp only[eJ] at e2;rcases (q K).1 (by omega) with r|r
   ·exact .inl r
   ·exact .inr ⟨v,r⟩
theorem amh {A:List Nat} {N:Nat} {L M:List Int} (h:rG A N L) (k:rG A N M):L=M:=by
 apply List.ext_getElem (by rw[h.1,k.1]);intro i h1 h2;obtain⟨x,e1,q1⟩:=h.2 i (by have:=h.1; omega);obtain⟨y,e2,q2⟩:=k.2 i (by have:=h.1; omega);rw[aG,aj h1] at e1;rw[aG,aj h2] at e2;simp only[eJ] at e1 e2;have a:=(q1 x).1 (aJ _);have b:=(q2 y).1 (aJ _);have a2:=(q2 x).2 a;have b2:=(q1 y).2 b;omega
theorem ae8 {A:List Nat} {N:Nat} (hN:N<=64) {o ds:List Nat} (h:AO A (2 ^ N-1) o ds) (hl:(sK o ds 0 (bh N 0)).length=N):rG A N (sK o ds 0 (bh N 0)):=⟨hl,fun v hv=>ae9 hN h hv⟩
/- The reference's k-core and its core numbers. Plain. -/
set_option linter.unusedSectionVars false
def Qj (nb:Nat->List Int) (k:Int) (s:List Int × Bool) (v:Int):List Int × Bool:=if ((meet (nb v.toNat) s.1).length:Int)<k then (minus s.1 [v],true) else s
structure Crs (A:List Nat) (N k:Nat) (l:List Int):Prop where
 up:Up l
 bd:∀x∈l,0<=x/\x<(N:Int)
 keep:∀M,ahq A k M->Og M (2 ^ N-1)->∀j:Nat,M.testBit j=true->(j:Int)∈l
section
variable {A:List Nat} {nb:Nat->List Int} {N k:Nat} (hN:N<=64) (Vn:∀v,v<N->nb v=bZ (A.getD v 0))
include hN Vn
theorem acg {l:List Int} (h:Crs A N k l) {v:Nat} (hv:v<N):(meet (nb v) l).length=dgM A (ze l) v:=by
 obtain⟨u,m⟩:=tB (nb v) l
 have e:meet (nb v) l=bZ (ze l &&& A.getD v 0):=tK u (pS _) fun x=>by
  rw[m,Vn v hv,gk,gk];constructor
  ·rintro⟨⟨j,rfl,j1,j2⟩,hx⟩;refine⟨j,rfl,j1,?_⟩;rw[bW,j2,pF fun v hv=>(h.bd v hv).1,decide_eq_true hx]; rfl
  ·rintro⟨j,rfl,j1,j2⟩;rw[bW,pF fun v hv=>(h.bd v hv).1] at j2;simp only[ae,decide_eq_true_eq] at j2;exact⟨⟨j,rfl,j1,j2.2⟩,j2.1⟩
 rw[e,M6]; rfl
theorem VS {l:List Int} (h:Crs A N k l) {v:Int} (hv:0<=v/\v<(N:Int)) (hd:(meet (nb v.toNat) l).length<k):Crs A N k (minus l [v]):=by
 obtain⟨u,m⟩:=oA l [v];rw[acg hN Vn h (by omega:v.toNat<N)] at hd;refine⟨u,fun x hx=>h.bd x ((m x).1 hx).1,fun M hM hs j hj=>(m j).2 ⟨h.keep M hM hs j hj,fun q=>?_⟩⟩;have q:(j:Int)=v:=by simpa using q
 have e:v.toNat=j:=by omega
 rw[e] at hd;have h1:=hM j hj
 have h2:=MI A (m':=M) (m:=ze l) (fun i hi=>by
  rw[pF fun v hv=>(h.bd v hv).1];exact decide_eq_true (h.keep M hM hs i hi)) j
 omega
theorem MJ:∀(W l:List Int) (b:Bool),Crs A N k l->(∀v∈W,v∈l)->W.Nodup->Crs A N k (W.foldl (Qj nb k) (l,b)).1/\(W.foldl (Qj nb k) (l,b)).1.length<=l.length/\((W.foldl (Qj nb k) (l,b)).2=false->b=false/\(W.foldl (Qj nb k) (l,b)).1=l/\∀ v∈W,k<=(meet (nb v.toNat) l).length)/\((W.foldl (Qj nb k) (l,b)).2=true->b=true\/(W.foldl (Qj nb k) (l,b)).1.length<l.length)
 |[],l,b,h,_,_=>⟨h,aJ _,fun e=>⟨e,rfl,fun v hv=>by cases hv⟩,fun e=>.inl e⟩
 |v::W,l,b,h,hW,hn=>by
   obtain⟨n1,n2⟩:=mh.1 hn;have hv:=hW v cI;rw[dV];by_cases q:((meet (nb v.toNat) l).length:Int)<k
   ·have e:Qj nb k (l,b) v=(minus l [v],true):=by unfold Qj; rw[if_pos q]
    rw[e];have h1:=VS hN Vn h (h.bd v hv) (by omega);obtain⟨u,m⟩:=oA l [v]
    have sm:(minus l [v]).length<l.length:=by
     have:=xm (A:=v::minus l [v]) (B:=l) (mh.2 ⟨fun z=>by have:=((m v).1 z).2; simp at this,u.imp fun{a b} h=>by omega⟩) fun x hx=>by
      rcases aO.1 hx with rfl|hx
      ·exact hv
      ·exact ((m x).1 hx).1
     simp only[cH] at this; omega
    obtain⟨a,b',c,d⟩:=MJ W (minus l [v]) true h1 (fun x hx=>(m x).2 ⟨hW x (cK _ hx),fun z=>by
     have:x=v:=by simpa using z
     exact n1 (this▸hx)⟩) n2
    exact⟨a,by omega,fun e=>(by have:=(c e).1; cases this),fun _=>.inr (by omega)⟩
   ·have e:Qj nb k (l,b) v=(l,b):=by unfold Qj; rw[if_neg q]
    rw[e];obtain⟨a,b',c,d⟩:=MJ W l b h (fun x hx=>hW x (cK _ hx)) n2;refine⟨a,b',fun e=>?_,d⟩;obtain⟨c1,c2,c3⟩:=c e;refine⟨c1,c2,fun x hx=>?_⟩;rcases aO.1 hx with rfl|hx
    ·omega
    ·exact c3 x hx
theorem ach {l:List Int} (h:Crs A N k l) (hd:∀v∈l,k<=(meet (nb v.toNat) l).length) (x:Int):x∈l ↔ ∃j:Nat,x=j/\Wi A (2 ^ N-1) k j:=by
 have mb:∀j:Nat,(ze l).testBit j=decide ((j:Int)∈l):=fun j=>pF fun v hv=>(h.bd v hv).1;constructor
 ·intro hx;have b:=h.bd x hx;refine⟨x.toNat,by omega,ze l,fun j hj=>?_,?_,fun j hj=>?_⟩
  ·rw[mb] at hj;have:=h.bd _ (of_decide_eq_true hj);rw[eY];exact decide_eq_true (by omega)
  ·rw[mb];exact decide_eq_true (by rwa [show ((x.toNat:Nat):Int)=x by omega])
  ·rw[mb] at hj;have hj:=of_decide_eq_true hj;have b:=h.bd _ hj;have:=hd _ hj;rw[show ((j:Nat):Int).toNat=j by omega] at this
   rwa [acg hN Vn h (by omega)] at this
 ·rintro⟨j,rfl,M,s,b,g⟩;exact h.keep M g s j b
end
theorem agR (A:List Nat) {N:Nat} (hN:N<=64) (k:Nat):Crs A N k (jq (N:Int)):=by
 have mem:∀x:Int,x∈jq (N:Int) ↔ 0<=x/\x<N:=fun x=>by
  unfold jq;rw[jZ];constructor
  ·rintro⟨j,hj,rfl⟩;have:=iP.1 hj;omega
  ·rintro⟨a,b⟩;exact⟨x.toNat,iP.2 (by omega),by omega⟩
 refine⟨?_,fun x hx=>(mem x).1 hx,fun M hM hs j hj=>(mem j).2 ?_⟩
 ·unfold jq Up;rw[List.pairwise_map];exact List.pairwise_lt_range.imp fun h=>by omega
 ·have:=hs j hj;rw[eY] at this;have:=of_decide_eq_true this;omega
def NumK (A:List Nat) (N k:Nat) (L:List Int):Prop:=L.length=N/\∀ v,v<N->∃x:Nat,L.getD v 0=(x:Int)/\∀ j,j<=x ↔ j=0\/(j<=k/\Wi A (2 ^ N-1) j v)
def stK (k:Int) (L:List Int) (v:Int):List Int:=L.set v.toNat k
theorem Za (k:Int):∀(C L:List Int),(C.foldl (stK k) L).length=L.length
 |[],_=>rfl
 |v::C,L=>by rw[dV,Za k C]; unfold stK; rw[cF]
theorem Zb (k:Int):∀(C L:List Int),(∀v∈C,0<=v/\v<(L.length:Int))->∀i:Nat,(C.foldl (stK k) L).getD i 0=if (i:Int)∈C then k else L.getD i 0
 |[],L,_,i=>by simp
 |v::C,L,h,i=>by
   have hv:=h v cI;rw[dV,Zb k C (stK k L v) (fun x hx=>by unfold stK; rw[cF]; exact h x (cK _ hx))];unfold stK;rw[Mu _ _ _ _ (by omega)];by_cases q:(i:Int)∈C
   ·rw[if_pos q,if_pos (cK _ q)]
   ·rw[if_neg q];by_cases e:i=v.toNat
    ·rw[if_pos e,if_pos (by rw[show (i:Int)=v by omega]; exact cI)]
    ·rw[if_neg e,if_neg fun z=>by
      rcases aO.1 z with z|z
      ·omega
      ·exact q z]
theorem ac3 (A:List Nat) (N:Nat):NumK A N 0 (bh N 0):=by
 refine⟨cY,fun v hv=>⟨0,?_,fun j=>?_⟩⟩
 ·rw[aG,List.getElem?_replicate,if_pos hv]; rfl
 ·constructor
  ·intro h; left; omega
  ·rintro (h|⟨h,_⟩)<;>omega
theorem ac4 {A:List Nat} {N k:Nat} {L C:List Int} (h:NumK A N k L) (hC:∀x,x∈C ↔ ∃j:Nat,x=j/\Wi A (2 ^ N-1) (k+1) j):NumK A N (k+1) (C.foldl (stK ((k+1:Nat):Int)) L):=by
 have hb:∀v∈C,0<=v/\v<(L.length:Int):=fun v hv=>by
  obtain⟨j,rfl,q⟩:=(hC v).1 hv;have:=RG q;have:=h.1;omega
 refine⟨by rw[Za]; exact h.1,fun v hv=>?_⟩;rw[Zb _ _ _ hb];by_cases q:(v:Int)∈C
 ·rw[if_pos q];obtain⟨j,e,hj⟩:=(hC v).1 q;obtain rfl:v=j:=by omega
  refine⟨k+1,rfl,fun i=>⟨fun hi=>?_,?_⟩⟩
  ·right; exact⟨hi,XV hi hj⟩
  ·rintro (e|⟨e,_⟩)<;>omega
 ·rw[if_neg q];obtain⟨x,e,hx⟩:=h.2 v hv;refine⟨x,e,fun i=>?_⟩;rw[hx];constructor
  ·rintro (a|⟨a,b⟩)
   ·exact .inl a
   ·exact .inr ⟨by omega,b⟩
  ·rintro (a|⟨a,b⟩)
   ·exact .inl a
   ·by_cases z:i=k+1
    ·subst z;exact absurd ((hC v).2 ⟨v,rfl,b⟩) q
    ·exact .inr ⟨by omega,b⟩
theorem afC {A:List Nat} {N k:Nat} {L:List Int} (hN:N<=64) (hI:∀a,(A.getD a 0).testBit a=false) (h:NumK A N k L) (hk:N<=k+1):rG A N L:=by
 refine⟨h.1,fun v hv=>?_⟩;obtain⟨x,e,hx⟩:=h.2 v hv;refine⟨x,e,fun j=>?_⟩;rw[hx];constructor
 ·rintro (a|⟨a,b⟩)
  ·exact .inl a
  ·exact .inr b
 ·rintro (a|b)
  ·exact .inl a
  ·refine .inr ⟨?_,b⟩;obtain⟨m',s,b1,g⟩:=b;have g1:=g v b1;unfold dgM at g1;rw[<-M6] at g1
   have hs:∀y∈(v:Int)::bZ (m' &&& A.getD v 0),y∈(List.range N).map fun n=>((n:Nat):Int):=by
    intro y hy;rcases aO.1 hy with rfl|hy
    ·exact jZ.2 ⟨v,iP.2 hv,rfl⟩
    ·obtain⟨i,rfl,i2,i3⟩:=gk.1 hy;rw[bW] at i3;simp only[ae] at i3;have:=s i i3.1;rw[eY] at this;exact jZ.2 ⟨i,iP.2 (of_decide_eq_true this),rfl⟩
   have hn:(v:Int)∉bZ (m' &&& A.getD v 0):=by
    intro z;obtain⟨i,i1,i2,i3⟩:=gk.1 z;obtain rfl:v=i:=by omega
    rw[bW,hI v,Bool.and_false] at i3;exact absurd i3 (by simp)
   have:=xm (A:=(v:Int)::bZ (m' &&& A.getD v 0)) (mh.2 ⟨hn,(pS _).imp fun{a b} h=>by omega⟩) hs;rw[aX,List.length_range,cH] at this;omega
end Go.BmP
