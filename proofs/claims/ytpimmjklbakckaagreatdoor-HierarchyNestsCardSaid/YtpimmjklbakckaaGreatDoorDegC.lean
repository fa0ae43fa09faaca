/- The numbers that peeling writes are the core numbers. -/
import Derived.Test.YtpimmjklbakckaaGreatDoorPeB
set_option linter.unusedSimpArgs false
set_option linter.unusedVariables false
open Bool renaming and_eq_true → ae
open List renaming countP_eq_length_filter → Hy, foldl_cons → pd, getD_eq_getElem?_getD → aH, getElem?_eq_getElem → aq, length_cons → cY, length_map → cN, length_replicate → cu, length_set → cF, mem_cons → aO, mem_cons_of_mem → dm, mem_cons_self → eI, mem_map → iK, mem_range → iv, nodup_cons → jX, replicate → aT
open Nat renaming le_refl → aI, testBit_and → bS, testBit_two_pow_sub_one → dX
namespace Go.BmP
open Go.Am Go.Bm
def Lk (m' m:Nat):Prop:=∀j,m'.testBit j=true->m.testBit j=true
theorem Br (A:List Nat) {m' m:Nat} (h:Lk m' m) (v:Nat):Ux A m' v<=Ux A m v:=by
 unfold Ux s7;rw[<-Hy,<-Hy];refine List.countP_mono_left fun j _ hj=>?_;simp only[bS,ae] at hj ⊢;exact⟨h j hj.1,hj.2⟩
def aaE (A:List Nat) (k m:Nat):Prop:=∀j,m.testBit j=true->k<=Ux A m j
def W0 (A:List Nat) (m k v:Nat):Prop:=∃m',Lk m' m/\m'.testBit v=true/\aaE A k m'
theorem abK {A:List Nat} {m' m k v:Nat} (h:Lk m' m) (c:W0 A m' k v):W0 A m k v:=by
 obtain⟨x,a,b,d⟩:=c;exact⟨x,fun j hj=>h j (a j hj),b,d⟩
theorem Qu {A:List Nat} {m k l v:Nat} (h:l<=k) (c:W0 A m k v):W0 A m l v:=by
 obtain⟨x,a,b,d⟩:=c;exact⟨x,a,b,fun j hj=>Nat.le_trans h (d j hj)⟩
theorem VV {A:List Nat} {m v d:Nat} (h:Pick A m v d):aaE A d m:=fun j hj=>by
 rcases h.2.2.2 j hj with q|q
 ·omega
 ·omega
theorem GG (L:List Int) (i j:Nat) (x:Int) (h:i<L.length):(L.set i x).getD j 0=if j=i then x else L.getD j 0:=by
 rw[aH,List.getElem?_set,aH];by_cases e:i=j
 ·subst e; rw[if_pos rfl,if_pos h,if_pos rfl]; rfl
 ·rw[if_neg e,if_neg fun q=>e q.symm]
theorem I3 {A:List Nat}:∀{m:Nat} {o ds:List Nat},m<18446744073709551616->xw A m o ds->∀(k:Nat) (L:List Int),(∀v,m.testBit v=true->v<L.length) ->
  (∀v,m.testBit v=false->(qE o ds k L).getD v 0=L.getD v 0)/\∀ v,m.testBit v=true->∃x:Nat,(qE o ds k L).getD v 0=(x:Int)/\k<=x/\∀ j,j<=x ↔ j<=k\/W0 A m j v
 |_,_,_,_,.nil,k,L,_=>⟨fun v _=>by rw[qE]; simp,fun v hv=>by simp at hv⟩
 |m,_,_,hm,.cons (v:=v0) (d:=d) (o:=o) (ds:=ds) hp hr,k,L,hL=>by
   have NV:=hp.1;have hb:=hp.2.1;have wb:=fun j=>j5 hm NV j;have hl0:=hL v0 hb
   obtain⟨i1,i2⟩:=I3 (m:=wo m v0) (Nat.lt_of_le_of_lt Nat.and_le_left hm) hr (max k d) (L.set v0 ((max k d:Nat):Int)) (fun v hv=>by
    rw[wb] at hv;simp only[ae] at hv;rw[cF]; exact hL v hv.1)
   have gd:=VV hp;rw[qE]
   have sub:Lk (wo m v0) m:=fun j hj=>by
    rw[wb] at hj;simp only[ae] at hj;exact hj.1
   refine⟨fun v hv=>?_,fun v hv=>?_⟩
   ·have tN:v≠v0:=fun e=>by subst e; rw[hb] at hv; cases hv
    rw[i1 v (by rw[wb,hv]; rfl),GG _ _ _ _ hl0,if_neg tN]
   ·by_cases e:v=v0
    ·subst e;refine⟨max k d,?_,by omega,fun j=>?_⟩
     ·rw[i1 v (by rw[wb]; simp),GG _ _ _ _ hl0,if_pos rfl]
     ·constructor
      ·intro hj;by_cases q:j<=k
       ·exact .inl q
       ·exact .inr (Qu (k:=d) (by omega) ⟨m,fun _ h=>h,hb,gd⟩)
      ·rintro (q|⟨m',s,b,g⟩)
       ·omega
       ·have h1:=g v b;have h2:=Br A s v;have h3:=hp.2.2.1;omega
    ·obtain⟨x,e1,e2,e3⟩:=i2 v (by rw[wb,hv]; simp[e]);refine⟨x,e1,by omega,fun j=>?_⟩;rw[e3 j];constructor
     ·rintro (q|q)
      ·by_cases q2:j<=k
       ·exact .inl q2
       ·exact .inr (Qu (k:=d) (by omega) ⟨m,fun _ h=>h,hv,gd⟩)
      ·exact .inr (abK sub q)
     ·rintro (q|⟨m',s,b,g⟩)
      ·exact .inl (by omega)
      ·by_cases q:m'.testBit v0=true
       ·have h1:=g v0 q;have h2:=Br A s v0;have h3:=hp.2.2.1;exact .inl (by omega)
       ·refine .inr ⟨m',fun j hj=>?_,b,g⟩;rw[wb,s j hj];have:j≠v0:=fun e=>by subst e; exact q hj
        simp[this]
theorem Yc {A:List Nat} {N:Nat} (hN:N<=64) {o ds:List Nat} (h:xw A (2 ^ N-1) o ds) {v:Nat} (hv:v<N):∃x:Nat,(qE o ds 0 (aT N 0)).getD v 0=(x:Int)/\∀ j,j<=x ↔ j=0\/W0 A (2 ^ N-1) j v:=by
 have hp:2 ^ N<=2 ^ 64:=Nat.pow_le_pow_right (by decide) hN
 obtain⟨_,h2⟩:=I3 (show 2 ^ N-1<18446744073709551616 by omega) h 0 (aT N 0) (fun v hv=>by
  rw[dX] at hv;rw[cu];exact of_decide_eq_true hv)
 obtain⟨x,e,_,hx⟩:=h2 v (by rw[dX]; exact decide_eq_true hv);exact⟨x,e,fun j=>by rw[hx]; simp⟩
/- The degeneracy: the greatest core number; greedy colourings against the order of peeling; cliques. Plain. -/
theorem Ga {A B:List Int} (hA:A.Nodup) (hs:∀x∈A,x∈B):A.length<=B.length:=by
 induction A generalizing B with
 |nil=>simp
 |cons a r ih=>
   have hc:=jX.1 hA;have hm:=hs a (by simp);have:=ih (B:=B.erase a) hc.2 fun x hx=>(List.mem_erase_of_ne (fun e=>hc.1 (by rw[<-e]; exact hx))).2 (hs x (by simp[hx]));rw[List.length_erase_of_mem hm] at this;have:=List.length_pos_of_mem hm;simp only[cY]; omega
theorem Bz (m:Nat):(cz m).length=s7 m:=by unfold cz s7; rw[cN]
def nj (A:List Nat) (N:Nat) (L:List Int):Prop:=L.length=N/\∀ v,v<N->∃x:Nat,L.getD v 0=(x:Int)/\∀ j,j<=x ↔ j=0\/W0 A (2 ^ N-1) j v
def dgO (L:List Int):Int:=L.foldl (fun k n=>if k<n then n else k) 0
theorem Zs {A:List Nat} {N j v:Nat} (h:W0 A (2 ^ N-1) j v):v<N:=by
 obtain⟨m',s,b,_⟩:=h;have:=s v b;rw[dX] at this;exact of_decide_eq_true this
theorem afc {A:List Nat} {N:Nat} {L M:List Int} (h:nj A N L) (k:nj A N M):L=M:=by
 apply List.ext_getElem (by rw[h.1,k.1]);intro i h1 h2;obtain⟨x,e1,q1⟩:=h.2 i (by have:=h.1; omega);obtain⟨y,e2,q2⟩:=k.2 i (by have:=h.1; omega);rw[aH,aq h1] at e1;rw[aH,aq h2] at e2;simp only[Option.getD_some] at e1 e2;have a:=(q1 x).1 (aI _);have b:=(q2 y).1 (aI _);have a2:=(q2 x).2 a;have b2:=(q1 y).2 b;omega
theorem Yb {A:List Nat} {N:Nat} (hN:N<=64) {o ds:List Nat} (h:xw A (2 ^ N-1) o ds) (hl:(qE o ds 0 (aT N 0)).length=N):nj A N (qE o ds 0 (aT N 0)):=⟨hl,fun v hv=>Yc hN h hv⟩
/- The reference's k-core and its core numbers. Plain. -/
set_option linter.unusedSectionVars false
def JF (nb:Nat->List Int) (k:Int) (s:List Int × Bool) (v:Int):List Int × Bool:=if ((meet (nb v.toNat) s.1).length:Int)<k then (minus s.1 [v],true) else s
structure Crs (A:List Nat) (N k:Nat) (l:List Int):Prop where
 up:Up l
 bd:∀x∈l,0<=x/\x<(N:Int)
 keep:∀M,aaE A k M->Lk M (2 ^ N-1)->∀j:Nat,M.testBit j=true->(j:Int)∈l
section
variable {A:List Nat} {nb:Nat->List Int} {N k:Nat} (hN:N<=64) (NZ:∀v,v<N->nb v=cz (A.getD v 0))
include hN NZ
theorem UA {l:List Int} (h:Crs A N k l) {v:Nat} (hv:v<N):(meet (nb v) l).length=Ux A (msk l) v:=by
 obtain⟨u,m⟩:=tw (nb v) l
 have e:meet (nb v) l=cz (msk l &&& A.getD v 0):=tR u (qS _) fun x=>by
  rw[m,NZ v hv,ff,ff];constructor
  ·rintro⟨⟨j,rfl,j1,j2⟩,hx⟩;refine⟨j,rfl,j1,?_⟩;rw[bS,j2,Ef fun v hv=>(h.bd v hv).1,decide_eq_true hx]; rfl
  ·rintro⟨j,rfl,j1,j2⟩;rw[bS,Ef fun v hv=>(h.bd v hv).1] at j2;simp only[ae,decide_eq_true_eq] at j2;exact⟨⟨j,rfl,j1,j2.2⟩,j2.1⟩
 rw[e,Bz]; rfl
theorem OB {l:List Int} (h:Crs A N k l) {v:Int} (hv:0<=v/\v<(N:Int)) (hd:(meet (nb v.toNat) l).length<k):Crs A N k (minus l [v]):=by
 obtain⟨u,m⟩:=rD l [v];rw[UA hN NZ h (by omega:v.toNat<N)] at hd;refine⟨u,fun x hx=>h.bd x ((m x).1 hx).1,fun M hM hs j hj=>(m j).2 ⟨h.keep M hM hs j hj,fun q=>?_⟩⟩;have q:(j:Int)=v:=by simpa using q
 have e:v.toNat=j:=by omega
 rw[e] at hd;have h1:=hM j hj
 have h2:=Br A (m':=M) (m:=msk l) (fun i hi=>by
  rw[Ef fun v hv=>(h.bd v hv).1];exact decide_eq_true (h.keep M hM hs i hi)) j
 omega
theorem GU:∀(W l:List Int) (b:Bool),Crs A N k l->(∀v∈W,v∈l)->W.Nodup->Crs A N k (W.foldl (JF nb k) (l,b)).1/\(W.foldl (JF nb k) (l,b)).1.length<=l.length/\((W.foldl (JF nb k) (l,b)).2=false->b=false/\(W.foldl (JF nb k) (l,b)).1=l/\∀ v∈W,k<=(meet (nb v.toNat) l).length)/\((W.foldl (JF nb k) (l,b)).2=true->b=true\/(W.foldl (JF nb k) (l,b)).1.length<l.length)
 |[],l,b,h,_,_=>⟨h,aI _,fun e=>⟨e,rfl,fun v hv=>by cases hv⟩,fun e=>.inl e⟩
 |v::W,l,b,h,hW,hn=>by
   obtain⟨n1,n2⟩:=jX.1 hn;have hv:=hW v eI;rw[pd];by_cases q:((meet (nb v.toNat) l).length:Int)<k
   ·have e:JF nb k (l,b) v=(minus l [v],true):=by unfold JF; rw[if_pos q]
    rw[e];have h1:=OB hN NZ h (h.bd v hv) (by omega);obtain⟨u,m⟩:=rD l [v]
    have sm:(minus l [v]).length<l.length:=by
     have:=Ga (A:=v::minus l [v]) (B:=l) (jX.2 ⟨fun z=>by have:=((m v).1 z).2; simp at this,u.imp fun{a b} h=>by omega⟩) fun x hx=>by
      rcases aO.1 hx with rfl|hx
      ·exact hv
      ·exact ((m x).1 hx).1
     simp only[cY] at this; omega
    obtain⟨a,b',c,d⟩:=GU W (minus l [v]) true h1 (fun x hx=>(m x).2 ⟨hW x (dm _ hx),fun z=>by
     have:x=v:=by simpa using z
     exact n1 (this▸hx)⟩) n2
    exact⟨a,by omega,fun e=>(by have:=(c e).1; cases this),fun _=>.inr (by omega)⟩
   ·have e:JF nb k (l,b) v=(l,b):=by unfold JF; rw[if_neg q]
    rw[e];obtain⟨a,b',c,d⟩:=GU W l b h (fun x hx=>hW x (dm _ hx)) n2;refine⟨a,b',fun e=>?_,d⟩;obtain⟨c1,c2,c3⟩:=c e;refine⟨c1,c2,fun x hx=>?_⟩;rcases aO.1 hx with rfl|hx
    ·omega
    ·exact c3 x hx
theorem UB {l:List Int} (h:Crs A N k l) (hd:∀v∈l,k<=(meet (nb v.toNat) l).length) (x:Int):x∈l ↔ ∃j:Nat,x=j/\W0 A (2 ^ N-1) k j:=by
 have mb:∀j:Nat,(msk l).testBit j=decide ((j:Int)∈l):=fun j=>Ef fun v hv=>(h.bd v hv).1;constructor
 ·intro hx;have b:=h.bd x hx;refine⟨x.toNat,by omega,msk l,fun j hj=>?_,?_,fun j hj=>?_⟩
  ·rw[mb] at hj;have:=h.bd _ (of_decide_eq_true hj);rw[dX];exact decide_eq_true (by omega)
  ·rw[mb];exact decide_eq_true (by rwa [show ((x.toNat:Nat):Int)=x by omega])
  ·rw[mb] at hj;have hj:=of_decide_eq_true hj;have b:=h.bd _ hj;have:=hd _ hj;rw[show ((j:Nat):Int).toNat=j by omega] at this
   rwa [UA hN NZ h (by omega)] at this
 ·rintro⟨j,rfl,M,s,b,g⟩;exact h.keep M g s j b
end
theorem aac (A:List Nat) {N:Nat} (hN:N<=64) (k:Nat):Crs A N k (wj (N:Int)):=by
 have mem:∀x:Int,x∈wj (N:Int) ↔ 0<=x/\x<N:=fun x=>by
  unfold wj;rw[iK];constructor
  ·rintro⟨j,hj,rfl⟩;have:=iv.1 hj;omega
  ·rintro⟨a,b⟩;exact⟨x.toNat,iv.2 (by omega),by omega⟩
 refine⟨?_,fun x hx=>(mem x).1 hx,fun M hM hs j hj=>(mem j).2 ?_⟩
 ·unfold wj Up;rw[List.pairwise_map];exact List.pairwise_lt_range.imp fun h=>by omega
 ·have:=hs j hj;rw[dX] at this;have:=of_decide_eq_true this;omega
def WZ (A:List Nat) (N k:Nat) (L:List Int):Prop:=L.length=N/\∀ v,v<N->∃x:Nat,L.getD v 0=(x:Int)/\∀ j,j<=x ↔ j=0\/(j<=k/\W0 A (2 ^ N-1) j v)
def VL (k:Int) (L:List Int) (v:Int):List Int:=L.set v.toNat k
theorem RH (k:Int):∀(C L:List Int),(C.foldl (VL k) L).length=L.length
 |[],_=>rfl
 |v::C,L=>by rw[pd,RH k C]; unfold VL; rw[cF]
theorem RI (k:Int):∀(C L:List Int),(∀v∈C,0<=v/\v<(L.length:Int))->∀i:Nat,(C.foldl (VL k) L).getD i 0=if (i:Int)∈C then k else L.getD i 0
 |[],L,_,i=>by simp
 |v::C,L,h,i=>by
   have hv:=h v eI;rw[pd,RI k C (VL k L v) (fun x hx=>by unfold VL; rw[cF]; exact h x (dm _ hx))];unfold VL;rw[GG _ _ _ _ (by omega)];by_cases q:(i:Int)∈C
   ·rw[if_pos q,if_pos (dm _ q)]
   ·rw[if_neg q];by_cases e:i=v.toNat
    ·rw[if_pos e,if_pos (by rw[show (i:Int)=v by omega]; exact eI)]
    ·rw[if_neg e,if_neg fun z=>by
      rcases aO.1 z with z|z
      ·omega
      ·exact q z]
theorem V3 (A:List Nat) (N:Nat):WZ A N 0 (aT N 0):=by
 refine⟨cu,fun v hv=>⟨0,?_,fun j=>?_⟩⟩
 ·rw[aH,List.getElem?_replicate,if_pos hv]; rfl
 ·constructor
  ·intro h; left; omega
  ·rintro (h|⟨h,_⟩)<;>omega
theorem V4 {A:List Nat} {N k:Nat} {L C:List Int} (h:WZ A N k L) (hC:∀x,x∈C ↔ ∃j:Nat,x=j/\W0 A (2 ^ N-1) (k+1) j):WZ A N (k+1) (C.foldl (VL ((k+1:Nat):Int)) L):=by
 have hb:∀v∈C,0<=v/\v<(L.length:Int):=fun v hv=>by
  obtain⟨j,rfl,q⟩:=(hC v).1 hv;have:=Zs q;have:=h.1;omega
 refine⟨by rw[RH]; exact h.1,fun v hv=>?_⟩;rw[RI _ _ _ hb];by_cases q:(v:Int)∈C
 ·rw[if_pos q];obtain⟨j,e,hj⟩:=(hC v).1 q;obtain rfl:v=j:=by omega
  refine⟨k+1,rfl,fun i=>⟨fun hi=>?_,?_⟩⟩
  ·right; exact⟨hi,Qu hi hj⟩
  ·rintro (e|⟨e,_⟩)<;>omega
 ·rw[if_neg q];obtain⟨x,e,hx⟩:=h.2 v hv;refine⟨x,e,fun i=>?_⟩;rw[hx];constructor
  ·rintro (a|⟨a,b⟩)
   ·exact .inl a
   ·exact .inr ⟨by omega,b⟩
  ·rintro (a|⟨a,b⟩)
   ·exact .inl a
   ·by_cases z:i=k+1
    ·subst z;exact absurd ((hC v).2 ⟨v,rfl,b⟩) q
    ·exact .inr ⟨by omega,b⟩
theorem YJ {A:List Nat} {N k:Nat} {L:List Int} (hN:N<=64) (hI:∀a,(A.getD a 0).testBit a=false) (h:WZ A N k L) (hk:N<=k+1):nj A N L:=by
 refine⟨h.1,fun v hv=>?_⟩;obtain⟨x,e,hx⟩:=h.2 v hv;refine⟨x,e,fun j=>?_⟩;rw[hx];constructor
 ·rintro (a|⟨a,b⟩)
  ·exact .inl a
  ·exact .inr b
 ·rintro (a|b)
  ·exact .inl a
  ·refine .inr ⟨?_,b⟩;obtain⟨m',s,b1,g⟩:=b;have g1:=g v b1;unfold Ux at g1;rw[<-Bz] at g1
   have hs:∀y∈(v:Int)::cz (m' &&& A.getD v 0),y∈(List.range N).map fun n=>((n:Nat):Int):=by
    intro y hy;rcases aO.1 hy with rfl|hy
    ·exact iK.2 ⟨v,iv.2 hv,rfl⟩
    ·obtain⟨i,rfl,i2,i3⟩:=ff.1 hy;rw[bS] at i3;simp only[ae] at i3;have:=s i i3.1;rw[dX] at this;exact iK.2 ⟨i,iv.2 (of_decide_eq_true this),rfl⟩
   have hn:(v:Int)∉cz (m' &&& A.getD v 0):=by
    intro z;obtain⟨i,i1,i2,i3⟩:=ff.1 z;obtain rfl:v=i:=by omega
    rw[bS,hI v,Bool.and_false] at i3;exact absurd i3 (by simp)
   have:=Ga (A:=(v:Int)::cz (m' &&& A.getD v 0)) (jX.2 ⟨hn,(qS _).imp fun{a b} h=>by omega⟩) hs;rw[cN,List.length_range,cY] at this;omega
end Go.BmP
