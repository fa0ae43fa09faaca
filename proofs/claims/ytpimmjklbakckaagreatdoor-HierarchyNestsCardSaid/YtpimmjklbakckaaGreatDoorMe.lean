/- The machine by value: open orders, shared boxes; the whole. -/
import Derived.Test.YtpimmjklbakckaaGreatDoorMd
import Derived.ProofKit
import Derived.WalkKit
import Derived.OpenShut
/- What a pure operation answers depends on the slots it reads. -/
set_option linter.unusedSimpArgs false
set_option linter.unusedVariables false
open Array renaming getD_eq_getD_getElem? → bh, replicate → q6
open Bool renaming and_eq_true → ae, false_eq_true → bp, not_eq_true' → bt, or_eq_false_iff → eC, or_eq_true → dS
open Classical renaming choose → Ar, choose_spec → iL
open List renaming append_assoc → du, getD_eq_getElem?_getD → aH, getElem?_drop → aW, getElem?_eq_getElem → aq, getElem?_eq_none → dW, getElem?_map → cJ, getElem?_of_mem → bz, getElem?_set → aX, getElem?_take → bE, head?_eq_getElem? → vQ, isEmpty_iff → fa, length_append → bC, length_set → cF, length_take → bj, mem_append → aD, mem_append_left → Rz, mem_append_right → Ps, mem_cons → aO, mem_of_getElem? → bf, mem_of_mem_drop → cT, mem_of_mem_take → cS, mem_singleton → cE, range → dL, set_append_left → Rx
open Nat renaming le_max_left → xy, le_max_right → vF, le_refl → aI
open Option renaming isSome_iff_exists → aR, map_some → cj
open Option.some renaming inj → bK, injEq → af
open Prod.mk renaming injEq → aB
namespace Go.Bm
open Go.Am
section
variable {P:Program} {c:dO} {call:Nat->List AV->Heap->Option (AV × Heap)}
theorem bT {e1 e2:Env} {x:E} (h:∀i∈x.slot,eT i (get e1 i)=eT i (get e2 i)):aY c e1 x=aY c e2 x:=by
 cases x with
 |t i=>exact h i (by simp[E.slot])
 |k x=>rfl
 |g i=>rfl
theorem fZ {e1 e2:Env}:∀{xs:List E},(∀i∈mT xs,eT i (get e1 i)=eT i (get e2 i))->dv c e1 xs=dv c e2 xs
 |[],_=>rfl
 |x::r,h=>by
   simp only[mT,aD] at h;simp only[dv];rw[bT fun i hi=>h i (.inl hi),fZ fun i hi=>h i (.inr hi)]
theorem sJ {e1 e2:Env}:∀{ps:List (Nat × Nat × E)} {zs:List AV},(∀i∈rb ps,eT i (get e1 i)=eT i (get e2 i))->qN c e1 zs ps=qN c e2 zs ps
 |[],_,_=>by simp[qN]
 |(o,s,x)::r,zs,h=>by
   simp only[rb,aD] at h;simp only[qN];rw[bT (c:=c) fun i hi=>h i (.inl hi)];split
   ·exact sJ fun i hi=>h i (.inr hi)
   ·rfl
theorem rn {e1 e2:Env}:∀{ps:List (Nat × Nat × E)},(∀i∈rb ps,eT i (get e1 i)=eT i (get e2 i))->gj c e1 ps=gj c e2 ps
 |[],_=>by simp[gj]
 |(o,s,x)::r,h=>by
   simp only[rb,aD] at h;simp only[gj];rw[bT (c:=c) fun i hi=>h i (.inl hi),rn fun i hi=>h i (.inr hi)]
theorem Af {e1 e2:Env} {d m:Nat} {x:Option E} (h:∀i∈Is x,eT i (get e1 i)=eT i (get e2 i)):Ag c e1 d m x=Ag c e2 d m x:=by
 cases x with
 |none=>rfl
 |some x=>simp only[Ag]; rw[bT h]
theorem I6 {e1 e2:Env} {kd:Kd} (h:∀i∈kd.reads,eT i (get e1 i)=eT i (get e2 i)):P5 c e1 kd=P5 c e2 kd:=by
 cases kd<;>simp only[Kd.reads,aD] at h<;>simp only[P5]
 case pick x y z=>rw[bT (c:=c) fun i hi=>h i (.inl hi),bT (c:=c) fun i hi=>h i (.inr (.inl hi)),bT (c:=c) fun i hi=>h i (.inr (.inr hi))]
 case build=>rw[sJ (c:=c) h]
 case EN k x lo hi=>rw[bT (c:=c) fun i hi=>h i (.inl hi)]; simp only[Af (c:=c) fun i hi=>h i (.inr (.inl hi)),Af (c:=c) fun i hi=>h i (.inr (.inr hi))]
 case Ic n x u=>rw[bT (c:=c) fun i hi=>h i (.inl hi)]
 case min=>rw[fZ (c:=c) h]
 case max=>rw[fZ (c:=c) h]
 case O7=>rw[fZ (c:=c) fun i hi=>h i (.inl hi),fZ (c:=c) fun i hi=>h i (.inr hi)]
 all_goals first
  |rfl
  |rw[bT (c:=c) h]
  |rw[bT (c:=c) fun i hi=>h i (.inl hi),bT (c:=c) fun i hi=>h i (.inr hi)]
theorem GH {e1 e2:Env} {kd:Kd} (h:∀i∈kd.reads,eT i (get e1 i)=eT i (get e2 i)):oX c e1 kd=oX c e2 kd:=by
 cases kd<;>simp only[oX]
 case call=>rw[fZ (c:=c) h]
 case iR=>
  simp only[Kd.reads,aD] at h;rw[bT (c:=c) fun i hi=>h i (.inl hi),fZ (c:=c) fun i hi=>h i (.inr hi)]
theorem gW {e1 e2:Env} {kd:Kd} (h:∀i∈kd.reads,eT i (get e1 i)=eT i (get e2 i)):getArgs c e1 kd=getArgs c e2 kd:=by
 unfold getArgs;rw[GH h]
def Seen (ps:List Rt) (s t:St):Prop:=∀p∈ps,au t p=au s p/\∀ b l,p=.c b l->aJ t.H b=aJ s.H b
theorem P0 {s t:St} {ag:Option Nat} {x v:AV} {ps:List Rt} (h:zw s ag x=some (v,ps)) (hs:Seen ps s t):zw t ag x=some (v,ps):=by
 unfold zw at h ⊢;split at h
 ·exact h
 ·rename_i b off;split at h
  case h_2=>cases h
  rename_i cs hb;split at h
  case h_2=>cases h
  rename_i u hu;simp only[af,aB] at h;obtain⟨rfl,rfl⟩:=h;have:=(hs _ (cE.2 rfl)).2 b _ rfl;simp only[this,hb,hu]
 ·rename_i k p i off;split at h
  case h_2=>cases h
  rename_i k' xs ho;split at h
  case isFalse=>cases h
  rename_i hk;split at h
  case h_2=>cases h
  rename_i y hy;split at h
  case h_2=>cases h
  rename_i u hu;simp at h;obtain⟨rfl,rfl⟩:=h;have:=(hs p (by simp)).1;simp only[this,ho,hk,if_true,hy,hu]
 ·cases h
def rU (b j:Nat) (s t:St):Prop:=∀cs,aJ s.H b=some cs->∃ds,aJ t.H b=some ds/\(eF (.c b) 0 ds)[j]?=(eF (.c b) 0 cs)[j]?
def yZ (f:Fq) (s t:St):Prop:=(∀ps,f=.rd ps->Seen ps s t)/\∀ b j,f=.rc b j->rU b j s t
theorem uc (f:Nat->Rt):∀{cs ds:List AV} {j i:Nat},cs[i]?=ds[i]?->(eF f j cs)[i]?=(eF f j ds)[i]?
 |[],[],_,_,_=>rfl
 |[],d::ds,j,0,h=>by simp at h
 |c::cs,[],j,0,h=>by simp at h
 |[],d::ds,j,i+1,h=>by
   have:=uc f (cs:=[]) (ds:=ds) (j:=j+1) (i:=i) (by simpa using h);cases d<;>simpa[eF] using this
 |c::cs,[],j,i+1,h=>by
   have:=uc f (cs:=cs) (ds:=[]) (j:=j+1) (i:=i) (by simpa using h);cases c<;>simpa[eF] using this
 |c::cs,d::ds,j,0,h=>by
   simp at h;subst h;cases c<;>simp[eF]
 |c::cs,d::ds,j,i+1,h=>by
   have:=uc f (cs:=cs) (ds:=ds) (j:=j+1) (i:=i) (by simpa using h);cases c<;>cases d<;>simpa[eF] using this
theorem aaX {ag:Option Nat} {cs ds:List AV} {k:Nat} {p:Rt} {o l:Nat} (h:Kg ag cs=some (.dz k p o l)) (e:ds[0]?=cs[0]?):Kg ag ds=some (.dz k p o l):=by
 unfold Kg BR at h ⊢;cases ag with
 |some n=>simp only at h ⊢; (repeat' split at h)<;>simp_all
 |none=>
   simp only at h ⊢;have:ds.head?=cs.head?:=by rw[vQ,vQ]; exact e
   rw[this]; exact h
theorem VW {s t:St} {ag:Option Nat} {x v:AV} {ps:List Rt} (h:zw s ag x=some (v,ps)) (hs:yZ (wV x v ps) s t):zw t ag x=some (v,ps):=by
 by_cases hx:∃b off k o l,x=.ptr b off/\v=.dz k (.c b off) o l
 ·obtain⟨b,off,k,o,l,rfl,rfl⟩:=hx;have NX:=hs.2 b off (by simp[wV]);unfold zw at h ⊢;simp only at h ⊢;split at h
  case h_2=>cases h
  rename_i cs hb;split at h
  case h_2=>cases h
  rename_i u hu;simp only[af,aB] at h;obtain⟨rfl,h2⟩:=h;obtain⟨ds,d1,d2⟩:=NX cs hb
  have:Kg ag ((eF (.c b) 0 ds).drop off)=some (.dz k (.c b off) o l):=aaX hu (by
   rw[aW,aW];simpa using d2)
  simp only[d1,this,h2]
 ·refine P0 h (hs.1 ps ?_);unfold wV;split
  ·rename_i b off k d j o l;split
   ·rename_i hc;obtain⟨rfl,rfl⟩:=hc;exact absurd ⟨_,_,_,_,_,rfl,rfl⟩ hx
   ·rfl
  ·rfl
end
end Go.Bm

/- Operations that change nothing that is there: what they answer depends on the slots they read and on the places they name. -/
namespace Go.Bm
open Go.Am
section
variable {P:Program} {c:dO} {call:Nat->List AV->Heap->Option (AV × Heap)}
theorem Seen.left {ps qs:List Rt} {s t:St} (h:Seen (ps++qs) s t):Seen ps s t:=fun p hp=>h p (by simp[hp])
theorem Seen.right {ps qs:List Rt} {s t:St} (h:Seen (ps++qs) s t):Seen qs s t:=fun p hp=>h p (by simp[hp])
mutual
theorem GI {b:Bool} {s t:St}:∀x,Seen (aK x) s t->ks b t x=ks b s x
 |.dz k p off len,h=>by simp only[ks]; rw[(h p (by simp[aK])).1]
 |.agg cs,h=>by simp only[ks]; rw[rG cs (by simpa[aK] using h)]
 |.dF cs,h=>by simp only[ks]; rw[rG cs (by simpa[aK] using h)]
 |.func f a b',h=>by
   have h':Seen (cW a++cW b') s t:=by simpa[aK] using h
   simp only[ks]; rw[rG a h'.left,rG b' h'.right]
 |.own _ _,_=>rfl
 |.ptr _ _,_=>rfl
 |.eV _ _ _ _,_=>rfl
 |.sl _ _ _ _,_=>rfl
 |.any,_=>rfl
 |.undef,_=>rfl
 |.bool _,_=>rfl
 |.int _ _,_=>rfl
 |.fo,_=>rfl
 |.fv,_=>rfl
 |.dp,_=>rfl
 |.str _,_=>rfl
 |.dh _,_=>rfl
 |.list _ _,_=>rfl
theorem rG {b:Bool} {s t:St}:∀xs,Seen (cW xs) s t->Cv b t xs=Cv b s xs
 |[],_=>rfl
 |x::r,h=>by
   have h':Seen (aK x++cW r) s t:=by simpa[cW] using h
   simp only[Cv]; rw[GI x h'.left,rG r h'.right]
end
theorem Q2 {s t:St} {k:Nat} {x:AV} (h:Seen (aK x) s t):cont t k x=cont s k x:=by
 cases x<;>try rfl
 case dz k' p off len=>simp only[cont]; rw[(h p (by simp[aK])).1]
 case own k' xs=>cases xs<;>rfl
theorem QP {s t:St} {k b off len:Nat} (h:Seen [.c b 1] s t):Oi t k b off len=Oi s k b off len:=by
 unfold Oi;rw[(h _ (cE.2 rfl)).2 b 1 rfl]
theorem GL {s t:St}:∀xs,Seen (cW xs++EM xs) s t->uj t xs=uj s xs
 |[],_=>rfl
 |x::r,h=>by
   have hb:Seen (aK x++cW r) s t:=by simpa[cW] using h.left
   have qP:Seen (EM r) s t:=fun p hp=>h p (aD.2 (.inr (by cases x<;>simp[EM,hp])));have ih:=GL r fun p hp=>(aD.1 hp).elim (fun q=>hb.right p q) (qP p);have hx:=GI (b:=false) x hb.left;cases x<;>try (simp only[uj]; rw[hx,ih]; done)
   case sl k b off len=>
    simp only[uj];rw[ih,QP fun p hp=>h p (aD.2 (.inr (by simp[EM,cE.1 hp])))]
   case own k xs=>
    cases xs with
    |nil=>simp only[uj]; rw[ih]
    |cons y ys=>simp only[uj]; rw[hx,ih]
def calm:Fq->Bool
 |.no|.rc _ _|.rd _|.al _=>true
 |_=>false
def Ai (s s1:St) (kd:Kd) (f:Fq) (v:AV) (g:St->Option (AV × St × Fq)):Prop:=
 ∃ T,s1=⟨s.env,s.H++T⟩/\(T=[]\/∃ z,T=[z]/\f=.al s.H.length)/\∀ t:St,(∀i∈kd.reads,eT i (get t.env i)=eT i (get s.env i))->yZ f s t->(∀n,f=.al n->t.H.length=n)->g t=some (v,⟨t.env,t.H++T⟩,f)
theorem wU (x v:AV) (ps:List Rt):wV x v ps=.rd ps\/∃ b j,wV x v ps=.rc b j:=by
 unfold wV;split
 ·split
  ·exact .inr ⟨_,_,rfl⟩
  ·exact .inl rfl
 ·exact .inl rfl
theorem Ai.still {s:St} {kd:Kd} {f:Fq} {v:AV} {g:St->Option (AV × St × Fq)} (h:∀t:St,(∀i∈kd.reads,eT i (get t.env i)=eT i (get s.env i))->yZ f s t->g t=some (v,t,f)):Ai s s kd f v g:=
 ⟨[],by simp,.inl rfl,fun t h1 h2 _=>by rw[h t h1 h2]; simp⟩
end
end Go.Bm

/- Every calm operation depends on what it names alone. -/
namespace Go.Bm
open Go.Am
section
variable {P:Program} {c:dO} {call:Nat->List AV->Heap->Option (AV × Heap)}
theorem Xt {s s':St} {b off k:Nat} {v:AV} {f:Fq} (h:yP s b off k v=some (s',f)):calm f=false:=by
 unfold yP at h
 repeat' split at h
 all_goals first
  |(cases h; done)
  |(simp at h; obtain⟨_,rfl⟩:=h; rfl)
theorem PI {s s':St} {k:Nat} {a v:AV} {f:Fq} (h:O4 s k a v=some (s',f)):calm f=false:=by
 unfold O4 at h;split at h
 ·exact Xt h
 ·repeat' split at h
  all_goals first
   |(cases h; done)
   |(simp at h; obtain⟨_,rfl⟩:=h; rfl)
 ·cases h
theorem yh (s:St) (l:List Rt):mG s l=.all\/∃ sl bs,mG s l=.wr sl bs:=by
 unfold mG;split
 ·split
  ·exact .inr ⟨_,_,rfl⟩
  ·exact .inl rfl
 ·exact .inl rfl
theorem DC (s:St) (l:List Rt):calm (mG s l)=false:=by rcases yh s l with e|⟨_,_,e⟩<;>rw[e]<;>rfl
theorem Cu (s:St) (l ps:List Rt):(mG s l=.bo ps)=False:=by rcases yh s l with e|⟨_,_,e⟩<;>rw[e]<;>simp
theorem yj (s:St) (l:List Rt) (n:Nat):(mG s l=.al n)=False:=by rcases yh s l with e|⟨_,_,e⟩<;>rw[e]<;>simp
theorem Ct (s:St) (l:List Rt) (n:Nat):(mG s l=.lw n)=False:=by rcases yh s l with e|⟨_,_,e⟩<;>rw[e]<;>simp
theorem Ox {s s1:St} {kd:Kd} {v:AV} {f:Fq} (h:dP c call kd s=some (v,s1,f)) (hf:calm f=true):Ai s s1 kd f v (dP c call kd):=by
 unfold dP at h;split at h
 ·cases h
 rename_i f0 args ha;split at h
 ·cases h
 rename_i md q hq;split at h
 ·rename_i hm;split at h
  ·cases h
  rename_i sM hz;split at h
  case h_2=>cases h
  rename_i r H' hc;split at h
  case isFalse=>cases h
  rename_i hr;simp at h;obtain⟨rfl,rfl,rfl⟩:=h;refine .still fun t h1 h2=>?_
  have hs:Seen (cW args++EM args) s t:=by
   by_cases he:(cW args++EM args).isEmpty=true
   ·rw[fa.1 he]; intro p hp; simp at hp
   ·exact h2.1 _ (by simp[he]<;>simpa using he)
  unfold dP;rw[gW h1,ha];simp only[hq,hm,if_true,GL args hs,hz,hc,hr];simp
 ·rename_i hm;split at h
  ·cases h
  rename_i f1 o8 Od;split at h
  case isFalse=>cases h
  rename_i ZK;split at h
  ·repeat' split at h
   all_goals first
    |(cases h; done)
    |(simp at h; obtain⟨_,_,rfl⟩:=h; exfalso; simp[calm] at hf; done)
    |(simp at h; obtain⟨_,_,rfl⟩:=h; exfalso; revert hf; split<;>simp[calm])
  ·rename_i iO;split at h
   case isFalse=>cases h
   rename_i hp;split at h
   case h_2=>cases h
   rename_i r H' hc;split at h
   case isFalse=>cases h
   rename_i hr;simp at h;obtain⟨rfl,rfl,rfl⟩:=h
   have he:cW args=[]:=by
    cases hb:cW args with
    |nil=>rfl
    |cons x y=>rw[hb] at hf; simp[DC] at hf
   rw[he] at Od ⊢;simp only[dK] at Od ⊢;refine .still fun t h1 h2=>?_;unfold dP;rw[gW h1,ha];simp only[hq,hm,he,dK,bp,if_false];rw[gW h1,Od];simp only[ZK,if_true,iO,hp,hc,hr,bp,if_false];simp
theorem yc {s:St} {kd:Kd} (h:qG c s kd=none) (t:St):qG c t kd=none:=by
 unfold qG at h ⊢;split at h
 ·split at h
  ·rename_i f x es hi;split at h
   ·rename_i he; simp only[hi,he]
   ·cases h
  ·cases h
 ·rfl
theorem B8 {s:St} {kd:Kd} (h:mP c call s kd=none) (t:St):mP c call t kd=none:=by
 unfold mP at h ⊢;split at h
 ·rename_i f x es;split at h
  ·cases h
  ·rename_i hl;exact if_neg hl
 ·rfl
theorem ab1 {s s1:St} {g:Nat->List AV->List AV->Option (List AV)} {x:AV} {es:List AV} {v:AV} {f:Fq} (h:QV s g x es=some (v,s1,f)):∃sl bs,f=.wr sl bs\/f=.all:=by unfold QV at h;cases h
theorem Ba {s s1:St} {kd:Kd} {v:AV} {f:Fq} (h:qG c s kd=some (some (v,s1,f))):∃sl bs,f=.wr sl bs\/f=.all:=by
 unfold qG at h;split at h
 case h_2=>cases h
 split at h
 case h_1=>
  split at h
  ·cases h
  ·simp only[af] at h;exact ab1 h
 simp only[af] at h
 (repeat' split at h)<;>simp at h
 all_goals first
  |exact⟨_,_,.inl h.2.2.symm⟩
  |exact⟨[],none,.inr h.2.2.symm⟩
theorem B3 {ahA:Nat->List AV->Heap->Option (AV × Heap)} {s:St} {kd:Kd} (h:sT c call s kd=none) (t:St):sT c ahA t kd=none:=by
 unfold sT at h ⊢;split at h
 ·split at h
  ·cases h
  ·rename_i hm;simp only[hm]
 ·rfl
theorem xR {s s1:St} {kd:Kd} {v:AV} {f:Fq} (h:sT c call s kd=some (some (v,s1,f))):f=.all/\∃ k ys,v=.own k ys:=by
 unfold sT at h;split at h
 case h_2=>cases h
 split at h
 case h_2=>cases h
 simp only[af] at h;unfold M4 at h
 (repeat' split at h)<;>first
  |(cases h; done)
  |(simp only[af,aB] at h; exact⟨h.2.2.symm,_,_,h.1.symm⟩)
theorem K5 {s s1:St} {kd:Kd} {v:AV} {f:Fq} (h:fP c call kd s=some (v,s1,f)) (hf:calm f=true):Ai s s1 kd f v (fP c call kd):=by
 unfold fP at h;cases hm:sT c call s kd with
 |some r=>
   rw[hm] at h;simp only at h;subst h;obtain⟨rfl,_⟩:=xR hm;simp[calm] at hf
 |none=>
   rw[hm] at h;rcases iH h with h|h
   ·obtain⟨T,h1,h2,h3⟩:=Ox h hf;refine⟨T,h1,h2,fun t a b d=>?_⟩;unfold fP;rw[B3 hm t];exact rH (h3 t a b d)
   ·obtain⟨rfl,_⟩:=xJ h;simp[calm] at hf
theorem Bp {s s1:St} {kd:Kd} {v:AV} {f:Fq} (h:dq c call kd s=some (v,s1,f)) (hf:calm f=true):Ai s s1 kd f v (dq c call kd):=by
 unfold dq at h;cases hi:qG c s kd with
 |some r=>
   rw[hi] at h;simp only at h;subst h;obtain⟨sl,bs,rfl|rfl⟩:=Ba hi<;>simp[calm] at hf
 |none=>
   rw[hi] at h;cases hl:mP c call s kd with
   |some r=>
     rw[hl] at h;simp only at h;subst h;obtain⟨b,rfl⟩:=Eh hl;simp[calm] at hf
   |none=>
     rw[hl] at h;obtain⟨T,h1,h2,h3⟩:=K5 h hf;refine⟨T,h1,h2,fun t a b d=>?_⟩;unfold dq;rw[yc hi t,B8 hl t];exact h3 t a b d
end
end Go.Bm

/- Every operation that is calm depends on what it names alone. -/
namespace Go.Bm
open Go.Am
section
variable {P:Program} {c:dO} {call:Nat->List AV->Heap->Option (AV × Heap)}
theorem Yn {s s1:St} {kd:Kd} {v:AV} {f:Fq} (h:eS c call s kd=some (v,s1,f)) (hf:calm f=true):Ai s s1 kd f v (fun t=>eS c call t kd):=by
 have pure:∀{kd:Kd} {v:AV} {s1:St} {f:Fq},(match P5 c s.env kd with
   |some v=>some (v,s,Fq.no)
   |none=>none)=some (v,s1,f)->Ai s s1 kd f v (fun t=>match P5 c t.env kd with
   |some v=>some (v,t,Fq.no)
   |none=>none):=by
  intro kd v s1 f h;split at h
  case h_2=>cases h
  rename_i u hu;simp at h;obtain⟨rfl,rfl,rfl⟩:=h;refine .still fun t h1 _=>?_;simp only[I6 (c:=c) h1,hu]
 cases kd
 case call f0 xs=>simp only[eS] at h ⊢; exact Bp h hf
 case iR x xs=>simp only[eS] at h ⊢; exact Bp h hf
 case ld ag x=>
  simp only[eS] at h;split at h
  case h_2=>cases h
  rename_i u ps hp;split at h
  case isFalse=>cases h
  rename_i hl;simp at h;obtain⟨rfl,rfl,rfl⟩:=h;refine .still fun t h1 h2=>?_;simp only[eS,bT (c:=c) h1,VW hp h2,hl,if_true]
 case copy k x y=>
  exfalso;simp only[eS] at h
  (repeat' split at h)<;>first
   |(cases h; done)
   |(simp only[af,aB] at h; obtain⟨_,_,rfl⟩:=h; first
     |(simp[calm] at hf; done)
     |(rcases xf _ _ with e|⟨_,_,_,_,e⟩<;>rw[e] at hf<;>simp[calm] at hf))
 case Ic n x hi=>
  simp only[eS] at h;split at h
  ·rename_i b off hx;split at h
   case h_2=>cases h
   rename_i m cs hm hb;split at h
   case isFalse=>cases h
   rename_i hl;simp at h;obtain⟨rfl,rfl,rfl⟩:=h;refine .still fun t h1 h2=>?_;simp only[Kd.reads,aD] at h1;have e:=((h2.1 _ rfl) _ (cE.2 rfl)).2 b 1 rfl;have Qy:Ag c t.env n n hi=some m:=by rw[Af (c:=c) fun i hi=>h1 i (.inr hi)]; exact hm
   simp only[eS,bT (c:=c) fun i hi=>h1 i (.inl hi),hx,Qy,e,hb,hl,if_true]
  ·rename_i gV;split at h
   case h_2=>cases h
   rename_i u hu;simp at h;obtain⟨rfl,rfl,rfl⟩:=h;refine .still fun t h1 _=>?_;have e:=I6 (c:=c) h1;simp only[Kd.reads,aD] at h1;have ex:aY c t.env x=aY c s.env x:=bT (c:=c) fun i hi=>h1 i (.inl hi);simp only[eS,ex,e,hu]
 case new zs=>
  simp only[eS] at h;simp at h;obtain⟨rfl,rfl,rfl⟩:=h;exact⟨_,rfl,.inr ⟨_,rfl,rfl⟩,fun t _ _ h3=>by simp only[eS]; rw[h3 _ rfl]⟩
 case box x=>
  simp only[eS] at h;split at h
  case isFalse=>cases h
  rename_i hl;simp at h;obtain⟨rfl,rfl,rfl⟩:=h;refine⟨_,rfl,.inr ⟨_,rfl,rfl⟩,fun t h1 _ h3=>?_⟩;simp only[eS,bT (c:=c) h1,hl,if_true];rw[h3 _ rfl]
 case dV k n zs ps=>
  simp only[eS] at h;split at h
  case h_2=>cases h
  rename_i cs hc;split at h
  case isFalse=>cases h
  rename_i hz;simp at h;obtain⟨rfl,rfl,rfl⟩:=h
  have he:gj c s.env ps=[]:=by
   cases hb:gj c s.env ps with
   |nil=>rfl
   |cons x y=>rw[hb] at hf; simp[DC] at hf
  rw[he] at hc ⊢;simp only[dK] at hc ⊢;refine .still fun t h1 _=>?_;simp only[eS,rn (c:=c) h1,he,dK,sJ (c:=c) h1,hc,hz,if_true];simp
 case st k a v=>
  exfalso;simp only[eS] at h;split at h
  ·split at h
   case h_2=>cases h
   rename_i hh;have h4:=PI hh;simp only[af,aB] at h;obtain⟨_,_,h5⟩:=h;rw[<-h5] at hf;split at hf
   ·rw[hf] at h4; cases h4
   ·simp[calm] at hf
  ·split at h
   case h_2=>cases h
   rename_i hh;have h4:=PI hh;simp only[af,aB] at h;obtain⟨_,_,h5⟩:=h;rw[<-h5] at hf;rw[hf] at h4;cases h4
 case app k x y=>
  simp only[eS] at h;split at h
  case h_2=>cases h
  rename_i ys hy;split at h
  case isFalse=>cases h
  rename_i hl;split at h
  ·rename_i k' hx;split at h
   case isFalse=>cases h
   rename_i hle;simp at h;obtain⟨rfl,rfl,rfl⟩:=h;refine .still fun t h1 h2=>?_;simp only[Kd.reads,aD] at h1;simp only[eS];rw[bT (c:=c) fun i hi=>h1 i (.inl hi),bT (c:=c) fun i hi=>h1 i (.inr hi),Q2 (h2.1 _ rfl),hy];simp only[hl,if_true,hx,hle]
  ·exfalso
   repeat' split at h
   all_goals first
    |(cases h; done)
    |(simp at h; obtain⟨_,_,rfl⟩:=h; simp[calm] at hf)
  ·cases h
 case Kx k zs l cp=>
  simp only[eS] at h;split at h
  case h_2=>cases h
  rename_i k1 n1 k2 n2 e1 e2;split at h
  case isFalse=>cases h
  rename_i hb;split at h
  ·rename_i z hz;simp at h;obtain⟨rfl,rfl,rfl⟩:=h;refine⟨_,rfl,.inr ⟨_,rfl,rfl⟩,fun t h1 _ h3=>?_⟩;simp only[Kd.reads,aD] at h1;simp only[eS];rw[bT (c:=c) fun i hi=>h1 i (.inl hi),bT (c:=c) fun i hi=>h1 i (.inr hi),e1,e2];simp only[hb,and_self,if_true,hz];rw[h3 _ rfl]
  ·rename_i hz;simp at h;obtain⟨rfl,rfl,rfl⟩:=h;refine .still fun t h1 h2=>?_;simp only[Kd.reads,aD] at h1;simp only[eS];rw[bT (c:=c) fun i hi=>h1 i (.inl hi),bT (c:=c) fun i hi=>h1 i (.inr hi),e1,e2];simp only[hb,and_self,if_true,hz]
 case UC k zs x=>
  simp only[eS] at h;split at h
  case h_3=>cases h
  all_goals
   rename_i e1;simp at h;obtain⟨rfl,rfl,rfl⟩:=h;refine .still fun t h1 h2=>?_;simp only[eS,bT (c:=c) h1,e1]
 case B4=>
  simp only[eS] at h;simp at h;obtain⟨rfl,rfl,rfl⟩:=h;exact⟨_,rfl,.inr ⟨_,rfl,rfl⟩,fun t _ _ h3=>by simp only[eS]; rw[h3 _ rfl]⟩
 case yH K ok z x k=>
  simp only[eS] at h;split at h
  case h_2=>cases h
  rename_i b e1;split at h
  case h_2=>cases h
  rename_i es e2;split at h
  case isFalse=>cases h
  rename_i hp;split at h
  case h_2=>cases h
  rename_i r e3;split at h
  case isFalse=>cases h
  rename_i hz;simp only[af,aB] at h;obtain⟨rfl,rfl,rfl⟩:=h;refine .still fun t h1 h2=>?_;simp only[Kd.reads,aD] at h1;have e:=((h2.1 _ rfl) _ (cE.2 rfl)).2 b 1 rfl;have ek:aY c t.env k=aY c s.env k:=bT (c:=c) fun i hi=>h1 i (.inr hi);simp only[eS,bT (c:=c) fun i hi=>h1 i (.inl hi),ek,e1,e,e2,hp,and_self,if_true,e3,hz]
 case zB K x k y=>
  exfalso;simp only[eS] at h
  repeat' split at h
  all_goals first
   |(cases h; done)
   |(simp only[af,aB] at h; obtain⟨_,_,rfl⟩:=h; simp[calm] at hf)
 all_goals
  simp only[eS] at h ⊢;exact pure h
end
end Go.Bm

/- A state without shadowed entries: who mentions a place, by what can be read. -/
namespace Go.Bm
open Go.Am
section
def Ks:List Nat->Env->Env
 |_,[]=>[]
 |sn,(i,v)::r=>if mem i sn then Ks sn r else (i,v)::Ks (i::sn) r
theorem KX:∀(sn:List Nat) (e:Env) (i:Nat),get (Ks sn e) i=if mem i sn=true then .any else get e i
 |sn,[],i=>by simp[Ks,Am.get]
 |sn,(j,v)::r,i=>by
   unfold Ks;by_cases hj:mem j sn=true
   ·rw[if_pos hj,KX sn r i];by_cases hi:mem i sn=true
    ·simp[hi]
    ·simp only[hi,bp,if_false,Am.get];have:j≠i:=fun e=>hi (e▸hj);have h2:i≠j:=fun e=>this e.symm;simp[hi,h2]
   ·rw[if_neg hj];simp only[Am.get];rw[KX (j::sn) r i];by_cases HX:j=i
    ·subst HX;simp[hj]
    ·have h2:i≠j:=fun e=>HX e.symm
     have:mem i (j::sn)=mem i sn:=by
      conv=>lhs; unfold mem
      rw[if_neg h2]
     simp only[this,h2,if_false]
theorem OR {f:Rt->Bool}:∀{e:Env} {i:Nat},xk f (aK (get e i))=true->Hj f e=true
 |[],i,h=>by simp[Am.get,aK,xk] at h
 |(j,v)::r,i,h=>by
   simp only[Am.get] at h;simp only[Hj,dS];split at h
   ·exact .inl h
   ·exact .inr (OR h)
theorem Hi {f:Rt->Bool}:∀{sn:List Nat} {e:Env},Hj f (Ks sn e)=true->∃i,mem i sn=false/\xk f (aK (Am.get e i))=true
 |sn,[],h=>by simp[Ks,Hj] at h
 |sn,(j,v)::r,h=>by
   unfold Ks at h;by_cases hj:mem j sn=true
   ·rw[if_pos hj] at h;obtain⟨i,h1,h2⟩:=Hi h;have tN:i≠j:=fun e=>by rw[e,hj] at h1; cases h1
    exact⟨i,h1,by simp only[Am.get]; rw[if_neg tN]; exact h2⟩
   ·rw[if_neg hj] at h;simp only[Hj,dS] at h;rcases h with h|h
    ·exact⟨j,by simpa using hj,by simp only[Am.get,if_true]; exact h⟩
    ·obtain⟨i,h1,h2⟩:=Hi h
     have tN:i≠j:=fun e=>by
      rw[e] at h1;unfold mem at h1;simp at h1
     refine⟨i,?_,by simp only[Am.get]; rw[if_neg tN]; exact h2⟩;unfold mem at h1;rw[if_neg tN] at h1;exact h1
def Qh (s:St):St:=⟨Ks [] s.env,s.H⟩
theorem qZ (s:St):dE s (Qh s):=⟨fun i=>by simp only[Qh]; rw[KX]; simp[mem],rfl⟩
end
end Go.Bm

/- A step is an operation's value, put to its slot; what a calm operation and one that writes a few places are worth. -/
namespace Go.Bm
open Go.Am
section
variable {P:Program} {c:dO} {call:Nat->List AV->Heap->Option (AV × Heap)}
def DE (c:dO) (call:Nat->List AV->Heap->Option (AV × Heap)) (s:St) (q:O):Option (AV × St × Fq):=
 match q.guard with
 |none=>eS c call s q.kd
 |some (g,want)=>match get s.env g with
   |.bool b=>if b=want then eS c call s q.kd else some (.undef,s,.no)
   |.undef=>some (.undef,s,.no)
   |_=>none
theorem v8 (s:St) (q:O):sj c call s q=match DE c call s q with
  |some (v,s',fl)=>Bl s.env q.dst v s' fl
  |none=>none:=by
 unfold sj DE;cases hg:q.guard with
 |none=>rfl
 |some p=>
   obtain⟨g,want⟩:=p;simp only;generalize get s.env g=u;cases u<;>try rfl
   rename_i b;simp only;by_cases hb:b=want
   ·simp only[hb,if_true]; rfl
   ·simp only[hb,if_false]
def jb (s:St) (d:Option Nat) (v:AV):St:=match d with
 |none=>s
 |some d=>⟨put s.env d v,s.H⟩
theorem gJ (s:St) (d:Option Nat) (v:AV):(jb s d v).H=s.H:=by cases d<;>rfl
theorem dU (s:St) (d:Option Nat) (v:AV) (i:Nat):get (jb s d v).env i=if d=some i then v else get s.env i:=by
 cases d with
 |none=>simp[jb]
 |some d=>
   simp only[jb,bD];by_cases h:i=d
   ·subst h; simp
   ·have:d≠i:=fun e=>h e.symm;simp[h,this]
theorem VS {s t:St} (h:dE s t) (d:Option Nat) (v:AV):dE (jb s d v) (jb t d v):=
 ⟨fun i=>by rw[dU,dU,h.1 i],by rw[gJ,gJ]; exact h.2⟩
def Ev (c:dO) (call:Nat->List AV->Heap->Option (AV × Heap)) (s:St) (q:O) (v:AV) (s1:St) (f:Fq):Prop:=
 yU q.kd=true/\∃ s0 t1,dE s s0/\DE c call s0 q=some (v,t1,f)/\dE t1 s1
theorem Ev.same {s t s1 t1:St} {q:O} {v:AV} {f:Fq} (h:Ev c call s q v s1 f) (e:dE s t) (e1:dE s1 t1):Ev c call t q v t1 f:=by
 obtain⟨hk,s0,u1,a,b,d⟩:=h;exact⟨hk,s0,u1,e.symm.trans a,b,d.trans e1⟩
structure Rs (c:dO) (call:Nat->List AV->Heap->Option (AV × Heap)) (s:St) (q:O) (v:AV) (s1:St) (f:Fq) (X:Heap):Prop where
 st:dE s1 ⟨s.env,s.H++X⟩
 nw:(X=[]/\∀ n,f≠.al n)\/∃ z,X=[z]/\f=.al s.H.length
 go:∀t:St,(∀i∈q.reads,eT i (get t.env i)=eT i (get s.env i))->yZ f s t->(∀n,f=.al n->t.H.length=n)->Ev c call t q v ⟨t.env,t.H++X⟩ f
 val:∀V:Rt->Prop,(∀i∈q.reads,(∀p∈aK (get s.env i),¬V p)/\¬ V (.s i)/\∀ j,¬V (.sc i j)) ->
  (∀ps,f=.rd ps->∀b,Rt.c b 0∈ps->∀cs,aJ s.H b=some cs->(∀p∈cW cs,¬V p)/\(bJ cs=true->∀j,¬V (.c b j))) ->
  (∀b j,f=.rc b j->∀cs c,aJ s.H b=some cs->cs[j]?=some c->(∀p∈aK c,¬V p)/\(∀k xs,c=.own k xs->¬V (.c b j)))->∀p∈aK v,¬V p
structure LwEv (c:dO) (call:Nat->List AV->Heap->Option (AV × Heap)) (s:St) (q:O) (v:AV) (s1:St) (b:Nat) (cs cs':List AV):Prop where
 bl:aJ s.H b=some cs
 st:dE s1 ⟨s.env,s.H.set b (some cs')⟩
 go:∀t:St,(∀i∈q.reads,get t.env i=get s.env i)->aJ t.H b=some cs->Ev c call t q v ⟨t.env,t.H.set b (some cs')⟩ (.lw b)
structure WrEv (c:dO) (call:Nat->List AV->Heap->Option (AV × Heap)) (s:St) (q:O) (v:AV) (s1:St) (sl:List Nat) (bs:Option (List Nat)) (V:Rt->Prop):Prop where
 env:∀i,i∉sl->i+kW∉sl->get s1.env i=get s.env i
 hd:∀i,i∉sl->eT i (get s1.env i)=eT i (get s.env i)
 keep:∀i,bL (get s.env i)=false->aK (get s.env i)=[]->get s1.env i=get s.env i
 heap:∀l,bs=some l->∀b,nf b l=false->aJ s1.H b=aJ s.H b
 cell:∀l,bs=some l->∀b j,b∉l->vB b j∉l->rU b j s s1/\rU b j s1 s
 v1:∀i,i∉sl->(∀p∈aK (get s.env i),¬V p)/\¬ V (.s i)/\∀ j,¬V (.sc i j)
 v2:∀l,bs=some l->∀b,nf b l=false->b+kW∉l->∀cs,aJ s.H b=some cs->(∀p∈cW cs,¬V p)/\(bJ cs=true->∀j,¬V (.c b j))
 v3:∀l,bs=some l->∀b j,b∉l->b+kW∉l->vB b j∉l->∀cs c,aJ s.H b=some cs->cs[j]?=some c->(∀p∈aK c,¬V p)/\(∀k xs,c=.own k xs->¬V (.c b j))
 go:∀d u,d∉q.reads->d∉sl->d+kW∉sl->(∀p∈aK u,¬V p)->∃t1 sl',Ev c call ⟨put s.env d u,s.H⟩ q v t1 (.wr sl' bs)/\(∀i∈sl',i∈sl)/\dE t1 ⟨put s1.env d u,s1.H⟩
end
end Go.Bm

/- Two steps whose order is open commute, given what single operations are worth. -/
namespace Go.Bm
open Go.Am
section
variable {P:Program} {c:dO} {call:Nat->List AV->Heap->Option (AV × Heap)}
def qW (c:dO) (call:Nat->List AV->Heap->Option (AV × Heap)):Prop:=∀s q v s1 f,Ev c call s q v s1 f->calm f=true->∃X,Rs c call s q v s1 f X
def BC (c:dO) (call:Nat->List AV->Heap->Option (AV × Heap)):Prop:=∀s q v s1 sl bs,Ev c call s q v s1 (.wr sl bs)->∃V,WrEv c call s q v s1 sl bs V
def BE (c:dO) (call:Nat->List AV->Heap->Option (AV × Heap)):Prop:=∀s q v s1 b,Ev c call s q v s1 (.lw b)->∃cs cs',LwEv c call s q v s1 b cs cs'
theorem afE {s s1:St} {q:O} {v:AV} {f:Fq} (h:DE c call s q=some (v,s1,f)):∀ps,f≠.bo ps:=by
 have eP:∀{kd:Kd} {v:AV} {s1:St} {f:Fq},eS c call s kd=some (v,s1,f)->∀ps,f≠.bo ps:=by
  intro kd v s1 f h ps e;subst e
  have st:∀{s s':St} {k:Nat} {a v:AV},O4 s k a v≠some (s',.bo ps):=by
   intro s s' k a v h;unfold O4 yP at h
   repeat' split at h
   all_goals first
    |(cases h; done)
    |(simp at h; done)
  have ic:∀{kd:Kd},qG c s kd≠some (some (v,s1,.bo ps)):=fun h=>by
   obtain⟨sl,bs,e|e⟩:=Ba h<;>cases e
  have oc:∀{kd:Kd},dq c call kd s≠some (v,s1,.bo ps):=by
   intro kd h;unfold dq at h;split at h
   ·rename_i r hi; subst h; exact ic hi
   split at h
   ·rename_i r hi; subst h; obtain⟨b,e⟩:=Eh hi; cases e
   unfold fP at h;split at h
   ·rename_i r hi; subst h; obtain⟨e,_⟩:=xR hi; cases e
   ·replace h:=(iH h).resolve_right fun h=>by obtain⟨e,_⟩:=xJ h; cases e
    unfold dP at h
    (repeat' split at h)
    all_goals first
     |(cases h; done)
     |(simp[Cu] at h; done)
     |(simp at h; obtain⟨_,_,h5⟩:=h; revert h5; split<;>simp[Cu])
  cases kd<;>simp only[eS] at h
  case call=>exact oc h
  case iR=>exact oc h
  case st k a v=>
   split at h
   ·split at h
    case h_2=>cases h
    rename_i hh;simp only[af,aB] at h;obtain⟨_,_,h5⟩:=h;split at h5
    ·rw[h5] at hh; exact st hh
    ·cases h5
   ·split at h
    case h_2=>cases h
    rename_i hh;simp only[af,aB] at h;obtain⟨_,_,h5⟩:=h;rw[h5] at hh;exact st hh
  all_goals
   (repeat' split at h)
   all_goals first
    |(cases h; done)
    |(simp at h; done)
    |(simp[Cu] at h; done)
    |(simp at h; obtain⟨_,_,h5⟩:=h; rcases wU _ _ _ with e|⟨b,j,e⟩<;>rw[e] at h5<;>cases h5; done)
    |(simp at h; obtain⟨_,_,h5⟩:=h; rcases xf _ _ with e|⟨_,_,_,_,e⟩<;>rw[e] at h5<;>cases h5; done)
    |(simp at h; obtain⟨_,_,h5⟩:=h; revert h5; split<;>simp)
 unfold DE at h;split at h
 ·exact eP h
 ·split at h
  ·split at h
   ·exact eP h
   ·simp at h; obtain⟨_,_,rfl⟩:=h; intro ps; simp
  ·simp at h; obtain⟨_,_,rfl⟩:=h; intro ps; simp
  ·cases h
theorem Ev.fl {s s1:St} {q:O} {v:AV} {f:Fq} (h:Ev c call s q v s1 f):∀ps,f≠.bo ps:=let ⟨_,_,_,_,b,_⟩:=h; afE b
theorem iT {e e':Env} {d:Option Nat} {f:Fq} (h:∀i,d=some i->get e i=get e' i):bP e d f=bP e' d f:=by
 unfold bP;cases d with
 |none=>rfl
 |some d=>simp only; rw[h d rfl]
theorem sr {e:Env} {d:Option Nat} {f:Fq} (h:nW (bP e d f)=true):∀i,d=some i->bL (get e i)=false:=by
 rintro i rfl;unfold bP at h;cases hh:bL (get e i) with
 |false=>rfl
 |true=>simp[hh,nW] at h
theorem oe {e:Env} {d:Option Nat} {sl:List Nat} {bs:Option (List Nat)} (h:nW (bP e d (.wr sl bs))=true):bP e d (.wr sl bs)=.wr sl bs/\∀ i,d=some i->bL (get e i)=false/\aK (get e i)=[]:=by
 refine⟨?_,fun i hi=>⟨sr h i hi,?_⟩⟩
 ·unfold bP at h ⊢;cases d with
  |none=>rfl
  |some d=>
    simp only at h ⊢;split at h
    ·simp[nW] at h
    rename_i h1;rw[if_neg h1];split at h
    ·rename_i h2; rw[if_pos h2]
    ·simp[nW] at h
 ·subst hi;unfold bP at h;simp only at h;split at h
  ·simp[nW] at h
  ·split at h
   ·rename_i h2; exact fa.1 h2
   ·simp[nW] at h
theorem we {e:Env} {d:Option Nat} {b:Nat} (h:nW (bP e d (.lw b))=true):bP e d (.lw b)=.lw b/\∀ i,d=some i->bL (get e i)=false/\aK (get e i)=[]:=by
 refine⟨?_,fun i hi=>⟨sr h i hi,?_⟩⟩
 ·unfold bP at h ⊢;cases d with
  |none=>rfl
  |some d=>
    simp only at h ⊢;split at h
    ·simp[nW] at h
    rename_i h1;rw[if_neg h1];split at h
    ·rename_i h2; rw[if_pos h2]
    ·simp[nW] at h
 ·subst hi;unfold bP at h;simp only at h;split at h
  ·simp[nW] at h
  ·split at h
   ·rename_i h2; exact fa.1 h2
   ·simp[nW] at h
theorem wg {e:Env} {d:Option Nat} {f:Fq} (h:nW (bP e d f)=true):nW f=true:=by
 unfold bP at h;split at h
 ·exact h
 ·split at h
  ·simp[nW] at h
  ·split at h
   ·exact h
   ·split at h
    ·rfl
    ·rfl
    ·rfl
    ·simp[nW] at h
theorem CN {e e':Env} {d:Option Nat} {sl sl':List Nat} {bs bs':Option (List Nat)} (h:∀i,d=some i->bL (get e i)=false/\aK (get e i)=[]):bP e d (.wr sl bs)=.wr sl bs:=by
 unfold bP;cases d with
 |none=>rfl
 |some d=>simp[h d rfl]
theorem TS.out (HC:qW c call) (HW:BC c call) (HL:BE c call) {s s':St} {q:O} {f:Fq} (h:TS c call s q f s') (hf:nW f=true):∃v s1 f1,Ev c call s q v s1 f1/\nW (bP s.env q.dst f1)=true/\Ap (bP s.env q.dst f1) f/\dE s' (jb s1 q.dst v):=by
 obtain⟨hk,s0,t1,f0,e0,HU,hle,e1⟩:=h;rw[v8] at HU;split at HU
 case h_2=>cases HU
 rename_i v u1 f1 he;have Xd:=Bk HU;have Wk:bP s0.env q.dst f1=bP s.env q.dst f1:=iT fun i _=>(e0.1 i).symm
 have hcw:nW (bP s.env q.dst f1)=true:=by
  rw[<-Wk,<-Xd];cases f0<;>cases f<;>simp[Ap,nW] at hle hf ⊢
 have ZL:Ev c call s q v u1 f1:=⟨hk,s0,u1,e0,he,dE.rfl'⟩;refine⟨v,u1,f1,ZL,hcw,by rw[<-Wk,<-Xd]; exact hle,?_⟩;unfold Bl at HU;split at HU
 case h_2=>cases HU
 rename_i u2 hp;simp only[af,aB] at HU;obtain⟨rfl,_⟩:=HU;refine e1.symm.trans ?_;cases hd:q.dst with
 |none=>rw[hd] at hp; simp[yT] at hp; subst hp; exact dE.rfl'
 |some d=>
   rw[hd] at hp
   have gV:bL (get u1.env d)=false:=by
    have h0:=sr hcw d hd;have Pf:=wg hcw;by_cases N8:calm f1=true
    ·obtain⟨X,hX⟩:=HC _ _ _ _ _ ZL N8;rw[hX.st.1 d];exact h0
    ·cases f1<;>simp[calm,nW] at N8 Pf
     case wr sl bs=>
      obtain⟨V,hV⟩:=HW _ _ _ _ _ _ ZL;have h2:=(oe hcw).2 d hd;rw[hV.keep d h2.1 h2.2];exact h0
     case lw b=>
      obtain⟨cs,cs',hL⟩:=HL _ _ _ _ _ ZL;rw[hL.st.1 d];exact h0
     case bo=>exact absurd rfl (ZL.fl _)
   simp only[yT,VT,LX,gV,Bool.false_and,bp,if_false,af] at hp;subst hp;exact dE.rfl'
theorem TS.mk (HC:qW c call) (HW:BC c call) (HL:BE c call) {s s1 s':St} {q:O} {v:AV} {f f1:Fq} (ZL:Ev c call s q v s1 f1) (hcw:nW (bP s.env q.dst f1)=true) (hle:Ap (bP s.env q.dst f1) f) (hs:dE s' (jb s1 q.dst v)):TS c call s q f s':=by
 have hev':=ZL;obtain⟨hk,s0,t1,e0,he,e1⟩:=hev';have Wk:bP s0.env q.dst f1=bP s.env q.dst f1:=iT fun i _=>(e0.1 i).symm
 have zR:yT t1 q.dst v=some (jb t1 q.dst v):=by
  cases hd:q.dst with
  |none=>rfl
  |some d=>
    have gV:bL (get t1.env d)=false:=by
     have h0:=sr hcw d hd;have Pf:=wg hcw;rw[e1.1 d];by_cases N8:calm f1=true
     ·obtain⟨X,hX⟩:=HC _ _ _ _ _ ZL N8;rw[hX.st.1 d];exact h0
     ·cases f1<;>simp[calm,nW] at N8 Pf
      case wr sl bs=>
       obtain⟨V,hV⟩:=HW _ _ _ _ _ _ ZL;have h2:=(oe hcw).2 d hd;rw[hV.keep d h2.1 h2.2];exact h0
      case lw b=>
       obtain⟨cs,cs',hL⟩:=HL _ _ _ _ _ ZL;rw[hL.st.1 d];exact h0
      case bo=>exact absurd rfl (ZL.fl _)
    simp only[yT,VT,LX,gV,Bool.false_and,bp,if_false,jb]
 refine⟨hk,s0,jb t1 q.dst v,bP s.env q.dst f1,e0,?_,hle,(VS e1 _ _).trans hs.symm⟩;rw[v8,he];simp only[Bl,zR,Wk]
end
end Go.Bm

/- Two steps whose order is open commute. -/
namespace Go.Bm
open Go.Am
section
variable {P:Program} {c:dO} {call:Nat->List AV->Heap->Option (AV × Heap)}
theorem fG {d:Nat}:∀{ps:List Rt},gF d ps=true->∀p∈ps,(∀i,p=.s i->i≠d)/\∀ i j,p=.sc i j->i≠d
 |[],_,p,hp=>by simp at hp
 |q::r,h,p,hp=>by
   have ih:gF d r=true->p∈r->_:=fun h hp=>fG (d:=d) h p hp;rcases aO.1 hp with e|e
   ·subst e;cases p with
    |s i=>simp only[gF,ae,decide_eq_true_eq] at h; exact⟨(fun k hk=>by cases hk; exact h.1),fun k j hk=>by cases hk⟩
    |sc i j=>simp only[gF,ae,decide_eq_true_eq] at h; exact⟨(fun k hk=>by cases hk),fun k l hk=>(by cases hk; exact h.1)⟩
    |c b j=>exact⟨(fun k hk=>by cases hk),fun k l hk=>by cases hk⟩
   ·have h':gF d r=true:=by
     cases q<;>simp only[gF,ae] at h
     ·exact h.2
     ·exact h.2
     ·exact h
    exact ih h' e
theorem uu {sl:List Nat} {bs:Option (List Nat)}:∀{ps:List Rt},qJ sl bs ps=true->∀p∈ps,(∀i,p=.s i->i∉sl/\i+kW∉sl)/\(∀i j,p=.sc i j->i∉sl/\i+kW∉sl)/\∀ b j,p=.c b j->∃l,bs=some l/\nf b l=false/\(j=0->b+kW∉l)
 |[],_,p,hp=>by simp at hp
 |q::r,h,p,hp=>by
   have nm:∀{i:Nat} {l:List Nat},mem i l=false->i∉l:=fun h hi=>by rw[mem_iff.2 hi] at h; cases h
   rcases aO.1 hp with e|e
   ·subst e;cases p with
    |s i=>simp only[qJ,ae,bt] at h; exact⟨fun k hk=>(by cases hk; exact⟨nm h.1.1,nm h.1.2⟩),(fun k j hk=>by cases hk),fun k j hk=>by cases hk⟩
    |sc i j=>simp only[qJ,ae,bt] at h; exact⟨(fun k hk=>by cases hk),(fun k l hk=>(by cases hk; exact⟨nm h.1.1,nm h.1.2⟩)),fun k j hk=>by cases hk⟩
    |c b j=>
      simp only[qJ,ae] at h;refine⟨(fun k hk=>by cases hk),(fun k l hk=>by cases hk),fun k l hk=>?_⟩;cases hk;cases bs with
      |none=>simp at h
      |some l=>
        simp only[ae,bt,dS,decide_eq_true_eq] at h;exact⟨l,rfl,h.1.1,fun e=>h.1.2.elim (fun q=>absurd e q) nm⟩
   ·have h':qJ sl bs r=true:=by
     cases q<;>simp only[qJ,ae] at h<;>exact h.2
    exact uu h' p e
theorem F5 {sl:List Nat}:∀{l:List Nat},F6 sl l=true->∀i∈l,i∉sl
 |[],_,i,hi=>by simp at hi
 |j::r,h,i,hi=>by
   simp only[F6,ae,bt] at h;rcases aO.1 hi with e|e
   ·subst e; intro hm; rw[mem_iff.2 hm] at h; cases h.1
   ·exact F5 h.2 i e
theorem mA {n:Nat}:∀{ps:List Rt},gk n ps=true->∀b j,Rt.c b j∈ps->b<n
 |[],_,b,j,h=>by simp at h
 |q::r,h,b,j,hp=>by
   rcases aO.1 hp with e|e
   ·subst e; simp only[gk,ae,decide_eq_true_eq] at h; exact h.1
   ·have h':gk n r=true:=by cases q<;>simp only[gk,ae] at h<;>first|exact h|exact h.2
    exact mA h' b j e
theorem Seen.mk' {ps:List Rt} {s t:St} (h1:∀p∈ps,(∀i,p=.s i->get t.env i=get s.env i)/\(∀i j,p=.sc i j->get t.env i=get s.env i)/\∀ b j,p=.c b j->aJ t.H b=aJ s.H b):Seen ps s t:=by
 intro p hp;obtain⟨a,b,d⟩:=h1 p hp;refine⟨?_,fun k l e=>d k l e⟩;cases p with
 |s i=>simp only[au,at_]; rw[a i rfl]
 |sc i j=>simp only[au,at_]; rw[b i j rfl]
 |c k j=>simp only[au,at_]; rw[d k j rfl]
theorem xj {x y:O} (h:iY x y=true):(∀i,x.dst=some i->i∉y.reads/\y.dst≠some i)/\∀ i,y.dst=some i->i∉x.reads/\x.dst≠some i:=by
 have nm:∀{i:Nat} {l:List Nat},mem i l=false->i∉l:=fun h hi=>by rw[mem_iff.2 hi] at h; cases h
 unfold iY at h;simp only[ae] at h;obtain⟨h1,h2⟩:=h;refine⟨fun i hi=>?_,fun i hi=>?_⟩
 ·rw[hi] at h1;simp only[ae,bt,decide_eq_true_eq] at h1;exact⟨nm h1.1,h1.2⟩
 ·rw[hi] at h2;simp only[bt] at h2;refine⟨nm h2,fun e=>?_⟩;rw[e] at h1;simp only[ae,bt,decide_eq_true_eq] at h1;exact h1.2 hi
def BQ:Fq->List Rt
 |.rd ps=>ps
 |.bo ps=>ps
 |.rc b _=>[.c b 0]
 |_=>[]
theorem nq {e:Env} {d:Option Nat} {f:Fq} (h:nW (bP e d f)=true) (hc:calm f=true):BQ (bP e d f)=BQ f/\(∀n,f=.al n->bP e d f=.al n)/\(∀n,bP e d f=.al n->f=.al n)/\((∀ps,bP e d f≠.bo ps)->bP e d f=f/\∀ i,d=some i->aK (get e i)=[]):=by
 unfold bP at h ⊢;cases d with
 |none=>exact⟨rfl,fun n h=>h,fun n h=>h,fun _=>⟨rfl,fun i hi=>by cases hi⟩⟩
 |some d=>
   simp only at h ⊢;split at h
   ·simp[nW] at h
   rename_i h1;rw[if_neg h1];split at h
   ·rename_i h2;rw[if_pos h2];exact⟨rfl,fun n h=>h,fun n h=>h,fun _=>⟨rfl,fun i hi=>by cases hi; exact fa.1 h2⟩⟩
   ·rename_i h2;rw[if_neg h2];cases f<;>simp[calm,nW] at hc h ⊢<;>simp[BQ]
theorem Ap.cw {f g:Fq} (h:Ap f g) (hg:nW g=true):(∀sl bs,f≠.wr sl bs)->f=g:=by
 intro hn;cases f<;>cases g<;>simp[Ap,nW] at h hg hn ⊢<;>exact h
theorem I8 {f g:Fq} (h:f.ok g=true):nW f=true/\nW g=true:=by
 cases f<;>cases g<;>simp[Fq.ok,nW] at h ⊢
theorem YD {f g:Fq} {n m:Nat} (h:f.ok g=true) (hf:f=.al n):g≠.al m:=by
 subst hf; intro e; subst e; simp[Fq.ok] at h
theorem Yr {f g:Fq} {n:Nat} (h:f.ok g=true) (hf:f=.al n):gk n (BQ g)=true:=by
 subst hf; cases g<;>simp[Fq.ok,BQ,gk] at h ⊢<;>exact h
theorem Tz {f g:Fq} {n:Nat} (h:f.ok g=true) (hg:g=.al n):gk n (BQ f)=true:=by
 subst hg; cases f<;>simp[Fq.ok,BQ,gk] at h ⊢<;>exact h
theorem gY {d:Option Nat} {f:Fq} (h:Aa d f=true) (hf:nW f=true):∀i,d=some i->gF i (BQ f)=true:=by
 rintro i rfl;cases f<;>simp[Aa,BQ,gF] at h ⊢<;>exact h
theorem Ii {sl:List Nat} {bs:Option (List Nat)} {y:O} {g:Fq} (h:Ij (.wr sl bs) y g=true):(∀i∈y.reads,i∉sl)/\(∀i,y.dst=some i->i∉sl/\i+kW∉sl)/\(∀ps,g=.rd ps->qJ sl bs ps=true)/\∀ b j,g=.rc b j->∃l,bs=some l/\b∉l/\b+kW∉l/\vB b j∉l:=by
 have nm:∀{i:Nat} {l:List Nat},mem i l=false->i∉l:=fun h hi=>by rw[mem_iff.2 hi] at h; cases h
 simp only[Ij,ae] at h;obtain⟨⟨h1,h2⟩,h3⟩:=h;refine⟨F5 h1,fun i hi=>?_,fun ps hp=>?_,fun b j hp=>?_⟩
 ·rw[hi] at h2; simp only[ae,bt] at h2; exact⟨nm h2.1,nm h2.2⟩
 ·subst hp; exact h3
 ·subst hp;cases bs with
  |none=>simp[Li] at h3
  |some l=>
    simp only[Li,ae,bt] at h3;exact⟨l,rfl,nm h3.1,nm h3.2.1,nm h3.2.2⟩
theorem yw {H X:Heap} {b:Nat} (h:b<H.length):aJ (H++X) b=aJ H b:=by
 unfold aJ; rw[List.getElem?_append_left h]
theorem tI {b:Nat}:∀{l:List Nat},nf b l=true ↔ ∃x∈l,x=b\/KH b x=true
 |[]=>by simp[nf]
 |x::r=>by
   simp only[nf,dS,decide_eq_true_eq,tI (l:=r),aO,exists_eq_or_imp];exact⟨fun h=>h.elim (fun h=>.inl (.inl h)) (fun h=>h.elim (fun h=>.inl (.inr h)) .inr),fun h=>h.elim (fun h=>h.elim .inl (fun h=>.inr (.inl h))) (fun h=>.inr (.inr h))⟩
theorem JT {b:Nat} {l l':List Nat} (h:∀x∈l,x∈l') (hb:nf b l'=false):nf b l=false:=by
 cases e:nf b l with
 |false=>rfl
 |true=>
   obtain⟨x,h1,h2⟩:=tI.1 e;rw[tI.2 ⟨x,h x h1,h2⟩] at hb;cases hb
theorem nM {b:Nat} {l:List Nat} (h:nf b l=false):b∉l/\∀ j,vB b j∉l:=by
 refine⟨fun hb=>?_,fun j hb=>?_⟩
 ·rw[tI.2 ⟨b,hb,.inl rfl⟩] at h; cases h
 ·rw[tI.2 ⟨_,hb,.inr (by
   unfold KH vB OY;simp only[ae,decide_eq_true_eq];refine⟨by omega,by omega,?_⟩;rw[Nat.add_sub_cancel_left];exact Nat.mul_mod_left _ _)⟩] at h
  cases h
theorem rU.of_eq {b j:Nat} {s t:St} (h:aJ t.H b=aJ s.H b):rU b j s t:=fun cs hc=>⟨cs,by rw[h]; exact hc,rfl⟩
theorem WJ (HC:qW c call) (HW:BC c call) (HL:BE c call) {s s1 s2 u1 u2:St} {x y:O} {f g f1 g1:Fq} {vx vy:AV} (hx:Ev c call s x vx u1 f1) (Uf:nW (bP s.env x.dst f1)=true) (Cq:Ap (bP s.env x.dst f1) f) (Ub:dE s1 (jb u1 x.dst vx)) (hy:Ev c call s1 y vy u2 g1) (Wp:nW (bP s1.env y.dst g1)=true) (Cp:Ap (bP s1.env y.dst g1) g) (Ua:dE s2 (jb u2 y.dst vy)) (Pe:calm f1=true) (HZ:calm g1=true) (Cr:iY x y=true) (cX:ij x f y g=true) :
  ∃ HM,TS c call s y g HM/\TS c call HM x f s2:=by
 obtain⟨ax,ay⟩:=xj Cr;simp only[ij,ae] at cX;obtain⟨⟨cX,ZM,Du⟩,_⟩:=cX;obtain⟨cf,cg⟩:=I8 cX;obtain⟨X,hX⟩:=HC _ _ _ _ _ hx Pe;obtain⟨Y,hY⟩:=HC _ _ _ _ _ hy HZ;obtain⟨r1,r2,r3,_⟩:=nq Uf Pe;obtain⟨q1,q2,q3,_⟩:=nq Wp HZ
 have nwx:∀sl bs,bP s.env x.dst f1≠.wr sl bs:=fun sl bs e=>by
  have:=wg Uf;unfold bP at e;cases f1<;>simp[calm] at Pe<;>(repeat' split at e)<;>simp_all
 have nwy:∀sl bs,bP s1.env y.dst g1≠.wr sl bs:=fun sl bs e=>by
  unfold bP at e;cases g1<;>simp[calm] at HZ<;>(repeat' split at e)<;>simp_all
 have ef:bP s.env x.dst f1=f:=Cq.cw cf nwx;have eg:bP s1.env y.dst g1=g:=Cp.cw cg nwy;have DB:∀i,get s1.env i=if x.dst=some i then vx else get s.env i:=fun i=>by rw[Ub.1,dU,hX.st.1]
 have H1:s1.H=s.H++X:=by rw[Ub.2,gJ,hX.st.2]
 have K4:∀i,x.dst=some i->y.dst≠some i:=fun i h=>(ax i h).2
 -- y from s
 have yr:∀i∈y.reads,get s.env i=get s1.env i:=fun i hi=>by
  rw[DB,if_neg];intro e;exact (ax i e).1 hi
 have As:∀ps,g1=.rd ps->Seen ps s1 s:=fun ps vP=>by
  have w7:BQ g=ps:=by rw[<-eg,q1,vP]; rfl
  refine Seen.mk' fun p hp=>⟨fun i e=>?_,fun i j e=>?_,fun b j e=>?_⟩
  ·rw[DB,if_neg];intro e2;have:=gY ZM cg i e2;rw[w7] at this;exact (fG this p hp).1 i e rfl
  ·rw[DB,if_neg];intro e2;have:=gY ZM cg i e2;rw[w7] at this;exact (fG this p hp).2 i j e rfl
  ·subst e;rw[H1];rcases hX.nw with⟨e,_⟩|⟨z,e,e2⟩
   ·rw[e]; simp
   ·have:=Yr cX (by rw[<-ef]; exact r2 _ e2);rw[w7] at this;exact (yw (mA this b j hp)).symm
 have As:yZ g1 s1 s:=⟨As,fun b j hg=>by
  refine .of_eq ?_;rw[H1];rcases hX.nw with⟨e,_⟩|⟨z,e,e2⟩
  ·rw[e]; simp
  ·have:=Yr cX (by rw[<-ef]; exact r2 _ e2);rw[show BQ g=[.c b 0] by rw[<-eg,q1,hg]; rfl] at this;exact (yw (mA this b 0 (by simp))).symm⟩
 have yal:∀n,g1=.al n->s.H.length=n:=fun n hn=>by
  rcases hX.nw with⟨e,_⟩|⟨z,e,e2⟩
  ·rcases hY.nw with⟨e3,e4⟩|⟨z3,e3,e4⟩
   ·exact absurd hn (e4 n)
   ·rw[e4] at hn; cases hn; rw[H1,e]; simp
  ·exfalso;exact YD cX (by rw[<-ef]; exact r2 _ e2) (by rw[<-eg]; exact q2 n hn)
 have Gy:=hY.go s (fun i hi=>by rw[yr i hi]) As yal
 have gy:∀i,y.dst=some i->get s1.env i=get s.env i:=fun i hi=>by
  rw[DB,if_neg];intro e;exact K4 i e hi
 have RK:bP s.env y.dst g1=bP s1.env y.dst g1:=iT fun i hi=>(gy i hi).symm;refine⟨jb ⟨s.env,s.H++Y⟩ y.dst vy,TS.mk HC HW HL Gy (by rw[RK]; exact Wp) (by rw[RK]; exact Cp) dE.rfl',?_⟩
 -- x from there
 generalize ht:jb ⟨s.env,s.H++Y⟩ y.dst vy=t;have gt:∀i,get t.env i=if y.dst=some i then vy else get s.env i:=fun i=>by rw[<-ht,dU]
 have Ht:t.H=s.H++Y:=by rw[<-ht,gJ]
 have Hl:s.H.length<=s1.H.length:=by rw[H1]; simp
 have xr:∀i∈x.reads,get t.env i=get s.env i:=fun i hi=>by
  rw[gt,if_neg];intro e;exact (ay i e).1 hi
 have Au:∀ps,f1=.rd ps->Seen ps s t:=fun ps vP=>by
  have w7:BQ f=ps:=by rw[<-ef,r1,vP]; rfl
  refine Seen.mk' fun p hp=>⟨fun i e=>?_,fun i j e=>?_,fun b j e=>?_⟩
  ·rw[gt,if_neg];intro e2;have:=gY Du cf i e2;rw[w7] at this;exact (fG this p hp).1 i e rfl
  ·rw[gt,if_neg];intro e2;have:=gY Du cf i e2;rw[w7] at this;exact (fG this p hp).2 i j e rfl
  ·subst e;rw[Ht];rcases hY.nw with⟨e,_⟩|⟨z,e,e2⟩
   ·rw[e]; simp
   ·have h6:=Tz cX (by rw[<-eg]; exact q2 _ e2);rw[w7] at h6;have h7:=mA h6 b j hp;rcases hX.nw with⟨e3,_⟩|⟨z3,e3,e4⟩
    ·rw[H1,e3] at h7;exact yw (by simpa using h7)
    ·rw[vP] at e4; cases e4
 have Au:yZ f1 s t:=⟨Au,fun b j hg=>by
  refine .of_eq ?_;rw[Ht];rcases hY.nw with⟨e,_⟩|⟨z,e,e2⟩
  ·rw[e]; simp
  ·have h6:=Tz cX (by rw[<-eg]; exact q2 _ e2);rw[show BQ f=[.c b 0] by rw[<-ef,r1,hg]; rfl] at h6;have h7:=mA h6 b 0 (by simp);rcases hX.nw with⟨e3,_⟩|⟨z3,e3,e4⟩
   ·rw[H1,e3] at h7;exact yw (by simpa using h7)
   ·rw[hg] at e4; cases e4⟩
 have xal:∀n,f1=.al n->t.H.length=n:=fun n hn=>by
  rcases hX.nw with⟨_,e⟩|⟨z,e,e2⟩
  ·exact absurd hn (e n)
  ·rcases hY.nw with⟨e3,_⟩|⟨z3,e3,e4⟩
   ·rw[Ht,e3]; rw[hn] at e2; cases e2; simp
   ·exfalso;exact YD cX (by rw[<-ef]; exact r2 _ hn) (by rw[<-eg]; exact q2 _ e4)
 have HT:=hX.go t (fun i hi=>by rw[xr i hi]) Au xal
 have gx:∀i,x.dst=some i->get t.env i=get s.env i:=fun i hi=>by
  rw[gt,if_neg];exact K4 i hi
 have RL:bP t.env x.dst f1=bP s.env x.dst f1:=iT gx;refine TS.mk HC HW HL HT (by rw[RL]; exact Uf) (by rw[RL]; exact Cq) ⟨fun i=>?_,?_⟩
 ·rw[Ua.1,dU,hY.st.1,dU];show (if y.dst=some i then vy else get s1.env i)=(if x.dst=some i then vx else get t.env i);rw[DB,gt];by_cases e1:x.dst=some i
  ·have:=K4 i e1;simp[e1,this]
  ·simp[e1]
 ·rw[Ua.2,gJ,hY.st.2,gJ];show s1.H++Y=t.H++X;rw[H1,Ht];rcases hX.nw with⟨e,_⟩|⟨z,e,e2⟩
  ·rw[e]; simp
  ·rcases hY.nw with⟨e3,_⟩|⟨z3,e3,e4⟩
   ·rw[e3]; simp
   ·exact absurd (by rw[<-eg]; exact q2 _ e4) (YD cX (by rw[<-ef]; exact r2 _ e2))
theorem Ap.sub {sl sl':List Nat} {bs bs':Option (List Nat)} (h:Ap (.wr sl bs) (.wr sl' bs')):∀i∈sl,i∈sl':=h.1
theorem Ap.Ih {f:Fq} {sl:List Nat} {bs:Option (List Nat)} (h:Ap (.wr sl bs) f) (hc:nW f=true):∃sl' bs',f=.wr sl' bs':=by
 cases f<;>simp[Ap,nW] at h hc ⊢
theorem ag4 {f:Fq} {sl:List Nat} {bs:Option (List Nat)} (h:f.ok (.wr sl bs)=true):(∀ps,f≠.bo ps)/\(∀n,f≠.al n):=by
 cases f<;>simp[Fq.ok] at h ⊢
theorem Yp {f:Fq} {sl:List Nat} {bs:Option (List Nat)} (h:Fq.ok (.wr sl bs) f=true):(∀ps,f≠.bo ps)/\(∀n,f≠.al n)/\∀ sl bs,f≠.wr sl bs:=by
 cases f<;>simp[Fq.ok] at h ⊢
theorem ab7 (HC:qW c call) (HW:BC c call) (HL:BE c call) {s s1 s2 u1 u2:St} {x y:O} {f g f1:Fq} {VM:List Nat} {G8:Option (List Nat)} {vx vy:AV} (hx:Ev c call s x vx u1 f1) (Uf:nW (bP s.env x.dst f1)=true) (Cq:Ap (bP s.env x.dst f1) f) (Ub:dE s1 (jb u1 x.dst vx)) (hy:Ev c call s1 y vy u2 (.wr VM G8)) (Wp:nW (bP s1.env y.dst (.wr VM G8))=true) (Cp:Ap (bP s1.env y.dst (.wr VM G8)) g) (Ua:dE s2 (jb u2 y.dst vy)) (Pe:calm f1=true) (Cr:iY x y=true) (cX:ij x f y g=true) :
  ∃ HM,TS c call s y g HM/\TS c call HM x f s2:=by
 obtain⟨ax,ay⟩:=xj Cr;simp only[ij,ae] at cX;obtain⟨⟨cX,ZM,Du⟩,_,hw⟩:=cX;obtain⟨cf,cg⟩:=I8 cX;obtain⟨X,hX⟩:=HC _ _ _ _ _ hx Pe;obtain⟨V,hV⟩:=HW _ _ _ _ _ _ hy;obtain⟨r1,r2,r3,r4⟩:=nq Uf Pe;obtain⟨q1,q2⟩:=oe Wp;rw[q1] at Cp;obtain⟨sl,bs,rfl⟩:=Cp.Ih cg;obtain⟨o1,o2⟩:=ag4 cX
 have nwx:∀sl bs,bP s.env x.dst f1≠.wr sl bs:=fun sl bs e=>by
  unfold bP at e;cases f1<;>simp[calm] at Pe<;>(repeat' split at e)<;>simp_all
 have ef:bP s.env x.dst f1=f:=Cq.cw cf nwx;obtain⟨e1,Xe⟩:=r4 (fun ps e=>o1 ps (ef▸e));have ef':f1=f:=e1▸ef
 have hX0:X=[]:=by
  rcases hX.nw with⟨e,_⟩|⟨z,e,e2⟩
  ·exact e
  ·exact absurd (ef'▸e2) (o2 _)
 subst hX0;obtain⟨w1,w2,w3,w4⟩:=Ii hw;have sub:∀{i:Nat},i∉sl->i∉VM:=fun h hi=>h (Cp.sub _ hi);have K4:∀i,x.dst=some i->y.dst≠some i:=fun i h=>(ax i h).2;have DB:∀i,get s1.env i=if x.dst=some i then vx else get s.env i:=fun i=>by rw[Ub.1,dU,hX.st.1]
 have H1:s1.H=s.H:=by rw[Ub.2,gJ,hX.st.2]; simp
 -- y from s
 have DX:∃t1 sl',Ev c call s y vy t1 (.wr sl' G8)/\(∀i∈sl',i∈VM)/\(∀i,get t1.env i=if x.dst=some i then get s.env i else get u2.env i)/\t1.H=u2.H:=by
  cases hd:x.dst with
  |none=>
    refine⟨u2,VM,hy.same ⟨fun i=>?_,H1⟩ dE.rfl',fun i hi=>hi,fun i=>by simp,rfl⟩;rw[DB,hd]; simp
  |some d=>
    obtain⟨t1,sl',h1,h2,h3⟩:=hV.go d (get s.env d) (fun h=>(ax d hd).1 h) (sub (w2 d hd).1) (sub (w2 d hd).2) (fun p hp=>by rw[Xe d hd] at hp; simp at hp);refine⟨t1,sl',h1.same ⟨fun i=>?_,H1⟩ dE.rfl',h2,fun i=>?_,h3.2⟩
    ·show get (put s1.env d (get s.env d)) i=get s.env i;rw[bD];split
     ·rename_i e; rw[e]
     ·rename_i e;rw[DB,hd,if_neg];simp; exact fun h=>e h.symm
    ·rw[h3.1];show get (put u2.env d (get s.env d)) i=_;rw[bD];by_cases e:i=d
     ·subst e; simp
     ·have:d≠i:=fun h=>e h.symm;simp[e,this]
 obtain⟨t1,sl',Gy,hsl',gt1,Ht1⟩:=DX
 have gy:∀i,y.dst=some i->get s1.env i=get s.env i:=fun i hi=>by
  rw[DB,if_neg];intro e;exact K4 i e hi
 have RK:bP s.env y.dst (.wr sl' G8)=.wr sl' G8:=CN (sl':=sl') (bs':=G8) (e':=s.env) fun i hi=>by rw[<-gy i hi]; exact q2 i hi
 have ley:Ap (.wr sl' G8) (.wr sl bs):=⟨fun i hi=>Cp.1 i (hsl' i hi),Cp.2⟩;refine⟨jb t1 y.dst vy,TS.mk HC HW HL Gy (by rw[RK]; rfl) (by rw[RK]; exact ley) dE.rfl',?_⟩;generalize ht:jb t1 y.dst vy=t;have gt:∀i,get t.env i=if y.dst=some i then vy else if x.dst=some i then get s.env i else get u2.env i:=fun i=>by rw[<-ht,dU,gt1]
 have Ht:t.H=u2.H:=by rw[<-ht,gJ,Ht1]
 have OP:∀i,i∉sl->i+kW∉sl->y.dst≠some i->get t.env i=get s.env i:=fun i hi hi2 hd=>by
  rw[gt,if_neg hd];split
  ·rfl
  ·rename_i e;rw[hV.env i (sub hi) (sub hi2),DB,if_neg e]
 have aaw:∀i,i∉sl->y.dst≠some i->eT i (get t.env i)=eT i (get s.env i):=fun i hi hd=>by
  rw[gt,if_neg hd];split
  ·rfl
  ·rename_i e;rw[hV.hd i (sub hi),DB,if_neg e]
 have xr:∀i∈x.reads,eT i (get t.env i)=eT i (get s.env i):=fun i hi=>aaw i (w1 i hi) fun e=>(ay i e).1 hi
 have Au:∀ps,f1=.rd ps->Seen ps s t:=fun ps vP=>by
  have w7:f=.rd ps:=by rw[<-ef']; exact vP
  refine Seen.mk' fun p hp=>?_;obtain⟨a1,a2,a3⟩:=uu (w3 ps w7) p hp
  have ns:∀i,y.dst=some i->(∀k,p=.s k->k≠i)/\∀ k j,p=.sc k j->k≠i:=fun i hi=>by
   have:=gY Du cf i hi;rw[w7] at this;exact fG this p hp
  refine⟨fun i e=>OP i (a1 i e).1 (a1 i e).2 fun h=>(ns i h).1 i e rfl,fun i j e=>OP i (a2 i j e).1 (a2 i j e).2 fun h=>(ns i h).2 i j e rfl,fun b j e=>?_⟩;obtain⟨l,e5,e6,_⟩:=a3 b j e;subst e5;have h8:=Cp.2;cases G8 with
  |none=>simp at h8
  |some l0=>
    rw[Ht,hV.heap l0 rfl b (JT h8 e6),H1]
 have Au:yZ f1 s t:=⟨Au,fun b j vP=>by
  have w7:f=.rc b j:=by rw[<-ef']; exact vP
  obtain⟨l,e5,e6,e7,e8⟩:=w4 b j w7;subst e5;have h8:=Cp.2;cases G8 with
  |none=>simp at h8
  |some l0=>
    have h9:=(hV.cell l0 rfl b j (fun h=>e6 (h8 b h)) (fun h=>e8 (h8 _ h))).1;intro cs hc;rw[<-H1] at hc;rw[Ht];exact h9 cs hc⟩
 have xal:∀n,f1=.al n->t.H.length=n:=fun n hn=>absurd (ef'▸hn) (o2 n);have HT:=hX.go t xr Au xal;have gx:∀i,x.dst=some i->get t.env i=get s.env i:=fun i hi=>OP i (w2 i hi).1 (w2 i hi).2 (K4 i hi);have RL:bP t.env x.dst f1=bP s.env x.dst f1:=iT gx;refine TS.mk HC HW HL HT (by rw[RL]; exact Uf) (by rw[RL]; exact Cq) ⟨fun i=>?_,?_⟩
 ·rw[Ua.1,dU,dU];show (if y.dst=some i then vy else get u2.env i)=(if x.dst=some i then vx else get t.env i);rw[gt];by_cases e1:x.dst=some i
  ·have:=K4 i e1;simp only[e1,this,if_true,if_false];rw[hV.env i (sub (w2 i e1).1) (sub (w2 i e1).2),DB,if_pos e1]
  ·simp[e1]
 ·rw[Ua.2,gJ,gJ];show u2.H=t.H++[];rw[Ht]; simp
theorem ab5 (HC:qW c call) (HW:BC c call) (HL:BE c call) {s s1 s2 u1 u2:St} {x y:O} {f g g1:Fq} {VM:List Nat} {G8:Option (List Nat)} {vx vy:AV} (hx:Ev c call s x vx u1 (.wr VM G8)) (Uf:nW (bP s.env x.dst (.wr VM G8))=true) (Cq:Ap (bP s.env x.dst (.wr VM G8)) f) (Ub:dE s1 (jb u1 x.dst vx)) (hy:Ev c call s1 y vy u2 g1) (Wp:nW (bP s1.env y.dst g1)=true) (Cp:Ap (bP s1.env y.dst g1) g) (Ua:dE s2 (jb u2 y.dst vy)) (HZ:calm g1=true) (Cr:iY x y=true) (cX:ij x f y g=true) :
  ∃ HM,TS c call s y g HM/\TS c call HM x f s2:=by
 obtain⟨ax,ay⟩:=xj Cr;simp only[ij,ae] at cX;obtain⟨⟨cX,ZM,Du⟩,hw,_⟩:=cX;obtain⟨cf,cg⟩:=I8 cX;obtain⟨V,hV⟩:=HW _ _ _ _ _ _ hx;obtain⟨Y,hY⟩:=HC _ _ _ _ _ hy HZ;obtain⟨r1,r2⟩:=oe Uf;obtain⟨q1,q2,q3,q4⟩:=nq Wp HZ;rw[r1] at Cq;obtain⟨sl,bs,rfl⟩:=Cq.Ih cf;obtain⟨o1,o2,_⟩:=Yp cX
 have nwy:∀sl bs,bP s1.env y.dst g1≠.wr sl bs:=fun sl bs e=>by
  unfold bP at e;cases g1<;>simp[calm] at HZ<;>(repeat' split at e)<;>simp_all
 have eg:bP s1.env y.dst g1=g:=Cp.cw cg nwy;obtain⟨e1,_⟩:=q4 (fun ps e=>o1 ps (eg▸e));have eg':g1=g:=e1▸eg
 have hY0:Y=[]:=by
  rcases hY.nw with⟨e,_⟩|⟨z,e,e2⟩
  ·exact e
  ·exact absurd (eg'▸e2) (o2 _)
 subst hY0;obtain⟨w1,w2,w3,w4⟩:=Ii hw;have sub:∀{i:Nat},i∉sl->i∉VM:=fun h hi=>h (Cq.sub _ hi);have K4:∀i,x.dst=some i->y.dst≠some i:=fun i h=>(ax i h).2;have DB:∀i,get s1.env i=if x.dst=some i then vx else get u1.env i:=fun i=>by rw[Ub.1,dU]
 have H1:s1.H=u1.H:=by rw[Ub.2,gJ]
 have OP:∀i,i∉sl->i+kW∉sl->x.dst≠some i->get s.env i=get s1.env i:=fun i hi hi2 hd=>by rw[DB,if_neg hd,hV.env i (sub hi) (sub hi2)]
 have aaw:∀i,i∉sl->x.dst≠some i->eT i (get s.env i)=eT i (get s1.env i):=fun i hi hd=>by rw[DB,if_neg hd,hV.hd i (sub hi)]
 have adV:∀b j,g1=.rc b j->∃l,G8=some l/\b∉l/\b+kW∉l/\vB b j∉l:=fun b j vP=>by
  obtain⟨l,e5,e6,e7,e8⟩:=w4 b j (by rw[<-eg']; exact vP);subst e5;have h8:=Cq.2;cases G8 with
  |none=>simp at h8
  |some l0=>exact⟨l0,rfl,fun h=>e6 (h8 b h),fun h=>e7 (h8 _ h),fun h=>e8 (h8 _ h)⟩
 have boxes:∀{ps:List Rt},g1=.rd ps->∀b j,Rt.c b j∈ps->∃l,G8=some l/\nf b l=false/\(j=0->b+kW∉l):=fun{ps} vP b j hp=>by
  have w7:g=.rd ps:=by rw[<-eg']; exact vP
  obtain⟨_,_,a3⟩:=uu (w3 ps w7) _ hp;obtain⟨l,e5,e6,e7⟩:=a3 b j rfl;subst e5;have h8:=Cq.2;cases G8 with
  |none=>simp at h8
  |some l0=>exact⟨l0,rfl,JT h8 e6,fun e h=>e7 e (h8 _ h)⟩
 have yr:∀i∈y.reads,eT i (get s.env i)=eT i (get s1.env i):=fun i hi=>aaw i (w1 i hi) fun e=>(ax i e).1 hi
 have As:∀ps,g1=.rd ps->Seen ps s1 s:=fun ps vP=>by
  have w7:g=.rd ps:=by rw[<-eg']; exact vP
  refine Seen.mk' fun p hp=>?_;obtain⟨a1,a2,_⟩:=uu (w3 ps w7) p hp
  have ns:∀i,x.dst=some i->(∀k,p=.s k->k≠i)/\∀ k j,p=.sc k j->k≠i:=fun i hi=>by
   have:=gY ZM cg i hi;rw[w7] at this;exact fG this p hp
  refine⟨fun i e=>OP i (a1 i e).1 (a1 i e).2 fun h=>(ns i h).1 i e rfl,fun i j e=>OP i (a2 i j e).1 (a2 i j e).2 fun h=>(ns i h).2 i j e rfl,fun b j e=>?_⟩;subst e;obtain⟨l,e5,e6,_⟩:=boxes vP b j hp;rw[H1,hV.heap l e5 b e6]
 have As:yZ g1 s1 s:=⟨As,fun b j vP=>by
  obtain⟨l,e5,e6,e7,e8⟩:=adV b j vP;intro cs hc;rw[H1] at hc;exact (hV.cell l e5 b j e6 e8).2 cs hc⟩
 have yal:∀n,g1=.al n->s.H.length=n:=fun n hn=>absurd (eg'▸hn) (o2 n);have Gy:=hY.go s yr As yal;have gy:∀i,y.dst=some i->get s1.env i=get s.env i:=fun i hi=>(OP i (w2 i hi).1 (w2 i hi).2 (fun e=>K4 i e hi)).symm;have RK:bP s.env y.dst g1=bP s1.env y.dst g1:=iT fun i hi=>(gy i hi).symm;refine⟨jb ⟨s.env,s.H++[]⟩ y.dst vy,TS.mk HC HW HL Gy (by rw[RK]; exact Wp) (by rw[RK]; exact Cp) dE.rfl',?_⟩
 have agb:∀p∈aK vy,¬V p:=by
  obtain⟨Y',hYs⟩:=HC _ _ _ _ _ Gy HZ;refine hYs.val V (fun i hi=>hV.v1 i (sub (w1 i hi))) (fun ps vP b hp cs hb=>?_) fun b j vP cs c0 hb hc=>?_
  ·obtain⟨l0,e5,e6,e7⟩:=boxes vP b 0 hp;exact hV.v2 l0 e5 b e6 (e7 rfl) cs hb
  ·obtain⟨l0,e5,e6,e7,e8⟩:=adV b j vP;exact hV.v3 l0 e5 b j e6 e7 e8 cs c0 hb hc
 have DX:∃t1 sl',Ev c call (jb ⟨s.env,s.H++[]⟩ y.dst vy) x vx t1 (.wr sl' G8)/\(∀i∈sl',i∈VM)/\dE t1 (jb u1 y.dst vy):=by
  cases hd:y.dst with
  |none=>exact⟨u1,VM,hx.same ⟨fun i=>rfl,by simp[jb]⟩ dE.rfl',fun i hi=>hi,dE.rfl'⟩
  |some d=>
    obtain⟨t1,sl',h1,h2,h3⟩:=hV.go d vy (fun h=>(ay d hd).1 h) (sub (w2 d hd).1) (sub (w2 d hd).2) agb;exact⟨t1,sl',h1.same ⟨fun i=>rfl,by simp[jb]⟩ dE.rfl',h2,h3⟩
 obtain⟨t1,sl',HT,hsl',ht1⟩:=DX;have gx:∀i,x.dst=some i->get (jb ⟨s.env,s.H++[]⟩ y.dst vy).env i=get s.env i:=fun i hi=>by rw[dU,if_neg (K4 i hi)]
 have RL:bP (jb ⟨s.env,s.H++[]⟩ y.dst vy).env x.dst (.wr sl' G8)=.wr sl' G8:=CN (sl':=sl') (bs':=G8) (e':=s.env) fun i hi=>by rw[gx i hi]; exact r2 i hi
 have lex:Ap (.wr sl' G8) (.wr sl bs):=⟨fun i hi=>Cq.1 i (hsl' i hi),Cq.2⟩;refine TS.mk HC HW HL HT (by rw[RL]; rfl) (by rw[RL]; exact lex) ⟨fun i=>?_,?_⟩
 ·rw[Ua.1,dU,hY.st.1,dU,ht1.1,dU];show (if y.dst=some i then vy else get s1.env i)=(if x.dst=some i then vx else if y.dst=some i then vy else get u1.env i);rw[DB];by_cases e1:x.dst=some i
  ·have:=K4 i e1;simp[e1,this]
  ·simp[e1]
 ·rw[Ua.2,gJ,hY.st.2,gJ,ht1.2,gJ];show s1.H++[]=u1.H;rw[H1]; simp
theorem Ap.Nc {f:Fq} {b:Nat} (h:Ap (.lw b) f) (hc:nW f=true):f=.lw b:=by
 cases f<;>simp[Ap,nW] at h hc ⊢
 exact h.symm
theorem adK {f:Fq} {b:Nat} (h:f.ok (.lw b)=true):(∀ps,f≠.bo ps)/\(∀n,f=.al n->b<n)/\(∀ps,f=.rd ps->rC b ps=true)/\(∀d j,f=.rc d j->d≠b)/\(∀sl bs,f≠.wr sl bs)/\∀ d,f≠.lw d:=by
 cases f<;>simp[Fq.ok] at h ⊢<;>exact h
theorem Yx {f:Fq} {b:Nat} (h:Fq.ok (.lw b) f=true):(∀ps,f≠.bo ps)/\(∀n,f=.al n->b<n)/\(∀ps,f=.rd ps->rC b ps=true)/\(∀d j,f=.rc d j->d≠b)/\(∀sl bs,f≠.wr sl bs)/\∀ d,f≠.lw d:=by
 cases f<;>simp[Fq.ok] at h ⊢<;>exact h
theorem zz {b:Nat}:∀{ps:List Rt},rC b ps=true->∀d j,Rt.c d j∈ps->d≠b
 |[],_,d,j,h=>by simp at h
 |q::r,h,d,j,hp=>by
   rcases aO.1 hp with e|e
   ·subst e; simp only[rC,ae,decide_eq_true_eq] at h; exact h.1
   ·have h':rC b r=true:=by cases q<;>simp only[rC,ae] at h<;>first|exact h|exact h.2
    exact zz h' d j e
theorem ab8 (HC:qW c call) (HW:BC c call) (HL:BE c call) {s s1 s2 u1 u2:St} {x y:O} {f g f1:Fq} {b:Nat} {vx vy:AV} (hx:Ev c call s x vx u1 f1) (Uf:nW (bP s.env x.dst f1)=true) (Cq:Ap (bP s.env x.dst f1) f) (Ub:dE s1 (jb u1 x.dst vx)) (hy:Ev c call s1 y vy u2 (.lw b)) (Wp:nW (bP s1.env y.dst (.lw b))=true) (Cp:Ap (bP s1.env y.dst (.lw b)) g) (Ua:dE s2 (jb u2 y.dst vy)) (Pe:calm f1=true) (Cr:iY x y=true) (cX:ij x f y g=true) :
  ∃ HM,TS c call s y g HM/\TS c call HM x f s2:=by
 obtain⟨ax,ay⟩:=xj Cr;simp only[ij,ae] at cX;obtain⟨⟨cX,ZM,Du⟩,_⟩:=cX;obtain⟨cf,cg⟩:=I8 cX;obtain⟨X,hX⟩:=HC _ _ _ _ _ hx Pe;obtain⟨cs,cs',hY⟩:=HL _ _ _ _ _ hy;obtain⟨r1,r2,r3,r4⟩:=nq Uf Pe;obtain⟨q1,q2⟩:=we Wp;have hly':=Cp;rw[q1] at hly';have hg:=hly'.Nc cg;subst hg;obtain⟨o1,o2,o3,o4,_,_⟩:=adK cX
 have nwx:∀sl bs,bP s.env x.dst f1≠.wr sl bs:=fun sl bs e=>by
  unfold bP at e;cases f1<;>simp[calm] at Pe<;>(repeat' split at e)<;>simp_all
 have ef:bP s.env x.dst f1=f:=Cq.cw cf nwx;obtain⟨e1,_⟩:=r4 (fun ps e=>o1 ps (ef▸e));have ef':f1=f:=e1▸ef;subst ef';have DB:∀i,get s1.env i=if x.dst=some i then vx else get s.env i:=fun i=>by rw[Ub.1,dU,hX.st.1]
 have H1:s1.H=s.H++X:=by rw[Ub.2,gJ,hX.st.2]
 have K4:∀i,x.dst=some i->y.dst≠some i:=fun i h=>(ax i h).2
 have blt:b<s.H.length:=by
  have h1:=dx hY.bl;rcases hX.nw with⟨e,_⟩|⟨z,e,e2⟩
  ·rw[H1,e] at h1; simpa using h1
  ·exact o2 _ e2
 have KR:aJ s.H b=some cs:=by
  have h1:=hY.bl;rw[H1,yw blt] at h1;exact h1
 have yr:∀i∈y.reads,get s.env i=get s1.env i:=fun i hi=>by
  rw[DB,if_neg];intro e;exact (ax i e).1 hi
 have Gy:=hY.go s yr KR
 have gy:∀i,y.dst=some i->get s1.env i=get s.env i:=fun i hi=>by
  rw[DB,if_neg];intro e;exact K4 i e hi
 have RK:bP s.env y.dst (.lw b)=bP s1.env y.dst (.lw b):=iT fun i hi=>(gy i hi).symm;refine⟨jb ⟨s.env,s.H.set b (some cs')⟩ y.dst vy,TS.mk HC HW HL Gy (by rw[RK]; exact Wp) (by rw[RK]; exact Cp) dE.rfl',?_⟩;generalize ht:jb ⟨s.env,s.H.set b (some cs')⟩ y.dst vy=t;have gt:∀i,get t.env i=if y.dst=some i then vy else get s.env i:=fun i=>by rw[<-ht,dU]
 have Ht:t.H=s.H.set b (some cs'):=by rw[<-ht,gJ]
 have xr:∀i∈x.reads,get t.env i=get s.env i:=fun i hi=>by
  rw[gt,if_neg];intro e;exact (ay i e).1 hi
 have Xe:∀d,d≠b->aJ t.H d=aJ s.H d:=fun d hd=>by rw[Ht,di,if_neg (fun h=>hd h.1)]
 have Au:yZ f1 s t:=by
  refine⟨fun ps vP=>Seen.mk' fun p hp=>⟨fun i e=>?_,fun i j e=>?_,fun d j e=>?_⟩,fun d j hf=>.of_eq (Xe d (o4 d j hf))⟩
  ·rw[gt,if_neg];intro e2;have:=gY Du cf i e2;rw[vP] at this;exact (fG (show gF i ps=true from this) p hp).1 i e rfl
  ·rw[gt,if_neg];intro e2;have:=gY Du cf i e2;rw[vP] at this;exact (fG (show gF i ps=true from this) p hp).2 i j e rfl
  ·subst e;exact Xe d (zz (o3 ps vP) d j hp)
 have xal:∀n,f1=.al n->t.H.length=n:=fun n hn=>by
  rcases hX.nw with⟨_,e⟩|⟨z,e,e2⟩
  ·exact absurd hn (e n)
  ·rw[hn] at e2; cases e2; rw[Ht]; simp
 have HT:=hX.go t (fun i hi=>by rw[xr i hi]) Au xal
 have gx:∀i,x.dst=some i->get t.env i=get s.env i:=fun i hi=>by
  rw[gt,if_neg];exact K4 i hi
 have RL:bP t.env x.dst f1=bP s.env x.dst f1:=iT gx;refine TS.mk HC HW HL HT (by rw[RL]; exact Uf) (by rw[RL]; exact Cq) ⟨fun i=>?_,?_⟩
 ·rw[Ua.1,dU,hY.st.1,dU];show (if y.dst=some i then vy else get s1.env i)=if x.dst=some i then vx else get t.env i;rw[DB,gt];by_cases h1:x.dst=some i
  ·simp[h1,K4 i h1]
  ·simp[h1]
 ·rw[Ua.2,gJ,hY.st.2,gJ];show s1.H.set b (some cs')=t.H++X;rw[H1,Ht,Rx _ _ blt]
theorem ab6 (HC:qW c call) (HW:BC c call) (HL:BE c call) {s s1 s2 u1 u2:St} {x y:O} {f g g1:Fq} {b:Nat} {vx vy:AV} (hx:Ev c call s x vx u1 (.lw b)) (Uf:nW (bP s.env x.dst (.lw b))=true) (Cq:Ap (bP s.env x.dst (.lw b)) f) (Ub:dE s1 (jb u1 x.dst vx)) (hy:Ev c call s1 y vy u2 g1) (Wp:nW (bP s1.env y.dst g1)=true) (Cp:Ap (bP s1.env y.dst g1) g) (Ua:dE s2 (jb u2 y.dst vy)) (HZ:calm g1=true) (Cr:iY x y=true) (cX:ij x f y g=true) :
  ∃ HM,TS c call s y g HM/\TS c call HM x f s2:=by
 obtain⟨ax,ay⟩:=xj Cr;simp only[ij,ae] at cX;obtain⟨⟨cX,ZM,Du⟩,_⟩:=cX;obtain⟨cf,cg⟩:=I8 cX;obtain⟨cs,cs',hX⟩:=HL _ _ _ _ _ hx;obtain⟨Y,hY⟩:=HC _ _ _ _ _ hy HZ;obtain⟨q1,q2⟩:=we Uf;have hlx':=Cq;rw[q1] at hlx';have hf:=hlx'.Nc cf;subst hf;obtain⟨o1,o2,o3,o4,_,_⟩:=Yx cX;obtain⟨r1,r2,r3,r4⟩:=nq Wp HZ
 have nwy:∀sl bs,bP s1.env y.dst g1≠.wr sl bs:=fun sl bs e=>by
  unfold bP at e;cases g1<;>simp[calm] at HZ<;>(repeat' split at e)<;>simp_all
 have eg:bP s1.env y.dst g1=g:=Cp.cw cg nwy;obtain⟨e1,_⟩:=r4 (fun ps e=>o1 ps (eg▸e));have eg':g1=g:=e1▸eg;subst eg';have DB:∀i,get s1.env i=if x.dst=some i then vx else get s.env i:=fun i=>by rw[Ub.1,dU,hX.st.1]
 have H1:s1.H=s.H.set b (some cs'):=by rw[Ub.2,gJ,hX.st.2]
 have K4:∀i,x.dst=some i->y.dst≠some i:=fun i h=>(ax i h).2;have blt:b<s.H.length:=dx hX.bl;have Xe:∀d,d≠b->aJ s.H d=aJ s1.H d:=fun d hd=>by rw[H1,di,if_neg (fun h=>hd h.1)]
 have yr:∀i∈y.reads,get s.env i=get s1.env i:=fun i hi=>by
  rw[DB,if_neg];intro e;exact (ax i e).1 hi
 have As:yZ g1 s1 s:=by
  refine⟨fun ps vP=>Seen.mk' fun p hp=>⟨fun i e=>?_,fun i j e=>?_,fun d j e=>?_⟩,fun d j hf=>.of_eq (Xe d (o4 d j hf))⟩
  ·rw[DB,if_neg];intro e2;have:=gY ZM cg i e2;rw[vP] at this;exact (fG (show gF i ps=true from this) p hp).1 i e rfl
  ·rw[DB,if_neg];intro e2;have:=gY ZM cg i e2;rw[vP] at this;exact (fG (show gF i ps=true from this) p hp).2 i j e rfl
  ·subst e;exact Xe d (zz (o3 ps vP) d j hp)
 have yal:∀n,g1=.al n->s.H.length=n:=fun n hn=>by
  rcases hY.nw with⟨_,e⟩|⟨z,e,e2⟩
  ·exact absurd hn (e n)
  ·rw[hn] at e2; cases e2; rw[H1]; simp
 have Gy:=hY.go s (fun i hi=>by rw[yr i hi]) As yal
 have gy:∀i,y.dst=some i->get s1.env i=get s.env i:=fun i hi=>by
  rw[DB,if_neg];intro e;exact K4 i e hi
 have RK:bP s.env y.dst g1=bP s1.env y.dst g1:=iT fun i hi=>(gy i hi).symm;refine⟨jb ⟨s.env,s.H++Y⟩ y.dst vy,TS.mk HC HW HL Gy (by rw[RK]; exact Wp) (by rw[RK]; exact Cp) dE.rfl',?_⟩;generalize ht:jb ⟨s.env,s.H++Y⟩ y.dst vy=t;have gt:∀i,get t.env i=if y.dst=some i then vy else get s.env i:=fun i=>by rw[<-ht,dU]
 have Ht:t.H=s.H++Y:=by rw[<-ht,gJ]
 have xr:∀i∈x.reads,get t.env i=get s.env i:=fun i hi=>by
  rw[gt,if_neg];intro e;exact (ay i e).1 hi
 have HT:=hX.go t xr (by rw[Ht,yw blt]; exact hX.bl)
 have gx:∀i,x.dst=some i->get t.env i=get s.env i:=fun i hi=>by
  rw[gt,if_neg];exact K4 i hi
 have RL:bP t.env x.dst (.lw b)=bP s.env x.dst (.lw b):=iT gx;refine TS.mk HC HW HL HT (by rw[RL]; exact Uf) (by rw[RL]; exact Cq) ⟨fun i=>?_,?_⟩
 ·rw[Ua.1,dU,hY.st.1,dU];show (if y.dst=some i then vy else get s1.env i)=if x.dst=some i then vx else get t.env i;rw[DB,gt];by_cases h1:x.dst=some i
  ·simp[h1,K4 i h1]
  ·simp[h1]
 ·rw[Ua.2,gJ,hY.st.2,gJ];show s1.H++Y=t.H.set b (some cs');rw[H1,Ht,Rx _ _ blt]
theorem afG (HC:qW c call) (HW:BC c call) (HL:BE c call):OW (TS c call):=by
 intro s x f s1 y g s2 hx hy Cr cX;have HV:=cX;simp only[ij,ae] at HV;obtain⟨cf,cg⟩:=I8 HV.1.1;obtain⟨vx,u1,f1,x1,x2,x3,x4⟩:=hx.out HC HW HL cf;obtain⟨vy,u2,g1,y1,y2,y3,y4⟩:=hy.out HC HW HL cg;have c1:=wg x2;have c2:=wg y2;by_cases Pe:calm f1=true
 ·by_cases HZ:calm g1=true
  ·exact WJ HC HW HL x1 x2 x3 x4 y1 y2 y3 y4 Pe HZ Cr cX
  ·cases g1<;>simp[calm,nW] at HZ c2
   case wr sl bs=>exact ab7 HC HW HL x1 x2 x3 x4 y1 y2 y3 y4 Pe Cr cX
   case bo=>exact absurd rfl (y1.fl _)
   case lw b=>exact ab8 HC HW HL x1 x2 x3 x4 y1 y2 y3 y4 Pe Cr cX
 ·cases f1<;>simp[calm,nW] at Pe c1
  case wr sl bs=>
   by_cases HZ:calm g1=true
   ·exact ab5 HC HW HL x1 x2 x3 x4 y1 y2 y3 y4 HZ Cr cX
   ·cases g1<;>simp[calm,nW] at HZ c2
    case wr sl' bs'=>
     exfalso;rw[(oe x2).1] at x3;rw[(oe y2).1] at y3;obtain⟨_,_,rfl⟩:=x3.Ih cf;obtain⟨_,_,rfl⟩:=y3.Ih cg;exact (Yp HV.1.1).2.2 _ _ rfl
    case bo=>exact absurd rfl (y1.fl _)
    case lw b=>
     exfalso;rw[(oe x2).1] at x3;rw[(we y2).1] at y3;obtain⟨_,_,rfl⟩:=x3.Ih cf;have:=y3.Nc cg;subst this;exact (adK HV.1.1).2.2.2.2.1 _ _ rfl
  case bo=>exact absurd rfl (x1.fl _)
  case lw b=>
   by_cases HZ:calm g1=true
   ·exact ab6 HC HW HL x1 x2 x3 x4 y1 y2 y3 y4 HZ Cr cX
   ·exfalso;rw[(we x2).1] at x3;have hf:=x3.Nc cf;subst hf;obtain⟨_,_,_,_,o5,o6⟩:=Yx HV.1.1;cases g1<;>simp[calm,nW] at HZ c2
    case wr sl' bs'=>
     rw[(oe y2).1] at y3;obtain⟨_,_,rfl⟩:=y3.Ih cg;exact o5 _ _ rfl
    case bo=>exact absurd rfl (y1.fl _)
    case lw d=>
     rw[(we y2).1] at y3;exact o6 _ (y3.Nc cg)
end
end Go.Bm

/- What the value of a calm operation mentions was read. -/
namespace Go.Bm
open Go.Am
section
variable {P:Program} {c:dO} {call:Nat->List AV->Heap->Option (AV × Heap)} {V:Rt->Prop}
def Lp (V:Rt->Prop) (x:AV):Prop:=∀p∈aK x,¬V p
theorem jK {p:Rt}:∀{cs:List AV},p∈cW cs ↔ ∃x∈cs,p∈aK x
 |[]=>by simp[cW]
 |x::r=>by simp[cW,jK (cs:=r)]
theorem Cc {f:Nat->Rt} {p:Rt}:∀{cs:List AV} {j:Nat},p∈cW (eF f j cs)->p∈cW cs\/∃ i,p=f i
 |[],j,h=>by simp[eF,cW] at h
 |x::r,j,h=>by
   have ih:=fun h=>Cc (f:=f) (p:=p) (cs:=r) (j:=j+1) h;cases x<;>simp only[eF,cW,aK,aD,List.nil_append,aO,List.not_mem_nil,or_false] at h ih ⊢
   case own k xs=>
    rcases h with h|h
    ·exact .inr ⟨j,h⟩
    ·exact ih h
   all_goals first
    |exact ih h
    | (rcases h with h | h
       ·exact .inl (.inl h)
       ·rcases ih h with h|h
        ·exact .inl (.inr h)
        ·exact .inr h)
theorem Y8 {i:Nat} {x:AV} {p:Rt} (h:p∈aK (eT i x)):p∈aK x\/p=.s i\/∃ j,p=.sc i j:=by
 cases x<;>simp only[eT] at h
 case own k xs=>simp[aK] at h; exact .inr (.inl h)
 case agg cs=>
  simp only[aK] at h ⊢;rcases Cc h with h|h
  ·exact .inl h
  ·exact .inr (.inr h)
 all_goals exact .inl h
def D4 (V:Rt->Prop) (env:Env) (l:List Nat):Prop:=∀i∈l,(∀p∈aK (get env i),¬V p)/\¬ V (.s i)/\∀ j,¬V (.sc i j)
theorem D4.left {env:Env} {l m:List Nat} (h:D4 V env (l++m)):D4 V env l:=fun i hi=>h i (by simp[hi])
theorem D4.right {env:Env} {l m:List Nat} (h:D4 V env (l++m)):D4 V env m:=fun i hi=>h i (by simp[hi])
theorem jQ {env:Env} {x:E} (hk:kE x=true) (h:D4 V env x.slot):Lp V (aY c env x):=by
 intro p hp;cases x with
 |t i=>
   simp only[aY] at hp;obtain⟨h1,h2,h3⟩:=h i (by simp[E.slot]);rcases Y8 hp with e|e|⟨j,e⟩
   ·exact h1 p e
   ·subst e; exact h2
   ·subst e; exact h3 j
 |k x=>simp only[aY] at hp; simp only[kE,fa] at hk; rw[hk] at hp; simp at hp
 |g i=>simp[aY,aK] at hp
theorem FX {env:Env}:∀{xs:List E},kEs xs=true->D4 V env (mT xs)->∀p∈cW (dv c env xs),¬V p
 |[],_,_,p,hp=>by simp[dv,cW] at hp
 |x::r,hk,h,p,hp=>by
   simp only[kEs,ae] at hk;simp only[mT] at h;simp only[dv,cW,aD] at hp;rcases hp with hp|hp
   ·exact jQ hk.1 h.left p hp
   ·exact FX hk.2 h.right p hp
theorem Lp.cells {x:AV} (h:Lp V x):∀d∈x.cells,Lp V d:=by
 intro d hd p hp;by_cases ha:∃cs,x=.agg cs
 ·obtain⟨cs,rfl⟩:=ha;exact h p (by simp only[aK]; exact jK.2 ⟨d,hd,hp⟩)
 ·have:x.cells=[x]:=by cases x<;>first|rfl|exact absurd ⟨_,rfl⟩ ha
  rw[this] at hd;simp at hd;subst hd;exact h p hp
theorem Ou {env:Env}:∀{ps:List (Nat × Nat × E)} {zs cs:List AV},kPs ps=true->D4 V env (rb ps)->(∀d∈zs,Lp V d)->qN c env zs ps=some cs->∀d∈cs,Lp V d
 |[],zs,cs,_,_,hz,hf=>by simp[qN] at hf; subst hf; exact hz
 |(o,n,x)::r,zs,cs,hk,h,hz,hf=>by
   simp only[kPs,ae] at hk;simp only[rb] at h;simp only[qN] at hf;split at hf
   case isFalse=>cases hf
   refine Ou hk.2 h.right (fun d hd=>?_) hf;unfold iZ at hd;simp only[aD] at hd;rcases hd with (hd|hd)|hd
   ·exact hz d (cS hd)
   ·exact (jQ hk.1 h.left).cells d hd
   ·exact hz d (cT hd)
theorem aeh {ag:Option Nat} {cs:List AV} {v:AV} (h:∀d∈cs,Lp V d) (hv:BR ag cs=some v):Lp V v:=by
 unfold BR at hv;split at hv
 ·split at hv
  ·simp at hv; subst hv;intro p hp;simp only[aK] at hp;obtain⟨d,hd,hp⟩:=jK.1 hp;exact h d (cS hd) p hp
  ·cases hv
 ·exact h v (List.mem_of_mem_head? hv)
theorem PX {ag:Option Nat} {cs:List AV} {v:AV} (h:∀d∈cs,Lp V d) (hv:Kg ag cs=some v):Lp V v:=by
 unfold Kg at hv;split at hv
 ·rename_i u hu;split at hv
  ·cases hv
  ·simp at hv; subst hv; exact aeh h hu
 ·cases hv
theorem Lp.nil {v:AV} (h:aK v=[]):Lp V v:=fun p hp=>by rw[h] at hp; simp at hp
theorem aav {op:BinOp} {x y v:AV} (h:qT op x y=some v):aK v=[]:=by
 rcases UM h with⟨_,_,⟨_,_,rfl⟩|⟨_,rfl⟩⟩|⟨_,_,_,rfl⟩<;>rfl
theorem aaK {op:UnOp} {x v:AV} (h:PE op x=some v):aK v=[]:=by
 unfold PE at h;split at h<;>simp at h<;>(subst h; rfl)
theorem M5 {mx:Bool}:∀{r:List AV} {k:IntKind} {a:Int} {v:AV},zH mx (.int k a) r=some v->aK v=[]
 |[],k,a,v,h=>by simp[zH] at h; subst h; rfl
 |y::r,k,a,v,h=>by
   cases y<;>simp only[zH] at h<;>try (cases h; done)
   exact M5 h
theorem M6 {mx:Bool} {l:List AV} {v:AV} (h:yG mx l=some v):aK v=[]:=by
 unfold yG at h;split at h
 ·exact M5 h
 ·cases h
theorem aeK {env:Env} {kd:Kd} {v:AV} (hv:P5 c env kd=some v) (hk:yU kd=true) (h:D4 V env kd.reads):Lp V v:=by
 cases kd<;>simp only[P5] at hv<;>simp only[yU,ae] at hk<;>simp only[Kd.reads] at h
 case mv x=>simp at hv; subst hv; exact jQ hk h
 case pick t a b=>
  split at hv
  ·simp at hv; subst hv;split
   ·exact jQ hk.2.1 h.right.left
   ·exact jQ hk.2.2 h.right.right
  ·cases hv
 case build zs ps=>
  split at hv
  ·rename_i cs hf;simp at hv; subst hv
   have hz:∀d∈zs,Lp V d:=fun d hd p hp=>by
    have:=jK.2 ⟨d,hd,hp⟩;rw[fa.1 hk.1] at this;simp at this
   intro p hp;simp only[aK] at hp;obtain⟨d,hd,hp⟩:=jK.1 hp;exact Ou hk.2 h hz hf d hd p hp
  ·cases hv
 case mB x=>
  have ho:=jQ (c:=c) hk h;split at hv
  ·simp at hv; subst hv; exact .nil rfl
  ·simp at hv; subst hv; exact .nil rfl
  ·rename_i e;simp at hv; subst hv;rw[e] at ho; exact ho
  ·cases hv
 case bin=>exact .nil (aav hv)
 case eq=>split at hv<;>simp at hv; subst hv; exact .nil rfl
 case un=>exact .nil (aaK hv)
 case LF=>split at hv<;>simp at hv; subst hv; exact .nil rfl
 case O7 fn a b=>
  split at hv
  ·cases hv
  ·simp at hv; subst hv;intro p hp;simp only[aK,aD] at hp;rcases hp with hp|hp
   ·exact FX hk.1 h.left p hp
   ·exact FX hk.2 h.right p hp
 case EN k x lo hi=>
  have ho:=jQ (c:=c) hk.1 h.left;split at hv
  case h_2=>cases hv
  split at hv
  case h_2=>cases hv
  split at hv
  case h_2=>cases hv
  split at hv
  ·split at hv<;>simp at hv; subst hv; exact .nil rfl
  ·split at hv<;>simp at hv; subst hv; exact .nil rfl
  ·rename_i e;rw[e] at ho;split at hv<;>simp at hv; subst hv
   intro p hp; exact ho p (by simpa[aK] using hp)
  ·split at hv<;>simp at hv; subst hv; exact .nil rfl
  ·cases hv
 case Ic n x hi=>
  cases hi with
  |some y=>simp at hv
  |none=>
  (repeat' split at hv)<;>simp at hv
  obtain⟨_,rfl⟩:=hv;exact .nil rfl
 case yn off x=>
  have ho:=jQ (c:=c) hk h;split at hv
  ·simp at hv; subst hv; exact .nil rfl
  ·simp at hv; subst hv; exact .nil rfl
  ·rename_i e;rw[e] at ho;simp at hv; subst hv;intro p hp; exact ho p (by simpa[aK] using hp)
  ·cases hv
 case Wy off ag x=>
  have ho:=jQ (c:=c) hk h;split at hv
  ·rename_i cs e;rw[e] at ho;exact PX (fun d hd p hp=>ho p (by simp only[aK]; exact jK.2 ⟨d,cT hd,hp⟩)) hv
  ·cases hv
 case sU k x i=>
  have ho:=jQ (c:=c) hk.1 h.left;split at hv
  ·(repeat' split at hv)<;>simp at hv; subst hv; exact .nil rfl
  ·rename_i e;rw[e] at ho
   (repeat' split at hv)<;>simp at hv; subst hv
   intro p hp; exact ho p (by simpa[aK] using hp)
  ·(repeat' split at hv)<;>simp at hv; subst hv; exact .nil rfl
  ·cases hv
 case DU n k x i=>
  have ho:=jQ (c:=c) hk.1 h.left;split at hv
  case h_2=>cases hv
  split at hv
  ·simp at hv; subst hv; exact .nil rfl
  ·simp at hv; subst hv; exact .nil rfl
  ·rename_i e;rw[e] at ho;simp at hv; subst hv;intro p hp; exact ho p (by simpa[aK] using hp)
  ·cases hv
 case ix n k ag x i=>
  have ho:=jQ (c:=c) hk.1 h.left;split at hv
  case h_2=>cases hv
  split at hv
  ·rename_i cs e;rw[e] at ho;exact PX (fun d hd p hp=>ho p (by simp only[aK]; exact jK.2 ⟨d,cT hd,hp⟩)) hv
  ·cases hv
 case We tab i=>(repeat' split at hv)<;>simp at hv; subst hv; exact .nil rfl
 case ext i x=>
  have ho:=jQ (c:=c) hk h;split at hv
  ·rename_i vs e;rw[e] at ho;split at hv
   ·rename_i u hu;split at hv<;>simp at hv; subst hv
    intro p hp; exact ho p (by simp only[aK]; exact jK.2 ⟨u,bf hu,hp⟩)
   ·cases hv
  ·cases hv
 case len=>split at hv<;>simp at hv; subst hv; exact .nil rfl
 case min=>exact .nil (M6 hv)
 case max=>exact .nil (M6 hv)
 all_goals (cases hv; done)
mutual
theorem JM:∀x,clean x=true->aK x=[]
 |.dz _ _ _ _,h=>by simp[clean] at h
 |.eV _ _ _ _,h=>by simp[clean] at h
 |.agg cs,h=>by simp only[clean] at h; simp only[aK]; exact Ac cs h
 |.dF cs,h=>by simp only[clean] at h; simp only[aK]; exact Ac cs h
 |.func _ _ _,h=>by simp[clean] at h
 |.any,_=>rfl|.undef,_=>rfl|.fo,_=>rfl|.fv,_=>rfl|.dp,_=>rfl
 |.int _ _,_=>rfl|.bool _,_=>rfl|.str _,_=>rfl|.list _ _,_=>rfl|.dh _,_=>rfl|.ptr _ _,_=>rfl|.sl _ _ _ _,_=>rfl|.own _ _,_=>rfl
theorem Ac:∀xs,gC xs=true->cW xs=[]
 |[],_=>rfl
 |x::r,h=>by simp only[gC,ae] at h; simp only[cW,JM x h.1,Ac r h.2,List.append_nil]
end
theorem WE {s s1:St} {kd:Kd} {v:AV} {f:Fq} (h:dq c call kd s=some (v,s1,f)):aK v=[]\/∃ sl bs,f=.wr sl bs\/f=.all:=by
 unfold dq at h;split at h
 ·rename_i r hi;subst h;obtain⟨sl,bs,e⟩:=Ba hi;exact .inr ⟨sl,bs,e⟩
 split at h
 ·rename_i r hi;subst h;obtain⟨_,_,_,_,_,_,_,_,_,_,_,_,_,_,_,hr,_,_⟩:=wS hi;exact .inl (Kj _ hr.1)
 unfold fP at h;split at h
 ·rename_i r hi;subst h;exact .inr ⟨[],none,.inr (xR hi).1⟩
 rcases iH h with h|h
 case inr=>exact .inl (xJ h).2
 unfold dP at h;split at h
 ·cases h
 split at h
 ·cases h
 split at h
 ·split at h
  ·cases h
  split at h
  case h_2=>cases h
  split at h
  case isFalse=>cases h
  rename_i hr;simp at h;obtain⟨rfl,_,_⟩:=h;simp only[MQ,ae] at hr;exact .inl (JM _ hr.1)
 ·split at h
  ·cases h
  split at h
  case isFalse=>cases h
  split at h
  ·split at h
   case isFalse=>cases h
   split at h
   case h_2=>cases h
   split at h
   case isFalse=>cases h
   rename_i hr;simp only[af,aB] at h;simp only[ae] at hr;obtain⟨rfl,_,_⟩:=h;exact .inl (fa.1 hr.1.1)
  ·split at h
   case isFalse=>cases h
   split at h
   case h_2=>cases h
   split at h
   case isFalse=>cases h
   rename_i hr;simp at h;obtain⟨rfl,_,_⟩:=h;exact .inl (Kj _ hr)
theorem Ni (f:Nat->Rt):∀(j:Nat) (cs:List AV),bJ cs=false->eF f j cs=cs
 |_,[],_=>rfl
 |j,x::r,h=>by
   cases x with
   |own k xs=>simp[bJ] at h
   |_=>simp only[bJ] at h; simp only[eF,Ni f (j+1) r h]
theorem Zb {x v:AV} {ps:List Rt} {b j:Nat} (h:wV x v ps=.rc b j):∃k o l,x=.ptr b j/\v=.dz k (.c b j) o l:=by
 unfold wV at h;split at h
 ·split at h
  ·rename_i hc;obtain⟨rfl,rfl⟩:=hc;cases h;exact⟨_,_,_,rfl,rfl⟩
  ·cases h
 ·cases h
theorem aeM {s s1:St} {kd:Kd} {v:AV} {f:Fq} (hv:eS c call s kd=some (v,s1,f)) (hf:calm f=true) (hk:yU kd=true) (h:D4 V s.env kd.reads)
  (hb:∀ps,f=.rd ps->∀b,Rt.c b 0∈ps->∀cs,aJ s.H b=some cs->(∀p∈cW cs,¬V p)/\(bJ cs=true->∀j,¬V (.c b j)))
  (Dw:∀b j,f=.rc b j->∀cs c,aJ s.H b=some cs->cs[j]?=some c->(∀p∈aK c,¬V p)/\(∀k xs,c=.own k xs->¬V (.c b j))):Lp V v:=by
 have pure:∀{kd:Kd},yU kd=true->D4 V s.env kd.reads->(match P5 c s.env kd with
   |some v=>some (v,s,Fq.no)
   |none=>none)=some (v,s1,f)->Lp V v:=by
  intro kd hk h h2;split at h2
  case h_2=>cases h2
  rename_i u hu;simp at h2;obtain⟨rfl,_,_⟩:=h2;exact aeK hu hk h
 have adW:∀{kd:Kd},dq c call kd s=some (v,s1,f)->Lp V v:=by
  intro kd h2;rcases WE h2 with e|⟨sl,bs,e|e⟩
  ·exact .nil e
  ·subst e; simp[calm] at hf
  ·subst e; simp[calm] at hf
 cases kd
 case call=>simp only[eS] at hv; exact adW hv
 case iR=>simp only[eS] at hv; exact adW hv
 case new=>simp only[eS] at hv; simp at hv; obtain⟨rfl,_,_⟩:=hv; exact .nil rfl
 case box=>simp only[eS] at hv; split at hv<;>simp at hv; obtain⟨rfl,_,_⟩:=hv; exact .nil rfl
 case dV=>simp only[eS] at hv; (repeat' split at hv)<;>simp at hv<;>(obtain⟨rfl,_,_⟩:=hv; exact .nil rfl)
 case Kx=>simp only[eS] at hv; (repeat' split at hv)<;>simp at hv<;>(obtain⟨rfl,_,_⟩:=hv; exact .nil rfl)
 case UC=>simp only[eS] at hv; (repeat' split at hv)<;>simp at hv<;>(obtain⟨rfl,_,_⟩:=hv; exact .nil rfl)
 case app=>simp only[eS] at hv; (repeat' split at hv)<;>simp at hv<;>(obtain⟨rfl,_,_⟩:=hv; exact .nil rfl)
 case st=>simp only[eS] at hv; (repeat' split at hv)<;>simp at hv<;>(obtain⟨rfl,_,_⟩:=hv; exact .nil rfl)
 case copy=>simp only[eS] at hv; (repeat' split at hv)<;>simp at hv<;>(obtain⟨rfl,_,_⟩:=hv; exact .nil rfl)
 case Ic n x hi=>
  simp only[eS] at hv;split at hv
  ·(repeat' split at hv)<;>simp at hv<;>(obtain⟨rfl,_,_⟩:=hv; exact .nil rfl)
  ·exact pure hk h hv
 case ld ag x=>
  simp only[eS] at hv;split at hv
  case h_2=>cases hv
  rename_i u ps hp;split at hv
  case isFalse=>cases hv
  rename_i hl;simp at hv;obtain⟨rfl,rfl,ZH⟩:=hv;by_cases hy:∃b off k o l,aY c s.env x=.ptr b off/\u=.dz k (.c b off) o l
  ·obtain⟨b,off,k,o,l,e,rfl⟩:=hy;rw[e] at hp ZH;have hbc':=Dw b off (by rw[<-ZH]; simp[wV]);simp only[zw] at hp;split at hp
   case h_2=>cases hp
   rename_i cs dG;split at hp
   case h_2=>cases hp
   rename_i u' hu;simp at hp;obtain⟨rfl,_⟩:=hp
   have hz:((eF (.c b) 0 cs).drop off)[0]?=some (.dz k (.c b off) o l):=by
    unfold Kg BR at hu;cases ag with
    |some n=>simp only at hu; (repeat' split at hu)<;>simp_all
    |none=>
      simp only at hu;rw[<-vQ]
      (repeat' split at hu)<;>simp_all
   rw[aW,Nat.add_zero] at hz
   have hg:∀(cs:List AV) (j i:Nat),(eF (.c b) j cs)[i]?=some (.dz k (.c b off) o l)->∃c0,cs[i]?=some c0/\((∃k xs,c0=.own k xs)\/c0=.dz k (.c b off) o l):=by
    intro cs
    induction cs with
    |nil=>intro j i h; simp[eF] at h
    |cons d r ih=>
      intro j i h;cases i with
      |zero=>
        refine⟨d,rfl,?_⟩
        cases d<;>first
         |exact .inl ⟨_,_,rfl⟩
         |(simp[eF] at h; done)
         |(simp[eF] at h; right; simp[h])
      |succ i=>
        obtain⟨c0,h1,h2⟩:=ih (j+1) i (by cases d<;>simpa[eF] using h);exact⟨c0,by simpa using h1,h2⟩
   obtain⟨c0,h1,h2⟩:=hg cs 0 off hz;obtain⟨q1,q2⟩:=hbc' cs c0 dG h1;intro p hp;simp[aK] at hp;subst hp;rcases h2 with h2|h2
   ·obtain⟨k0,xs0,e0⟩:=h2; exact q2 k0 xs0 e0
   ·subst h2; exact q1 _ (by simp[aK])
  have ZH:f=.rd ps:=by
   rw[<-ZH];rcases wU (aY c s.env x) u ps with e|⟨b,j,e⟩
   ·exact e
   ·obtain⟨k,o,l,e1,e2⟩:=Zb e;exact absurd ⟨b,j,k,o,l,e1,e2⟩ hy
  subst ZH;by_cases hx:∃b off,aY c s.env x=.ptr b off
  ·obtain⟨b,off,e⟩:=hx;rw[e] at hp;simp only[zw] at hp;split at hp
   case h_2=>cases hp
   rename_i cs dG;split at hp
   case h_2=>cases hp
   rename_i u' hu;simp at hp;obtain⟨rfl,rfl⟩:=hp;by_cases hz:aK u'=[]
   ·exact .nil hz
   obtain⟨b1,b2⟩:=hb _ rfl b (by simp[hz]) cs dG;refine PX (fun d hd p hp=>?_) hu;have:=jK.2 ⟨d,cT hd,hp⟩;cases ho:bJ cs with
   |false=>rw[Ni _ _ _ ho] at this; exact b1 p this
   |true=>
     rcases Cc this with h3|⟨i,h3⟩
     ·exact b1 p h3
     ·subst h3; exact b2 ho i
  ·refine .nil ?_;unfold ldOK at hl;split at hl
   ·rename_i e; exact absurd ⟨_,_,e⟩ hx
   ·exact fa.1 hl
 case B4=>simp only[eS] at hv; simp at hv; obtain⟨rfl,_,_⟩:=hv; exact .nil rfl
 case yH K ok z x k=>
  obtain⟨b,es,r,_,_,hp,e3,hz,rfl,_⟩:=Y0 hv;exact .nil (Kj _ (YZ e3 hp.1 hz))
 case zB K x k y=>
  obtain⟨b,es,r,_,_,_,_,rfl,_⟩:=YS hv;exact .nil rfl
 all_goals
  simp only[eS] at hv;exact pure hk h hv
end
end Go.Bm

/- What single operations are worth: regions that draw their order are sound. -/
namespace Go.Bm
open Go.Am
section
variable {P:Program} {c:dO} {call:Nat->List AV->Heap->Option (AV × Heap)} {V:Rt->Prop}
theorem dE.own {s t:St} (h:dE s t) (p:Rt):au t p=au s p:=by
 cases p with
 |s i=>simp only[au,at_,h.1 i]
 |sc i j=>simp only[au,at_,h.1 i]
 |c b j=>simp only[au,at_,h.2]
theorem Seen.of_same {s s0 t:St} {ps:List Rt} (e:dE s s0) (h:Seen ps s t):Seen ps s0 t:=fun p hp=>⟨by rw[(h p hp).1,e.own],fun b l hb=>by rw[(h p hp).2 b l hb,e.2]⟩
theorem rU.of_same {s s0 t:St} {b j:Nat} (e:dE s s0) (h:rU b j s t):rU b j s0 t:=fun cs hc=>h cs (by rw[e.2]; exact hc)
theorem aeN {s s1:St} {kd:Kd} {v:AV} {n:Nat} (h:eS c call s kd=some (v,s1,.al n)):∃z,s1=⟨s.env,s.H++[z]⟩:=by
 have nc:∀{kd:Kd},dq c call kd s≠some (v,s1,.al n):=by
  intro kd h;unfold dq at h;split at h
  ·rename_i r hi;subst h;obtain⟨sl,bs,e|e⟩:=Ba hi<;>cases e
  split at h
  ·rename_i r hi;subst h;obtain⟨b,e⟩:=Eh hi;cases e
  unfold fP at h;split at h
  ·rename_i r hi;subst h;obtain⟨e,_⟩:=xR hi;cases e
  replace h:=(iH h).resolve_right fun h=>by obtain⟨e,_⟩:=xJ h; cases e
  unfold dP at h
  (repeat' split at h)<;>simp[yj] at h
  all_goals (obtain⟨_,_,h⟩:=h; revert h; split<;>simp[yj])
 have ns:∀{s s':St} {k:Nat} {a v:AV} {f:Fq},O4 s k a v=some (s',f)->f≠.al n:=by
  intro s s' k a v f h e;have:=PI h;rw[e] at this;simp[calm] at this
 cases kd<;>simp only[eS] at h
 case new=>simp at h; exact⟨_,h.2.1.symm⟩
 case B4=>simp at h; exact⟨_,h.2.1.symm⟩
 case box=>split at h<;>simp at h; exact⟨_,h.2.1.symm⟩
 case call=>exact absurd h nc
 case iR=>exact absurd h nc
 case st=>
  exfalso;split at h
  ·split at h
   case h_2=>cases h
   rename_i hh;simp only[af,aB] at h;obtain⟨_,_,h5⟩:=h;split at h5
   ·exact ns hh h5
   ·cases h5
  ·split at h
   case h_2=>cases h
   rename_i hh;simp only[af,aB] at h;exact ns hh h.2.2
 case ld=>
  exfalso;split at h
  case h_2=>cases h
  split at h
  case isFalse=>cases h
  simp only[af,aB] at h;obtain⟨_,_,h5⟩:=h;rcases wU _ _ _ with e|⟨b,j,e⟩<;>rw[e] at h5<;>cases h5
 case Kx=>
  split at h
  case h_2=>cases h
  split at h
  case isFalse=>cases h
  split at h
  ·simp at h; exact⟨_,h.2.1.symm⟩
  ·simp at h
 case dV=>
  exfalso
  (repeat' split at h)<;>simp[yj] at h
  all_goals (obtain⟨_,_,h⟩:=h; revert h; split<;>simp[yj])
 case copy=>
  exfalso
  (repeat' split at h)<;>simp at h
  obtain⟨_,_,h5⟩:=h;rcases xf _ _ with e|⟨_,_,_,_,e⟩<;>rw[e] at h5<;>cases h5
 all_goals
  exfalso
  (repeat' split at h)<;>simp at h
theorem Jg {i:Nat} {x:AV} {b:Bool} (h:eT i x=.bool b):x=.bool b:=by
 cases x<;>simp[eT] at h<;>simp[h]
theorem Qr {i:Nat} {x:AV} (h:eT i x=.undef):x=.undef:=by
 cases x<;>simp[eT] at h<;>rfl
theorem acx:qW c call:=by
 intro s q v s1 f ⟨hk,s0,t1,e0,he,e1⟩ hc
 have op:eS c call s0 q.kd=some (v,t1,f)->(∀t:St,(∀i∈q.reads,eT i (get t.env i)=eT i (get s.env i))->DE c call t q=eS c call t q.kd)->∃X,Rs c call s q v s1 f X:=by
  intro h DX;obtain⟨T,k1,k2,k3⟩:=Yn h hc;have hr:∀i∈q.kd.reads,i∈q.reads:=fun i hi=>by simp[O.reads,hi]
  refine⟨T,⟨e1.symm.trans ⟨fun i=>by rw[k1]; exact (e0.1 i).symm,by rw[k1]; show s0.H++T=s.H++T; rw[e0.2]⟩,?_,fun t h1 h2 h3=>?_,fun V h1 h2 h2c=>?_⟩⟩
  ·rcases k2 with e|⟨z,e,e2⟩
   ·by_cases LD:∃n,f=.al n
    ·obtain⟨n,rfl⟩:=LD;obtain⟨z,hz⟩:=aeN h;rw[k1,e] at hz;simp at hz
    ·exact .inl ⟨e,fun n hn=>LD ⟨n,hn⟩⟩
   ·exact .inr ⟨z,e,by rw[e0.2]; exact e2⟩
  ·refine⟨hk,t,_,dE.rfl',?_,dE.rfl'⟩;rw[DX t h1];exact k3 t (fun i hi=>by rw[h1 i (hr i hi),e0.1]) ⟨fun ps vP=>(h2.1 ps vP).of_same e0,fun b j hf=>(h2.2 b j hf).of_same e0⟩ h3
  ·exact aeM h hc hk (fun i hi=>by rw[<-e0.1]; exact h1 i (hr i hi)) (fun ps vP b hp cs hb=>h2 ps vP b hp cs (by rw[e0.2]; exact hb)) fun b j hf cs c0 hb GC=>h2c b j hf cs c0 (by rw[e0.2]; exact hb) GC
 have un:f=.no->v=.undef->t1=s0->(∀t:St,(∀i∈q.reads,eT i (get t.env i)=eT i (get s.env i))->DE c call t q=some (.undef,t,.no))->∃X,Rs c call s q v s1 f X:=by
  intro hf hv ht DX;subst hf hv ht;refine⟨[],⟨e1.symm.trans ⟨fun i=>(e0.1 i).symm,by show t1.H=s.H++[]; rw[e0.2]; simp⟩,.inl ⟨rfl,fun n h=>by cases h⟩,fun t h1 _ _=>⟨hk,t,t,dE.rfl',DX t h1,⟨fun i=>rfl,by simp⟩⟩,fun V _ _ _ p hp=>by simp[aK] at hp⟩⟩
 unfold DE at he;cases hg:q.guard with
 |none=>
   rw[hg] at he;exact op he fun t _=>by unfold DE; rw[hg]
 |some gp=>
   obtain⟨g,want⟩:=gp;rw[hg] at he;simp only at he;have HY:g∈q.reads:=by simp[O.reads,hg]
   split at he
   ·rename_i b hb;split at he
    ·rename_i QE;refine op he fun t h1=>?_;unfold DE;rw[hg];have iV:get t.env g=.bool b:=Jg (by rw[h1 g HY,e0.1 g,hb]; rfl);simp only[iV,QE,if_true]
    ·rename_i QE;simp only[af,aB] at he;refine un he.2.2.symm he.1.symm he.2.1.symm fun t h1=>?_;unfold DE;rw[hg];have iV:get t.env g=.bool b:=Jg (by rw[h1 g HY,e0.1 g,hb]; rfl);simp only[iV,QE,if_false]
   ·rename_i hb;simp only[af,aB] at he;refine un he.2.2.symm he.1.symm he.2.1.symm fun t h1=>?_;unfold DE;rw[hg];have iV:get t.env g=.undef:=Qr (by rw[h1 g HY,e0.1 g,hb]; rfl);simp only[iV]
   ·cases he

/-! Operations that write a few places -/
mutual
theorem A3 {g:AV->AV}:∀x,(∀k p o l,p∈aK x->g (.dz k p o l)=.dz k p o l/\g (.eV k p o l)=.eV k p o l)->cD g x=x
 |.dz k p o l,h=>by simp only[cD]; exact (h k p o l (by simp[aK])).1
 |.eV k p o l,h=>by simp only[cD]; exact (h k p o l (by simp[aK])).2
 |.agg cs,h=>by simp only[cD]; rw[nD cs (by simpa only[aK] using h)]
 |.dF cs,h=>by simp only[cD]; rw[nD cs (by simpa only[aK] using h)]
 |.func f a b,h=>by
   simp only[aK,aD] at h;simp only[cD]; rw[nD a fun k p o l hp=>h k p o l (.inl hp),nD b fun k p o l hp=>h k p o l (.inr hp)]
 |.any,_=>rfl|.undef,_=>rfl|.fo,_=>rfl|.fv,_=>rfl|.dp,_=>rfl
 |.int _ _,_=>rfl|.bool _,_=>rfl|.str _,_=>rfl|.list _ _,_=>rfl|.dh _,_=>rfl|.ptr _ _,_=>rfl|.sl _ _ _ _,_=>rfl|.own _ _,_=>rfl
theorem nD {g:AV->AV}:∀xs,(∀k p o l,p∈cW xs->g (.dz k p o l)=.dz k p o l/\g (.eV k p o l)=.eV k p o l)->cO g xs=xs
 |[],_=>rfl
 |x::r,h=>by
   simp only[cW,aD] at h;simp only[cO]; rw[A3 x fun k p o l hp=>h k p o l (.inl hp),nD r fun k p o l hp=>h k p o l (.inr hp)]
end
theorem Ca {f:Nat->Rt}:∀{cs:List AV} {j l k:Nat} {xs xs':List AV},cs[l]?=some (.own k xs)->xs'.length=xs.length->eF f j (cs.set l (.own k xs'))=eF f j cs
 |[],j,l,k,xs,xs',h,_=>by simp at h
 |x::r,j,0,k,xs,xs',h,hl=>by
   simp at h;subst h;simp only[List.set_cons_zero,eF,hl]
 |x::r,j,l+1,k,xs,xs',h,hl=>by
   have ih:=Ca (f:=f) (j:=j+1) (by simpa using h) hl;rw[List.set_cons_succ];cases x<;>simp only[eF,ih]
theorem PO {s:St} {p:Rt} {k:Nat} {xs xs':List AV} (h:au s p=some (k,xs)) (hl:xs'.length=xs.length) (i:Nat):eT i (get (setAt s p (.own k xs')).env i)=eT i (get s.env i):=by
 cases p with
 |s j=>
   simp only[setAt,bD];by_cases e:i=j
   ·subst e;rw[if_pos rfl];simp only[au,at_] at h;split at h
    ·rename_i k2 xs2 e2;simp at h;obtain⟨rfl,rfl⟩:=h;simp at e2;rw[e2];simp only[eT,hl]
    ·cases h
   ·rw[if_neg e]
 |sc j l=>
   simp only[au,at_] at h;simp only[setAt];split
   ·rename_i cs dG;rw[dG] at h;simp only[bD];by_cases e:i=j
    ·subst e;rw[if_pos rfl,dG];simp only at h;split at h
     ·rename_i k2 xs2 e2;simp at h;obtain⟨rfl,rfl⟩:=h;simp only[eT,Ca e2 hl]
     ·cases h
    ·rw[if_neg e]
   ·rfl
 |c b j=>
   simp only[setAt];split<;>rfl
theorem xT {i:Nat}:∀{l:List Nat},i+kW∈marks l ↔ i∈l
 |[]=>by simp[marks]
 |j::r=>by simp[marks,xT (l:=r)]
theorem fN {s:St} {p:Rt} {v:AV} {i:Nat} (h:i∉rootOf p):get (setAt s p v).env i=get s.env i:=by
 cases p with
 |s j=>simp only[rootOf,cE] at h; simp only[setAt,bD,if_neg h]
 |sc j l=>
   simp only[rootOf,cE] at h;simp only[setAt];split
   ·simp only[bD,if_neg h]
   ·rfl
 |c b j=>simp only[setAt]; split<;>rfl
theorem tg {s:St} {p:Rt} {v:AV} {b:Nat} (h:b∉kA p):aJ (setAt s p v).H b=aJ s.H b:=by
 cases p with
 |s j=>rfl
 |sc j l=>simp only[setAt]; split<;>rfl
 |c d j=>
   simp only[kA,cE] at h;simp only[setAt];split
   ·rw[di,if_neg (fun e=>h e.1)]
   ·rfl
theorem EP {s t:St} (h:dE s t) (p:Rt) (v:AV):dE (setAt s p v) (setAt t p v):=by
 cases p with
 |s j=>exact⟨fun i=>by simp only[setAt,bD,h.1 i],h.2⟩
 |sc j l=>
   simp only[setAt];rw[h.1 j];split
   ·exact⟨fun i=>by simp only[bD,h.1 i],h.2⟩
   ·exact h
 |c b j=>
   simp only[setAt];rw[h.2];split
   ·exact⟨h.1,rfl⟩
   ·exact h
theorem tf {s:St} {p:Rt} {v u:AV} {d:Nat} (h:d∉rootOf p):dE (setAt ⟨put s.env d u,s.H⟩ p v) ⟨put (setAt s p v).env d u,(setAt s p v).H⟩:=by
 cases p with
 |s j=>
   simp only[rootOf,cE] at h;refine⟨fun i=>?_,rfl⟩;simp only[setAt,bD];by_cases e:i=j
   ·subst e;have:i≠d:=fun e=>h e.symm;simp[this]
   ·simp[e]
 |sc j l=>
   simp only[rootOf,cE] at h;have hj:j≠d:=fun e=>h e.symm;simp only[setAt,bD,if_neg hj];split
   ·refine⟨fun i=>?_,rfl⟩;simp only[bD];by_cases e:i=j
    ·subst e; simp[hj]
    ·simp[e]
   ·exact dE.rfl'
 |c b j=>
   simp only[setAt];split
   ·exact dE.rfl'
   ·exact dE.rfl'
theorem wH {s:St} {p:Rt} {y:Nat × List AV} (h:au s p=some y):∀i∈rootOf p,bL (get s.env i)=true:=by
 intro i hi;obtain⟨k,xs⟩:=y;have h:=bY.1 h;cases p with
 |s j=>
   simp only[rootOf,cE] at hi; subst hi;simp only[at_,af] at h;rw[h]; rfl
 |sc j l=>
   simp only[rootOf,cE] at hi; subst hi;simp only[at_] at h;split at h
   ·rename_i cs hc;rw[hc];simp only[bL]
    have:∀{cs:List AV} {l:Nat},cs[l]?=some (.own k xs)->bJ cs=true:=by
     intro cs
     induction cs with
     |nil=>intro l h; simp at h
     |cons x r ih=>
       intro l h;cases l with
       |zero=>simp at h; subst h; rfl
       |succ l=>simp at h; cases x<;>simp only[bJ]<;>exact ih h
    exact this h
   ·cases h
 |c b j=>simp[rootOf] at hi
theorem nx {s:St} {p:Rt} {d:Nat} {u:AV} (h:d∉rootOf p):au ⟨put s.env d u,s.H⟩ p=au s p:=by
 cases p with
 |s j=>
   simp only[rootOf,cE] at h;have hj:j≠d:=fun e=>h e.symm;simp only[au,at_,bD,if_neg hj]
 |sc j l=>
   simp only[rootOf,cE] at h;have hj:j≠d:=fun e=>h e.symm;simp only[au,at_,bD,if_neg hj]
 |c b j=>rfl
structure vE (c:dO) (call:Nat->List AV->Heap->Option (AV × Heap)) (s:St) (kd:Kd) (v:AV) (s1:St) (sl:List Nat) (bs:Option (List Nat)) (V:Rt->Prop):Prop where
 env:∀i,i∉sl->i+kW∉sl->get s1.env i=get s.env i
 hd:∀i,i∉sl->eT i (get s1.env i)=eT i (get s.env i)
 keep:∀i,bL (get s.env i)=false->aK (get s.env i)=[]->get s1.env i=get s.env i
 heap:∀l,bs=some l->∀b,b∉l->aJ s1.H b=aJ s.H b
 v1:∀i,i∉sl->(∀p∈aK (get s.env i),¬V p)/\¬ V (.s i)/\∀ j,¬V (.sc i j)
 v2:∀l,bs=some l->∀b,b∉l->b+kW∉l->∀cs,aJ s.H b=some cs->(∀p∈cW cs,¬V p)/\(bJ cs=true->∀j,¬V (.c b j))
 go:∀d u,d∉kd.reads->d∉sl->d+kW∉sl->Lp V u->∃t0 t1 sl',dE t0 ⟨put s.env d u,s.H⟩/\eS c call t0 kd=some (v,t1,.wr sl' bs)/\(∀i∈sl',i∈sl)/\dE t1 ⟨put s1.env d u,s1.H⟩
structure Rl (c:dO) (call:Nat->List AV->Heap->Option (AV × Heap)) (s:St) (kd:Kd) (v:AV) (s1:St) (sl:List Nat) (bs:Option (List Nat)) (V:Rt->Prop):Prop where
 env:∀i,i∉sl->i+kW∉sl->get s1.env i=get s.env i
 hd:∀i,i∉sl->eT i (get s1.env i)=eT i (get s.env i)
 keep:∀i,bL (get s.env i)=false->aK (get s.env i)=[]->get s1.env i=get s.env i
 heap:∀l,bs=some l->∀b,nf b l=false->aJ s1.H b=aJ s.H b
 cell:∀l,bs=some l->∀b j,b∉l->vB b j∉l->rU b j s s1/\rU b j s1 s
 v1:∀i,i∉sl->(∀p∈aK (get s.env i),¬V p)/\¬ V (.s i)/\∀ j,¬V (.sc i j)
 v2:∀l,bs=some l->∀b,nf b l=false->b+kW∉l->∀cs,aJ s.H b=some cs->(∀p∈cW cs,¬V p)/\(bJ cs=true->∀j,¬V (.c b j))
 v3:∀l,bs=some l->∀b j,b∉l->b+kW∉l->vB b j∉l->∀cs c,aJ s.H b=some cs->cs[j]?=some c->(∀p∈aK c,¬V p)/\(∀k xs,c=.own k xs->¬V (.c b j))
 go:∀d u,d∉kd.reads->d∉sl->d+kW∉sl->Lp V u->∃t0 t1 sl',dE t0 ⟨put s.env d u,s.H⟩/\eS c call t0 kd=some (v,t1,.wr sl' bs)/\(∀i∈sl',i∈sl)/\dE t1 ⟨put s1.env d u,s1.H⟩
theorem GD:∀{cs:List AV} {j k:Nat} {xs:List AV},cs[j]?=some (.own k xs)->bJ cs=true
 |[],j,k,xs,h=>by simp at h
 |c::r,0,k,xs,h=>by simp at h; subst h; rfl
 |c::r,j+1,k,xs,h=>by
   have:=GD (cs:=r) (j:=j) (by simpa using h);cases c<;>simp[bJ,this]
theorem vE.up {s s1:St} {kd:Kd} {v:AV} {sl:List Nat} {bs:Option (List Nat)}:(∃V,vE c call s kd v s1 sl bs V)->∃V,Rl c call s kd v s1 sl bs V:=by
 rintro⟨V,h⟩;refine⟨V,⟨h.env,h.hd,h.keep,fun l hl b hb=>h.heap l hl b (nM hb).1,fun l hl b j hb _=>⟨.of_eq (h.heap l hl b hb),.of_eq (h.heap l hl b hb).symm⟩,h.v1,fun l hl b hb=>h.v2 l hl b (nM hb).1,fun l hl b j h1 h2 _ cs c0 hb hc=>?_,h.go⟩⟩;obtain⟨a1,a2⟩:=h.v2 l hl b h1 h2 cs hb;exact⟨fun p hp=>a1 p (jK.2 ⟨c0,bf hc,hp⟩),fun k xs e=>a2 (GD (e▸hc)) j⟩
theorem tK {f:Rt->Bool}:∀{l:List Rt},xk f l=true ↔ ∃p∈l,f p=true
 |[]=>by simp[xk]
 |p::r=>by simp[xk,tK (l:=r)]
theorem Hg {f:Rt->Bool}:∀{H:Heap} {b:Nat} {cs:List AV},Hh f H=false->aJ H b=some cs->∀p∈cW cs,f p=false
 |[],b,cs,_,h=>by simp[aJ] at h
 |none::r,b,cs,ha,h=>by
   cases b with
   |zero=>simp[aJ] at h
   |succ b=>exact Hg (H:=r) (b:=b) (by simpa[Hh] using ha) (by simpa[aJ] using h)
 |some ds::r,b,cs,ha,h=>by
   simp only[Hh,eC] at ha;cases b with
   |zero=>
     simp[aJ] at h;subst h;intro p hp;cases hf:f p with
     |false=>rfl
     |true=>rw[tK.2 ⟨p,hp,hf⟩] at ha; simp at ha
   |succ b=>exact Hg (H:=r) (b:=b) ha.2 (by simpa[aJ] using h)
theorem tB {p:Rt}:∀{l:List Rt},wX p l=true ↔ p∈l
 |[]=>by simp[wX]
 |q::r=>by rw[wX,dS,decide_eq_true_eq,tB (l:=r),aO]; exact⟨fun h=>h.imp Eq.symm id,fun h=>h.imp Eq.symm id⟩
theorem nn {p:Rt}:∀{e:Env} {i:Nat},wX p (aK (Am.get e i))=true\/(isRoot p i=true/\Am.get e i≠.any)->i∈kY p e
 |[],i,h=>by simp[Am.get,aK,wX] at h
 |(j,v)::r,i,h=>by
   simp only[Am.get] at h;simp only[kY];by_cases e:i=j
   ·subst e;simp only[if_true] at h
    have:(wX p (aK v)||isRoot p i)=true:=by
     rcases h with h|h
     ·simp[h]
     ·simp[h.1]
    rw[if_pos this]; simp
   ·rw[if_neg e] at h;have:=nn h;split
    ·simp[this]
    ·exact this
theorem BM {p:Rt}:∀{sn:List Nat} {e:Env} {i:Nat},i∈kY p (Ks sn e)->mem i sn=false/\(wX p (aK (Am.get e i))=true\/isRoot p i=true)
 |sn,[],i,h=>by simp[Ks,kY] at h
 |sn,(j,v)::r,i,h=>by
   have XL:∀{sn':List Nat},i∈kY p (Ks sn' r)->mem j sn'=true->mem i sn'=false/\(wX p (aK (Am.get ((j,v)::r) i))=true\/isRoot p i=true):=by
    intro sn' h hj;obtain⟨h1,h2⟩:=BM h;have tN:i≠j:=fun e=>by rw[e,hj] at h1; cases h1
    exact⟨h1,by simp only[Am.get]; rw[if_neg tN]; exact h2⟩
   unfold Ks at h;by_cases hj:mem j sn=true
   ·rw[if_pos hj] at h;exact XL h hj
   ·rw[if_neg hj] at h;simp only[kY] at h
    have tail:i∈kY p (Ks (j::sn) r)->mem i sn=false/\(wX p (aK (Am.get ((j,v)::r) i))=true\/isRoot p i=true):=fun h=>by
     obtain⟨h1,h2⟩:=XL h (by simp[mem]);unfold mem at h1;split at h1
     ·cases h1
     ·exact⟨h1,h2⟩
    split at h
    ·rename_i hc;rcases aO.1 h with e|h
     ·subst e;refine⟨by simpa using hj,?_⟩;simp only[Am.get,if_true];simpa using hc
     ·exact tail h
    ·exact tail h
theorem kZ {p:Rt}:∀{H:Heap} {k b:Nat} {cs:List AV},aJ H b=some cs->p∈cW cs->k+b∈sk p k H
 |[],k,b,cs,h,_=>by simp[aJ] at h
 |none::r,k,b,cs,h,hp=>by
   cases b with
   |zero=>simp[aJ] at h
   |succ b=>
     have:=kZ (H:=r) (k:=k+1) (b:=b) (by simpa[aJ] using h) hp;simp only[sk]; rwa [show k+(b+1)=k+1+b by omega]
 |some ds::r,k,b,cs,h,hp=>by
   cases b with
   |zero=>
     simp[aJ] at h;subst h;simp[sk,tB.2 hp]
   |succ b=>
     have:=kZ (H:=r) (k:=k+1) (b:=b) (by simpa[aJ] using h) hp;simp only[sk];rw[show k+(b+1)=k+1+b by omega];split
     ·simp[this]
     ·exact this
theorem ti:∀{e:Env} {i:Nat},eX (aK (Am.get e i))=true->i∈fy e
 |[],i,h=>by simp[Am.get,aK,eX] at h
 |(j,v)::r,i,h=>by
   simp only[Am.get] at h;simp only[fy];by_cases e:i=j
   ·subst e;simp only[if_true] at h;rw[if_pos h]; simp
   ·rw[if_neg e] at h;have:=ti h;split
    ·simp[this]
    ·exact this
theorem It:∀{sn:List Nat} {e:Env} {i:Nat},i∈fy (Ks sn e)->mem i sn=false/\eX (aK (Am.get e i))=true
 |sn,[],i,h=>by simp[Ks,fy] at h
 |sn,(j,v)::r,i,h=>by
   have XL:∀{sn':List Nat},i∈fy (Ks sn' r)->mem j sn'=true->mem i sn'=false/\eX (aK (Am.get ((j,v)::r) i))=true:=by
    intro sn' h hj;obtain⟨h1,h2⟩:=It h;have tN:i≠j:=fun e=>by rw[e,hj] at h1; cases h1
    exact⟨h1,by simp only[Am.get]; rw[if_neg tN]; exact h2⟩
   unfold Ks at h;by_cases hj:mem j sn=true
   ·rw[if_pos hj] at h;exact XL h hj
   ·rw[if_neg hj] at h;simp only[fy] at h
    have tail:i∈fy (Ks (j::sn) r)->mem i sn=false/\eX (aK (Am.get ((j,v)::r) i))=true:=fun h=>by
     obtain⟨h1,h2⟩:=XL h (by simp[mem]);unfold mem at h1;split at h1
     ·cases h1
     ·exact⟨h1,h2⟩
    split at h
    ·rename_i hc;rcases aO.1 h with e|h
     ·subst e;refine⟨by simpa using hj,?_⟩;simp only[Am.get,if_true];exact hc
     ·exact tail h
    ·exact tail h
theorem Ci:∀{l:List Rt},eX l=true ↔ ∃p∈l,dD p=false
 |[]=>by simp[eX]
 |p::r=>by cases p<;>simp[eX,dD,Ci (l:=r)]
theorem Ch {l:List Rt} (h:eX l=false):∀p∈l,dD p=true:=by
 intro p hp;cases hn:dD p with
 |true=>rfl
 |false=>rw[Ci.2 ⟨p,hp,hn⟩] at h; cases h
theorem oW (s:St) (i:Nat):get (Qh s).env i=get s.env i:=((qZ s).1 i).symm
end
end Go.Bm

/- Every operation that writes a few places; regions that draw their order are sound. -/
namespace Go.Bm
open Go.Am
section
variable {P:Program} {c:dO} {call:Nat->List AV->Heap->Option (AV × Heap)} {V:Rt->Prop}
theorem eQ {i:Nat} {l m:List Nat} (h:i∉l++m):i∉l/\i∉m:=by simpa using h
theorem sE {p:Rt} {i:Nat}:isRoot p i=true ↔ i∈rootOf p:=by
 cases p<;>simp[isRoot,rootOf,eq_comm]
theorem D8 {x:AV} (h:∀p∈aK x,dD p=true):cD lV x=x:=A3 x fun k p o l hp=>by
 have:=h p hp;cases p<;>simp[dD] at this<;>simp[lV]
theorem AR {l:List Nat}:∀{H H':Heap} {k:Nat} {r:List Nat},dn l k H H'=some r->∀b,k+b∉l->aJ H' b=aJ H b/\((k+b)+kW∉r->∀cs,aJ H b=some cs->bJ cs=false/\cW cs=[])
 |[],[],k,r,_,b,_=>⟨rfl,fun _ cs h=>by simp[aJ] at h⟩
 |[],_::_,k,r,h,b,_=>by simp[dn] at h
 |_::_,[],k,r,h,b,_=>by simp[dn] at h
 |x::H,y::H',k,r,h,b,hb=>by
   unfold dn at h;split at h
   case h_2=>cases h
   rename_i r0 h0;cases b with
   |zero=>
     have hm:mem k l=false:=by
      cases hh:mem k l with
      |false=>rfl
      |true=>exact absurd (mem_iff.1 hh) (by simpa using hb)
     rw[hm] at h;simp only[bp,if_false] at h;split at h
     case isFalse=>cases h
     rename_i he;have e:=acA he;subst e;refine⟨rfl,fun hr cs dG=>?_⟩
     have hx:x=some cs:=by
      unfold aJ at dG;simp only[List.getElem?_cons_zero] at dG;cases x with
      |none=>simp at dG
      |some d=>simp at dG; rw[dG]
     subst hx;cases hc:ja (some cs) with
     |false=>
       rw[hc] at h;simp at h;subst h;exact absurd (by simp) hr
     |true=>
       simp only[ja,ae,bt] at hc;exact⟨hc.1,fa.1 hc.2⟩
   |succ b=>
     have ih:=AR h0 b (by rw[show k+1+b=k+(b+1) by omega]; exact hb);have e:∀z (G:Heap),aJ (z::G) (b+1)=aJ G b:=fun z G=>by simp[aJ]
     rw[e,e];refine⟨ih.1,fun hr=>ih.2 fun hm=>hr ?_⟩;rw[show k+1+b=k+(b+1) by omega] at hm;split at h
     ·cases h; exact hm
     ·split at h
      ·simp at h;subst h;split
       ·exact hm
       ·exact List.mem_cons_of_mem _ hm
      ·cases h
theorem Z6 {p:Rt} {k:Nat} {xs:List AV} {x:AV} (h:p∉aK x):cD (fb p k xs) x=x:=A3 x fun k' q o l hq=>by
 have:q≠p:=fun e=>h (e▸hq);constructor<;>simp[fb,this]
theorem abW {p:Rt} {k:Nat} {xs:List AV} {x:List AV} (h:p∉cW x):cO (fb p k xs) x=x:=nD x fun k' q o l hq=>by
 have:q≠p:=fun e=>h (e▸hq);constructor<;>simp[fb,this]
theorem Xi {s:St} {p:Rt} {k:Nat} {xs:List AV} {kd:Kd} {v:AV} (hp:au s p=some (k,xs))
  (DX:∀t:St,(∀i∈kd.reads,get t.env i=get s.env i)->au t p=some (k,xs)->eS c call t kd=some (v,setAt (cm (fb p k xs) t) p (.list k xs),.wr (kY p t.env) (some (kA p++sk p 0 t.H)))) :
  ∃ V,vE c call s kd v (setAt (cm (fb p k xs) s) p (.list k xs)) (kY p s.env) (some (kA p++sk p 0 s.H)) V:=by
 have wZ:=wH hp;have Ay:∀i∈rootOf p,i∈kY p s.env:=fun i hi=>nn (.inr ⟨sE.2 hi,fun e=>by have:=wZ i hi; rw[e] at this; cases this⟩);have nA:∀{i:Nat},i∉kY p s.env->p∉aK (get s.env i)/\i∉rootOf p:=fun{i} hi=>⟨fun e=>hi (nn (.inl (tB.2 e))),fun e=>hi (Ay i e)⟩
 have GP:∀i,p∉aK (get s.env i)->i∉rootOf p->get (setAt (cm (fb p k xs) s) p (.list k xs)).env i=get s.env i:=fun i h1 h2=>by
  rw[fN h2];show get (jS (fb p k xs) s.env) i=_;rw[df,Z6 h1]
 have afu:∀b,b∉kA p++sk p 0 s.H->aJ (setAt (cm (fb p k xs) s) p (.list k xs)).H b=aJ s.H b:=fun b hb=>by
  rw[tg fun hm=>hb (Rz _ hm)];show aJ (fJ (fb p k xs) s.H) b=_;rw[fe];cases dG:aJ s.H b with
  |none=>rfl
  |some cs=>
    simp only[cj,af];refine abW fun hm=>hb ?_;have:=kZ (k:=0) dG hm;exact Ps _ (by simpa using this)
 refine⟨fun q=>q=p,⟨fun i hi _=>?_,fun i hi=>?_,fun i h1 h2=>?_,fun l hl b hb=>?_,fun i hi=>⟨fun q hq e=>?_,fun e=>?_,fun j e=>?_⟩,fun l hl b hb ug cs dG=>⟨fun q hq e=>?_,fun _ j e=>?_⟩,fun d u hd nT _ hu=>?_⟩⟩
 ·obtain⟨h1,h2⟩:=nA hi;exact GP i h1 h2
 ·obtain⟨h1,h2⟩:=nA hi;rw[GP i h1 h2]
 ·exact GP i (by rw[h2]; simp) fun hi=>by rw[wZ i hi] at h1; cases h1
 ·cases hl;exact afu b hb
 ·subst e;exact (nA hi).1 hq
 ·subst e;exact (nA hi).2 (by simp[rootOf])
 ·subst e;exact (nA hi).2 (by simp[rootOf])
 ·subst e;cases hl;have:=kZ (k:=0) dG hq;exact hb (Ps _ (by simpa using this))
 ·subst e;cases hl;exact hb (Rz _ (by simp[kA]))
 ·obtain⟨hd3,hd4⟩:=nA nT
  let t0:St:=Qh ⟨put s.env d u,s.H⟩
  have Gz:dE t0 ⟨put s.env d u,s.H⟩:=(qZ _).symm;have hg:∀i,get t0.env i=if i=d then u else get s.env i:=fun i=>by rw[oW,bD]
  have own:au t0 p=au s p:=by rw[<-Gz.own p]; exact nx hd4
  have KJ:p∉aK u:=fun hm=>hu p hm rfl;refine⟨t0,setAt (cm (fb p k xs) t0) p (.list k xs),kY p t0.env,Gz,DX t0 (fun i hi=>by rw[hg,if_neg]; intro e; subst e; exact hd hi) (own.trans hp),fun i hi=>?_,?_⟩
  ·obtain⟨_,h2⟩:=BM hi;have:get (put s.env d u) i=get t0.env i:=(oW ⟨put s.env d u,s.H⟩ i).symm;simp only[this,hg] at h2;rcases h2 with h2|h2
   ·split at h2
    ·exact absurd (tB.1 h2) KJ
    ·exact nn (.inl h2)
   ·exact Ay i (sE.1 h2)
  ·have h5:dE (cm (fb p k xs) t0) ⟨put (cm (fb p k xs) s).env d u,(cm (fb p k xs) s).H⟩:=⟨fun i=>by
    show get (jS (fb p k xs) t0.env) i=get (put (jS (fb p k xs) s.env) d u) i;rw[df,hg,bD,df];split
    ·exact Z6 KJ
    ·rfl,rfl⟩
   exact (EP h5 p (.list k xs)).trans (tf hd4)
theorem aaI {s s1:St} {kd:Kd} {v:AV} {sl:List Nat} {bs:Option (List Nat)} (iV:∀t,eS c call t kd=dq c call kd t) (hi:qG c s kd=none) (hl:mP c call s kd=none) (hmv:sT c call s kd=none) (h:dP c call kd s=some (v,s1,.wr sl bs)):∃V,vE c call s kd v s1 sl bs V:=by
 unfold dP at h;split at h
 ·cases h
 rename_i f args ha;split at h
 ·cases h
 rename_i md q hf;split at h
 ·rename_i hm;split at h
  ·cases h
  split at h
  case h_2=>cases h
  split at h
  case isFalse=>cases h
  simp only[af,aB] at h;obtain⟨_,_,h⟩:=h;split at h<;>cases h
 rename_i hm;split at h
 ·cases h
 rename_i f1 o8 Od;split at h
 case isFalse=>cases h
 rename_i ZK;split at h
 ·rename_i iO;split at h
  case isFalse=>cases h
  rename_i hp;split at h
  case h_2=>cases h
  rename_i r H' hc;split at h
  case isFalse=>cases h
  rename_i hr;simp only[af,aB] at h;obtain⟨rfl,rfl,h⟩:=h
  have he:cW args=[]:=by
   cases hb:cW args with
   |nil=>rfl
   |cons x y=>simp[hb] at h
  rw[he] at h Od hp hc;simp only[dK] at Od hp hc;simp at h;obtain⟨rfl,rfl⟩:=h
  have off:∀l,gn (fD o8) (dn (fD o8) 0 s.H H')=some l->∀b,b∉l->aJ H' b=aJ s.H b/\(b+kW∉l->∀cs,aJ s.H b=some cs->bJ cs=false/\cW cs=[]):=by
   intro l hl b hb;cases ho:dn (fD o8) 0 s.H H' with
   |none=>rw[ho] at hl; cases hl
   |some r=>
     rw[ho] at hl;have hl:some (fD o8++r)=some l:=hl;cases hl;have ug:=eQ hb;have:=AR ho b (by simpa using ug.1);refine⟨this.1,fun h2=>this.2 ?_⟩;have:=(eQ h2).2;simpa using this
  refine⟨fun p=>dD p=false,⟨fun i hi _=>?_,fun i hi=>?_,fun i h1 h2=>?_,fun l hl b hb=>?_,fun i hi=>⟨fun p hp=>?_,by simp[dD],fun j=>by simp[dD]⟩,fun l hl b hb ug cs dG=>?_,fun d u hd nT _ hu=>?_⟩⟩
  ·simp only[he,dK,df];refine D8 (Ch ?_);cases hh:eX (aK (get s.env i)) with
   |false=>rfl
   |true=>exact absurd (ti hh) hi
  ·simp only[he,dK,df];rw[D8 (Ch ?_)];cases hh:eX (aK (get s.env i)) with
   |false=>rfl
   |true=>exact absurd (ti hh) hi
  ·simp only[he,dK,df];exact D8 fun p hp=>by rw[h2] at hp; simp at hp
  ·exact (off l hl b hb).1
  ·have:eX (aK (get s.env i))=false:=by
    cases hh:eX (aK (get s.env i)) with
    |false=>rfl
    |true=>exact absurd (ti hh) hi
   rw[Ch this p hp]; simp
  ·obtain⟨o1,o2⟩:=(off l hl b hb).2 ug cs dG;exact⟨fun p hp=>(by rw[o2] at hp; cases hp),fun ho=>(by rw[o1] at ho; cases ho)⟩
  ·let t0:St:=Qh ⟨put s.env d u,s.H⟩
   have hg:∀i,get t0.env i=if i=d then u else get s.env i:=fun i=>by rw[oW,bD]
   have hH:t0.H=s.H:=rfl
   have hrd:∀i∈kd.reads,get t0.env i=get s.env i:=fun i hi=>by
    rw[hg,if_neg]; intro e; subst e; exact hd hi
   refine⟨t0,⟨jS lV t0.env,H'⟩,fy t0.env,(qZ _).symm,?_,fun i hi=>?_,?_,rfl⟩
   ·rw[iV];unfold dq;rw[yc hi,B8 hl];simp only[fP,B3 hmv];apply rH;unfold dP;rw[gW (e1:=t0.env) (e2:=s.env) fun i hi=>by rw[hrd i hi],ha];simp only[hf,hm,he,dK,bp,if_false];rw[gW (e1:=t0.env) (e2:=s.env) fun i hi=>by rw[hrd i hi],Od];simp only[ZK,if_true,iO,hH,hp,hc,hr];simp
    first
     |done
     |rfl
     |(congr 1)
   ·obtain⟨_,h2⟩:=It hi;have:get (put s.env d u) i=get t0.env i:=(oW ⟨put s.env d u,s.H⟩ i).symm;simp only[this,hg] at h2;split at h2
    ·rename_i e;subst e;obtain⟨p,hp,hn⟩:=Ci.1 h2;exact absurd hn (hu p hp)
    ·exact ti h2
   ·intro i;simp only[he,dK,df,hg,bD];split
    ·refine D8 fun p hp=>?_;have:=hu p hp;simpa using this
    ·rfl
 ·rename_i iO;split at h
  case isFalse=>cases h
  rename_i Xa;split at h
  case h_2=>cases h
  rename_i r H' hc;split at h
  case isFalse=>cases h
  rename_i mX;simp only[af,aB] at h;obtain⟨rfl,rfl,h⟩:=h;split at h
  ·cases h
  unfold mG at h;split at h
  case h_2=>cases h
  rename_i p hbr;split at h
  case h_2=>cases h
  rename_i y hp;obtain⟨k,xs⟩:=y;simp only[Fq.wr.injEq] at h;obtain⟨rfl,rfl⟩:=h
  have DY:∀t:St,au t p=some (k,xs)->dK (cW args) t=setAt (cm (fb p k xs) t) p (.list k xs):=fun t ht=>by
   rw[hbr];simp only[dK,GJ,ht]
  rw[DY s hp];refine Xi hp fun t ht hpt=>?_;rw[iV];unfold dq;rw[yc hi,B8 hl];simp only[fP,B3 hmv];apply rH;unfold dP;rw[gW (e1:=t.env) (e2:=s.env) fun i hi=>by rw[ht i hi],ha];simp only[hf,hm,bp,if_false];rw[DY t hpt];rw[DY s hp] at Od
  have hk:getArgs c (setAt (cm (fb p k xs) t) p (.list k xs)).env kd=some (f1,o8):=by
   rw[<-Od];refine gW fun i hi=>?_
   have e0:get (cm (fb p k xs) t).env i=get (cm (fb p k xs) s).env i:=by
    show get (jS (fb p k xs) t.env) i=get (jS (fb p k xs) s.env) i;rw[df,df,ht i hi]
   have e1:get (setAt (cm (fb p k xs) t) p (.list k xs)).env i=get (setAt (cm (fb p k xs) s) p (.list k xs)).env i:=by
    by_cases hr:i∈rootOf p
    ·cases p with
     |s i0=>
       simp[rootOf] at hr; subst hr;simp only[setAt];rw[bD,bD,if_pos rfl,if_pos rfl]
     |sc i0 j=>
       simp[rootOf] at hr; subst hr;simp only[setAt,e0];split
       ·rw[bD,bD,if_pos rfl,if_pos rfl]
       ·exact e0
     |c b j=>simp[rootOf] at hr
    ·rw[fN hr,fN hr]; exact e0
   rw[e1]
  rw[hk];simp only[ZK,if_true,iO,bp,if_false,Xa,hc,mX];simp[hbr,mG,hpt]
theorem VI {s s1:St} {k n:Nat} {zs:List AV} {ps:List (Nat × Nat × E)} {v:AV} {sl:List Nat} {bs:Option (List Nat)} (h:eS c call s (.dV k n zs ps)=some (v,s1,.wr sl bs)):∃V,vE c call s (.dV k n zs ps) v s1 sl bs V:=by
 simp only[eS] at h;split at h
 case h_2=>cases h
 rename_i cs hc;split at h
 case isFalse=>cases h
 rename_i hz;simp only[af,aB] at h;obtain⟨rfl,rfl,h⟩:=h;split at h
 ·cases h
 unfold mG at h;split at h
 case h_2=>cases h
 rename_i p hbr;split at h
 case h_2=>cases h
 rename_i y hp;obtain⟨k',xs⟩:=y;simp only[Fq.wr.injEq] at h;obtain⟨rfl,rfl⟩:=h
 have DY:∀t:St,au t p=some (k',xs)->dK (gj c s.env ps) t=setAt (cm (fb p k' xs) t) p (.list k' xs):=fun t ht=>by
  rw[hbr];simp only[dK,GJ,ht]
 rw[DY s hp] at hc ⊢;refine Xi hp fun t ht hpt=>?_;have hpb:gj c t.env ps=gj c s.env ps:=rn fun i hi=>by rw[ht i hi]
 have hk:qN c (setAt (cm (fb p k' xs) t) p (.list k' xs)).env (rep zs n) ps=some cs:=by
  rw[<-hc];refine sJ fun i hi=>?_
  have e0:get (cm (fb p k' xs) t).env i=get (cm (fb p k' xs) s).env i:=by
   show get (jS (fb p k' xs) t.env) i=get (jS (fb p k' xs) s.env) i;rw[df,df,ht i hi]
  have e1:get (setAt (cm (fb p k' xs) t) p (.list k' xs)).env i=get (setAt (cm (fb p k' xs) s) p (.list k' xs)).env i:=by
   by_cases hr:i∈rootOf p
   ·cases p with
    |s i0=>
      simp[rootOf] at hr; subst hr;simp only[setAt];rw[bD,bD,if_pos rfl,if_pos rfl]
    |sc i0 j=>
      simp[rootOf] at hr; subst hr;simp only[setAt,e0];split
      ·rw[bD,bD,if_pos rfl,if_pos rfl]
      ·exact e0
    |c b j=>simp[rootOf] at hr
   ·rw[fN hr,fN hr]; exact e0
  rw[e1]
 simp only[eS,hpb,DY t hpt,hk,hz,if_true];simp[hbr,mG,hpt]
theorem zP {b off k:Nat}:∀{s:St} {v:AV},Hk (cP b off k) s v=false->(∀i,∀p∈aK (get s.env i),cP b off k p=false)/\(∀d cs,aJ s.H d=some cs->∀p∈cW cs,cP b off k p=false)/\∀ p∈aK v,cP b off k p=false:=by
 intro s v h;simp only[Hk,eC] at h;obtain⟨h1,h2,h3⟩:=h;refine⟨fun i p hp=>?_,fun d cs hb=>Hg h3 hb,fun p hp=>?_⟩
 ·cases hh:cP b off k p with
  |false=>rfl
  |true=>rw[OR (i:=i) (tK.2 ⟨p,hp,hh⟩)] at h2; cases h2
 ·cases hh:cP b off k p with
  |false=>rfl
  |true=>rw[tK.2 ⟨p,hp,hh⟩] at h1; cases h1
theorem abO {p:Rt} {b:Nat} (h:nf b (Ug p)=false):b∉kA p:=by
 cases p with
 |s i=>simp[kA]
 |sc i j=>simp[kA]
 |c d j=>
   have:=(nM h).2 99999;simp only[Ug,kA,cE] at this ⊢;intro e;subst e;exact this rfl
theorem rU.TF {b j:Nat} {s t:St} (h:∀cs,aJ s.H b=some cs->∃ds,aJ t.H b=some ds/\ds[j]?=cs[j]?):rU b j s t:=fun cs hc=>by
 obtain⟨ds,a,e⟩:=h cs hc;exact⟨ds,a,uc _ e⟩
theorem PN {s:St} {p:Rt} {k:Nat} {xs xs':List AV} (hp:au s p=some (k,xs)) (hl:xs'.length=xs.length) (b j:Nat):rU b j s (setAt s p (.own k xs'))/\rU b j (setAt s p (.own k xs')) s:=by
 cases p with
 |s i=>exact⟨.of_eq rfl,.of_eq rfl⟩
 |sc i l=>
   have e:(setAt s (.sc i l) (.own k xs')).H=s.H:=by simp only[setAt]; split<;>rfl
   exact⟨.of_eq (by rw[e]),.of_eq (by rw[e])⟩
 |c d l=>
   have h1:=bY.1 hp;simp only[at_] at h1;split at h1
   case h_2=>cases h1
   rename_i cs dG;have e:(setAt s (.c d l) (.own k xs')).H=s.H.set d (some (cs.set l (.own k xs'))):=by simp only[setAt,dG]
   have hb:∀c,aJ (setAt s (.c d l) (.own k xs')).H c=if c=d then some (cs.set l (.own k xs')) else aJ s.H c:=fun c=>by
    rw[e,di];by_cases q:c=d
    ·rw[if_pos ⟨q,by subst q; exact dx dG⟩,if_pos q]
    ·rw[if_neg (fun h=>q h.1),if_neg q]
   by_cases q:b=d
   ·subst q;have lc:=Ca (f:=fun i=>Rt.c b i) (j:=0) h1 hl;refine⟨fun ds nT=>⟨_,by rw[hb,if_pos rfl],?_⟩,fun ds nT=>⟨cs,dG,?_⟩⟩
    ·rw[dG] at nT; cases nT;exact congrArg (·[j]?) lc
    ·rw[hb,if_pos rfl] at nT; cases nT;exact (congrArg (·[j]?) lc).symm
   ·exact⟨.of_eq (by rw[hb,if_neg q]),.of_eq (by rw[hb,if_neg q])⟩
theorem af4 {s s1:St} {k:Nat} {x y:E} {v:AV} {sl:List Nat} {bs:Option (List Nat)} (h:eS c call s (.st k x y)=some (v,s1,.wr sl bs)):∃V,Rl c call s (.st k x y) v s1 sl bs V:=by
 have hcg:∀{d:Nat} {u:AV} {e:Env},(∀i,get e i=if i=d then u else get s.env i)->d∉(Kd.st k x y).reads->aY c e x=aY c s.env x/\aY c e y=aY c s.env y:=by
  intro d u e he hd;simp only[Kd.reads,aD,not_or] at hd;exact⟨bT fun i hi=>by rw[he,if_neg]; intro e; subst e; exact hd.1 hi,bT fun i hi=>by rw[he,if_neg]; intro e; subst e; exact hd.2 hi⟩
 have HF:∀{d:Nat} {u:AV},∀i,get (put s.env d u) i=if i=d then u else get s.env i:=fun i=>bD _ _ _ _;simp only[eS] at h;split at h
 ·rename_i k' p i off hx;split at h
  case h_2=>cases h
  rename_i s2 f hh;simp only[af,aB] at h;obtain⟨rfl,rfl,h⟩:=h
  have he:aK (aY c s.env y)=[]:=by
   cases hb:aK (aY c s.env y) with
   |nil=>rfl
   |cons a b=>rw[hb] at h; simp at h
  rw[he] at h hh;simp at h;subst h;rw[show dK [] s=s from rfl,hx] at hh;simp only[O4] at hh;split at hh
  case h_2=>cases hh
  rename_i k2 xs hp;split at hh
  case isFalse=>cases hh
  rename_i hk;split at hh
  case h_2=>cases hh
  rename_i z hz;by_cases hc:(aY c s.env y).cells.length=k/\off+k<=k'/\K0 (aY c s.env y).cells=true
  case neg=>rw[if_neg hc] at hh; cases hh
  rw[if_pos hc] at hh;simp only[af,aB,Fq.wr.injEq] at hh;obtain⟨rfl,rfl,rfl⟩:=hh;have wZ:=wH hp;refine⟨fun _=>False,⟨fun i _ hi=>fN fun hm=>hi (xT.2 hm),fun i _=>PO (hk▸hp) (cF ..) i,(fun i h1 h2=>fN fun hi=>by rw[wZ i hi] at h1; cases h1),fun l hl b hb=>(by cases hl; exact tg (abO hb)),fun l hl b j hb hbj=>(by cases hl; exact PN (hk▸hp) (cF ..) b j),fun i hi=>⟨fun _ _=>id,id,fun _=>id⟩,fun l hl b hb ug cs dG=>⟨fun _ _=>id,fun _ _=>id⟩,fun l hl b j _ _ _ cs c0 _ _=>⟨fun _ _=>id,fun _ _ _=>id⟩,fun d u hd _ hds0 hu=>?_⟩⟩;have nT:d∉rootOf p:=fun hm=>hds0 (xT.2 hm);obtain⟨e1,e2⟩:=hcg (HF (d:=d) (u:=u)) hd;refine⟨⟨put s.env d u,s.H⟩,_,marks (rootOf p),dE.rfl',?_,fun i hi=>hi,tf nT⟩;simp only[eS,e1,hx,e2,he];rw[show dK [] ⟨put s.env d u,s.H⟩=(⟨put s.env d u,s.H⟩:St) from rfl,e1,hx,e2];simp only[O4,nx nT,hp,hk,if_true,hz];rw[if_pos hc];simp
 ·rename_i hnp;split at h
  case h_2=>cases h
  rename_i s2 f hh;simp only[af,aB] at h;obtain⟨rfl,rfl,rfl⟩:=h;unfold O4 at hh;split at hh
  ·rename_i b off hx;unfold yP at hh;split at hh
   case h_2=>cases hh
   rename_i cs hb;split at hh
   case isFalse=>cases hh
   rename_i hc;split at hh
   ·split at hh
    ·split at hh<;>simp at hh
    ·cases hh
   ·rename_i H5;simp only[af,aB,Fq.wr.injEq] at hh;obtain⟨rfl,rfl,rfl⟩:=hh
    have Ui:bJ ((cs.drop off).take k)=true->Hk (cP b off k) s (aY c s.env y)=false:=fun ho=>by
     rw[ho] at H5; simpa using H5
    apply vE.up;refine⟨fun p=>bJ ((cs.drop off).take k)=true/\cP b off k p=true,⟨fun i hi _=>rfl,fun i hi=>rfl,fun i h1 h2=>rfl,fun l hl d hd=>?_,fun i hi=>⟨fun p hp hV=>?_,fun hV=>by simp[cP] at hV,fun j hV=>by simp[cP] at hV⟩,fun l hl d hd Du ds nT=>⟨fun p hp hV=>?_,fun _ j hV=>?_⟩,fun d u hd nT _ hu=>?_⟩⟩
    ·cases hl;have:d≠b:=by simpa using hd
     show aJ (s.H.set b _) d=aJ s.H d;rw[di,if_neg (fun e=>this e.1)]
    ·rw[(zP (Ui hV.1)).1 i p hp] at hV; cases hV.2
    ·rw[(zP (Ui hV.1)).2.1 d ds nT p hp] at hV; cases hV.2
    ·cases hl;have:d≠b:=by simpa using hd
     simp[cP,this] at hV
    ·let t0:St:=Qh ⟨put s.env d u,s.H⟩
     have hg:∀i,get t0.env i=if i=d then u else get s.env i:=fun i=>by rw[oW,bD]
     have hH:t0.H=s.H:=rfl;obtain⟨e1,e2⟩:=hcg hg hd;refine⟨t0,⟨t0.env,s.H.set b (some (iZ cs off (aY c s.env y).cells))⟩,[],(qZ _).symm,?_,fun i hi=>hi,(qZ _).symm.1,rfl⟩
     have ahr:(bJ ((cs.drop off).take k)&&Hk (cP b off k) t0 (aY c s.env y))=false:=by
      cases ho:bJ ((cs.drop off).take k) with
      |false=>rfl
      |true=>
        obtain⟨n1,n2,n3⟩:=zP (Ui ho)
        have nR:∀{l:List Rt},(∀p∈l,cP b off k p=false)->xk (cP b off k) l=false:=by
         intro l hl;cases hh:xk (cP b off k) l with
         |false=>rfl
         |true=>obtain⟨p,hp,hq⟩:=tK.1 hh; rw[hl p hp] at hq; cases hq
        have h0:=Ui ho;simp only[Hk,eC] at h0;simp only[Hk,Bool.true_and,eC];refine⟨h0.1,?_,by rw[hH]; exact h0.2.2⟩;cases hh:Hj (cP b off k) t0.env with
        |false=>rfl
        |true=>
          obtain⟨i,_,h2⟩:=Hi hh;have:get (put s.env d u) i=get t0.env i:=(oW ⟨put s.env d u,s.H⟩ i).symm;simp only[this,hg] at h2;split at h2
          ·obtain⟨p,hp,hq⟩:=tK.1 h2;exact absurd ⟨ho,hq⟩ (hu p hp)
          ·rw[nR (n1 i)] at h2; cases h2
     simp only[eS,e1,hx,e2,O4,yP,hH,hb];rw[if_pos hc];simp only[ahr,bp,if_false]
  ·rename_i k2 p2 i2 off2 e1;exact absurd e1 (hnp k2 p2 i2 off2)
  ·cases hh
theorem ET {q:Rt}:∀{l:List Rt},q∈l->∀i∈rootOf q,i∈zj l
 |[],h,i,_=>by simp at h
 |r::l,h,i,hi=>by
   simp only[zj,aD];rcases aO.1 h with e|e
   ·subst e; exact .inl hi
   ·exact .inr (ET e i hi)
theorem aae {s t:St} {k:Nat} {x:AV} (h:∀p∈aK x,au t p=au s p):cont t k x=cont s k x:=by
 cases x<;>try rfl
 case dz k' p off len=>simp only[cont]; rw[h p (by simp[aK])]
 case own k' xs=>cases xs<;>rfl
theorem Xr {p:Rt} {x:AV} (h:p∉aK x):cD (sw p) x=x:=A3 x fun k q o l hq=>by
 have:q≠p:=fun e=>h (e▸hq);simp[sw,this]
theorem RG {p:Rt} {x:List AV} (h:p∉cW x):cO (sw p) x=x:=nD x fun k q o l hq=>by
 have:q≠p:=fun e=>h (e▸hq);simp[sw,this]
theorem G5 {p:Rt} {b:Nat} {m:List Nat} (h:nf b (cellOf p++m)=false):b∉kA p:=by
 intro hb;cases p with
 |s i=>simp[kA] at hb
 |sc i j=>simp[kA] at hb
 |c d j=>
   simp[kA] at hb;subst hb;exact (nM h).2 j (by simp[cellOf])
theorem ad5 {s s1:St} {k:Nat} {x y:E} {v:AV} {sl:List Nat} {bs:Option (List Nat)} (h:eS c call s (.app k x y)=some (v,s1,.wr sl bs)):∃V,Rl c call s (.app k x y) v s1 sl bs V:=by
 simp only[eS] at h;split at h
 case h_2=>cases h
 rename_i ys hy;split at h
 case isFalse=>cases h
 rename_i hl;split at h
 ·split at h<;>simp at h
 case h_3=>cases h
 rename_i k' p len hx;split at h
 case h_2=>cases h
 rename_i k2 xs hp;split at h
 case isFalse=>cases h
 rename_i hc;simp only[af,aB,Fq.wr.injEq] at h;obtain⟨rfl,rfl,rfl,rfl⟩:=h;have wZ:=wH hp;have Ay:∀i∈rootOf p,i∈kY p s.env:=fun i hi=>nn (.inr ⟨sE.2 hi,fun e=>by have:=wZ i hi; rw[e] at this; cases this⟩);have nA:∀{i:Nat},i∉kY p s.env->p∉aK (get s.env i)/\i∉rootOf p:=fun{i} hi=>⟨fun e=>hi (nn (.inl (tB.2 e))),fun e=>hi (Ay i e)⟩
 have GP:∀i,p∉aK (get s.env i)->i∉rootOf p->get (setAt (cm (sw p) s) p .any).env i=get s.env i:=fun i h1 h2=>by
  rw[fN h2];show get (jS (sw p) s.env) i=_;rw[df,Xr h1]
 refine⟨fun q=>q=p,⟨fun i hi _=>?_,fun i hi=>?_,fun i h1 h2=>?_,fun l hl b hb=>?_,fun l hl b j hb hbj=>?_,fun i hi=>⟨fun q hq e=>?_,fun e=>?_,fun j e=>?_⟩,fun l hl b hb ug cs dG=>⟨fun q hq e=>?_,fun _ j e=>?_⟩,fun l hl b j hb ug hbj cs c0 dG GC=>⟨fun q hq e=>?_,fun k0 xs0 e0 e=>?_⟩,fun d u hd nT hds2 hu=>?_⟩⟩
 ·obtain⟨h1,h2⟩:=nA (eQ hi).1;exact GP i h1 h2
 ·obtain⟨h1,h2⟩:=nA (eQ hi).1;rw[GP i h1 h2]
 ·exact GP i (by rw[h2]; simp) fun hi=>by rw[wZ i hi] at h1; cases h1
 ·cases hl;have Be:b∉kA p:=G5 hb;have ug:=(eQ (nM hb).1).2;rw[tg Be];show aJ (fJ (sw p) s.H) b=_;rw[fe];cases dG:aJ s.H b with
  |none=>rfl
  |some cs=>
    simp only[cj,af];refine RG fun hm=>ug ?_;have:=kZ (k:=0) dG hm;simpa using this
 ·cases hl;obtain⟨Be,ug⟩:=eQ hb;obtain⟨hj1,_⟩:=eQ hbj
  have hsw:∀cs,aJ s.H b=some cs->cO (sw p) cs=cs:=fun cs dG=>RG fun hm=>ug (by
   have:=kZ (k:=0) dG hm;simpa using this)
  have hn:aJ s.H b=none->aJ (setAt (cm (sw p) s) p .any).H b=none:=fun hn=>by
   cases p with
   |s i=>show aJ (fJ (sw _) s.H) b=none; rw[fe,hn]; rfl
   |sc i l=>
     simp only[setAt];split<;>(show aJ (fJ (sw _) s.H) b=none; rw[fe,hn]; rfl)
   |c d l=>
     simp only[setAt];split
     ·rename_i cs dG;have hcs':aJ (fJ (sw (.c d l)) s.H) d=some cs:=dG;show aJ ((fJ (sw (.c d l)) s.H).set d _) b=none;rw[di];by_cases e:b=d
      ·subst e; rw[fe,hn] at hcs'; cases hcs'
      ·rw[if_neg (fun h=>e h.1),fe,hn]; rfl
     ·show aJ (fJ (sw _) s.H) b=none; rw[fe,hn]; rfl
  have hs:∀cs,aJ s.H b=some cs->∃ds,aJ (setAt (cm (sw p) s) p .any).H b=some ds/\ds[j]?=cs[j]?:=fun cs dG=>by
   have hm:aJ (fJ (sw p) s.H) b=some cs:=by rw[fe,dG,cj,hsw cs dG]
   cases p with
   |s i=>exact⟨cs,hm,rfl⟩
   |sc i l=>
     simp only[setAt];split<;>exact⟨cs,hm,rfl⟩
   |c d l=>
     simp only[setAt];split
     ·rename_i es Wr;have hes':aJ (fJ (sw (.c d l)) s.H) d=some es:=Wr;show ∃ds,aJ ((fJ (sw (.c d l)) s.H).set d _) b=some ds/\_;rw[di];by_cases e:b=d
      ·subst e;rw[hm] at hes';cases hes';refine⟨cs.set l .any,by rw[if_pos ⟨rfl,dx hm⟩],?_⟩;rw[List.getElem?_set_ne];intro e2;subst e2;exact hj1 (by simp[cellOf])
      ·rw[if_neg (fun h=>e h.1)];exact⟨cs,hm,rfl⟩
     ·exact⟨cs,hm,rfl⟩
  refine⟨.TF hs,.TF fun ds nT=>?_⟩;cases dG:aJ s.H b with
  |none=>rw[hn dG] at nT; cases nT
  |some cs=>
    obtain⟨ds',h1,h2⟩:=hs cs dG;rw[h1] at nT;cases nT;exact⟨cs,rfl,h2.symm⟩
 ·subst e;exact (nA (eQ hi).1).1 hq
 ·subst e;exact (nA (eQ hi).1).2 (by simp[rootOf])
 ·subst e;exact (nA (eQ hi).1).2 (by simp[rootOf])
 ·subst e;cases hl;obtain⟨Be,ug⟩:=eQ (nM hb).1;have:=kZ (k:=0) dG hq;exact ug (by simpa using this)
 ·subst e;cases hl;exact G5 hb (by simp[kA])
 ·subst e;cases hl;obtain⟨Be,ug⟩:=eQ hb;have:=kZ (k:=0) dG (jK.2 ⟨c0,bf GC,hq⟩);exact ug (by simpa using this)
 ·subst e;cases hl;exact (eQ hbj).1 (by simp[cellOf])
 ·have ZM:=(eQ nT).1;have Du:d∉zj (aK (aY c s.env y)):=fun hm=>(eQ hds2).2 (xT.2 hm);obtain⟨hd3,hd4⟩:=nA ZM
  let t0:St:=Qh ⟨put s.env d u,s.H⟩
  have Gz:dE t0 ⟨put s.env d u,s.H⟩:=(qZ _).symm;have hg:∀i,get t0.env i=if i=d then u else get s.env i:=fun i=>by rw[oW,bD]
  have hH:t0.H=s.H:=rfl;simp only[Kd.reads,aD,not_or] at hd;have e1:aY c t0.env x=aY c s.env x:=bT fun i hi=>by rw[hg,if_neg]; intro e; subst e; exact hd.1 hi
  have e2:aY c t0.env y=aY c s.env y:=bT fun i hi=>by rw[hg,if_neg]; intro e; subst e; exact hd.2 hi
  have own:∀q,d∉rootOf q->au t0 q=au s q:=fun q hq=>by rw[<-Gz.own q]; exact nx hq
  have e3:cont t0 k (aY c s.env y)=cont s k (aY c s.env y):=aae fun q hq=>own q fun hr=>Du (ET hq d hr);have KJ:p∉aK u:=fun hm=>hu p hm rfl;refine⟨t0,setAt (cm (sw p) t0) p .any,kY p t0.env++marks (zj (aK (aY c s.env y))),Gz,?_,fun i hi=>?_,?_⟩
  ·simp only[eS,e1,e2,e3,hy,hl,if_true,hx,own p hd4,hp];rw[if_pos hc];rfl
  ·rcases aD.1 hi with hi|hi
   ·obtain⟨_,h2⟩:=BM hi;have:get (put s.env d u) i=get t0.env i:=(oW ⟨put s.env d u,s.H⟩ i).symm;simp only[this,hg] at h2;refine aD.2 (.inl ?_);rcases h2 with h2|h2
    ·split at h2
     ·exact absurd (tB.1 h2) KJ
     ·exact nn (.inl h2)
    ·exact Ay i (sE.1 h2)
   ·exact aD.2 (.inr hi)
  ·have h5:dE (cm (sw p) t0) ⟨put (cm (sw p) s).env d u,(cm (sw p) s).H⟩:=⟨fun i=>by
    show get (jS (sw p) t0.env) i=get (put (jS (sw p) s.env) d u) i;rw[df,hg,bD,df];split
    ·exact Xr KJ
    ·rfl,rfl⟩
   exact (EP h5 p .any).trans (tf hd4)
theorem ad4 {s s1:St} {f:Nat} {x:E} {es:List E} {g:Nat->List AV->List AV->Option (List AV)} {v:AV} {sl:List Nat} {bs:Option (List Nat)} (hi:c.inp f=none) (LB:c.eat f=some g) (h:QV s g (aY c s.env x) (dv c s.env es)=some (v,s1,.wr sl bs)):∃V,Rl c call s (.call f (x::es)) v s1 sl bs V:=by unfold QV at h;cases h
theorem ad3 {s s1:St} {kd:Kd} {v:AV} {sl:List Nat} {bs:Option (List Nat)} (hni:∀f x es,kd=.call f (x::es)->c.inp f≠none) (iV:∀t,eS c call t kd=dq c call kd t) (h:qG c s kd=some (some (v,s1,.wr sl bs))):∃V,vE c call s kd v s1 sl bs V:=by
 have h0:=h;unfold qG at h;split at h
 case h_2=>cases h
 rename_i f x es;split at h
 case h_1=>
  rename_i hin;exact absurd hin (hni _ _ _ rfl)
 rename_i g LB;simp only[af] at h;split at h
 case h_4=>cases h
 case h_3=>
  exfalso
  (repeat' split at h)<;>simp at h
 ·rename_i k hx;split at h
  case isFalse=>cases h
  rename_i mX;split at h
  case h_2=>cases h
  rename_i ys res HY;simp only[af,aB,Fq.wr.injEq] at h;obtain⟨rfl,rfl,rfl,rfl⟩:=h;refine⟨fun _=>False,⟨fun i hi _=>rfl,fun i hi=>rfl,fun i h1 h2=>rfl,fun l hl b hb=>rfl,fun i hi=>⟨fun _ _=>id,id,fun _=>id⟩,fun l hl b hb ug cs dG=>⟨fun _ _=>id,fun _ _=>id⟩,fun d u hd nT _ hu=>?_⟩⟩;have HF:∀i,get (put s.env d u) i=if i=d then u else get s.env i:=fun i=>bD _ _ _ _;simp only[Kd.reads,mT,aD,not_or] at hd;have e1:aY c (put s.env d u) x=aY c s.env x:=bT fun i hi=>by rw[HF,if_neg]; intro e; subst e; exact hd.1 hi
  have e2:dv c (put s.env d u) es=dv c s.env es:=fZ fun i hi=>by rw[HF,if_neg]; intro e; subst e; exact hd.2 hi
  refine⟨⟨put s.env d u,s.H⟩,⟨put s.env d u,s.H⟩,[],dE.rfl',?_,fun i hi=>hi,dE.rfl'⟩;rw[iV];unfold dq qG;simp only[LB,e1,hx,e2];rw[if_pos mX];simp only[HY]
 rename_i k p len hx;split at h
 case h_2=>cases h
 rename_i k' xs hp;split at h
 case isFalse=>cases h
 rename_i hc;split at h
 case h_2=>cases h
 rename_i ys res HY;simp only[af,aB,Fq.wr.injEq] at h;obtain⟨rfl,rfl,rfl,rfl⟩:=h;have wZ:=wH hp;refine⟨fun _=>False,⟨fun i hi _=>fN hi,(fun i hi=>by rw[fN hi]),(fun i h1 h2=>fN fun hi=>by rw[wZ i hi] at h1; cases h1),fun l hl b hb=>(by cases hl; exact tg hb),fun i hi=>⟨fun _ _=>id,id,fun _=>id⟩,fun l hl b hb ug cs dG=>⟨fun _ _=>id,fun _ _=>id⟩,fun d u hd nT _ hu=>?_⟩⟩;have HF:∀i,get (put s.env d u) i=if i=d then u else get s.env i:=fun i=>bD _ _ _ _;simp only[Kd.reads,mT,aD,not_or] at hd;have e1:aY c (put s.env d u) x=aY c s.env x:=bT fun i hi=>by rw[HF,if_neg]; intro e; subst e; exact hd.1 hi
 have e2:dv c (put s.env d u) es=dv c s.env es:=fZ fun i hi=>by rw[HF,if_neg]; intro e; subst e; exact hd.2 hi
 refine⟨⟨put s.env d u,s.H⟩,_,rootOf p,dE.rfl',?_,fun i hi=>hi,tf nT⟩;rw[iV];unfold dq qG;simp only[LB,e1,hx,nx nT,hp,e2];rw[if_pos hc];simp only[HY]
theorem aaH {s s1:St} {k:Nat} {x y:E} {v:AV} {sl:List Nat} {bs:Option (List Nat)} (h:eS c call s (.copy k x y)=some (v,s1,.wr sl bs)):∃V,vE c call s (.copy k x y) v s1 sl bs V:=by
 have iV:∀t,eS c call t (.copy k x y)=match aY c t.env x with
   |.dz k' p off n=>if n=0 then (match cont t k (aY c t.env y) with
     |some ys=>if k'=k/\bq (aA ys)=true then some (.int .i64 0,t,.all) else none
     |none=>none) else match au t p,cont t k (aY c t.env y) with
     |some (xX,xs),some ys=>if k'=k/\xX=k/\off+n<=xs.length/\bq (aA ys)=true then some (.int .i64 (min ys.length n:Nat),setAt t p (.own k (iZ xs off (ys.take (min ys.length n)))),OC p (aY c t.env y)) else none
     |_,_=>none
   |_=>none:=fun t=>rfl
 rw[iV] at h;split at h
 case h_2=>cases h
 rename_i k' p off n hx;split at h
 ·exfalso
  (repeat' split at h)<;>simp at h
 rename_i hn;split at h
 case h_2=>cases h
 rename_i xX xs ys hp hy;split at h
 case isFalse=>cases h
 rename_i hc;simp only[af,aB] at h;obtain⟨rfl,rfl,hl⟩:=h;rcases xf p (aY c s.env y) with e|⟨ky,oy,ly,ey,e⟩
 ·rw[e] at hl; cases hl
 rw[e] at hl;simp only[Fq.wr.injEq] at hl;obtain⟨rfl,rfl⟩:=hl;have wZ:=wH hp;refine⟨fun _=>False,⟨fun i hi _=>fN hi,(fun i hi=>by rw[fN hi]),(fun i h1 h2=>fN fun hi=>by rw[wZ i hi] at h1; cases h1),fun l hl b hb=>(by cases hl; exact tg hb),fun i hi=>⟨fun _ _=>id,id,fun _=>id⟩,fun l hl b hb ug cs dG=>⟨fun _ _=>id,fun _ _=>id⟩,fun d u hd nT _ hu=>?_⟩⟩;have HF:∀i,get (put s.env d u) i=if i=d then u else get s.env i:=fun i=>bD _ _ _ _;simp only[Kd.reads,mT,aD,not_or] at hd;have e1:aY c (put s.env d u) x=aY c s.env x:=bT fun i hi=>by rw[HF,if_neg]; intro e; subst e; exact hd.1 hi
 have e2:aY c (put s.env d u) y=aY c s.env y:=bT fun i hi=>by rw[HF,if_neg]; intro e; subst e; exact hd.2 hi
 have e3:cont (⟨put s.env d u,s.H⟩:St) k (aY c s.env y)=cont s k (aY c s.env y):=by
  rw[ey];simp only[cont,nx nT]
 refine⟨⟨put s.env d u,s.H⟩,_,rootOf p,dE.rfl',?_,fun i hi=>hi,tf nT⟩;rw[iV];simp only[e1,hx,nx nT,hp,e2,e3,hy];rw[if_neg hn,if_pos hc,e]
theorem aaG {s s1:St} {kd:Kd} {v:AV} {sl:List Nat} {bs:Option (List Nat)} (iV:∀t,eS c call t kd=dq c call kd t) (h:qG c s kd=some (some (v,s1,.wr sl bs))):∃V,Rl c call s kd v s1 sl bs V:=by
 by_cases hex:∃f x es,kd=.call f (x::es)/\c.inp f=none
 case neg=>
  exact vE.up (ad3 (fun f x es e hn=>hex ⟨f,x,es,e,hn⟩) iV h)
 case pos=>
  obtain⟨f,x,es,rfl,hin⟩:=hex;simp only[qG,hin] at h;split at h
  ·cases h
  ·rename_i g LB;simp only[af] at h;exact ad4 hin LB h
theorem LM {s s1:St} {kd:Kd} {v:AV} {sl:List Nat} {bs:Option (List Nat)} (iV:∀t,eS c call t kd=dq c call kd t) (h:eS c call s kd=some (v,s1,.wr sl bs)):∃V,Rl c call s kd v s1 sl bs V:=by
 rw[iV] at h;unfold dq at h;cases hi:qG c s kd with
 |none=>
   rw[hi] at h;cases hl:mP c call s kd with
   |none=>
     rw[hl] at h;simp only[fP] at h;cases hm:sT c call s kd with
     |none=>
       rw[hm] at h;replace h:=(iH h).resolve_right fun h=>by obtain⟨e,_⟩:=xJ h; cases e
       exact vE.up (aaI iV hi hl hm h)
     |some r=>
       rw[hm] at h;simp only at h;subst h;obtain⟨e,_⟩:=xR hm;cases e
   |some r=>
     rw[hl] at h;simp only at h;subst h;obtain⟨b,e⟩:=Eh hl;cases e
 |some r=>
   rw[hi] at h;simp only at h;subst h;exact aaG iV hi
theorem wrOp {s s1:St} {kd:Kd} {v:AV} {sl:List Nat} {bs:Option (List Nat)} (h:eS c call s kd=some (v,s1,.wr sl bs)):∃V,Rl c call s kd v s1 sl bs V:=by
 cases kd
 case call=>exact LM (fun _=>rfl) h
 case iR=>exact LM (fun _=>rfl) h
 case st=>exact af4 h
 case app=>exact ad5 h
 case copy=>exact vE.up (aaH h)
 case dV=>exact vE.up (VI h)
 case ld=>
  exfalso;simp only[eS] at h;split at h
  case h_2=>cases h
  split at h
  case isFalse=>cases h
  simp only[af,aB] at h;obtain⟨_,_,h5⟩:=h;rcases wU _ _ _ with e|⟨b,j,e⟩<;>rw[e] at h5<;>cases h5
 all_goals
  exfalso;simp only[eS] at h
  (repeat' split at h)<;>simp at h
theorem af5:BC c call:=by
 intro s q v s1 sl bs ⟨hk,s0,t1,e0,he,e1⟩
 have op:eS c call s0 q.kd=some (v,t1,.wr sl bs)->(∀t:St,(∀i∈q.reads,get t.env i=get s.env i)->DE c call t q=eS c call t q.kd)->∃V,WrEv c call s q v s1 sl bs V:=by
  intro h DX;obtain⟨V,hV⟩:=wrOp h;have hr:∀i∈q.kd.reads,i∈q.reads:=fun i hi=>by simp[O.reads,hi]
  refine⟨V,⟨fun i hi hi2=>by rw[<-e1.1,hV.env i hi hi2,e0.1],fun i hi=>by rw[<-e1.1,hV.hd i hi,e0.1],fun i h1 h2=>by rw[<-e1.1,hV.keep i (by rw[<-e0.1]; exact h1) (by rw[<-e0.1]; exact h2),e0.1],fun l hl b hb=>by rw[<-e1.2,hV.heap l hl b hb,e0.2],fun l hl b j h1 h2=>(by
   have:=hV.cell l hl b j h1 h2;unfold rU at this ⊢;rw[e0.2,<-e1.2]; exact this),fun i hi=>by rw[e0.1]; exact hV.v1 i hi,fun l hl b hb ug cs dG=>hV.v2 l hl b hb ug cs (by rw[<-e0.2]; exact dG),fun l hl b j h1 h2 h3 cs c0 hb hc=>hV.v3 l hl b j h1 h2 h3 cs c0 (by rw[<-e0.2]; exact hb) hc,fun d u hd nT hds2 hu=>?_⟩⟩
  obtain⟨t0,t2,sl',h1,h2,h3,h4⟩:=hV.go d u (fun h=>hd (hr d h)) nT hds2 hu;have h6:dE (⟨put s0.env d u,s0.H⟩:St) ⟨put s.env d u,s.H⟩:=⟨fun i=>by simp only[bD,e0.1],e0.2.symm⟩;have hs:dE (⟨put s.env d u,s.H⟩:St) t0:=(h1.trans h6).symm;refine⟨t2,sl',⟨hk,t0,t2,hs,?_,dE.rfl'⟩,h3,h4.trans ⟨fun i=>by simp only[bD,e1.1],e1.2⟩⟩;rw[DX t0 fun i hi=>?_]
  ·exact h2
  ·rw[<-hs.1 i];show get (put s.env d u) i=_;rw[bD,if_neg];intro e; subst e; exact hd hi
 unfold DE at he;cases hg:q.guard with
 |none=>
   rw[hg] at he;exact op he fun t _=>by unfold DE; rw[hg]
 |some gp=>
   obtain⟨g,want⟩:=gp;rw[hg] at he;simp only at he;have HY:g∈q.reads:=by simp[O.reads,hg]
   split at he
   ·rename_i b hb;split at he
    ·rename_i QE;refine op he fun t h1=>?_;unfold DE;rw[hg];simp only[h1 g HY,e0.1 g,hb,QE,if_true]
    ·cases he
   ·cases he
   ·cases he
theorem lwOp {s s1:St} {kd:Kd} {v:AV} {b:Nat} (h:eS c call s kd=some (v,s1,.lw b)):(∀t,eS c call t kd=dq c call kd t)/\qG c s kd=none/\mP c call s kd=some (some (v,s1,.lw b)):=by
 have nc:∀{kd:Kd},dq c call kd s=some (v,s1,.lw b)->qG c s kd=none/\mP c call s kd=some (some (v,s1,.lw b)):=by
  intro kd h;unfold dq at h;cases hi:qG c s kd with
  |some r=>
    rw[hi] at h;simp only at h;subst h;obtain⟨sl,bs,e|e⟩:=Ba hi<;>cases e
  |none=>
    rw[hi] at h;cases hl:mP c call s kd with
    |some r=>
      rw[hl] at h;simp only at h;subst h;exact⟨rfl,rfl⟩
    |none=>
      rw[hl] at h;simp only[fP] at h;exfalso;split at h
      ·rename_i r hm;subst h;obtain⟨e,_⟩:=xR hm;cases e
      replace h:=(iH h).resolve_right fun h=>by obtain⟨e,_⟩:=xJ h; cases e
      unfold dP at h
      (repeat' split at h)
      all_goals first
       |(cases h; done)
       |(simp[Ct] at h; done)
       |(simp at h; obtain⟨_,_,h5⟩:=h; revert h5; split<;>simp[Ct]; done)
       |(simp only[af,aB] at h; obtain⟨_,_,h5⟩:=h; split at h5<;>cases h5)
 have ns:∀{s s':St} {k:Nat} {a v:AV},O4 s k a v≠some (s',.lw b):=by
  intro s s' k a v h;unfold O4 yP at h
  repeat' split at h
  all_goals first
   |(cases h; done)
   |(simp at h; done)
 cases kd
 case call=>exact⟨fun _=>rfl,nc h⟩
 case iR=>exact⟨fun _=>rfl,nc h⟩
 case st k a v=>
  exfalso;simp only[eS] at h;split at h
  ·split at h
   case h_2=>cases h
   rename_i hh;simp only[af,aB] at h;obtain⟨_,_,h5⟩:=h;split at h5
   ·rw[h5] at hh; exact ns hh
   ·cases h5
  ·split at h
   case h_2=>cases h
   rename_i hh;simp only[af,aB] at h;obtain⟨_,_,h5⟩:=h;rw[h5] at hh;exact ns hh
 all_goals
  exfalso;simp only[eS] at h
  (repeat' split at h)
  all_goals first
   |(cases h; done)
   |(simp at h; done)
   |(simp[Ct] at h; done)
   |(simp at h; obtain⟨_,_,h5⟩:=h; rcases wU _ _ _ with e|⟨b,j,e⟩<;>rw[e] at h5<;>cases h5; done)
   |(simp at h; obtain⟨_,_,h5⟩:=h; rcases xf _ _ with e|⟨_,_,_,_,e⟩<;>rw[e] at h5<;>cases h5; done)
   |(simp at h; obtain⟨_,_,h5⟩:=h; revert h5; split<;>simp)
theorem ahb:BE c call:=by
 intro s q v s1 b ⟨hk,s0,t1,e0,he,e1⟩
 have op:eS c call s0 q.kd=some (v,t1,.lw b)->(∀t:St,(∀i∈q.reads,get t.env i=get s.env i)->DE c call t q=eS c call t q.kd)->∃cs cs',LwEv c call s q v s1 b cs cs':=by
  intro h DX;obtain⟨iV,hi,hl⟩:=lwOp h;obtain⟨f,x,es,b',md,q',cs,cs',hkd,h1,h2,h3,h4,h5,h6,h7,h8,h9⟩:=wS hl;simp only[Fq.lw.injEq] at h9;subst h9;have hin:∀i∈mT (x::es),i∈q.reads:=fun i hi=>by simp[O.reads,hkd,Kd.reads,hi]
  refine⟨cs,cs',⟨by rw[e0.2]; exact h4,?_,fun t ht hbt=>?_⟩⟩
  ·refine e1.symm.trans ?_;rw[h8];exact⟨fun i=>(e0.1 i).symm,by show s0.H.set b (some cs')=s.H.set b (some cs'); rw[e0.2]⟩
  ·refine⟨hk,t,⟨t.env,t.H.set b (some cs')⟩,dE.rfl',?_,dE.rfl'⟩;rw[DX t ht,iV];unfold dq;rw[yc hi t]
   have bQ:mP c call t q.kd=some (some (v,⟨t.env,t.H.set b (some cs')⟩,.lw b)):=by
    have e2:aY c t.env x=aY c s0.env x:=bT fun i hi=>by rw[ht i (hin i (by simp[mT,hi])),e0.1 i]
    have e3:dv c t.env es=dv c s0.env es:=fZ fun i hi=>by rw[ht i (hin i (by simp[mT,hi])),e0.1 i]
    rw[hkd];unfold mP;simp only;rw[if_pos h1];unfold Wd;rw[e2,e3,h2];simp only[h3,hbt];rw[if_pos h5,h6];simp only;rw[if_pos h7]
   rw[bQ]
 unfold DE at he;cases hg:q.guard with
 |none=>
   rw[hg] at he;exact op he fun t _=>by unfold DE; rw[hg]
 |some gp=>
   obtain⟨g,want⟩:=gp;rw[hg] at he;simp only at he;have HY:g∈q.reads:=by simp[O.reads,hg]
   split at he
   ·rename_i b hb;split at he
    ·rename_i QE;refine op he fun t h1=>?_;unfold DE;rw[hg];simp only[h1 g HY,e0.1 g,hb,QE,if_true]
    ·cases he
   ·cases he
   ·cases he
theorem afF (cX:eR P c) (Cn:JY P c call):Hw P c call:=WD cX Cn (afG acx af5 ahb)
end
end Go.Bm

/- The end of a function that sees boxes of others. -/
namespace Go.Bm
open Go.Am
mutual
theorem FQ {o o':Rt->Option (Nat × List AV)} {nb I9:Nat} (hn:nb<=I9):∀x,lN x=true->cB o nb x->cB o' I9 x
 |.ptr b off,_,h=>by simp only[cB] at h ⊢; omega
 |.agg cs,hp,h=>by simp only[lN] at hp; simp only[cB] at h ⊢; exact AD hn cs hp h
 |.dF cs,hp,h=>by simp only[lN] at hp; simp only[cB] at h ⊢; exact AD hn cs hp h
 |.func f a b,hp,h=>by simp only[lN,ae] at hp; simp only[cB] at h ⊢; exact⟨AD hn a hp.1 h.1,AD hn b hp.2 h.2.1,h.2.2⟩
 |.own _ _,hp,_=>by simp[lN] at hp
 |.dz _ _ _ _,hp,_=>by simp[lN] at hp
 |.eV _ _ _ _,hp,_=>by simp[lN] at hp
 |.sl _ b _ _,_,h=>by simp only[cB] at h ⊢; omega
 |.any,_,_=>trivial|.undef,_,_=>trivial|.fo,_,_=>trivial|.fv,_,_=>trivial|.dp,_,_=>trivial
 |.int _ _,_,_=>trivial|.bool _,_,_=>trivial|.str _,_,_=>trivial|.list _ _,_,_=>trivial|.dh _,_,_=>trivial
theorem AD {o o':Rt->Option (Nat × List AV)} {nb I9:Nat} (hn:nb<=I9):∀xs,fI xs=true->jZ o nb xs->jZ o' I9 xs
 |[],_,_=>trivial
 |x::r,hp,h=>by simp only[fI,ae] at hp; exact⟨FQ hn x hp.1 h.1,AD hn r hp.2 h.2⟩
end
theorem xN {x:AV} (h:lN x=true):bL x=false:=by
 cases x<;>first|rfl|(simp[lN] at h; done)|skip
 rename_i cs;simp only[lN] at h;simp only[bL]
 induction cs with
 |nil=>rfl
 |cons y r ih=>
   simp only[fI,ae] at h;have h1:=h.1;cases y<;>first|exact ih h.2|(simp[lN] at h1; done)
theorem KB:jO mO:=by
 intro k r o l;cases r<;>exact⟨⟨(fun cs e=>by cases e),(fun k xs e=>by cases e)⟩,⟨(fun cs e=>by cases e),(fun k xs e=>by cases e)⟩⟩
section
variable {P:Program} {X:Nat->Prop} {φ oa φ':cZ} {w w1 w':World} {N N1 N':Names} {s s' s1:St} {Ha:Heap} {B:Nat->Nat} {base:Nat} {v va:AV} {v':Value} {c:dO} {a:Act} {call:Nat->List AV->Heap->Option (AV × Heap)} {t:Nat->Value}
theorem Tt {s s':St} (h:s'.H=s.H) (b j:Nat):au s' (.c b j)=au s (.c b j):=by simp only[au,at_,h]
theorem ua (r:AV) (i:Nat):get [(0,r)] i=if i=0 then r else .any:=by simp only[Am.get]
theorem er.leave (h:er X φ w N s Ha t) {i0:Nat} {r:AV} (hr:get s.env i0=r) (hp:lN r=true):er X φ w N ⟨[(0,r)],fJ mO s.H⟩ Ha (fun i=>if i=0 then t i0 else undef):=by
 have gV:=xN hp
 have slot:∀i,(∀k xs,get [(0,r)] i≠.own k xs)/\(au ⟨[(0,r)],fJ mO s.H⟩ (.s i)=none/\∀ j,au ⟨[(0,r)],fJ mO s.H⟩ (.sc i j)=none):=by
  intro i
  have h0:bL (get (⟨[(0,r)],fJ mO s.H⟩:St).env i)=false:=by
   show bL (get [(0,r)] i)=false;rw[ua]; split
   ·exact gV
   ·rfl
  refine⟨fun k xs e=>?_,dM h0⟩;have h1:bL (get [(0,r)] i)=false:=h0;rw[e] at h1; cases h1
 have box:∀b j,au ⟨[(0,r)],fJ mO s.H⟩ (.c b j)=au s (.c b j):=fun b j=>by
  rw[<-gO KB s (.c b j)];exact Tt rfl b j
 have own:∀{p},(au ⟨[(0,r)],fJ mO s.H⟩ p).isSome->au ⟨[(0,r)],fJ mO s.H⟩ p=au s p/\∃ b j,p=.c b j:=by
  intro p hp;cases p with
  |s i=>rw[(slot i).2.1] at hp; cases hp
  |sc i j=>rw[(slot i).2.2 j] at hp; cases hp
  |c b j=>exact⟨box b j,b,j,rfl⟩
 have hlen:(fJ mO s.H).length=s.H.length:=fj _ _;have back:∀b,(aJ (fJ mO s.H) b).isSome->(aJ s.H b).isSome:=fun b hb=>by rw[fe] at hb; simpa using hb
 have hl:∀k p a l,(cB (au s) s.H.length (.dz k p a l)->cB (au ⟨[(0,r)],fJ mO s.H⟩) s.H.length (mO (.dz k p a l))/\Le (cC N (mO (.dz k p a l))) (cC N (.dz k p a l)))/\(cB (au s) s.H.length (.eV k p a l)->cB (au ⟨[(0,r)],fJ mO s.H⟩) s.H.length (mO (.eV k p a l))/\Le (cC N (mO (.eV k p a l))) (cC N (.eV k p a l))):=by
  intro k p a l;cases p with
  |s i=>exact⟨fun _=>⟨trivial,Le.any _⟩,fun _=>⟨trivial,Le.any _⟩⟩
  |sc i j=>exact⟨fun _=>⟨trivial,Le.any _⟩,fun _=>⟨trivial,Le.any _⟩⟩
  |c b j=>
    refine⟨fun h=>⟨?_,Le.refl _⟩,fun h=>⟨?_,Le.refl _⟩⟩
    ·simp only[mO,cB] at h ⊢; rw[box]; exact h
    ·simp only[mO,cB] at h ⊢; rw[box]; exact h
 refine⟨fun i=>?_,fun i=>?_,h.heap,fun p k xs e=>?_,fun b cs e=>?_,fun p q n e1 e2 e3 e4=>?_,fun b p e1 e2 e3=>?_,fun b d e1 e2 e3=>h.bi b d (back b e1) (back d e2) e3⟩
 ·show bF _ _ (jY N i (get [(0,r)] i)) (if i=0 then t i0 else undef);rw[ua];by_cases e:i=0
  ·subst e;simp only[if_true];have:=h.env i0;rw[hr,xG N i0 gV] at this;rw[xG N 0 gV];exact this
  ·rw[if_neg e,if_neg e]; exact .any _ _
 ·show cB _ _ (get [(0,r)] i);rw[ua,hlen];split
  ·have:=h.Ea i0;rw[hr] at this;exact FQ (aI _) r hp this
  ·trivial
 ·have:=own (p:=p) (by rw[e]; rfl);rw[this.1] at e;exact h.own p k xs e
 ·have hb:aJ (fJ mO s.H) b=some cs:=e;rw[fe] at hb;cases hc:aJ s.H b with
  |none=>rw[hc] at hb; cases hb
  |some ds=>
    rw[hc] at hb;simp at hb;subst hb;obtain⟨as,g1,g2,g3⟩:=h.box b ds hc;refine⟨as,g1,by rw[cv]; exact g2,fun j d hd=>?_⟩;rw[dY] at hd;cases hj:ds[j]? with
    |none=>rw[hj] at hd; cases hd
    |some d0=>
      rw[hj] at hd;simp at hd;subst hd;obtain⟨g4,a',g5,g6⟩:=g3 j d0 hj;obtain⟨k1,k2⟩:=lz (N:=N) (N':=N) (o:=au s) (o':=au ⟨[(0,r)],fJ mO s.H⟩) (nb:=s.H.length) (g:=mO) rfl KB hl (r:=.c b j) (x:=d0) (fun _ _ _=>rfl) g4;refine⟨?_,a',g5,k2.trans g6⟩;show cB _ (fJ mO s.H).length _;rw[hlen]; exact k1
 ·rw[(own e1).1] at e1;rw[(own e2).1] at e2;exact h.inj p q n e1 e2 e3 e4
 ·have e2':(au s p).isSome:=by rw[<-(own e2).1]; exact e2
  exact h.bx b p (back b e1) e2' e3
theorem LP {env:Env} {base:Nat}:∀(n:Nat) (H:Heap),base<=H.length->base<=(trim base env n H).length:=by
 intro n
 induction n with
 |zero=>intro H h; exact h
 |succ n ih=>
   intro H h;simp only[trim];split
   ·exact ih _ (by simp; omega)
   ·exact h
theorem er.QT {H:Heap} {r1 r2:AV} (h:er X φ w N ⟨[(0,r1)],H⟩ Ha t) (h1:lN r1=true) (h2:lN r2=true) (hk:cB (fun _=>none) H.length r2) (hr:bF (Rd X φ w) φ (cC N r2) v'):er X φ w N ⟨[(0,r2)],H⟩ Ha (fun i=>if i=0 then v' else undef):=by
 have slot:∀{r:AV},lN r=true->∀i,bL (get (⟨[(0,r)],H⟩:St).env i)=false:=fun{r} hp i=>by
  show bL (get [(0,r)] i)=false;rw[ua]; split
  ·exact xN hp
  ·rfl
 have own:∀p,au ⟨[(0,r2)],H⟩ p=au ⟨[(0,r1)],H⟩ p:=by
  intro p;cases p with
  |s i=>rw[(dM (slot h2 i)).1,(dM (slot h1 i)).1]
  |sc i j=>rw[(dM (slot h2 i)).2 j,(dM (slot h1 i)).2 j]
  |c b j=>exact Tt rfl b j
 refine⟨fun i=>?_,fun i=>?_,h.heap,fun p k xs e=>?_,fun b cs e=>?_,fun p q n e1 e2=>?_,fun b p e1 e2=>?_,h.bi⟩
 ·show bF _ _ (jY N i (get [(0,r2)] i)) (if i=0 then v' else undef);rw[ua];by_cases e:i=0
  ·rw[if_pos e,if_pos e,xG N i (xN h2)]; exact hr
  ·rw[if_neg e,if_neg e]; exact .any _ _
 ·show cB _ _ (get [(0,r2)] i);rw[ua];split
  ·exact FQ (aI _) r2 h2 hk
  ·trivial
 ·rw[own] at e; exact h.own p k xs e
 ·obtain⟨as,g1,g2,g3⟩:=h.box b cs e;refine⟨as,g1,g2,fun j c hc=>⟨iM (fun p _=>own p) (aI _) c (g3 j c hc).1,(g3 j c hc).2⟩⟩
 ·rw[own] at e1 e2; exact h.inj p q n e1 e2
 ·rw[own] at e2; exact h.bx b p e1 e2
theorem er.af1 {env:Env} {H:Heap} (h:er X φ w N ⟨env,H⟩ Ha t) {n k:Nat} {xs:List AV} (ho:qV Ha (some n) k xs) (hz:∀g sz,φ[n]?=some (some (g,sz))->0<sz) (hnq:∀q,(au ⟨env,H⟩ q).isSome->N.ν q≠some n) (NZ:∀b,(aJ H b).isSome->N.β b≠n) :
  ∃ Ha',er X φ w ⟨fun c=>if c=H.length then n else N.β c,N.ν⟩ ⟨env,H++[some (aA xs)]⟩ Ha' t/\(∀m,m≠n->aJ Ha' m=aJ Ha m)/\∀ q,au ⟨env,H++[some (aA xs)]⟩ q=au ⟨env,H⟩ q:=by
 obtain⟨cs,c1,c2,c3,c4⟩:=ho;have Xd:=iQ c3;have bQ:=dx c1;have DV:∀m,m≠n->aJ (Ha.set n (some (cs.take (xs.length*k)))) m=aJ Ha m:=fun m hm=>by rw[di,if_neg (fun e=>hm e.1)]
 have ep:∀b,b<H.length->(if b=H.length then n else N.β b)=N.β b:=fun b hb=>if_neg (by omega)
 have eM:∀q,au ⟨env,H++[some (aA xs)]⟩ q=au ⟨env,H⟩ q:=by
  intro q;cases q with
  |s i=>rfl
  |sc i j=>rfl
  |c b j=>
    by_cases hb:b=H.length
    ·subst hb
     have e0:au ⟨env,H⟩ (.c H.length j)=none:=by
      have:aJ H H.length=none:=by
       cases e:aJ H H.length with
       |none=>rfl
       |some cs=>have:=dx e; omega
      simp[au,at_,this]
     rw[e0];unfold au at_;simp only[fH,if_true];cases e:(aA xs)[j]? with
     |none=>rfl
     |some d=>
       have hd:=(lG (c4 j d e).1).1;cases d<;>first|rfl|(simp[pl] at hd; done)
    ·exact gN (by simp only[at_,fH,if_neg hb])
 have mono:∀p,(au ⟨env,H⟩ p).isSome->au ⟨env,H++[some (aA xs)]⟩ p=au ⟨env,H⟩ p:=fun p _=>eM p;have hlen:H.length<=(H++[some (aA xs)]).length:=by simp
 have bold:∀{b},(aJ (H++[some (aA xs)]) b).isSome->(b<H.length/\(aJ H b).isSome)\/b=H.length:=by
  intro b hb;rw[fH] at hb;by_cases e:b=H.length
  ·exact .inr e
  ·rw[if_neg e] at hb;obtain⟨cs,e2⟩:=aR.1 hb;exact .inl ⟨dx e2,hb⟩
 have hh:bV X φ w (Ha.set n (some (cs.take (xs.length*k)))):=by
  refine⟨by rw[cF]; exact h.heap.len,h.heap.HK,fun b ds hb=>?_,fun b hb=>?_,h.heap.inj⟩
  ·rw[aX] at hb;split at hb
   ·rename_i e;subst e;simp at hb;obtain⟨_,rfl⟩:=hb;obtain⟨g,sz,arr,e,p1,p2,p3,p4,p5,p6⟩:=h.heap.live n cs (rS c1);refine⟨g,sz,arr,e,p1,p2,p3,⟨by rw[bj]; omega,fun z=>by have:=hz g sz p1; omega⟩,p5,fun i d hd=>?_⟩;rw[bE] at hd;split at hd
    ·exact p6 i d hd
    ·cases hd
   ·exact h.heap.live b ds hb
  ·rw[aX] at hb;split at hb
   ·simp at hb
   ·exact h.heap.dead b hb
 refine⟨_,⟨fun i=>?_,fun i=>iM mono hlen _ (h.Ea i),hh,fun p k' ys e=>?_,fun b ds e=>?_,fun p q m e1 e2 e3 e4=>?_,fun b p e1 e2 e3=>?_,fun b d e1 e2 e3=>?_⟩,DV,eM⟩
 ·rw[zf (N:=N) (N':=⟨fun c=>if c=H.length then n else N.β c,N.ν⟩) ep (fun _ _=>rfl) rfl (fun _=>rfl) (h.Ea i)];exact h.env i
 ·rw[eM] at e;refine (h.own p k' ys e).same fun m hm=>DV m fun e2=>?_;exact hnq p (by rw[e]; rfl) (by rw[<-e2]; exact hm)
 ·by_cases hb:b=H.length
  ·subst hb;simp only[fH,if_true,af] at e;subst e;refine⟨cs.take (xs.length*k),by simp only[if_true]; rw[di,if_pos ⟨rfl,bQ⟩],by rw[bj,Xd]; omega,fun j d hd=>?_⟩;obtain⟨q1,a,q2,q3,q4⟩:=c4 j d hd;have mX:=(lG q1).1;have hj:=ak hd;rw[Xd] at hj;refine⟨vv d mX,a,by rw[bE,if_pos hj]; exact q2,?_⟩
   have e1:∀N:Names,iJ N (.c H.length j) d=d:=fun N=>by
    have:=kg N d mX;cases d<;>first|exact this|(simp[pl] at mX; done)
   rw[e1]; exact q4
  ·simp only[fH,if_neg hb] at e;obtain⟨as,g1,g2,g3⟩:=h.box b ds e;refine⟨as,by simp only[ep b (dx e)]; rw[DV _ (NZ b (by show (aJ H b).isSome=true; rw[show aJ H b=some ds from e]; rfl))]; exact g1,g2,fun j x hx=>?_⟩;obtain⟨k1,a',k2,k3⟩:=g3 j x hx;refine⟨iM mono hlen x k1,a',k2,?_⟩;rw[tS (N:=N) (N':=⟨fun c=>if c=H.length then n else N.β c,N.ν⟩) ep (fun _ _=>rfl) (fun _ _ _=>rfl) k1];exact k3
 ·rw[eM] at e1 e2; exact h.inj p q m e1 e2 e3 e4
 ·rw[eM] at e2;rcases bold e1 with⟨b1,b2⟩|b1
  ·simp only[ep b b1] at e3; exact h.bx b p b2 e2 e3
  ·subst b1;simp only[if_true] at e3;exact hnq p e2 e3
 ·rcases bold e1 with⟨b1,b2⟩|b1<;>rcases bold e2 with⟨d1,d2⟩|d1
  ·simp only[ep b b1,ep d d1] at e3; exact h.bi b d b2 d2 e3
  ·subst d1; simp only[ep b b1,if_true] at e3; exact absurd e3 (NZ b b2)
  ·subst b1; simp only[ep d d1,if_true] at e3; exact absurd e3.symm (NZ d d2)
  ·rw[b1,d1]
theorem Il {env:Env} {base:Nat}:∀(n:Nat) (H:Heap),∃k,trim base env n H=H.take k
 |0,H=>⟨H.length,by simp[trim]⟩
 |n+1,H=>by
   simp only[trim];split
   ·obtain⟨k,e⟩:=Il (env:=env) (base:=base) n (H.take n);exact⟨min k n,by rw[e,List.take_take]⟩
   ·exact⟨H.length,by simp⟩
theorem NS {p:Rt}:∀{l:List Rt},wX p l=false ↔ p∉l
 |[]=>by simp[wX]
 |q::r=>by simp only[wX,eC,decide_eq_false_iff_not,NS (l:=r),aO,not_or]; exact⟨fun h=>⟨fun e=>h.1 e.symm,h.2⟩,fun h=>⟨fun e=>h.1 e.symm,h.2⟩⟩
theorem ON (h:er X φ w N s Ha t) {n0:Nat} {env:Env} {t1:Nat->Value}:∀(cs:List AV) (n:Nat) (used:List Rt) (ys:List AV) (hs:Heap),tH s n used cs=some (ys,hs)->jZ (au s) s.H.length cs->(∀x∈cs,lN x=true->cB (fun _=>none) n0 x) ->
  ∀ (β1:Nat->Nat) (H1:Heap) (Pk:Heap),er X φ w ⟨β1,N.ν⟩ ⟨env,H1⟩ Pk t1->n=H1.length->n0<=n->(∀b,b<n0->β1 b=N.β b) ->
   (∀i k xs m,au s (.s i)=some (k,xs)->N.ν (.s i)=some m->.s i∉used->qV Pk (some m) k xs/\(∀b,(aJ H1 b).isSome->β1 b≠m)/\∀ q,(au ⟨env,H1⟩ q).isSome->N.ν q≠some m) ->
   ∃ HA Ha2,er X φ w ⟨HA,N.ν⟩ ⟨env,H1++hs⟩ Ha2 t1/\(∀b,b<n->HA b=β1 b)/\ys.length=cs.length/\fI ys=true/\∀ (i:Nat) (x y:AV) (v:Value),cs[i]?=some x->ys[i]?=some y->bF (Rd X φ w) φ (cC N x) v->cB (fun _=>none) (H1++hs).length y/\bF (Rd X φ w) φ (cC ⟨HA,N.ν⟩ y) v
 |[],n,used,ys,hs,hf,_,_,β1,H1,Pk,h1,hn,hn0,ep,Bf=>by
   simp[tH] at hf;obtain⟨rfl,rfl⟩:=hf;exact⟨β1,Pk,by simpa using h1,fun _ _=>rfl,rfl,rfl,fun i x y v hx=>by simp at hx⟩
 |x::r,n,used,ys,hs,hf,cX,mX,β1,H1,Pk,h1,hn,hn0,ep,Bf=>by
   have rest:=fun (n':Nat) (u':List Rt) (Ak:List AV) (NX:Heap) (e:tH s n' u' r=some (Ak,NX))=>ON (n0:=n0) (env:=env) (t1:=t1) h r n' u' Ak NX e cX.2 (fun y hy=>mX y (by simp[hy]))
   -- a part that needs no box
   have stay:∀{y:AV} {Ak:List AV},tH s n used r=some (Ak,hs)->ys=y::Ak->lN y=true->(∀HA:Nat->Nat,(∀b,b<n->HA b=β1 b)->∀v,bF (Rd X φ w) φ (cC N x) v->cB (fun _=>none) (H1++hs).length y/\bF (Rd X φ w) φ (cC ⟨HA,N.ν⟩ y) v) ->
     ∃ HA Ha2,er X φ w ⟨HA,N.ν⟩ ⟨env,H1++hs⟩ Ha2 t1/\(∀b,b<n->HA b=β1 b)/\ys.length=(x::r).length/\fI ys=true/\∀ (i:Nat) (x' y:AV) (v:Value),(x::r)[i]?=some x'->ys[i]?=some y->bF (Rd X φ w) φ (cC N x') v->cB (fun _=>none) (H1++hs).length y/\bF (Rd X φ w) φ (cC ⟨HA,N.ν⟩ y) v:=by
    intro y Ak e ey hy hyr;subst ey;obtain⟨HA,Ha2,s2,b2,l2,p2,q2⟩:=rest n used Ak hs e β1 H1 Pk h1 hn hn0 ep Bf;refine⟨HA,Ha2,s2,b2,by simp[l2],by simp[fI,hy,p2],fun i x' z v hx hz hv=>?_⟩;cases i with
    |zero=>simp at hx hz; subst hx; subst hz; exact hyr HA b2 v hv
    |succ i=>exact q2 i x' z v (by simpa using hx) (by simpa using hz) hv
   have gen:lN x=true->∀{Ak},tH s n used r=some (Ak,hs)->ys=x::Ak->_:=fun hp {Ak} e ey=>stay e ey hp fun HA b2 v hv=>by
    have ho:=mX x (by simp) hp;refine⟨iM (fun p hp=>by cases hp) (by rw[bC]; omega) x ho,?_⟩;rw[xF (N:=N) (N':=⟨HA,N.ν⟩) (o:=fun _=>none) (nb:=n0) (fun b hb=>by show HA b=N.β b; rw[b2 b (by omega),ep b hb]) (fun p hp=>by cases hp) x ho];exact hv
   by_cases c1:∃k i len,x=.dz k (.s i) 0 len
   ·obtain⟨k,i,len,rfl⟩:=c1;simp only[tH] at hf;split at hf
    case h_2=>cases hf
    rename_i k' xs hp;split at hf
    case isFalse=>cases hf
    rename_i hc;obtain⟨rfl,rfl,hu⟩:=hc;have hu:=NS.1 hu;split at hf
    ·rename_i hl0;split at hf
     case h_2=>cases hf
     rename_i Ak NX e;simp at hf;obtain⟨rfl,rfl⟩:=hf;refine stay e rfl rfl fun HA b2 v hv=>⟨trivial,?_⟩;have zQ:xs=[]:=List.eq_nil_of_length_eq_zero hl0;subst zQ;simp only[cC,List.length_nil] at hv ⊢;split at hv
     ·cases hv with
      |sl _ _ _ _ _ a cap hb hc hh=>exact .vO _ _ _ _ _ _ (fun _ _=>undef) rfl hc (fun x hx=>by simp at hx) (fun i j x c hx=>by simp at hx) (fun i j x c hx=>by simp at hx)
     ·cases hv; exact .j7 _ _
    ·rename_i hl0;split at hf
     case h_2=>cases hf
     rename_i Ak NX e;simp at hf;obtain⟨rfl,rfl⟩:=hf;have eM:=h.own (.s i) k' xs hp;cases kL:N.ν (.s i) with
     |none=>
       rw[kL] at eM;have:xs=[]:=eM;subst this;simp at hl0
     |some m=>
       obtain⟨o1,o2,o3⟩:=Bf i k' xs m hp kL hu;obtain⟨Ha',s2,e2,e3⟩:=h1.af1 o1 (fun g sz e=>h.Ts hp kL e) o3 o2;have lt1:(H1++[some (aA xs)]).length=n+1:=by simp[hn]
       obtain⟨HA,Ha2,s3,b3,l3,p3,q3⟩:=rest (n+1) (.s i::used) Ak NX e _ _ _ s2 lt1.symm (by omega) (fun b hb=>by simp only[]; rw[if_neg (by omega)]; exact ep b hb) (fun i2 k2 xs2 m2 z1 z2 z3=>by
        simp only[aO,not_or] at z3;obtain⟨a1,a2,a3⟩:=Bf i2 k2 xs2 m2 z1 z2 z3.2;have hmm:m2≠m:=fun e=>z3.1 (h.inj _ _ m (by rw[z1]; rfl) (by rw[hp]; rfl) (by rw[<-e]; exact z2) kL);refine⟨a1.same fun m' Qy=>by cases Qy; exact e2 m2 hmm,fun b hb=>?_,fun q hq=>a3 q (by rw[e3] at hq; exact hq)⟩;rw[fH] at hb;simp only[];split
        ·exact fun e=>hmm e.symm
        ·rename_i tN; rw[if_neg tN] at hb; exact a2 b hb)
       rw[du] at s3;refine⟨HA,Ha2,s3,fun b hb=>by rw[b3 b (by omega)]; simp only[]; rw[if_neg (by omega)],by simp[l3],by simp[fI,lN,p3],fun j x' z v hx hz hv=>?_⟩;rw[du] at q3;cases j with
       |succ j=>exact q3 j x' z v (by simpa using hx) (by simpa using hz) hv
       |zero=>
         simp at hx hz;subst hx; subst hz;refine⟨by simp only[cB]; simp; omega,?_⟩;simp only[cC,kL,Nat.zero_mul] at hv ⊢;have:HA n=m:=by rw[b3 n (by omega)]; simp only[]; rw[if_pos hn]
         rw[this]; exact hv
   ·rw[tH] at hf
    ·split at hf
     case isFalse=>cases hf
     rename_i hp;split at hf
     case h_2=>cases hf
     rename_i Ak NX e;simp at hf;obtain⟨rfl,rfl⟩:=hf;exact gen hp e rfl
    ·exact fun k i len e=>c1 ⟨k,i,len,e⟩
theorem aff {o:Rt->Option (Nat × List AV)} {nb:Nat} {x:AV} (h:cB o nb x):cB o nb (HB x):=by
 cases x<;>first|exact h|trivial
theorem abo {R:Addr->Value->Prop} {x:AV} {v:Value} (r:bF R φ (cC N x) v):bF R φ (cC N (HB x)) v:=by
 cases x<;>first|exact r|exact .any _ _
theorem abV (h:er X φ w N s Ha (tm a)) (hb:(∀b,b<base->N.β b=B b)/\base<=s.H.length) (hv:bF (Rd X φ w) φ (cC N v) v') (hk:cB (au s) s.H.length v) {r:AV} {H':Heap} (hf:Z4 base s v=some (r,H')) :
  ∃ φ',SB X φ' w B base ⟨[(0,r)],H'⟩ (fun i=>if i=0 then v' else undef)/\eW φ w φ' w:=by
 unfold Z4 at hf;split at hf
 case h_2=>cases hf
 rename_i cs H5;split at hf
 case isFalse=>cases hf
 rename_i hp;split at hf
 case h_2=>cases hf
 rename_i ys hs Xe;simp only[af,aB] at hf;obtain⟨rfl,rfl⟩:=hf;simp only[cB] at hk;have hkL:=fO.1 hk
 -- the parts without what becomes boxes
 have Xa:lN (.dF (cs.map HB))=true:=hp;have gV:=xN Xa
 have hk0:cB (au s) s.H.length (.dF (cs.map HB)):=by
  simp only[cB];refine fO.2 fun i c hc=>?_;rw[cJ] at hc;cases e:cs[i]? with
  |none=>rw[e] at hc; cases hc
  |some x=>rw[e] at hc; simp at hc; subst hc; exact aff (hkL i x e)
 have NW:bF (Rd X φ w) φ (cC N (.dF (cs.map HB))) v':=by
  simp only[cC] at hv ⊢;cases hv with
  |dF _ _ vs hl hh=>
    refine .dF _ _ _ (by rw[dB] at hl ⊢; simpa using hl) fun i c u hc hu=>?_;rw[lT,cJ] at hc;cases e:cs[i]? with
    |none=>rw[e] at hc; cases hc
    |some x=>
      rw[e] at hc;simp at hc;subst hc;exact abo (hh i _ u (by rw[lT,e]; rfl) hu)
 have h1:=h.leave (i0:=eY) (r:=.any) H5 rfl;have okp:∀{o:Rt->Option (Nat × List AV)} {nb I9:Nat} {x:AV},nb<=I9->lN x=true->cB o nb x->cB (fun _=>none) I9 x:=fun hn hp ho=>FQ hn _ hp ho;have h2:=h1.QT (r2:=.dF (cs.map HB)) rfl Xa (okp (by rw[fj]; exact aI _) Xa hk0) NW;have h4:=er.trim (base0:=base) s.H.length h2;obtain⟨kt,et⟩:=Il (env:=[(0,.dF (cs.map HB))]) (base:=base) s.H.length (fJ mO s.H);have Uh:=LP (env:=[(0,.dF (cs.map HB))]) (base:=base) s.H.length (fJ mO s.H) (by rw[fj]; exact hb.2);generalize hH1:trim base [(0,.dF (cs.map HB))] s.H.length (fJ mO s.H)=H1 at *
 have back:∀b ds,aJ H1 b=some ds->aJ (fJ mO s.H) b=some ds:=by
  intro b ds e;rw[et,rR] at e;split at e
  ·exact e
  ·cases e
 have box:∀b,(aJ H1 b).isSome->(aJ s.H b).isSome:=by
  intro b e;obtain⟨ds,e⟩:=aR.1 e;have:=back b ds e;rw[fe] at this;cases hc:aJ s.H b with
  |none=>rw[hc] at this; cases this
  |some _=>rfl
 have own1:∀q,(au ⟨[(0,.dF (cs.map HB))],H1⟩ q).isSome->(∀i,q≠.s i)/\(au s q).isSome:=by
  intro q e
  have hs0:∀i,bL (get (⟨[(0,.dF (cs.map HB))],H1⟩:St).env i)=false:=fun i=>by
   show bL (get [(0,.dF (cs.map HB))] i)=false;rw[ua]; split
   ·exact gV
   ·rfl
  cases q with
  |s i=>rw[(dM (hs0 i)).1] at e; cases e
  |sc i j=>rw[(dM (hs0 i)).2 j] at e; cases e
  |c b j=>
    refine⟨fun i e=>(by cases e),?_⟩;rw[<-gO KB s (.c b j)];obtain⟨⟨k0,xs0⟩,e0⟩:=aR.1 e;have e1:=bY.1 e0;simp only[at_] at e1;cases hc:aJ H1 b with
    |none=>rw[hc] at e1; cases e1
    |some ds=>
      rw[hc] at e1;have e2:=back b ds hc;have:au (cm mO s) (.c b j)=some (k0,xs0):=bY.2 (by simp only[at_,cm,e2]; exact e1);rw[this]; rfl
 obtain⟨HA,Ha2,s2,b2,l2,p2,q2⟩:=ON h (n0:=H1.length) (env:=[(0,.dF (cs.map HB))]) cs H1.length [] ys hs Xe hk (fun x hx W9=>by
  obtain⟨i,hi⟩:=bz hx;have e0:=h4.Ea 0;have e1:cB (au ⟨[(0,.dF (cs.map HB))],H1⟩) H1.length (.dF (cs.map HB)):=e0;simp only[cB] at e1;have e2:=fO.1 e1 i (HB x) (by rw[cJ,hi]; rfl);have e3:HB x=x:=by cases x<;>first|rfl|(simp[lN] at W9; done)
  rw[e3] at e2;exact okp (aI _) W9 e2) N.β H1 Ha h4 rfl (aI _) (fun _ _=>rfl) (fun i k xs m z1 z2 _=>by
  have ho:=h.own (.s i) k xs z1;rw[z2] at ho;refine⟨ho,fun b hb e=>h.bx b (.s i) (box b hb) (by rw[z1]; rfl) (by rw[z2,e]),fun q hq e=>?_⟩;obtain⟨g1,g2⟩:=own1 q hq;exact g1 i (h.inj q (.s i) m g2 (by rw[z1]; rfl) e z2))
 have hr:lN (.dF ys)=true:=p2
 have s3:=s2.QT (r2:=.dF ys) (v':=v') Xa hr (by
  simp only[cB];refine fO.2 fun i y hy=>?_;obtain⟨x,hx⟩:=aZ (l:=cs) (i:=i) (by have:=ak hy; omega);simp only[cC] at hv;cases hv with
  |dF _ _ vs hl hh=>
    obtain⟨u,hu⟩:=bW (l:=vs) (i:=i) (by have:=ak hx; rw[dB] at hl; omega);exact (q2 i x y u hx hy (hh i _ u (by rw[lT,hx]; rfl) hu)).1) (by
  simp only[cC] at hv ⊢;cases hv with
  |dF _ _ vs hl hh=>
    refine .dF _ _ _ (by rw[dB] at hl ⊢; omega) fun i c u hc hu=>?_;rw[lT] at hc;cases e:ys[i]? with
    |none=>rw[e] at hc; cases hc
    |some y=>
      rw[e] at hc;simp at hc;subst hc;obtain⟨x,hx⟩:=aZ (l:=cs) (i:=i) (by have:=ak e; omega);exact (q2 i x y u hx e (hh i _ u (by rw[lT,hx]; rfl) hu)).2)
 exact⟨φ,⟨_,_,s3,fun b bQ=>by show HA b=B b; rw[b2 b (by omega)]; exact hb.1 b bQ,by show base<=(H1++hs).length; rw[bC]; omega⟩,.refl _ _⟩
theorem abT (h:er X φ w N s Ha (tm a)) (hb:(∀b,b<base->N.β b=B b)/\base<=s.H.length) (hv:bF (Rd X φ w) φ (cC N v) v') (hk:cB (au s) s.H.length v) (gV:bL v=false) {r:AV} {H':Heap} (hf:sW base s v=some (r,H')) :
  ∃ φ',SB X φ' w B base ⟨[(0,r)],H'⟩ (fun i=>if i=0 then v' else undef)/\eW φ w φ' w:=by
 unfold sW at hf;split at hf
 case h_2=>cases hf
 rename_i H5;simp only at hf;split at hf
 case isFalse=>cases hf
 rename_i hp;simp only[af,aB] at hf;obtain⟨rfl,rfl⟩:=hf;have zR:=dQ.quiet (t:=tm a) h hb hk (lE gV) (by rw[kI N gV]; exact hv);obtain⟨kQ,⟨N2,Ha2,PL,ug⟩,a2⟩:=SB.dK (aK v) (zR.put eY H5);have h3:=PL.leave (i0:=eY) rfl hp;simp only[if_true] at h3;refine⟨kQ,⟨N2,Ha2,?_,ug.1,?_⟩,a2⟩
 ·exact er.trim (base0:=base) _ h3
 ·exact LP _ _ (by rw[fj]; exact ug.2)
theorem shOK (cX:eR P c) (uf:uA P c) {n:Nat} (hs:OT P c n):ShOK P c n:=by
 intro f md q hf hm args H r H' h j9 X φ w B vargs hl HE hg;unfold mJ at h;split at h
 ·rename_i x DX;unfold HP at DX;split at DX
  case h_2=>cases DX
  rename_i g LB;rw[h] at DX;replace h:=DX;exact uf f g md q LB hf args H r H' (.inl hm) h (fun _=>j9) X φ w B vargs hl HE hg
 ·rw[hf] at h;simp only at h;split at h
  case isFalse=>cases h
  rename_i hle;obtain⟨fn,h1,h2⟩:=cX.fn f md q hf;simp only[cV,ae,decide_eq_true_eq] at h2;obtain⟨⟨⟨⟨hn,aho⟩,_⟩,hres⟩,tD⟩:=h2;split at tD
  case h_2=>cases tD
  rename_i code hb;have Bb:(vargs++q6 (fn.ntmps-vargs.size) undef).size=q.n:=by simp; omega
  have htm:tm { tmps:=vargs++q6 (fn.ntmps-vargs.size) undef,defers:=[] }=fun i=>vargs.getD i undef:=by
   funext i;simp only[tm,bh];by_cases hi:i<vargs.size
   ·rw[Array.getElem?_append_left hi]
   ·rw[Array.getElem?_append_right (by omega),Array.getElem?_replicate];rw[Array.getElem?_eq_none (by omega)];split<;>rfl
  have hS:BD X φ w B H.length ⟨dN 0 args,H⟩ { tmps:=vargs++q6 (fn.ntmps-vargs.size) undef,defers:=[] } q.n:=⟨by rw[htm]; exact HE,rfl,Bb⟩
  have fin:∀{e:Ex} {s:St} {vs:List AV},cG c n H.length q.body ⟨dN 0 args,H⟩=some (e,s)->(e=.ret\/e=.normal)->qM c s q.res=some vs->bR md H.length s (ob vs)=some (r,H')->Calls P f vargs w (Hv X φ w B H.length r H'):=by
   intro e s vs he hre LA QC;refine calls_of_wp h1 hb (hs q.n H.length code q.body _ s e (by omega) tD he X φ w B _ hS hg _ fun a' w' φ' hS' uh=>?_);obtain⟨N,Ha,xK,hbB⟩:=hS'.sb;obtain⟨VH,x1,x2,x3,x4⟩:=Xk xK (hg.nO uh) LA;obtain⟨v,k1,k2⟩:=CM (P:=P) (s:=⟨Al N s.env,Ha⟩) (ts:=a'.tmps) (fun i=>by rw[mE]; exact xK.env i) xK.heap hres x1;unfold bR at QC;rw[hm,if_pos rfl] at QC
   have ahq:∃kQ,SB X kQ w' B H.length ⟨[(0,r)],H'⟩ (fun i=>if i=0 then v else undef)/\eW φ' w' kQ w':=by
    split at QC
    ·exact abV xK hbB (x2 _ _ _ k2) x3 QC
    ·exact abT xK hbB (x2 _ _ _ k2) x3 x4 QC
   obtain⟨kQ,s2,a2⟩:=ahq;have:bodyPost P fn (Hv X φ w B H.length r H') .ret a' w':=⟨hS'.defers,v,k1,v,kQ,rfl,s2,uh.trans a2⟩;rcases hre with rfl|rfl
   ·exact this
   ·exact this
  split at h
  ·rename_i s he;split at h
   ·rename_i vs LA;exact fin he (.inl rfl) LA h
   ·cases h
  ·rename_i s he;split at h
   ·rename_i vs LA;exact fin he (.inr rfl) LA h
   ·cases h
  ·cases h
end
end Go.Bm

/- A state whose older heap holds no more than what is referred to; calls of functions that share boxes. -/
namespace Go.Bm
open Go.Am
mutual
def ib (G:Nat->Prop):AV->Prop
 |.ptr b _=>G b
 |.sl _ b _ _=>G b
 |.agg cs=>lZ G cs
 |.dF cs=>lZ G cs
 |.func _ a b=>lZ G a/\lZ G b
 |_=>True
def lZ (G:Nat->Prop):List AV->Prop
 |[]=>True
 |x::r=>ib G x/\lZ G r
end
theorem oi {G:Nat->Prop}:∀{cs:List AV},lZ G cs ↔ ∀(i:Nat) (c:AV),cs[i]?=some c->ib G c
 |[]=>by simp[lZ]
 |x::r=>by
   simp only[lZ,oi (cs:=r)];constructor
   ·rintro⟨h1,h2⟩ i c hc;cases i with
    |zero=>simp at hc; exact hc▸h1
    |succ i=>exact h2 i c (by simpa using hc)
   ·intro h;exact⟨h 0 x rfl,fun i c hc=>h (i+1) c (by simpa using hc)⟩
theorem bF.refs {R R':Addr->Value->Prop} (hR:∀a u,R a u->R' a u) {G:Nat->Prop} {φ:cZ} {x:AV} {v:Value} (h:bF R φ x v):∀{φ':cZ},ib G x->φ.length<=φ'.length->(∀b,G b->∀p,φ'[b]?=some (some p)->φ[b]?=some (some p))->bF R' φ' x v:=by
 induction h with
 |any=>intro φ' _ _ _; exact .any _ _
 |undef=>intro φ' _ _ _; exact .undef _
 |fo=>intro φ' _ _ _; exact .fo _
 |fv=>intro φ' _ _ _; exact .fv _
 |dp=>intro φ' _ _ _; exact .dp _
 |int=>intro φ' _ _ _; exact .int _ _ _
 |bool=>intro φ' _ _ _; exact .bool _ _
 |str=>intro φ' _ _ _; exact .str _ _
 |agg φ cs vs hl h ih=>intro φ' hx hp hb; simp only[ib] at hx; exact .agg _ _ _ hl fun i c v h1 h2=>ih i c v h1 h2 (oi.1 hx i c h1) hp hb
 |dF φ cs vs hl h ih=>intro φ' hx hp hb; simp only[ib] at hx; exact .dF _ _ _ hl fun i c v h1 h2=>ih i c v h1 h2 (oi.1 hx i c h1) hp hb
 |zC φ b r hb h=>intro φ' hx hp iV; simp only[ib,lZ] at hx; exact .zC _ _ _ (by omega) fun g sz e=>h g sz (iV b hx.2.1 _ e)
 |func φ f as va bs vb hy zT zS ha hb Zt Wj=>intro φ' hx hp Dx; simp only[ib] at hx; exact .func _ _ _ _ _ _ hy zT zS (fun i c v h1 h2=>Zt i c v h1 h2 (oi.1 hx.1 i c h1) hp Dx) (fun i c v h1 h2=>Wj i c v h1 h2 (oi.1 hx.2 i c h1) hp Dx)
 |vO φ k xs a n cap u hn iP hk hu h ih=>intro φ' _ _ _; exact .vO _ _ _ _ _ _ u hn iP hk (fun i j x c h1 h2=>hR _ _ (hu i j x c h1 h2)) (fun i j x c h1 h2=>(h i j x c h1 h2).mono hR (.refl _))
 |j7=>intro φ' _ _ _; exact .j7 _ _
 |dh φ cs a u hu h ih=>intro φ' _ _ _; exact .dh _ _ _ u (fun j c h1=>hR _ _ (hu j c h1)) (fun j c h1=>(h j c h1).mono hR (.refl _))
 |ptr φ b off a hb h=>intro φ' hx hp iV; exact .ptr _ _ _ _ (by omega) fun g sz e=>h g sz (iV b hx _ e)
 |sl φ k b off len a cap hb hc h=>intro φ' hx hp iV; exact .sl _ _ _ _ _ _ _ (by omega) hc fun g sz e=>h g sz (iV b hx _ e)
mutual
theorem Kf {G:Nat->Prop} {N:Names} {o:Rt->Option (Nat × List AV)} {nb:Nat} (ep:∀b,b<nb->G (N.β b)) (kL:∀p,(o p).isSome->∀n,N.ν p=some n->G n):∀x,cB o nb x->ib G (cC N x)
 |.dz k p off len,h=>by
   simp only[cB] at h; obtain⟨xs,e,_⟩:=h;simp only[cC];cases hn:N.ν p with
   |none=>exact trivial
   |some n=>exact kL p (by rw[e]; rfl) n hn
 |.eV k p i off,h=>by
   simp only[cB] at h; obtain⟨xs,e,_⟩:=h;simp only[cC];cases hn:N.ν p with
   |none=>exact trivial
   |some n=>exact kL p (by rw[e]; rfl) n hn
 |.ptr b off,h=>by simp only[cB] at h; simp only[cC,ib]; exact ep b h
 |.agg cs,h=>by simp only[cB] at h; simp only[cC,ib]; exact wh ep kL cs h
 |.dF cs,h=>by simp only[cB] at h; simp only[cC,ib]; exact wh ep kL cs h
 |.func f a b,h=>by simp only[cB] at h; simp only[cC,ib]; exact⟨wh ep kL a h.1,wh ep kL b h.2.1⟩
 |.any,_=>trivial|.undef,_=>trivial|.fo,_=>trivial|.fv,_=>trivial|.dp,_=>trivial
 |.int _ _,_=>trivial|.bool _,_=>trivial|.str _,_=>trivial|.list _ _,_=>trivial|.dh _,_=>trivial|.own _ _,_=>trivial
 |.sl _ b _ _,h=>by simp only[cB] at h; simp only[cC,ib]; exact ep b h
theorem wh {G:Nat->Prop} {N:Names} {o:Rt->Option (Nat × List AV)} {nb:Nat} (ep:∀b,b<nb->G (N.β b)) (kL:∀p,(o p).isSome->∀n,N.ν p=some n->G n):∀xs,jZ o nb xs->lZ G (kj N xs)
 |[],_=>trivial
 |x::r,h=>⟨Kf ep kL x h.1,wh ep kL r h.2⟩
end
mutual
theorem RR {G:Nat->Prop}:∀x,pl x=true->ib G x
 |.agg cs,h=>by simp only[pl] at h; simp only[ib]; exact wi cs h
 |.dF cs,h=>by simp only[pl] at h; simp only[ib]; exact wi cs h
 |.func f a b,h=>by simp only[pl,ae] at h; simp only[ib]; exact⟨wi a h.2.1,wi b h.2.2⟩
 |.ptr _ _,h=>by simp[pl] at h
 |.sl _ _ _ _,h=>by simp[pl] at h
 |.dz _ _ _ _,_=>trivial|.eV _ _ _ _,_=>trivial
 |.any,_=>trivial|.undef,_=>trivial|.fo,_=>trivial|.fv,_=>trivial|.dp,_=>trivial
 |.int _ _,_=>trivial|.bool _,_=>trivial|.str _,_=>trivial|.list _ _,_=>trivial|.dh _,_=>trivial|.own _ _,_=>trivial
theorem wi {G:Nat->Prop}:∀xs,eE xs=true->lZ G xs
 |[],_=>trivial
 |x::r,h=>by simp only[eE,ae] at h; exact⟨RR x h.1,wi r h.2⟩
end
theorem XK {G:Nat->Prop} {N:Names} {o:Rt->Option (Nat × List AV)} {nb:Nat} (ep:∀b,b<nb->G (N.β b)) (kL:∀p,(o p).isSome->∀n,N.ν p=some n->G n) {r:Rt} {x:AV} (hr:∀k xs,x=.own k xs->(o r).isSome) (h:cB o nb x):ib G (iJ N r x):=by
 cases x<;>simp only[iJ]<;>first|exact Kf ep kL _ h|skip
 rename_i k xs;simp only[rA];cases hn:N.ν r with
 |none=>exact trivial
 |some n=>exact kL r (hr k xs rfl) n hn
mutual
theorem Eb {o o':Rt->Option (Nat × List AV)} {nb I9:Nat} (hn:nb<=I9):∀x,(∀p∈aK x,o' p=o p)->cB o nb x->cB o' I9 x
 |.dz k p off len,ho,h=>by simp only[cB] at h ⊢; obtain⟨xs,e,h2⟩:=h; exact⟨xs,by rw[ho p (by simp[aK])]; exact e,h2⟩
 |.eV k p i off,ho,h=>by simp only[cB] at h ⊢; obtain⟨xs,e,h2⟩:=h; exact⟨xs,by rw[ho p (by simp[aK])]; exact e,h2⟩
 |.ptr b off,_,h=>by simp only[cB] at h ⊢; omega
 |.agg cs,ho,h=>by simp only[cB] at h ⊢; exact AP hn cs (by simpa only[aK] using ho) h
 |.dF cs,ho,h=>by simp only[cB] at h ⊢; exact AP hn cs (by simpa only[aK] using ho) h
 |.func f a b,ho,h=>by
   simp only[aK,aD] at ho;simp only[cB] at h ⊢; exact⟨AP hn a (fun p hp=>ho p (.inl hp)) h.1,AP hn b (fun p hp=>ho p (.inr hp)) h.2.1,h.2.2⟩
 |.any,_,_=>trivial|.undef,_,_=>trivial|.fo,_,_=>trivial|.fv,_,_=>trivial|.dp,_,_=>trivial
 |.int _ _,_,_=>trivial|.bool _,_,_=>trivial|.str _,_,_=>trivial|.list _ _,_,_=>trivial|.dh _,_,_=>trivial|.own _ _,_,_=>trivial
 |.sl _ b _ _,_,h=>by simp only[cB] at h ⊢; omega
theorem AP {o o':Rt->Option (Nat × List AV)} {nb I9:Nat} (hn:nb<=I9):∀xs,(∀p∈cW xs,o' p=o p)->jZ o nb xs->jZ o' I9 xs
 |[],_,_=>trivial
 |x::r,ho,h=>by
   simp only[cW,aD] at ho;exact⟨Eb hn x (fun p hp=>ho p (.inl hp)) h.1,AP hn r (fun p hp=>ho p (.inr hp)) h.2⟩
end
theorem BB:∀{H:Heap},iu H=true->(∀b,b<H.length->(aJ H b).isSome)/\∀ b cs,aJ H b=some cs->∀p∈cW cs,dD p=false
 |[],_=>⟨fun b hb=>by simp at hb,fun b cs h=>by simp[aJ] at h⟩
 |none::r,h=>by simp[iu] at h
 |some ds::r,h=>by
   simp only[iu,ae,bt] at h;obtain⟨h1,h2⟩:=BB h.2;refine⟨fun b hb=>?_,fun b cs hb=>?_⟩
   ·cases b with
    |zero=>simp[aJ]
    |succ b=>have:=h1 b (by simpa using hb); simpa[aJ] using this
   ·cases b with
    |zero=>
      simp[aJ] at hb;subst hb;intro p hp;exact jN h.1 p hp
    |succ b=>exact h2 b cs (by simpa[aJ] using hb)
section
variable {P:Program} {X:Nat->Prop} {φ oa φ':cZ} {w w1 w':World} {N N1 N':Names} {s s' s1:St} {Ha:Heap} {B:Nat->Nat} {base:Nat} {v va:AV} {v':Value} {c:dO} {a:Act} {call:Nat->List AV->Heap->Option (AV × Heap)} {t:Nat->Value}
structure Norm (X:Nat->Prop) (φ:cZ) (w:World) (N:Names) (s:St) (t:Nat->Value) (kQ:cZ) (H2:Heap):Prop where
 xK:er (fun g=>X g\/(bX φ g/\¬ bX kQ g)) kQ w N s H2 t
 nO:eW φ w kQ w
 good:∀n,(aJ H2 n).isSome->(∃b,(aJ s.H b).isSome/\N.β b=n)\/∃ p,(au s p).isSome/\N.ν p=some n
 refs:∀n cs,aJ H2 n=some cs->∀c∈cs,ib (fun m=>(aJ H2 m).isSome) c
 sub:∀(n:Nat) (p:Nat × Nat),kQ[n]?=some (some p)->φ[n]?=some (some p)
 live:∀(n:Nat) (p:Nat × Nat),kQ[n]?=some (some p)->(aJ H2 n).isSome
 len:kQ.length=φ.length
theorem er.norm (h:er X φ w N s Ha t) (j9:∀b,b<s.H.length->(aJ s.H b).isSome):∃kQ H2,Norm X φ w N s t kQ H2:=by
 have hP:∀n,∃B:Ru,(∀b cs,aJ s.H b=some cs->N.β b=n->B=some (PF N (.c b) 0 cs))/\(∀p k xs,au s p=some (k,xs)->N.ν p=some n->B=some (aA xs))/\(B.isSome->(∃b,(aJ s.H b).isSome/\N.β b=n)\/∃ p,(au s p).isSome/\N.ν p=some n):=by
  intro n;by_cases h1:∃b cs,aJ s.H b=some cs/\N.β b=n
  ·obtain⟨b,cs,hb,hn⟩:=h1;refine⟨some (PF N (.c b) 0 cs),fun b' cs' iV Pc=>?_,fun p k xs hp Pc=>?_,fun _=>.inl ⟨b,by rw[hb]; rfl,hn⟩⟩
   ·have e:=h.bi b b' (by rw[hb]; rfl) (by rw[iV]; rfl) (by rw[hn,Pc]);subst e;rw[hb] at iV; cases iV; rfl
   ·exact absurd (by rw[Pc,hn]) (h.bx b p (by rw[hb]; rfl) (by rw[hp]; rfl))
  ·by_cases h2:∃p k xs,au s p=some (k,xs)/\N.ν p=some n
   ·obtain⟨p,k,xs,hp,hn⟩:=h2;refine⟨some (aA xs),fun b cs hb Pc=>absurd ⟨b,cs,hb,Pc⟩ h1,fun p' k' xs' NY Pc=>?_,fun _=>.inr ⟨p,by rw[hp]; rfl,hn⟩⟩;have e:=h.inj p p' n (by rw[hp]; rfl) (by rw[NY]; rfl) hn Pc;subst e;rw[hp] at NY; cases NY; rfl
   ·exact⟨none,fun b cs hb hn=>absurd ⟨b,cs,hb,hn⟩ h1,fun p k xs hp hn=>absurd ⟨p,k,xs,hp,hn⟩ h2,fun e=>by cases e⟩
 obtain⟨G,hG⟩:=Classical.axiomOfChoice hP;obtain⟨H2,HG,hH2⟩:=xd Ha.length G;obtain⟨kQ,hlφ,hφ2⟩:∃kQ:cZ,kQ.length=φ.length/\∀ m,m<φ.length->kQ[m]?=some (if (G m).isSome then (φ[m]?).join else none):=⟨(dL φ.length).map fun m=>if (G m).isSome then (φ[m]?).join else none,by simp,fun m hm=>by simp[hm]⟩;have hlen:=h.heap.len
 have blk2:∀n,n<Ha.length->aJ H2 n=G n:=fun n hn=>by
  unfold aJ; rw[hH2 n hn]; cases G n<;>rfl
 have sub:∀(n:Nat) (p:Nat × Nat),kQ[n]?=some (some p)->φ[n]?=some (some p)/\(G n).isSome:=by
  intro n p hn;have bQ:=ak hn;rw[hlφ] at bQ;rw[hφ2 n bQ] at hn;split at hn
  ·rename_i hg;simp at hn;refine⟨?_,hg⟩;cases e:φ[n]? with
   |none=>rw[e] at hn; cases hn
   |some q=>rw[e] at hn; simp at hn; rw[hn]
  ·simp at hn
 have Yk:∀g,bX kQ g->bX φ g:=fun g ⟨b,sz,e⟩=>⟨b,sz,(sub b _ e).1⟩;have nO:eW φ w kQ w:=⟨rfl,rfl,rfl,aI _,aI _,fun g _ gV=>⟨rfl,fun ho=>gV (Yk g ho)⟩,⟨by omega,fun b p _ hp=>(sub b p hp).1⟩⟩;have hR:∀a u,Rd X φ w a u->Rd (fun g=>X g\/(bX φ g/\¬ bX kQ g)) kQ w a u:=fun a u ⟨h1,h2,h3⟩=>⟨fun hx=>hx.elim h1 fun hh=>h2 hh.1,fun ho=>h2 (Yk _ ho),h3⟩;have mono:∀{x:AV} {u:Value},bF (Rd X φ w) φ x u->bF (Rd (fun g=>X g\/(bX φ g/\¬ bX kQ g)) kQ w) kQ x u:=fun r=>r.mono hR nO.Tj
 have boxG:∀b cs,aJ s.H b=some cs->aJ H2 (N.β b)=some (PF N (.c b) 0 cs):=fun b cs hb=>by
  rw[blk2 _ (h.sY (by rw[hb]; rfl))];exact (hG (N.β b)).1 b cs hb rfl
 have ownG:∀p k xs n,au s p=some (k,xs)->N.ν p=some n->aJ H2 n=some (aA xs):=fun p k xs n hp hn=>by
  rw[blk2 _ (h.gU (by rw[hp]; rfl) hn)];exact (hG n).2.1 p k xs hp hn
 have afl:∀n,(G n).isSome->n<Ha.length->∀e,φ[n]?=some e->kQ[n]?=some e:=fun n hg hn e he=>by
  rw[hφ2 n (by omega),if_pos hg,he]; rfl
 have ZI:bV (fun g=>X g\/(bX φ g/\¬ bX kQ g)) kQ w H2:=by
  refine⟨by omega,fun g hg=>hg.elim (h.heap.HK g) (fun ho=>(h.heap.gU ho.1).1),fun n cs hn=>?_,fun n hn=>?_,fun n n' g sz pe e1 e2=>h.heap.inj n n' g sz pe (sub _ _ e1).1 (sub _ _ e2).1⟩
  ·have bQ:n<Ha.length:=by have:=ak hn; omega
   rw[hH2 n bQ] at hn;simp only[af] at hn;have hg:(G n).isSome:=by rw[hn]; rfl
   have fin:∀{as:List AV},aJ Ha n=some as->(∀(i:Nat) (d:AV),cs[i]?=some d->∃a,as[i]?=some a/\Le d a)->(cs.length<=as.length/\((∀g sz,φ[n]?=some (some (g,sz))->0<sz)\/cs.length=as.length))->∃(g sz:Nat) (arr:Array Value) (o:Obj),kQ[n]?=some (some (g,sz))/\w.heap[g]?=some o/\Vw o sz arr/\(cs.length<=arr.size/\(sz=0->cs.length=arr.size))/\¬ (X g\/(bX φ g/\¬ bX kQ g))/\∀ (i:Nat) (d:AV),cs[i]?=some d->∃u,arr[i]?=some u/\bF (Rd (fun g=>X g\/(bX φ g/\¬ bX kQ g)) kQ w) kQ d u:=by
    intro as has dG hle;obtain⟨g,sz,arr,e,g1,g2,g3,g4,g5,g6⟩:=h.heap.at has;have h2:=afl n hg bQ _ g1;refine⟨g,sz,arr,e,h2,g2,g3,⟨by omega,fun z=>hle.2.elim (fun hs=>absurd (hs g sz g1) (by omega)) (fun hs=>hs.trans (g4.2 z))⟩,fun hx=>hx.elim g5 fun hh=>hh.2 ⟨n,sz,h2⟩,fun i d hd=>?_⟩;obtain⟨a,ha,hle2⟩:=dG i d hd;obtain⟨u,u1,u2⟩:=g6 i a ha;exact⟨u,u1,mono (hle2 _ _ _ u2)⟩
   rcases (hG n).2.2 hg with⟨b,hb,hbn⟩|⟨p,hp,O9⟩
   ·obtain⟨ds,nT⟩:=aR.1 hb;have:=(hG n).1 b ds nT hbn;rw[hn] at this;simp at this;subst this;obtain⟨as,a1,a2,a3⟩:=h.box b ds nT;rw[hbn] at a1;refine fin a1 (fun i d hd=>?_) ⟨by rw[fR]; omega,.inr (by rw[fR]; omega)⟩;rw[fE] at hd;cases hi:ds[i]? with
    |none=>rw[hi] at hd; cases hd
    |some d0=>
      rw[hi] at hd;simp at hd;subst hd;obtain⟨_,a',b1,b2⟩:=a3 i d0 hi;exact⟨a',b1,b2⟩
   ·obtain⟨⟨k,xs⟩,W9⟩:=aR.1 hp;have:=(hG n).2.1 p k xs W9 O9;rw[hn] at this;simp at this;subst this;have ho:=h.own p k xs W9;rw[O9] at ho;obtain⟨Xg,c1,c2,c3,c4⟩:=ho;refine fin c1 (fun i d hd=>?_) ⟨by rw[iQ c3]; exact c2,.inl fun g sz e=>h.Ts W9 O9 e⟩;obtain⟨_,a',b1,_,b2⟩:=c4 i d hd;exact⟨a',b1,b2⟩
  ·have bQ:n<Ha.length:=by have:=ak hn; omega
   rw[hH2 n bQ] at hn;simp only[af] at hn;rw[hφ2 n (by omega),hn];rfl
 refine⟨kQ,H2,⟨⟨fun i=>mono (h.env i),h.Ea,ZI,fun p k xs e=>?_,fun b cs e=>?_,h.inj,h.bx,h.bi⟩,nO,fun n hn=>?_,fun n cs hn d hd=>?_,fun n p hp=>(sub n p hp).1,fun n p hp=>?_,hlφ⟩⟩
 ·have ho:=h.own p k xs e;cases hn:N.ν p with
  |none=>rw[hn] at ho; exact ho
  |some n=>
    rw[hn] at ho;obtain⟨Xg,c1,c2,c3,c4⟩:=ho;refine⟨aA xs,ownG p k xs n e hn,by rw[iQ c3]; exact aI _,c3,fun i d hd=>?_⟩;obtain⟨f1,_⟩:=c4 i d hd;exact⟨f1,d,hd,(lG f1).2,Le.refl _⟩
 ·obtain⟨as,a1,a2,a3⟩:=h.box b cs e;refine⟨_,boxG b cs e,fR _ _ _ _,fun j d hd=>?_⟩;obtain⟨b1,_⟩:=a3 j d hd;exact⟨b1,iJ N (.c b j) d,by rw[fE,hd]; simp,Le.refl _⟩
 ·obtain⟨cs,dG⟩:=aR.1 hn;have bQ:n<Ha.length:=by have:=dx dG; omega
  exact (hG n).2.2 (by rw[<-blk2 n bQ]; exact hn)
 ·have ep:∀b,b<s.H.length->(aJ H2 (N.β b)).isSome:=fun b hb=>by
   obtain⟨ds,nT⟩:=aR.1 (j9 b hb);rw[boxG b ds nT]; rfl
  have kL:∀p,(au s p).isSome->∀n,N.ν p=some n->(aJ H2 n).isSome:=fun p hp n hn=>by
   obtain⟨⟨k,xs⟩,W9⟩:=aR.1 hp;rw[ownG p k xs n W9 hn]; rfl
  have bQ:n<Ha.length:=by have:=dx hn; omega
  rcases (hG n).2.2 (by rw[<-blk2 n bQ,hn]; rfl) with⟨b,hb,hbn⟩|⟨p,hp,O9⟩
  ·obtain⟨ds,nT⟩:=aR.1 hb;have e:=boxG b ds nT;rw[hbn,hn] at e;cases e;obtain⟨j,hj⟩:=bz hd;rw[fE] at hj;cases hi:ds[j]? with
   |none=>rw[hi] at hj; cases hj
   |some d0=>
     rw[hi] at hj;simp at hj;subst hj;obtain⟨as,a1,a2,a3⟩:=h.box b ds nT
     exact XK (o:=au s) (nb:=s.H.length) ep kL (r:=.c b j) (fun k xs e=>by
      have:au s (.c b j)=some (k,xs):=bY.2 (by simp only[at_,nT,hi,e]);rw[this]; rfl) (a3 j d0 hi).1
  ·obtain⟨⟨k,xs⟩,W9⟩:=aR.1 hp;have e:=ownG p k xs n W9 O9;rw[hn] at e;cases e;have ho:=h.own p k xs W9;rw[O9] at ho;obtain⟨Xg,c1,c2,c3,c4⟩:=ho;obtain⟨j,hj⟩:=bz hd;exact RR d (lG (c4 j d hj).1).1
 ·have bQ:n<Ha.length:=by have:=ak hp; omega
  rw[blk2 n bQ];exact (sub n p hp).2
end
end Go.Bm

/- Calls of functions that share boxes. -/
namespace Go.Bm
open Go.Am
section
variable {P:Program} {X:Nat->Prop} {φ oa φ':cZ} {w w1 w':World} {N N1 N':Names} {s s' s1:St} {Ha:Heap} {B:Nat->Nat} {base:Nat} {v va:AV} {v':Value} {c:dO} {o:Oper} {a:Act} {kd:Kd} {call:Nat->List AV->Heap->Option (AV × Heap)} {t:Nat->Value}
theorem wF:∀{l:List AV},fI l=true->∀(i:Nat) (z:AV),l[i]?=some z->lN z=true
 |[],_,i,z,hz=>by simp at hz
 |y::r,h,i,z,hz=>by
   simp only[fI,ae] at h;cases i with
   |zero=>simp at hz; subst hz; exact h.1
   |succ i=>exact wF h.2 i z (by simpa using hz)
theorem er.enter (h:er X φ w N s Ha t) (j9:iu s.H=true) {args:List AV} {vargs:Array Value} (hp:fI args=true) (ho:∀(i:Nat) (x:AV),args[i]?=some x->cB (au s) s.H.length x) (hr:∀(i:Nat) (x:AV) (v:Value),args[i]?=some x->vargs[i]?=some v->bF (Rd X φ w) φ (cC N x) v) (hl:args.length=vargs.size) :
  er X φ w N ⟨dN 0 args,s.H⟩ Ha (fun i=>vargs.getD i undef):=by
 have BF:∀i,get (dN 0 args) i=args[i]?.getD .any:=fun i=>by rw[tE]; simp
 have gV:∀i,bL (get (dN 0 args) i)=false:=fun i=>by
  rw[BF];cases e:args[i]? with
  |none=>rfl
  |some x=>exact xN (wF hp i x e)
 have own:∀{p},(au ⟨dN 0 args,s.H⟩ p).isSome->∃b j,p=.c b j:=by
  intro p NY;cases p with
  |s i=>rw[(dM (s:=⟨dN 0 args,s.H⟩) (gV i)).1] at NY; cases NY
  |sc i j=>rw[(dM (s:=⟨dN 0 args,s.H⟩) (gV i)).2 j] at NY; cases NY
  |c b j=>exact⟨b,j,rfl⟩
 have box:∀b j,au ⟨dN 0 args,s.H⟩ (.c b j)=au s (.c b j):=fun b j=>rfl;obtain⟨_,hbor⟩:=BB j9;have Zq:∀{p:Rt},dD p=false->∃b j,p=.c b j:=fun{p} hp=>by cases p<;>simp[dD] at hp; exact⟨_,_,rfl⟩
 refine⟨fun i=>?_,fun i=>?_,h.heap,fun p k xs e=>?_,fun b cs e=>?_,fun p q n e1 e2 e3 e4=>?_,fun b p e1 e2 e3=>?_,h.bi⟩
 ·show bF _ _ (jY N i (get (dN 0 args) i)) _;rw[xG N i (gV i),BF];cases e:args[i]? with
  |none=>exact .any _ _
  |some x=>
    obtain⟨v,hv⟩:=bW (l:=vargs) (i:=i) (by have:=ak e; omega);simp only[Option.getD_some];rw[bh,hv];exact hr i x v e hv
 ·show cB _ _ (get (dN 0 args) i);rw[BF];cases e:args[i]? with
  |none=>trivial
  |some x=>exact FQ (aI _) x (wF hp i x e) (ho i x e)
 ·obtain⟨b,j,rfl⟩:=own (p:=p) (by rw[e]; rfl);exact h.own _ k xs e
 ·obtain⟨as,g1,g2,g3⟩:=h.box b cs e;refine⟨as,g1,g2,fun j d hd=>?_⟩;obtain⟨g4,g5⟩:=g3 j d hd;refine⟨Eb (aI _) d (fun p NY=>?_) g4,g5⟩;obtain⟨b',j',rfl⟩:=Zq (hbor b cs e p (kB hd NY));rfl
 ·obtain⟨b,j,rfl⟩:=own e1;obtain⟨b',j',rfl⟩:=own e2;exact h.inj _ _ n e1 e2 e3 e4
 ·obtain⟨b',j,rfl⟩:=own e2;exact h.bx b (.c b' j) e1 e2 e3
theorem shared (h:er X φ w N s Ha t) (hb:(∀b,b<base->N.β b=B b)/\base<=s.H.length) {QT:Env} {t0:Nat->Value} {kQ:cZ} {H2:Heap} (hn:Norm X φ w N ⟨QT,s.H⟩ t0 kQ H2) (h0:∀i,bL (get QT i)=false)
  {r:AV} {H' H1:Heap} {t1:Nat->Value} (gI:er (fun g=>X g\/(bX φ g/\¬ bX kQ g)) oa w1 N1 ⟨[(0,r)],H'⟩ H1 t1) (ad:eW kQ w oa w1) (ep:∀b,b<s.H.length->N1.β b=N.β b) (hle:s.H.length<=H'.length) (Jp:iu H'=true) (hbr:aK r=[]) (gV:bL r=false) :
  ∃ φ',dQ X φ' w1 B base ⟨jS lV s.env,H'⟩ r t (t1 0)/\eW φ w φ' w1:=by
 obtain⟨Ue,hbor⟩:=BB Jp;have Zq:∀{p:Rt},dD p=false->∃b j,p=.c b j:=fun{p} hp=>by cases p<;>simp[dD] at hp; exact⟨_,_,rfl⟩
 obtain⟨Ig,H3,h3⟩:=gI.norm Ue;have l3:=h3.xK.heap.len;have l1:=h.heap.len;have l2:=hn.len;have l2h:=hn.xK.heap.len;have pl:xt kQ Ig:=ad.Tj.trans h3.nO.Tj;have hlen:φ.length<=Ig.length:=by have:=pl.len; omega
 have ad2:eW kQ w Ig w1:=ad.trans h3.nO
 -- hidden: known to the caller, not to the callee
 let hid:Nat->Bool:=fun n=>decide (n<φ.length)&&!(kQ[n]?.join).isSome
 have hid3:∀n,hid n=true->Ig[n]?=some none/\aJ H3 n=none:=by
  intro n hh;simp only[hid,ae,decide_eq_true_eq,bt] at hh;obtain⟨bQ,hj⟩:=hh;obtain⟨e,he⟩:=aZ (l:=Ig) (i:=n) (by omega)
  have h3n:Ig[n]?=some none:=by
   cases e with
   |none=>exact he
   |some p=>
     have:=pl.HQ n p (by omega) he;rw[this] at hj; simp at hj
  refine⟨h3n,?_⟩;cases hb3:aJ H3 n with
  |none=>rfl
  |some cs=>
    obtain⟨g,sz,arr,ty,g1,_⟩:=h3.xK.heap.at hb3;rw[h3n] at g1; cases g1
 have Jf:∀n,(aJ H3 n).isSome->hid n=false:=fun n hb3=>by
  cases hh:hid n with
  |false=>rfl
  |true=>rw[(hid3 n hh).2] at hb3; cases hb3
 obtain⟨VG,hl4,hφ4⟩:∃VG:cZ,VG.length=Ig.length/\∀ m,m<Ig.length->VG[m]?=if hid m then φ[m]? else Ig[m]?:=by
  refine⟨(dL Ig.length).map fun m=>if hid m then (φ[m]?).join else (Ig[m]?).join,by simp,fun m hm=>?_⟩;simp only[cJ,List.getElem?_range hm,cj];split
  ·rename_i hh;have bQ:m<φ.length:=by simp only[hid,ae,decide_eq_true_eq] at hh; exact hh.1
   rw[aq bQ]; rfl
  ·rw[aq hm]; rfl
 obtain⟨H4,hlh4,hH4⟩:=xd H3.length fun m=>if hid m then (Ha[m]?).join else (H3[m]?).join
 have Pz:∀n,hid n=true->VG[n]?=φ[n]?:=fun n hh=>by
  have bQ:n<φ.length:=by simp only[hid,ae,decide_eq_true_eq] at hh; exact hh.1
  rw[hφ4 n (by omega),if_pos hh]
 have LL:∀n,hid n=false->VG[n]?=Ig[n]?:=fun n hh=>by
  by_cases bQ:n<Ig.length
  ·rw[hφ4 n bQ,hh]; rfl
  ·rw[dW (by omega),dW (by omega)]
 have H4h:∀n,hid n=true->H4[n]?=Ha[n]?:=fun n hh=>by
  have bQ:n<φ.length:=by simp only[hid,ae,decide_eq_true_eq] at hh; exact hh.1
  rw[hH4 n (by omega),if_pos hh,aq (by omega)]; rfl
 have H4n:∀n,hid n=false->H4[n]?=H3[n]?:=fun n hh=>by
  by_cases bQ:n<H3.length
  ·rw[hH4 n bQ,hh,aq bQ]; rfl
  ·rw[dW (by omega),dW (by omega)]
 have ahB:∀n,hid n=true->aJ H4 n=aJ Ha n:=fun n hh=>by unfold aJ; rw[H4h n hh]
 have adX:∀n,hid n=false->aJ H4 n=aJ H3 n:=fun n hh=>by unfold aJ; rw[H4n n hh]
 have own4:∀{g},bX VG g->(∃n sz,hid n=true/\φ[n]?=some (some (g,sz)))\/∃ n sz,hid n=false/\Ig[n]?=some (some (g,sz)):=by
  rintro g ⟨n,sz,e⟩;cases hh:hid n with
  |true=>rw[Pz n hh] at e; exact .inl ⟨n,sz,hh,e⟩
  |false=>rw[LL n hh] at e; exact .inr ⟨n,sz,hh,e⟩
 have hidX:∀{n g sz},hid n=true->φ[n]?=some (some (g,sz))->bX φ g/\¬ bX kQ g:=by
  intro n g sz hh e;refine⟨⟨n,sz,e⟩,fun⟨m,pe,e'⟩=>?_⟩;have:=h.heap.inj n m g sz pe e (hn.sub m _ e');subst this;simp only[hid,ae,decide_eq_true_eq,bt] at hh;rw[e'] at hh; simp at hh
 have sub2:∀{g},bX kQ g->bX φ g:=fun⟨m,sz,e⟩=>⟨m,sz,hn.sub m _ e⟩
 have nO:eW φ w VG w1:=by
  refine⟨ad2.os,ad2.tape,ad2.output,ad2.drawn,ad2.size,fun g hg gV=>?_,⟨by omega,fun n p bQ hp=>?_⟩⟩
  ·obtain⟨k1,k2⟩:=ad2.keep g hg (fun ho=>gV (sub2 ho));refine⟨k1,fun ho=>?_⟩;rcases own4 ho with⟨n,sz,_,e⟩|⟨n,sz,_,e⟩
   ·exact gV ⟨n,sz,e⟩
   ·exact k2 ⟨n,sz,e⟩
  ·cases hh:hid n with
   |true=>rwa [Pz n hh] at hp
   |false=>
     rw[LL n hh] at hp;exact hn.sub n p (pl.HQ n p (by omega) hp)
 -- values of the callee
 have hR:∀a u,Rd (fun g=>(X g\/(bX φ g/\¬ bX kQ g))\/(bX oa g/\¬ bX Ig g)) Ig w1 a u->Rd X VG w1 a u:=fun a u ⟨p1,p2,p3⟩=>⟨fun hx=>p1 (.inl (.inl hx)),fun ho=>by
  rcases own4 ho with⟨n,sz,hh,e⟩|⟨n,sz,_,e⟩
  ·exact p1 (.inl (.inr (hidX hh e)))
  ·exact p2 ⟨n,sz,e⟩,p3⟩
 have tr34:∀{x:AV} {u:Value},ib (fun m=>(aJ H3 m).isSome) x->bF (Rd (fun g=>(X g\/(bX φ g/\¬ bX kQ g))\/(bX oa g/\¬ bX Ig g)) Ig w1) Ig x u->bF (Rd X VG w1) VG x u:=fun hx r=>bF.refs hR r hx (by omega) fun b hb4 p hp=>by rwa [LL b (Jf b hb4)] at hp
 have ZI:bV X VG w1 H4:=by
  refine⟨by omega,fun g hg=>Nat.lt_of_lt_of_le (h.heap.HK g hg) ad2.size,fun n cs e=>?_,fun n e=>?_,fun n n' g sz pe e1 e2=>?_⟩
  ·cases hh:hid n with
   |true=>
     rw[H4h n hh] at e;obtain⟨g,sz,arr,ty,g1,g2,g3,g4,g5,g6⟩:=h.heap.live n cs e;have hx:=hidX hh g1;refine⟨g,sz,arr,ty,by rw[Pz n hh]; exact g1,?_,g3,g4,g5,fun i d hd=>?_⟩
     ·rw[(ad2.keep g (h.heap.gU hx.1).1 hx.2).1]; exact g2
     ·obtain⟨u,u1,u2⟩:=g6 i d hd;exact⟨u,u1,nO.rep u2⟩
   |false=>
     rw[H4n n hh] at e;obtain⟨g,sz,arr,ty,g1,g2,g3,g4,g5,g6⟩:=h3.xK.heap.live n cs e;refine⟨g,sz,arr,ty,by rw[LL n hh]; exact g1,g2,g3,g4,fun hx=>g5 (.inl (.inl hx)),fun i d hd=>?_⟩;obtain⟨u,u1,u2⟩:=g6 i d hd;exact⟨u,u1,tr34 (h3.refs n cs (blk_iff.2 e) d (bf hd)) u2⟩
  ·cases hh:hid n with
   |true=>rw[H4h n hh] at e; rw[Pz n hh]; exact h.heap.dead n e
   |false=>rw[H4n n hh] at e; rw[LL n hh]; exact h3.xK.heap.dead n e
  ·have mix:∀{n n' sz pe},hid n=true->hid n'=false->φ[n]?=some (some (g,sz))->Ig[n']?=some (some (g,pe))->False:=by
    intro n n' sz pe hh hh' e1 e2;obtain⟨cs,dG⟩:=aR.1 (h3.live n' _ e2);obtain⟨g',sz2,arr,ty,g1,_,_,_,g5,_⟩:=h3.xK.heap.at dG;rw[e2] at g1; cases g1;exact g5 (.inl (.inr (hidX hh e1)))
   cases hh:hid n with
   |true=>
     rw[Pz n hh] at e1;cases hh':hid n' with
     |true=>rw[Pz n' hh'] at e2; exact h.heap.inj n n' g sz pe e1 e2
     |false=>rw[LL n' hh'] at e2; exact (mix hh hh' e1 e2).elim
   |false=>
     rw[LL n hh] at e1;cases hh':hid n' with
     |true=>rw[Pz n' hh'] at e2; exact (mix hh' hh e2 e1).elim
     |false=>rw[LL n' hh'] at e2; exact h3.xK.heap.inj n n' g sz pe e1 e2
 -- names
 let Nb:Names:=⟨N1.β,N.ν⟩
 let N4:Names:=⟨N1.β,fun p=>match p with
  |.c b j=>N1.ν (.c b j)
  |p=>N.ν p⟩
 have Yj:∀i,au ⟨jS lV s.env,H'⟩ (.s i)=au s (.s i):=fun i=>by
  rw[<-gO xV s (.s i)]; rfl
 have P3:∀i j,au ⟨jS lV s.env,H'⟩ (.sc i j)=au s (.sc i j):=fun i j=>by
  rw[<-gO xV s (.sc i j)]; rfl
 have ag1:∀b j,au ⟨jS lV s.env,H'⟩ (.c b j)=au ⟨[(0,r)],H'⟩ (.c b j):=fun b j=>rfl
 have J9:∀{p},(au ⟨jS lV s.env,H'⟩ p).isSome->((∃b j,p=.c b j)/\au ⟨jS lV s.env,H'⟩ p=au ⟨[(0,r)],H'⟩ p/\N4.ν p=N1.ν p)\/((∀b j,p≠.c b j)/\au ⟨jS lV s.env,H'⟩ p=au s p/\N4.ν p=N.ν p):=by
  intro p hp;cases p with
  |s i=>exact .inr ⟨(fun _ _ e=>by cases e),Yj i,rfl⟩
  |sc i j=>exact .inr ⟨(fun _ _ e=>by cases e),P3 i j,rfl⟩
  |c b j=>exact .inl ⟨⟨b,j,rfl⟩,ag1 b j,rfl⟩
 -- blocks of slots are hidden
 have KP:∀{p n},(∀b j,p≠.c b j)->(au s p).isSome->N.ν p=some n->hid n=true:=by
  intro p n Uc hp ZE;have bQ:n<Ha.length:=h.gU hp ZE;simp only[hid,ae,decide_eq_true_eq,bt];refine⟨by omega,?_⟩;cases e:(kQ[n]?).join with
  |none=>rfl
  |some q=>
    exfalso
    have e':kQ[n]?=some (some q):=by
     cases e2:kQ[n]? with
     |none=>rw[e2] at e; cases e
     |some z=>rw[e2] at e; simp at e; rw[e]
    rcases hn.good n (hn.live n q e') with⟨b,Be,ug⟩|⟨p',hp1,hp2⟩
    ·exact h.bx b p Be hp (by rw[ZE,<-ug])
    ·have hc:∃b j,p'=.c b j:=by
      cases p' with
      |s i=>rw[(dM (s:=⟨QT,s.H⟩) (h0 i)).1] at hp1; cases hp1
      |sc i j=>rw[(dM (s:=⟨QT,s.H⟩) (h0 i)).2 j] at hp1; cases hp1
      |c b j=>exact⟨b,j,rfl⟩
     obtain⟨b,j,rfl⟩:=hc;have:=h.inj p (.c b j) n hp hp1 ZE hp2;exact Uc b j this
 have box3:∀b,(aJ H' b).isSome->(aJ H3 (N1.β b)).isSome:=fun b iV=>by
  obtain⟨cs,dG⟩:=aR.1 iV;obtain⟨as,a1,_⟩:=h3.xK.box b cs dG;rw[a1]; rfl
 have own3:∀{p n},(au ⟨[(0,r)],H'⟩ p).isSome->N1.ν p=some n->(aJ H3 n).isSome:=by
  intro p n hp ZE;obtain⟨⟨k,xs⟩,e⟩:=aR.1 hp;have:=h3.xK.own p k xs e;rw[ZE] at this;obtain⟨cs,h1,_⟩:=this;rw[h1]; rfl
 have hl:∀k p a l,(cB (au s) s.H.length (.dz k p a l)->cB (au ⟨jS lV s.env,H'⟩) s.H.length (lV (.dz k p a l))/\Le (cC N4 (lV (.dz k p a l))) (cC Nb (.dz k p a l)))/\(cB (au s) s.H.length (.eV k p a l)->cB (au ⟨jS lV s.env,H'⟩) s.H.length (lV (.eV k p a l))/\Le (cC N4 (lV (.eV k p a l))) (cC Nb (.eV k p a l))):=by
  intro k p a l;cases p with
  |s i=>
    refine⟨fun h=>⟨?_,Le.refl _⟩,fun h=>⟨?_,Le.refl _⟩⟩
    ·simp only[lV,cB] at h ⊢; rw[Yj]; exact h
    ·simp only[lV,cB] at h ⊢; rw[Yj]; exact h
  |sc i j=>
    refine⟨fun h=>⟨?_,Le.refl _⟩,fun h=>⟨?_,Le.refl _⟩⟩
    ·simp only[lV,cB] at h ⊢; rw[P3]; exact h
    ·simp only[lV,cB] at h ⊢; rw[P3]; exact h
  |c b j=>exact⟨fun _=>⟨trivial,Le.any _⟩,fun _=>⟨trivial,Le.any _⟩⟩
 have hsim:er X VG w1 N4 ⟨jS lV s.env,H'⟩ H4 t:=by
  refine⟨fun i=>?_,fun i=>?_,ZI,fun p k xs e=>?_,fun b cs e=>?_,fun p q n e1 e2 e3 e4=>?_,fun b p e1 e2 e3=>?_,fun b d e1 e2 e3=>h3.xK.bi b d e1 e2 e3⟩
  ·show bF _ _ (jY N4 i (get (jS lV s.env) i)) _;rw[df];have r0:=nO.rep (h.env i);have e0:jY N i (get s.env i)=jY Nb i (get s.env i):=zf (N:=Nb) (N':=N) (o:=au s) (nb:=s.H.length) (fun b iV=>(ep b iV).symm) (fun _ _=>rfl) rfl (fun _=>rfl) (h.Ea i);rw[e0] at r0;refine Za (N:=Nb) (N':=N4) (x:=get s.env i) (y:=cD lV (get s.env i)) (fun cs dG=>⟨cO lV cs,by rw[dG]; rfl,cv _ _,fun j c d hc hd=>?_⟩) (fun hna=>⟨lx xV hna,?_⟩) _ _ _ r0
   ·rw[dY,hc] at hd;simp at hd;subst hd;have cX:=h.Ea i;rw[dG] at cX;simp only[cB] at cX;exact (lz (N:=Nb) (N':=N4) (o:=au s) (o':=au ⟨jS lV s.env,H'⟩) (nb:=s.H.length) (g:=lV) rfl xV hl (r:=.sc i j) (fun _ _ _=>rfl) (fO.1 cX j c hc)).2
   ·exact (lz (N:=Nb) (N':=N4) (o:=au s) (o':=au ⟨jS lV s.env,H'⟩) (nb:=s.H.length) (g:=lV) rfl xV hl (r:=.s i) (fun _ _ _=>rfl) (h.Ea i)).2
  ·show cB _ H'.length (get (jS lV s.env) i);rw[df];exact iM (fun _ _=>rfl) hle _ (KC (N:=Nb) (N':=N4) (o:=au s) (o':=au ⟨jS lV s.env,H'⟩) (nb:=s.H.length) (g:=lV) rfl xV hl _ (h.Ea i)).1
  ·rcases J9 (p:=p) (by rw[e]; rfl) with⟨⟨b,j,rfl⟩,e1,e2⟩|⟨Uc,e1,e2⟩
   ·rw[e1] at e;rw[e2];exact (h3.xK.own _ k xs e).same fun n ZE=>adX n (Jf n (own3 (by rw[e]; rfl) ZE))
   ·rw[e1] at e;rw[e2];exact (h.own p k xs e).same fun n ZE=>ahB n (KP Uc (by rw[e]; rfl) ZE)
  ·obtain⟨as,a1,a2,a3⟩:=h3.xK.box b cs e;refine⟨as,by show aJ H4 (N1.β b)=_; rw[adX _ (Jf _ (by rw[a1]; rfl))]; exact a1,a2,fun j d hd=>?_⟩;obtain⟨b1,a',b2,b3⟩:=a3 j d hd;have Xe:∀p∈aK d,∃b j,p=.c b j:=fun p hp=>Zq (hbor b cs e p (kB hd hp));refine⟨Eb (aI _) d (fun p hp=>?_) b1,a',b2,?_⟩
   ·obtain⟨b',j',rfl⟩:=Xe p hp; rfl
   ·have:iJ N4 (.c b j) d=iJ N1 (.c b j) d:=Im (N:=N1) (N':=N4) rfl (fun _ _ _=>rfl) fun p hp=>by obtain⟨b',j',rfl⟩:=Xe p hp; rfl
    rw[this]; exact b3
  ·rcases J9 e1 with⟨Pf,o1,u1⟩|⟨Pf,o1,u1⟩<;>rcases J9 e2 with⟨El,o2,u2⟩|⟨El,o2,u2⟩<;>rw[o1] at e1<;>rw[o2] at e2<;>rw[u1] at e3<;>rw[u2] at e4
   ·exact h3.xK.inj p q n e1 e2 e3 e4
   ·have a1:=Jf n (own3 e1 e3);have a2:=KP El e2 e4;rw[a1] at a2; cases a2
   ·have a1:=Jf n (own3 e2 e4);have a2:=KP Pf e1 e3;rw[a1] at a2; cases a2
   ·exact h.inj p q n e1 e2 e3 e4
  ·rcases J9 e2 with⟨El,o2,u2⟩|⟨El,o2,u2⟩<;>rw[o2] at e2<;>rw[u2] at e3
   ·exact h3.xK.bx b p e1 e2 e3
   ·have a1:=Jf _ (box3 b e1);have a2:=KP El e2 e3;have a3:hid (N1.β b)=true:=a2;rw[a1] at a3; cases a3
 have hr0:=h3.xK.env 0;simp only[Am.get,if_true] at hr0;rw[xG N1 0 gV] at hr0;have hok0:=h3.xK.Ea 0;simp only[Am.get,if_true] at hok0;refine⟨VG,dQ.quiet hsim ⟨fun b iV=>?_,Nat.le_trans hb.2 hle⟩ (Eb (aI _) r (fun p hp=>by rw[hbr] at hp; simp at hp) hok0) (lE gV) ?_,nO⟩
 ·show N1.β b=B b;rw[ep b (by have:=hb.2; omega)]; exact hb.1 b iV
 ·rw[kI N4 gV];have:cC N4 r=cC N1 r:=EH (N:=N1) (N':=N4) rfl fun p hp=>by rw[hbr] at hp; simp at hp
  rw[this];refine tr34 (Kf (o:=au ⟨[(0,r)],H'⟩) (nb:=H'.length) (fun b iV=>box3 b (Ue b iV)) (fun p hp n ZE=>own3 hp ZE) r hok0) hr0
theorem Xx (cX:eR P c) (dJ:gG P c call):Hu P c call:=by
 intro X φ w B base s o a kd f args md q r H' hk h hg ha hf hm hp j9 hbr gV Jp hc;obtain⟨N,Ha,h,hb⟩:=h;obtain⟨vargs,oT,hA,Bc⟩:=zZ cX h hg hk ha hf
 have hent:er X φ w N ⟨dN 0 (args.map gq),s.H⟩ Ha (fun i=>vargs.getD i undef):=by
  refine h.enter j9 hp (fun i x hx=>?_) (fun i x v hx hv=>?_) (by simpa using hA.1)
  ·rw[cJ] at hx;cases KV:args[i]? with
   |none=>rw[KV] at hx; cases hx
   |some y=>
     rw[KV] at hx;simp at hx;subst hx;have hy:=fO.1 Bc i y KV;unfold gq;split
     ·trivial
     ·exact hy
  ·rw[cJ] at hx;cases KV:args[i]? with
   |none=>rw[KV] at hx; cases hx
   |some y=>
     rw[KV] at hx;simp at hx;subst hx;have r0:=hA.2 i y v KV hv;have hpy:=wF hp i (gq y) (by rw[cJ,KV]; rfl);by_cases ho:∃k,y=.own k []
     ·obtain⟨k,rfl⟩:=ho;simp only[fV] at r0;cases r0;exact .j7 _ _
     ·have hn:gq y=y:=by
       unfold gq;split
       ·rename_i k; exact absurd ⟨k,rfl⟩ ho
       ·rfl
      rw[hn] at hpy ⊢;have hy:fV N y=cC N y:=by cases y<;>first|rfl|(simp[lN] at hpy; done)
      rw[hy] at r0;exact r0
 obtain⟨Ue,_⟩:=BB j9;obtain⟨kQ,H2,hn⟩:=hent.norm Ue
 have h0:∀i,bL (get (dN 0 (args.map gq)) i)=false:=fun i=>by
  rw[tE];simp only[Nat.zero_le,if_true,Nat.sub_zero];cases e:(args.map gq)[i]? with
  |none=>rfl
  |some x=>exact xN (wF hp i x e)
 have kU:=dJ f md q hf (args.map gq) s.H r H' (.inl hm) hc (fun _=>Jp) (fun g=>X g\/(bX φ g/\¬ bX kQ g)) kQ w N.β vargs (by simpa using hA.1) ⟨N,H2,hn.xK,fun _ _=>rfl,aI _⟩ (fun g=>(hg g).mono (fun a u ⟨h1,h2,h3⟩=>⟨fun hx=>hx.elim h1 fun hh=>h2 hh.1,fun⟨m,sz,e⟩=>h2 ⟨m,sz,hn.sub m _ e⟩,h3⟩) (.refl _));intro K Q hK;unfold Oper.wp;rw[oT,Oper.upon_enter];refine kU.mono ?_;rintro e w1 ⟨v',oa,rfl,⟨N1,H1,gI,Be,hle⟩,ad⟩;obtain⟨φ',zR,ad'⟩:=shared h hb hn h0 gI ad Be hle Jp hbr gV;exact hK v' w1 φ' (by simpa using zR) ad'
end
end Go.Bm

/- The machine by value is sound. -/
namespace Go.Bm
open Go.Am
section
variable {P:Program} {c:dO}
theorem Xu (cX:eR P c) (nF:tM P c) (uf:uA P c) (n:Nat):OT P c n:=
 PK cX nF uf (fun call hc=>Xx cX hc) (fun call hc=>afF cX (adJ cX nF hc (Xx cX hc))) (fun n hs=>shOK cX uf hs) n
theorem aap (cX:eR P c) (nF:tM P c) (uf:uA P c) (n:Nat):gG P c (kz c n):=JQ cX uf (Xu cX nF uf n) (shOK cX uf (Xu cX nF uf n))
theorem aao (cX:eR P c) (nF:tM P c) (uf:uA P c) {n f:Nat} {md:Md} {q:gH} (hf:c.fn f=some (md,q)) (iO:md.sh=false) {args:List AV} (hz:eE args=true) {r:AV} {H':Heap} (h:kz c n f args []=some (r,H')) (hr:pl r=true) {w:World} {vargs:Array Value}
  (ha:s6 (fun _=>False) [] w args vargs) (hg:Am.dH (gb c) (fun _=>False) [] w):Calls P f vargs w (fun e w'=>∃v,e=.returned v/\bF (Rd (fun _=>False) [] w') [] r v/\RowKit.Below w.heap.size w w'):=
 WS cX (aap cX nF uf n) hf iO hz h hr ha hg
theorem WR (cX:eR P c) (nF:tM P c) (uf:uA P c) {n f:Nat} {md:Md} {q:gH} (hf:c.fn f=some (md,q)) (iO:md.sh=false) {args:List AV} (hz:eE args=true) {r:AV} {H':Heap} (h:kz c n f args []=some (r,H')) (hr:pl r=true) {w:World} {vargs:Array Value}
  (ha:s6 (fun _=>False) [] w args vargs) (hg:Am.dH (gb c) (fun _=>False) [] w):Calls P f vargs w (fun e w'=>∃v,e=.returned v/\bF (Rd (fun _=>False) [] w') [] r v/\∃ q os,w'=Go.Sort.grow (w.drewN q) os):=
 Rb cX (aap cX nF uf n) hf iO hz h hr ha hg
end
end Go.Bm

/- More fuel gives the same; runs without counting fuel. -/
namespace Go.Bm
open Go.Am
section
variable {c:dO}
abbrev mL:=Nat->List AV->Heap->Option (AV × Heap)
def LeC (f g:mL):Prop:=∀n a H r,f n a H=some r->g n a H=some r
theorem QW {f g:mL} (h:LeC f g) {kd:Kd} {s:St} {x:AV × St × Fq} (e:dP c f kd s=some x):dP c g kd s=some x:=by
 unfold dP at e ⊢;split at e
 ·cases e
 rename_i n args ha
 try simp only[ha]
 split at e
 ·cases e
 rename_i md q hf
 try simp only[hf]
 split at e
 ·rename_i hm
  try rw[if_pos hm]
  split at e
  ·cases e
  rename_i sM hz
  try simp only[hz]
  split at e
  case h_2=>cases e
  rename_i r H' hc;rw[h _ _ _ _ hc];exact e
 ·rename_i hm
  try rw[if_neg hm]
  split at e
  ·cases e
  rename_i n1 o8 Od
  try simp only[Od]
  split at e
  case isFalse=>cases e
  rename_i ZK
  try rw[if_pos ZK]
  split at e
  ·rename_i iO
   try rw[if_pos iO]
   split at e
   case isFalse=>cases e
   rename_i hp
   try rw[if_pos hp]
   split at e
   case h_2=>cases e
   rename_i r H' hc;rw[h _ _ _ _ hc];exact e
  ·rename_i iO
   try rw[if_neg iO]
   split at e
   case isFalse=>cases e
   rename_i hp
   try rw[if_pos hp]
   split at e
   case h_2=>cases e
   rename_i r H' hc;rw[h _ _ _ _ hc];exact e
theorem Gl {f:mL} {s:St} {kd:Kd} (h:mP c f s kd=none) (g:mL):mP c g s kd=none:=by
 unfold mP at h ⊢;split at h
 ·split at h
  ·cases h
  ·rename_i hl;exact if_neg hl
 ·rfl
theorem TX {f:mL} {s:St} {kd:Kd} {v:AV} {s1:St} {fl:Fq} (h:mP c f s kd=some (some (v,s1,fl))):∃n args H r H',f n args H=some (r,H')/\∀ g:mL,g n args H=some (r,H')->mP c g s kd=some (some (v,s1,fl)):=by
 obtain⟨n,x,es,b,md,q,cs,cs',rfl,h1,h2,h3,h4,h5,h6,h7,rfl,rfl⟩:=wS h;refine⟨_,_,_,_,_,h6,fun g hg=>?_⟩;unfold mP;simp only;rw[if_pos h1];unfold Wd;rw[h2];simp only[h3,h4];rw[if_pos h5,hg];simp only;rw[if_pos h7]
theorem abE {f g:mL} (h:LeC f g) {kd:Kd} {s:St} {x:AV × St × Fq} (e:mP c f s kd=some (some x)):mP c g s kd=some (some x):=by
 obtain⟨v,s1,fl⟩:=x;obtain⟨n,args,H,r,H',h1,h2⟩:=TX e;exact h2 g (h _ _ _ _ h1)
theorem abv {f:mL} {fn i:Nat} {s:St} {xs:List AV} {x:AV × St × Fq} (e:M4 c f fn i s xs=some x):∃n args H r H',f n args H=some (r,H')/\∀ g:mL,g n args H=some (r,H')->M4 c g fn i s xs=some x:=by unfold M4 at e;cases e
theorem Ja {f:mL} {kd:Kd} {s:St} {x:AV × St × Fq} (e:sT c f s kd=some (some x)):∃n args H r H',f n args H=some (r,H')/\∀ g:mL,g n args H=some (r,H')->sT c g s kd=some (some x):=by
 unfold sT at e;split at e
 case h_2=>cases e
 rename_i fn es;split at e
 case h_2=>cases e
 rename_i i hi;simp only[af] at e;obtain⟨n,args,H,r,H',h1,h2⟩:=abv e;exact⟨n,args,H,r,H',h1,fun g hg=>by simp only[sT,hi,h2 g hg]⟩
theorem zF {f:mL} {kd:Kd} {s:St} (h:sT c f s kd=none) (g:mL):sT c g s kd=none:=by
 unfold sT at h ⊢;split at h
 ·split at h
  ·cases h
  ·rename_i hm;simp only[hm]
 ·rfl
theorem QX {f g:mL} (h:LeC f g) {kd:Kd} {s:St} {x:AV × St × Fq} (e:fP c f kd s=some x):fP c g kd s=some x:=by
 unfold fP at e ⊢;cases hm:sT c f s kd with
 |none=>
   rw[hm] at e;rw[zF hm g];obtain⟨v,s1,fl⟩:=x;rcases iH e with e|e
   ·exact rH (QW h e)
   ·obtain⟨n,args,H,r,H',h1,h2⟩:=RJ e;exact GR (h2 g (h _ _ _ _ h1))
 |some r=>
   rw[hm] at e;simp only at e;subst e;obtain⟨n,args,H,r,H',h1,h2⟩:=Ja hm;rw[h2 g (h _ _ _ _ h1)]
theorem GS {f g:mL} (h:LeC f g) {kd:Kd} {s:St} {x:AV × St × Fq} (e:dq c f kd s=some x):dq c g kd s=some x:=by
 unfold dq at e ⊢;cases hi:qG c s kd with
 |some r=>rw[hi] at e; exact e
 |none=>
   rw[hi] at e;cases hl:mP c f s kd with
   |none=>rw[hl] at e; rw[Gl hl g]; exact QX h e
   |some r=>
     rw[hl] at e;simp only at e;subst e;rw[abE h hl]
theorem FY {f g:mL} {s:St} {kd:Kd} (h:mC kd=false):eS c f s kd=eS c g s kd:=by
 cases kd<;>first|rfl|(simp[mC] at h)
theorem Km {f g:mL} (h:LeC f g) {kd:Kd} {s:St} {x:AV × St × Fq} (e:eS c f s kd=some x):eS c g s kd=some x:=by
 cases hk:mC kd with
 |false=>rw[<-FY (f:=f) hk]; exact e
 |true=>
   cases kd<;>simp[mC] at hk
   ·simp only[eS] at e ⊢; exact GS h e
   ·simp only[eS] at e ⊢; exact GS h e
theorem EJ {f g:mL} (h:LeC f g) {s:St} {o:O} {x:St × Fq} (e:sj c f s o=some x):sj c g s o=some x:=by
 have op:∀{y:AV × St × Fq} {K:AV × St × Fq->Option (St × Fq)},eS c f s o.kd=some y->eS c g s o.kd=some y:=fun h'=>Km h h';rw[v8] at e ⊢;cases hv:DE c f s o with
 |none=>rw[hv] at e; cases e
 |some y=>
   have:DE c g s o=some y:=by
    unfold DE at hv ⊢;split at hv
    ·exact Km h hv
    ·split at hv
     ·split at hv
      ·rename_i hb; simp only[hb,if_true]; exact Km h hv
      ·rename_i hb; simp only[hb,if_false]; exact hv
     ·exact hv
     ·cases hv
   rw[hv] at e;rw[this];exact e
theorem D9 {f g:mL} (h:LeC f g):∀{os:List O} {s:St} {x:St × List Fq},mz c f os s=some x->mz c g os s=some x
 |[],s,x,e=>e
 |o::r,s,x,e=>by
   simp only[mz] at e ⊢;split at e
   case h_2=>cases e
   rename_i s1 fl h1;rw[EJ h h1];simp only;split at e
   case h_2=>cases e
   rename_i s2 qH h2;rw[D9 h h2];exact e
def LeR (f g:Nat->C->St->Option (Ex × St)):Prop:=∀b cd s x,f b cd s=some x->g b cd s=some x
theorem G6 {f g:Nat->C->St->Option (Ex × St)} (h:LeR f g):LeC (mJ c f) (mJ c g):=by
 intro n a H r e;unfold mJ at e ⊢;split at e
 ·exact e
 split at e
 ·cases e
 split at e
 case isFalse=>cases e
 rename_i md fn hf hl;simp only[hl,if_true];split at e
 ·rename_i s' hs; rw[h _ _ _ _ hs]; exact e
 ·rename_i s' hs; rw[h _ _ _ _ hs]; exact e
 ·cases e
theorem GW:∀n,LeR (cG c n) (cG c (n+1))
 |0=>fun b cd s x e=>by simp[cG] at e
 |n+1=>by
   have ih:=GW n;intro b cd s x e;unfold cG at e ⊢;cases cd with
   |skip=>exact e
   |ret=>exact e
   |exit i=>exact e
   |rX os dr un keep=>
     simp only at e ⊢;split at e
     case h_2=>cases e
     rename_i s' qH hs;rw[D9 (G6 ih) hs];exact e
   |seq a b'=>
     simp only at e ⊢;cases h1:cG c n b a s with
     |none=>rw[h1] at e; cases e
     |some y=>
       obtain⟨ex,s1⟩:=y;rw[h1] at e;rw[ih _ _ _ _ h1];cases ex with
       |normal=>exact ih _ _ _ _ e
       |exit i=>exact e
       |ret=>exact e
   |cond y a b'=>
     simp only at e ⊢;split at e
     ·rename_i t ht;split at e
      ·rename_i h1; simp only[h1,if_true]; exact ih _ _ _ _ e
      ·rename_i h1; simp only[h1,if_false,bp]; exact ih _ _ _ _ e
     ·cases e
   |aJ i b'=>
     simp only at e ⊢;cases h1:cG c n b b' s with
     |none=>rw[h1] at e; cases e
     |some y=>
       rw[h1] at e;rw[ih _ _ _ _ h1];exact e
   |loop b'=>
     simp only at e ⊢;cases h1:cG c n b b' s with
     |none=>rw[h1] at e; cases e
     |some y=>
       obtain⟨ex,s1⟩:=y;rw[h1] at e;rw[ih _ _ _ _ h1];cases ex with
       |normal=>exact ih _ _ _ _ e
       |exit i=>exact e
       |ret=>exact e
theorem rJ {n m:Nat} (h:n<=m):LeR (cG c n) (cG c m):=by
 induction h with
 |refl=>exact fun _ _ _ _ e=>e
 |step _ ih=>exact fun b cd s x e=>GW _ b cd s x (ih b cd s x e)
open Classical in
noncomputable def bg (c:dO) (b:Nat) (cd:C) (s:St):Option (Ex × St):=if h:∃n x,cG c n b cd s=some x then some (Ar (iL h)) else none
theorem cQ {b:Nat} {cd:C} {s:St} {x:Ex × St}:bg c b cd s=some x ↔ ∃n,cG c n b cd s=some x:=by
 unfold bg;constructor
 ·intro e;split at e
  ·rename_i h;have:=iL (iL h);exact⟨_,bK e▸this⟩
  ·cases e
 ·rintro⟨n,e⟩;have h:∃n x,cG c n b cd s=some x:=⟨n,x,e⟩;rw[dif_pos h];have:=iL (iL h);have h1:=rJ (xy n (Ar h)) _ _ _ _ e;have h2:=rJ (vF n (Ar h)) _ _ _ _ this;rw[h1] at h2;cases h2;rfl
noncomputable def bU (c:dO) (f:Nat) (args:List AV) (H:Heap):Option (AV × Heap):=mJ c (bg c) f args H
theorem lH (n:Nat):LeR (cG c n) (bg c):=fun b cd s x e=>cQ.2 ⟨n,e⟩
theorem yu (n:Nat):LeC (kz c n) (bU c):=G6 (lH n)
theorem gL {f:Nat} {args:List AV} {H:Heap} {r:AV × Heap}:bU c f args H=some r ↔ ∃n,kz c n f args H=some r:=by
 constructor
 ·intro e;unfold bU mJ at e;split at e
  case h_1=>
   rename_i g hg;exact⟨0,by unfold kz mJ; rw[hg]; exact e⟩
  rename_i ho;split at e
  ·cases e
  rename_i md fn hf;split at e
  case isFalse=>cases e
  rename_i hl;split at e
  ·rename_i s' hs;obtain⟨n,hn⟩:=cQ.1 hs;exact⟨n,by unfold kz mJ; simp only[ho,hf,hl,if_true,hn]; exact e⟩
  ·rename_i s' hs;obtain⟨n,hn⟩:=cQ.1 hs;exact⟨n,by unfold kz mJ; simp only[ho,hf,hl,if_true,hn]; exact e⟩
  ·cases e
 ·rintro⟨n,e⟩;exact yu n _ _ _ _ e
theorem OM {n m:Nat} (h:n<=m):LeC (kz c n) (kz c m):=G6 (rJ h)
theorem Tw {s:St} {kd:Kd} {x:AV × St × Fq}:eS c (bU c) s kd=some x ↔ ∃n,eS c (kz c n) s kd=some x:=by
 constructor
 ·intro e;cases hk:mC kd with
  |false=>exact⟨0,by rw[FY (g:=bU c) hk]; exact e⟩
  |true=>
    have key0:∀{kd:Kd},dP c (bU c) kd s=some x->∃n,dP c (kz c n) kd s=some x:=by
     intro kd e;unfold dP at e;split at e
     ·cases e
     rename_i f args ha;split at e
     ·cases e
     rename_i md q hf;split at e
     ·rename_i hm;split at e
      ·cases e
      rename_i sM hz;split at e
      case h_2=>cases e
      rename_i r H' hc;obtain⟨n,hn⟩:=gL.1 hc;refine⟨n,?_⟩;unfold dP;simp only[ha,hf,hm,if_true,hz,hn];exact e
     ·rename_i hm;split at e
      ·cases e
      rename_i f1 o8 Od;split at e
      case isFalse=>cases e
      rename_i ZK;split at e
      ·rename_i iO;split at e
       case isFalse=>cases e
       rename_i hp;split at e
       case h_2=>cases e
       rename_i r H' hc;obtain⟨n,hn⟩:=gL.1 hc;refine⟨n,?_⟩;unfold dP;rw[ha];simp only[hf];rw[if_neg hm,Od];simp only;rw[if_pos ZK,if_pos iO,if_pos hp,hn];exact e
      ·rename_i iO;split at e
       case isFalse=>cases e
       rename_i hp;split at e
       case h_2=>cases e
       rename_i r H' hc;obtain⟨n,hn⟩:=gL.1 hc;refine⟨n,?_⟩;unfold dP;rw[ha];simp only[hf];rw[if_neg hm,Od];simp only;rw[if_pos ZK,if_neg iO,if_pos hp,hn];exact e
    have key1:∀{kd:Kd},fP c (bU c) kd s=some x->∃n,fP c (kz c n) kd s=some x:=by
     intro kd e;unfold fP at e ⊢;cases hm:sT c (bU c) s kd with
     |none=>
       rw[hm] at e;obtain⟨v,s1,fl⟩:=x;rcases iH e with e|e
       ·obtain⟨n,hn⟩:=key0 e;exact⟨n,by rw[zF hm]; exact rH hn⟩
       ·obtain⟨m,args,H,r,H',h1,h2⟩:=RJ e;obtain⟨n,hn⟩:=gL.1 h1;exact⟨n,by rw[zF hm]; exact GR (h2 _ hn)⟩
     |some r=>
       rw[hm] at e;simp only at e;subst e;obtain⟨m,args,H,r,H',h1,h2⟩:=Ja hm;obtain⟨n,hn⟩:=gL.1 h1;exact⟨n,by rw[h2 _ hn]⟩
    have key:∀{kd:Kd},dq c (bU c) kd s=some x->∃n,dq c (kz c n) kd s=some x:=by
     intro kd e;unfold dq at e ⊢;cases hi:qG c s kd with
     |some r=>rw[hi] at e; exact⟨0,e⟩
     |none=>
       rw[hi] at e;cases hl:mP c (bU c) s kd with
       |none=>
         rw[hl] at e;obtain⟨n,hn⟩:=key1 e;exact⟨n,by rw[Gl hl]; exact hn⟩
       |some r=>
         rw[hl] at e;simp only at e;subst e;obtain⟨m,args,H,r,H',h1,h2⟩:=TX (v:=x.1) (s1:=x.2.1) (fl:=x.2.2) hl;obtain⟨n,hn⟩:=gL.1 h1;exact⟨n,by rw[h2 _ hn]⟩
    cases kd<;>simp[mC] at hk
    ·simp only[eS] at e ⊢; exact key e
    ·simp only[eS] at e ⊢; exact key e
 ·rintro⟨n,e⟩;exact Km (yu n) e
theorem VK {s:St} {o:O} {x:St × Fq}:sj c (bU c) s o=some x ↔ ∃n,sj c (kz c n) s o=some x:=by
 constructor
 ·intro e;rw[v8] at e;cases hv:DE c (bU c) s o with
  |none=>rw[hv] at e; cases e
  |some y=>
    have:∃n,DE c (kz c n) s o=some y:=by
     unfold DE at hv ⊢;split at hv
     ·obtain⟨n,hn⟩:=Tw.1 hv;exact⟨n,hn⟩
     ·split at hv
      ·split at hv
       ·rename_i hb;obtain⟨n,hn⟩:=Tw.1 hv;exact⟨n,by simp only[hb,if_true]; exact hn⟩
       ·rename_i hb; exact⟨0,by simp only[hb,if_false]; exact hv⟩
      ·exact⟨0,hv⟩
      ·cases hv
    obtain⟨n,hn⟩:=this;refine⟨n,?_⟩;rw[hv] at e;rw[v8,hn];exact e
 ·rintro⟨n,e⟩;exact EJ (yu n) e
theorem FW:∀{os:List O} {s:St} {x:St × List Fq},mz c (bU c) os s=some x ↔ ∃n,mz c (kz c n) os s=some x
 |[],s,x=>⟨fun e=>⟨0,e⟩,fun⟨_,e⟩=>e⟩
 |o::r,s,x=>by
   constructor
   ·intro e;simp only[mz] at e;split at e
    case h_2=>cases e
    rename_i s1 fl h1;split at e
    case h_2=>cases e
    rename_i s2 qH h2;obtain⟨n,hn⟩:=VK.1 h1;obtain⟨m,hm⟩:=FW.1 h2;refine⟨max n m,?_⟩;simp only[mz];rw[EJ (OM (xy n m)) hn];simp only;rw[D9 (OM (vF n m)) hm];exact e
   ·rintro⟨n,e⟩;exact D9 (yu n) e
theorem AJ {α:Type} {a b:Option α} (h:∀x,a=some x ↔ b=some x):a=b:=by
 cases a with
 |none=>cases b with
   |none=>rfl
   |some y=>exact ((h y).2 rfl)
 |some x=>exact ((h x).1 rfl).symm
variable {b:Nat} {s:St}
theorem GV:bg c b .skip s=some (.normal,s):=cQ.2 ⟨1,rfl⟩
theorem JG:bg c b .ret s=some (.ret,s):=cQ.2 ⟨1,rfl⟩
theorem Q4 {i:Nat}:bg c b (.exit i) s=some (.exit i,s):=cQ.2 ⟨1,rfl⟩
noncomputable def Io (c:dO) (b:Nat) (y:C):Option (Ex × St)->Option (Ex × St)
 |some (.normal,s')=>bg c b y s'
 |r=>r
def regL (dr:Bool) (os:List O) (un:List (Nat × Nat)) (base:Nat) (keep:List Nat):Option (St × List Fq)->Option (Ex × St)
 |some (s',qH)=>if dr=false\/JC os qH un=true then (match QU base keep s' with
   |some s2=>some (.normal,s2)
   |none=>none) else none
 |none=>none
def blkL (i:Nat):Option (Ex × St)->Option (Ex × St)
 |some (.exit j,s')=>if j=i then some (.normal,s') else some (.exit j,s')
 |r=>r
theorem eU {x y:C}:bg c b (.seq x y) s=Io c b y (bg c b x s):=by
 apply AJ;intro z;constructor
 ·intro e;obtain⟨n,hn⟩:=cQ.1 e;cases n with
  |zero=>simp[cG] at hn
  |succ n=>
    simp only[cG] at hn;cases h1:cG c n b x s with
    |none=>rw[h1] at hn; cases hn
    |some w=>
      obtain⟨ex,s1⟩:=w;rw[h1] at hn;rw[lH n _ _ _ _ h1];cases ex with
      |normal=>exact lH n _ _ _ _ hn
      |exit i=>exact hn
      |ret=>exact hn
 ·intro e;cases h1:bg c b x s with
  |none=>rw[h1] at e; cases e
  |some w=>
    obtain⟨ex,s1⟩:=w;rw[h1] at e;obtain⟨n,hn⟩:=cQ.1 h1;cases ex with
    |normal=>
      obtain⟨m,hm⟩:=cQ.1 e;refine cQ.2 ⟨max n m+1,?_⟩;simp only[cG];rw[rJ (xy n m) _ _ _ _ hn];exact rJ (vF n m) _ _ _ _ hm
    |exit i=>exact cQ.2 ⟨n+1,by simp only[cG]; rw[hn]; exact e⟩
    |ret=>exact cQ.2 ⟨n+1,by simp only[cG]; rw[hn]; exact e⟩
theorem rI {x:C}:bg c b (.loop x) s=Io c b (.loop x) (bg c b x s):=by
 apply AJ;intro z;constructor
 ·intro e;obtain⟨n,hn⟩:=cQ.1 e;cases n with
  |zero=>simp[cG] at hn
  |succ n=>
    simp only[cG] at hn;cases h1:cG c n b x s with
    |none=>rw[h1] at hn; cases hn
    |some w=>
      obtain⟨ex,s1⟩:=w;rw[h1] at hn;rw[lH n _ _ _ _ h1];cases ex with
      |normal=>exact lH n _ _ _ _ hn
      |exit i=>exact hn
      |ret=>exact hn
 ·intro e;cases h1:bg c b x s with
  |none=>rw[h1] at e; cases e
  |some w=>
    obtain⟨ex,s1⟩:=w;rw[h1] at e;obtain⟨n,hn⟩:=cQ.1 h1;cases ex with
    |normal=>
      obtain⟨m,hm⟩:=cQ.1 e;refine cQ.2 ⟨max n m+1,?_⟩;simp only[cG];rw[rJ (xy n m) _ _ _ _ hn];exact rJ (vF n m) _ _ _ _ hm
    |exit i=>exact cQ.2 ⟨n+1,by simp only[cG]; rw[hn]; exact e⟩
    |ret=>exact cQ.2 ⟨n+1,by simp only[cG]; rw[hn]; exact e⟩
theorem JJ {i:Nat} {x:C}:bg c b (.aJ i x) s=blkL i (bg c b x s):=by
 apply AJ;intro z;constructor
 ·intro e;obtain⟨n,hn⟩:=cQ.1 e;cases n with
  |zero=>simp[cG] at hn
  |succ n=>
    simp only[cG] at hn;cases h1:cG c n b x s with
    |none=>rw[h1] at hn; cases hn
    |some w=>rw[h1] at hn; rw[lH n _ _ _ _ h1]; exact hn
 ·intro e;cases h1:bg c b x s with
  |none=>rw[h1] at e; cases e
  |some w=>
    obtain⟨n,hn⟩:=cQ.1 h1;rw[h1] at e;exact cQ.2 ⟨n+1,by simp only[cG]; rw[hn]; exact e⟩
theorem Q5 {v:E} {t:Bool} {x y:C} (h:aY c s.env v=.bool t):bg c b (.cond v x y) s=if t then bg c b x s else bg c b y s:=by
 apply AJ;intro z;constructor
 ·intro e;obtain⟨n,hn⟩:=cQ.1 e;cases n with
  |zero=>simp[cG] at hn
  |succ n=>
    simp only[cG,h] at hn;cases t with
    |true=>exact lH n _ _ _ _ hn
    |false=>exact lH n _ _ _ _ hn
 ·intro e;cases t with
  |true=>obtain⟨n,hn⟩:=cQ.1 e; exact cQ.2 ⟨n+1,by simp only[cG,h]; exact hn⟩
  |false=>obtain⟨n,hn⟩:=cQ.1 e; exact cQ.2 ⟨n+1,by simp only[cG,h]; exact hn⟩
theorem JH {os:List O} {dr:Bool} {un:List (Nat × Nat)} {keep:List Nat}:bg c b (.rX os dr un keep) s=regL dr os un b keep (mz c (bU c) os s):=by
 apply AJ;intro z;constructor
 ·intro e;obtain⟨n,hn⟩:=cQ.1 e;cases n with
  |zero=>simp[cG] at hn
  |succ n=>
    simp only[cG] at hn;split at hn
    case h_2=>cases hn
    rename_i s' qH h1;rw[FW.2 ⟨n,h1⟩];exact hn
 ·intro e;cases h1:mz c (bU c) os s with
  |none=>rw[h1] at e; cases e
  |some w=>
    obtain⟨n,hn⟩:=FW.1 h1;rw[h1] at e;refine cQ.2 ⟨n+1,?_⟩;simp only[cG];have Pc:mz c (mJ c (cG c n)) os s=some w:=hn;rw[Pc];exact e
theorem aaq {f:Nat} {md:Md} {q:gH} {args:List AV} {H:Heap} (ho:c.orc f=none) (hf:c.fn f=some (md,q)) (hl:args.length<=q.n):bU c f args H=(match bg c H.length q.body ⟨dN 0 args,H⟩ with
  |some (.ret,s)=>(match qM c s q.res with
    |some vs=>bR md H.length s (ob vs)
    |none=>none)
  |some (.normal,s)=>(match qM c s q.res with
    |some vs=>bR md H.length s (ob vs)
    |none=>none)
  |_=>none):=by
 unfold bU mJ;simp only[HP,ho,hf,hl,if_true];generalize bg c H.length q.body ⟨dN 0 args,H⟩=z;cases z with
 |none=>rfl
 |some w=>
   obtain⟨e,s⟩:=w;cases e<;>rfl
end
end Go.Bm

/- Arguments that came in, by value; answers that are bools. -/
namespace Go.Am
open Go.ChangeShapes Go.WideShapes
def aaC (k:IntKind) (w:World) (a:Option Addr) (len cap:Nat) (zs:List Int):Prop:=
 (a=none/\len=0/\cap=0/\zs=[]) \/
 ∃ x,a=some x/\len<=cap/\cap<=maxLen/\zs.length=cap/\(∀i,i<zs.length->w.cell? (x.add i)=some (.int k (zs.getD i 0)))/\∀ n∈zs,(Lit.int k n).wf=true
theorem aee {k:IntKind} {w:World} {a:Option Addr} {len cap:Nat} {zs:List Int} (h:aaC k w a len cap zs):bF (Rd (fun _=>False) [] w) [] (.list 1 ((zs.take len).map (AV.int k))) (.slice a len cap):=by
 rcases h with⟨rfl,rfl,rfl,rfl⟩|⟨x,rfl,hl,hm,hz,mY,hwz⟩
 ·exact .j7 _ _
 ·refine .vO _ 1 _ x len cap (fun i _=>.int k (zs.getD i 0)) (by simp; omega) hl ?_ ?_ ?_
  ·intro y hy;obtain⟨n,_,rfl⟩:=List.mem_map.mp hy;rfl
  ·intro i j y c hy hc;have hi:i<((zs.take len).map (AV.int k)).length:=(List.getElem?_eq_some_iff.mp hy).1;simp at hi;rw[cJ] at hy;cases HS:(zs.take len)[i]? with
   |none=>rw[HS] at hy; cases hy
   |some n=>
     rw[HS] at hy;cases hy;cases j with
     |succ j=>simp[AV.cells] at hc
     |zero=>exact⟨id,bX.nil _,by simpa using mY i (by omega)⟩
  ·intro i j y c hy hc;rw[cJ] at hy;cases HS:(zs.take len)[i]? with
   |none=>rw[HS] at hy; cases hy
   |some n=>
     rw[HS] at hy;cases hy;cases j with
     |succ j=>simp[AV.cells] at hc
     |zero=>
       simp[AV.cells] at hc;subst hc
       have e:zs.getD i 0=n:=by
        rw[bE] at HS;split at HS
        ·simp[List.getD,HS]
        ·cases HS
       rw[e];exact .int _ _ _
theorem s6.nil {X:Nat->Prop} {φ:cZ} {w:World}:s6 X φ w [] #[]:=⟨rfl,fun i x v h=>by simp at h⟩
theorem s6.cons {X:Nat->Prop} {φ:cZ} {w:World} {x:AV} {v:Value} {xs:List AV} {vs:List Value} (h:bF (Rd X φ w) φ x v) (r:s6 X φ w xs vs.toArray):s6 X φ w (x::xs) (v::vs).toArray:=by
 obtain⟨r1,r2⟩:=r;refine⟨by simpa using r1,fun i y u hy hu=>?_⟩;cases i with
 |zero=>
   simp at hy hu;subst hy hu;exact h
 |succ i=>
   refine r2 i y u (by simpa using hy) (by simpa using hu)
theorem L8 {R:Addr->Value->Prop} {φ:cZ} {b:Bool} {v:Value} (h:bF R φ (.bool b) v):v=.bool b:=by cases h; rfl
end Go.Am
namespace Go.Bm
open Go.Am
theorem OL {P:Program} {c:dO} (cX:eR P c) (nF:tM P c) (uf:uA P c) {f:Nat} {md:Md} {q:gH} (hf:c.fn f=some (md,q)) (iO:md.sh=false) {args:List AV} {b:Bool} {H':Heap} (h:bU c f args []=some (.bool b,H')) (hz:eE args=true) {w:World} {vargs:Array Value}
  (ha:s6 (fun _=>False) [] w args vargs) (hg:Am.dH (gb c) (fun _=>False) [] w):Calls P f vargs w (fun e w'=>e=.returned (.bool b)/\RowKit.Below w.heap.size w w'):=by
 obtain⟨n,hn⟩:=gL.1 h;refine (aao cX nF uf hf iO hz hn rfl ha hg).mono ?_;rintro e w' ⟨v,rfl,hr,hb⟩;rw[L8 hr];exact⟨rfl,hb⟩
theorem ZR {c:dO} {g0:Nat} {k:IntKind} {zs:List Int} (h:∀g,c.gl g=if g=g0 then zs.map (AV.int k) else[]) {w:World} (hc:∀i,(hi:i<zs.length)->w.cell? ⟨g0,i,none⟩=some (.int k zs[i])):Am.dH (gb c) (fun _=>False) [] w:=by
 intro g;show bF _ [] (.dh (c.gl g)) _;rw[h g];split
 ·rename_i e;subst e;refine .dh _ _ _ (fun j=>.int k (zs.getD j 0)) (fun j d hj=>?_) (fun j d hj=>?_)
  ·rw[cJ] at hj;cases e:zs[j]? with
   |none=>rw[e] at hj; cases hj
   |some z=>
     have bQ:=ak e;refine⟨id,bX.nil _,?_⟩;rw[Addr.iq,Nat.zero_add,hc j bQ,aH,e,<-aq bQ |>.symm.trans e |> bK];rfl
  ·rw[cJ] at hj;cases e:zs[j]? with
   |none=>rw[e] at hj; cases hj
   |some z=>
     rw[e] at hj;simp at hj;subst hj;rw[aH,e];exact .int _ _ _
 ·exact .dh _ _ _ (fun _=>undef) (fun j c hj=>by simp at hj) (fun j c hj=>by simp at hj)
theorem Wu {c:dO} (h:∀g,c.gl g=[]) {w:World}:Am.dH (gb c) (fun _=>False) [] w:=by
 intro g;show bF _ [] (.dh (c.gl g)) _;rw[h g];exact .dh _ _ _ (fun _=>undef) (fun j c hj=>by simp at hj) (fun j c hj=>by simp at hj)
end Go.Bm

/- Calls that are known ahead: a table of runs, each proved by itself. -/
namespace Go.Bm
open Go.Am
structure Fact where
 f:Nat
 args:List AV
 H:Heap
 r:AV
 H':Heap
end Go.Bm
