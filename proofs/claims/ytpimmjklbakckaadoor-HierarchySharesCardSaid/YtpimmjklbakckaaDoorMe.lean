/- The machine by value: open orders, shared boxes; the whole. -/
import Derived.Test.YtpimmjklbakckaaDoorMd
import Derived.ProofKit
import Derived.WalkKit
import Derived.OpenShut
/- What a pure operation answers depends on the slots it reads. -/
set_option linter.unusedSimpArgs false
set_option linter.unusedVariables false
open Array renaming getD_eq_getD_getElem? → aW, replicate → qv
open Bool renaming and_eq_true → ae, false_eq_true → bk, not_eq_true' → bn, or_eq_false_iff → dZ, or_eq_true → dG
open Classical renaming choose → zg, choose_spec → iK
open List renaming append_assoc → dQ, getD_eq_getElem?_getD → aT, getElem?_drop → aO, getElem?_eq_getElem → aB, getElem?_eq_none → dU, getElem?_map → cF, getElem?_of_mem → bt, getElem?_set → aQ, getElem?_take → bC, head?_eq_getElem? → uX, isEmpty_iff → eY, length_append → bw, length_set → cO, length_take → bg, mem_append → aC, mem_append_left → OT, mem_append_right → MS, mem_cons → aK, mem_of_getElem? → aU, mem_of_mem_drop → cQ, mem_of_mem_take → cP, mem_singleton → cD, range → fc, set_append_left → OR
open Nat renaming le_max_left → wv, le_max_right → uL, le_refl → aG
open Option renaming isSome_iff_exists → aM, map_some → bV
open Option.some renaming inj → bJ, injEq → af
open Prod.mk renaming injEq → aA
namespace Go.Bm
open Go.Am
section
variable {P:Program} {c:dM} {call:Nat->List AV->Heap->Option (AV × Heap)}
theorem bN {e1 e2:Env} {x:E} (h:∀i∈x.slot,eP i (get e1 i)=eP i (get e2 i)):aR c e1 x=aR c e2 x:=by
 cases x with
 |t i=>exact h i (by simp[E.slot])
 |k x=>rfl
 |g i=>rfl
theorem fW {e1 e2:Env}:∀{xs:List E},(∀i∈mS xs,eP i (get e1 i)=eP i (get e2 i))->dm c e1 xs=dm c e2 xs
 |[],_=>rfl
 |x::r,h=>by
   simp only[mS,aC] at h;simp only[dm];rw[bN fun i hi=>h i (.inl hi),fW fun i hi=>h i (.inr hi)]
theorem rO {e1 e2:Env}:∀{ps:List (Nat × Nat × E)} {zs:List AV},(∀i∈qz ps,eP i (get e1 i)=eP i (get e2 i))->qb c e1 zs ps=qb c e2 zs ps
 |[],_,_=>by simp[qb]
 |(o,s,x)::r,zs,h=>by
   simp only[qz,aC] at h;simp only[qb];rw[bN (c:=c) fun i hi=>h i (.inl hi)];split
   ·exact rO fun i hi=>h i (.inr hi)
   ·rfl
theorem qG {e1 e2:Env}:∀{ps:List (Nat × Nat × E)},(∀i∈qz ps,eP i (get e1 i)=eP i (get e2 i))->gg c e1 ps=gg c e2 ps
 |[],_=>by simp[gg]
 |(o,s,x)::r,h=>by
   simp only[qz,aC] at h;simp only[gg];rw[bN (c:=c) fun i hi=>h i (.inl hi),qG fun i hi=>h i (.inr hi)]
theorem yY {e1 e2:Env} {d m:Nat} {x:Option E} (h:∀i∈Gl x,eP i (get e1 i)=eP i (get e2 i)):yZ c e1 d m x=yZ c e2 d m x:=by
 cases x with
 |none=>rfl
 |some x=>simp only[yZ]; rw[bN h]
theorem GM {e1 e2:Env} {kd:Kd} (h:∀i∈kd.reads,eP i (get e1 i)=eP i (get e2 i)):Nt c e1 kd=Nt c e2 kd:=by
 cases kd<;>simp only[Kd.reads,aC] at h<;>simp only[Nt]
 case pick x y z=>rw[bN (c:=c) fun i hi=>h i (.inl hi),bN (c:=c) fun i hi=>h i (.inr (.inl hi)),bN (c:=c) fun i hi=>h i (.inr (.inr hi))]
 case build=>rw[rO (c:=c) h]
 case FC k x lo hi=>rw[bN (c:=c) fun i hi=>h i (.inl hi)]; simp only[yY (c:=c) fun i hi=>h i (.inr (.inl hi)),yY (c:=c) fun i hi=>h i (.inr (.inr hi))]
 case F9 n x u=>rw[bN (c:=c) fun i hi=>h i (.inl hi)]
 case min=>rw[fW (c:=c) h]
 case max=>rw[fW (c:=c) h]
 case KJ=>rw[fW (c:=c) fun i hi=>h i (.inl hi),fW (c:=c) fun i hi=>h i (.inr hi)]
 all_goals first
  |rfl
  |rw[bN (c:=c) h]
  |rw[bN (c:=c) fun i hi=>h i (.inl hi),bN (c:=c) fun i hi=>h i (.inr hi)]
theorem EG {e1 e2:Env} {kd:Kd} (h:∀i∈kd.reads,eP i (get e1 i)=eP i (get e2 i)):oU c e1 kd=oU c e2 kd:=by
 cases kd<;>simp only[oU]
 case call=>rw[fW (c:=c) h]
 case iR=>
  simp only[Kd.reads,aC] at h;rw[bN (c:=c) fun i hi=>h i (.inl hi),fW (c:=c) fun i hi=>h i (.inr hi)]
theorem gW {e1 e2:Env} {kd:Kd} (h:∀i∈kd.reads,eP i (get e1 i)=eP i (get e2 i)):getArgs c e1 kd=getArgs c e2 kd:=by
 unfold getArgs;rw[EG h]
def Seen (ps:List Rt) (s t:St):Prop:=∀p∈ps,aq t p=aq s p/\∀ b l,p=.c b l->aN t.H b=aN s.H b
theorem Nq {s t:St} {ag:Option Nat} {x v:AV} {ps:List Rt} (h:ym s ag x=some (v,ps)) (hs:Seen ps s t):ym t ag x=some (v,ps):=by
 unfold ym at h ⊢;split at h
 ·exact h
 ·rename_i b off;split at h
  case h_2=>cases h
  rename_i cs hb;split at h
  case h_2=>cases h
  rename_i u hu;simp only[af,aA] at h;obtain⟨rfl,rfl⟩:=h;have:=(hs _ (cD.2 rfl)).2 b _ rfl;simp only[this,hb,hu]
 ·rename_i k p i off;split at h
  case h_2=>cases h
  rename_i k' xs ho;split at h
  case isFalse=>cases h
  rename_i hk;split at h
  case h_2=>cases h
  rename_i y hy;split at h
  case h_2=>cases h
  rename_i u hu;simp at h;obtain⟨rfl,rfl⟩:=h;have:=(hs p (by simp)).1;simp only[this,ho,hk,if_true,hy,hu]
 ·cases h
def q9 (b j:Nat) (s t:St):Prop:=∀cs,aN s.H b=some cs->∃ds,aN t.H b=some ds/\(er (.c b) 0 ds)[j]?=(er (.c b) 0 cs)[j]?
def xT (f:Fq) (s t:St):Prop:=(∀ps,f=.rd ps->Seen ps s t)/\∀ b j,f=.rc b j->q9 b j s t
theorem tF (f:Nat->Rt):∀{cs ds:List AV} {j i:Nat},cs[i]?=ds[i]?->(er f j cs)[i]?=(er f j ds)[i]?
 |[],[],_,_,_=>rfl
 |[],d::ds,j,0,h=>by simp at h
 |c::cs,[],j,0,h=>by simp at h
 |[],d::ds,j,i+1,h=>by
   have:=tF f (cs:=[]) (ds:=ds) (j:=j+1) (i:=i) (by simpa using h);cases d<;>simpa[er] using this
 |c::cs,[],j,i+1,h=>by
   have:=tF f (cs:=cs) (ds:=[]) (j:=j+1) (i:=i) (by simpa using h);cases c<;>simpa[er] using this
 |c::cs,d::ds,j,0,h=>by
   simp at h;subst h;cases c<;>simp[er]
 |c::cs,d::ds,j,i+1,h=>by
   have:=tF f (cs:=cs) (ds:=ds) (j:=j+1) (i:=i) (by simpa using h);cases c<;>cases d<;>simpa[er] using this
theorem YO {ag:Option Nat} {cs ds:List AV} {k:Nat} {p:Rt} {o l:Nat} (h:H7 ag cs=some (.du k p o l)) (e:ds[0]?=cs[0]?):H7 ag ds=some (.du k p o l):=by
 unfold H7 AA at h ⊢;cases ag with
 |some n=>simp only at h ⊢; (repeat' split at h)<;>simp_all
 |none=>
   simp only at h ⊢;have:ds.head?=cs.head?:=by rw[uX,uX]; exact e
   rw[this]; exact h
theorem Tl {s t:St} {ag:Option Nat} {x v:AV} {ps:List Rt} (h:ym s ag x=some (v,ps)) (hs:xT (vK x v ps) s t):ym t ag x=some (v,ps):=by
 by_cases hx:∃b off k o l,x=.ptr b off/\v=.du k (.c b off) o l
 ·obtain⟨b,off,k,o,l,rfl,rfl⟩:=hx;have Lw:=hs.2 b off (by simp[vK]);unfold ym at h ⊢;simp only at h ⊢;split at h
  case h_2=>cases h
  rename_i cs hb;split at h
  case h_2=>cases h
  rename_i u hu;simp only[af,aA] at h;obtain⟨rfl,h2⟩:=h;obtain⟨ds,d1,d2⟩:=Lw cs hb
  have:H7 ag ((er (.c b) 0 ds).drop off)=some (.du k (.c b off) o l):=YO hu (by
   rw[aO,aO];simpa using d2)
  simp only[d1,this,h2]
 ·refine Nq h (hs.1 ps ?_);unfold vK;split
  ·rename_i b off k d j o l;split
   ·rename_i hc;obtain⟨rfl,rfl⟩:=hc;exact absurd ⟨_,_,_,_,_,rfl,rfl⟩ hx
   ·rfl
  ·rfl
end
end Go.Bm

/- Operations that change nothing that is there: what they answer depends on the slots they read and on the places they name. -/
namespace Go.Bm
open Go.Am
section
variable {P:Program} {c:dM} {call:Nat->List AV->Heap->Option (AV × Heap)}
theorem Seen.left {ps qs:List Rt} {s t:St} (h:Seen (ps++qs) s t):Seen ps s t:=fun p hp=>h p (by simp[hp])
theorem Seen.right {ps qs:List Rt} {s t:St} (h:Seen (ps++qs) s t):Seen qs s t:=fun p hp=>h p (by simp[hp])
mutual
theorem EH {b:Bool} {s t:St}:∀x,Seen (aI x) s t->ks b t x=ks b s x
 |.du k p off len,h=>by simp only[ks]; rw[(h p (by simp[aI])).1]
 |.agg cs,h=>by simp only[ks]; rw[qP cs (by simpa[aI] using h)]
 |.dA cs,h=>by simp only[ks]; rw[qP cs (by simpa[aI] using h)]
 |.func f a b',h=>by
   have h':Seen (cU a++cU b') s t:=by simpa[aI] using h
   simp only[ks]; rw[qP a h'.left,qP b' h'.right]
 |.own _ _,_=>rfl
 |.ptr _ _,_=>rfl
 |.eR _ _ _ _,_=>rfl
 |.sl _ _ _ _,_=>rfl
 |.any,_=>rfl
 |.undef,_=>rfl
 |.bool _,_=>rfl
 |.int _ _,_=>rfl
 |.fg,_=>rfl
 |.fj,_=>rfl
 |.di,_=>rfl
 |.str _,_=>rfl
 |.de _,_=>rfl
 |.list _ _,_=>rfl
theorem qP {b:Bool} {s t:St}:∀xs,Seen (cU xs) s t->Bi b t xs=Bi b s xs
 |[],_=>rfl
 |x::r,h=>by
   have h':Seen (aI x++cU r) s t:=by simpa[cU] using h
   simp only[Bi]; rw[EH x h'.left,qP r h'.right]
end
theorem Oq {s t:St} {k:Nat} {x:AV} (h:Seen (aI x) s t):cont t k x=cont s k x:=by
 cases x<;>try rfl
 case du k' p off len=>simp only[cont]; rw[(h p (by simp[aI])).1]
 case own k' xs=>cases xs<;>rfl
theorem N9 {s t:St} {k b off len:Nat} (h:Seen [.c b 1] s t):LQ t k b off len=LQ s k b off len:=by
 unfold LQ;rw[(h _ (cD.2 rfl)).2 b 1 rfl]
theorem EK {s t:St}:∀xs,Seen (cU xs++C4 xs) s t->tP t xs=tP s xs
 |[],_=>rfl
 |x::r,h=>by
   have hb:Seen (aI x++cU r) s t:=by simpa[cU] using h.left
   have qe:Seen (C4 r) s t:=fun p hp=>h p (aC.2 (.inr (by cases x<;>simp[C4,hp])));have ih:=EK r fun p hp=>(aC.1 hp).elim (fun q=>hb.right p q) (qe p);have hx:=EH (b:=false) x hb.left;cases x<;>try (simp only[tP]; rw[hx,ih]; done)
   case sl k b off len=>
    simp only[tP];rw[ih,N9 fun p hp=>h p (aC.2 (.inr (by simp[C4,cD.1 hp])))]
   case own k xs=>
    cases xs with
    |nil=>simp only[tP]; rw[ih]
    |cons y ys=>simp only[tP]; rw[hx,ih]
def calm:Fq->Bool
 |.no|.rc _ _|.rd _|.al _=>true
 |_=>false
def za (s s1:St) (kd:Kd) (f:Fq) (v:AV) (g:St->Option (AV × St × Fq)):Prop:=
 ∃ T,s1=⟨s.env,s.H++T⟩/\(T=[]\/∃ z,T=[z]/\f=.al s.H.length)/\∀ t:St,(∀i∈kd.reads,eP i (get t.env i)=eP i (get s.env i))->xT f s t->(∀n,f=.al n->t.H.length=n)->g t=some (v,⟨t.env,t.H++T⟩,f)
theorem vJ (x v:AV) (ps:List Rt):vK x v ps=.rd ps\/∃ b j,vK x v ps=.rc b j:=by
 unfold vK;split
 ·split
  ·exact .inr ⟨_,_,rfl⟩
  ·exact .inl rfl
 ·exact .inl rfl
theorem za.still {s:St} {kd:Kd} {f:Fq} {v:AV} {g:St->Option (AV × St × Fq)} (h:∀t:St,(∀i∈kd.reads,eP i (get t.env i)=eP i (get s.env i))->xT f s t->g t=some (v,t,f)):za s s kd f v g:=
 ⟨[],by simp,.inl rfl,fun t h1 h2 _=>by rw[h t h1 h2]; simp⟩
end
end Go.Bm

/- Every calm operation depends on what it names alone. -/
namespace Go.Bm
open Go.Am
section
variable {P:Program} {c:dM} {call:Nat->List AV->Heap->Option (AV × Heap)}
theorem UL {s s':St} {b off k:Nat} {v:AV} {f:Fq} (h:xI s b off k v=some (s',f)):calm f=false:=by
 unfold xI at h
 repeat' split at h
 all_goals first
  |(cases h; done)
  |(simp at h; obtain⟨_,rfl⟩:=h; rfl)
theorem M5 {s s':St} {k:Nat} {a v:AV} {f:Fq} (h:MA s k a v=some (s',f)):calm f=false:=by
 unfold MA at h;split at h
 ·exact UL h
 ·repeat' split at h
  all_goals first
   |(cases h; done)
   |(simp at h; obtain⟨_,rfl⟩:=h; rfl)
 ·cases h
theorem w9 (s:St) (l:List Rt):mH s l=.all\/∃ sl bs,mH s l=.wr sl bs:=by
 unfold mH;split
 ·split
  ·exact .inr ⟨_,_,rfl⟩
  ·exact .inl rfl
 ·exact .inl rfl
theorem B3 (s:St) (l:List Rt):calm (mH s l)=false:=by rcases w9 s l with e|⟨_,_,e⟩<;>rw[e]<;>rfl
theorem Bh (s:St) (l ps:List Rt):(mH s l=.bo ps)=False:=by rcases w9 s l with e|⟨_,_,e⟩<;>rw[e]<;>simp
theorem xb (s:St) (l:List Rt) (n:Nat):(mH s l=.al n)=False:=by rcases w9 s l with e|⟨_,_,e⟩<;>rw[e]<;>simp
theorem Bg (s:St) (l:List Rt) (n:Nat):(mH s l=.lw n)=False:=by rcases w9 s l with e|⟨_,_,e⟩<;>rw[e]<;>simp
theorem L5 {s s1:St} {kd:Kd} {v:AV} {f:Fq} (h:dO c call kd s=some (v,s1,f)) (hf:calm f=true):za s s1 kd f v (dO c call kd):=by
 unfold dO at h;split at h
 ·cases h
 rename_i f0 args ha;split at h
 ·cases h
 rename_i md q hq;split at h
 ·rename_i hm;split at h
  ·cases h
  rename_i rR hz;split at h
  case h_2=>cases h
  rename_i r H' hc;split at h
  case isFalse=>cases h
  rename_i hr;simp at h;obtain⟨rfl,rfl,rfl⟩:=h;refine .still fun t h1 h2=>?_
  have hs:Seen (cU args++C4 args) s t:=by
   by_cases he:(cU args++C4 args).isEmpty=true
   ·rw[eY.1 he]; intro p hp; simp at hp
   ·exact h2.1 _ (by simp[he]<;>simpa using he)
  unfold dO;rw[gW h1,ha];simp only[hq,hm,if_true,EK args hs,hz,hc,hr];simp
 ·rename_i hm;split at h
  ·cases h
  rename_i f1 oY LL;split at h
  case isFalse=>cases h
  rename_i W4;split at h
  ·repeat' split at h
   all_goals first
    |(cases h; done)
    |(simp at h; obtain⟨_,_,rfl⟩:=h; exfalso; simp[calm] at hf; done)
    |(simp at h; obtain⟨_,_,rfl⟩:=h; exfalso; revert hf; split<;>simp[calm])
  ·rename_i iN;split at h
   case isFalse=>cases h
   rename_i hp;split at h
   case h_2=>cases h
   rename_i r H' hc;split at h
   case isFalse=>cases h
   rename_i hr;simp at h;obtain⟨rfl,rfl,rfl⟩:=h
   have he:cU args=[]:=by
    cases hb:cU args with
    |nil=>rfl
    |cons x y=>rw[hb] at hf; simp[B3] at hf
   rw[he] at LL ⊢;simp only[dJ] at LL ⊢;refine .still fun t h1 h2=>?_;unfold dO;rw[gW h1,ha];simp only[hq,hm,he,dJ,bk,if_false];rw[gW h1,LL];simp only[W4,if_true,iN,hp,hc,hr,bk,if_false];simp
theorem wY {s:St} {kd:Kd} (h:pW c s kd=none) (t:St):pW c t kd=none:=by
 unfold pW at h ⊢;split at h
 ·split at h
  ·rename_i f x es hi;split at h
   ·rename_i he; simp only[hi,he]
   ·cases h
  ·cases h
 ·rfl
theorem AU {s:St} {kd:Kd} (h:mN c call s kd=none) (t:St):mN c call t kd=none:=by
 unfold mN at h ⊢;split at h
 ·rename_i f x es;split at h
  ·cases h
  ·rename_i hl;exact if_neg hl
 ·rfl
theorem aah {s s1:St} {g:Nat->List AV->List AV->Option (List AV)} {x:AV} {es:List AV} {v:AV} {f:Fq} (h:Of s g x es=some (v,s1,f)):∃sl bs,f=.wr sl bs\/f=.all:=by unfold Of at h;cases h
theorem zS {s s1:St} {kd:Kd} {v:AV} {f:Fq} (h:pW c s kd=some (some (v,s1,f))):∃sl bs,f=.wr sl bs\/f=.all:=by
 unfold pW at h;split at h
 case h_2=>cases h
 split at h
 case h_1=>
  split at h
  ·cases h
  ·simp only[af] at h;exact aah h
 simp only[af] at h
 (repeat' split at h)<;>simp at h
 all_goals first
  |exact⟨_,_,.inl h.2.2.symm⟩
  |exact⟨[],none,.inr h.2.2.symm⟩
theorem AN {afR:Nat->List AV->Heap->Option (AV × Heap)} {s:St} {kd:Kd} (h:rZ c call s kd=none) (t:St):rZ c afR t kd=none:=by
 unfold rZ at h ⊢;split at h
 ·split at h
  ·cases h
  ·rename_i hm;simp only[hm]
 ·rfl
theorem wQ {s s1:St} {kd:Kd} {v:AV} {f:Fq} (h:rZ c call s kd=some (some (v,s1,f))):f=.all/\∃ k ys,v=.own k ys:=by
 unfold rZ at h;split at h
 case h_2=>cases h
 split at h
 case h_2=>cases h
 simp only[af] at h;unfold KI at h
 (repeat' split at h)<;>first
  |(cases h; done)
  |(simp only[af,aA] at h; exact⟨h.2.2.symm,_,_,h.1.symm⟩)
theorem I6 {s s1:St} {kd:Kd} {v:AV} {f:Fq} (h:fL c call kd s=some (v,s1,f)) (hf:calm f=true):za s s1 kd f v (fL c call kd):=by
 unfold fL at h;cases hm:rZ c call s kd with
 |some r=>
   rw[hm] at h;simp only at h;subst h;obtain⟨rfl,_⟩:=wQ hm;simp[calm] at hf
 |none=>
   rw[hm] at h;rcases iG h with h|h
   ·obtain⟨T,h1,h2,h3⟩:=L5 h hf;refine⟨T,h1,h2,fun t a b d=>?_⟩;unfold fL;rw[AN hm t];exact qQ (h3 t a b d)
   ·obtain⟨rfl,_⟩:=wI h;simp[calm] at hf
theorem Ad {s s1:St} {kd:Kd} {v:AV} {f:Fq} (h:dj c call kd s=some (v,s1,f)) (hf:calm f=true):za s s1 kd f v (dj c call kd):=by
 unfold dj at h;cases hi:pW c s kd with
 |some r=>
   rw[hi] at h;simp only at h;subst h;obtain⟨sl,bs,rfl|rfl⟩:=zS hi<;>simp[calm] at hf
 |none=>
   rw[hi] at h;cases hl:mN c call s kd with
   |some r=>
     rw[hl] at h;simp only at h;subst h;obtain⟨b,rfl⟩:=CC hl;simp[calm] at hf
   |none=>
     rw[hl] at h;obtain⟨T,h1,h2,h3⟩:=I6 h hf;refine⟨T,h1,h2,fun t a b d=>?_⟩;unfold dj;rw[wY hi t,AU hl t];exact h3 t a b d
end
end Go.Bm

/- Every operation that is calm depends on what it names alone. -/
namespace Go.Bm
open Go.Am
section
variable {P:Program} {c:dM} {call:Nat->List AV->Heap->Option (AV × Heap)}
theorem VK {s s1:St} {kd:Kd} {v:AV} {f:Fq} (h:eO c call s kd=some (v,s1,f)) (hf:calm f=true):za s s1 kd f v (fun t=>eO c call t kd):=by
 have pure:∀{kd:Kd} {v:AV} {s1:St} {f:Fq},(match Nt c s.env kd with
   |some v=>some (v,s,Fq.no)
   |none=>none)=some (v,s1,f)->za s s1 kd f v (fun t=>match Nt c t.env kd with
   |some v=>some (v,t,Fq.no)
   |none=>none):=by
  intro kd v s1 f h;split at h
  case h_2=>cases h
  rename_i u hu;simp at h;obtain⟨rfl,rfl,rfl⟩:=h;refine .still fun t h1 _=>?_;simp only[GM (c:=c) h1,hu]
 cases kd
 case call f0 xs=>simp only[eO] at h ⊢; exact Ad h hf
 case iR x xs=>simp only[eO] at h ⊢; exact Ad h hf
 case ld ag x=>
  simp only[eO] at h;split at h
  case h_2=>cases h
  rename_i u ps hp;split at h
  case isFalse=>cases h
  rename_i hl;simp at h;obtain⟨rfl,rfl,rfl⟩:=h;refine .still fun t h1 h2=>?_;simp only[eO,bN (c:=c) h1,Tl hp h2,hl,if_true]
 case copy k x y=>
  exfalso;simp only[eO] at h
  (repeat' split at h)<;>first
   |(cases h; done)
   |(simp only[af,aA] at h; obtain⟨_,_,rfl⟩:=h; first
     |(simp[calm] at hf; done)
     |(rcases vX _ _ with e|⟨_,_,_,_,e⟩<;>rw[e] at hf<;>simp[calm] at hf))
 case F9 n x hi=>
  simp only[eO] at h;split at h
  ·rename_i b off hx;split at h
   case h_2=>cases h
   rename_i m cs hm hb;split at h
   case isFalse=>cases h
   rename_i hl;simp at h;obtain⟨rfl,rfl,rfl⟩:=h;refine .still fun t h1 h2=>?_;simp only[Kd.reads,aC] at h1;have e:=((h2.1 _ rfl) _ (cD.2 rfl)).2 b 1 rfl;have NP:yZ c t.env n n hi=some m:=by rw[yY (c:=c) fun i hi=>h1 i (.inr hi)]; exact hm
   simp only[eO,bN (c:=c) fun i hi=>h1 i (.inl hi),hx,NP,e,hb,hl,if_true]
  ·rename_i gV;split at h
   case h_2=>cases h
   rename_i u hu;simp at h;obtain⟨rfl,rfl,rfl⟩:=h;refine .still fun t h1 _=>?_;have e:=GM (c:=c) h1;simp only[Kd.reads,aC] at h1;have ex:aR c t.env x=aR c s.env x:=bN (c:=c) fun i hi=>h1 i (.inl hi);simp only[eO,ex,e,hu]
 case new zs=>
  simp only[eO] at h;simp at h;obtain⟨rfl,rfl,rfl⟩:=h;exact⟨_,rfl,.inr ⟨_,rfl,rfl⟩,fun t _ _ h3=>by simp only[eO]; rw[h3 _ rfl]⟩
 case box x=>
  simp only[eO] at h;split at h
  case isFalse=>cases h
  rename_i hl;simp at h;obtain⟨rfl,rfl,rfl⟩:=h;refine⟨_,rfl,.inr ⟨_,rfl,rfl⟩,fun t h1 _ h3=>?_⟩;simp only[eO,bN (c:=c) h1,hl,if_true];rw[h3 _ rfl]
 case eL k n zs ps=>
  simp only[eO] at h;split at h
  case h_2=>cases h
  rename_i cs hc;split at h
  case isFalse=>cases h
  rename_i hz;simp at h;obtain⟨rfl,rfl,rfl⟩:=h
  have he:gg c s.env ps=[]:=by
   cases hb:gg c s.env ps with
   |nil=>rfl
   |cons x y=>rw[hb] at hf; simp[B3] at hf
  rw[he] at hc ⊢;simp only[dJ] at hc ⊢;refine .still fun t h1 _=>?_;simp only[eO,qG (c:=c) h1,he,dJ,rO (c:=c) h1,hc,hz,if_true];simp
 case st k a v=>
  exfalso;simp only[eO] at h;split at h
  ·split at h
   case h_2=>cases h
   rename_i hh;have h4:=M5 hh;simp only[af,aA] at h;obtain⟨_,_,h5⟩:=h;rw[<-h5] at hf;split at hf
   ·rw[hf] at h4; cases h4
   ·simp[calm] at hf
  ·split at h
   case h_2=>cases h
   rename_i hh;have h4:=M5 hh;simp only[af,aA] at h;obtain⟨_,_,h5⟩:=h;rw[<-h5] at hf;rw[hf] at h4;cases h4
 case app k x y=>
  simp only[eO] at h;split at h
  case h_2=>cases h
  rename_i ys hy;split at h
  case isFalse=>cases h
  rename_i hl;split at h
  ·rename_i k' hx;split at h
   case isFalse=>cases h
   rename_i hle;simp at h;obtain⟨rfl,rfl,rfl⟩:=h;refine .still fun t h1 h2=>?_;simp only[Kd.reads,aC] at h1;simp only[eO];rw[bN (c:=c) fun i hi=>h1 i (.inl hi),bN (c:=c) fun i hi=>h1 i (.inr hi),Oq (h2.1 _ rfl),hy];simp only[hl,if_true,hx,hle]
  ·exfalso
   repeat' split at h
   all_goals first
    |(cases h; done)
    |(simp at h; obtain⟨_,_,rfl⟩:=h; simp[calm] at hf)
  ·cases h
 case Jq k zs l cp=>
  simp only[eO] at h;split at h
  case h_2=>cases h
  rename_i k1 n1 k2 n2 e1 e2;split at h
  case isFalse=>cases h
  rename_i hb;split at h
  ·rename_i z hz;simp at h;obtain⟨rfl,rfl,rfl⟩:=h;refine⟨_,rfl,.inr ⟨_,rfl,rfl⟩,fun t h1 _ h3=>?_⟩;simp only[Kd.reads,aC] at h1;simp only[eO];rw[bN (c:=c) fun i hi=>h1 i (.inl hi),bN (c:=c) fun i hi=>h1 i (.inr hi),e1,e2];simp only[hb,and_self,if_true,hz];rw[h3 _ rfl]
  ·rename_i hz;simp at h;obtain⟨rfl,rfl,rfl⟩:=h;refine .still fun t h1 h2=>?_;simp only[Kd.reads,aC] at h1;simp only[eO];rw[bN (c:=c) fun i hi=>h1 i (.inl hi),bN (c:=c) fun i hi=>h1 i (.inr hi),e1,e2];simp only[hb,and_self,if_true,hz]
 case RZ k zs x=>
  simp only[eO] at h;split at h
  case h_3=>cases h
  all_goals
   rename_i e1;simp at h;obtain⟨rfl,rfl,rfl⟩:=h;refine .still fun t h1 h2=>?_;simp only[eO,bN (c:=c) h1,e1]
 case AO=>
  simp only[eO] at h;simp at h;obtain⟨rfl,rfl,rfl⟩:=h;exact⟨_,rfl,.inr ⟨_,rfl,rfl⟩,fun t _ _ h3=>by simp only[eO]; rw[h3 _ rfl]⟩
 case xz K ok z x k=>
  simp only[eO] at h;split at h
  case h_2=>cases h
  rename_i b e1;split at h
  case h_2=>cases h
  rename_i es e2;split at h
  case isFalse=>cases h
  rename_i hp;split at h
  case h_2=>cases h
  rename_i r e3;split at h
  case isFalse=>cases h
  rename_i hz;simp only[af,aA] at h;obtain⟨rfl,rfl,rfl⟩:=h;refine .still fun t h1 h2=>?_;simp only[Kd.reads,aC] at h1;have e:=((h2.1 _ rfl) _ (cD.2 rfl)).2 b 1 rfl;have ek:aR c t.env k=aR c s.env k:=bN (c:=c) fun i hi=>h1 i (.inr hi);simp only[eO,bN (c:=c) fun i hi=>h1 i (.inl hi),ek,e1,e,e2,hp,and_self,if_true,e3,hz]
 case yu K x k y=>
  exfalso;simp only[eO] at h
  repeat' split at h
  all_goals first
   |(cases h; done)
   |(simp only[af,aA] at h; obtain⟨_,_,rfl⟩:=h; simp[calm] at hf)
 all_goals
  simp only[eO] at h ⊢;exact pure h
end
end Go.Bm

/- A state without shadowed entries: who mentions a place, by what can be read. -/
namespace Go.Bm
open Go.Am
section
def Ip:List Nat->Env->Env
 |_,[]=>[]
 |sn,(i,v)::r=>if mem i sn then Ip sn r else (i,v)::Ip (i::sn) r
theorem IV:∀(sn:List Nat) (e:Env) (i:Nat),get (Ip sn e) i=if mem i sn=true then .any else get e i
 |sn,[],i=>by simp[Ip,Am.get]
 |sn,(j,v)::r,i=>by
   unfold Ip;by_cases hj:mem j sn=true
   ·rw[if_pos hj,IV sn r i];by_cases hi:mem i sn=true
    ·simp[hi]
    ·simp only[hi,bk,if_false,Am.get];have:j≠i:=fun e=>hi (e▸hj);have h2:i≠j:=fun e=>this e.symm;simp[hi,h2]
   ·rw[if_neg hj];simp only[Am.get];rw[IV (j::sn) r i];by_cases FY:j=i
    ·subst FY;simp[hj]
    ·have h2:i≠j:=fun e=>FY e.symm
     have:mem i (j::sn)=mem i sn:=by
      conv=>lhs; unfold mem
      rw[if_neg h2]
     simp only[this,h2,if_false]
theorem Mq {f:Rt->Bool}:∀{e:Env} {i:Nat},wc f (aI (get e i))=true->Fi f e=true
 |[],i,h=>by simp[Am.get,aI,wc] at h
 |(j,v)::r,i,h=>by
   simp only[Am.get] at h;simp only[Fi,dG];split at h
   ·exact .inl h
   ·exact .inr (Mq h)
theorem Fh {f:Rt->Bool}:∀{sn:List Nat} {e:Env},Fi f (Ip sn e)=true->∃i,mem i sn=false/\wc f (aI (Am.get e i))=true
 |sn,[],h=>by simp[Ip,Fi] at h
 |sn,(j,v)::r,h=>by
   unfold Ip at h;by_cases hj:mem j sn=true
   ·rw[if_pos hj] at h;obtain⟨i,h1,h2⟩:=Fh h;have tn:i≠j:=fun e=>by rw[e,hj] at h1; cases h1
    exact⟨i,h1,by simp only[Am.get]; rw[if_neg tn]; exact h2⟩
   ·rw[if_neg hj] at h;simp only[Fi,dG] at h;rcases h with h|h
    ·exact⟨j,by simpa using hj,by simp only[Am.get,if_true]; exact h⟩
    ·obtain⟨i,h1,h2⟩:=Fh h
     have tn:i≠j:=fun e=>by
      rw[e] at h1;unfold mem at h1;simp at h1
     refine⟨i,?_,by simp only[Am.get]; rw[if_neg tn]; exact h2⟩;unfold mem at h1;rw[if_neg tn] at h1;exact h1
def NA (s:St):St:=⟨Ip [] s.env,s.H⟩
theorem qq (s:St):dy s (NA s):=⟨fun i=>by simp only[NA]; rw[IV]; simp[mem],rfl⟩
end
end Go.Bm

/- A step is an operation's value, put to its slot; what a calm operation and one that writes a few places are worth. -/
namespace Go.Bm
open Go.Am
section
variable {P:Program} {c:dM} {call:Nat->List AV->Heap->Option (AV × Heap)}
def B5 (c:dM) (call:Nat->List AV->Heap->Option (AV × Heap)) (s:St) (q:O):Option (AV × St × Fq):=
 match q.guard with
 |none=>eO c call s q.kd
 |some (g,want)=>match get s.env g with
   |.bool b=>if b=want then eO c call s q.kd else some (.undef,s,.no)
   |.undef=>some (.undef,s,.no)
   |_=>none
theorem vc (s:St) (q:O):rA c call s q=match B5 c call s q with
  |some (v,s',fl)=>z8 s.env q.dst v s' fl
  |none=>none:=by
 unfold rA B5;cases hg:q.guard with
 |none=>rfl
 |some p=>
   obtain⟨g,want⟩:=p;simp only;generalize get s.env g=u;cases u<;>try rfl
   rename_i b;simp only;by_cases hb:b=want
   ·simp only[hb,if_true]; rfl
   ·simp only[hb,if_false]
def iY (s:St) (d:Option Nat) (v:AV):St:=match d with
 |none=>s
 |some d=>⟨put s.env d v,s.H⟩
theorem gF (s:St) (d:Option Nat) (v:AV):(iY s d v).H=s.H:=by cases d<;>rfl
theorem dS (s:St) (d:Option Nat) (v:AV) (i:Nat):get (iY s d v).env i=if d=some i then v else get s.env i:=by
 cases d with
 |none=>simp[iY]
 |some d=>
   simp only[iY,bz];by_cases h:i=d
   ·subst h; simp
   ·have:d≠i:=fun e=>h e.symm;simp[h,this]
theorem Th {s t:St} (h:dy s t) (d:Option Nat) (v:AV):dy (iY s d v) (iY t d v):=
 ⟨fun i=>by rw[dS,dS,h.1 i],by rw[gF,gF]; exact h.2⟩
def Ev (c:dM) (call:Nat->List AV->Heap->Option (AV × Heap)) (s:St) (q:O) (v:AV) (s1:St) (f:Fq):Prop:=
 xN q.kd=true/\∃ s0 t1,dy s s0/\B5 c call s0 q=some (v,t1,f)/\dy t1 s1
theorem Ev.same {s t s1 t1:St} {q:O} {v:AV} {f:Fq} (h:Ev c call s q v s1 f) (e:dy s t) (e1:dy s1 t1):Ev c call t q v t1 f:=by
 obtain⟨hk,s0,u1,a,b,d⟩:=h;exact⟨hk,s0,u1,e.symm.trans a,b,d.trans e1⟩
structure OO (c:dM) (call:Nat->List AV->Heap->Option (AV × Heap)) (s:St) (q:O) (v:AV) (s1:St) (f:Fq) (X:Heap):Prop where
 st:dy s1 ⟨s.env,s.H++X⟩
 nw:(X=[]/\∀ n,f≠.al n)\/∃ z,X=[z]/\f=.al s.H.length
 go:∀t:St,(∀i∈q.reads,eP i (get t.env i)=eP i (get s.env i))->xT f s t->(∀n,f=.al n->t.H.length=n)->Ev c call t q v ⟨t.env,t.H++X⟩ f
 val:∀V:Rt->Prop,(∀i∈q.reads,(∀p∈aI (get s.env i),¬V p)/\¬ V (.s i)/\∀ j,¬V (.sc i j)) ->
  (∀ps,f=.rd ps->∀b,Rt.c b 0∈ps->∀cs,aN s.H b=some cs->(∀p∈cU cs,¬V p)/\(bF cs=true->∀j,¬V (.c b j))) ->
  (∀b j,f=.rc b j->∀cs c,aN s.H b=some cs->cs[j]?=some c->(∀p∈aI c,¬V p)/\(∀k xs,c=.own k xs->¬V (.c b j)))->∀p∈aI v,¬V p
structure LwEv (c:dM) (call:Nat->List AV->Heap->Option (AV × Heap)) (s:St) (q:O) (v:AV) (s1:St) (b:Nat) (cs cs':List AV):Prop where
 bl:aN s.H b=some cs
 st:dy s1 ⟨s.env,s.H.set b (some cs')⟩
 go:∀t:St,(∀i∈q.reads,get t.env i=get s.env i)->aN t.H b=some cs->Ev c call t q v ⟨t.env,t.H.set b (some cs')⟩ (.lw b)
structure WrEv (c:dM) (call:Nat->List AV->Heap->Option (AV × Heap)) (s:St) (q:O) (v:AV) (s1:St) (sl:List Nat) (bs:Option (List Nat)) (V:Rt->Prop):Prop where
 env:∀i,i∉sl->i+kZ∉sl->get s1.env i=get s.env i
 hd:∀i,i∉sl->eP i (get s1.env i)=eP i (get s.env i)
 keep:∀i,bH (get s.env i)=false->aI (get s.env i)=[]->get s1.env i=get s.env i
 heap:∀l,bs=some l->∀b,mZ b l=false->aN s1.H b=aN s.H b
 cell:∀l,bs=some l->∀b j,b∉l->uI b j∉l->q9 b j s s1/\q9 b j s1 s
 v1:∀i,i∉sl->(∀p∈aI (get s.env i),¬V p)/\¬ V (.s i)/\∀ j,¬V (.sc i j)
 v2:∀l,bs=some l->∀b,mZ b l=false->b+kZ∉l->∀cs,aN s.H b=some cs->(∀p∈cU cs,¬V p)/\(bF cs=true->∀j,¬V (.c b j))
 v3:∀l,bs=some l->∀b j,b∉l->b+kZ∉l->uI b j∉l->∀cs c,aN s.H b=some cs->cs[j]?=some c->(∀p∈aI c,¬V p)/\(∀k xs,c=.own k xs->¬V (.c b j))
 go:∀d u,d∉q.reads->d∉sl->d+kZ∉sl->(∀p∈aI u,¬V p)->∃t1 sl',Ev c call ⟨put s.env d u,s.H⟩ q v t1 (.wr sl' bs)/\(∀i∈sl',i∈sl)/\dy t1 ⟨put s1.env d u,s1.H⟩
end
end Go.Bm

/- Two steps whose order is open commute, given what single operations are worth. -/
namespace Go.Bm
open Go.Am
section
variable {P:Program} {c:dM} {call:Nat->List AV->Heap->Option (AV × Heap)}
def qk (c:dM) (call:Nat->List AV->Heap->Option (AV × Heap)):Prop:=∀s q v s1 f,Ev c call s q v s1 f->calm f=true->∃X,OO c call s q v s1 f X
def Al (c:dM) (call:Nat->List AV->Heap->Option (AV × Heap)):Prop:=∀s q v s1 sl bs,Ev c call s q v s1 (.wr sl bs)->∃V,WrEv c call s q v s1 sl bs V
def Ao (c:dM) (call:Nat->List AV->Heap->Option (AV × Heap)):Prop:=∀s q v s1 b,Ev c call s q v s1 (.lw b)->∃cs cs',LwEv c call s q v s1 b cs cs'
theorem adS {s s1:St} {q:O} {v:AV} {f:Fq} (h:B5 c call s q=some (v,s1,f)):∀ps,f≠.bo ps:=by
 have eI:∀{kd:Kd} {v:AV} {s1:St} {f:Fq},eO c call s kd=some (v,s1,f)->∀ps,f≠.bo ps:=by
  intro kd v s1 f h ps e;subst e
  have st:∀{s s':St} {k:Nat} {a v:AV},MA s k a v≠some (s',.bo ps):=by
   intro s s' k a v h;unfold MA xI at h
   repeat' split at h
   all_goals first
    |(cases h; done)
    |(simp at h; done)
  have ic:∀{kd:Kd},pW c s kd≠some (some (v,s1,.bo ps)):=fun h=>by
   obtain⟨sl,bs,e|e⟩:=zS h<;>cases e
  have oc:∀{kd:Kd},dj c call kd s≠some (v,s1,.bo ps):=by
   intro kd h;unfold dj at h;split at h
   ·rename_i r hi; subst h; exact ic hi
   split at h
   ·rename_i r hi; subst h; obtain⟨b,e⟩:=CC hi; cases e
   unfold fL at h;split at h
   ·rename_i r hi; subst h; obtain⟨e,_⟩:=wQ hi; cases e
   ·replace h:=(iG h).resolve_right fun h=>by obtain⟨e,_⟩:=wI h; cases e
    unfold dO at h
    (repeat' split at h)
    all_goals first
     |(cases h; done)
     |(simp[Bh] at h; done)
     |(simp at h; obtain⟨_,_,h5⟩:=h; revert h5; split<;>simp[Bh])
  cases kd<;>simp only[eO] at h
  case call=>exact oc h
  case iR=>exact oc h
  case st k a v=>
   split at h
   ·split at h
    case h_2=>cases h
    rename_i hh;simp only[af,aA] at h;obtain⟨_,_,h5⟩:=h;split at h5
    ·rw[h5] at hh; exact st hh
    ·cases h5
   ·split at h
    case h_2=>cases h
    rename_i hh;simp only[af,aA] at h;obtain⟨_,_,h5⟩:=h;rw[h5] at hh;exact st hh
  all_goals
   (repeat' split at h)
   all_goals first
    |(cases h; done)
    |(simp at h; done)
    |(simp[Bh] at h; done)
    |(simp at h; obtain⟨_,_,h5⟩:=h; rcases vJ _ _ _ with e|⟨b,j,e⟩<;>rw[e] at h5<;>cases h5; done)
    |(simp at h; obtain⟨_,_,h5⟩:=h; rcases vX _ _ with e|⟨_,_,_,_,e⟩<;>rw[e] at h5<;>cases h5; done)
    |(simp at h; obtain⟨_,_,h5⟩:=h; revert h5; split<;>simp)
 unfold B5 at h;split at h
 ·exact eI h
 ·split at h
  ·split at h
   ·exact eI h
   ·simp at h; obtain⟨_,_,rfl⟩:=h; intro ps; simp
  ·simp at h; obtain⟨_,_,rfl⟩:=h; intro ps; simp
  ·cases h
theorem Ev.fl {s s1:St} {q:O} {v:AV} {f:Fq} (h:Ev c call s q v s1 f):∀ps,f≠.bo ps:=let ⟨_,_,_,_,b,_⟩:=h; adS b
theorem iT {e e':Env} {d:Option Nat} {f:Fq} (h:∀i,d=some i->get e i=get e' i):bM e d f=bM e' d f:=by
 unfold bM;cases d with
 |none=>rfl
 |some d=>simp only; rw[h d rfl]
theorem rC {e:Env} {d:Option Nat} {f:Fq} (h:nT (bM e d f)=true):∀i,d=some i->bH (get e i)=false:=by
 rintro i rfl;unfold bM at h;cases hh:bH (get e i) with
 |false=>rfl
 |true=>simp[hh,nT] at h
theorem oa {e:Env} {d:Option Nat} {sl:List Nat} {bs:Option (List Nat)} (h:nT (bM e d (.wr sl bs))=true):bM e d (.wr sl bs)=.wr sl bs/\∀ i,d=some i->bH (get e i)=false/\aI (get e i)=[]:=by
 refine⟨?_,fun i hi=>⟨rC h i hi,?_⟩⟩
 ·unfold bM at h ⊢;cases d with
  |none=>rfl
  |some d=>
    simp only at h ⊢;split at h
    ·simp[nT] at h
    rename_i h1;rw[if_neg h1];split at h
    ·rename_i h2; rw[if_pos h2]
    ·simp[nT] at h
 ·subst hi;unfold bM at h;simp only at h;split at h
  ·simp[nT] at h
  ·split at h
   ·rename_i h2; exact eY.1 h2
   ·simp[nT] at h
theorem vf {e:Env} {d:Option Nat} {b:Nat} (h:nT (bM e d (.lw b))=true):bM e d (.lw b)=.lw b/\∀ i,d=some i->bH (get e i)=false/\aI (get e i)=[]:=by
 refine⟨?_,fun i hi=>⟨rC h i hi,?_⟩⟩
 ·unfold bM at h ⊢;cases d with
  |none=>rfl
  |some d=>
    simp only at h ⊢;split at h
    ·simp[nT] at h
    rename_i h1;rw[if_neg h1];split at h
    ·rename_i h2; rw[if_pos h2]
    ·simp[nT] at h
 ·subst hi;unfold bM at h;simp only at h;split at h
  ·simp[nT] at h
  ·split at h
   ·rename_i h2; exact eY.1 h2
   ·simp[nT] at h
theorem vh {e:Env} {d:Option Nat} {f:Fq} (h:nT (bM e d f)=true):nT f=true:=by
 unfold bM at h;split at h
 ·exact h
 ·split at h
  ·simp[nT] at h
  ·split at h
   ·exact h
   ·split at h
    ·rfl
    ·rfl
    ·rfl
    ·simp[nT] at h
theorem BB {e e':Env} {d:Option Nat} {sl sl':List Nat} {bs bs':Option (List Nat)} (h:∀i,d=some i->bH (get e i)=false/\aI (get e i)=[]):bM e d (.wr sl bs)=.wr sl bs:=by
 unfold bM;cases d with
 |none=>rfl
 |some d=>simp[h d rfl]
theorem TS.out (HC:qk c call) (HW:Al c call) (HL:Ao c call) {s s':St} {q:O} {f:Fq} (h:TS c call s q f s') (hf:nT f=true):∃v s1 f1,Ev c call s q v s1 f1/\nT (bM s.env q.dst f1)=true/\zf (bM s.env q.dst f1) f/\dy s' (iY s1 q.dst v):=by
 obtain⟨hk,s0,t1,f0,e0,FW,hle,e1⟩:=h;rw[vc] at FW;split at FW
 case h_2=>cases FW
 rename_i v u1 f1 he;have Uu:=z7 FW;have TE:bM s0.env q.dst f1=bM s.env q.dst f1:=iT fun i _=>(e0.1 i).symm
 have hcw:nT (bM s.env q.dst f1)=true:=by
  rw[<-TE,<-Uu];cases f0<;>cases f<;>simp[zf,nT] at hle hf ⊢
 have W5:Ev c call s q v u1 f1:=⟨hk,s0,u1,e0,he,dy.rfl'⟩;refine⟨v,u1,f1,W5,hcw,by rw[<-TE,<-Uu]; exact hle,?_⟩;unfold z8 at FW;split at FW
 case h_2=>cases FW
 rename_i u2 hp;simp only[af,aA] at FW;obtain⟨rfl,_⟩:=FW;refine e1.symm.trans ?_;cases hd:q.dst with
 |none=>rw[hd] at hp; simp[xM] at hp; subst hp; exact dy.rfl'
 |some d=>
   rw[hd] at hp
   have gV:bH (get u1.env d)=false:=by
    have h0:=rC hcw d hd;have MI:=vh hcw;by_cases LG:calm f1=true
    ·obtain⟨X,hX⟩:=HC _ _ _ _ _ W5 LG;rw[hX.st.1 d];exact h0
    ·cases f1<;>simp[calm,nT] at LG MI
     case wr sl bs=>
      obtain⟨V,hV⟩:=HW _ _ _ _ _ _ W5;have h2:=(oa hcw).2 d hd;rw[hV.keep d h2.1 h2.2];exact h0
     case lw b=>
      obtain⟨cs,cs',hL⟩:=HL _ _ _ _ _ W5;rw[hL.st.1 d];exact h0
     case bo=>exact absurd rfl (W5.fl _)
   simp only[xM,Ti,JN,gV,Bool.false_and,bk,if_false,af] at hp;subst hp;exact dy.rfl'
theorem TS.mk (HC:qk c call) (HW:Al c call) (HL:Ao c call) {s s1 s':St} {q:O} {v:AV} {f f1:Fq} (W5:Ev c call s q v s1 f1) (hcw:nT (bM s.env q.dst f1)=true) (hle:zf (bM s.env q.dst f1) f) (hs:dy s' (iY s1 q.dst v)):TS c call s q f s':=by
 have hev':=W5;obtain⟨hk,s0,t1,e0,he,e1⟩:=hev';have TE:bM s0.env q.dst f1=bM s.env q.dst f1:=iT fun i _=>(e0.1 i).symm
 have yJ:xM t1 q.dst v=some (iY t1 q.dst v):=by
  cases hd:q.dst with
  |none=>rfl
  |some d=>
    have gV:bH (get t1.env d)=false:=by
     have h0:=rC hcw d hd;have MI:=vh hcw;rw[e1.1 d];by_cases LG:calm f1=true
     ·obtain⟨X,hX⟩:=HC _ _ _ _ _ W5 LG;rw[hX.st.1 d];exact h0
     ·cases f1<;>simp[calm,nT] at LG MI
      case wr sl bs=>
       obtain⟨V,hV⟩:=HW _ _ _ _ _ _ W5;have h2:=(oa hcw).2 d hd;rw[hV.keep d h2.1 h2.2];exact h0
      case lw b=>
       obtain⟨cs,cs',hL⟩:=HL _ _ _ _ _ W5;rw[hL.st.1 d];exact h0
      case bo=>exact absurd rfl (W5.fl _)
    simp only[xM,Ti,JN,gV,Bool.false_and,bk,if_false,iY]
 refine⟨hk,s0,iY t1 q.dst v,bM s.env q.dst f1,e0,?_,hle,(Th e1 _ _).trans hs.symm⟩;rw[vc,he];simp only[z8,yJ,TE]
end
end Go.Bm

/- Two steps whose order is open commute. -/
namespace Go.Bm
open Go.Am
section
variable {P:Program} {c:dM} {call:Nat->List AV->Heap->Option (AV × Heap)}
theorem fE {d:Nat}:∀{ps:List Rt},gz d ps=true->∀p∈ps,(∀i,p=.s i->i≠d)/\∀ i j,p=.sc i j->i≠d
 |[],_,p,hp=>by simp at hp
 |q::r,h,p,hp=>by
   have ih:gz d r=true->p∈r->_:=fun h hp=>fE (d:=d) h p hp;rcases aK.1 hp with e|e
   ·subst e;cases p with
    |s i=>simp only[gz,ae,decide_eq_true_eq] at h; exact⟨(fun k hk=>by cases hk; exact h.1),fun k j hk=>by cases hk⟩
    |sc i j=>simp only[gz,ae,decide_eq_true_eq] at h; exact⟨(fun k hk=>by cases hk),fun k l hk=>(by cases hk; exact h.1)⟩
    |c b j=>exact⟨(fun k hk=>by cases hk),fun k l hk=>by cases hk⟩
   ·have h':gz d r=true:=by
     cases q<;>simp only[gz,ae] at h
     ·exact h.2
     ·exact h.2
     ·exact h
    exact ih h' e
theorem tT {sl:List Nat} {bs:Option (List Nat)}:∀{ps:List Rt},pY sl bs ps=true->∀p∈ps,(∀i,p=.s i->i∉sl/\i+kZ∉sl)/\(∀i j,p=.sc i j->i∉sl/\i+kZ∉sl)/\∀ b j,p=.c b j->∃l,bs=some l/\mZ b l=false/\(j=0->b+kZ∉l)
 |[],_,p,hp=>by simp at hp
 |q::r,h,p,hp=>by
   have nm:∀{i:Nat} {l:List Nat},mem i l=false->i∉l:=fun h hi=>by rw[mem_iff.2 hi] at h; cases h
   rcases aK.1 hp with e|e
   ·subst e;cases p with
    |s i=>simp only[pY,ae,bn] at h; exact⟨fun k hk=>(by cases hk; exact⟨nm h.1.1,nm h.1.2⟩),(fun k j hk=>by cases hk),fun k j hk=>by cases hk⟩
    |sc i j=>simp only[pY,ae,bn] at h; exact⟨(fun k hk=>by cases hk),(fun k l hk=>(by cases hk; exact⟨nm h.1.1,nm h.1.2⟩)),fun k j hk=>by cases hk⟩
    |c b j=>
      simp only[pY,ae] at h;refine⟨(fun k hk=>by cases hk),(fun k l hk=>by cases hk),fun k l hk=>?_⟩;cases hk;cases bs with
      |none=>simp at h
      |some l=>
        simp only[ae,bn,dG,decide_eq_true_eq] at h;exact⟨l,rfl,h.1.1,fun e=>h.1.2.elim (fun q=>absurd e q) nm⟩
   ·have h':pY sl bs r=true:=by
     cases q<;>simp only[pY,ae] at h<;>exact h.2
    exact tT h' p e
theorem DZ {sl:List Nat}:∀{l:List Nat},D0 sl l=true->∀i∈l,i∉sl
 |[],_,i,hi=>by simp at hi
 |j::r,h,i,hi=>by
   simp only[D0,ae,bn] at h;rcases aK.1 hi with e|e
   ·subst e; intro hm; rw[mem_iff.2 hm] at h; cases h.1
   ·exact DZ h.2 i e
theorem mz {n:Nat}:∀{ps:List Rt},gh n ps=true->∀b j,Rt.c b j∈ps->b<n
 |[],_,b,j,h=>by simp at h
 |q::r,h,b,j,hp=>by
   rcases aK.1 hp with e|e
   ·subst e; simp only[gh,ae,decide_eq_true_eq] at h; exact h.1
   ·have h':gh n r=true:=by cases q<;>simp only[gh,ae] at h<;>first|exact h|exact h.2
    exact mz h' b j e
theorem Seen.mk' {ps:List Rt} {s t:St} (h1:∀p∈ps,(∀i,p=.s i->get t.env i=get s.env i)/\(∀i j,p=.sc i j->get t.env i=get s.env i)/\∀ b j,p=.c b j->aN t.H b=aN s.H b):Seen ps s t:=by
 intro p hp;obtain⟨a,b,d⟩:=h1 p hp;refine⟨?_,fun k l e=>d k l e⟩;cases p with
 |s i=>simp only[aq,at_]; rw[a i rfl]
 |sc i j=>simp only[aq,at_]; rw[b i j rfl]
 |c k j=>simp only[aq,at_]; rw[d k j rfl]
theorem wa {x y:O} (h:iW x y=true):(∀i,x.dst=some i->i∉y.reads/\y.dst≠some i)/\∀ i,y.dst=some i->i∉x.reads/\x.dst≠some i:=by
 have nm:∀{i:Nat} {l:List Nat},mem i l=false->i∉l:=fun h hi=>by rw[mem_iff.2 hi] at h; cases h
 unfold iW at h;simp only[ae] at h;obtain⟨h1,h2⟩:=h;refine⟨fun i hi=>?_,fun i hi=>?_⟩
 ·rw[hi] at h1;simp only[ae,bn,decide_eq_true_eq] at h1;exact⟨nm h1.1,h1.2⟩
 ·rw[hi] at h2;simp only[bn] at h2;refine⟨nm h2,fun e=>?_⟩;rw[e] at h1;simp only[ae,bn,decide_eq_true_eq] at h1;exact h1.2 hi
def Az:Fq->List Rt
 |.rd ps=>ps
 |.bo ps=>ps
 |.rc b _=>[.c b 0]
 |_=>[]
theorem nk {e:Env} {d:Option Nat} {f:Fq} (h:nT (bM e d f)=true) (hc:calm f=true):Az (bM e d f)=Az f/\(∀n,f=.al n->bM e d f=.al n)/\(∀n,bM e d f=.al n->f=.al n)/\((∀ps,bM e d f≠.bo ps)->bM e d f=f/\∀ i,d=some i->aI (get e i)=[]):=by
 unfold bM at h ⊢;cases d with
 |none=>exact⟨rfl,fun n h=>h,fun n h=>h,fun _=>⟨rfl,fun i hi=>by cases hi⟩⟩
 |some d=>
   simp only at h ⊢;split at h
   ·simp[nT] at h
   rename_i h1;rw[if_neg h1];split at h
   ·rename_i h2;rw[if_pos h2];exact⟨rfl,fun n h=>h,fun n h=>h,fun _=>⟨rfl,fun i hi=>by cases hi; exact eY.1 h2⟩⟩
   ·rename_i h2;rw[if_neg h2];cases f<;>simp[calm,nT] at hc h ⊢<;>simp[Az]
theorem zf.cw {f g:Fq} (h:zf f g) (hg:nT g=true):(∀sl bs,f≠.wr sl bs)->f=g:=by
 intro hn;cases f<;>cases g<;>simp[zf,nT] at h hg hn ⊢<;>exact h
theorem GO {f g:Fq} (h:f.ok g=true):nT f=true/\nT g=true:=by
 cases f<;>cases g<;>simp[Fq.ok,nT] at h ⊢
theorem V0 {f g:Fq} {n m:Nat} (h:f.ok g=true) (hf:f=.al n):g≠.al m:=by
 subst hf; intro e; subst e; simp[Fq.ok] at h
theorem VO {f g:Fq} {n:Nat} (h:f.ok g=true) (hf:f=.al n):gh n (Az g)=true:=by
 subst hf; cases g<;>simp[Fq.ok,Az,gh] at h ⊢<;>exact h
theorem Q4 {f g:Fq} {n:Nat} (h:f.ok g=true) (hg:g=.al n):gh n (Az f)=true:=by
 subst hg; cases f<;>simp[Fq.ok,Az,gh] at h ⊢<;>exact h
theorem gY {d:Option Nat} {f:Fq} (h:yS d f=true) (hf:nT f=true):∀i,d=some i->gz i (Az f)=true:=by
 rintro i rfl;cases f<;>simp[yS,Az,gz] at h ⊢<;>exact h
theorem Gd {sl:List Nat} {bs:Option (List Nat)} {y:O} {g:Fq} (h:Ge (.wr sl bs) y g=true):(∀i∈y.reads,i∉sl)/\(∀i,y.dst=some i->i∉sl/\i+kZ∉sl)/\(∀ps,g=.rd ps->pY sl bs ps=true)/\∀ b j,g=.rc b j->∃l,bs=some l/\b∉l/\b+kZ∉l/\uI b j∉l:=by
 have nm:∀{i:Nat} {l:List Nat},mem i l=false->i∉l:=fun h hi=>by rw[mem_iff.2 hi] at h; cases h
 simp only[Ge,ae] at h;obtain⟨⟨h1,h2⟩,h3⟩:=h;refine⟨DZ h1,fun i hi=>?_,fun ps hp=>?_,fun b j hp=>?_⟩
 ·rw[hi] at h2; simp only[ae,bn] at h2; exact⟨nm h2.1,nm h2.2⟩
 ·subst hp; exact h3
 ·subst hp;cases bs with
  |none=>simp[Jf] at h3
  |some l=>
    simp only[Jf,ae,bn] at h3;exact⟨l,rfl,nm h3.1,nm h3.2.1,nm h3.2.2⟩
theorem xk {H X:Heap} {b:Nat} (h:b<H.length):aN (H++X) b=aN H b:=by
 unfold aN; rw[List.getElem?_append_left h]
theorem th {b:Nat}:∀{l:List Nat},mZ b l=true ↔ ∃x∈l,x=b\/IE b x=true
 |[]=>by simp[mZ]
 |x::r=>by
   simp only[mZ,dG,decide_eq_true_eq,th (l:=r),aK,exists_eq_or_imp];exact⟨fun h=>h.elim (fun h=>.inl (.inl h)) (fun h=>h.elim (fun h=>.inl (.inr h)) .inr),fun h=>h.elim (fun h=>h.elim .inl (fun h=>.inr (.inl h))) (fun h=>.inr (.inr h))⟩
theorem HE {b:Nat} {l l':List Nat} (h:∀x∈l,x∈l') (hb:mZ b l'=false):mZ b l=false:=by
 cases e:mZ b l with
 |false=>rfl
 |true=>
   obtain⟨x,h1,h2⟩:=th.1 e;rw[th.2 ⟨x,h x h1,h2⟩] at hb;cases hb
theorem nK {b:Nat} {l:List Nat} (h:mZ b l=false):b∉l/\∀ j,uI b j∉l:=by
 refine⟨fun hb=>?_,fun j hb=>?_⟩
 ·rw[th.2 ⟨b,hb,.inl rfl⟩] at h; cases h
 ·rw[th.2 ⟨_,hb,.inr (by
   unfold IE uI Mx;simp only[ae,decide_eq_true_eq];refine⟨by omega,by omega,?_⟩;rw[Nat.add_sub_cancel_left];exact Nat.mul_mod_left _ _)⟩] at h
  cases h
theorem q9.of_eq {b j:Nat} {s t:St} (h:aN t.H b=aN s.H b):q9 b j s t:=fun cs hc=>⟨cs,by rw[h]; exact hc,rfl⟩
theorem T0 (HC:qk c call) (HW:Al c call) (HL:Ao c call) {s s1 s2 u1 u2:St} {x y:O} {f g f1 g1:Fq} {vx vy:AV} (hx:Ev c call s x vx u1 f1) (RF:nT (bM s.env x.dst f1)=true) (Be:zf (bM s.env x.dst f1) f) (RB:dy s1 (iY u1 x.dst vx)) (hy:Ev c call s1 y vy u2 g1) (TK:nT (bM s1.env y.dst g1)=true) (Bd:zf (bM s1.env y.dst g1) g) (RA:dy s2 (iY u2 y.dst vy)) (MH:calm f1=true) (F0:calm g1=true) (Bf:iW x y=true) (cW:ij x f y g=true) :
  ∃ FL,TS c call s y g FL/\TS c call FL x f s2:=by
 obtain⟨ax,ay⟩:=wa Bf;simp only[ij,ae] at cW;obtain⟨⟨cW,W6,BS⟩,_⟩:=cW;obtain⟨cf,cg⟩:=GO cW;obtain⟨X,hX⟩:=HC _ _ _ _ _ hx MH;obtain⟨Y,hY⟩:=HC _ _ _ _ _ hy F0;obtain⟨r1,r2,r3,_⟩:=nk RF MH;obtain⟨q1,q2,q3,_⟩:=nk TK F0
 have nwx:∀sl bs,bM s.env x.dst f1≠.wr sl bs:=fun sl bs e=>by
  have:=vh RF;unfold bM at e;cases f1<;>simp[calm] at MH<;>(repeat' split at e)<;>simp_all
 have nwy:∀sl bs,bM s1.env y.dst g1≠.wr sl bs:=fun sl bs e=>by
  unfold bM at e;cases g1<;>simp[calm] at F0<;>(repeat' split at e)<;>simp_all
 have ef:bM s.env x.dst f1=f:=Be.cw cf nwx;have eg:bM s1.env y.dst g1=g:=Bd.cw cg nwy;have B0:∀i,get s1.env i=if x.dst=some i then vx else get s.env i:=fun i=>by rw[RB.1,dS,hX.st.1]
 have H1:s1.H=s.H++X:=by rw[RB.2,gF,hX.st.2]
 have I5:∀i,x.dst=some i->y.dst≠some i:=fun i h=>(ax i h).2
 -- y from s
 have yr:∀i∈y.reads,get s.env i=get s1.env i:=fun i hi=>by
  rw[B0,if_neg];intro e;exact (ax i e).1 hi
 have zh:∀ps,g1=.rd ps->Seen ps s1 s:=fun ps uV=>by
  have vQ:Az g=ps:=by rw[<-eg,q1,uV]; rfl
  refine Seen.mk' fun p hp=>⟨fun i e=>?_,fun i j e=>?_,fun b j e=>?_⟩
  ·rw[B0,if_neg];intro e2;have:=gY W6 cg i e2;rw[vQ] at this;exact (fE this p hp).1 i e rfl
  ·rw[B0,if_neg];intro e2;have:=gY W6 cg i e2;rw[vQ] at this;exact (fE this p hp).2 i j e rfl
  ·subst e;rw[H1];rcases hX.nw with⟨e,_⟩|⟨z,e,e2⟩
   ·rw[e]; simp
   ·have:=VO cW (by rw[<-ef]; exact r2 _ e2);rw[vQ] at this;exact (xk (mz this b j hp)).symm
 have zh:xT g1 s1 s:=⟨zh,fun b j hg=>by
  refine .of_eq ?_;rw[H1];rcases hX.nw with⟨e,_⟩|⟨z,e,e2⟩
  ·rw[e]; simp
  ·have:=VO cW (by rw[<-ef]; exact r2 _ e2);rw[show Az g=[.c b 0] by rw[<-eg,q1,hg]; rfl] at this;exact (xk (mz this b 0 (by simp))).symm⟩
 have yal:∀n,g1=.al n->s.H.length=n:=fun n hn=>by
  rcases hX.nw with⟨e,_⟩|⟨z,e,e2⟩
  ·rcases hY.nw with⟨e3,e4⟩|⟨z3,e3,e4⟩
   ·exact absurd hn (e4 n)
   ·rw[e4] at hn; cases hn; rw[H1,e]; simp
  ·exfalso;exact V0 cW (by rw[<-ef]; exact r2 _ e2) (by rw[<-eg]; exact q2 n hn)
 have Ey:=hY.go s (fun i hi=>by rw[yr i hi]) zh yal
 have gy:∀i,y.dst=some i->get s1.env i=get s.env i:=fun i hi=>by
  rw[B0,if_neg];intro e;exact I5 i e hi
 have O5:bM s.env y.dst g1=bM s1.env y.dst g1:=iT fun i hi=>(gy i hi).symm;refine⟨iY ⟨s.env,s.H++Y⟩ y.dst vy,TS.mk HC HW HL Ey (by rw[O5]; exact TK) (by rw[O5]; exact Bd) dy.rfl',?_⟩
 -- x from there
 generalize ht:iY ⟨s.env,s.H++Y⟩ y.dst vy=t;have gt:∀i,get t.env i=if y.dst=some i then vy else get s.env i:=fun i=>by rw[<-ht,dS]
 have Ht:t.H=s.H++Y:=by rw[<-ht,gF]
 have Hl:s.H.length<=s1.H.length:=by rw[H1]; simp
 have xr:∀i∈x.reads,get t.env i=get s.env i:=fun i hi=>by
  rw[gt,if_neg];intro e;exact (ay i e).1 hi
 have zi:∀ps,f1=.rd ps->Seen ps s t:=fun ps uV=>by
  have vQ:Az f=ps:=by rw[<-ef,r1,uV]; rfl
  refine Seen.mk' fun p hp=>⟨fun i e=>?_,fun i j e=>?_,fun b j e=>?_⟩
  ·rw[gt,if_neg];intro e2;have:=gY BS cf i e2;rw[vQ] at this;exact (fE this p hp).1 i e rfl
  ·rw[gt,if_neg];intro e2;have:=gY BS cf i e2;rw[vQ] at this;exact (fE this p hp).2 i j e rfl
  ·subst e;rw[Ht];rcases hY.nw with⟨e,_⟩|⟨z,e,e2⟩
   ·rw[e]; simp
   ·have h6:=Q4 cW (by rw[<-eg]; exact q2 _ e2);rw[vQ] at h6;have h7:=mz h6 b j hp;rcases hX.nw with⟨e3,_⟩|⟨z3,e3,e4⟩
    ·rw[H1,e3] at h7;exact xk (by simpa using h7)
    ·rw[uV] at e4; cases e4
 have zi:xT f1 s t:=⟨zi,fun b j hg=>by
  refine .of_eq ?_;rw[Ht];rcases hY.nw with⟨e,_⟩|⟨z,e,e2⟩
  ·rw[e]; simp
  ·have h6:=Q4 cW (by rw[<-eg]; exact q2 _ e2);rw[show Az f=[.c b 0] by rw[<-ef,r1,hg]; rfl] at h6;have h7:=mz h6 b 0 (by simp);rcases hX.nw with⟨e3,_⟩|⟨z3,e3,e4⟩
   ·rw[H1,e3] at h7;exact xk (by simpa using h7)
   ·rw[hg] at e4; cases e4⟩
 have xal:∀n,f1=.al n->t.H.length=n:=fun n hn=>by
  rcases hX.nw with⟨_,e⟩|⟨z,e,e2⟩
  ·exact absurd hn (e n)
  ·rcases hY.nw with⟨e3,_⟩|⟨z3,e3,e4⟩
   ·rw[Ht,e3]; rw[hn] at e2; cases e2; simp
   ·exfalso;exact V0 cW (by rw[<-ef]; exact r2 _ hn) (by rw[<-eg]; exact q2 _ e4)
 have FU:=hX.go t (fun i hi=>by rw[xr i hi]) zi xal
 have gx:∀i,x.dst=some i->get t.env i=get s.env i:=fun i hi=>by
  rw[gt,if_neg];exact I5 i hi
 have O6:bM t.env x.dst f1=bM s.env x.dst f1:=iT gx;refine TS.mk HC HW HL FU (by rw[O6]; exact RF) (by rw[O6]; exact Be) ⟨fun i=>?_,?_⟩
 ·rw[RA.1,dS,hY.st.1,dS];show (if y.dst=some i then vy else get s1.env i)=(if x.dst=some i then vx else get t.env i);rw[B0,gt];by_cases e1:x.dst=some i
  ·have:=I5 i e1;simp[e1,this]
  ·simp[e1]
 ·rw[RA.2,gF,hY.st.2,gF];show s1.H++Y=t.H++X;rw[H1,Ht];rcases hX.nw with⟨e,_⟩|⟨z,e,e2⟩
  ·rw[e]; simp
  ·rcases hY.nw with⟨e3,_⟩|⟨z3,e3,e4⟩
   ·rw[e3]; simp
   ·exact absurd (by rw[<-eg]; exact q2 _ e4) (V0 cW (by rw[<-ef]; exact r2 _ e2))
theorem zf.sub {sl sl':List Nat} {bs bs':Option (List Nat)} (h:zf (.wr sl bs) (.wr sl' bs')):∀i∈sl,i∈sl':=h.1
theorem zf.Gc {f:Fq} {sl:List Nat} {bs:Option (List Nat)} (h:zf (.wr sl bs) f) (hc:nT f=true):∃sl' bs',f=.wr sl' bs':=by
 cases f<;>simp[zf,nT] at h hc ⊢
theorem afl {f:Fq} {sl:List Nat} {bs:Option (List Nat)} (h:f.ok (.wr sl bs)=true):(∀ps,f≠.bo ps)/\(∀n,f≠.al n):=by
 cases f<;>simp[Fq.ok] at h ⊢
theorem VM {f:Fq} {sl:List Nat} {bs:Option (List Nat)} (h:Fq.ok (.wr sl bs) f=true):(∀ps,f≠.bo ps)/\(∀n,f≠.al n)/\∀ sl bs,f≠.wr sl bs:=by
 cases f<;>simp[Fq.ok] at h ⊢
theorem aan (HC:qk c call) (HW:Al c call) (HL:Ao c call) {s s1 s2 u1 u2:St} {x y:O} {f g f1:Fq} {Te:List Nat} {E8:Option (List Nat)} {vx vy:AV} (hx:Ev c call s x vx u1 f1) (RF:nT (bM s.env x.dst f1)=true) (Be:zf (bM s.env x.dst f1) f) (RB:dy s1 (iY u1 x.dst vx)) (hy:Ev c call s1 y vy u2 (.wr Te E8)) (TK:nT (bM s1.env y.dst (.wr Te E8))=true) (Bd:zf (bM s1.env y.dst (.wr Te E8)) g) (RA:dy s2 (iY u2 y.dst vy)) (MH:calm f1=true) (Bf:iW x y=true) (cW:ij x f y g=true) :
  ∃ FL,TS c call s y g FL/\TS c call FL x f s2:=by
 obtain⟨ax,ay⟩:=wa Bf;simp only[ij,ae] at cW;obtain⟨⟨cW,W6,BS⟩,_,hw⟩:=cW;obtain⟨cf,cg⟩:=GO cW;obtain⟨X,hX⟩:=HC _ _ _ _ _ hx MH;obtain⟨V,hV⟩:=HW _ _ _ _ _ _ hy;obtain⟨r1,r2,r3,r4⟩:=nk RF MH;obtain⟨q1,q2⟩:=oa TK;rw[q1] at Bd;obtain⟨sl,bs,rfl⟩:=Bd.Gc cg;obtain⟨o1,o2⟩:=afl cW
 have nwx:∀sl bs,bM s.env x.dst f1≠.wr sl bs:=fun sl bs e=>by
  unfold bM at e;cases f1<;>simp[calm] at MH<;>(repeat' split at e)<;>simp_all
 have ef:bM s.env x.dst f1=f:=Be.cw cf nwx;obtain⟨e1,Uv⟩:=r4 (fun ps e=>o1 ps (ef▸e));have ef':f1=f:=e1▸ef
 have hX0:X=[]:=by
  rcases hX.nw with⟨e,_⟩|⟨z,e,e2⟩
  ·exact e
  ·exact absurd (ef'▸e2) (o2 _)
 subst hX0;obtain⟨w1,w2,w3,w4⟩:=Gd hw;have sub:∀{i:Nat},i∉sl->i∉Te:=fun h hi=>h (Bd.sub _ hi);have I5:∀i,x.dst=some i->y.dst≠some i:=fun i h=>(ax i h).2;have B0:∀i,get s1.env i=if x.dst=some i then vx else get s.env i:=fun i=>by rw[RB.1,dS,hX.st.1]
 have H1:s1.H=s.H:=by rw[RB.2,gF,hX.st.2]; simp
 -- y from s
 have Cl:∃t1 sl',Ev c call s y vy t1 (.wr sl' E8)/\(∀i∈sl',i∈Te)/\(∀i,get t1.env i=if x.dst=some i then get s.env i else get u2.env i)/\t1.H=u2.H:=by
  cases hd:x.dst with
  |none=>
    refine⟨u2,Te,hy.same ⟨fun i=>?_,H1⟩ dy.rfl',fun i hi=>hi,fun i=>by simp,rfl⟩;rw[B0,hd]; simp
  |some d=>
    obtain⟨t1,sl',h1,h2,h3⟩:=hV.go d (get s.env d) (fun h=>(ax d hd).1 h) (sub (w2 d hd).1) (sub (w2 d hd).2) (fun p hp=>by rw[Uv d hd] at hp; simp at hp);refine⟨t1,sl',h1.same ⟨fun i=>?_,H1⟩ dy.rfl',h2,fun i=>?_,h3.2⟩
    ·show get (put s1.env d (get s.env d)) i=get s.env i;rw[bz];split
     ·rename_i e; rw[e]
     ·rename_i e;rw[B0,hd,if_neg];simp; exact fun h=>e h.symm
    ·rw[h3.1];show get (put u2.env d (get s.env d)) i=_;rw[bz];by_cases e:i=d
     ·subst e; simp
     ·have:d≠i:=fun h=>e h.symm;simp[e,this]
 obtain⟨t1,sl',Ey,hsl',gt1,Ht1⟩:=Cl
 have gy:∀i,y.dst=some i->get s1.env i=get s.env i:=fun i hi=>by
  rw[B0,if_neg];intro e;exact I5 i e hi
 have O5:bM s.env y.dst (.wr sl' E8)=.wr sl' E8:=BB (sl':=sl') (bs':=E8) (e':=s.env) fun i hi=>by rw[<-gy i hi]; exact q2 i hi
 have ley:zf (.wr sl' E8) (.wr sl bs):=⟨fun i hi=>Bd.1 i (hsl' i hi),Bd.2⟩;refine⟨iY t1 y.dst vy,TS.mk HC HW HL Ey (by rw[O5]; rfl) (by rw[O5]; exact ley) dy.rfl',?_⟩;generalize ht:iY t1 y.dst vy=t;have gt:∀i,get t.env i=if y.dst=some i then vy else if x.dst=some i then get s.env i else get u2.env i:=fun i=>by rw[<-ht,dS,gt1]
 have Ht:t.H=u2.H:=by rw[<-ht,gF,Ht1]
 have Mo:∀i,i∉sl->i+kZ∉sl->y.dst≠some i->get t.env i=get s.env i:=fun i hi ZY hd=>by
  rw[gt,if_neg hd];split
  ·rfl
  ·rename_i e;rw[hV.env i (sub hi) (sub ZY),B0,if_neg e]
 have XX:∀i,i∉sl->y.dst≠some i->eP i (get t.env i)=eP i (get s.env i):=fun i hi hd=>by
  rw[gt,if_neg hd];split
  ·rfl
  ·rename_i e;rw[hV.hd i (sub hi),B0,if_neg e]
 have xr:∀i∈x.reads,eP i (get t.env i)=eP i (get s.env i):=fun i hi=>XX i (w1 i hi) fun e=>(ay i e).1 hi
 have zi:∀ps,f1=.rd ps->Seen ps s t:=fun ps uV=>by
  have vQ:f=.rd ps:=by rw[<-ef']; exact uV
  refine Seen.mk' fun p hp=>?_;obtain⟨a1,a2,a3⟩:=tT (w3 ps vQ) p hp
  have ns:∀i,y.dst=some i->(∀k,p=.s k->k≠i)/\∀ k j,p=.sc k j->k≠i:=fun i hi=>by
   have:=gY BS cf i hi;rw[vQ] at this;exact fE this p hp
  refine⟨fun i e=>Mo i (a1 i e).1 (a1 i e).2 fun h=>(ns i h).1 i e rfl,fun i j e=>Mo i (a2 i j e).1 (a2 i j e).2 fun h=>(ns i h).2 i j e rfl,fun b j e=>?_⟩;obtain⟨l,e5,e6,_⟩:=a3 b j e;subst e5;have h8:=Bd.2;cases E8 with
  |none=>simp at h8
  |some l0=>
    rw[Ht,hV.heap l0 rfl b (HE h8 e6),H1]
 have zi:xT f1 s t:=⟨zi,fun b j uV=>by
  have vQ:f=.rc b j:=by rw[<-ef']; exact uV
  obtain⟨l,e5,e6,e7,e8⟩:=w4 b j vQ;subst e5;have h8:=Bd.2;cases E8 with
  |none=>simp at h8
  |some l0=>
    have h9:=(hV.cell l0 rfl b j (fun h=>e6 (h8 b h)) (fun h=>e8 (h8 _ h))).1;intro cs hc;rw[<-H1] at hc;rw[Ht];exact h9 cs hc⟩
 have xal:∀n,f1=.al n->t.H.length=n:=fun n hn=>absurd (ef'▸hn) (o2 n);have FU:=hX.go t xr zi xal;have gx:∀i,x.dst=some i->get t.env i=get s.env i:=fun i hi=>Mo i (w2 i hi).1 (w2 i hi).2 (I5 i hi);have O6:bM t.env x.dst f1=bM s.env x.dst f1:=iT gx;refine TS.mk HC HW HL FU (by rw[O6]; exact RF) (by rw[O6]; exact Be) ⟨fun i=>?_,?_⟩
 ·rw[RA.1,dS,dS];show (if y.dst=some i then vy else get u2.env i)=(if x.dst=some i then vx else get t.env i);rw[gt];by_cases e1:x.dst=some i
  ·have:=I5 i e1;simp only[e1,this,if_true,if_false];rw[hV.env i (sub (w2 i e1).1) (sub (w2 i e1).2),B0,if_pos e1]
  ·simp[e1]
 ·rw[RA.2,gF,gF];show u2.H=t.H++[];rw[Ht]; simp
theorem aal (HC:qk c call) (HW:Al c call) (HL:Ao c call) {s s1 s2 u1 u2:St} {x y:O} {f g g1:Fq} {Te:List Nat} {E8:Option (List Nat)} {vx vy:AV} (hx:Ev c call s x vx u1 (.wr Te E8)) (RF:nT (bM s.env x.dst (.wr Te E8))=true) (Be:zf (bM s.env x.dst (.wr Te E8)) f) (RB:dy s1 (iY u1 x.dst vx)) (hy:Ev c call s1 y vy u2 g1) (TK:nT (bM s1.env y.dst g1)=true) (Bd:zf (bM s1.env y.dst g1) g) (RA:dy s2 (iY u2 y.dst vy)) (F0:calm g1=true) (Bf:iW x y=true) (cW:ij x f y g=true) :
  ∃ FL,TS c call s y g FL/\TS c call FL x f s2:=by
 obtain⟨ax,ay⟩:=wa Bf;simp only[ij,ae] at cW;obtain⟨⟨cW,W6,BS⟩,hw,_⟩:=cW;obtain⟨cf,cg⟩:=GO cW;obtain⟨V,hV⟩:=HW _ _ _ _ _ _ hx;obtain⟨Y,hY⟩:=HC _ _ _ _ _ hy F0;obtain⟨r1,r2⟩:=oa RF;obtain⟨q1,q2,q3,q4⟩:=nk TK F0;rw[r1] at Be;obtain⟨sl,bs,rfl⟩:=Be.Gc cf;obtain⟨o1,o2,_⟩:=VM cW
 have nwy:∀sl bs,bM s1.env y.dst g1≠.wr sl bs:=fun sl bs e=>by
  unfold bM at e;cases g1<;>simp[calm] at F0<;>(repeat' split at e)<;>simp_all
 have eg:bM s1.env y.dst g1=g:=Bd.cw cg nwy;obtain⟨e1,_⟩:=q4 (fun ps e=>o1 ps (eg▸e));have eg':g1=g:=e1▸eg
 have hY0:Y=[]:=by
  rcases hY.nw with⟨e,_⟩|⟨z,e,e2⟩
  ·exact e
  ·exact absurd (eg'▸e2) (o2 _)
 subst hY0;obtain⟨w1,w2,w3,w4⟩:=Gd hw;have sub:∀{i:Nat},i∉sl->i∉Te:=fun h hi=>h (Be.sub _ hi);have I5:∀i,x.dst=some i->y.dst≠some i:=fun i h=>(ax i h).2;have B0:∀i,get s1.env i=if x.dst=some i then vx else get u1.env i:=fun i=>by rw[RB.1,dS]
 have H1:s1.H=u1.H:=by rw[RB.2,gF]
 have Mo:∀i,i∉sl->i+kZ∉sl->x.dst≠some i->get s.env i=get s1.env i:=fun i hi ZY hd=>by rw[B0,if_neg hd,hV.env i (sub hi) (sub ZY)]
 have XX:∀i,i∉sl->x.dst≠some i->eP i (get s.env i)=eP i (get s1.env i):=fun i hi hd=>by rw[B0,if_neg hd,hV.hd i (sub hi)]
 have ab4:∀b j,g1=.rc b j->∃l,E8=some l/\b∉l/\b+kZ∉l/\uI b j∉l:=fun b j uV=>by
  obtain⟨l,e5,e6,e7,e8⟩:=w4 b j (by rw[<-eg']; exact uV);subst e5;have h8:=Be.2;cases E8 with
  |none=>simp at h8
  |some l0=>exact⟨l0,rfl,fun h=>e6 (h8 b h),fun h=>e7 (h8 _ h),fun h=>e8 (h8 _ h)⟩
 have boxes:∀{ps:List Rt},g1=.rd ps->∀b j,Rt.c b j∈ps->∃l,E8=some l/\mZ b l=false/\(j=0->b+kZ∉l):=fun{ps} uV b j hp=>by
  have vQ:g=.rd ps:=by rw[<-eg']; exact uV
  obtain⟨_,_,a3⟩:=tT (w3 ps vQ) _ hp;obtain⟨l,e5,e6,e7⟩:=a3 b j rfl;subst e5;have h8:=Be.2;cases E8 with
  |none=>simp at h8
  |some l0=>exact⟨l0,rfl,HE h8 e6,fun e h=>e7 e (h8 _ h)⟩
 have yr:∀i∈y.reads,eP i (get s.env i)=eP i (get s1.env i):=fun i hi=>XX i (w1 i hi) fun e=>(ax i e).1 hi
 have zh:∀ps,g1=.rd ps->Seen ps s1 s:=fun ps uV=>by
  have vQ:g=.rd ps:=by rw[<-eg']; exact uV
  refine Seen.mk' fun p hp=>?_;obtain⟨a1,a2,_⟩:=tT (w3 ps vQ) p hp
  have ns:∀i,x.dst=some i->(∀k,p=.s k->k≠i)/\∀ k j,p=.sc k j->k≠i:=fun i hi=>by
   have:=gY W6 cg i hi;rw[vQ] at this;exact fE this p hp
  refine⟨fun i e=>Mo i (a1 i e).1 (a1 i e).2 fun h=>(ns i h).1 i e rfl,fun i j e=>Mo i (a2 i j e).1 (a2 i j e).2 fun h=>(ns i h).2 i j e rfl,fun b j e=>?_⟩;subst e;obtain⟨l,e5,e6,_⟩:=boxes uV b j hp;rw[H1,hV.heap l e5 b e6]
 have zh:xT g1 s1 s:=⟨zh,fun b j uV=>by
  obtain⟨l,e5,e6,e7,e8⟩:=ab4 b j uV;intro cs hc;rw[H1] at hc;exact (hV.cell l e5 b j e6 e8).2 cs hc⟩
 have yal:∀n,g1=.al n->s.H.length=n:=fun n hn=>absurd (eg'▸hn) (o2 n);have Ey:=hY.go s yr zh yal;have gy:∀i,y.dst=some i->get s1.env i=get s.env i:=fun i hi=>(Mo i (w2 i hi).1 (w2 i hi).2 (fun e=>I5 i e hi)).symm;have O5:bM s.env y.dst g1=bM s1.env y.dst g1:=iT fun i hi=>(gy i hi).symm;refine⟨iY ⟨s.env,s.H++[]⟩ y.dst vy,TS.mk HC HW HL Ey (by rw[O5]; exact TK) (by rw[O5]; exact Bd) dy.rfl',?_⟩
 have aet:∀p∈aI vy,¬V p:=by
  obtain⟨Y',hYs⟩:=HC _ _ _ _ _ Ey F0;refine hYs.val V (fun i hi=>hV.v1 i (sub (w1 i hi))) (fun ps uV b hp cs hb=>?_) fun b j uV cs c0 hb hc=>?_
  ·obtain⟨l0,e5,e6,e7⟩:=boxes uV b 0 hp;exact hV.v2 l0 e5 b e6 (e7 rfl) cs hb
  ·obtain⟨l0,e5,e6,e7,e8⟩:=ab4 b j uV;exact hV.v3 l0 e5 b j e6 e7 e8 cs c0 hb hc
 have Cl:∃t1 sl',Ev c call (iY ⟨s.env,s.H++[]⟩ y.dst vy) x vx t1 (.wr sl' E8)/\(∀i∈sl',i∈Te)/\dy t1 (iY u1 y.dst vy):=by
  cases hd:y.dst with
  |none=>exact⟨u1,Te,hx.same ⟨fun i=>rfl,by simp[iY]⟩ dy.rfl',fun i hi=>hi,dy.rfl'⟩
  |some d=>
    obtain⟨t1,sl',h1,h2,h3⟩:=hV.go d vy (fun h=>(ay d hd).1 h) (sub (w2 d hd).1) (sub (w2 d hd).2) aet;exact⟨t1,sl',h1.same ⟨fun i=>rfl,by simp[iY]⟩ dy.rfl',h2,h3⟩
 obtain⟨t1,sl',FU,hsl',ht1⟩:=Cl;have gx:∀i,x.dst=some i->get (iY ⟨s.env,s.H++[]⟩ y.dst vy).env i=get s.env i:=fun i hi=>by rw[dS,if_neg (I5 i hi)]
 have O6:bM (iY ⟨s.env,s.H++[]⟩ y.dst vy).env x.dst (.wr sl' E8)=.wr sl' E8:=BB (sl':=sl') (bs':=E8) (e':=s.env) fun i hi=>by rw[gx i hi]; exact r2 i hi
 have lex:zf (.wr sl' E8) (.wr sl bs):=⟨fun i hi=>Be.1 i (hsl' i hi),Be.2⟩;refine TS.mk HC HW HL FU (by rw[O6]; rfl) (by rw[O6]; exact lex) ⟨fun i=>?_,?_⟩
 ·rw[RA.1,dS,hY.st.1,dS,ht1.1,dS];show (if y.dst=some i then vy else get s1.env i)=(if x.dst=some i then vx else if y.dst=some i then vy else get u1.env i);rw[B0];by_cases e1:x.dst=some i
  ·have:=I5 i e1;simp[e1,this]
  ·simp[e1]
 ·rw[RA.2,gF,hY.st.2,gF,ht1.2,gF];show s1.H++[]=u1.H;rw[H1]; simp
theorem zf.KQ {f:Fq} {b:Nat} (h:zf (.lw b) f) (hc:nT f=true):f=.lw b:=by
 cases f<;>simp[zf,nT] at h hc ⊢
 exact h.symm
theorem abT {f:Fq} {b:Nat} (h:f.ok (.lw b)=true):(∀ps,f≠.bo ps)/\(∀n,f=.al n->b<n)/\(∀ps,f=.rd ps->qK b ps=true)/\(∀d j,f=.rc d j->d≠b)/\(∀sl bs,f≠.wr sl bs)/\∀ d,f≠.lw d:=by
 cases f<;>simp[Fq.ok] at h ⊢<;>exact h
theorem VU {f:Fq} {b:Nat} (h:Fq.ok (.lw b) f=true):(∀ps,f≠.bo ps)/\(∀n,f=.al n->b<n)/\(∀ps,f=.rd ps->qK b ps=true)/\(∀d j,f=.rc d j->d≠b)/\(∀sl bs,f≠.wr sl bs)/\∀ d,f≠.lw d:=by
 cases f<;>simp[Fq.ok] at h ⊢<;>exact h
theorem yq {b:Nat}:∀{ps:List Rt},qK b ps=true->∀d j,Rt.c d j∈ps->d≠b
 |[],_,d,j,h=>by simp at h
 |q::r,h,d,j,hp=>by
   rcases aK.1 hp with e|e
   ·subst e; simp only[qK,ae,decide_eq_true_eq] at h; exact h.1
   ·have h':qK b r=true:=by cases q<;>simp only[qK,ae] at h<;>first|exact h|exact h.2
    exact yq h' d j e
theorem aao (HC:qk c call) (HW:Al c call) (HL:Ao c call) {s s1 s2 u1 u2:St} {x y:O} {f g f1:Fq} {b:Nat} {vx vy:AV} (hx:Ev c call s x vx u1 f1) (RF:nT (bM s.env x.dst f1)=true) (Be:zf (bM s.env x.dst f1) f) (RB:dy s1 (iY u1 x.dst vx)) (hy:Ev c call s1 y vy u2 (.lw b)) (TK:nT (bM s1.env y.dst (.lw b))=true) (Bd:zf (bM s1.env y.dst (.lw b)) g) (RA:dy s2 (iY u2 y.dst vy)) (MH:calm f1=true) (Bf:iW x y=true) (cW:ij x f y g=true) :
  ∃ FL,TS c call s y g FL/\TS c call FL x f s2:=by
 obtain⟨ax,ay⟩:=wa Bf;simp only[ij,ae] at cW;obtain⟨⟨cW,W6,BS⟩,_⟩:=cW;obtain⟨cf,cg⟩:=GO cW;obtain⟨X,hX⟩:=HC _ _ _ _ _ hx MH;obtain⟨cs,cs',hY⟩:=HL _ _ _ _ _ hy;obtain⟨r1,r2,r3,r4⟩:=nk RF MH;obtain⟨q1,q2⟩:=vf TK;have hly':=Bd;rw[q1] at hly';have hg:=hly'.KQ cg;subst hg;obtain⟨o1,o2,o3,o4,_,_⟩:=abT cW
 have nwx:∀sl bs,bM s.env x.dst f1≠.wr sl bs:=fun sl bs e=>by
  unfold bM at e;cases f1<;>simp[calm] at MH<;>(repeat' split at e)<;>simp_all
 have ef:bM s.env x.dst f1=f:=Be.cw cf nwx;obtain⟨e1,_⟩:=r4 (fun ps e=>o1 ps (ef▸e));have ef':f1=f:=e1▸ef;subst ef';have B0:∀i,get s1.env i=if x.dst=some i then vx else get s.env i:=fun i=>by rw[RB.1,dS,hX.st.1]
 have H1:s1.H=s.H++X:=by rw[RB.2,gF,hX.st.2]
 have I5:∀i,x.dst=some i->y.dst≠some i:=fun i h=>(ax i h).2
 have blt:b<s.H.length:=by
  have h1:=dp hY.bl;rcases hX.nw with⟨e,_⟩|⟨z,e,e2⟩
  ·rw[H1,e] at h1; simpa using h1
  ·exact o2 _ e2
 have IL:aN s.H b=some cs:=by
  have h1:=hY.bl;rw[H1,xk blt] at h1;exact h1
 have yr:∀i∈y.reads,get s.env i=get s1.env i:=fun i hi=>by
  rw[B0,if_neg];intro e;exact (ax i e).1 hi
 have Ey:=hY.go s yr IL
 have gy:∀i,y.dst=some i->get s1.env i=get s.env i:=fun i hi=>by
  rw[B0,if_neg];intro e;exact I5 i e hi
 have O5:bM s.env y.dst (.lw b)=bM s1.env y.dst (.lw b):=iT fun i hi=>(gy i hi).symm;refine⟨iY ⟨s.env,s.H.set b (some cs')⟩ y.dst vy,TS.mk HC HW HL Ey (by rw[O5]; exact TK) (by rw[O5]; exact Bd) dy.rfl',?_⟩;generalize ht:iY ⟨s.env,s.H.set b (some cs')⟩ y.dst vy=t;have gt:∀i,get t.env i=if y.dst=some i then vy else get s.env i:=fun i=>by rw[<-ht,dS]
 have Ht:t.H=s.H.set b (some cs'):=by rw[<-ht,gF]
 have xr:∀i∈x.reads,get t.env i=get s.env i:=fun i hi=>by
  rw[gt,if_neg];intro e;exact (ay i e).1 hi
 have Uv:∀d,d≠b->aN t.H d=aN s.H d:=fun d hd=>by rw[Ht,df,if_neg (fun h=>hd h.1)]
 have zi:xT f1 s t:=by
  refine⟨fun ps uV=>Seen.mk' fun p hp=>⟨fun i e=>?_,fun i j e=>?_,fun d j e=>?_⟩,fun d j hf=>.of_eq (Uv d (o4 d j hf))⟩
  ·rw[gt,if_neg];intro e2;have:=gY BS cf i e2;rw[uV] at this;exact (fE (show gz i ps=true from this) p hp).1 i e rfl
  ·rw[gt,if_neg];intro e2;have:=gY BS cf i e2;rw[uV] at this;exact (fE (show gz i ps=true from this) p hp).2 i j e rfl
  ·subst e;exact Uv d (yq (o3 ps uV) d j hp)
 have xal:∀n,f1=.al n->t.H.length=n:=fun n hn=>by
  rcases hX.nw with⟨_,e⟩|⟨z,e,e2⟩
  ·exact absurd hn (e n)
  ·rw[hn] at e2; cases e2; rw[Ht]; simp
 have FU:=hX.go t (fun i hi=>by rw[xr i hi]) zi xal
 have gx:∀i,x.dst=some i->get t.env i=get s.env i:=fun i hi=>by
  rw[gt,if_neg];exact I5 i hi
 have O6:bM t.env x.dst f1=bM s.env x.dst f1:=iT gx;refine TS.mk HC HW HL FU (by rw[O6]; exact RF) (by rw[O6]; exact Be) ⟨fun i=>?_,?_⟩
 ·rw[RA.1,dS,hY.st.1,dS];show (if y.dst=some i then vy else get s1.env i)=if x.dst=some i then vx else get t.env i;rw[B0,gt];by_cases h1:x.dst=some i
  ·simp[h1,I5 i h1]
  ·simp[h1]
 ·rw[RA.2,gF,hY.st.2,gF];show s1.H.set b (some cs')=t.H++X;rw[H1,Ht,OR _ _ blt]
theorem aam (HC:qk c call) (HW:Al c call) (HL:Ao c call) {s s1 s2 u1 u2:St} {x y:O} {f g g1:Fq} {b:Nat} {vx vy:AV} (hx:Ev c call s x vx u1 (.lw b)) (RF:nT (bM s.env x.dst (.lw b))=true) (Be:zf (bM s.env x.dst (.lw b)) f) (RB:dy s1 (iY u1 x.dst vx)) (hy:Ev c call s1 y vy u2 g1) (TK:nT (bM s1.env y.dst g1)=true) (Bd:zf (bM s1.env y.dst g1) g) (RA:dy s2 (iY u2 y.dst vy)) (F0:calm g1=true) (Bf:iW x y=true) (cW:ij x f y g=true) :
  ∃ FL,TS c call s y g FL/\TS c call FL x f s2:=by
 obtain⟨ax,ay⟩:=wa Bf;simp only[ij,ae] at cW;obtain⟨⟨cW,W6,BS⟩,_⟩:=cW;obtain⟨cf,cg⟩:=GO cW;obtain⟨cs,cs',hX⟩:=HL _ _ _ _ _ hx;obtain⟨Y,hY⟩:=HC _ _ _ _ _ hy F0;obtain⟨q1,q2⟩:=vf RF;have hlx':=Be;rw[q1] at hlx';have hf:=hlx'.KQ cf;subst hf;obtain⟨o1,o2,o3,o4,_,_⟩:=VU cW;obtain⟨r1,r2,r3,r4⟩:=nk TK F0
 have nwy:∀sl bs,bM s1.env y.dst g1≠.wr sl bs:=fun sl bs e=>by
  unfold bM at e;cases g1<;>simp[calm] at F0<;>(repeat' split at e)<;>simp_all
 have eg:bM s1.env y.dst g1=g:=Bd.cw cg nwy;obtain⟨e1,_⟩:=r4 (fun ps e=>o1 ps (eg▸e));have eg':g1=g:=e1▸eg;subst eg';have B0:∀i,get s1.env i=if x.dst=some i then vx else get s.env i:=fun i=>by rw[RB.1,dS,hX.st.1]
 have H1:s1.H=s.H.set b (some cs'):=by rw[RB.2,gF,hX.st.2]
 have I5:∀i,x.dst=some i->y.dst≠some i:=fun i h=>(ax i h).2;have blt:b<s.H.length:=dp hX.bl;have Uv:∀d,d≠b->aN s.H d=aN s1.H d:=fun d hd=>by rw[H1,df,if_neg (fun h=>hd h.1)]
 have yr:∀i∈y.reads,get s.env i=get s1.env i:=fun i hi=>by
  rw[B0,if_neg];intro e;exact (ax i e).1 hi
 have zh:xT g1 s1 s:=by
  refine⟨fun ps uV=>Seen.mk' fun p hp=>⟨fun i e=>?_,fun i j e=>?_,fun d j e=>?_⟩,fun d j hf=>.of_eq (Uv d (o4 d j hf))⟩
  ·rw[B0,if_neg];intro e2;have:=gY W6 cg i e2;rw[uV] at this;exact (fE (show gz i ps=true from this) p hp).1 i e rfl
  ·rw[B0,if_neg];intro e2;have:=gY W6 cg i e2;rw[uV] at this;exact (fE (show gz i ps=true from this) p hp).2 i j e rfl
  ·subst e;exact Uv d (yq (o3 ps uV) d j hp)
 have yal:∀n,g1=.al n->s.H.length=n:=fun n hn=>by
  rcases hY.nw with⟨_,e⟩|⟨z,e,e2⟩
  ·exact absurd hn (e n)
  ·rw[hn] at e2; cases e2; rw[H1]; simp
 have Ey:=hY.go s (fun i hi=>by rw[yr i hi]) zh yal
 have gy:∀i,y.dst=some i->get s1.env i=get s.env i:=fun i hi=>by
  rw[B0,if_neg];intro e;exact I5 i e hi
 have O5:bM s.env y.dst g1=bM s1.env y.dst g1:=iT fun i hi=>(gy i hi).symm;refine⟨iY ⟨s.env,s.H++Y⟩ y.dst vy,TS.mk HC HW HL Ey (by rw[O5]; exact TK) (by rw[O5]; exact Bd) dy.rfl',?_⟩;generalize ht:iY ⟨s.env,s.H++Y⟩ y.dst vy=t;have gt:∀i,get t.env i=if y.dst=some i then vy else get s.env i:=fun i=>by rw[<-ht,dS]
 have Ht:t.H=s.H++Y:=by rw[<-ht,gF]
 have xr:∀i∈x.reads,get t.env i=get s.env i:=fun i hi=>by
  rw[gt,if_neg];intro e;exact (ay i e).1 hi
 have FU:=hX.go t xr (by rw[Ht,xk blt]; exact hX.bl)
 have gx:∀i,x.dst=some i->get t.env i=get s.env i:=fun i hi=>by
  rw[gt,if_neg];exact I5 i hi
 have O6:bM t.env x.dst (.lw b)=bM s.env x.dst (.lw b):=iT gx;refine TS.mk HC HW HL FU (by rw[O6]; exact RF) (by rw[O6]; exact Be) ⟨fun i=>?_,?_⟩
 ·rw[RA.1,dS,hY.st.1,dS];show (if y.dst=some i then vy else get s1.env i)=if x.dst=some i then vx else get t.env i;rw[B0,gt];by_cases h1:x.dst=some i
  ·simp[h1,I5 i h1]
  ·simp[h1]
 ·rw[RA.2,gF,hY.st.2,gF];show s1.H++Y=t.H.set b (some cs');rw[H1,Ht,OR _ _ blt]
theorem adU (HC:qk c call) (HW:Al c call) (HL:Ao c call):Mv (TS c call):=by
 intro s x f s1 y g s2 hx hy Bf cW;have FX:=cW;simp only[ij,ae] at FX;obtain⟨cf,cg⟩:=GO FX.1.1;obtain⟨vx,u1,f1,x1,x2,x3,x4⟩:=hx.out HC HW HL cf;obtain⟨vy,u2,g1,y1,y2,y3,y4⟩:=hy.out HC HW HL cg;have c1:=vh x2;have c2:=vh y2;by_cases MH:calm f1=true
 ·by_cases F0:calm g1=true
  ·exact T0 HC HW HL x1 x2 x3 x4 y1 y2 y3 y4 MH F0 Bf cW
  ·cases g1<;>simp[calm,nT] at F0 c2
   case wr sl bs=>exact aan HC HW HL x1 x2 x3 x4 y1 y2 y3 y4 MH Bf cW
   case bo=>exact absurd rfl (y1.fl _)
   case lw b=>exact aao HC HW HL x1 x2 x3 x4 y1 y2 y3 y4 MH Bf cW
 ·cases f1<;>simp[calm,nT] at MH c1
  case wr sl bs=>
   by_cases F0:calm g1=true
   ·exact aal HC HW HL x1 x2 x3 x4 y1 y2 y3 y4 F0 Bf cW
   ·cases g1<;>simp[calm,nT] at F0 c2
    case wr sl' bs'=>
     exfalso;rw[(oa x2).1] at x3;rw[(oa y2).1] at y3;obtain⟨_,_,rfl⟩:=x3.Gc cf;obtain⟨_,_,rfl⟩:=y3.Gc cg;exact (VM FX.1.1).2.2 _ _ rfl
    case bo=>exact absurd rfl (y1.fl _)
    case lw b=>
     exfalso;rw[(oa x2).1] at x3;rw[(vf y2).1] at y3;obtain⟨_,_,rfl⟩:=x3.Gc cf;have:=y3.KQ cg;subst this;exact (abT FX.1.1).2.2.2.2.1 _ _ rfl
  case bo=>exact absurd rfl (x1.fl _)
  case lw b=>
   by_cases F0:calm g1=true
   ·exact aam HC HW HL x1 x2 x3 x4 y1 y2 y3 y4 F0 Bf cW
   ·exfalso;rw[(vf x2).1] at x3;have hf:=x3.KQ cf;subst hf;obtain⟨_,_,_,_,o5,o6⟩:=VU FX.1.1;cases g1<;>simp[calm,nT] at F0 c2
    case wr sl' bs'=>
     rw[(oa y2).1] at y3;obtain⟨_,_,rfl⟩:=y3.Gc cg;exact o5 _ _ rfl
    case bo=>exact absurd rfl (y1.fl _)
    case lw d=>
     rw[(vf y2).1] at y3;exact o6 _ (y3.KQ cg)
end
end Go.Bm

/- What the value of a calm operation mentions was read. -/
namespace Go.Bm
open Go.Am
section
variable {P:Program} {c:dM} {call:Nat->List AV->Heap->Option (AV × Heap)} {V:Rt->Prop}
def Jj (V:Rt->Prop) (x:AV):Prop:=∀p∈aI x,¬V p
theorem jH {p:Rt}:∀{cs:List AV},p∈cU cs ↔ ∃x∈cs,p∈aI x
 |[]=>by simp[cU]
 |x::r=>by simp[cU,jH (cs:=r)]
theorem AZ {f:Nat->Rt} {p:Rt}:∀{cs:List AV} {j:Nat},p∈cU (er f j cs)->p∈cU cs\/∃ i,p=f i
 |[],j,h=>by simp[er,cU] at h
 |x::r,j,h=>by
   have ih:=fun h=>AZ (f:=f) (p:=p) (cs:=r) (j:=j+1) h;cases x<;>simp only[er,cU,aI,aC,List.nil_append,aK,List.not_mem_nil,or_false] at h ih ⊢
   case own k xs=>
    rcases h with h|h
    ·exact .inr ⟨j,h⟩
    ·exact ih h
   all_goals first
    |exact ih h
    | (rcases h with h | h
       ·exact .inl (.inl h)
       ·rcases ih h with h|h
        ·exact .inl (.inr h)
        ·exact .inr h)
theorem Wo {i:Nat} {x:AV} {p:Rt} (h:p∈aI (eP i x)):p∈aI x\/p=.s i\/∃ j,p=.sc i j:=by
 cases x<;>simp only[eP] at h
 case own k xs=>simp[aI] at h; exact .inr (.inl h)
 case agg cs=>
  simp only[aI] at h ⊢;rcases AZ h with h|h
  ·exact .inl h
  ·exact .inr (.inr h)
 all_goals exact .inl h
def Cq (V:Rt->Prop) (env:Env) (l:List Nat):Prop:=∀i∈l,(∀p∈aI (get env i),¬V p)/\¬ V (.s i)/\∀ j,¬V (.sc i j)
theorem Cq.left {env:Env} {l m:List Nat} (h:Cq V env (l++m)):Cq V env l:=fun i hi=>h i (by simp[hi])
theorem Cq.right {env:Env} {l m:List Nat} (h:Cq V env (l++m)):Cq V env m:=fun i hi=>h i (by simp[hi])
theorem jO {env:Env} {x:E} (hk:kE x=true) (h:Cq V env x.slot):Jj V (aR c env x):=by
 intro p hp;cases x with
 |t i=>
   simp only[aR] at hp;obtain⟨h1,h2,h3⟩:=h i (by simp[E.slot]);rcases Wo hp with e|e|⟨j,e⟩
   ·exact h1 p e
   ·subst e; exact h2
   ·subst e; exact h3 j
 |k x=>simp only[aR] at hp; simp only[kE,eY] at hk; rw[hk] at hp; simp at hp
 |g i=>simp[aR,aI] at hp
theorem DQ {env:Env}:∀{xs:List E},kEs xs=true->Cq V env (mS xs)->∀p∈cU (dm c env xs),¬V p
 |[],_,_,p,hp=>by simp[dm,cU] at hp
 |x::r,hk,h,p,hp=>by
   simp only[kEs,ae] at hk;simp only[mS] at h;simp only[dm,cU,aC] at hp;rcases hp with hp|hp
   ·exact jO hk.1 h.left p hp
   ·exact DQ hk.2 h.right p hp
theorem Jj.cells {x:AV} (h:Jj V x):∀d∈x.cells,Jj V d:=by
 intro d hd p hp;by_cases ha:∃cs,x=.agg cs
 ·obtain⟨cs,rfl⟩:=ha;exact h p (by simp only[aI]; exact jH.2 ⟨d,hd,hp⟩)
 ·have:x.cells=[x]:=by cases x<;>first|rfl|exact absurd ⟨_,rfl⟩ ha
  rw[this] at hd;simp at hd;subst hd;exact h p hp
theorem L0 {env:Env}:∀{ps:List (Nat × Nat × E)} {zs cs:List AV},kPs ps=true->Cq V env (qz ps)->(∀d∈zs,Jj V d)->qb c env zs ps=some cs->∀d∈cs,Jj V d
 |[],zs,cs,_,_,hz,hf=>by simp[qb] at hf; subst hf; exact hz
 |(o,n,x)::r,zs,cs,hk,h,hz,hf=>by
   simp only[kPs,ae] at hk;simp only[qz] at h;simp only[qb] at hf;split at hf
   case isFalse=>cases hf
   refine L0 hk.2 h.right (fun d hd=>?_) hf;unfold iX at hd;simp only[aC] at hd;rcases hd with (hd|hd)|hd
   ·exact hz d (cP hd)
   ·exact (jO hk.1 h.left).cells d hd
   ·exact hz d (cQ hd)
theorem acq {ag:Option Nat} {cs:List AV} {v:AV} (h:∀d∈cs,Jj V d) (hv:AA ag cs=some v):Jj V v:=by
 unfold AA at hv;split at hv
 ·split at hv
  ·simp at hv; subst hv;intro p hp;simp only[aI] at hp;obtain⟨d,hd,hp⟩:=jH.1 hp;exact h d (cP hd) p hp
  ·cases hv
 ·exact h v (List.mem_of_mem_head? hv)
theorem Nl {ag:Option Nat} {cs:List AV} {v:AV} (h:∀d∈cs,Jj V d) (hv:H7 ag cs=some v):Jj V v:=by
 unfold H7 at hv;split at hv
 ·rename_i u hu;split at hv
  ·cases hv
  ·simp at hv; subst hv; exact acq h hu
 ·cases hv
theorem Jj.nil {v:AV} (h:aI v=[]):Jj V v:=fun p hp=>by rw[h] at hp; simp at hp
theorem XW {op:BinOp} {x y v:AV} (h:qg op x y=some v):aI v=[]:=by
 rcases Sb h with⟨_,_,⟨_,_,rfl⟩|⟨_,rfl⟩⟩|⟨_,_,_,rfl⟩<;>rfl
theorem Yw {op:UnOp} {x v:AV} (h:M1 op x=some v):aI v=[]:=by
 unfold M1 at h;split at h<;>simp at h<;>(subst h; rfl)
theorem KK {mx:Bool}:∀{r:List AV} {k:IntKind} {a:Int} {v:AV},yz mx (.int k a) r=some v->aI v=[]
 |[],k,a,v,h=>by simp[yz] at h; subst h; rfl
 |y::r,k,a,v,h=>by
   cases y<;>simp only[yz] at h<;>try (cases h; done)
   exact KK h
theorem KL {mx:Bool} {l:List AV} {v:AV} (h:xy mx l=some v):aI v=[]:=by
 unfold xy at h;split at h
 ·exact KK h
 ·cases h
theorem acT {env:Env} {kd:Kd} {v:AV} (hv:Nt c env kd=some v) (hk:xN kd=true) (h:Cq V env kd.reads):Jj V v:=by
 cases kd<;>simp only[Nt] at hv<;>simp only[xN,ae] at hk<;>simp only[Kd.reads] at h
 case mv x=>simp at hv; subst hv; exact jO hk h
 case pick t a b=>
  split at hv
  ·simp at hv; subst hv;split
   ·exact jO hk.2.1 h.right.left
   ·exact jO hk.2.2 h.right.right
  ·cases hv
 case build zs ps=>
  split at hv
  ·rename_i cs hf;simp at hv; subst hv
   have hz:∀d∈zs,Jj V d:=fun d hd p hp=>by
    have:=jH.2 ⟨d,hd,hp⟩;rw[eY.1 hk.1] at this;simp at this
   intro p hp;simp only[aI] at hp;obtain⟨d,hd,hp⟩:=jH.1 hp;exact L0 hk.2 h hz hf d hd p hp
  ·cases hv
 case mA x=>
  have ho:=jO (c:=c) hk h;split at hv
  ·simp at hv; subst hv; exact .nil rfl
  ·simp at hv; subst hv; exact .nil rfl
  ·rename_i e;simp at hv; subst hv;rw[e] at ho; exact ho
  ·cases hv
 case bin=>exact .nil (XW hv)
 case eq=>split at hv<;>simp at hv; subst hv; exact .nil rfl
 case un=>exact .nil (Yw hv)
 case Jw=>split at hv<;>simp at hv; subst hv; exact .nil rfl
 case KJ fn a b=>
  split at hv
  ·cases hv
  ·simp at hv; subst hv;intro p hp;simp only[aI,aC] at hp;rcases hp with hp|hp
   ·exact DQ hk.1 h.left p hp
   ·exact DQ hk.2 h.right p hp
 case FC k x lo hi=>
  have ho:=jO (c:=c) hk.1 h.left;split at hv
  case h_2=>cases hv
  split at hv
  case h_2=>cases hv
  split at hv
  case h_2=>cases hv
  split at hv
  ·split at hv<;>simp at hv; subst hv; exact .nil rfl
  ·split at hv<;>simp at hv; subst hv; exact .nil rfl
  ·rename_i e;rw[e] at ho;split at hv<;>simp at hv; subst hv
   intro p hp; exact ho p (by simpa[aI] using hp)
  ·split at hv<;>simp at hv; subst hv; exact .nil rfl
  ·cases hv
 case F9 n x hi=>
  cases hi with
  |some y=>simp at hv
  |none=>
  (repeat' split at hv)<;>simp at hv
  obtain⟨_,rfl⟩:=hv;exact .nil rfl
 case Aa off x=>
  have ho:=jO (c:=c) hk h;split at hv
  ·simp at hv; subst hv; exact .nil rfl
  ·simp at hv; subst hv; exact .nil rfl
  ·rename_i e;rw[e] at ho;simp at hv; subst hv;intro p hp; exact ho p (by simpa[aI] using hp)
  ·cases hv
 case TR off ag x=>
  have ho:=jO (c:=c) hk h;split at hv
  ·rename_i cs e;rw[e] at ho;exact Nl (fun d hd p hp=>ho p (by simp only[aI]; exact jH.2 ⟨d,cQ hd,hp⟩)) hv
  ·cases hv
 case tH k x i=>
  have ho:=jO (c:=c) hk.1 h.left;split at hv
  ·(repeat' split at hv)<;>simp at hv; subst hv; exact .nil rfl
  ·rename_i e;rw[e] at ho
   (repeat' split at hv)<;>simp at hv; subst hv
   intro p hp; exact ho p (by simpa[aI] using hp)
  ·(repeat' split at hv)<;>simp at hv; subst hv; exact .nil rfl
  ·cases hv
 case Ci n k x i=>
  have ho:=jO (c:=c) hk.1 h.left;split at hv
  case h_2=>cases hv
  split at hv
  ·simp at hv; subst hv; exact .nil rfl
  ·simp at hv; subst hv; exact .nil rfl
  ·rename_i e;rw[e] at ho;simp at hv; subst hv;intro p hp; exact ho p (by simpa[aI] using hp)
  ·cases hv
 case ix n k ag x i=>
  have ho:=jO (c:=c) hk.1 h.left;split at hv
  case h_2=>cases hv
  split at hv
  ·rename_i cs e;rw[e] at ho;exact Nl (fun d hd p hp=>ho p (by simp only[aI]; exact jH.2 ⟨d,cQ hd,hp⟩)) hv
  ·cases hv
 case Ty tab i=>(repeat' split at hv)<;>simp at hv; subst hv; exact .nil rfl
 case ext i x=>
  have ho:=jO (c:=c) hk h;split at hv
  ·rename_i vs e;rw[e] at ho;split at hv
   ·rename_i u hu;split at hv<;>simp at hv; subst hv
    intro p hp; exact ho p (by simp only[aI]; exact jH.2 ⟨u,aU hu,hp⟩)
   ·cases hv
  ·cases hv
 case len=>split at hv<;>simp at hv; subst hv; exact .nil rfl
 case min=>exact .nil (KL hv)
 case max=>exact .nil (KL hv)
 all_goals (cases hv; done)
mutual
theorem Hv:∀x,clean x=true->aI x=[]
 |.du _ _ _ _,h=>by simp[clean] at h
 |.eR _ _ _ _,h=>by simp[clean] at h
 |.agg cs,h=>by simp only[clean] at h; simp only[aI]; exact yU cs h
 |.dA cs,h=>by simp only[clean] at h; simp only[aI]; exact yU cs h
 |.func _ _ _,h=>by simp[clean] at h
 |.any,_=>rfl|.undef,_=>rfl|.fg,_=>rfl|.fj,_=>rfl|.di,_=>rfl
 |.int _ _,_=>rfl|.bool _,_=>rfl|.str _,_=>rfl|.list _ _,_=>rfl|.de _,_=>rfl|.ptr _ _,_=>rfl|.sl _ _ _ _,_=>rfl|.own _ _,_=>rfl
theorem yU:∀xs,gn xs=true->cU xs=[]
 |[],_=>rfl
 |x::r,h=>by simp only[gn,ae] at h; simp only[cU,Hv x h.1,yU r h.2,List.append_nil]
end
theorem TY {s s1:St} {kd:Kd} {v:AV} {f:Fq} (h:dj c call kd s=some (v,s1,f)):aI v=[]\/∃ sl bs,f=.wr sl bs\/f=.all:=by
 unfold dj at h;split at h
 ·rename_i r hi;subst h;obtain⟨sl,bs,e⟩:=zS hi;exact .inr ⟨sl,bs,e⟩
 split at h
 ·rename_i r hi;subst h;obtain⟨_,_,_,_,_,_,_,_,_,_,_,_,_,_,_,hr,_,_⟩:=vH hi;exact .inl (Ih _ hr.1)
 unfold fL at h;split at h
 ·rename_i r hi;subst h;exact .inr ⟨[],none,.inr (wQ hi).1⟩
 rcases iG h with h|h
 case inr=>exact .inl (wI h).2
 unfold dO at h;split at h
 ·cases h
 split at h
 ·cases h
 split at h
 ·split at h
  ·cases h
  split at h
  case h_2=>cases h
  split at h
  case isFalse=>cases h
  rename_i hr;simp at h;obtain⟨rfl,_,_⟩:=h;simp only[Kz,ae] at hr;exact .inl (Hv _ hr.1)
 ·split at h
  ·cases h
  split at h
  case isFalse=>cases h
  split at h
  ·split at h
   case isFalse=>cases h
   split at h
   case h_2=>cases h
   split at h
   case isFalse=>cases h
   rename_i hr;simp only[af,aA] at h;simp only[ae] at hr;obtain⟨rfl,_,_⟩:=h;exact .inl (eY.1 hr.1.1)
  ·split at h
   case isFalse=>cases h
   split at h
   case h_2=>cases h
   split at h
   case isFalse=>cases h
   rename_i hr;simp at h;obtain⟨rfl,_,_⟩:=h;exact .inl (Ih _ hr)
theorem KV (f:Nat->Rt):∀(j:Nat) (cs:List AV),bF cs=false->er f j cs=cs
 |_,[],_=>rfl
 |j,x::r,h=>by
   cases x with
   |own k xs=>simp[bF] at h
   |_=>simp only[bF] at h; simp only[er,KV f (j+1) r h]
theorem Wr {x v:AV} {ps:List Rt} {b j:Nat} (h:vK x v ps=.rc b j):∃k o l,x=.ptr b j/\v=.du k (.c b j) o l:=by
 unfold vK at h;split at h
 ·split at h
  ·rename_i hc;obtain⟨rfl,rfl⟩:=hc;cases h;exact⟨_,_,_,rfl,rfl⟩
  ·cases h
 ·cases h
theorem acV {s s1:St} {kd:Kd} {v:AV} {f:Fq} (hv:eO c call s kd=some (v,s1,f)) (hf:calm f=true) (hk:xN kd=true) (h:Cq V s.env kd.reads)
  (hb:∀ps,f=.rd ps->∀b,Rt.c b 0∈ps->∀cs,aN s.H b=some cs->(∀p∈cU cs,¬V p)/\(bF cs=true->∀j,¬V (.c b j)))
  (BU:∀b j,f=.rc b j->∀cs c,aN s.H b=some cs->cs[j]?=some c->(∀p∈aI c,¬V p)/\(∀k xs,c=.own k xs->¬V (.c b j))):Jj V v:=by
 have pure:∀{kd:Kd},xN kd=true->Cq V s.env kd.reads->(match Nt c s.env kd with
   |some v=>some (v,s,Fq.no)
   |none=>none)=some (v,s1,f)->Jj V v:=by
  intro kd hk h h2;split at h2
  case h_2=>cases h2
  rename_i u hu;simp at h2;obtain⟨rfl,_,_⟩:=h2;exact acT hu hk h
 have ab5:∀{kd:Kd},dj c call kd s=some (v,s1,f)->Jj V v:=by
  intro kd h2;rcases TY h2 with e|⟨sl,bs,e|e⟩
  ·exact .nil e
  ·subst e; simp[calm] at hf
  ·subst e; simp[calm] at hf
 cases kd
 case call=>simp only[eO] at hv; exact ab5 hv
 case iR=>simp only[eO] at hv; exact ab5 hv
 case new=>simp only[eO] at hv; simp at hv; obtain⟨rfl,_,_⟩:=hv; exact .nil rfl
 case box=>simp only[eO] at hv; split at hv<;>simp at hv; obtain⟨rfl,_,_⟩:=hv; exact .nil rfl
 case eL=>simp only[eO] at hv; (repeat' split at hv)<;>simp at hv<;>(obtain⟨rfl,_,_⟩:=hv; exact .nil rfl)
 case Jq=>simp only[eO] at hv; (repeat' split at hv)<;>simp at hv<;>(obtain⟨rfl,_,_⟩:=hv; exact .nil rfl)
 case RZ=>simp only[eO] at hv; (repeat' split at hv)<;>simp at hv<;>(obtain⟨rfl,_,_⟩:=hv; exact .nil rfl)
 case app=>simp only[eO] at hv; (repeat' split at hv)<;>simp at hv<;>(obtain⟨rfl,_,_⟩:=hv; exact .nil rfl)
 case st=>simp only[eO] at hv; (repeat' split at hv)<;>simp at hv<;>(obtain⟨rfl,_,_⟩:=hv; exact .nil rfl)
 case copy=>simp only[eO] at hv; (repeat' split at hv)<;>simp at hv<;>(obtain⟨rfl,_,_⟩:=hv; exact .nil rfl)
 case F9 n x hi=>
  simp only[eO] at hv;split at hv
  ·(repeat' split at hv)<;>simp at hv<;>(obtain⟨rfl,_,_⟩:=hv; exact .nil rfl)
  ·exact pure hk h hv
 case ld ag x=>
  simp only[eO] at hv;split at hv
  case h_2=>cases hv
  rename_i u ps hp;split at hv
  case isFalse=>cases hv
  rename_i hl;simp at hv;obtain⟨rfl,rfl,WY⟩:=hv;by_cases hy:∃b off k o l,aR c s.env x=.ptr b off/\u=.du k (.c b off) o l
  ·obtain⟨b,off,k,o,l,e,rfl⟩:=hy;rw[e] at hp WY;have hbc':=BU b off (by rw[<-WY]; simp[vK]);simp only[ym] at hp;split at hp
   case h_2=>cases hp
   rename_i cs dB;split at hp
   case h_2=>cases hp
   rename_i u' hu;simp at hp;obtain⟨rfl,_⟩:=hp
   have hz:((er (.c b) 0 cs).drop off)[0]?=some (.du k (.c b off) o l):=by
    unfold H7 AA at hu;cases ag with
    |some n=>simp only at hu; (repeat' split at hu)<;>simp_all
    |none=>
      simp only at hu;rw[<-uX]
      (repeat' split at hu)<;>simp_all
   rw[aO,Nat.add_zero] at hz
   have hg:∀(cs:List AV) (j i:Nat),(er (.c b) j cs)[i]?=some (.du k (.c b off) o l)->∃c0,cs[i]?=some c0/\((∃k xs,c0=.own k xs)\/c0=.du k (.c b off) o l):=by
    intro cs
    induction cs with
    |nil=>intro j i h; simp[er] at h
    |cons d r ih=>
      intro j i h;cases i with
      |zero=>
        refine⟨d,rfl,?_⟩
        cases d<;>first
         |exact .inl ⟨_,_,rfl⟩
         |(simp[er] at h; done)
         |(simp[er] at h; right; simp[h])
      |succ i=>
        obtain⟨c0,h1,h2⟩:=ih (j+1) i (by cases d<;>simpa[er] using h);exact⟨c0,by simpa using h1,h2⟩
   obtain⟨c0,h1,h2⟩:=hg cs 0 off hz;obtain⟨q1,q2⟩:=hbc' cs c0 dB h1;intro p hp;simp[aI] at hp;subst hp;rcases h2 with h2|h2
   ·obtain⟨k0,xs0,e0⟩:=h2; exact q2 k0 xs0 e0
   ·subst h2; exact q1 _ (by simp[aI])
  have WY:f=.rd ps:=by
   rw[<-WY];rcases vJ (aR c s.env x) u ps with e|⟨b,j,e⟩
   ·exact e
   ·obtain⟨k,o,l,e1,e2⟩:=Wr e;exact absurd ⟨b,j,k,o,l,e1,e2⟩ hy
  subst WY;by_cases hx:∃b off,aR c s.env x=.ptr b off
  ·obtain⟨b,off,e⟩:=hx;rw[e] at hp;simp only[ym] at hp;split at hp
   case h_2=>cases hp
   rename_i cs dB;split at hp
   case h_2=>cases hp
   rename_i u' hu;simp at hp;obtain⟨rfl,rfl⟩:=hp;by_cases hz:aI u'=[]
   ·exact .nil hz
   obtain⟨b1,b2⟩:=hb _ rfl b (by simp[hz]) cs dB;refine Nl (fun d hd p hp=>?_) hu;have:=jH.2 ⟨d,cQ hd,hp⟩;cases ho:bF cs with
   |false=>rw[KV _ _ _ ho] at this; exact b1 p this
   |true=>
     rcases AZ this with h3|⟨i,h3⟩
     ·exact b1 p h3
     ·subst h3; exact b2 ho i
  ·refine .nil ?_;unfold ldOK at hl;split at hl
   ·rename_i e; exact absurd ⟨_,_,e⟩ hx
   ·exact eY.1 hl
 case AO=>simp only[eO] at hv; simp at hv; obtain⟨rfl,_,_⟩:=hv; exact .nil rfl
 case xz K ok z x k=>
  obtain⟨b,es,r,_,_,hp,e3,hz,rfl,_⟩:=Wf hv;exact .nil (Ih _ (We e3 hp.1 hz))
 case yu K x k y=>
  obtain⟨b,es,r,_,_,_,_,rfl,_⟩:=V7 hv;exact .nil rfl
 all_goals
  simp only[eO] at hv;exact pure hk h hv
end
end Go.Bm

/- What single operations are worth: regions that draw their order are sound. -/
namespace Go.Bm
open Go.Am
section
variable {P:Program} {c:dM} {call:Nat->List AV->Heap->Option (AV × Heap)} {V:Rt->Prop}
theorem dy.own {s t:St} (h:dy s t) (p:Rt):aq t p=aq s p:=by
 cases p with
 |s i=>simp only[aq,at_,h.1 i]
 |sc i j=>simp only[aq,at_,h.1 i]
 |c b j=>simp only[aq,at_,h.2]
theorem Seen.of_same {s s0 t:St} {ps:List Rt} (e:dy s s0) (h:Seen ps s t):Seen ps s0 t:=fun p hp=>⟨by rw[(h p hp).1,e.own],fun b l hb=>by rw[(h p hp).2 b l hb,e.2]⟩
theorem q9.of_same {s s0 t:St} {b j:Nat} (e:dy s s0) (h:q9 b j s t):q9 b j s0 t:=fun cs hc=>h cs (by rw[e.2]; exact hc)
theorem acW {s s1:St} {kd:Kd} {v:AV} {n:Nat} (h:eO c call s kd=some (v,s1,.al n)):∃z,s1=⟨s.env,s.H++[z]⟩:=by
 have nc:∀{kd:Kd},dj c call kd s≠some (v,s1,.al n):=by
  intro kd h;unfold dj at h;split at h
  ·rename_i r hi;subst h;obtain⟨sl,bs,e|e⟩:=zS hi<;>cases e
  split at h
  ·rename_i r hi;subst h;obtain⟨b,e⟩:=CC hi;cases e
  unfold fL at h;split at h
  ·rename_i r hi;subst h;obtain⟨e,_⟩:=wQ hi;cases e
  replace h:=(iG h).resolve_right fun h=>by obtain⟨e,_⟩:=wI h; cases e
  unfold dO at h
  (repeat' split at h)<;>simp[xb] at h
  all_goals (obtain⟨_,_,h⟩:=h; revert h; split<;>simp[xb])
 have ns:∀{s s':St} {k:Nat} {a v:AV} {f:Fq},MA s k a v=some (s',f)->f≠.al n:=by
  intro s s' k a v f h e;have:=M5 h;rw[e] at this;simp[calm] at this
 cases kd<;>simp only[eO] at h
 case new=>simp at h; exact⟨_,h.2.1.symm⟩
 case AO=>simp at h; exact⟨_,h.2.1.symm⟩
 case box=>split at h<;>simp at h; exact⟨_,h.2.1.symm⟩
 case call=>exact absurd h nc
 case iR=>exact absurd h nc
 case st=>
  exfalso;split at h
  ·split at h
   case h_2=>cases h
   rename_i hh;simp only[af,aA] at h;obtain⟨_,_,h5⟩:=h;split at h5
   ·exact ns hh h5
   ·cases h5
  ·split at h
   case h_2=>cases h
   rename_i hh;simp only[af,aA] at h;exact ns hh h.2.2
 case ld=>
  exfalso;split at h
  case h_2=>cases h
  split at h
  case isFalse=>cases h
  simp only[af,aA] at h;obtain⟨_,_,h5⟩:=h;rcases vJ _ _ _ with e|⟨b,j,e⟩<;>rw[e] at h5<;>cases h5
 case Jq=>
  split at h
  case h_2=>cases h
  split at h
  case isFalse=>cases h
  split at h
  ·simp at h; exact⟨_,h.2.1.symm⟩
  ·simp at h
 case eL=>
  exfalso
  (repeat' split at h)<;>simp[xb] at h
  all_goals (obtain⟨_,_,h⟩:=h; revert h; split<;>simp[xb])
 case copy=>
  exfalso
  (repeat' split at h)<;>simp at h
  obtain⟨_,_,h5⟩:=h;rcases vX _ _ with e|⟨_,_,_,_,e⟩<;>rw[e] at h5<;>cases h5
 all_goals
  exfalso
  (repeat' split at h)<;>simp at h
theorem GX {i:Nat} {x:AV} {b:Bool} (h:eP i x=.bool b):x=.bool b:=by
 cases x<;>simp[eP] at h<;>simp[h]
theorem NK {i:Nat} {x:AV} (h:eP i x=.undef):x=.undef:=by
 cases x<;>simp[eP] at h<;>rfl
theorem aaK:qk c call:=by
 intro s q v s1 f ⟨hk,s0,t1,e0,he,e1⟩ hc
 have op:eO c call s0 q.kd=some (v,t1,f)->(∀t:St,(∀i∈q.reads,eP i (get t.env i)=eP i (get s.env i))->B5 c call t q=eO c call t q.kd)->∃X,OO c call s q v s1 f X:=by
  intro h Cl;obtain⟨T,k1,k2,k3⟩:=VK h hc;have hr:∀i∈q.kd.reads,i∈q.reads:=fun i hi=>by simp[O.reads,hi]
  refine⟨T,⟨e1.symm.trans ⟨fun i=>by rw[k1]; exact (e0.1 i).symm,by rw[k1]; show s0.H++T=s.H++T; rw[e0.2]⟩,?_,fun t h1 h2 h3=>?_,fun V h1 h2 h2c=>?_⟩⟩
  ·rcases k2 with e|⟨z,e,e2⟩
   ·by_cases Jv:∃n,f=.al n
    ·obtain⟨n,rfl⟩:=Jv;obtain⟨z,hz⟩:=acW h;rw[k1,e] at hz;simp at hz
    ·exact .inl ⟨e,fun n hn=>Jv ⟨n,hn⟩⟩
   ·exact .inr ⟨z,e,by rw[e0.2]; exact e2⟩
  ·refine⟨hk,t,_,dy.rfl',?_,dy.rfl'⟩;rw[Cl t h1];exact k3 t (fun i hi=>by rw[h1 i (hr i hi),e0.1]) ⟨fun ps uV=>(h2.1 ps uV).of_same e0,fun b j hf=>(h2.2 b j hf).of_same e0⟩ h3
  ·exact acV h hc hk (fun i hi=>by rw[<-e0.1]; exact h1 i (hr i hi)) (fun ps uV b hp cs hb=>h2 ps uV b hp cs (by rw[e0.2]; exact hb)) fun b j hf cs c0 hb ED=>h2c b j hf cs c0 (by rw[e0.2]; exact hb) ED
 have un:f=.no->v=.undef->t1=s0->(∀t:St,(∀i∈q.reads,eP i (get t.env i)=eP i (get s.env i))->B5 c call t q=some (.undef,t,.no))->∃X,OO c call s q v s1 f X:=by
  intro hf hv ht Cl;subst hf hv ht;refine⟨[],⟨e1.symm.trans ⟨fun i=>(e0.1 i).symm,by show t1.H=s.H++[]; rw[e0.2]; simp⟩,.inl ⟨rfl,fun n h=>by cases h⟩,fun t h1 _ _=>⟨hk,t,t,dy.rfl',Cl t h1,⟨fun i=>rfl,by simp⟩⟩,fun V _ _ _ p hp=>by simp[aI] at hp⟩⟩
 unfold B5 at he;cases hg:q.guard with
 |none=>
   rw[hg] at he;exact op he fun t _=>by unfold B5; rw[hg]
 |some gp=>
   obtain⟨g,want⟩:=gp;rw[hg] at he;simp only at he;have FZ:g∈q.reads:=by simp[O.reads,hg]
   split at he
   ·rename_i b hb;split at he
    ·rename_i NV;refine op he fun t h1=>?_;unfold B5;rw[hg];have iU:get t.env g=.bool b:=GX (by rw[h1 g FZ,e0.1 g,hb]; rfl);simp only[iU,NV,if_true]
    ·rename_i NV;simp only[af,aA] at he;refine un he.2.2.symm he.1.symm he.2.1.symm fun t h1=>?_;unfold B5;rw[hg];have iU:get t.env g=.bool b:=GX (by rw[h1 g FZ,e0.1 g,hb]; rfl);simp only[iU,NV,if_false]
   ·rename_i hb;simp only[af,aA] at he;refine un he.2.2.symm he.1.symm he.2.1.symm fun t h1=>?_;unfold B5;rw[hg];have iU:get t.env g=.undef:=NK (by rw[h1 g FZ,e0.1 g,hb]; rfl);simp only[iU]
   ·cases he

/-! Operations that write a few places -/
mutual
theorem zN {g:AV->AV}:∀x,(∀k p o l,p∈aI x->g (.du k p o l)=.du k p o l/\g (.eR k p o l)=.eR k p o l)->cC g x=x
 |.du k p o l,h=>by simp only[cC]; exact (h k p o l (by simp[aI])).1
 |.eR k p o l,h=>by simp only[cC]; exact (h k p o l (by simp[aI])).2
 |.agg cs,h=>by simp only[cC]; rw[nD cs (by simpa only[aI] using h)]
 |.dA cs,h=>by simp only[cC]; rw[nD cs (by simpa only[aI] using h)]
 |.func f a b,h=>by
   simp only[aI,aC] at h;simp only[cC]; rw[nD a fun k p o l hp=>h k p o l (.inl hp),nD b fun k p o l hp=>h k p o l (.inr hp)]
 |.any,_=>rfl|.undef,_=>rfl|.fg,_=>rfl|.fj,_=>rfl|.di,_=>rfl
 |.int _ _,_=>rfl|.bool _,_=>rfl|.str _,_=>rfl|.list _ _,_=>rfl|.de _,_=>rfl|.ptr _ _,_=>rfl|.sl _ _ _ _,_=>rfl|.own _ _,_=>rfl
theorem nD {g:AV->AV}:∀xs,(∀k p o l,p∈cU xs->g (.du k p o l)=.du k p o l/\g (.eR k p o l)=.eR k p o l)->cK g xs=xs
 |[],_=>rfl
 |x::r,h=>by
   simp only[cU,aC] at h;simp only[cK]; rw[zN x fun k p o l hp=>h k p o l (.inl hp),nD r fun k p o l hp=>h k p o l (.inr hp)]
end
theorem AX {f:Nat->Rt}:∀{cs:List AV} {j l k:Nat} {xs xs':List AV},cs[l]?=some (.own k xs)->xs'.length=xs.length->er f j (cs.set l (.own k xs'))=er f j cs
 |[],j,l,k,xs,xs',h,_=>by simp at h
 |x::r,j,0,k,xs,xs',h,hl=>by
   simp at h;subst h;simp only[List.set_cons_zero,er,hl]
 |x::r,j,l+1,k,xs,xs',h,hl=>by
   have ih:=AX (f:=f) (j:=j+1) (by simpa using h) hl;rw[List.set_cons_succ];cases x<;>simp only[er,ih]
theorem Nc {s:St} {p:Rt} {k:Nat} {xs xs':List AV} (h:aq s p=some (k,xs)) (hl:xs'.length=xs.length) (i:Nat):eP i (get (setAt s p (.own k xs')).env i)=eP i (get s.env i):=by
 cases p with
 |s j=>
   simp only[setAt,bz];by_cases e:i=j
   ·subst e;rw[if_pos rfl];simp only[aq,at_] at h;split at h
    ·rename_i k2 xs2 e2;simp at h;obtain⟨rfl,rfl⟩:=h;simp at e2;rw[e2];simp only[eP,hl]
    ·cases h
   ·rw[if_neg e]
 |sc j l=>
   simp only[aq,at_] at h;simp only[setAt];split
   ·rename_i cs dB;rw[dB] at h;simp only[bz];by_cases e:i=j
    ·subst e;rw[if_pos rfl,dB];simp only at h;split at h
     ·rename_i k2 xs2 e2;simp at h;obtain⟨rfl,rfl⟩:=h;simp only[eP,AX e2 hl]
     ·cases h
    ·rw[if_neg e]
   ·rfl
 |c b j=>
   simp only[setAt];split<;>rfl
theorem wS {i:Nat}:∀{l:List Nat},i+kZ∈marks l ↔ i∈l
 |[]=>by simp[marks]
 |j::r=>by simp[marks,wS (l:=r)]
theorem fJ {s:St} {p:Rt} {v:AV} {i:Nat} (h:i∉rootOf p):get (setAt s p v).env i=get s.env i:=by
 cases p with
 |s j=>simp only[rootOf,cD] at h; simp only[setAt,bz,if_neg h]
 |sc j l=>
   simp only[rootOf,cD] at h;simp only[setAt];split
   ·simp only[bz,if_neg h]
   ·rfl
 |c b j=>simp only[setAt]; split<;>rfl
theorem sC {s:St} {p:Rt} {v:AV} {b:Nat} (h:b∉kB p):aN (setAt s p v).H b=aN s.H b:=by
 cases p with
 |s j=>rfl
 |sc j l=>simp only[setAt]; split<;>rfl
 |c d j=>
   simp only[kB,cD] at h;simp only[setAt];split
   ·rw[df,if_neg (fun e=>h e.1)]
   ·rfl
theorem C5 {s t:St} (h:dy s t) (p:Rt) (v:AV):dy (setAt s p v) (setAt t p v):=by
 cases p with
 |s j=>exact⟨fun i=>by simp only[setAt,bz,h.1 i],h.2⟩
 |sc j l=>
   simp only[setAt];rw[h.1 j];split
   ·exact⟨fun i=>by simp only[bz,h.1 i],h.2⟩
   ·exact h
 |c b j=>
   simp only[setAt];rw[h.2];split
   ·exact⟨h.1,rfl⟩
   ·exact h
theorem sB {s:St} {p:Rt} {v u:AV} {d:Nat} (h:d∉rootOf p):dy (setAt ⟨put s.env d u,s.H⟩ p v) ⟨put (setAt s p v).env d u,(setAt s p v).H⟩:=by
 cases p with
 |s j=>
   simp only[rootOf,cD] at h;refine⟨fun i=>?_,rfl⟩;simp only[setAt,bz];by_cases e:i=j
   ·subst e;have:i≠d:=fun e=>h e.symm;simp[this]
   ·simp[e]
 |sc j l=>
   simp only[rootOf,cD] at h;have hj:j≠d:=fun e=>h e.symm;simp only[setAt,bz,if_neg hj];split
   ·refine⟨fun i=>?_,rfl⟩;simp only[bz];by_cases e:i=j
    ·subst e; simp[hj]
    ·simp[e]
   ·exact dy.rfl'
 |c b j=>
   simp only[setAt];split
   ·exact dy.rfl'
   ·exact dy.rfl'
theorem vv {s:St} {p:Rt} {y:Nat × List AV} (h:aq s p=some y):∀i∈rootOf p,bH (get s.env i)=true:=by
 intro i hi;obtain⟨k,xs⟩:=y;have h:=bR.1 h;cases p with
 |s j=>
   simp only[rootOf,cD] at hi; subst hi;simp only[at_,af] at h;rw[h]; rfl
 |sc j l=>
   simp only[rootOf,cD] at hi; subst hi;simp only[at_] at h;split at h
   ·rename_i cs hc;rw[hc];simp only[bH]
    have:∀{cs:List AV} {l:Nat},cs[l]?=some (.own k xs)->bF cs=true:=by
     intro cs
     induction cs with
     |nil=>intro l h; simp at h
     |cons x r ih=>
       intro l h;cases l with
       |zero=>simp at h; subst h; rfl
       |succ l=>simp at h; cases x<;>simp only[bF]<;>exact ih h
    exact this h
   ·cases h
 |c b j=>simp[rootOf] at hi
theorem nt {s:St} {p:Rt} {d:Nat} {u:AV} (h:d∉rootOf p):aq ⟨put s.env d u,s.H⟩ p=aq s p:=by
 cases p with
 |s j=>
   simp only[rootOf,cD] at h;have hj:j≠d:=fun e=>h e.symm;simp only[aq,at_,bz,if_neg hj]
 |sc j l=>
   simp only[rootOf,cD] at h;have hj:j≠d:=fun e=>h e.symm;simp only[aq,at_,bz,if_neg hj]
 |c b j=>rfl
structure uK (c:dM) (call:Nat->List AV->Heap->Option (AV × Heap)) (s:St) (kd:Kd) (v:AV) (s1:St) (sl:List Nat) (bs:Option (List Nat)) (V:Rt->Prop):Prop where
 env:∀i,i∉sl->i+kZ∉sl->get s1.env i=get s.env i
 hd:∀i,i∉sl->eP i (get s1.env i)=eP i (get s.env i)
 keep:∀i,bH (get s.env i)=false->aI (get s.env i)=[]->get s1.env i=get s.env i
 heap:∀l,bs=some l->∀b,b∉l->aN s1.H b=aN s.H b
 v1:∀i,i∉sl->(∀p∈aI (get s.env i),¬V p)/\¬ V (.s i)/\∀ j,¬V (.sc i j)
 v2:∀l,bs=some l->∀b,b∉l->b+kZ∉l->∀cs,aN s.H b=some cs->(∀p∈cU cs,¬V p)/\(bF cs=true->∀j,¬V (.c b j))
 go:∀d u,d∉kd.reads->d∉sl->d+kZ∉sl->Jj V u->∃t0 t1 sl',dy t0 ⟨put s.env d u,s.H⟩/\eO c call t0 kd=some (v,t1,.wr sl' bs)/\(∀i∈sl',i∈sl)/\dy t1 ⟨put s1.env d u,s1.H⟩
structure OH (c:dM) (call:Nat->List AV->Heap->Option (AV × Heap)) (s:St) (kd:Kd) (v:AV) (s1:St) (sl:List Nat) (bs:Option (List Nat)) (V:Rt->Prop):Prop where
 env:∀i,i∉sl->i+kZ∉sl->get s1.env i=get s.env i
 hd:∀i,i∉sl->eP i (get s1.env i)=eP i (get s.env i)
 keep:∀i,bH (get s.env i)=false->aI (get s.env i)=[]->get s1.env i=get s.env i
 heap:∀l,bs=some l->∀b,mZ b l=false->aN s1.H b=aN s.H b
 cell:∀l,bs=some l->∀b j,b∉l->uI b j∉l->q9 b j s s1/\q9 b j s1 s
 v1:∀i,i∉sl->(∀p∈aI (get s.env i),¬V p)/\¬ V (.s i)/\∀ j,¬V (.sc i j)
 v2:∀l,bs=some l->∀b,mZ b l=false->b+kZ∉l->∀cs,aN s.H b=some cs->(∀p∈cU cs,¬V p)/\(bF cs=true->∀j,¬V (.c b j))
 v3:∀l,bs=some l->∀b j,b∉l->b+kZ∉l->uI b j∉l->∀cs c,aN s.H b=some cs->cs[j]?=some c->(∀p∈aI c,¬V p)/\(∀k xs,c=.own k xs->¬V (.c b j))
 go:∀d u,d∉kd.reads->d∉sl->d+kZ∉sl->Jj V u->∃t0 t1 sl',dy t0 ⟨put s.env d u,s.H⟩/\eO c call t0 kd=some (v,t1,.wr sl' bs)/\(∀i∈sl',i∈sl)/\dy t1 ⟨put s1.env d u,s1.H⟩
theorem EE:∀{cs:List AV} {j k:Nat} {xs:List AV},cs[j]?=some (.own k xs)->bF cs=true
 |[],j,k,xs,h=>by simp at h
 |c::r,0,k,xs,h=>by simp at h; subst h; rfl
 |c::r,j+1,k,xs,h=>by
   have:=EE (cs:=r) (j:=j) (by simpa using h);cases c<;>simp[bF,this]
theorem uK.up {s s1:St} {kd:Kd} {v:AV} {sl:List Nat} {bs:Option (List Nat)}:(∃V,uK c call s kd v s1 sl bs V)->∃V,OH c call s kd v s1 sl bs V:=by
 rintro⟨V,h⟩;refine⟨V,⟨h.env,h.hd,h.keep,fun l hl b hb=>h.heap l hl b (nK hb).1,fun l hl b j hb _=>⟨.of_eq (h.heap l hl b hb),.of_eq (h.heap l hl b hb).symm⟩,h.v1,fun l hl b hb=>h.v2 l hl b (nK hb).1,fun l hl b j h1 h2 _ cs c0 hb hc=>?_,h.go⟩⟩;obtain⟨a1,a2⟩:=h.v2 l hl b h1 h2 cs hb;exact⟨fun p hp=>a1 p (jH.2 ⟨c0,aU hc,hp⟩),fun k xs e=>a2 (EE (e▸hc)) j⟩
theorem ti {f:Rt->Bool}:∀{l:List Rt},wc f l=true ↔ ∃p∈l,f p=true
 |[]=>by simp[wc]
 |p::r=>by simp[wc,ti (l:=r)]
theorem Ff {f:Rt->Bool}:∀{H:Heap} {b:Nat} {cs:List AV},Fg f H=false->aN H b=some cs->∀p∈cU cs,f p=false
 |[],b,cs,_,h=>by simp[aN] at h
 |none::r,b,cs,ha,h=>by
   cases b with
   |zero=>simp[aN] at h
   |succ b=>exact Ff (H:=r) (b:=b) (by simpa[Fg] using ha) (by simpa[aN] using h)
 |some ds::r,b,cs,ha,h=>by
   simp only[Fg,dZ] at ha;cases b with
   |zero=>
     simp[aN] at h;subst h;intro p hp;cases hf:f p with
     |false=>rfl
     |true=>rw[ti.2 ⟨p,hp,hf⟩] at ha; simp at ha
   |succ b=>exact Ff (H:=r) (b:=b) ha.2 (by simpa[aN] using h)
theorem s7 {p:Rt}:∀{l:List Rt},vM p l=true ↔ p∈l
 |[]=>by simp[vM]
 |q::r=>by rw[vM,dG,decide_eq_true_eq,s7 (l:=r),aK]; exact⟨fun h=>h.imp Eq.symm id,fun h=>h.imp Eq.symm id⟩
theorem nj {p:Rt}:∀{e:Env} {i:Nat},vM p (aI (Am.get e i))=true\/(isRoot p i=true/\Am.get e i≠.any)->i∈k7 p e
 |[],i,h=>by simp[Am.get,aI,vM] at h
 |(j,v)::r,i,h=>by
   simp only[Am.get] at h;simp only[k7];by_cases e:i=j
   ·subst e;simp only[if_true] at h
    have:(vM p (aI v)||isRoot p i)=true:=by
     rcases h with h|h
     ·simp[h]
     ·simp[h.1]
    rw[if_pos this]; simp
   ·rw[if_neg e] at h;have:=nj h;split
    ·simp[this]
    ·exact this
theorem Ax {p:Rt}:∀{sn:List Nat} {e:Env} {i:Nat},i∈k7 p (Ip sn e)->mem i sn=false/\(vM p (aI (Am.get e i))=true\/isRoot p i=true)
 |sn,[],i,h=>by simp[Ip,k7] at h
 |sn,(j,v)::r,i,h=>by
   have U5:∀{YC:List Nat},i∈k7 p (Ip YC r)->mem j YC=true->mem i YC=false/\(vM p (aI (Am.get ((j,v)::r) i))=true\/isRoot p i=true):=by
    intro YC h hj;obtain⟨h1,h2⟩:=Ax h;have tn:i≠j:=fun e=>by rw[e,hj] at h1; cases h1
    exact⟨h1,by simp only[Am.get]; rw[if_neg tn]; exact h2⟩
   unfold Ip at h;by_cases hj:mem j sn=true
   ·rw[if_pos hj] at h;exact U5 h hj
   ·rw[if_neg hj] at h;simp only[k7] at h
    have tail:i∈k7 p (Ip (j::sn) r)->mem i sn=false/\(vM p (aI (Am.get ((j,v)::r) i))=true\/isRoot p i=true):=fun h=>by
     obtain⟨h1,h2⟩:=U5 h (by simp[mem]);unfold mem at h1;split at h1
     ·cases h1
     ·exact⟨h1,h2⟩
    split at h
    ·rename_i hc;rcases aK.1 h with e|h
     ·subst e;refine⟨by simpa using hj,?_⟩;simp only[Am.get,if_true];simpa using hc
     ·exact tail h
    ·exact tail h
theorem k8 {p:Rt}:∀{H:Heap} {k b:Nat} {cs:List AV},aN H b=some cs->p∈cU cs->k+b∈rB p k H
 |[],k,b,cs,h,_=>by simp[aN] at h
 |none::r,k,b,cs,h,hp=>by
   cases b with
   |zero=>simp[aN] at h
   |succ b=>
     have:=k8 (H:=r) (k:=k+1) (b:=b) (by simpa[aN] using h) hp;simp only[rB]; rwa [show k+(b+1)=k+1+b by omega]
 |some ds::r,k,b,cs,h,hp=>by
   cases b with
   |zero=>
     simp[aN] at h;subst h;simp[rB,s7.2 hp]
   |succ b=>
     have:=k8 (H:=r) (k:=k+1) (b:=b) (by simpa[aN] using h) hp;simp only[rB];rw[show k+(b+1)=k+1+b by omega];split
     ·simp[this]
     ·exact this
theorem sF:∀{e:Env} {i:Nat},eB (aI (Am.get e i))=true->i∈eU e
 |[],i,h=>by simp[Am.get,aI,eB] at h
 |(j,v)::r,i,h=>by
   simp only[Am.get] at h;simp only[eU];by_cases e:i=j
   ·subst e;simp only[if_true] at h;rw[if_pos h]; simp
   ·rw[if_neg e] at h;have:=sF h;split
    ·simp[this]
    ·exact this
theorem Gm:∀{sn:List Nat} {e:Env} {i:Nat},i∈eU (Ip sn e)->mem i sn=false/\eB (aI (Am.get e i))=true
 |sn,[],i,h=>by simp[Ip,eU] at h
 |sn,(j,v)::r,i,h=>by
   have U5:∀{YC:List Nat},i∈eU (Ip YC r)->mem j YC=true->mem i YC=false/\eB (aI (Am.get ((j,v)::r) i))=true:=by
    intro YC h hj;obtain⟨h1,h2⟩:=Gm h;have tn:i≠j:=fun e=>by rw[e,hj] at h1; cases h1
    exact⟨h1,by simp only[Am.get]; rw[if_neg tn]; exact h2⟩
   unfold Ip at h;by_cases hj:mem j sn=true
   ·rw[if_pos hj] at h;exact U5 h hj
   ·rw[if_neg hj] at h;simp only[eU] at h
    have tail:i∈eU (Ip (j::sn) r)->mem i sn=false/\eB (aI (Am.get ((j,v)::r) i))=true:=fun h=>by
     obtain⟨h1,h2⟩:=U5 h (by simp[mem]);unfold mem at h1;split at h1
     ·cases h1
     ·exact⟨h1,h2⟩
    split at h
    ·rename_i hc;rcases aK.1 h with e|h
     ·subst e;refine⟨by simpa using hj,?_⟩;simp only[Am.get,if_true];exact hc
     ·exact tail h
    ·exact tail h
theorem A7:∀{l:List Rt},eB l=true ↔ ∃p∈l,dh p=false
 |[]=>by simp[eB]
 |p::r=>by cases p<;>simp[eB,dh,A7 (l:=r)]
theorem A6 {l:List Rt} (h:eB l=false):∀p∈l,dh p=true:=by
 intro p hp;cases hn:dh p with
 |true=>rfl
 |false=>rw[A7.2 ⟨p,hp,hn⟩] at h; cases h
theorem oT (s:St) (i:Nat):get (NA s).env i=get s.env i:=((qq s).1 i).symm
end
end Go.Bm

/- Every operation that writes a few places; regions that draw their order are sound. -/
namespace Go.Bm
open Go.Am
section
variable {P:Program} {c:dM} {call:Nat->List AV->Heap->Option (AV × Heap)} {V:Rt->Prop}
theorem eK {i:Nat} {l m:List Nat} (h:i∉l++m):i∉l/\i∉m:=by simpa using h
theorem rJ {p:Rt} {i:Nat}:isRoot p i=true ↔ i∈rootOf p:=by
 cases p<;>simp[isRoot,rootOf,eq_comm]
theorem Cv {x:AV} (h:∀p∈aI x,dh p=true):cC kS x=x:=zN x fun k p o l hp=>by
 have:=h p hp;cases p<;>simp[dh] at this<;>simp[kS]
theorem zG {l:List Nat}:∀{H H':Heap} {k:Nat} {r:List Nat},cT l k H H'=some r->∀b,k+b∉l->aN H' b=aN H b/\((k+b)+kZ∉r->∀cs,aN H b=some cs->bF cs=false/\cU cs=[])
 |[],[],k,r,_,b,_=>⟨rfl,fun _ cs h=>by simp[aN] at h⟩
 |[],_::_,k,r,h,b,_=>by simp[cT] at h
 |_::_,[],k,r,h,b,_=>by simp[cT] at h
 |x::H,y::H',k,r,h,b,hb=>by
   unfold cT at h;split at h
   case h_2=>cases h
   rename_i r0 h0;cases b with
   |zero=>
     have hm:mem k l=false:=by
      cases hh:mem k l with
      |false=>rfl
      |true=>exact absurd (mem_iff.1 hh) (by simpa using hb)
     rw[hm] at h;simp only[bk,if_false] at h;split at h
     case isFalse=>cases h
     rename_i he;have e:=aaN he;subst e;refine⟨rfl,fun hr cs dB=>?_⟩
     have hx:x=some cs:=by
      unfold aN at dB;simp only[List.getElem?_cons_zero] at dB;cases x with
      |none=>simp at dB
      |some d=>simp at dB; rw[dB]
     subst hx;cases hc:hU (some cs) with
     |false=>
       rw[hc] at h;simp at h;subst h;exact absurd (by simp) hr
     |true=>
       simp only[hU,ae,bn] at hc;exact⟨hc.1,eY.1 hc.2⟩
   |succ b=>
     have ih:=zG h0 b (by rw[show k+1+b=k+(b+1) by omega]; exact hb);have e:∀z (G:Heap),aN (z::G) (b+1)=aN G b:=fun z G=>by simp[aN]
     rw[e,e];refine⟨ih.1,fun hr=>ih.2 fun hm=>hr ?_⟩;rw[show k+1+b=k+(b+1) by omega] at hm;split at h
     ·cases h; exact hm
     ·split at h
      ·simp at h;subst h;split
       ·exact hm
       ·exact List.mem_cons_of_mem _ hm
      ·cases h
theorem Xp {p:Rt} {k:Nat} {xs:List AV} {x:AV} (h:p∉aI x):cC (fb p k xs) x=x:=zN x fun k' q o l hq=>by
 have:q≠p:=fun e=>h (e▸hq);constructor<;>simp[fb,this]
theorem aac {p:Rt} {k:Nat} {xs:List AV} {x:List AV} (h:p∉cU x):cK (fb p k xs) x=x:=nD x fun k' q o l hq=>by
 have:q≠p:=fun e=>h (e▸hq);constructor<;>simp[fb,this]
theorem UA {s:St} {p:Rt} {k:Nat} {xs:List AV} {kd:Kd} {v:AV} (hp:aq s p=some (k,xs))
  (Cl:∀t:St,(∀i∈kd.reads,get t.env i=get s.env i)->aq t p=some (k,xs)->eO c call t kd=some (v,setAt (bX (fb p k xs) t) p (.list k xs),.wr (k7 p t.env) (some (kB p++rB p 0 t.H)))) :
  ∃ V,uK c call s kd v (setAt (bX (fb p k xs) s) p (.list k xs)) (k7 p s.env) (some (kB p++rB p 0 s.H)) V:=by
 have vP:=vv hp;have zn:∀i∈rootOf p,i∈k7 p s.env:=fun i hi=>nj (.inr ⟨rJ.2 hi,fun e=>by have:=vP i hi; rw[e] at this; cases this⟩);have nv:∀{i:Nat},i∉k7 p s.env->p∉aI (get s.env i)/\i∉rootOf p:=fun{i} hi=>⟨fun e=>hi (nj (.inl (s7.2 e))),fun e=>hi (zn i e)⟩
 have EP:∀i,p∉aI (get s.env i)->i∉rootOf p->get (setAt (bX (fb p k xs) s) p (.list k xs)).env i=get s.env i:=fun i h1 h2=>by
  rw[fJ h2];show get (jQ (fb p k xs) s.env) i=_;rw[dc,Xp h1]
 have adI:∀b,b∉kB p++rB p 0 s.H->aN (setAt (bX (fb p k xs) s) p (.list k xs)).H b=aN s.H b:=fun b hb=>by
  rw[sC fun hm=>hb (OT _ hm)];show aN (fH (fb p k xs) s.H) b=_;rw[eZ];cases dB:aN s.H b with
  |none=>rfl
  |some cs=>
    simp only[bV,af];refine aac fun hm=>hb ?_;have:=k8 (k:=0) dB hm;exact MS _ (by simpa using this)
 refine⟨fun q=>q=p,⟨fun i hi _=>?_,fun i hi=>?_,fun i h1 h2=>?_,fun l hl b hb=>?_,fun i hi=>⟨fun q hq e=>?_,fun e=>?_,fun j e=>?_⟩,fun l hl b hb tL cs dB=>⟨fun q hq e=>?_,fun _ j e=>?_⟩,fun d u hd nP _ hu=>?_⟩⟩
 ·obtain⟨h1,h2⟩:=nv hi;exact EP i h1 h2
 ·obtain⟨h1,h2⟩:=nv hi;rw[EP i h1 h2]
 ·exact EP i (by rw[h2]; simp) fun hi=>by rw[vP i hi] at h1; cases h1
 ·cases hl;exact adI b hb
 ·subst e;exact (nv hi).1 hq
 ·subst e;exact (nv hi).2 (by simp[rootOf])
 ·subst e;exact (nv hi).2 (by simp[rootOf])
 ·subst e;cases hl;have:=k8 (k:=0) dB hq;exact hb (MS _ (by simpa using this))
 ·subst e;cases hl;exact hb (OT _ (by simp[kB]))
 ·obtain⟨hd3,hd4⟩:=nv nP
  let t0:St:=NA ⟨put s.env d u,s.H⟩
  have Ez:dy t0 ⟨put s.env d u,s.H⟩:=(qq _).symm;have hg:∀i,get t0.env i=if i=d then u else get s.env i:=fun i=>by rw[oT,bz]
  have own:aq t0 p=aq s p:=by rw[<-Ez.own p]; exact nt hd4
  have FV:p∉aI u:=fun hm=>hu p hm rfl;refine⟨t0,setAt (bX (fb p k xs) t0) p (.list k xs),k7 p t0.env,Ez,Cl t0 (fun i hi=>by rw[hg,if_neg]; intro e; subst e; exact hd hi) (own.trans hp),fun i hi=>?_,?_⟩
  ·obtain⟨_,h2⟩:=Ax hi;have:get (put s.env d u) i=get t0.env i:=(oT ⟨put s.env d u,s.H⟩ i).symm;simp only[this,hg] at h2;rcases h2 with h2|h2
   ·split at h2
    ·exact absurd (s7.1 h2) FV
    ·exact nj (.inl h2)
   ·exact zn i (rJ.1 h2)
  ·have h5:dy (bX (fb p k xs) t0) ⟨put (bX (fb p k xs) s).env d u,(bX (fb p k xs) s).H⟩:=⟨fun i=>by
    show get (jQ (fb p k xs) t0.env) i=get (put (jQ (fb p k xs) s.env) d u) i;rw[dc,hg,bz,dc];split
    ·exact Xp FV
    ·rfl,rfl⟩
   exact (C5 h5 p (.list k xs)).trans (sB hd4)
theorem Yu {s s1:St} {kd:Kd} {v:AV} {sl:List Nat} {bs:Option (List Nat)} (iU:∀t,eO c call t kd=dj c call kd t) (hi:pW c s kd=none) (hl:mN c call s kd=none) (hmv:rZ c call s kd=none) (h:dO c call kd s=some (v,s1,.wr sl bs)):∃V,uK c call s kd v s1 sl bs V:=by
 unfold dO at h;split at h
 ·cases h
 rename_i f args ha;split at h
 ·cases h
 rename_i md q hf;split at h
 ·rename_i hm;split at h
  ·cases h
  split at h
  case h_2=>cases h
  split at h
  case isFalse=>cases h
  simp only[af,aA] at h;obtain⟨_,_,h⟩:=h;split at h<;>cases h
 rename_i hm;split at h
 ·cases h
 rename_i f1 oY LL;split at h
 case isFalse=>cases h
 rename_i W4;split at h
 ·rename_i iN;split at h
  case isFalse=>cases h
  rename_i hp;split at h
  case h_2=>cases h
  rename_i r H' hc;split at h
  case isFalse=>cases h
  rename_i hr;simp only[af,aA] at h;obtain⟨rfl,rfl,h⟩:=h
  have he:cU args=[]:=by
   cases hb:cU args with
   |nil=>rfl
   |cons x y=>simp[hb] at h
  rw[he] at h LL hp hc;simp only[dJ] at LL hp hc;simp at h;obtain⟨rfl,rfl⟩:=h
  have off:∀l,ft (eV oY) (cT (eV oY) 0 s.H H')=some l->∀b,b∉l->aN H' b=aN s.H b/\(b+kZ∉l->∀cs,aN s.H b=some cs->bF cs=false/\cU cs=[]):=by
   intro l hl b hb;cases ho:cT (eV oY) 0 s.H H' with
   |none=>rw[ho] at hl; cases hl
   |some r=>
     rw[ho] at hl;have hl:some (eV oY++r)=some l:=hl;cases hl;have tL:=eK hb;have:=zG ho b (by simpa using tL.1);refine⟨this.1,fun h2=>this.2 ?_⟩;have:=(eK h2).2;simpa using this
  refine⟨fun p=>dh p=false,⟨fun i hi _=>?_,fun i hi=>?_,fun i h1 h2=>?_,fun l hl b hb=>?_,fun i hi=>⟨fun p hp=>?_,by simp[dh],fun j=>by simp[dh]⟩,fun l hl b hb tL cs dB=>?_,fun d u hd nP _ hu=>?_⟩⟩
  ·simp only[he,dJ,dc];refine Cv (A6 ?_);cases hh:eB (aI (get s.env i)) with
   |false=>rfl
   |true=>exact absurd (sF hh) hi
  ·simp only[he,dJ,dc];rw[Cv (A6 ?_)];cases hh:eB (aI (get s.env i)) with
   |false=>rfl
   |true=>exact absurd (sF hh) hi
  ·simp only[he,dJ,dc];exact Cv fun p hp=>by rw[h2] at hp; simp at hp
  ·exact (off l hl b hb).1
  ·have:eB (aI (get s.env i))=false:=by
    cases hh:eB (aI (get s.env i)) with
    |false=>rfl
    |true=>exact absurd (sF hh) hi
   rw[A6 this p hp]; simp
  ·obtain⟨o1,o2⟩:=(off l hl b hb).2 tL cs dB;exact⟨fun p hp=>(by rw[o2] at hp; cases hp),fun ho=>(by rw[o1] at ho; cases ho)⟩
  ·let t0:St:=NA ⟨put s.env d u,s.H⟩
   have hg:∀i,get t0.env i=if i=d then u else get s.env i:=fun i=>by rw[oT,bz]
   have hH:t0.H=s.H:=rfl
   have hrd:∀i∈kd.reads,get t0.env i=get s.env i:=fun i hi=>by
    rw[hg,if_neg]; intro e; subst e; exact hd hi
   refine⟨t0,⟨jQ kS t0.env,H'⟩,eU t0.env,(qq _).symm,?_,fun i hi=>?_,?_,rfl⟩
   ·rw[iU];unfold dj;rw[wY hi,AU hl];simp only[fL,AN hmv];apply qQ;unfold dO;rw[gW (e1:=t0.env) (e2:=s.env) fun i hi=>by rw[hrd i hi],ha];simp only[hf,hm,he,dJ,bk,if_false];rw[gW (e1:=t0.env) (e2:=s.env) fun i hi=>by rw[hrd i hi],LL];simp only[W4,if_true,iN,hH,hp,hc,hr];simp
    first
     |done
     |rfl
     |(congr 1)
   ·obtain⟨_,h2⟩:=Gm hi;have:get (put s.env d u) i=get t0.env i:=(oT ⟨put s.env d u,s.H⟩ i).symm;simp only[this,hg] at h2;split at h2
    ·rename_i e;subst e;obtain⟨p,hp,hn⟩:=A7.1 h2;exact absurd hn (hu p hp)
    ·exact sF h2
   ·intro i;simp only[he,dJ,dc,hg,bz];split
    ·refine Cv fun p hp=>?_;have:=hu p hp;simpa using this
    ·rfl
 ·rename_i iN;split at h
  case isFalse=>cases h
  rename_i ZP;split at h
  case h_2=>cases h
  rename_i r H' hc;split at h
  case isFalse=>cases h
  rename_i mX;simp only[af,aA] at h;obtain⟨rfl,rfl,h⟩:=h;split at h
  ·cases h
  unfold mH at h;split at h
  case h_2=>cases h
  rename_i p Ym;split at h
  case h_2=>cases h
  rename_i y hp;obtain⟨k,xs⟩:=y;simp only[Fq.wr.injEq] at h;obtain⟨rfl,rfl⟩:=h
  have Cm:∀t:St,aq t p=some (k,xs)->dJ (cU args) t=setAt (bX (fb p k xs) t) p (.list k xs):=fun t ht=>by
   rw[Ym];simp only[dJ,EI,ht]
  rw[Cm s hp];refine UA hp fun t ht hpt=>?_;rw[iU];unfold dj;rw[wY hi,AU hl];simp only[fL,AN hmv];apply qQ;unfold dO;rw[gW (e1:=t.env) (e2:=s.env) fun i hi=>by rw[ht i hi],ha];simp only[hf,hm,bk,if_false];rw[Cm t hpt];rw[Cm s hp] at LL
  have hk:getArgs c (setAt (bX (fb p k xs) t) p (.list k xs)).env kd=some (f1,oY):=by
   rw[<-LL];refine gW fun i hi=>?_
   have e0:get (bX (fb p k xs) t).env i=get (bX (fb p k xs) s).env i:=by
    show get (jQ (fb p k xs) t.env) i=get (jQ (fb p k xs) s.env) i;rw[dc,dc,ht i hi]
   have e1:get (setAt (bX (fb p k xs) t) p (.list k xs)).env i=get (setAt (bX (fb p k xs) s) p (.list k xs)).env i:=by
    by_cases hr:i∈rootOf p
    ·cases p with
     |s i0=>
       simp[rootOf] at hr; subst hr;simp only[setAt];rw[bz,bz,if_pos rfl,if_pos rfl]
     |sc i0 j=>
       simp[rootOf] at hr; subst hr;simp only[setAt,e0];split
       ·rw[bz,bz,if_pos rfl,if_pos rfl]
       ·exact e0
     |c b j=>simp[rootOf] at hr
    ·rw[fJ hr,fJ hr]; exact e0
   rw[e1]
  rw[hk];simp only[W4,if_true,iN,bk,if_false,ZP,hc,mX];simp[Ym,mH,hpt]
theorem Ta {s s1:St} {k n:Nat} {zs:List AV} {ps:List (Nat × Nat × E)} {v:AV} {sl:List Nat} {bs:Option (List Nat)} (h:eO c call s (.eL k n zs ps)=some (v,s1,.wr sl bs)):∃V,uK c call s (.eL k n zs ps) v s1 sl bs V:=by
 simp only[eO] at h;split at h
 case h_2=>cases h
 rename_i cs hc;split at h
 case isFalse=>cases h
 rename_i hz;simp only[af,aA] at h;obtain⟨rfl,rfl,h⟩:=h;split at h
 ·cases h
 unfold mH at h;split at h
 case h_2=>cases h
 rename_i p Ym;split at h
 case h_2=>cases h
 rename_i y hp;obtain⟨k',xs⟩:=y;simp only[Fq.wr.injEq] at h;obtain⟨rfl,rfl⟩:=h
 have Cm:∀t:St,aq t p=some (k',xs)->dJ (gg c s.env ps) t=setAt (bX (fb p k' xs) t) p (.list k' xs):=fun t ht=>by
  rw[Ym];simp only[dJ,EI,ht]
 rw[Cm s hp] at hc ⊢;refine UA hp fun t ht hpt=>?_;have hpb:gg c t.env ps=gg c s.env ps:=qG fun i hi=>by rw[ht i hi]
 have hk:qb c (setAt (bX (fb p k' xs) t) p (.list k' xs)).env (rep zs n) ps=some cs:=by
  rw[<-hc];refine rO fun i hi=>?_
  have e0:get (bX (fb p k' xs) t).env i=get (bX (fb p k' xs) s).env i:=by
   show get (jQ (fb p k' xs) t.env) i=get (jQ (fb p k' xs) s.env) i;rw[dc,dc,ht i hi]
  have e1:get (setAt (bX (fb p k' xs) t) p (.list k' xs)).env i=get (setAt (bX (fb p k' xs) s) p (.list k' xs)).env i:=by
   by_cases hr:i∈rootOf p
   ·cases p with
    |s i0=>
      simp[rootOf] at hr; subst hr;simp only[setAt];rw[bz,bz,if_pos rfl,if_pos rfl]
    |sc i0 j=>
      simp[rootOf] at hr; subst hr;simp only[setAt,e0];split
      ·rw[bz,bz,if_pos rfl,if_pos rfl]
      ·exact e0
    |c b j=>simp[rootOf] at hr
   ·rw[fJ hr,fJ hr]; exact e0
  rw[e1]
 simp only[eO,hpb,Cm t hpt,hk,hz,if_true];simp[Ym,mH,hpt]
theorem yH {b off k:Nat}:∀{s:St} {v:AV},Fj (cM b off k) s v=false->(∀i,∀p∈aI (get s.env i),cM b off k p=false)/\(∀d cs,aN s.H d=some cs->∀p∈cU cs,cM b off k p=false)/\∀ p∈aI v,cM b off k p=false:=by
 intro s v h;simp only[Fj,dZ] at h;obtain⟨h1,h2,h3⟩:=h;refine⟨fun i p hp=>?_,fun d cs hb=>Ff h3 hb,fun p hp=>?_⟩
 ·cases hh:cM b off k p with
  |false=>rfl
  |true=>rw[Mq (i:=i) (ti.2 ⟨p,hp,hh⟩)] at h2; cases h2
 ·cases hh:cM b off k p with
  |false=>rfl
  |true=>rw[ti.2 ⟨p,hp,hh⟩] at h1; cases h1
theorem Z0 {p:Rt} {b:Nat} (h:mZ b (RG p)=false):b∉kB p:=by
 cases p with
 |s i=>simp[kB]
 |sc i j=>simp[kB]
 |c d j=>
   have:=(nK h).2 99999;simp only[RG,kB,cD] at this ⊢;intro e;subst e;exact this rfl
theorem q9.Ra {b j:Nat} {s t:St} (h:∀cs,aN s.H b=some cs->∃ds,aN t.H b=some ds/\ds[j]?=cs[j]?):q9 b j s t:=fun cs hc=>by
 obtain⟨ds,a,e⟩:=h cs hc;exact⟨ds,a,tF _ e⟩
theorem Na {s:St} {p:Rt} {k:Nat} {xs xs':List AV} (hp:aq s p=some (k,xs)) (hl:xs'.length=xs.length) (b j:Nat):q9 b j s (setAt s p (.own k xs'))/\q9 b j (setAt s p (.own k xs')) s:=by
 cases p with
 |s i=>exact⟨.of_eq rfl,.of_eq rfl⟩
 |sc i l=>
   have e:(setAt s (.sc i l) (.own k xs')).H=s.H:=by simp only[setAt]; split<;>rfl
   exact⟨.of_eq (by rw[e]),.of_eq (by rw[e])⟩
 |c d l=>
   have h1:=bR.1 hp;simp only[at_] at h1;split at h1
   case h_2=>cases h1
   rename_i cs dB;have e:(setAt s (.c d l) (.own k xs')).H=s.H.set d (some (cs.set l (.own k xs'))):=by simp only[setAt,dB]
   have hb:∀c,aN (setAt s (.c d l) (.own k xs')).H c=if c=d then some (cs.set l (.own k xs')) else aN s.H c:=fun c=>by
    rw[e,df];by_cases q:c=d
    ·rw[if_pos ⟨q,by subst q; exact dp dB⟩,if_pos q]
    ·rw[if_neg (fun h=>q h.1),if_neg q]
   by_cases q:b=d
   ·subst q;have lc:=AX (f:=fun i=>Rt.c b i) (j:=0) h1 hl;refine⟨fun ds nP=>⟨_,by rw[hb,if_pos rfl],?_⟩,fun ds nP=>⟨cs,dB,?_⟩⟩
    ·rw[dB] at nP; cases nP;exact congrArg (·[j]?) lc
    ·rw[hb,if_pos rfl] at nP; cases nP;exact (congrArg (·[j]?) lc).symm
   ·exact⟨.of_eq (by rw[hb,if_neg q]),.of_eq (by rw[hb,if_neg q])⟩
theorem ael {s s1:St} {k:Nat} {x y:E} {v:AV} {sl:List Nat} {bs:Option (List Nat)} (h:eO c call s (.st k x y)=some (v,s1,.wr sl bs)):∃V,OH c call s (.st k x y) v s1 sl bs V:=by
 have hcg:∀{d:Nat} {u:AV} {e:Env},(∀i,get e i=if i=d then u else get s.env i)->d∉(Kd.st k x y).reads->aR c e x=aR c s.env x/\aR c e y=aR c s.env y:=by
  intro d u e he hd;simp only[Kd.reads,aC,not_or] at hd;exact⟨bN fun i hi=>by rw[he,if_neg]; intro e; subst e; exact hd.1 hi,bN fun i hi=>by rw[he,if_neg]; intro e; subst e; exact hd.2 hi⟩
 have FF:∀{d:Nat} {u:AV},∀i,get (put s.env d u) i=if i=d then u else get s.env i:=fun i=>bz _ _ _ _;simp only[eO] at h;split at h
 ·rename_i k' p i off hx;split at h
  case h_2=>cases h
  rename_i s2 f hh;simp only[af,aA] at h;obtain⟨rfl,rfl,h⟩:=h
  have he:aI (aR c s.env y)=[]:=by
   cases hb:aI (aR c s.env y) with
   |nil=>rfl
   |cons a b=>rw[hb] at h; simp at h
  rw[he] at h hh;simp at h;subst h;rw[show dJ [] s=s from rfl,hx] at hh;simp only[MA] at hh;split at hh
  case h_2=>cases hh
  rename_i k2 xs hp;split at hh
  case isFalse=>cases hh
  rename_i hk;split at hh
  case h_2=>cases hh
  rename_i z hz;by_cases hc:(aR c s.env y).cells.length=k/\off+k<=k'/\IY (aR c s.env y).cells=true
  case neg=>rw[if_neg hc] at hh; cases hh
  rw[if_pos hc] at hh;simp only[af,aA,Fq.wr.injEq] at hh;obtain⟨rfl,rfl,rfl⟩:=hh;have vP:=vv hp;refine⟨fun _=>False,⟨fun i _ hi=>fJ fun hm=>hi (wS.2 hm),fun i _=>Nc (hk▸hp) (cO ..) i,(fun i h1 h2=>fJ fun hi=>by rw[vP i hi] at h1; cases h1),fun l hl b hb=>(by cases hl; exact sC (Z0 hb)),fun l hl b j hb hbj=>(by cases hl; exact Na (hk▸hp) (cO ..) b j),fun i hi=>⟨fun _ _=>id,id,fun _=>id⟩,fun l hl b hb tL cs dB=>⟨fun _ _=>id,fun _ _=>id⟩,fun l hl b j _ _ _ cs c0 _ _=>⟨fun _ _=>id,fun _ _ _=>id⟩,fun d u hd _ hds0 hu=>?_⟩⟩;have nP:d∉rootOf p:=fun hm=>hds0 (wS.2 hm);obtain⟨e1,e2⟩:=hcg (FF (d:=d) (u:=u)) hd;refine⟨⟨put s.env d u,s.H⟩,_,marks (rootOf p),dy.rfl',?_,fun i hi=>hi,sB nP⟩;simp only[eO,e1,hx,e2,he];rw[show dJ [] ⟨put s.env d u,s.H⟩=(⟨put s.env d u,s.H⟩:St) from rfl,e1,hx,e2];simp only[MA,nt nP,hp,hk,if_true,hz];rw[if_pos hc];simp
 ·rename_i hnp;split at h
  case h_2=>cases h
  rename_i s2 f hh;simp only[af,aA] at h;obtain⟨rfl,rfl,rfl⟩:=h;unfold MA at hh;split at hh
  ·rename_i b off hx;unfold xI at hh;split at hh
   case h_2=>cases hh
   rename_i cs hb;split at hh
   case isFalse=>cases hh
   rename_i hc;split at hh
   ·split at hh
    ·split at hh<;>simp at hh
    ·cases hh
   ·rename_i F2;simp only[af,aA,Fq.wr.injEq] at hh;obtain⟨rfl,rfl,rfl⟩:=hh
    have RJ:bF ((cs.drop off).take k)=true->Fj (cM b off k) s (aR c s.env y)=false:=fun ho=>by
     rw[ho] at F2; simpa using F2
    apply uK.up;refine⟨fun p=>bF ((cs.drop off).take k)=true/\cM b off k p=true,⟨fun i hi _=>rfl,fun i hi=>rfl,fun i h1 h2=>rfl,fun l hl d hd=>?_,fun i hi=>⟨fun p hp hV=>?_,fun hV=>by simp[cM] at hV,fun j hV=>by simp[cM] at hV⟩,fun l hl d hd BS ds nP=>⟨fun p hp hV=>?_,fun _ j hV=>?_⟩,fun d u hd nP _ hu=>?_⟩⟩
    ·cases hl;have:d≠b:=by simpa using hd
     show aN (s.H.set b _) d=aN s.H d;rw[df,if_neg (fun e=>this e.1)]
    ·rw[(yH (RJ hV.1)).1 i p hp] at hV; cases hV.2
    ·rw[(yH (RJ hV.1)).2.1 d ds nP p hp] at hV; cases hV.2
    ·cases hl;have:d≠b:=by simpa using hd
     simp[cM,this] at hV
    ·let t0:St:=NA ⟨put s.env d u,s.H⟩
     have hg:∀i,get t0.env i=if i=d then u else get s.env i:=fun i=>by rw[oT,bz]
     have hH:t0.H=s.H:=rfl;obtain⟨e1,e2⟩:=hcg hg hd;refine⟨t0,⟨t0.env,s.H.set b (some (iX cs off (aR c s.env y).cells))⟩,[],(qq _).symm,?_,fun i hi=>hi,(qq _).symm.1,rfl⟩
     have afI:(bF ((cs.drop off).take k)&&Fj (cM b off k) t0 (aR c s.env y))=false:=by
      cases ho:bF ((cs.drop off).take k) with
      |false=>rfl
      |true=>
        obtain⟨n1,n2,n3⟩:=yH (RJ ho)
        have nR:∀{l:List Rt},(∀p∈l,cM b off k p=false)->wc (cM b off k) l=false:=by
         intro l hl;cases hh:wc (cM b off k) l with
         |false=>rfl
         |true=>obtain⟨p,hp,hq⟩:=ti.1 hh; rw[hl p hp] at hq; cases hq
        have h0:=RJ ho;simp only[Fj,dZ] at h0;simp only[Fj,Bool.true_and,dZ];refine⟨h0.1,?_,by rw[hH]; exact h0.2.2⟩;cases hh:Fi (cM b off k) t0.env with
        |false=>rfl
        |true=>
          obtain⟨i,_,h2⟩:=Fh hh;have:get (put s.env d u) i=get t0.env i:=(oT ⟨put s.env d u,s.H⟩ i).symm;simp only[this,hg] at h2;split at h2
          ·obtain⟨p,hp,hq⟩:=ti.1 h2;exact absurd ⟨ho,hq⟩ (hu p hp)
          ·rw[nR (n1 i)] at h2; cases h2
     simp only[eO,e1,hx,e2,MA,xI,hH,hb];rw[if_pos hc];simp only[afI,bk,if_false]
  ·rename_i k2 p2 i2 Zh e1;exact absurd e1 (hnp k2 p2 i2 Zh)
  ·cases hh
theorem C8 {q:Rt}:∀{l:List Rt},q∈l->∀i∈rootOf q,i∈yd l
 |[],h,i,_=>by simp at h
 |r::l,h,i,hi=>by
   simp only[yd,aC];rcases aK.1 h with e|e
   ·subst e; exact .inl hi
   ·exact .inr (C8 e i hi)
theorem Xy {s t:St} {k:Nat} {x:AV} (h:∀p∈aI x,aq t p=aq s p):cont t k x=cont s k x:=by
 cases x<;>try rfl
 case du k' p off len=>simp only[cont]; rw[h p (by simp[aI])]
 case own k' xs=>cases xs<;>rfl
theorem UJ {p:Rt} {x:AV} (h:p∉aI x):cC (sw p) x=x:=zN x fun k q o l hq=>by
 have:q≠p:=fun e=>h (e▸hq);simp[sw,this]
theorem O3 {p:Rt} {x:List AV} (h:p∉cU x):cK (sw p) x=x:=nD x fun k q o l hq=>by
 have:q≠p:=fun e=>h (e▸hq);simp[sw,this]
theorem E6 {p:Rt} {b:Nat} {m:List Nat} (h:mZ b (cellOf p++m)=false):b∉kB p:=by
 intro hb;cases p with
 |s i=>simp[kB] at hb
 |sc i j=>simp[kB] at hb
 |c d j=>
   simp[kB] at hb;subst hb;exact (nK h).2 j (by simp[cellOf])
theorem acd {s s1:St} {k:Nat} {x y:E} {v:AV} {sl:List Nat} {bs:Option (List Nat)} (h:eO c call s (.app k x y)=some (v,s1,.wr sl bs)):∃V,OH c call s (.app k x y) v s1 sl bs V:=by
 simp only[eO] at h;split at h
 case h_2=>cases h
 rename_i ys hy;split at h
 case isFalse=>cases h
 rename_i hl;split at h
 ·split at h<;>simp at h
 case h_3=>cases h
 rename_i k' p len hx;split at h
 case h_2=>cases h
 rename_i k2 xs hp;split at h
 case isFalse=>cases h
 rename_i hc;simp only[af,aA,Fq.wr.injEq] at h;obtain⟨rfl,rfl,rfl,rfl⟩:=h;have vP:=vv hp;have zn:∀i∈rootOf p,i∈k7 p s.env:=fun i hi=>nj (.inr ⟨rJ.2 hi,fun e=>by have:=vP i hi; rw[e] at this; cases this⟩);have nv:∀{i:Nat},i∉k7 p s.env->p∉aI (get s.env i)/\i∉rootOf p:=fun{i} hi=>⟨fun e=>hi (nj (.inl (s7.2 e))),fun e=>hi (zn i e)⟩
 have EP:∀i,p∉aI (get s.env i)->i∉rootOf p->get (setAt (bX (sw p) s) p .any).env i=get s.env i:=fun i h1 h2=>by
  rw[fJ h2];show get (jQ (sw p) s.env) i=_;rw[dc,UJ h1]
 refine⟨fun q=>q=p,⟨fun i hi _=>?_,fun i hi=>?_,fun i h1 h2=>?_,fun l hl b hb=>?_,fun l hl b j hb hbj=>?_,fun i hi=>⟨fun q hq e=>?_,fun e=>?_,fun j e=>?_⟩,fun l hl b hb tL cs dB=>⟨fun q hq e=>?_,fun _ j e=>?_⟩,fun l hl b j hb tL hbj cs c0 dB ED=>⟨fun q hq e=>?_,fun k0 xs0 e0 e=>?_⟩,fun d u hd nP hds2 hu=>?_⟩⟩
 ·obtain⟨h1,h2⟩:=nv (eK hi).1;exact EP i h1 h2
 ·obtain⟨h1,h2⟩:=nv (eK hi).1;rw[EP i h1 h2]
 ·exact EP i (by rw[h2]; simp) fun hi=>by rw[vP i hi] at h1; cases h1
 ·cases hl;have zW:b∉kB p:=E6 hb;have tL:=(eK (nK hb).1).2;rw[sC zW];show aN (fH (sw p) s.H) b=_;rw[eZ];cases dB:aN s.H b with
  |none=>rfl
  |some cs=>
    simp only[bV,af];refine O3 fun hm=>tL ?_;have:=k8 (k:=0) dB hm;simpa using this
 ·cases hl;obtain⟨zW,tL⟩:=eK hb;obtain⟨hj1,_⟩:=eK hbj
  have hsw:∀cs,aN s.H b=some cs->cK (sw p) cs=cs:=fun cs dB=>O3 fun hm=>tL (by
   have:=k8 (k:=0) dB hm;simpa using this)
  have hn:aN s.H b=none->aN (setAt (bX (sw p) s) p .any).H b=none:=fun hn=>by
   cases p with
   |s i=>show aN (fH (sw _) s.H) b=none; rw[eZ,hn]; rfl
   |sc i l=>
     simp only[setAt];split<;>(show aN (fH (sw _) s.H) b=none; rw[eZ,hn]; rfl)
   |c d l=>
     simp only[setAt];split
     ·rename_i cs dB;have hcs':aN (fH (sw (.c d l)) s.H) d=some cs:=dB;show aN ((fH (sw (.c d l)) s.H).set d _) b=none;rw[df];by_cases e:b=d
      ·subst e; rw[eZ,hn] at hcs'; cases hcs'
      ·rw[if_neg (fun h=>e h.1),eZ,hn]; rfl
     ·show aN (fH (sw _) s.H) b=none; rw[eZ,hn]; rfl
  have hs:∀cs,aN s.H b=some cs->∃ds,aN (setAt (bX (sw p) s) p .any).H b=some ds/\ds[j]?=cs[j]?:=fun cs dB=>by
   have hm:aN (fH (sw p) s.H) b=some cs:=by rw[eZ,dB,bV,hsw cs dB]
   cases p with
   |s i=>exact⟨cs,hm,rfl⟩
   |sc i l=>
     simp only[setAt];split<;>exact⟨cs,hm,rfl⟩
   |c d l=>
     simp only[setAt];split
     ·rename_i es TL;have hes':aN (fH (sw (.c d l)) s.H) d=some es:=TL;show ∃ds,aN ((fH (sw (.c d l)) s.H).set d _) b=some ds/\_;rw[df];by_cases e:b=d
      ·subst e;rw[hm] at hes';cases hes';refine⟨cs.set l .any,by rw[if_pos ⟨rfl,dp hm⟩],?_⟩;rw[List.getElem?_set_ne];intro e2;subst e2;exact hj1 (by simp[cellOf])
      ·rw[if_neg (fun h=>e h.1)];exact⟨cs,hm,rfl⟩
     ·exact⟨cs,hm,rfl⟩
  refine⟨.Ra hs,.Ra fun ds nP=>?_⟩;cases dB:aN s.H b with
  |none=>rw[hn dB] at nP; cases nP
  |some cs=>
    obtain⟨ds',h1,h2⟩:=hs cs dB;rw[h1] at nP;cases nP;exact⟨cs,rfl,h2.symm⟩
 ·subst e;exact (nv (eK hi).1).1 hq
 ·subst e;exact (nv (eK hi).1).2 (by simp[rootOf])
 ·subst e;exact (nv (eK hi).1).2 (by simp[rootOf])
 ·subst e;cases hl;obtain⟨zW,tL⟩:=eK (nK hb).1;have:=k8 (k:=0) dB hq;exact tL (by simpa using this)
 ·subst e;cases hl;exact E6 hb (by simp[kB])
 ·subst e;cases hl;obtain⟨zW,tL⟩:=eK hb;have:=k8 (k:=0) dB (jH.2 ⟨c0,aU ED,hq⟩);exact tL (by simpa using this)
 ·subst e;cases hl;exact (eK hbj).1 (by simp[cellOf])
 ·have W6:=(eK nP).1;have BS:d∉yd (aI (aR c s.env y)):=fun hm=>(eK hds2).2 (wS.2 hm);obtain⟨hd3,hd4⟩:=nv W6
  let t0:St:=NA ⟨put s.env d u,s.H⟩
  have Ez:dy t0 ⟨put s.env d u,s.H⟩:=(qq _).symm;have hg:∀i,get t0.env i=if i=d then u else get s.env i:=fun i=>by rw[oT,bz]
  have hH:t0.H=s.H:=rfl;simp only[Kd.reads,aC,not_or] at hd;have e1:aR c t0.env x=aR c s.env x:=bN fun i hi=>by rw[hg,if_neg]; intro e; subst e; exact hd.1 hi
  have e2:aR c t0.env y=aR c s.env y:=bN fun i hi=>by rw[hg,if_neg]; intro e; subst e; exact hd.2 hi
  have own:∀q,d∉rootOf q->aq t0 q=aq s q:=fun q hq=>by rw[<-Ez.own q]; exact nt hq
  have e3:cont t0 k (aR c s.env y)=cont s k (aR c s.env y):=Xy fun q hq=>own q fun hr=>BS (C8 hq d hr);have FV:p∉aI u:=fun hm=>hu p hm rfl;refine⟨t0,setAt (bX (sw p) t0) p .any,k7 p t0.env++marks (yd (aI (aR c s.env y))),Ez,?_,fun i hi=>?_,?_⟩
  ·simp only[eO,e1,e2,e3,hy,hl,if_true,hx,own p hd4,hp];rw[if_pos hc];rfl
  ·rcases aC.1 hi with hi|hi
   ·obtain⟨_,h2⟩:=Ax hi;have:get (put s.env d u) i=get t0.env i:=(oT ⟨put s.env d u,s.H⟩ i).symm;simp only[this,hg] at h2;refine aC.2 (.inl ?_);rcases h2 with h2|h2
    ·split at h2
     ·exact absurd (s7.1 h2) FV
     ·exact nj (.inl h2)
    ·exact zn i (rJ.1 h2)
   ·exact aC.2 (.inr hi)
  ·have h5:dy (bX (sw p) t0) ⟨put (bX (sw p) s).env d u,(bX (sw p) s).H⟩:=⟨fun i=>by
    show get (jQ (sw p) t0.env) i=get (put (jQ (sw p) s.env) d u) i;rw[dc,hg,bz,dc];split
    ·exact UJ FV
    ·rfl,rfl⟩
   exact (C5 h5 p .any).trans (sB hd4)
theorem acb {s s1:St} {f:Nat} {x:E} {es:List E} {g:Nat->List AV->List AV->Option (List AV)} {v:AV} {sl:List Nat} {bs:Option (List Nat)} (hi:c.inp f=none) (Jt:c.eat f=some g) (h:Of s g (aR c s.env x) (dm c s.env es)=some (v,s1,.wr sl bs)):∃V,OH c call s (.call f (x::es)) v s1 sl bs V:=by unfold Of at h;cases h
theorem aca {s s1:St} {kd:Kd} {v:AV} {sl:List Nat} {bs:Option (List Nat)} (hni:∀f x es,kd=.call f (x::es)->c.inp f≠none) (iU:∀t,eO c call t kd=dj c call kd t) (h:pW c s kd=some (some (v,s1,.wr sl bs))):∃V,uK c call s kd v s1 sl bs V:=by
 have h0:=h;unfold pW at h;split at h
 case h_2=>cases h
 rename_i f x es;split at h
 case h_1=>
  rename_i hin;exact absurd hin (hni _ _ _ rfl)
 rename_i g Jt;simp only[af] at h;split at h
 case h_4=>cases h
 case h_3=>
  exfalso
  (repeat' split at h)<;>simp at h
 ·rename_i k hx;split at h
  case isFalse=>cases h
  rename_i mX;split at h
  case h_2=>cases h
  rename_i ys res FZ;simp only[af,aA,Fq.wr.injEq] at h;obtain⟨rfl,rfl,rfl,rfl⟩:=h;refine⟨fun _=>False,⟨fun i hi _=>rfl,fun i hi=>rfl,fun i h1 h2=>rfl,fun l hl b hb=>rfl,fun i hi=>⟨fun _ _=>id,id,fun _=>id⟩,fun l hl b hb tL cs dB=>⟨fun _ _=>id,fun _ _=>id⟩,fun d u hd nP _ hu=>?_⟩⟩;have FF:∀i,get (put s.env d u) i=if i=d then u else get s.env i:=fun i=>bz _ _ _ _;simp only[Kd.reads,mS,aC,not_or] at hd;have e1:aR c (put s.env d u) x=aR c s.env x:=bN fun i hi=>by rw[FF,if_neg]; intro e; subst e; exact hd.1 hi
  have e2:dm c (put s.env d u) es=dm c s.env es:=fW fun i hi=>by rw[FF,if_neg]; intro e; subst e; exact hd.2 hi
  refine⟨⟨put s.env d u,s.H⟩,⟨put s.env d u,s.H⟩,[],dy.rfl',?_,fun i hi=>hi,dy.rfl'⟩;rw[iU];unfold dj pW;simp only[Jt,e1,hx,e2];rw[if_pos mX];simp only[FZ]
 rename_i k p len hx;split at h
 case h_2=>cases h
 rename_i k' xs hp;split at h
 case isFalse=>cases h
 rename_i hc;split at h
 case h_2=>cases h
 rename_i ys res FZ;simp only[af,aA,Fq.wr.injEq] at h;obtain⟨rfl,rfl,rfl,rfl⟩:=h;have vP:=vv hp;refine⟨fun _=>False,⟨fun i hi _=>fJ hi,(fun i hi=>by rw[fJ hi]),(fun i h1 h2=>fJ fun hi=>by rw[vP i hi] at h1; cases h1),fun l hl b hb=>(by cases hl; exact sC hb),fun i hi=>⟨fun _ _=>id,id,fun _=>id⟩,fun l hl b hb tL cs dB=>⟨fun _ _=>id,fun _ _=>id⟩,fun d u hd nP _ hu=>?_⟩⟩;have FF:∀i,get (put s.env d u) i=if i=d then u else get s.env i:=fun i=>bz _ _ _ _;simp only[Kd.reads,mS,aC,not_or] at hd;have e1:aR c (put s.env d u) x=aR c s.env x:=bN fun i hi=>by rw[FF,if_neg]; intro e; subst e; exact hd.1 hi
 have e2:dm c (put s.env d u) es=dm c s.env es:=fW fun i hi=>by rw[FF,if_neg]; intro e; subst e; exact hd.2 hi
 refine⟨⟨put s.env d u,s.H⟩,_,rootOf p,dy.rfl',?_,fun i hi=>hi,sB nP⟩;rw[iU];unfold dj pW;simp only[Jt,e1,hx,nt nP,hp,e2];rw[if_pos hc];simp only[FZ]
theorem Yt {s s1:St} {k:Nat} {x y:E} {v:AV} {sl:List Nat} {bs:Option (List Nat)} (h:eO c call s (.copy k x y)=some (v,s1,.wr sl bs)):∃V,uK c call s (.copy k x y) v s1 sl bs V:=by
 have iU:∀t,eO c call t (.copy k x y)=match aR c t.env x with
   |.du k' p off n=>if n=0 then (match cont t k (aR c t.env y) with
     |some ys=>if k'=k/\bm (az ys)=true then some (.int .i64 0,t,.all) else none
     |none=>none) else match aq t p,cont t k (aR c t.env y) with
     |some (wW,xs),some ys=>if k'=k/\wW=k/\off+n<=xs.length/\bm (az ys)=true then some (.int .i64 (min ys.length n:Nat),setAt t p (.own k (iX xs off (ys.take (min ys.length n)))),Ma p (aR c t.env y)) else none
     |_,_=>none
   |_=>none:=fun t=>rfl
 rw[iU] at h;split at h
 case h_2=>cases h
 rename_i k' p off n hx;split at h
 ·exfalso
  (repeat' split at h)<;>simp at h
 rename_i hn;split at h
 case h_2=>cases h
 rename_i wW xs ys hp hy;split at h
 case isFalse=>cases h
 rename_i hc;simp only[af,aA] at h;obtain⟨rfl,rfl,hl⟩:=h;rcases vX p (aR c s.env y) with e|⟨ky,oy,ly,ey,e⟩
 ·rw[e] at hl; cases hl
 rw[e] at hl;simp only[Fq.wr.injEq] at hl;obtain⟨rfl,rfl⟩:=hl;have vP:=vv hp;refine⟨fun _=>False,⟨fun i hi _=>fJ hi,(fun i hi=>by rw[fJ hi]),(fun i h1 h2=>fJ fun hi=>by rw[vP i hi] at h1; cases h1),fun l hl b hb=>(by cases hl; exact sC hb),fun i hi=>⟨fun _ _=>id,id,fun _=>id⟩,fun l hl b hb tL cs dB=>⟨fun _ _=>id,fun _ _=>id⟩,fun d u hd nP _ hu=>?_⟩⟩;have FF:∀i,get (put s.env d u) i=if i=d then u else get s.env i:=fun i=>bz _ _ _ _;simp only[Kd.reads,mS,aC,not_or] at hd;have e1:aR c (put s.env d u) x=aR c s.env x:=bN fun i hi=>by rw[FF,if_neg]; intro e; subst e; exact hd.1 hi
 have e2:aR c (put s.env d u) y=aR c s.env y:=bN fun i hi=>by rw[FF,if_neg]; intro e; subst e; exact hd.2 hi
 have e3:cont (⟨put s.env d u,s.H⟩:St) k (aR c s.env y)=cont s k (aR c s.env y):=by
  rw[ey];simp only[cont,nt nP]
 refine⟨⟨put s.env d u,s.H⟩,_,rootOf p,dy.rfl',?_,fun i hi=>hi,sB nP⟩;rw[iU];simp only[e1,hx,nt nP,hp,e2,e3,hy];rw[if_neg hn,if_pos hc,e]
theorem Ys {s s1:St} {kd:Kd} {v:AV} {sl:List Nat} {bs:Option (List Nat)} (iU:∀t,eO c call t kd=dj c call kd t) (h:pW c s kd=some (some (v,s1,.wr sl bs))):∃V,OH c call s kd v s1 sl bs V:=by
 by_cases hex:∃f x es,kd=.call f (x::es)/\c.inp f=none
 case neg=>
  exact uK.up (aca (fun f x es e hn=>hex ⟨f,x,es,e,hn⟩) iU h)
 case pos=>
  obtain⟨f,x,es,rfl,hin⟩:=hex;simp only[pW,hin] at h;split at h
  ·cases h
  ·rename_i g Jt;simp only[af] at h;exact acb hin Jt h
theorem JE {s s1:St} {kd:Kd} {v:AV} {sl:List Nat} {bs:Option (List Nat)} (iU:∀t,eO c call t kd=dj c call kd t) (h:eO c call s kd=some (v,s1,.wr sl bs)):∃V,OH c call s kd v s1 sl bs V:=by
 rw[iU] at h;unfold dj at h;cases hi:pW c s kd with
 |none=>
   rw[hi] at h;cases hl:mN c call s kd with
   |none=>
     rw[hl] at h;simp only[fL] at h;cases hm:rZ c call s kd with
     |none=>
       rw[hm] at h;replace h:=(iG h).resolve_right fun h=>by obtain⟨e,_⟩:=wI h; cases e
       exact uK.up (Yu iU hi hl hm h)
     |some r=>
       rw[hm] at h;simp only at h;subst h;obtain⟨e,_⟩:=wQ hm;cases e
   |some r=>
     rw[hl] at h;simp only at h;subst h;obtain⟨b,e⟩:=CC hl;cases e
 |some r=>
   rw[hi] at h;simp only at h;subst h;exact Ys iU hi
theorem wrOp {s s1:St} {kd:Kd} {v:AV} {sl:List Nat} {bs:Option (List Nat)} (h:eO c call s kd=some (v,s1,.wr sl bs)):∃V,OH c call s kd v s1 sl bs V:=by
 cases kd
 case call=>exact JE (fun _=>rfl) h
 case iR=>exact JE (fun _=>rfl) h
 case st=>exact ael h
 case app=>exact acd h
 case copy=>exact uK.up (Yt h)
 case eL=>exact uK.up (Ta h)
 case ld=>
  exfalso;simp only[eO] at h;split at h
  case h_2=>cases h
  split at h
  case isFalse=>cases h
  simp only[af,aA] at h;obtain⟨_,_,h5⟩:=h;rcases vJ _ _ _ with e|⟨b,j,e⟩<;>rw[e] at h5<;>cases h5
 all_goals
  exfalso;simp only[eO] at h
  (repeat' split at h)<;>simp at h
theorem aem:Al c call:=by
 intro s q v s1 sl bs ⟨hk,s0,t1,e0,he,e1⟩
 have op:eO c call s0 q.kd=some (v,t1,.wr sl bs)->(∀t:St,(∀i∈q.reads,get t.env i=get s.env i)->B5 c call t q=eO c call t q.kd)->∃V,WrEv c call s q v s1 sl bs V:=by
  intro h Cl;obtain⟨V,hV⟩:=wrOp h;have hr:∀i∈q.kd.reads,i∈q.reads:=fun i hi=>by simp[O.reads,hi]
  refine⟨V,⟨fun i hi ZY=>by rw[<-e1.1,hV.env i hi ZY,e0.1],fun i hi=>by rw[<-e1.1,hV.hd i hi,e0.1],fun i h1 h2=>by rw[<-e1.1,hV.keep i (by rw[<-e0.1]; exact h1) (by rw[<-e0.1]; exact h2),e0.1],fun l hl b hb=>by rw[<-e1.2,hV.heap l hl b hb,e0.2],fun l hl b j h1 h2=>(by
   have:=hV.cell l hl b j h1 h2;unfold q9 at this ⊢;rw[e0.2,<-e1.2]; exact this),fun i hi=>by rw[e0.1]; exact hV.v1 i hi,fun l hl b hb tL cs dB=>hV.v2 l hl b hb tL cs (by rw[<-e0.2]; exact dB),fun l hl b j h1 h2 h3 cs c0 hb hc=>hV.v3 l hl b j h1 h2 h3 cs c0 (by rw[<-e0.2]; exact hb) hc,fun d u hd nP hds2 hu=>?_⟩⟩
  obtain⟨t0,t2,sl',h1,h2,h3,h4⟩:=hV.go d u (fun h=>hd (hr d h)) nP hds2 hu;have h6:dy (⟨put s0.env d u,s0.H⟩:St) ⟨put s.env d u,s.H⟩:=⟨fun i=>by simp only[bz,e0.1],e0.2.symm⟩;have hs:dy (⟨put s.env d u,s.H⟩:St) t0:=(h1.trans h6).symm;refine⟨t2,sl',⟨hk,t0,t2,hs,?_,dy.rfl'⟩,h3,h4.trans ⟨fun i=>by simp only[bz,e1.1],e1.2⟩⟩;rw[Cl t0 fun i hi=>?_]
  ·exact h2
  ·rw[<-hs.1 i];show get (put s.env d u) i=_;rw[bz,if_neg];intro e; subst e; exact hd hi
 unfold B5 at he;cases hg:q.guard with
 |none=>
   rw[hg] at he;exact op he fun t _=>by unfold B5; rw[hg]
 |some gp=>
   obtain⟨g,want⟩:=gp;rw[hg] at he;simp only at he;have FZ:g∈q.reads:=by simp[O.reads,hg]
   split at he
   ·rename_i b hb;split at he
    ·rename_i NV;refine op he fun t h1=>?_;unfold B5;rw[hg];simp only[h1 g FZ,e0.1 g,hb,NV,if_true]
    ·cases he
   ·cases he
   ·cases he
theorem lwOp {s s1:St} {kd:Kd} {v:AV} {b:Nat} (h:eO c call s kd=some (v,s1,.lw b)):(∀t,eO c call t kd=dj c call kd t)/\pW c s kd=none/\mN c call s kd=some (some (v,s1,.lw b)):=by
 have nc:∀{kd:Kd},dj c call kd s=some (v,s1,.lw b)->pW c s kd=none/\mN c call s kd=some (some (v,s1,.lw b)):=by
  intro kd h;unfold dj at h;cases hi:pW c s kd with
  |some r=>
    rw[hi] at h;simp only at h;subst h;obtain⟨sl,bs,e|e⟩:=zS hi<;>cases e
  |none=>
    rw[hi] at h;cases hl:mN c call s kd with
    |some r=>
      rw[hl] at h;simp only at h;subst h;exact⟨rfl,rfl⟩
    |none=>
      rw[hl] at h;simp only[fL] at h;exfalso;split at h
      ·rename_i r hm;subst h;obtain⟨e,_⟩:=wQ hm;cases e
      replace h:=(iG h).resolve_right fun h=>by obtain⟨e,_⟩:=wI h; cases e
      unfold dO at h
      (repeat' split at h)
      all_goals first
       |(cases h; done)
       |(simp[Bg] at h; done)
       |(simp at h; obtain⟨_,_,h5⟩:=h; revert h5; split<;>simp[Bg]; done)
       |(simp only[af,aA] at h; obtain⟨_,_,h5⟩:=h; split at h5<;>cases h5)
 have ns:∀{s s':St} {k:Nat} {a v:AV},MA s k a v≠some (s',.lw b):=by
  intro s s' k a v h;unfold MA xI at h
  repeat' split at h
  all_goals first
   |(cases h; done)
   |(simp at h; done)
 cases kd
 case call=>exact⟨fun _=>rfl,nc h⟩
 case iR=>exact⟨fun _=>rfl,nc h⟩
 case st k a v=>
  exfalso;simp only[eO] at h;split at h
  ·split at h
   case h_2=>cases h
   rename_i hh;simp only[af,aA] at h;obtain⟨_,_,h5⟩:=h;split at h5
   ·rw[h5] at hh; exact ns hh
   ·cases h5
  ·split at h
   case h_2=>cases h
   rename_i hh;simp only[af,aA] at h;obtain⟨_,_,h5⟩:=h;rw[h5] at hh;exact ns hh
 all_goals
  exfalso;simp only[eO] at h
  (repeat' split at h)
  all_goals first
   |(cases h; done)
   |(simp at h; done)
   |(simp[Bg] at h; done)
   |(simp at h; obtain⟨_,_,h5⟩:=h; rcases vJ _ _ _ with e|⟨b,j,e⟩<;>rw[e] at h5<;>cases h5; done)
   |(simp at h; obtain⟨_,_,h5⟩:=h; rcases vX _ _ with e|⟨_,_,_,_,e⟩<;>rw[e] at h5<;>cases h5; done)
   |(simp at h; obtain⟨_,_,h5⟩:=h; revert h5; split<;>simp)
theorem afs:Ao c call:=by
 intro s q v s1 b ⟨hk,s0,t1,e0,he,e1⟩
 have op:eO c call s0 q.kd=some (v,t1,.lw b)->(∀t:St,(∀i∈q.reads,get t.env i=get s.env i)->B5 c call t q=eO c call t q.kd)->∃cs cs',LwEv c call s q v s1 b cs cs':=by
  intro h Cl;obtain⟨iU,hi,hl⟩:=lwOp h;obtain⟨f,x,es,b',md,q',cs,cs',hkd,h1,h2,h3,h4,h5,h6,h7,h8,h9⟩:=vH hl;simp only[Fq.lw.injEq] at h9;subst h9;have hin:∀i∈mS (x::es),i∈q.reads:=fun i hi=>by simp[O.reads,hkd,Kd.reads,hi]
  refine⟨cs,cs',⟨by rw[e0.2]; exact h4,?_,fun t ht hbt=>?_⟩⟩
  ·refine e1.symm.trans ?_;rw[h8];exact⟨fun i=>(e0.1 i).symm,by show s0.H.set b (some cs')=s.H.set b (some cs'); rw[e0.2]⟩
  ·refine⟨hk,t,⟨t.env,t.H.set b (some cs')⟩,dy.rfl',?_,dy.rfl'⟩;rw[Cl t ht,iU];unfold dj;rw[wY hi t]
   have bY:mN c call t q.kd=some (some (v,⟨t.env,t.H.set b (some cs')⟩,.lw b)):=by
    have e2:aR c t.env x=aR c s0.env x:=bN fun i hi=>by rw[ht i (hin i (by simp[mS,hi])),e0.1 i]
    have e3:dm c t.env es=dm c s0.env es:=fW fun i hi=>by rw[ht i (hin i (by simp[mS,hi])),e0.1 i]
    rw[hkd];unfold mN;simp only;rw[if_pos h1];unfold Tx;rw[e2,e3,h2];simp only[h3,hbt];rw[if_pos h5,h6];simp only;rw[if_pos h7]
   rw[bY]
 unfold B5 at he;cases hg:q.guard with
 |none=>
   rw[hg] at he;exact op he fun t _=>by unfold B5; rw[hg]
 |some gp=>
   obtain⟨g,want⟩:=gp;rw[hg] at he;simp only at he;have FZ:g∈q.reads:=by simp[O.reads,hg]
   split at he
   ·rename_i b hb;split at he
    ·rename_i NV;refine op he fun t h1=>?_;unfold B5;rw[hg];simp only[h1 g FZ,e0.1 g,hb,NV,if_true]
    ·cases he
   ·cases he
   ·cases he
theorem adT (cW:eM P c) (Bc:HJ P c call):Fx P c call:=TX cW Bc (adU aaK aem afs)
end
end Go.Bm

/- The end of a function that sees boxes of others. -/
namespace Go.Bm
open Go.Am
mutual
theorem DK {o o':Rt->Option (Nat × List AV)} {nb GP:Nat} (hn:nb<=GP):∀x,kK x=true->ct o nb x->ct o' GP x
 |.ptr b off,_,h=>by simp only[ct] at h ⊢; omega
 |.agg cs,hp,h=>by simp only[kK] at hp; simp only[ct] at h ⊢; exact zr hn cs hp h
 |.dA cs,hp,h=>by simp only[kK] at hp; simp only[ct] at h ⊢; exact zr hn cs hp h
 |.func f a b,hp,h=>by simp only[kK,ae] at hp; simp only[ct] at h ⊢; exact⟨zr hn a hp.1 h.1,zr hn b hp.2 h.2.1,h.2.2⟩
 |.own _ _,hp,_=>by simp[kK] at hp
 |.du _ _ _ _,hp,_=>by simp[kK] at hp
 |.eR _ _ _ _,hp,_=>by simp[kK] at hp
 |.sl _ b _ _,_,h=>by simp only[ct] at h ⊢; omega
 |.any,_,_=>trivial|.undef,_,_=>trivial|.fg,_,_=>trivial|.fj,_,_=>trivial|.di,_,_=>trivial
 |.int _ _,_,_=>trivial|.bool _,_,_=>trivial|.str _,_,_=>trivial|.list _ _,_,_=>trivial|.de _,_,_=>trivial
theorem zr {o o':Rt->Option (Nat × List AV)} {nb GP:Nat} (hn:nb<=GP):∀xs,fo xs=true->jX o nb xs->jX o' GP xs
 |[],_,_=>trivial
 |x::r,hp,h=>by simp only[fo,ae] at hp; exact⟨DK hn x hp.1 h.1,zr hn r hp.2 h.2⟩
end
theorem wM {x:AV} (h:kK x=true):bH x=false:=by
 cases x<;>first|rfl|(simp[kK] at h; done)|skip
 rename_i cs;simp only[kK] at h;simp only[bH]
 induction cs with
 |nil=>rfl
 |cons y r ih=>
   simp only[fo,ae] at h;have h1:=h.1;cases y<;>first|exact ih h.2|(simp[kK] at h1; done)
theorem Ix:jM lQ:=by
 intro k r o l;cases r<;>exact⟨⟨(fun cs e=>by cases e),(fun k xs e=>by cases e)⟩,⟨(fun cs e=>by cases e),(fun k xs e=>by cases e)⟩⟩
section
variable {P:Program} {X:Nat->Prop} {φ nY φ':cX} {w w1 w':World} {N N1 N':Names} {s s' s1:St} {Ha:Heap} {B:Nat->Nat} {base:Nat} {v va:AV} {v':Value} {c:dM} {a:Act} {call:Nat->List AV->Heap->Option (AV × Heap)} {t:Nat->Value}
theorem QY {s s':St} (h:s'.H=s.H) (b j:Nat):aq s' (.c b j)=aq s (.c b j):=by simp only[aq,at_,h]
theorem tD (r:AV) (i:Nat):get [(0,r)] i=if i=0 then r else .any:=by simp only[Am.get]
theorem dY.leave (h:dY X φ w N s Ha t) {i0:Nat} {r:AV} (hr:get s.env i0=r) (hp:kK r=true):dY X φ w N ⟨[(0,r)],fH lQ s.H⟩ Ha (fun i=>if i=0 then t i0 else undef):=by
 have gV:=wM hp
 have slot:∀i,(∀k xs,get [(0,r)] i≠.own k xs)/\(aq ⟨[(0,r)],fH lQ s.H⟩ (.s i)=none/\∀ j,aq ⟨[(0,r)],fH lQ s.H⟩ (.sc i j)=none):=by
  intro i
  have h0:bH (get (⟨[(0,r)],fH lQ s.H⟩:St).env i)=false:=by
   show bH (get [(0,r)] i)=false;rw[tD]; split
   ·exact gV
   ·rfl
  refine⟨fun k xs e=>?_,dK h0⟩;have h1:bH (get [(0,r)] i)=false:=h0;rw[e] at h1; cases h1
 have box:∀b j,aq ⟨[(0,r)],fH lQ s.H⟩ (.c b j)=aq s (.c b j):=fun b j=>by
  rw[<-gK Ix s (.c b j)];exact QY rfl b j
 have own:∀{p},(aq ⟨[(0,r)],fH lQ s.H⟩ p).isSome->aq ⟨[(0,r)],fH lQ s.H⟩ p=aq s p/\∃ b j,p=.c b j:=by
  intro p hp;cases p with
  |s i=>rw[(slot i).2.1] at hp; cases hp
  |sc i j=>rw[(slot i).2.2 j] at hp; cases hp
  |c b j=>exact⟨box b j,b,j,rfl⟩
 have hlen:(fH lQ s.H).length=s.H.length:=fe _ _;have back:∀b,(aN (fH lQ s.H) b).isSome->(aN s.H b).isSome:=fun b hb=>by rw[eZ] at hb; simpa using hb
 have hl:∀k p a l,(ct (aq s) s.H.length (.du k p a l)->ct (aq ⟨[(0,r)],fH lQ s.H⟩) s.H.length (lQ (.du k p a l))/\Le (cu N (lQ (.du k p a l))) (cu N (.du k p a l)))/\(ct (aq s) s.H.length (.eR k p a l)->ct (aq ⟨[(0,r)],fH lQ s.H⟩) s.H.length (lQ (.eR k p a l))/\Le (cu N (lQ (.eR k p a l))) (cu N (.eR k p a l))):=by
  intro k p a l;cases p with
  |s i=>exact⟨fun _=>⟨trivial,Le.any _⟩,fun _=>⟨trivial,Le.any _⟩⟩
  |sc i j=>exact⟨fun _=>⟨trivial,Le.any _⟩,fun _=>⟨trivial,Le.any _⟩⟩
  |c b j=>
    refine⟨fun h=>⟨?_,Le.refl _⟩,fun h=>⟨?_,Le.refl _⟩⟩
    ·simp only[lQ,ct] at h ⊢; rw[box]; exact h
    ·simp only[lQ,ct] at h ⊢; rw[box]; exact h
 refine⟨fun i=>?_,fun i=>?_,h.heap,fun p k xs e=>?_,fun b cs e=>?_,fun p q n e1 e2 e3 e4=>?_,fun b p e1 e2 e3=>?_,fun b d e1 e2 e3=>h.bi b d (back b e1) (back d e2) e3⟩
 ·show bD _ _ (jW N i (get [(0,r)] i)) (if i=0 then t i0 else undef);rw[tD];by_cases e:i=0
  ·subst e;simp only[if_true];have:=h.env i0;rw[hr,wF N i0 gV] at this;rw[wF N 0 gV];exact this
  ·rw[if_neg e,if_neg e]; exact .any _ _
 ·show ct _ _ (get [(0,r)] i);rw[tD,hlen];split
  ·have:=h.Cx i0;rw[hr] at this;exact DK (aG _) r hp this
  ·trivial
 ·have:=own (p:=p) (by rw[e]; rfl);rw[this.1] at e;exact h.own p k xs e
 ·have hb:aN (fH lQ s.H) b=some cs:=e;rw[eZ] at hb;cases hc:aN s.H b with
  |none=>rw[hc] at hb; cases hb
  |some ds=>
    rw[hc] at hb;simp at hb;subst hb;obtain⟨as,g1,g2,g3⟩:=h.box b ds hc;refine⟨as,g1,by rw[cn]; exact g2,fun j d hd=>?_⟩;rw[dV] at hd;cases hj:ds[j]? with
    |none=>rw[hj] at hd; cases hd
    |some d0=>
      rw[hj] at hd;simp at hd;subst hd;obtain⟨g4,a',g5,g6⟩:=g3 j d0 hj;obtain⟨k1,k2⟩:=lC (N:=N) (N':=N) (o:=aq s) (o':=aq ⟨[(0,r)],fH lQ s.H⟩) (nb:=s.H.length) (g:=lQ) rfl Ix hl (r:=.c b j) (x:=d0) (fun _ _ _=>rfl) g4;refine⟨?_,a',g5,k2.trans g6⟩;show ct _ (fH lQ s.H).length _;rw[hlen]; exact k1
 ·rw[(own e1).1] at e1;rw[(own e2).1] at e2;exact h.inj p q n e1 e2 e3 e4
 ·have e2':(aq s p).isSome:=by rw[<-(own e2).1]; exact e2
  exact h.bx b p (back b e1) e2' e3
theorem JH {env:Env} {base:Nat}:∀(n:Nat) (H:Heap),base<=H.length->base<=(trim base env n H).length:=by
 intro n
 induction n with
 |zero=>intro H h; exact h
 |succ n ih=>
   intro H h;simp only[trim];split
   ·exact ih _ (by simp; omega)
   ·exact h
theorem dY.Od {H:Heap} {r1 r2:AV} (h:dY X φ w N ⟨[(0,r1)],H⟩ Ha t) (h1:kK r1=true) (h2:kK r2=true) (hk:ct (fun _=>none) H.length r2) (hr:bD (Rd X φ w) φ (cu N r2) v'):dY X φ w N ⟨[(0,r2)],H⟩ Ha (fun i=>if i=0 then v' else undef):=by
 have slot:∀{r:AV},kK r=true->∀i,bH (get (⟨[(0,r)],H⟩:St).env i)=false:=fun{r} hp i=>by
  show bH (get [(0,r)] i)=false;rw[tD]; split
  ·exact wM hp
  ·rfl
 have own:∀p,aq ⟨[(0,r2)],H⟩ p=aq ⟨[(0,r1)],H⟩ p:=by
  intro p;cases p with
  |s i=>rw[(dK (slot h2 i)).1,(dK (slot h1 i)).1]
  |sc i j=>rw[(dK (slot h2 i)).2 j,(dK (slot h1 i)).2 j]
  |c b j=>exact QY rfl b j
 refine⟨fun i=>?_,fun i=>?_,h.heap,fun p k xs e=>?_,fun b cs e=>?_,fun p q n e1 e2=>?_,fun b p e1 e2=>?_,h.bi⟩
 ·show bD _ _ (jW N i (get [(0,r2)] i)) (if i=0 then v' else undef);rw[tD];by_cases e:i=0
  ·rw[if_pos e,if_pos e,wF N i (wM h2)]; exact hr
  ·rw[if_neg e,if_neg e]; exact .any _ _
 ·show ct _ _ (get [(0,r2)] i);rw[tD];split
  ·exact DK (aG _) r2 h2 hk
  ·trivial
 ·rw[own] at e; exact h.own p k xs e
 ·obtain⟨as,g1,g2,g3⟩:=h.box b cs e;refine⟨as,g1,g2,fun j c hc=>⟨iL (fun p _=>own p) (aG _) c (g3 j c hc).1,(g3 j c hc).2⟩⟩
 ·rw[own] at e1 e2; exact h.inj p q n e1 e2
 ·rw[own] at e2; exact h.bx b p e1 e2
theorem dY.aeh {env:Env} {H:Heap} (h:dY X φ w N ⟨env,H⟩ Ha t) {n k:Nat} {xs:List AV} (ho:qj Ha (some n) k xs) (hz:∀g sz,φ[n]?=some (some (g,sz))->0<sz) (hnq:∀q,(aq ⟨env,H⟩ q).isSome->N.ν q≠some n) (TG:∀b,(aN H b).isSome->N.β b≠n) :
  ∃ Ha',dY X φ w ⟨fun c=>if c=H.length then n else N.β c,N.ν⟩ ⟨env,H++[some (az xs)]⟩ Ha' t/\(∀m,m≠n->aN Ha' m=aN Ha m)/\∀ q,aq ⟨env,H++[some (az xs)]⟩ q=aq ⟨env,H⟩ q:=by
 obtain⟨cs,c1,c2,c3,c4⟩:=ho;have Uu:=iP c3;have bY:=dp c1;have Cj:∀m,m≠n->aN (Ha.set n (some (cs.take (xs.length*k)))) m=aN Ha m:=fun m hm=>by rw[df,if_neg (fun e=>hm e.1)]
 have dX:∀b,b<H.length->(if b=H.length then n else N.β b)=N.β b:=fun b hb=>if_neg (by omega)
 have eG:∀q,aq ⟨env,H++[some (az xs)]⟩ q=aq ⟨env,H⟩ q:=by
  intro q;cases q with
  |s i=>rfl
  |sc i j=>rfl
  |c b j=>
    by_cases hb:b=H.length
    ·subst hb
     have e0:aq ⟨env,H⟩ (.c H.length j)=none:=by
      have:aN H H.length=none:=by
       cases e:aN H H.length with
       |none=>rfl
       |some cs=>have:=dp e; omega
      simp[aq,at_,this]
     rw[e0];unfold aq at_;simp only[fG,if_true];cases e:(az xs)[j]? with
     |none=>rfl
     |some d=>
       have hd:=(lI (c4 j d e).1).1;cases d<;>first|rfl|(simp[pl] at hd; done)
    ·exact gJ (by simp only[at_,fG,if_neg hb])
 have mono:∀p,(aq ⟨env,H⟩ p).isSome->aq ⟨env,H++[some (az xs)]⟩ p=aq ⟨env,H⟩ p:=fun p _=>eG p;have hlen:H.length<=(H++[some (az xs)]).length:=by simp
 have bold:∀{b},(aN (H++[some (az xs)]) b).isSome->(b<H.length/\(aN H b).isSome)\/b=H.length:=by
  intro b hb;rw[fG] at hb;by_cases e:b=H.length
  ·exact .inr e
  ·rw[if_neg e] at hb;obtain⟨cs,e2⟩:=aM.1 hb;exact .inl ⟨dp e2,hb⟩
 have hh:bO X φ w (Ha.set n (some (cs.take (xs.length*k)))):=by
  refine⟨by rw[cO]; exact h.heap.len,h.heap.FK,fun b ds hb=>?_,fun b hb=>?_,h.heap.inj⟩
  ·rw[aQ] at hb;split at hb
   ·rename_i e;subst e;simp at hb;obtain⟨_,rfl⟩:=hb;obtain⟨g,sz,arr,e,p1,p2,p3,p4,p5,p6⟩:=h.heap.live n cs (q6 c1);refine⟨g,sz,arr,e,p1,p2,p3,⟨by rw[bg]; omega,fun z=>by have:=hz g sz p1; omega⟩,p5,fun i d hd=>?_⟩;rw[bC] at hd;split at hd
    ·exact p6 i d hd
    ·cases hd
   ·exact h.heap.live b ds hb
  ·rw[aQ] at hb;split at hb
   ·simp at hb
   ·exact h.heap.dead b hb
 refine⟨_,⟨fun i=>?_,fun i=>iL mono hlen _ (h.Cx i),hh,fun p k' ys e=>?_,fun b ds e=>?_,fun p q m e1 e2 e3 e4=>?_,fun b p e1 e2 e3=>?_,fun b d e1 e2 e3=>?_⟩,Cj,eG⟩
 ·rw[xY (N:=N) (N':=⟨fun c=>if c=H.length then n else N.β c,N.ν⟩) dX (fun _ _=>rfl) rfl (fun _=>rfl) (h.Cx i)];exact h.env i
 ·rw[eG] at e;refine (h.own p k' ys e).same fun m hm=>Cj m fun e2=>?_;exact hnq p (by rw[e]; rfl) (by rw[<-e2]; exact hm)
 ·by_cases hb:b=H.length
  ·subst hb;simp only[fG,if_true,af] at e;subst e;refine⟨cs.take (xs.length*k),by simp only[if_true]; rw[df,if_pos ⟨rfl,bY⟩],by rw[bg,Uu]; omega,fun j d hd=>?_⟩;obtain⟨q1,a,q2,q3,q4⟩:=c4 j d hd;have mX:=(lI q1).1;have hj:=aj hd;rw[Uu] at hj;refine⟨uE d mX,a,by rw[bC,if_pos hj]; exact q2,?_⟩
   have e1:∀N:Names,iJ N (.c H.length j) d=d:=fun N=>by
    have:=kg N d mX;cases d<;>first|exact this|(simp[pl] at mX; done)
   rw[e1]; exact q4
  ·simp only[fG,if_neg hb] at e;obtain⟨as,g1,g2,g3⟩:=h.box b ds e;refine⟨as,by simp only[dX b (dp e)]; rw[Cj _ (TG b (by show (aN H b).isSome=true; rw[show aN H b=some ds from e]; rfl))]; exact g1,g2,fun j x hx=>?_⟩;obtain⟨k1,a',k2,k3⟩:=g3 j x hx;refine⟨iL mono hlen x k1,a',k2,?_⟩;rw[tu (N:=N) (N':=⟨fun c=>if c=H.length then n else N.β c,N.ν⟩) dX (fun _ _=>rfl) (fun _ _ _=>rfl) k1];exact k3
 ·rw[eG] at e1 e2; exact h.inj p q m e1 e2 e3 e4
 ·rw[eG] at e2;rcases bold e1 with⟨b1,b2⟩|b1
  ·simp only[dX b b1] at e3; exact h.bx b p b2 e2 e3
  ·subst b1;simp only[if_true] at e3;exact hnq p e2 e3
 ·rcases bold e1 with⟨b1,b2⟩|b1<;>rcases bold e2 with⟨d1,d2⟩|d1
  ·simp only[dX b b1,dX d d1] at e3; exact h.bi b d b2 d2 e3
  ·subst d1; simp only[dX b b1,if_true] at e3; exact absurd e3 (TG b b2)
  ·subst b1; simp only[dX d d1,if_true] at e3; exact absurd e3.symm (TG d d2)
  ·rw[b1,d1]
theorem Gg {env:Env} {base:Nat}:∀(n:Nat) (H:Heap),∃k,trim base env n H=H.take k
 |0,H=>⟨H.length,by simp[trim]⟩
 |n+1,H=>by
   simp only[trim];split
   ·obtain⟨k,e⟩:=Gg (env:=env) (base:=base) n (H.take n);exact⟨min k n,by rw[e,List.take_take]⟩
   ·exact⟨H.length,by simp⟩
theorem Lp {p:Rt}:∀{l:List Rt},vM p l=false ↔ p∉l
 |[]=>by simp[vM]
 |q::r=>by simp only[vM,dZ,decide_eq_false_iff_not,Lp (l:=r),aK,not_or]; exact⟨fun h=>⟨fun e=>h.1 e.symm,h.2⟩,fun h=>⟨fun e=>h.1 e.symm,h.2⟩⟩
theorem Ml (h:dY X φ w N s Ha t) {n0:Nat} {env:Env} {t1:Nat->Value}:∀(cs:List AV) (n:Nat) (used:List Rt) (ys:List AV) (hs:Heap),tg s n used cs=some (ys,hs)->jX (aq s) s.H.length cs->(∀x∈cs,kK x=true->ct (fun _=>none) n0 x) ->
  ∀ (Ya:Nat->Nat) (H1:Heap) (MM:Heap),dY X φ w ⟨Ya,N.ν⟩ ⟨env,H1⟩ MM t1->n=H1.length->n0<=n->(∀b,b<n0->Ya b=N.β b) ->
   (∀i k xs m,aq s (.s i)=some (k,xs)->N.ν (.s i)=some m->.s i∉used->qj MM (some m) k xs/\(∀b,(aN H1 b).isSome->Ya b≠m)/\∀ q,(aq ⟨env,H1⟩ q).isSome->N.ν q≠some m) ->
   ∃ FB Yr,dY X φ w ⟨FB,N.ν⟩ ⟨env,H1++hs⟩ Yr t1/\(∀b,b<n->FB b=Ya b)/\ys.length=cs.length/\fo ys=true/\∀ (i:Nat) (x y:AV) (v:Value),cs[i]?=some x->ys[i]?=some y->bD (Rd X φ w) φ (cu N x) v->ct (fun _=>none) (H1++hs).length y/\bD (Rd X φ w) φ (cu ⟨FB,N.ν⟩ y) v
 |[],n,used,ys,hs,hf,_,_,Ya,H1,MM,h1,hn,hn0,dX,zX=>by
   simp[tg] at hf;obtain⟨rfl,rfl⟩:=hf;exact⟨Ya,MM,by simpa using h1,fun _ _=>rfl,rfl,rfl,fun i x y v hx=>by simp at hx⟩
 |x::r,n,used,ys,hs,hf,cW,mX,Ya,H1,MM,h1,hn,hn0,dX,zX=>by
   have rest:=fun (n':Nat) (u':List Rt) (zd:List AV) (Lw:Heap) (e:tg s n' u' r=some (zd,Lw))=>Ml (n0:=n0) (env:=env) (t1:=t1) h r n' u' zd Lw e cW.2 (fun y hy=>mX y (by simp[hy]))
   -- a part that needs no box
   have stay:∀{y:AV} {zd:List AV},tg s n used r=some (zd,hs)->ys=y::zd->kK y=true->(∀FB:Nat->Nat,(∀b,b<n->FB b=Ya b)->∀v,bD (Rd X φ w) φ (cu N x) v->ct (fun _=>none) (H1++hs).length y/\bD (Rd X φ w) φ (cu ⟨FB,N.ν⟩ y) v) ->
     ∃ FB Yr,dY X φ w ⟨FB,N.ν⟩ ⟨env,H1++hs⟩ Yr t1/\(∀b,b<n->FB b=Ya b)/\ys.length=(x::r).length/\fo ys=true/\∀ (i:Nat) (x' y:AV) (v:Value),(x::r)[i]?=some x'->ys[i]?=some y->bD (Rd X φ w) φ (cu N x') v->ct (fun _=>none) (H1++hs).length y/\bD (Rd X φ w) φ (cu ⟨FB,N.ν⟩ y) v:=by
    intro y zd e ey hy hyr;subst ey;obtain⟨FB,Yr,s2,b2,l2,p2,q2⟩:=rest n used zd hs e Ya H1 MM h1 hn hn0 dX zX;refine⟨FB,Yr,s2,b2,by simp[l2],by simp[fo,hy,p2],fun i x' z v hx hz hv=>?_⟩;cases i with
    |zero=>simp at hx hz; subst hx; subst hz; exact hyr FB b2 v hv
    |succ i=>exact q2 i x' z v (by simpa using hx) (by simpa using hz) hv
   have gen:kK x=true->∀{zd},tg s n used r=some (zd,hs)->ys=x::zd->_:=fun hp {zd} e ey=>stay e ey hp fun FB b2 v hv=>by
    have ho:=mX x (by simp) hp;refine⟨iL (fun p hp=>by cases hp) (by rw[bw]; omega) x ho,?_⟩;rw[wE (N:=N) (N':=⟨FB,N.ν⟩) (o:=fun _=>none) (nb:=n0) (fun b hb=>by show FB b=N.β b; rw[b2 b (by omega),dX b hb]) (fun p hp=>by cases hp) x ho];exact hv
   by_cases c1:∃k i len,x=.du k (.s i) 0 len
   ·obtain⟨k,i,len,rfl⟩:=c1;simp only[tg] at hf;split at hf
    case h_2=>cases hf
    rename_i k' xs hp;split at hf
    case isFalse=>cases hf
    rename_i hc;obtain⟨rfl,rfl,hu⟩:=hc;have hu:=Lp.1 hu;split at hf
    ·rename_i Yj;split at hf
     case h_2=>cases hf
     rename_i zd Lw e;simp at hf;obtain⟨rfl,rfl⟩:=hf;refine stay e rfl rfl fun FB b2 v hv=>⟨trivial,?_⟩;have yI:xs=[]:=List.eq_nil_of_length_eq_zero Yj;subst yI;simp only[cu,List.length_nil] at hv ⊢;split at hv
     ·cases hv with
      |sl _ _ _ _ _ a cap hb hc hh=>exact .uU _ _ _ _ _ _ (fun _ _=>undef) rfl hc (fun x hx=>by simp at hx) (fun i j x c hx=>by simp at hx) (fun i j x c hx=>by simp at hx)
     ·cases hv; exact .j5 _ _
    ·rename_i Yj;split at hf
     case h_2=>cases hf
     rename_i zd Lw e;simp at hf;obtain⟨rfl,rfl⟩:=hf;have eG:=h.own (.s i) k' xs hp;cases kM:N.ν (.s i) with
     |none=>
       rw[kM] at eG;have:xs=[]:=eG;subst this;simp at Yj
     |some m=>
       obtain⟨o1,o2,o3⟩:=zX i k' xs m hp kM hu;obtain⟨Ha',s2,e2,e3⟩:=h1.aeh o1 (fun g sz e=>h.QX hp kM e) o3 o2;have lt1:(H1++[some (az xs)]).length=n+1:=by simp[hn]
       obtain⟨FB,Yr,s3,b3,l3,p3,q3⟩:=rest (n+1) (.s i::used) zd Lw e _ _ _ s2 lt1.symm (by omega) (fun b hb=>by simp only[]; rw[if_neg (by omega)]; exact dX b hb) (fun i2 k2 xs2 m2 z1 z2 z3=>by
        simp only[aK,not_or] at z3;obtain⟨a1,a2,a3⟩:=zX i2 k2 xs2 m2 z1 z2 z3.2;have hmm:m2≠m:=fun e=>z3.1 (h.inj _ _ m (by rw[z1]; rfl) (by rw[hp]; rfl) (by rw[<-e]; exact z2) kM);refine⟨a1.same fun m' NP=>by cases NP; exact e2 m2 hmm,fun b hb=>?_,fun q hq=>a3 q (by rw[e3] at hq; exact hq)⟩;rw[fG] at hb;simp only[];split
        ·exact fun e=>hmm e.symm
        ·rename_i tn; rw[if_neg tn] at hb; exact a2 b hb)
       rw[dQ] at s3;refine⟨FB,Yr,s3,fun b hb=>by rw[b3 b (by omega)]; simp only[]; rw[if_neg (by omega)],by simp[l3],by simp[fo,kK,p3],fun j x' z v hx hz hv=>?_⟩;rw[dQ] at q3;cases j with
       |succ j=>exact q3 j x' z v (by simpa using hx) (by simpa using hz) hv
       |zero=>
         simp at hx hz;subst hx; subst hz;refine⟨by simp only[ct]; simp; omega,?_⟩;simp only[cu,kM,Nat.zero_mul] at hv ⊢;have:FB n=m:=by rw[b3 n (by omega)]; simp only[]; rw[if_pos hn]
         rw[this]; exact hv
   ·rw[tg] at hf
    ·split at hf
     case isFalse=>cases hf
     rename_i hp;split at hf
     case h_2=>cases hf
     rename_i zd Lw e;simp at hf;obtain⟨rfl,rfl⟩:=hf;exact gen hp e rfl
    ·exact fun k i len e=>c1 ⟨k,i,len,e⟩
theorem adq {o:Rt->Option (Nat × List AV)} {nb:Nat} {x:AV} (h:ct o nb x):ct o nb (FD x):=by
 cases x<;>first|exact h|trivial
theorem Zi {R:Addr->Value->Prop} {x:AV} {v:Value} (r:bD R φ (cu N x) v):bD R φ (cu N (FD x)) v:=by
 cases x<;>first|exact r|exact .any _ _
theorem aab (h:dY X φ w N s Ha (tm a)) (hb:(∀b,b<base->N.β b=B b)/\base<=s.H.length) (hv:bD (Rd X φ w) φ (cu N v) v') (hk:ct (aq s) s.H.length v) {r:AV} {H':Heap} (hf:Xn base s v=some (r,H')) :
  ∃ φ',SB X φ' w B base ⟨[(0,r)],H'⟩ (fun i=>if i=0 then v' else undef)/\eT φ w φ' w:=by
 unfold Xn at hf;split at hf
 case h_2=>cases hf
 rename_i cs F2;split at hf
 case isFalse=>cases hf
 rename_i hp;split at hf
 case h_2=>cases hf
 rename_i ys hs Uv;simp only[af,aA] at hf;obtain⟨rfl,rfl⟩:=hf;simp only[ct] at hk;have hkL:=fK.1 hk
 -- the parts without what becomes boxes
 have ZP:kK (.dA (cs.map FD))=true:=hp;have gV:=wM ZP
 have ZW:ct (aq s) s.H.length (.dA (cs.map FD)):=by
  simp only[ct];refine fK.2 fun i c hc=>?_;rw[cF] at hc;cases e:cs[i]? with
  |none=>rw[e] at hc; cases hc
  |some x=>rw[e] at hc; simp at hc; subst hc; exact adq (hkL i x e)
 have Lt:bD (Rd X φ w) φ (cu N (.dA (cs.map FD))) v':=by
  simp only[cu] at hv ⊢;cases hv with
  |dA _ _ vs hl hh=>
    refine .dA _ _ _ (by rw[dw] at hl ⊢; simpa using hl) fun i c u hc hu=>?_;rw[lV,cF] at hc;cases e:cs[i]? with
    |none=>rw[e] at hc; cases hc
    |some x=>
      rw[e] at hc;simp at hc;subst hc;exact Zi (hh i _ u (by rw[lV,e]; rfl) hu)
 have h1:=h.leave (i0:=eW) (r:=.any) F2 rfl;have okp:∀{o:Rt->Option (Nat × List AV)} {nb GP:Nat} {x:AV},nb<=GP->kK x=true->ct o nb x->ct (fun _=>none) GP x:=fun hn hp ho=>DK hn _ hp ho;have h2:=h1.Od (r2:=.dA (cs.map FD)) rfl ZP (okp (by rw[fe]; exact aG _) ZP ZW) Lt;have h4:=dY.trim (base0:=base) s.H.length h2;obtain⟨kt,et⟩:=Gg (env:=[(0,.dA (cs.map FD))]) (base:=base) s.H.length (fH lQ s.H);have RH:=JH (env:=[(0,.dA (cs.map FD))]) (base:=base) s.H.length (fH lQ s.H) (by rw[fe]; exact hb.2);generalize hH1:trim base [(0,.dA (cs.map FD))] s.H.length (fH lQ s.H)=H1 at *
 have back:∀b ds,aN H1 b=some ds->aN (fH lQ s.H) b=some ds:=by
  intro b ds e;rw[et,q5] at e;split at e
  ·exact e
  ·cases e
 have box:∀b,(aN H1 b).isSome->(aN s.H b).isSome:=by
  intro b e;obtain⟨ds,e⟩:=aM.1 e;have:=back b ds e;rw[eZ] at this;cases hc:aN s.H b with
  |none=>rw[hc] at this; cases this
  |some _=>rfl
 have own1:∀q,(aq ⟨[(0,.dA (cs.map FD))],H1⟩ q).isSome->(∀i,q≠.s i)/\(aq s q).isSome:=by
  intro q e
  have hs0:∀i,bH (get (⟨[(0,.dA (cs.map FD))],H1⟩:St).env i)=false:=fun i=>by
   show bH (get [(0,.dA (cs.map FD))] i)=false;rw[tD]; split
   ·exact gV
   ·rfl
  cases q with
  |s i=>rw[(dK (hs0 i)).1] at e; cases e
  |sc i j=>rw[(dK (hs0 i)).2 j] at e; cases e
  |c b j=>
    refine⟨fun i e=>(by cases e),?_⟩;rw[<-gK Ix s (.c b j)];obtain⟨⟨k0,xs0⟩,e0⟩:=aM.1 e;have e1:=bR.1 e0;simp only[at_] at e1;cases hc:aN H1 b with
    |none=>rw[hc] at e1; cases e1
    |some ds=>
      rw[hc] at e1;have e2:=back b ds hc;have:aq (bX lQ s) (.c b j)=some (k0,xs0):=bR.2 (by simp only[at_,bX,e2]; exact e1);rw[this]; rfl
 obtain⟨FB,Yr,s2,b2,l2,p2,q2⟩:=Ml h (n0:=H1.length) (env:=[(0,.dA (cs.map FD))]) cs H1.length [] ys hs Uv hk (fun x hx Ur=>by
  obtain⟨i,hi⟩:=bt hx;have e0:=h4.Cx 0;have e1:ct (aq ⟨[(0,.dA (cs.map FD))],H1⟩) H1.length (.dA (cs.map FD)):=e0;simp only[ct] at e1;have e2:=fK.1 e1 i (FD x) (by rw[cF,hi]; rfl);have e3:FD x=x:=by cases x<;>first|rfl|(simp[kK] at Ur; done)
  rw[e3] at e2;exact okp (aG _) Ur e2) N.β H1 Ha h4 rfl (aG _) (fun _ _=>rfl) (fun i k xs m z1 z2 _=>by
  have ho:=h.own (.s i) k xs z1;rw[z2] at ho;refine⟨ho,fun b hb e=>h.bx b (.s i) (box b hb) (by rw[z1]; rfl) (by rw[z2,e]),fun q hq e=>?_⟩;obtain⟨g1,g2⟩:=own1 q hq;exact g1 i (h.inj q (.s i) m g2 (by rw[z1]; rfl) e z2))
 have hr:kK (.dA ys)=true:=p2
 have s3:=s2.Od (r2:=.dA ys) (v':=v') ZP hr (by
  simp only[ct];refine fK.2 fun i y hy=>?_;obtain⟨x,hx⟩:=aS (l:=cs) (i:=i) (by have:=aj hy; omega);simp only[cu] at hv;cases hv with
  |dA _ _ vs hl hh=>
    obtain⟨u,hu⟩:=bP (l:=vs) (i:=i) (by have:=aj hx; rw[dw] at hl; omega);exact (q2 i x y u hx hy (hh i _ u (by rw[lV,hx]; rfl) hu)).1) (by
  simp only[cu] at hv ⊢;cases hv with
  |dA _ _ vs hl hh=>
    refine .dA _ _ _ (by rw[dw] at hl ⊢; omega) fun i c u hc hu=>?_;rw[lV] at hc;cases e:ys[i]? with
    |none=>rw[e] at hc; cases hc
    |some y=>
      rw[e] at hc;simp at hc;subst hc;obtain⟨x,hx⟩:=aS (l:=cs) (i:=i) (by have:=aj e; omega);exact (q2 i x y u hx e (hh i _ u (by rw[lV,hx]; rfl) hu)).2)
 exact⟨φ,⟨_,_,s3,fun b bY=>by show FB b=B b; rw[b2 b (by omega)]; exact hb.1 b bY,by show base<=(H1++hs).length; rw[bw]; omega⟩,.refl _ _⟩
theorem Z9 (h:dY X φ w N s Ha (tm a)) (hb:(∀b,b<base->N.β b=B b)/\base<=s.H.length) (hv:bD (Rd X φ w) φ (cu N v) v') (hk:ct (aq s) s.H.length v) (gV:bH v=false) {r:AV} {H':Heap} (hf:ku base s v=some (r,H')) :
  ∃ φ',SB X φ' w B base ⟨[(0,r)],H'⟩ (fun i=>if i=0 then v' else undef)/\eT φ w φ' w:=by
 unfold ku at hf;split at hf
 case h_2=>cases hf
 rename_i F2;simp only at hf;split at hf
 case isFalse=>cases hf
 rename_i hp;simp only[af,aA] at hf;obtain⟨rfl,rfl⟩:=hf;have yJ:=dP.quiet (t:=tm a) h hb hk (lG gV) (by rw[kJ N gV]; exact hv);obtain⟨kR,⟨N2,Yr,M8,tL⟩,a2⟩:=SB.dJ (aI v) (yJ.put eW F2);have h3:=M8.leave (i0:=eW) rfl hp;simp only[if_true] at h3;refine⟨kR,⟨N2,Yr,?_,tL.1,?_⟩,a2⟩
 ·exact dY.trim (base0:=base) _ h3
 ·exact JH _ _ (by rw[fe]; exact tL.2)
theorem shOK (cW:eM P c) (tK:tY P c) {n:Nat} (hs:Mt P c n):ShOK P c n:=by
 intro f md q hf hm args H r H' h j8 X φ w B vargs hl FE hg;unfold mL at h;split at h
 ·rename_i x Cl;unfold FP at Cl;split at Cl
  case h_2=>cases Cl
  rename_i g Jt;rw[h] at Cl;replace h:=Cl;exact tK f g md q Jt hf args H r H' (.inl hm) h (fun _=>j8) X φ w B vargs hl FE hg
 ·rw[hf] at h;simp only at h;split at h
  case isFalse=>cases h
  rename_i hle;obtain⟨fn,h1,h2⟩:=cW.fn f md q hf;simp only[cY,ae,decide_eq_true_eq] at h2;obtain⟨⟨⟨⟨hn,afF⟩,_⟩,hres⟩,s8⟩:=h2;split at s8
  case h_2=>cases s8
  rename_i code hb;have zT:(vargs++qv (fn.ntmps-vargs.size) undef).size=q.n:=by simp; omega
  have htm:tm { tmps:=vargs++qv (fn.ntmps-vargs.size) undef,defers:=[] }=fun i=>vargs.getD i undef:=by
   funext i;simp only[tm,aW];by_cases hi:i<vargs.size
   ·rw[Array.getElem?_append_left hi]
   ·rw[Array.getElem?_append_right (by omega),Array.getElem?_replicate];rw[Array.getElem?_eq_none (by omega)];split<;>rfl
  have hS:An X φ w B H.length ⟨dL 0 args,H⟩ { tmps:=vargs++qv (fn.ntmps-vargs.size) undef,defers:=[] } q.n:=⟨by rw[htm]; exact FE,rfl,zT⟩
  have fin:∀{e:Ex} {s:St} {vs:List AV},cE c n H.length q.body ⟨dL 0 args,H⟩=some (e,s)->(e=.ret\/e=.normal)->p9 c s q.res=some vs->bU md H.length s (nZ vs)=some (r,H')->Calls P f vargs w (Fv X φ w B H.length r H'):=by
   intro e s vs he hre Js NT;refine calls_of_wp h1 hb (hs q.n H.length code q.body _ s e (by omega) s8 he X φ w B _ hS hg _ fun a' w' φ' hS' tM=>?_);obtain⟨N,Ha,wJ,hbB⟩:=hS'.sb;obtain⟨S9,x1,x2,x3,x4⟩:=UC wJ (hg.nN tM) Js;obtain⟨v,k1,k2⟩:=BA (P:=P) (s:=⟨ze N s.env,Ha⟩) (ts:=a'.tmps) (fun i=>by rw[mF]; exact wJ.env i) wJ.heap hres x1;unfold bU at NT;rw[hm,if_pos rfl] at NT
   have afH:∃kR,SB X kR w' B H.length ⟨[(0,r)],H'⟩ (fun i=>if i=0 then v else undef)/\eT φ' w' kR w':=by
    split at NT
    ·exact aab wJ hbB (x2 _ _ _ k2) x3 NT
    ·exact Z9 wJ hbB (x2 _ _ _ k2) x3 x4 NT
   obtain⟨kR,s2,a2⟩:=afH;have:bodyPost P fn (Fv X φ w B H.length r H') .ret a' w':=⟨hS'.defers,v,k1,v,kR,rfl,s2,tM.trans a2⟩;rcases hre with rfl|rfl
   ·exact this
   ·exact this
  split at h
  ·rename_i s he;split at h
   ·rename_i vs Js;exact fin he (.inl rfl) Js h
   ·cases h
  ·rename_i s he;split at h
   ·rename_i vs Js;exact fin he (.inr rfl) Js h
   ·cases h
  ·cases h
end
end Go.Bm

/- A state whose older heap holds no more than what is referred to; calls of functions that share boxes. -/
namespace Go.Bm
open Go.Am
mutual
def ib (G:Nat->Prop):AV->Prop
 |.ptr b _=>G b
 |.sl _ b _ _=>G b
 |.agg cs=>l5 G cs
 |.dA cs=>l5 G cs
 |.func _ a b=>l5 G a/\l5 G b
 |_=>True
def l5 (G:Nat->Prop):List AV->Prop
 |[]=>True
 |x::r=>ib G x/\l5 G r
end
theorem od {G:Nat->Prop}:∀{cs:List AV},l5 G cs ↔ ∀(i:Nat) (c:AV),cs[i]?=some c->ib G c
 |[]=>by simp[l5]
 |x::r=>by
   simp only[l5,od (cs:=r)];constructor
   ·rintro⟨h1,h2⟩ i c hc;cases i with
    |zero=>simp at hc; exact hc▸h1
    |succ i=>exact h2 i c (by simpa using hc)
   ·intro h;exact⟨h 0 x rfl,fun i c hc=>h (i+1) c (by simpa using hc)⟩
theorem bD.refs {R R':Addr->Value->Prop} (hR:∀a u,R a u->R' a u) {G:Nat->Prop} {φ:cX} {x:AV} {v:Value} (h:bD R φ x v):∀{φ':cX},ib G x->φ.length<=φ'.length->(∀b,G b->∀p,φ'[b]?=some (some p)->φ[b]?=some (some p))->bD R' φ' x v:=by
 induction h with
 |any=>intro φ' _ _ _; exact .any _ _
 |undef=>intro φ' _ _ _; exact .undef _
 |fg=>intro φ' _ _ _; exact .fg _
 |fj=>intro φ' _ _ _; exact .fj _
 |di=>intro φ' _ _ _; exact .di _
 |int=>intro φ' _ _ _; exact .int _ _ _
 |bool=>intro φ' _ _ _; exact .bool _ _
 |str=>intro φ' _ _ _; exact .str _ _
 |agg φ cs vs hl h ih=>intro φ' hx hp hb; simp only[ib] at hx; exact .agg _ _ _ hl fun i c v h1 h2=>ih i c v h1 h2 (od.1 hx i c h1) hp hb
 |dA φ cs vs hl h ih=>intro φ' hx hp hb; simp only[ib] at hx; exact .dA _ _ _ hl fun i c v h1 h2=>ih i c v h1 h2 (od.1 hx i c h1) hp hb
 |yw φ b r hb h=>intro φ' hx hp iU; simp only[ib,l5] at hx; exact .yw _ _ _ (by omega) fun g sz e=>h g sz (iU b hx.2.1 _ e)
 |func φ f as va bs vb hy yL yK ha hb WJ TD=>intro φ' hx hp BV; simp only[ib] at hx; exact .func _ _ _ _ _ _ hy yL yK (fun i c v h1 h2=>WJ i c v h1 h2 (od.1 hx.1 i c h1) hp BV) (fun i c v h1 h2=>TD i c v h1 h2 (od.1 hx.2 i c h1) hp BV)
 |uU φ k xs a n cap u hn iO hk hu h ih=>intro φ' _ _ _; exact .uU _ _ _ _ _ _ u hn iO hk (fun i j x c h1 h2=>hR _ _ (hu i j x c h1 h2)) (fun i j x c h1 h2=>(h i j x c h1 h2).mono hR (.refl _))
 |j5=>intro φ' _ _ _; exact .j5 _ _
 |de φ cs a u hu h ih=>intro φ' _ _ _; exact .de _ _ _ u (fun j c h1=>hR _ _ (hu j c h1)) (fun j c h1=>(h j c h1).mono hR (.refl _))
 |ptr φ b off a hb h=>intro φ' hx hp iU; exact .ptr _ _ _ _ (by omega) fun g sz e=>h g sz (iU b hx _ e)
 |sl φ k b off len a cap hb hc h=>intro φ' hx hp iU; exact .sl _ _ _ _ _ _ _ (by omega) hc fun g sz e=>h g sz (iU b hx _ e)
mutual
theorem H6 {G:Nat->Prop} {N:Names} {o:Rt->Option (Nat × List AV)} {nb:Nat} (dX:∀b,b<nb->G (N.β b)) (kM:∀p,(o p).isSome->∀n,N.ν p=some n->G n):∀x,ct o nb x->ib G (cu N x)
 |.du k p off len,h=>by
   simp only[ct] at h; obtain⟨xs,e,_⟩:=h;simp only[cu];cases hn:N.ν p with
   |none=>exact trivial
   |some n=>exact kM p (by rw[e]; rfl) n hn
 |.eR k p i off,h=>by
   simp only[ct] at h; obtain⟨xs,e,_⟩:=h;simp only[cu];cases hn:N.ν p with
   |none=>exact trivial
   |some n=>exact kM p (by rw[e]; rfl) n hn
 |.ptr b off,h=>by simp only[ct] at h; simp only[cu,ib]; exact dX b h
 |.agg cs,h=>by simp only[ct] at h; simp only[cu,ib]; exact vi dX kM cs h
 |.dA cs,h=>by simp only[ct] at h; simp only[cu,ib]; exact vi dX kM cs h
 |.func f a b,h=>by simp only[ct] at h; simp only[cu,ib]; exact⟨vi dX kM a h.1,vi dX kM b h.2.1⟩
 |.any,_=>trivial|.undef,_=>trivial|.fg,_=>trivial|.fj,_=>trivial|.di,_=>trivial
 |.int _ _,_=>trivial|.bool _,_=>trivial|.str _,_=>trivial|.list _ _,_=>trivial|.de _,_=>trivial|.own _ _,_=>trivial
 |.sl _ b _ _,h=>by simp only[ct] at h; simp only[cu,ib]; exact dX b h
theorem vi {G:Nat->Prop} {N:Names} {o:Rt->Option (Nat × List AV)} {nb:Nat} (dX:∀b,b<nb->G (N.β b)) (kM:∀p,(o p).isSome->∀n,N.ν p=some n->G n):∀xs,jX o nb xs->l5 G (kj N xs)
 |[],_=>trivial
 |x::r,h=>⟨H6 dX kM x h.1,vi dX kM r h.2⟩
end
mutual
theorem Pe {G:Nat->Prop}:∀x,pl x=true->ib G x
 |.agg cs,h=>by simp only[pl] at h; simp only[ib]; exact vj cs h
 |.dA cs,h=>by simp only[pl] at h; simp only[ib]; exact vj cs h
 |.func f a b,h=>by simp only[pl,ae] at h; simp only[ib]; exact⟨vj a h.2.1,vj b h.2.2⟩
 |.ptr _ _,h=>by simp[pl] at h
 |.sl _ _ _ _,h=>by simp[pl] at h
 |.du _ _ _ _,_=>trivial|.eR _ _ _ _,_=>trivial
 |.any,_=>trivial|.undef,_=>trivial|.fg,_=>trivial|.fj,_=>trivial|.di,_=>trivial
 |.int _ _,_=>trivial|.bool _,_=>trivial|.str _,_=>trivial|.list _ _,_=>trivial|.de _,_=>trivial|.own _ _,_=>trivial
theorem vj {G:Nat->Prop}:∀xs,eC xs=true->l5 G xs
 |[],_=>trivial
 |x::r,h=>by simp only[eC,ae] at h; exact⟨Pe x h.1,vj r h.2⟩
end
theorem U4 {G:Nat->Prop} {N:Names} {o:Rt->Option (Nat × List AV)} {nb:Nat} (dX:∀b,b<nb->G (N.β b)) (kM:∀p,(o p).isSome->∀n,N.ν p=some n->G n) {r:Rt} {x:AV} (hr:∀k xs,x=.own k xs->(o r).isSome) (h:ct o nb x):ib G (iJ N r x):=by
 cases x<;>simp only[iJ]<;>first|exact H6 dX kM _ h|skip
 rename_i k xs;simp only[qI];cases hn:N.ν r with
 |none=>exact trivial
 |some n=>exact kM r (hr k xs rfl) n hn
mutual
theorem Cy {o o':Rt->Option (Nat × List AV)} {nb GP:Nat} (hn:nb<=GP):∀x,(∀p∈aI x,o' p=o p)->ct o nb x->ct o' GP x
 |.du k p off len,ho,h=>by simp only[ct] at h ⊢; obtain⟨xs,e,h2⟩:=h; exact⟨xs,by rw[ho p (by simp[aI])]; exact e,h2⟩
 |.eR k p i off,ho,h=>by simp only[ct] at h ⊢; obtain⟨xs,e,h2⟩:=h; exact⟨xs,by rw[ho p (by simp[aI])]; exact e,h2⟩
 |.ptr b off,_,h=>by simp only[ct] at h ⊢; omega
 |.agg cs,ho,h=>by simp only[ct] at h ⊢; exact zD hn cs (by simpa only[aI] using ho) h
 |.dA cs,ho,h=>by simp only[ct] at h ⊢; exact zD hn cs (by simpa only[aI] using ho) h
 |.func f a b,ho,h=>by
   simp only[aI,aC] at ho;simp only[ct] at h ⊢; exact⟨zD hn a (fun p hp=>ho p (.inl hp)) h.1,zD hn b (fun p hp=>ho p (.inr hp)) h.2.1,h.2.2⟩
 |.any,_,_=>trivial|.undef,_,_=>trivial|.fg,_,_=>trivial|.fj,_,_=>trivial|.di,_,_=>trivial
 |.int _ _,_,_=>trivial|.bool _,_,_=>trivial|.str _,_,_=>trivial|.list _ _,_,_=>trivial|.de _,_,_=>trivial|.own _ _,_,_=>trivial
 |.sl _ b _ _,_,h=>by simp only[ct] at h ⊢; omega
theorem zD {o o':Rt->Option (Nat × List AV)} {nb GP:Nat} (hn:nb<=GP):∀xs,(∀p∈cU xs,o' p=o p)->jX o nb xs->jX o' GP xs
 |[],_,_=>trivial
 |x::r,ho,h=>by
   simp only[cU,aC] at ho;exact⟨Cy hn x (fun p hp=>ho p (.inl hp)) h.1,zD hn r (fun p hp=>ho p (.inr hp)) h.2⟩
end
theorem Ak:∀{H:Heap},gQ H=true->(∀b,b<H.length->(aN H b).isSome)/\∀ b cs,aN H b=some cs->∀p∈cU cs,dh p=false
 |[],_=>⟨fun b hb=>by simp at hb,fun b cs h=>by simp[aN] at h⟩
 |none::r,h=>by simp[gQ] at h
 |some ds::r,h=>by
   simp only[gQ,ae,bn] at h;obtain⟨h1,h2⟩:=Ak h.2;refine⟨fun b hb=>?_,fun b cs hb=>?_⟩
   ·cases b with
    |zero=>simp[aN]
    |succ b=>have:=h1 b (by simpa using hb); simpa[aN] using this
   ·cases b with
    |zero=>
      simp[aN] at hb;subst hb;intro p hp;exact jK h.1 p hp
    |succ b=>exact h2 b cs (by simpa[aN] using hb)
section
variable {P:Program} {X:Nat->Prop} {φ nY φ':cX} {w w1 w':World} {N N1 N':Names} {s s' s1:St} {Ha:Heap} {B:Nat->Nat} {base:Nat} {v va:AV} {v':Value} {c:dM} {a:Act} {call:Nat->List AV->Heap->Option (AV × Heap)} {t:Nat->Value}
structure Norm (X:Nat->Prop) (φ:cX) (w:World) (N:Names) (s:St) (t:Nat->Value) (kR:cX) (H2:Heap):Prop where
 wJ:dY (fun g=>X g\/(bQ φ g/\¬ bQ kR g)) kR w N s H2 t
 nN:eT φ w kR w
 good:∀n,(aN H2 n).isSome->(∃b,(aN s.H b).isSome/\N.β b=n)\/∃ p,(aq s p).isSome/\N.ν p=some n
 refs:∀n cs,aN H2 n=some cs->∀c∈cs,ib (fun m=>(aN H2 m).isSome) c
 sub:∀(n:Nat) (p:Nat × Nat),kR[n]?=some (some p)->φ[n]?=some (some p)
 live:∀(n:Nat) (p:Nat × Nat),kR[n]?=some (some p)->(aN H2 n).isSome
 len:kR.length=φ.length
theorem dY.norm (h:dY X φ w N s Ha t) (j8:∀b,b<s.H.length->(aN s.H b).isSome):∃kR H2,Norm X φ w N s t kR H2:=by
 have hP:∀n,∃B:OP,(∀b cs,aN s.H b=some cs->N.β b=n->B=some (M3 N (.c b) 0 cs))/\(∀p k xs,aq s p=some (k,xs)->N.ν p=some n->B=some (az xs))/\(B.isSome->(∃b,(aN s.H b).isSome/\N.β b=n)\/∃ p,(aq s p).isSome/\N.ν p=some n):=by
  intro n;by_cases h1:∃b cs,aN s.H b=some cs/\N.β b=n
  ·obtain⟨b,cs,hb,hn⟩:=h1;refine⟨some (M3 N (.c b) 0 cs),fun b' cs' iU MF=>?_,fun p k xs hp MF=>?_,fun _=>.inl ⟨b,by rw[hb]; rfl,hn⟩⟩
   ·have e:=h.bi b b' (by rw[hb]; rfl) (by rw[iU]; rfl) (by rw[hn,MF]);subst e;rw[hb] at iU; cases iU; rfl
   ·exact absurd (by rw[MF,hn]) (h.bx b p (by rw[hb]; rfl) (by rw[hp]; rfl))
  ·by_cases h2:∃p k xs,aq s p=some (k,xs)/\N.ν p=some n
   ·obtain⟨p,k,xs,hp,hn⟩:=h2;refine⟨some (az xs),fun b cs hb MF=>absurd ⟨b,cs,hb,MF⟩ h1,fun p' k' xs' Lx MF=>?_,fun _=>.inr ⟨p,by rw[hp]; rfl,hn⟩⟩;have e:=h.inj p p' n (by rw[hp]; rfl) (by rw[Lx]; rfl) hn MF;subst e;rw[hp] at Lx; cases Lx; rfl
   ·exact⟨none,fun b cs hb hn=>absurd ⟨b,cs,hb,hn⟩ h1,fun p k xs hp hn=>absurd ⟨p,k,xs,hp,hn⟩ h2,fun e=>by cases e⟩
 obtain⟨G,hG⟩:=Classical.axiomOfChoice hP;obtain⟨H2,FG,hH2⟩:=vV Ha.length G;obtain⟨kR,hlφ,hφ2⟩:∃kR:cX,kR.length=φ.length/\∀ m,m<φ.length->kR[m]?=some (if (G m).isSome then (φ[m]?).join else none):=⟨(fc φ.length).map fun m=>if (G m).isSome then (φ[m]?).join else none,by simp,fun m hm=>by simp[hm]⟩;have hlen:=h.heap.len
 have XU:∀n,n<Ha.length->aN H2 n=G n:=fun n hn=>by
  unfold aN; rw[hH2 n hn]; cases G n<;>rfl
 have sub:∀(n:Nat) (p:Nat × Nat),kR[n]?=some (some p)->φ[n]?=some (some p)/\(G n).isSome:=by
  intro n p hn;have bY:=aj hn;rw[hlφ] at bY;rw[hφ2 n bY] at hn;split at hn
  ·rename_i hg;simp at hn;refine⟨?_,hg⟩;cases e:φ[n]? with
   |none=>rw[e] at hn; cases hn
   |some q=>rw[e] at hn; simp at hn; rw[hn]
  ·simp at hn
 have VH:∀g,bQ kR g->bQ φ g:=fun g ⟨b,sz,e⟩=>⟨b,sz,(sub b _ e).1⟩;have nN:eT φ w kR w:=⟨rfl,rfl,rfl,aG _,aG _,fun g _ gV=>⟨rfl,fun ho=>gV (VH g ho)⟩,⟨by omega,fun b p _ hp=>(sub b p hp).1⟩⟩;have hR:∀a u,Rd X φ w a u->Rd (fun g=>X g\/(bQ φ g/\¬ bQ kR g)) kR w a u:=fun a u ⟨h1,h2,h3⟩=>⟨fun hx=>hx.elim h1 fun hh=>h2 hh.1,fun ho=>h2 (VH _ ho),h3⟩;have mono:∀{x:AV} {u:Value},bD (Rd X φ w) φ x u->bD (Rd (fun g=>X g\/(bQ φ g/\¬ bQ kR g)) kR w) kR x u:=fun r=>r.mono hR nN.QN
 have boxG:∀b cs,aN s.H b=some cs->aN H2 (N.β b)=some (M3 N (.c b) 0 cs):=fun b cs hb=>by
  rw[XU _ (h.sd (by rw[hb]; rfl))];exact (hG (N.β b)).1 b cs hb rfl
 have ownG:∀p k xs n,aq s p=some (k,xs)->N.ν p=some n->aN H2 n=some (az xs):=fun p k xs n hp hn=>by
  rw[XU _ (h.gU (by rw[hp]; rfl) hn)];exact (hG n).2.1 p k xs hp hn
 have adw:∀n,(G n).isSome->n<Ha.length->∀e,φ[n]?=some e->kR[n]?=some e:=fun n hg hn e he=>by
  rw[hφ2 n (by omega),if_pos hg,he]; rfl
 have W2:bO (fun g=>X g\/(bQ φ g/\¬ bQ kR g)) kR w H2:=by
  refine⟨by omega,fun g hg=>hg.elim (h.heap.FK g) (fun ho=>(h.heap.gU ho.1).1),fun n cs hn=>?_,fun n hn=>?_,fun n n' g sz o0 e1 e2=>h.heap.inj n n' g sz o0 (sub _ _ e1).1 (sub _ _ e2).1⟩
  ·have bY:n<Ha.length:=by have:=aj hn; omega
   rw[hH2 n bY] at hn;simp only[af] at hn;have hg:(G n).isSome:=by rw[hn]; rfl
   have fin:∀{as:List AV},aN Ha n=some as->(∀(i:Nat) (d:AV),cs[i]?=some d->∃a,as[i]?=some a/\Le d a)->(cs.length<=as.length/\((∀g sz,φ[n]?=some (some (g,sz))->0<sz)\/cs.length=as.length))->∃(g sz:Nat) (arr:Array Value) (o:Obj),kR[n]?=some (some (g,sz))/\w.heap[g]?=some o/\Vw o sz arr/\(cs.length<=arr.size/\(sz=0->cs.length=arr.size))/\¬ (X g\/(bQ φ g/\¬ bQ kR g))/\∀ (i:Nat) (d:AV),cs[i]?=some d->∃u,arr[i]?=some u/\bD (Rd (fun g=>X g\/(bQ φ g/\¬ bQ kR g)) kR w) kR d u:=by
    intro as has dB hle;obtain⟨g,sz,arr,e,g1,g2,g3,g4,g5,g6⟩:=h.heap.at has;have h2:=adw n hg bY _ g1;refine⟨g,sz,arr,e,h2,g2,g3,⟨by omega,fun z=>hle.2.elim (fun hs=>absurd (hs g sz g1) (by omega)) (fun hs=>hs.trans (g4.2 z))⟩,fun hx=>hx.elim g5 fun hh=>hh.2 ⟨n,sz,h2⟩,fun i d hd=>?_⟩;obtain⟨a,ha,hle2⟩:=dB i d hd;obtain⟨u,u1,u2⟩:=g6 i a ha;exact⟨u,u1,mono (hle2 _ _ _ u2)⟩
   rcases (hG n).2.2 hg with⟨b,hb,hbn⟩|⟨p,hp,ME⟩
   ·obtain⟨ds,nP⟩:=aM.1 hb;have:=(hG n).1 b ds nP hbn;rw[hn] at this;simp at this;subst this;obtain⟨as,a1,a2,a3⟩:=h.box b ds nP;rw[hbn] at a1;refine fin a1 (fun i d hd=>?_) ⟨by rw[fN]; omega,.inr (by rw[fN]; omega)⟩;rw[fy] at hd;cases hi:ds[i]? with
    |none=>rw[hi] at hd; cases hd
    |some d0=>
      rw[hi] at hd;simp at hd;subst hd;obtain⟨_,a',b1,b2⟩:=a3 i d0 hi;exact⟨a',b1,b2⟩
   ·obtain⟨⟨k,xs⟩,Ur⟩:=aM.1 hp;have:=(hG n).2.1 p k xs Ur ME;rw[hn] at this;simp at this;subst this;have ho:=h.own p k xs Ur;rw[ME] at ho;obtain⟨Ux,c1,c2,c3,c4⟩:=ho;refine fin c1 (fun i d hd=>?_) ⟨by rw[iP c3]; exact c2,.inl fun g sz e=>h.QX Ur ME e⟩;obtain⟨_,a',b1,_,b2⟩:=c4 i d hd;exact⟨a',b1,b2⟩
  ·have bY:n<Ha.length:=by have:=aj hn; omega
   rw[hH2 n bY] at hn;simp only[af] at hn;rw[hφ2 n (by omega),hn];rfl
 refine⟨kR,H2,⟨⟨fun i=>mono (h.env i),h.Cx,W2,fun p k xs e=>?_,fun b cs e=>?_,h.inj,h.bx,h.bi⟩,nN,fun n hn=>?_,fun n cs hn d hd=>?_,fun n p hp=>(sub n p hp).1,fun n p hp=>?_,hlφ⟩⟩
 ·have ho:=h.own p k xs e;cases hn:N.ν p with
  |none=>rw[hn] at ho; exact ho
  |some n=>
    rw[hn] at ho;obtain⟨Ux,c1,c2,c3,c4⟩:=ho;refine⟨az xs,ownG p k xs n e hn,by rw[iP c3]; exact aG _,c3,fun i d hd=>?_⟩;obtain⟨f1,_⟩:=c4 i d hd;exact⟨f1,d,hd,(lI f1).2,Le.refl _⟩
 ·obtain⟨as,a1,a2,a3⟩:=h.box b cs e;refine⟨_,boxG b cs e,fN _ _ _ _,fun j d hd=>?_⟩;obtain⟨b1,_⟩:=a3 j d hd;exact⟨b1,iJ N (.c b j) d,by rw[fy,hd]; simp,Le.refl _⟩
 ·obtain⟨cs,dB⟩:=aM.1 hn;have bY:n<Ha.length:=by have:=dp dB; omega
  exact (hG n).2.2 (by rw[<-XU n bY]; exact hn)
 ·have dX:∀b,b<s.H.length->(aN H2 (N.β b)).isSome:=fun b hb=>by
   obtain⟨ds,nP⟩:=aM.1 (j8 b hb);rw[boxG b ds nP]; rfl
  have kM:∀p,(aq s p).isSome->∀n,N.ν p=some n->(aN H2 n).isSome:=fun p hp n hn=>by
   obtain⟨⟨k,xs⟩,Ur⟩:=aM.1 hp;rw[ownG p k xs n Ur hn]; rfl
  have bY:n<Ha.length:=by have:=dp hn; omega
  rcases (hG n).2.2 (by rw[<-XU n bY,hn]; rfl) with⟨b,hb,hbn⟩|⟨p,hp,ME⟩
  ·obtain⟨ds,nP⟩:=aM.1 hb;have e:=boxG b ds nP;rw[hbn,hn] at e;cases e;obtain⟨j,hj⟩:=bt hd;rw[fy] at hj;cases hi:ds[j]? with
   |none=>rw[hi] at hj; cases hj
   |some d0=>
     rw[hi] at hj;simp at hj;subst hj;obtain⟨as,a1,a2,a3⟩:=h.box b ds nP
     exact U4 (o:=aq s) (nb:=s.H.length) dX kM (r:=.c b j) (fun k xs e=>by
      have:aq s (.c b j)=some (k,xs):=bR.2 (by simp only[at_,nP,hi,e]);rw[this]; rfl) (a3 j d0 hi).1
  ·obtain⟨⟨k,xs⟩,Ur⟩:=aM.1 hp;have e:=ownG p k xs n Ur ME;rw[hn] at e;cases e;have ho:=h.own p k xs Ur;rw[ME] at ho;obtain⟨Ux,c1,c2,c3,c4⟩:=ho;obtain⟨j,hj⟩:=bt hd;exact Pe d (lI (c4 j d hj).1).1
 ·have bY:n<Ha.length:=by have:=aj hp; omega
  rw[XU n bY];exact (sub n p hp).2
end
end Go.Bm

/- Calls of functions that share boxes. -/
namespace Go.Bm
open Go.Am
section
variable {P:Program} {X:Nat->Prop} {φ nY φ':cX} {w w1 w':World} {N N1 N':Names} {s s' s1:St} {Ha:Heap} {B:Nat->Nat} {base:Nat} {v va:AV} {v':Value} {c:dM} {o:Oper} {a:Act} {kd:Kd} {call:Nat->List AV->Heap->Option (AV × Heap)} {t:Nat->Value}
theorem vu:∀{l:List AV},fo l=true->∀(i:Nat) (z:AV),l[i]?=some z->kK z=true
 |[],_,i,z,hz=>by simp at hz
 |y::r,h,i,z,hz=>by
   simp only[fo,ae] at h;cases i with
   |zero=>simp at hz; subst hz; exact h.1
   |succ i=>exact vu h.2 i z (by simpa using hz)
theorem dY.enter (h:dY X φ w N s Ha t) (j8:gQ s.H=true) {args:List AV} {vargs:Array Value} (hp:fo args=true) (ho:∀(i:Nat) (x:AV),args[i]?=some x->ct (aq s) s.H.length x) (hr:∀(i:Nat) (x:AV) (v:Value),args[i]?=some x->vargs[i]?=some v->bD (Rd X φ w) φ (cu N x) v) (hl:args.length=vargs.size) :
  dY X φ w N ⟨dL 0 args,s.H⟩ Ha (fun i=>vargs.getD i undef):=by
 have Aq:∀i,get (dL 0 args) i=args[i]?.getD .any:=fun i=>by rw[ta]; simp
 have gV:∀i,bH (get (dL 0 args) i)=false:=fun i=>by
  rw[Aq];cases e:args[i]? with
  |none=>rfl
  |some x=>exact wM (vu hp i x e)
 have own:∀{p},(aq ⟨dL 0 args,s.H⟩ p).isSome->∃b j,p=.c b j:=by
  intro p Lx;cases p with
  |s i=>rw[(dK (s:=⟨dL 0 args,s.H⟩) (gV i)).1] at Lx; cases Lx
  |sc i j=>rw[(dK (s:=⟨dL 0 args,s.H⟩) (gV i)).2 j] at Lx; cases Lx
  |c b j=>exact⟨b,j,rfl⟩
 have box:∀b j,aq ⟨dL 0 args,s.H⟩ (.c b j)=aq s (.c b j):=fun b j=>rfl;obtain⟨_,hbor⟩:=Ak j8;have WG:∀{p:Rt},dh p=false->∃b j,p=.c b j:=fun{p} hp=>by cases p<;>simp[dh] at hp; exact⟨_,_,rfl⟩
 refine⟨fun i=>?_,fun i=>?_,h.heap,fun p k xs e=>?_,fun b cs e=>?_,fun p q n e1 e2 e3 e4=>?_,fun b p e1 e2 e3=>?_,h.bi⟩
 ·show bD _ _ (jW N i (get (dL 0 args) i)) _;rw[wF N i (gV i),Aq];cases e:args[i]? with
  |none=>exact .any _ _
  |some x=>
    obtain⟨v,hv⟩:=bP (l:=vargs) (i:=i) (by have:=aj e; omega);simp only[Option.getD_some];rw[aW,hv];exact hr i x v e hv
 ·show ct _ _ (get (dL 0 args) i);rw[Aq];cases e:args[i]? with
  |none=>trivial
  |some x=>exact DK (aG _) x (vu hp i x e) (ho i x e)
 ·obtain⟨b,j,rfl⟩:=own (p:=p) (by rw[e]; rfl);exact h.own _ k xs e
 ·obtain⟨as,g1,g2,g3⟩:=h.box b cs e;refine⟨as,g1,g2,fun j d hd=>?_⟩;obtain⟨g4,g5⟩:=g3 j d hd;refine⟨Cy (aG _) d (fun p Lx=>?_) g4,g5⟩;obtain⟨b',j',rfl⟩:=WG (hbor b cs e p (kC hd Lx));rfl
 ·obtain⟨b,j,rfl⟩:=own e1;obtain⟨b',j',rfl⟩:=own e2;exact h.inj _ _ n e1 e2 e3 e4
 ·obtain⟨b',j,rfl⟩:=own e2;exact h.bx b (.c b' j) e1 e2 e3
theorem shared (h:dY X φ w N s Ha t) (hb:(∀b,b<base->N.β b=B b)/\base<=s.H.length) {Od:Env} {t0:Nat->Value} {kR:cX} {H2:Heap} (hn:Norm X φ w N ⟨Od,s.H⟩ t0 kR H2) (h0:∀i,bH (get Od i)=false)
  {r:AV} {H' H1:Heap} {t1:Nat->Value} (gE:dY (fun g=>X g\/(bQ φ g/\¬ bQ kR g)) nY w1 N1 ⟨[(0,r)],H'⟩ H1 t1) (ad:eT kR w nY w1) (dX:∀b,b<s.H.length->N1.β b=N.β b) (hle:s.H.length<=H'.length) (G6:gQ H'=true) (Ym:aI r=[]) (gV:bH r=false) :
  ∃ φ',dP X φ' w1 B base ⟨jQ kS s.env,H'⟩ r t (t1 0)/\eT φ w φ' w1:=by
 obtain⟨RE,hbor⟩:=Ak G6;have WG:∀{p:Rt},dh p=false->∃b j,p=.c b j:=fun{p} hp=>by cases p<;>simp[dh] at hp; exact⟨_,_,rfl⟩
 obtain⟨Ga,H3,h3⟩:=gE.norm RE;have l3:=h3.wJ.heap.len;have l1:=h.heap.len;have l2:=hn.len;have l2h:=hn.wJ.heap.len;have pl:wk kR Ga:=ad.QN.trans h3.nN.QN;have hlen:φ.length<=Ga.length:=by have:=pl.len; omega
 have ad2:eT kR w Ga w1:=ad.trans h3.nN
 -- hidden: known to the caller, not to the callee
 let hid:Nat->Bool:=fun n=>decide (n<φ.length)&&!(kR[n]?.join).isSome
 have hid3:∀n,hid n=true->Ga[n]?=some none/\aN H3 n=none:=by
  intro n hh;simp only[hid,ae,decide_eq_true_eq,bn] at hh;obtain⟨bY,hj⟩:=hh;obtain⟨e,he⟩:=aS (l:=Ga) (i:=n) (by omega)
  have h3n:Ga[n]?=some none:=by
   cases e with
   |none=>exact he
   |some p=>
     have:=pl.FQ n p (by omega) he;rw[this] at hj; simp at hj
  refine⟨h3n,?_⟩;cases hb3:aN H3 n with
  |none=>rfl
  |some cs=>
    obtain⟨g,sz,arr,ty,g1,_⟩:=h3.wJ.heap.at hb3;rw[h3n] at g1; cases g1
 have GW:∀n,(aN H3 n).isSome->hid n=false:=fun n hb3=>by
  cases hh:hid n with
  |false=>rfl
  |true=>rw[(hid3 n hh).2] at hb3; cases hb3
 obtain⟨S8,hl4,hφ4⟩:∃S8:cX,S8.length=Ga.length/\∀ m,m<Ga.length->S8[m]?=if hid m then φ[m]? else Ga[m]?:=by
  refine⟨(fc Ga.length).map fun m=>if hid m then (φ[m]?).join else (Ga[m]?).join,by simp,fun m hm=>?_⟩;simp only[cF,List.getElem?_range hm,bV];split
  ·rename_i hh;have bY:m<φ.length:=by simp only[hid,ae,decide_eq_true_eq] at hh; exact hh.1
   rw[aB bY]; rfl
  ·rw[aB hm]; rfl
 obtain⟨H4,hlh4,hH4⟩:=vV H3.length fun m=>if hid m then (Ha[m]?).join else (H3[m]?).join
 have MX:∀n,hid n=true->S8[n]?=φ[n]?:=fun n hh=>by
  have bY:n<φ.length:=by simp only[hid,ae,decide_eq_true_eq] at hh; exact hh.1
  rw[hφ4 n (by omega),if_pos hh]
 have JD:∀n,hid n=false->S8[n]?=Ga[n]?:=fun n hh=>by
  by_cases bY:n<Ga.length
  ·rw[hφ4 n bY,hh]; rfl
  ·rw[dU (by omega),dU (by omega)]
 have H4h:∀n,hid n=true->H4[n]?=Ha[n]?:=fun n hh=>by
  have bY:n<φ.length:=by simp only[hid,ae,decide_eq_true_eq] at hh; exact hh.1
  rw[hH4 n (by omega),if_pos hh,aB (by omega)]; rfl
 have H4n:∀n,hid n=false->H4[n]?=H3[n]?:=fun n hh=>by
  by_cases bY:n<H3.length
  ·rw[hH4 n bY,hh,aB bY]; rfl
  ·rw[dU (by omega),dU (by omega)]
 have afS:∀n,hid n=true->aN H4 n=aN Ha n:=fun n hh=>by unfold aN; rw[H4h n hh]
 have ab6:∀n,hid n=false->aN H4 n=aN H3 n:=fun n hh=>by unfold aN; rw[H4n n hh]
 have own4:∀{g},bQ S8 g->(∃n sz,hid n=true/\φ[n]?=some (some (g,sz)))\/∃ n sz,hid n=false/\Ga[n]?=some (some (g,sz)):=by
  rintro g ⟨n,sz,e⟩;cases hh:hid n with
  |true=>rw[MX n hh] at e; exact .inl ⟨n,sz,hh,e⟩
  |false=>rw[JD n hh] at e; exact .inr ⟨n,sz,hh,e⟩
 have hidX:∀{n g sz},hid n=true->φ[n]?=some (some (g,sz))->bQ φ g/\¬ bQ kR g:=by
  intro n g sz hh e;refine⟨⟨n,sz,e⟩,fun⟨m,o0,e'⟩=>?_⟩;have:=h.heap.inj n m g sz o0 e (hn.sub m _ e');subst this;simp only[hid,ae,decide_eq_true_eq,bn] at hh;rw[e'] at hh; simp at hh
 have sub2:∀{g},bQ kR g->bQ φ g:=fun⟨m,sz,e⟩=>⟨m,sz,hn.sub m _ e⟩
 have nN:eT φ w S8 w1:=by
  refine⟨ad2.os,ad2.tape,ad2.output,ad2.drawn,ad2.size,fun g hg gV=>?_,⟨by omega,fun n p bY hp=>?_⟩⟩
  ·obtain⟨k1,k2⟩:=ad2.keep g hg (fun ho=>gV (sub2 ho));refine⟨k1,fun ho=>?_⟩;rcases own4 ho with⟨n,sz,_,e⟩|⟨n,sz,_,e⟩
   ·exact gV ⟨n,sz,e⟩
   ·exact k2 ⟨n,sz,e⟩
  ·cases hh:hid n with
   |true=>rwa [MX n hh] at hp
   |false=>
     rw[JD n hh] at hp;exact hn.sub n p (pl.FQ n p (by omega) hp)
 -- values of the callee
 have hR:∀a u,Rd (fun g=>(X g\/(bQ φ g/\¬ bQ kR g))\/(bQ nY g/\¬ bQ Ga g)) Ga w1 a u->Rd X S8 w1 a u:=fun a u ⟨p1,p2,p3⟩=>⟨fun hx=>p1 (.inl (.inl hx)),fun ho=>by
  rcases own4 ho with⟨n,sz,hh,e⟩|⟨n,sz,_,e⟩
  ·exact p1 (.inl (.inr (hidX hh e)))
  ·exact p2 ⟨n,sz,e⟩,p3⟩
 have tr34:∀{x:AV} {u:Value},ib (fun m=>(aN H3 m).isSome) x->bD (Rd (fun g=>(X g\/(bQ φ g/\¬ bQ kR g))\/(bQ nY g/\¬ bQ Ga g)) Ga w1) Ga x u->bD (Rd X S8 w1) S8 x u:=fun hx r=>bD.refs hR r hx (by omega) fun b hb4 p hp=>by rwa [JD b (GW b hb4)] at hp
 have W2:bO X S8 w1 H4:=by
  refine⟨by omega,fun g hg=>Nat.lt_of_lt_of_le (h.heap.FK g hg) ad2.size,fun n cs e=>?_,fun n e=>?_,fun n n' g sz o0 e1 e2=>?_⟩
  ·cases hh:hid n with
   |true=>
     rw[H4h n hh] at e;obtain⟨g,sz,arr,ty,g1,g2,g3,g4,g5,g6⟩:=h.heap.live n cs e;have hx:=hidX hh g1;refine⟨g,sz,arr,ty,by rw[MX n hh]; exact g1,?_,g3,g4,g5,fun i d hd=>?_⟩
     ·rw[(ad2.keep g (h.heap.gU hx.1).1 hx.2).1]; exact g2
     ·obtain⟨u,u1,u2⟩:=g6 i d hd;exact⟨u,u1,nN.rep u2⟩
   |false=>
     rw[H4n n hh] at e;obtain⟨g,sz,arr,ty,g1,g2,g3,g4,g5,g6⟩:=h3.wJ.heap.live n cs e;refine⟨g,sz,arr,ty,by rw[JD n hh]; exact g1,g2,g3,g4,fun hx=>g5 (.inl (.inl hx)),fun i d hd=>?_⟩;obtain⟨u,u1,u2⟩:=g6 i d hd;exact⟨u,u1,tr34 (h3.refs n cs (blk_iff.2 e) d (aU hd)) u2⟩
  ·cases hh:hid n with
   |true=>rw[H4h n hh] at e; rw[MX n hh]; exact h.heap.dead n e
   |false=>rw[H4n n hh] at e; rw[JD n hh]; exact h3.wJ.heap.dead n e
  ·have mix:∀{n n' sz o0},hid n=true->hid n'=false->φ[n]?=some (some (g,sz))->Ga[n']?=some (some (g,o0))->False:=by
    intro n n' sz o0 hh Yl e1 e2;obtain⟨cs,dB⟩:=aM.1 (h3.live n' _ e2);obtain⟨g',sz2,arr,ty,g1,_,_,_,g5,_⟩:=h3.wJ.heap.at dB;rw[e2] at g1; cases g1;exact g5 (.inl (.inr (hidX hh e1)))
   cases hh:hid n with
   |true=>
     rw[MX n hh] at e1;cases Yl:hid n' with
     |true=>rw[MX n' Yl] at e2; exact h.heap.inj n n' g sz o0 e1 e2
     |false=>rw[JD n' Yl] at e2; exact (mix hh Yl e1 e2).elim
   |false=>
     rw[JD n hh] at e1;cases Yl:hid n' with
     |true=>rw[MX n' Yl] at e2; exact (mix Yl hh e2 e1).elim
     |false=>rw[JD n' Yl] at e2; exact h3.wJ.heap.inj n n' g sz o0 e1 e2
 -- names
 let Nb:Names:=⟨N1.β,N.ν⟩
 let N4:Names:=⟨N1.β,fun p=>match p with
  |.c b j=>N1.ν (.c b j)
  |p=>N.ν p⟩
 have VG:∀i,aq ⟨jQ kS s.env,H'⟩ (.s i)=aq s (.s i):=fun i=>by
  rw[<-gK wU s (.s i)]; rfl
 have Nr:∀i j,aq ⟨jQ kS s.env,H'⟩ (.sc i j)=aq s (.sc i j):=fun i j=>by
  rw[<-gK wU s (.sc i j)]; rfl
 have afi:∀b j,aq ⟨jQ kS s.env,H'⟩ (.c b j)=aq ⟨[(0,r)],H'⟩ (.c b j):=fun b j=>rfl
 have HV:∀{p},(aq ⟨jQ kS s.env,H'⟩ p).isSome->((∃b j,p=.c b j)/\aq ⟨jQ kS s.env,H'⟩ p=aq ⟨[(0,r)],H'⟩ p/\N4.ν p=N1.ν p)\/((∀b j,p≠.c b j)/\aq ⟨jQ kS s.env,H'⟩ p=aq s p/\N4.ν p=N.ν p):=by
  intro p hp;cases p with
  |s i=>exact .inr ⟨(fun _ _ e=>by cases e),VG i,rfl⟩
  |sc i j=>exact .inr ⟨(fun _ _ e=>by cases e),Nr i j,rfl⟩
  |c b j=>exact .inl ⟨⟨b,j,rfl⟩,afi b j,rfl⟩
 -- blocks of slots are hidden
 have IJ:∀{p n},(∀b j,p≠.c b j)->(aq s p).isSome->N.ν p=some n->hid n=true:=by
  intro p n RC hp WV;have bY:n<Ha.length:=h.gU hp WV;simp only[hid,ae,decide_eq_true_eq,bn];refine⟨by omega,?_⟩;cases e:(kR[n]?).join with
  |none=>rfl
  |some q=>
    exfalso
    have e':kR[n]?=some (some q):=by
     cases e2:kR[n]? with
     |none=>rw[e2] at e; cases e
     |some z=>rw[e2] at e; simp at e; rw[e]
    rcases hn.good n (hn.live n q e') with⟨b,zW,tL⟩|⟨p',hp1,hp2⟩
    ·exact h.bx b p zW hp (by rw[WV,<-tL])
    ·have hc:∃b j,p'=.c b j:=by
      cases p' with
      |s i=>rw[(dK (s:=⟨Od,s.H⟩) (h0 i)).1] at hp1; cases hp1
      |sc i j=>rw[(dK (s:=⟨Od,s.H⟩) (h0 i)).2 j] at hp1; cases hp1
      |c b j=>exact⟨b,j,rfl⟩
     obtain⟨b,j,rfl⟩:=hc;have:=h.inj p (.c b j) n hp hp1 WV hp2;exact RC b j this
 have box3:∀b,(aN H' b).isSome->(aN H3 (N1.β b)).isSome:=fun b iU=>by
  obtain⟨cs,dB⟩:=aM.1 iU;obtain⟨as,a1,_⟩:=h3.wJ.box b cs dB;rw[a1]; rfl
 have Y2:∀{p n},(aq ⟨[(0,r)],H'⟩ p).isSome->N1.ν p=some n->(aN H3 n).isSome:=by
  intro p n hp WV;obtain⟨⟨k,xs⟩,e⟩:=aM.1 hp;have:=h3.wJ.own p k xs e;rw[WV] at this;obtain⟨cs,h1,_⟩:=this;rw[h1]; rfl
 have hl:∀k p a l,(ct (aq s) s.H.length (.du k p a l)->ct (aq ⟨jQ kS s.env,H'⟩) s.H.length (kS (.du k p a l))/\Le (cu N4 (kS (.du k p a l))) (cu Nb (.du k p a l)))/\(ct (aq s) s.H.length (.eR k p a l)->ct (aq ⟨jQ kS s.env,H'⟩) s.H.length (kS (.eR k p a l))/\Le (cu N4 (kS (.eR k p a l))) (cu Nb (.eR k p a l))):=by
  intro k p a l;cases p with
  |s i=>
    refine⟨fun h=>⟨?_,Le.refl _⟩,fun h=>⟨?_,Le.refl _⟩⟩
    ·simp only[kS,ct] at h ⊢; rw[VG]; exact h
    ·simp only[kS,ct] at h ⊢; rw[VG]; exact h
  |sc i j=>
    refine⟨fun h=>⟨?_,Le.refl _⟩,fun h=>⟨?_,Le.refl _⟩⟩
    ·simp only[kS,ct] at h ⊢; rw[Nr]; exact h
    ·simp only[kS,ct] at h ⊢; rw[Nr]; exact h
  |c b j=>exact⟨fun _=>⟨trivial,Le.any _⟩,fun _=>⟨trivial,Le.any _⟩⟩
 have ZN:dY X S8 w1 N4 ⟨jQ kS s.env,H'⟩ H4 t:=by
  refine⟨fun i=>?_,fun i=>?_,W2,fun p k xs e=>?_,fun b cs e=>?_,fun p q n e1 e2 e3 e4=>?_,fun b p e1 e2 e3=>?_,fun b d e1 e2 e3=>h3.wJ.bi b d e1 e2 e3⟩
  ·show bD _ _ (jW N4 i (get (jQ kS s.env) i)) _;rw[dc];have r0:=nN.rep (h.env i);have e0:jW N i (get s.env i)=jW Nb i (get s.env i):=xY (N:=Nb) (N':=N) (o:=aq s) (nb:=s.H.length) (fun b iU=>(dX b iU).symm) (fun _ _=>rfl) rfl (fun _=>rfl) (h.Cx i);rw[e0] at r0;refine Wq (N:=Nb) (N':=N4) (x:=get s.env i) (y:=cC kS (get s.env i)) (fun cs dB=>⟨cK kS cs,by rw[dB]; rfl,cn _ _,fun j c d hc hd=>?_⟩) (fun ZT=>⟨lz wU ZT,?_⟩) _ _ _ r0
   ·rw[dV,hc] at hd;simp at hd;subst hd;have cW:=h.Cx i;rw[dB] at cW;simp only[ct] at cW;exact (lC (N:=Nb) (N':=N4) (o:=aq s) (o':=aq ⟨jQ kS s.env,H'⟩) (nb:=s.H.length) (g:=kS) rfl wU hl (r:=.sc i j) (fun _ _ _=>rfl) (fK.1 cW j c hc)).2
   ·exact (lC (N:=Nb) (N':=N4) (o:=aq s) (o':=aq ⟨jQ kS s.env,H'⟩) (nb:=s.H.length) (g:=kS) rfl wU hl (r:=.s i) (fun _ _ _=>rfl) (h.Cx i)).2
  ·show ct _ H'.length (get (jQ kS s.env) i);rw[dc];exact iL (fun _ _=>rfl) hle _ (Iy (N:=Nb) (N':=N4) (o:=aq s) (o':=aq ⟨jQ kS s.env,H'⟩) (nb:=s.H.length) (g:=kS) rfl wU hl _ (h.Cx i)).1
  ·rcases HV (p:=p) (by rw[e]; rfl) with⟨⟨b,j,rfl⟩,e1,e2⟩|⟨RC,e1,e2⟩
   ·rw[e1] at e;rw[e2];exact (h3.wJ.own _ k xs e).same fun n WV=>ab6 n (GW n (Y2 (by rw[e]; rfl) WV))
   ·rw[e1] at e;rw[e2];exact (h.own p k xs e).same fun n WV=>afS n (IJ RC (by rw[e]; rfl) WV)
  ·obtain⟨as,a1,a2,a3⟩:=h3.wJ.box b cs e;refine⟨as,by show aN H4 (N1.β b)=_; rw[ab6 _ (GW _ (by rw[a1]; rfl))]; exact a1,a2,fun j d hd=>?_⟩;obtain⟨b1,a',b2,b3⟩:=a3 j d hd;have Uv:∀p∈aI d,∃b j,p=.c b j:=fun p hp=>WG (hbor b cs e p (kC hd hp));refine⟨Cy (aG _) d (fun p hp=>?_) b1,a',b2,?_⟩
   ·obtain⟨b',j',rfl⟩:=Uv p hp; rfl
   ·have:iJ N4 (.c b j) d=iJ N1 (.c b j) d:=Gh (N:=N1) (N':=N4) rfl (fun _ _ _=>rfl) fun p hp=>by obtain⟨b',j',rfl⟩:=Uv p hp; rfl
    rw[this]; exact b3
  ·rcases HV e1 with⟨MI,o1,u1⟩|⟨MI,o1,u1⟩<;>rcases HV e2 with⟨F1,o2,u2⟩|⟨F1,o2,u2⟩<;>rw[o1] at e1<;>rw[o2] at e2<;>rw[u1] at e3<;>rw[u2] at e4
   ·exact h3.wJ.inj p q n e1 e2 e3 e4
   ·have a1:=GW n (Y2 e1 e3);have a2:=IJ F1 e2 e4;rw[a1] at a2; cases a2
   ·have a1:=GW n (Y2 e2 e4);have a2:=IJ MI e1 e3;rw[a1] at a2; cases a2
   ·exact h.inj p q n e1 e2 e3 e4
  ·rcases HV e2 with⟨F1,o2,u2⟩|⟨F1,o2,u2⟩<;>rw[o2] at e2<;>rw[u2] at e3
   ·exact h3.wJ.bx b p e1 e2 e3
   ·have a1:=GW _ (box3 b e1);have a2:=IJ F1 e2 e3;have a3:hid (N1.β b)=true:=a2;rw[a1] at a3; cases a3
 have Yg:=h3.wJ.env 0;simp only[Am.get,if_true] at Yg;rw[wF N1 0 gV] at Yg;have hok0:=h3.wJ.Cx 0;simp only[Am.get,if_true] at hok0;refine⟨S8,dP.quiet ZN ⟨fun b iU=>?_,Nat.le_trans hb.2 hle⟩ (Cy (aG _) r (fun p hp=>by rw[Ym] at hp; simp at hp) hok0) (lG gV) ?_,nN⟩
 ·show N1.β b=B b;rw[dX b (by have:=hb.2; omega)]; exact hb.1 b iU
 ·rw[kJ N4 gV];have:cu N4 r=cu N1 r:=CZ (N:=N1) (N':=N4) rfl fun p hp=>by rw[Ym] at hp; simp at hp
  rw[this];refine tr34 (H6 (o:=aq ⟨[(0,r)],H'⟩) (nb:=H'.length) (fun b iU=>box3 b (RE b iU)) (fun p hp n WV=>Y2 hp WV) r hok0) Yg
theorem UP (cW:eM P c) (dI:gC P c call):Fu P c call:=by
 intro X φ w B base s o a kd f args md q r H' hk h hg ha hf hm hp j8 Ym gV G6 hc;obtain⟨N,Ha,h,hb⟩:=h;obtain⟨vargs,oQ,hA,zU⟩:=yR cW h hg hk ha hf
 have hent:dY X φ w N ⟨dL 0 (args.map gj),s.H⟩ Ha (fun i=>vargs.getD i undef):=by
  refine h.enter j8 hp (fun i x hx=>?_) (fun i x v hx hv=>?_) (by simpa using hA.1)
  ·rw[cF] at hx;cases IQ:args[i]? with
   |none=>rw[IQ] at hx; cases hx
   |some y=>
     rw[IQ] at hx;simp at hx;subst hx;have hy:=fK.1 zU i y IQ;unfold gj;split
     ·trivial
     ·exact hy
  ·rw[cF] at hx;cases IQ:args[i]? with
   |none=>rw[IQ] at hx; cases hx
   |some y=>
     rw[IQ] at hx;simp at hx;subst hx;have r0:=hA.2 i y v IQ hv;have hpy:=vu hp i (gj y) (by rw[cF,IQ]; rfl);by_cases ho:∃k,y=.own k []
     ·obtain⟨k,rfl⟩:=ho;simp only[fS] at r0;cases r0;exact .j5 _ _
     ·have hn:gj y=y:=by
       unfold gj;split
       ·rename_i k; exact absurd ⟨k,rfl⟩ ho
       ·rfl
      rw[hn] at hpy ⊢;have hy:fS N y=cu N y:=by cases y<;>first|rfl|(simp[kK] at hpy; done)
      rw[hy] at r0;exact r0
 obtain⟨RE,_⟩:=Ak j8;obtain⟨kR,H2,hn⟩:=hent.norm RE
 have h0:∀i,bH (get (dL 0 (args.map gj)) i)=false:=fun i=>by
  rw[ta];simp only[Nat.zero_le,if_true,Nat.sub_zero];cases e:(args.map gj)[i]? with
  |none=>rfl
  |some x=>exact wM (vu hp i x e)
 have kX:=dI f md q hf (args.map gj) s.H r H' (.inl hm) hc (fun _=>G6) (fun g=>X g\/(bQ φ g/\¬ bQ kR g)) kR w N.β vargs (by simpa using hA.1) ⟨N,H2,hn.wJ,fun _ _=>rfl,aG _⟩ (fun g=>(hg g).mono (fun a u ⟨h1,h2,h3⟩=>⟨fun hx=>hx.elim h1 fun hh=>h2 hh.1,fun⟨m,sz,e⟩=>h2 ⟨m,sz,hn.sub m _ e⟩,h3⟩) (.refl _));intro K Q hK;unfold Oper.wp;rw[oQ,Oper.upon_enter];refine kX.mono ?_;rintro e w1 ⟨v',nY,rfl,⟨N1,H1,gE,zW,hle⟩,ad⟩;obtain⟨φ',yJ,ad'⟩:=shared h hb hn h0 gE ad zW hle G6 Ym gV;exact hK v' w1 φ' (by simpa using yJ) ad'
end
end Go.Bm

/- The machine by value is sound. -/
namespace Go.Bm
open Go.Am
section
variable {P:Program} {c:dM}
theorem UM (cW:eM P c) (nF:tl P c) (tK:tY P c) (n:Nat):Mt P c n:=
 M7 cW nF tK (fun call hc=>UP cW hc) (fun call hc=>adT cW (abS cW nF hc (UP cW hc))) (fun n hs=>shOK cW tK hs) n
theorem XJ (cW:eM P c) (nF:tl P c) (tK:tY P c) (n:Nat):gC P c (kA c n):=HA cW tK (UM cW nF tK n) (shOK cW tK (UM cW nF tK n))
theorem XI (cW:eM P c) (nF:tl P c) (tK:tY P c) {n f:Nat} {md:Md} {q:gR} (hf:c.fn f=some (md,q)) (iN:md.sh=false) {args:List AV} (hz:eC args=true) {r:AV} {H':Heap} (h:kA c n f args []=some (r,H')) (hr:pl r=true) {w:World} {vargs:Array Value}
  (ha:si (fun _=>False) [] w args vargs) (hg:Am.dD (ga c) (fun _=>False) [] w):Calls P f vargs w (fun e w'=>∃v,e=.returned v/\bD (Rd (fun _=>False) [] w') [] r v/\RowKit.Below w.heap.size w w'):=
 Ua cW (XJ cW nF tK n) hf iN hz h hr ha hg
theorem T9 (cW:eM P c) (nF:tl P c) (tK:tY P c) {n f:Nat} {md:Md} {q:gR} (hf:c.fn f=some (md,q)) (iN:md.sh=false) {args:List AV} (hz:eC args=true) {r:AV} {H':Heap} (h:kA c n f args []=some (r,H')) (hr:pl r=true) {w:World} {vargs:Array Value}
  (ha:si (fun _=>False) [] w args vargs) (hg:Am.dD (ga c) (fun _=>False) [] w):Calls P f vargs w (fun e w'=>∃v,e=.returned v/\bD (Rd (fun _=>False) [] w') [] r v/\∃ q os,w'=Go.Sort.grow (w.drewN q) os):=
 OB cW (XJ cW nF tK n) hf iN hz h hr ha hg
end
end Go.Bm

/- More fuel gives the same; runs without counting fuel. -/
namespace Go.Bm
open Go.Am
section
variable {c:dM}
abbrev mM:=Nat->List AV->Heap->Option (AV × Heap)
def Yq (f g:mM):Prop:=∀n a H r,f n a H=some r->g n a H=some r
theorem Og {f g:mM} (h:Yq f g) {kd:Kd} {s:St} {x:AV × St × Fq} (e:dO c f kd s=some x):dO c g kd s=some x:=by
 unfold dO at e ⊢;split at e
 ·cases e
 rename_i n args ha
 try simp only[ha]
 split at e
 ·cases e
 rename_i md q hf
 try simp only[hf]
 split at e
 ·rename_i hm
  try rw[if_pos hm]
  split at e
  ·cases e
  rename_i rR hz
  try simp only[hz]
  split at e
  case h_2=>cases e
  rename_i r H' hc;rw[h _ _ _ _ hc];exact e
 ·rename_i hm
  try rw[if_neg hm]
  split at e
  ·cases e
  rename_i n1 oY LL
  try simp only[LL]
  split at e
  case isFalse=>cases e
  rename_i W4
  try rw[if_pos W4]
  split at e
  ·rename_i iN
   try rw[if_pos iN]
   split at e
   case isFalse=>cases e
   rename_i hp
   try rw[if_pos hp]
   split at e
   case h_2=>cases e
   rename_i r H' hc;rw[h _ _ _ _ hc];exact e
  ·rename_i iN
   try rw[if_neg iN]
   split at e
   case isFalse=>cases e
   rename_i hp
   try rw[if_pos hp]
   split at e
   case h_2=>cases e
   rename_i r H' hc;rw[h _ _ _ _ hc];exact e
theorem Eg {f:mM} {s:St} {kd:Kd} (h:mN c f s kd=none) (g:mM):mN c g s kd=none:=by
 unfold mN at h ⊢;split at h
 ·split at h
  ·cases h
  ·rename_i hl;exact if_neg hl
 ·rfl
theorem Rn {f:mM} {s:St} {kd:Kd} {v:AV} {s1:St} {fl:Fq} (h:mN c f s kd=some (some (v,s1,fl))):∃n args H r H',f n args H=some (r,H')/\∀ g:mM,g n args H=some (r,H')->mN c g s kd=some (some (v,s1,fl)):=by
 obtain⟨n,x,es,b,md,q,cs,cs',rfl,h1,h2,h3,h4,h5,h6,h7,rfl,rfl⟩:=vH h;refine⟨_,_,_,_,_,h6,fun g hg=>?_⟩;unfold mN;simp only;rw[if_pos h1];unfold Tx;rw[h2];simp only[h3,h4];rw[if_pos h5,hg];simp only;rw[if_pos h7]
theorem Zw {f g:mM} (h:Yq f g) {kd:Kd} {s:St} {x:AV × St × Fq} (e:mN c f s kd=some (some x)):mN c g s kd=some (some x):=by
 obtain⟨v,s1,fl⟩:=x;obtain⟨n,args,H,r,H',h1,h2⟩:=Rn e;exact h2 g (h _ _ _ _ h1)
theorem Zp {f:mM} {fn i:Nat} {s:St} {xs:List AV} {x:AV × St × Fq} (e:KI c f fn i s xs=some x):∃n args H r H',f n args H=some (r,H')/\∀ g:mM,g n args H=some (r,H')->KI c g fn i s xs=some x:=by unfold KI at e;cases e
theorem GQ {f:mM} {kd:Kd} {s:St} {x:AV × St × Fq} (e:rZ c f s kd=some (some x)):∃n args H r H',f n args H=some (r,H')/\∀ g:mM,g n args H=some (r,H')->rZ c g s kd=some (some x):=by
 unfold rZ at e;split at e
 case h_2=>cases e
 rename_i fn es;split at e
 case h_2=>cases e
 rename_i i hi;simp only[af] at e;obtain⟨n,args,H,r,H',h1,h2⟩:=Zp e;exact⟨n,args,H,r,H',h1,fun g hg=>by simp only[rZ,hi,h2 g hg]⟩
theorem yy {f:mM} {kd:Kd} {s:St} (h:rZ c f s kd=none) (g:mM):rZ c g s kd=none:=by
 unfold rZ at h ⊢;split at h
 ·split at h
  ·cases h
  ·rename_i hm;simp only[hm]
 ·rfl
theorem Oh {f g:mM} (h:Yq f g) {kd:Kd} {s:St} {x:AV × St × Fq} (e:fL c f kd s=some x):fL c g kd s=some x:=by
 unfold fL at e ⊢;cases hm:rZ c f s kd with
 |none=>
   rw[hm] at e;rw[yy hm g];obtain⟨v,s1,fl⟩:=x;rcases iG e with e|e
   ·exact qQ (Og h e)
   ·obtain⟨n,args,H,r,H',h1,h2⟩:=O4 e;exact ES (h2 g (h _ _ _ _ h1))
 |some r=>
   rw[hm] at e;simp only at e;subst e;obtain⟨n,args,H,r,H',h1,h2⟩:=GQ hm;rw[h2 g (h _ _ _ _ h1)]
theorem ET {f g:mM} (h:Yq f g) {kd:Kd} {s:St} {x:AV × St × Fq} (e:dj c f kd s=some x):dj c g kd s=some x:=by
 unfold dj at e ⊢;cases hi:pW c s kd with
 |some r=>rw[hi] at e; exact e
 |none=>
   rw[hi] at e;cases hl:mN c f s kd with
   |none=>rw[hl] at e; rw[Eg hl g]; exact Oh h e
   |some r=>
     rw[hl] at e;simp only at e;subst e;rw[Zw h hl]
theorem DR {f g:mM} {s:St} {kd:Kd} (h:mC kd=false):eO c f s kd=eO c g s kd:=by
 cases kd<;>first|rfl|(simp[mC] at h)
theorem Ik {f g:mM} (h:Yq f g) {kd:Kd} {s:St} {x:AV × St × Fq} (e:eO c f s kd=some x):eO c g s kd=some x:=by
 cases hk:mC kd with
 |false=>rw[<-DR (f:=f) hk]; exact e
 |true=>
   cases kd<;>simp[mC] at hk
   ·simp only[eO] at e ⊢; exact ET h e
   ·simp only[eO] at e ⊢; exact ET h e
theorem C1 {f g:mM} (h:Yq f g) {s:St} {o:O} {x:St × Fq} (e:rA c f s o=some x):rA c g s o=some x:=by
 have op:∀{y:AV × St × Fq} {K:AV × St × Fq->Option (St × Fq)},eO c f s o.kd=some y->eO c g s o.kd=some y:=fun h'=>Ik h h';rw[vc] at e ⊢;cases hv:B5 c f s o with
 |none=>rw[hv] at e; cases e
 |some y=>
   have:B5 c g s o=some y:=by
    unfold B5 at hv ⊢;split at hv
    ·exact Ik h hv
    ·split at hv
     ·split at hv
      ·rename_i hb; simp only[hb,if_true]; exact Ik h hv
      ·rename_i hb; simp only[hb,if_false]; exact hv
     ·exact hv
     ·cases hv
   rw[hv] at e;rw[this];exact e
theorem Cw {f g:mM} (h:Yq f g):∀{os:List O} {s:St} {x:St × List Fq},my c f os s=some x->my c g os s=some x
 |[],s,x,e=>e
 |o::r,s,x,e=>by
   simp only[my] at e ⊢;split at e
   case h_2=>cases e
   rename_i s1 fl h1;rw[C1 h h1];simp only;split at e
   case h_2=>cases e
   rename_i s2 pX h2;rw[Cw h h2];exact e
def LeR (f g:Nat->C->St->Option (Ex × St)):Prop:=∀b cd s x,f b cd s=some x->g b cd s=some x
theorem E7 {f g:Nat->C->St->Option (Ex × St)} (h:LeR f g):Yq (mL c f) (mL c g):=by
 intro n a H r e;unfold mL at e ⊢;split at e
 ·exact e
 split at e
 ·cases e
 split at e
 case isFalse=>cases e
 rename_i md fn hf hl;simp only[hl,if_true];split at e
 ·rename_i s' hs; rw[h _ _ _ _ hs]; exact e
 ·rename_i s' hs; rw[h _ _ _ _ hs]; exact e
 ·cases e
theorem EV:∀n,LeR (cE c n) (cE c (n+1))
 |0=>fun b cd s x e=>by simp[cE] at e
 |n+1=>by
   have ih:=EV n;intro b cd s x e;unfold cE at e ⊢;cases cd with
   |skip=>exact e
   |ret=>exact e
   |exit i=>exact e
   |rW os dr un keep=>
     simp only at e ⊢;split at e
     case h_2=>cases e
     rename_i s' pX hs;rw[Cw (E7 ih) hs];exact e
   |seq a b'=>
     simp only at e ⊢;cases h1:cE c n b a s with
     |none=>rw[h1] at e; cases e
     |some y=>
       obtain⟨ex,s1⟩:=y;rw[h1] at e;rw[ih _ _ _ _ h1];cases ex with
       |normal=>exact ih _ _ _ _ e
       |exit i=>exact e
       |ret=>exact e
   |cond y a b'=>
     simp only at e ⊢;split at e
     ·rename_i t ht;split at e
      ·rename_i h1; simp only[h1,if_true]; exact ih _ _ _ _ e
      ·rename_i h1; simp only[h1,if_false,bk]; exact ih _ _ _ _ e
     ·cases e
   |aN i b'=>
     simp only at e ⊢;cases h1:cE c n b b' s with
     |none=>rw[h1] at e; cases e
     |some y=>
       rw[h1] at e;rw[ih _ _ _ _ h1];exact e
   |loop b'=>
     simp only at e ⊢;cases h1:cE c n b b' s with
     |none=>rw[h1] at e; cases e
     |some y=>
       obtain⟨ex,s1⟩:=y;rw[h1] at e;rw[ih _ _ _ _ h1];cases ex with
       |normal=>exact ih _ _ _ _ e
       |exit i=>exact e
       |ret=>exact e
theorem qS {n m:Nat} (h:n<=m):LeR (cE c n) (cE c m):=by
 induction h with
 |refl=>exact fun _ _ _ _ e=>e
 |step _ ih=>exact fun b cd s x e=>EV _ b cd s x (ih b cd s x e)
open Classical in
noncomputable def bh (c:dM) (b:Nat) (cd:C) (s:St):Option (Ex × St):=if h:∃n x,cE c n b cd s=some x then some (zg (iK h)) else none
theorem cN {b:Nat} {cd:C} {s:St} {x:Ex × St}:bh c b cd s=some x ↔ ∃n,cE c n b cd s=some x:=by
 unfold bh;constructor
 ·intro e;split at e
  ·rename_i h;have:=iK (iK h);exact⟨_,bJ e▸this⟩
  ·cases e
 ·rintro⟨n,e⟩;have h:∃n x,cE c n b cd s=some x:=⟨n,x,e⟩;rw[dif_pos h];have:=iK (iK h);have h1:=qS (wv n (zg h)) _ _ _ _ e;have h2:=qS (uL n (zg h)) _ _ _ _ this;rw[h1] at h2;cases h2;rfl
noncomputable def bS (c:dM) (f:Nat) (args:List AV) (H:Heap):Option (AV × Heap):=mL c (bh c) f args H
theorem lJ (n:Nat):LeR (cE c n) (bh c):=fun b cd s x e=>cN.2 ⟨n,e⟩
theorem xj (n:Nat):Yq (kA c n) (bS c):=E7 (lJ n)
theorem gH {f:Nat} {args:List AV} {H:Heap} {r:AV × Heap}:bS c f args H=some r ↔ ∃n,kA c n f args H=some r:=by
 constructor
 ·intro e;unfold bS mL at e;split at e
  case h_1=>
   rename_i g hg;exact⟨0,by unfold kA mL; rw[hg]; exact e⟩
  rename_i ho;split at e
  ·cases e
  rename_i md fn hf;split at e
  case isFalse=>cases e
  rename_i hl;split at e
  ·rename_i s' hs;obtain⟨n,hn⟩:=cN.1 hs;exact⟨n,by unfold kA mL; simp only[ho,hf,hl,if_true,hn]; exact e⟩
  ·rename_i s' hs;obtain⟨n,hn⟩:=cN.1 hs;exact⟨n,by unfold kA mL; simp only[ho,hf,hl,if_true,hn]; exact e⟩
  ·cases e
 ·rintro⟨n,e⟩;exact xj n _ _ _ _ e
theorem Mk {n m:Nat} (h:n<=m):Yq (kA c n) (kA c m):=E7 (qS h)
theorem Q1 {s:St} {kd:Kd} {x:AV × St × Fq}:eO c (bS c) s kd=some x ↔ ∃n,eO c (kA c n) s kd=some x:=by
 constructor
 ·intro e;cases hk:mC kd with
  |false=>exact⟨0,by rw[DR (g:=bS c) hk]; exact e⟩
  |true=>
    have key0:∀{kd:Kd},dO c (bS c) kd s=some x->∃n,dO c (kA c n) kd s=some x:=by
     intro kd e;unfold dO at e;split at e
     ·cases e
     rename_i f args ha;split at e
     ·cases e
     rename_i md q hf;split at e
     ·rename_i hm;split at e
      ·cases e
      rename_i rR hz;split at e
      case h_2=>cases e
      rename_i r H' hc;obtain⟨n,hn⟩:=gH.1 hc;refine⟨n,?_⟩;unfold dO;simp only[ha,hf,hm,if_true,hz,hn];exact e
     ·rename_i hm;split at e
      ·cases e
      rename_i f1 oY LL;split at e
      case isFalse=>cases e
      rename_i W4;split at e
      ·rename_i iN;split at e
       case isFalse=>cases e
       rename_i hp;split at e
       case h_2=>cases e
       rename_i r H' hc;obtain⟨n,hn⟩:=gH.1 hc;refine⟨n,?_⟩;unfold dO;rw[ha];simp only[hf];rw[if_neg hm,LL];simp only;rw[if_pos W4,if_pos iN,if_pos hp,hn];exact e
      ·rename_i iN;split at e
       case isFalse=>cases e
       rename_i hp;split at e
       case h_2=>cases e
       rename_i r H' hc;obtain⟨n,hn⟩:=gH.1 hc;refine⟨n,?_⟩;unfold dO;rw[ha];simp only[hf];rw[if_neg hm,LL];simp only;rw[if_pos W4,if_neg iN,if_pos hp,hn];exact e
    have Zy:∀{kd:Kd},fL c (bS c) kd s=some x->∃n,fL c (kA c n) kd s=some x:=by
     intro kd e;unfold fL at e ⊢;cases hm:rZ c (bS c) s kd with
     |none=>
       rw[hm] at e;obtain⟨v,s1,fl⟩:=x;rcases iG e with e|e
       ·obtain⟨n,hn⟩:=key0 e;exact⟨n,by rw[yy hm]; exact qQ hn⟩
       ·obtain⟨m,args,H,r,H',h1,h2⟩:=O4 e;obtain⟨n,hn⟩:=gH.1 h1;exact⟨n,by rw[yy hm]; exact ES (h2 _ hn)⟩
     |some r=>
       rw[hm] at e;simp only at e;subst e;obtain⟨m,args,H,r,H',h1,h2⟩:=GQ hm;obtain⟨n,hn⟩:=gH.1 h1;exact⟨n,by rw[h2 _ hn]⟩
    have key:∀{kd:Kd},dj c (bS c) kd s=some x->∃n,dj c (kA c n) kd s=some x:=by
     intro kd e;unfold dj at e ⊢;cases hi:pW c s kd with
     |some r=>rw[hi] at e; exact⟨0,e⟩
     |none=>
       rw[hi] at e;cases hl:mN c (bS c) s kd with
       |none=>
         rw[hl] at e;obtain⟨n,hn⟩:=Zy e;exact⟨n,by rw[Eg hl]; exact hn⟩
       |some r=>
         rw[hl] at e;simp only at e;subst e;obtain⟨m,args,H,r,H',h1,h2⟩:=Rn (v:=x.1) (s1:=x.2.1) (fl:=x.2.2) hl;obtain⟨n,hn⟩:=gH.1 h1;exact⟨n,by rw[h2 _ hn]⟩
    cases kd<;>simp[mC] at hk
    ·simp only[eO] at e ⊢; exact key e
    ·simp only[eO] at e ⊢; exact key e
 ·rintro⟨n,e⟩;exact Ik (xj n) e
theorem Td {s:St} {o:O} {x:St × Fq}:rA c (bS c) s o=some x ↔ ∃n,rA c (kA c n) s o=some x:=by
 constructor
 ·intro e;rw[vc] at e;cases hv:B5 c (bS c) s o with
  |none=>rw[hv] at e; cases e
  |some y=>
    have:∃n,B5 c (kA c n) s o=some y:=by
     unfold B5 at hv ⊢;split at hv
     ·obtain⟨n,hn⟩:=Q1.1 hv;exact⟨n,hn⟩
     ·split at hv
      ·split at hv
       ·rename_i hb;obtain⟨n,hn⟩:=Q1.1 hv;exact⟨n,by simp only[hb,if_true]; exact hn⟩
       ·rename_i hb; exact⟨0,by simp only[hb,if_false]; exact hv⟩
      ·exact⟨0,hv⟩
      ·cases hv
    obtain⟨n,hn⟩:=this;refine⟨n,?_⟩;rw[hv] at e;rw[vc,hn];exact e
 ·rintro⟨n,e⟩;exact C1 (xj n) e
theorem DP:∀{os:List O} {s:St} {x:St × List Fq},my c (bS c) os s=some x ↔ ∃n,my c (kA c n) os s=some x
 |[],s,x=>⟨fun e=>⟨0,e⟩,fun⟨_,e⟩=>e⟩
 |o::r,s,x=>by
   constructor
   ·intro e;simp only[my] at e;split at e
    case h_2=>cases e
    rename_i s1 fl h1;split at e
    case h_2=>cases e
    rename_i s2 pX h2;obtain⟨n,hn⟩:=Td.1 h1;obtain⟨m,hm⟩:=DP.1 h2;refine⟨max n m,?_⟩;simp only[my];rw[C1 (Mk (wv n m)) hn];simp only;rw[Cw (Mk (uL n m)) hm];exact e
   ·rintro⟨n,e⟩;exact Cw (xj n) e
theorem zx {α:Type} {a b:Option α} (h:∀x,a=some x ↔ b=some x):a=b:=by
 cases a with
 |none=>cases b with
   |none=>rfl
   |some y=>exact ((h y).2 rfl)
 |some x=>exact ((h x).1 rfl).symm
variable {b:Nat} {s:St}
theorem EU:bh c b .skip s=some (.normal,s):=cN.2 ⟨1,rfl⟩
theorem Hn:bh c b .ret s=some (.ret,s):=cN.2 ⟨1,rfl⟩
theorem Ou {i:Nat}:bh c b (.exit i) s=some (.exit i,s):=cN.2 ⟨1,rfl⟩
noncomputable def Gi (c:dM) (b:Nat) (y:C):Option (Ex × St)->Option (Ex × St)
 |some (.normal,s')=>bh c b y s'
 |r=>r
def regL (dr:Bool) (os:List O) (un:List (Nat × Nat)) (base:Nat) (keep:List Nat):Option (St × List Fq)->Option (Ex × St)
 |some (s',pX)=>if dr=false\/Hj os pX un=true then (match Oe base keep s' with
   |some s2=>some (.normal,s2)
   |none=>none) else none
 |none=>none
def blkL (i:Nat):Option (Ex × St)->Option (Ex × St)
 |some (.exit j,s')=>if j=i then some (.normal,s') else some (.exit j,s')
 |r=>r
theorem eQ {x y:C}:bh c b (.seq x y) s=Gi c b y (bh c b x s):=by
 apply zx;intro z;constructor
 ·intro e;obtain⟨n,hn⟩:=cN.1 e;cases n with
  |zero=>simp[cE] at hn
  |succ n=>
    simp only[cE] at hn;cases h1:cE c n b x s with
    |none=>rw[h1] at hn; cases hn
    |some w=>
      obtain⟨ex,s1⟩:=w;rw[h1] at hn;rw[lJ n _ _ _ _ h1];cases ex with
      |normal=>exact lJ n _ _ _ _ hn
      |exit i=>exact hn
      |ret=>exact hn
 ·intro e;cases h1:bh c b x s with
  |none=>rw[h1] at e; cases e
  |some w=>
    obtain⟨ex,s1⟩:=w;rw[h1] at e;obtain⟨n,hn⟩:=cN.1 h1;cases ex with
    |normal=>
      obtain⟨m,hm⟩:=cN.1 e;refine cN.2 ⟨max n m+1,?_⟩;simp only[cE];rw[qS (wv n m) _ _ _ _ hn];exact qS (uL n m) _ _ _ _ hm
    |exit i=>exact cN.2 ⟨n+1,by simp only[cE]; rw[hn]; exact e⟩
    |ret=>exact cN.2 ⟨n+1,by simp only[cE]; rw[hn]; exact e⟩
theorem qR {x:C}:bh c b (.loop x) s=Gi c b (.loop x) (bh c b x s):=by
 apply zx;intro z;constructor
 ·intro e;obtain⟨n,hn⟩:=cN.1 e;cases n with
  |zero=>simp[cE] at hn
  |succ n=>
    simp only[cE] at hn;cases h1:cE c n b x s with
    |none=>rw[h1] at hn; cases hn
    |some w=>
      obtain⟨ex,s1⟩:=w;rw[h1] at hn;rw[lJ n _ _ _ _ h1];cases ex with
      |normal=>exact lJ n _ _ _ _ hn
      |exit i=>exact hn
      |ret=>exact hn
 ·intro e;cases h1:bh c b x s with
  |none=>rw[h1] at e; cases e
  |some w=>
    obtain⟨ex,s1⟩:=w;rw[h1] at e;obtain⟨n,hn⟩:=cN.1 h1;cases ex with
    |normal=>
      obtain⟨m,hm⟩:=cN.1 e;refine cN.2 ⟨max n m+1,?_⟩;simp only[cE];rw[qS (wv n m) _ _ _ _ hn];exact qS (uL n m) _ _ _ _ hm
    |exit i=>exact cN.2 ⟨n+1,by simp only[cE]; rw[hn]; exact e⟩
    |ret=>exact cN.2 ⟨n+1,by simp only[cE]; rw[hn]; exact e⟩
theorem Hr {i:Nat} {x:C}:bh c b (.aN i x) s=blkL i (bh c b x s):=by
 apply zx;intro z;constructor
 ·intro e;obtain⟨n,hn⟩:=cN.1 e;cases n with
  |zero=>simp[cE] at hn
  |succ n=>
    simp only[cE] at hn;cases h1:cE c n b x s with
    |none=>rw[h1] at hn; cases hn
    |some w=>rw[h1] at hn; rw[lJ n _ _ _ _ h1]; exact hn
 ·intro e;cases h1:bh c b x s with
  |none=>rw[h1] at e; cases e
  |some w=>
    obtain⟨n,hn⟩:=cN.1 h1;rw[h1] at e;exact cN.2 ⟨n+1,by simp only[cE]; rw[hn]; exact e⟩
theorem Ov {v:E} {t:Bool} {x y:C} (h:aR c s.env v=.bool t):bh c b (.cond v x y) s=if t then bh c b x s else bh c b y s:=by
 apply zx;intro z;constructor
 ·intro e;obtain⟨n,hn⟩:=cN.1 e;cases n with
  |zero=>simp[cE] at hn
  |succ n=>
    simp only[cE,h] at hn;cases t with
    |true=>exact lJ n _ _ _ _ hn
    |false=>exact lJ n _ _ _ _ hn
 ·intro e;cases t with
  |true=>obtain⟨n,hn⟩:=cN.1 e; exact cN.2 ⟨n+1,by simp only[cE,h]; exact hn⟩
  |false=>obtain⟨n,hn⟩:=cN.1 e; exact cN.2 ⟨n+1,by simp only[cE,h]; exact hn⟩
theorem Ho {os:List O} {dr:Bool} {un:List (Nat × Nat)} {keep:List Nat}:bh c b (.rW os dr un keep) s=regL dr os un b keep (my c (bS c) os s):=by
 apply zx;intro z;constructor
 ·intro e;obtain⟨n,hn⟩:=cN.1 e;cases n with
  |zero=>simp[cE] at hn
  |succ n=>
    simp only[cE] at hn;split at hn
    case h_2=>cases hn
    rename_i s' pX h1;rw[DP.2 ⟨n,h1⟩];exact hn
 ·intro e;cases h1:my c (bS c) os s with
  |none=>rw[h1] at e; cases e
  |some w=>
    obtain⟨n,hn⟩:=DP.1 h1;rw[h1] at e;refine cN.2 ⟨n+1,?_⟩;simp only[cE];have MF:my c (mL c (cE c n)) os s=some w:=hn;rw[MF];exact e
theorem XK {f:Nat} {md:Md} {q:gR} {args:List AV} {H:Heap} (ho:c.orc f=none) (hf:c.fn f=some (md,q)) (hl:args.length<=q.n):bS c f args H=(match bh c H.length q.body ⟨dL 0 args,H⟩ with
  |some (.ret,s)=>(match p9 c s q.res with
    |some vs=>bU md H.length s (nZ vs)
    |none=>none)
  |some (.normal,s)=>(match p9 c s q.res with
    |some vs=>bU md H.length s (nZ vs)
    |none=>none)
  |_=>none):=by
 unfold bS mL;simp only[FP,ho,hf,hl,if_true];generalize bh c H.length q.body ⟨dL 0 args,H⟩=z;cases z with
 |none=>rfl
 |some w=>
   obtain⟨e,s⟩:=w;cases e<;>rfl
end
end Go.Bm

/- Arguments that came in, by value; answers that are bools. -/
namespace Go.Am
open Go.ChangeShapes Go.WideShapes
def X6 (k:IntKind) (w:World) (a:Option Addr) (len cap:Nat) (zs:List Int):Prop:=
 (a=none/\len=0/\cap=0/\zs=[]) \/
 ∃ x,a=some x/\len<=cap/\cap<=maxLen/\zs.length=cap/\(∀i,i<zs.length->w.cell? (x.add i)=some (.int k (zs.getD i 0)))/\∀ n∈zs,(Lit.int k n).wf=true
theorem acn {k:IntKind} {w:World} {a:Option Addr} {len cap:Nat} {zs:List Int} (h:X6 k w a len cap zs):bD (Rd (fun _=>False) [] w) [] (.list 1 ((zs.take len).map (AV.int k))) (.slice a len cap):=by
 rcases h with⟨rfl,rfl,rfl,rfl⟩|⟨x,rfl,hl,hm,hz,mY,hwz⟩
 ·exact .j5 _ _
 ·refine .uU _ 1 _ x len cap (fun i _=>.int k (zs.getD i 0)) (by simp; omega) hl ?_ ?_ ?_
  ·intro y hy;obtain⟨n,_,rfl⟩:=List.mem_map.mp hy;rfl
  ·intro i j y c hy hc;have hi:i<((zs.take len).map (AV.int k)).length:=(List.getElem?_eq_some_iff.mp hy).1;simp at hi;rw[cF] at hy;cases FT:(zs.take len)[i]? with
   |none=>rw[FT] at hy; cases hy
   |some n=>
     rw[FT] at hy;cases hy;cases j with
     |succ j=>simp[AV.cells] at hc
     |zero=>exact⟨id,bQ.nil _,by simpa using mY i (by omega)⟩
  ·intro i j y c hy hc;rw[cF] at hy;cases FT:(zs.take len)[i]? with
   |none=>rw[FT] at hy; cases hy
   |some n=>
     rw[FT] at hy;cases hy;cases j with
     |succ j=>simp[AV.cells] at hc
     |zero=>
       simp[AV.cells] at hc;subst hc
       have e:zs.getD i 0=n:=by
        rw[bC] at FT;split at FT
        ·simp[List.getD,FT]
        ·cases FT
       rw[e];exact .int _ _ _
theorem si.nil {X:Nat->Prop} {φ:cX} {w:World}:si X φ w [] #[]:=⟨rfl,fun i x v h=>by simp at h⟩
theorem si.cons {X:Nat->Prop} {φ:cX} {w:World} {x:AV} {v:Value} {xs:List AV} {vs:List Value} (h:bD (Rd X φ w) φ x v) (r:si X φ w xs vs.toArray):si X φ w (x::xs) (v::vs).toArray:=by
 obtain⟨r1,r2⟩:=r;refine⟨by simpa using r1,fun i y u hy hu=>?_⟩;cases i with
 |zero=>
   simp at hy hu;subst hy hu;exact h
 |succ i=>
   refine r2 i y u (by simpa using hy) (by simpa using hu)
theorem JY {R:Addr->Value->Prop} {φ:cX} {b:Bool} {v:Value} (h:bD R φ (.bool b) v):v=.bool b:=by cases h; rfl
end Go.Am
namespace Go.Bm
open Go.Am
theorem Mj {P:Program} {c:dM} (cW:eM P c) (nF:tl P c) (tK:tY P c) {f:Nat} {md:Md} {q:gR} (hf:c.fn f=some (md,q)) (iN:md.sh=false) {args:List AV} {b:Bool} {H':Heap} (h:bS c f args []=some (.bool b,H')) (hz:eC args=true) {w:World} {vargs:Array Value}
  (ha:si (fun _=>False) [] w args vargs) (hg:Am.dD (ga c) (fun _=>False) [] w):Calls P f vargs w (fun e w'=>e=.returned (.bool b)/\RowKit.Below w.heap.size w w'):=by
 obtain⟨n,hn⟩:=gH.1 h;refine (XI cW nF tK hf iN hz hn rfl ha hg).mono ?_;rintro e w' ⟨v,rfl,hr,hb⟩;rw[JY hr];exact⟨rfl,hb⟩
theorem Xb {c:dM} {g0:Nat} {k:IntKind} {zs:List Int} (h:∀g,c.gl g=if g=g0 then zs.map (AV.int k) else[]) {w:World} (hc:∀i,(hi:i<zs.length)->w.cell? ⟨g0,i,none⟩=some (.int k zs[i])):Am.dD (ga c) (fun _=>False) [] w:=by
 intro g;show bD _ [] (.de (c.gl g)) _;rw[h g];split
 ·rename_i e;subst e;refine .de _ _ _ (fun j=>.int k (zs.getD j 0)) (fun j d hj=>?_) (fun j d hj=>?_)
  ·rw[cF] at hj;cases e:zs[j]? with
   |none=>rw[e] at hj; cases hj
   |some z=>
     have bY:=aj e;refine⟨id,bQ.nil _,?_⟩;rw[Addr.iq,Nat.zero_add,hc j bY,aT,e,<-aB bY |>.symm.trans e |> bJ];rfl
  ·rw[cF] at hj;cases e:zs[j]? with
   |none=>rw[e] at hj; cases hj
   |some z=>
     rw[e] at hj;simp at hj;subst hj;rw[aT,e];exact .int _ _ _
 ·exact .de _ _ _ (fun _=>undef) (fun j c hj=>by simp at hj) (fun j c hj=>by simp at hj)
theorem TO {c:dM} (h:∀g,c.gl g=[]) {w:World}:Am.dD (ga c) (fun _=>False) [] w:=by
 intro g;show bD _ [] (.de (c.gl g)) _;rw[h g];exact .de _ _ _ (fun _=>undef) (fun j c hj=>by simp at hj) (fun j c hj=>by simp at hj)
end Go.Bm

/- Calls that are known ahead: a table of runs, each proved by itself. -/
namespace Go.Bm
open Go.Am
structure Fact where
 f:Nat
 args:List AV
 H:Heap
 r:AV
 H':Heap
end Go.Bm
