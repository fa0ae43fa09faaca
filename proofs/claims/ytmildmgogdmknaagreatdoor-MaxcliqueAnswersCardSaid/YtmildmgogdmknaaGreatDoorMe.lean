/- The machine by value: open orders, shared boxes; the whole. -/
import Derived.Test.YtmildmgogdmknaaGreatDoorMd
import Derived.ProofKit
import Derived.WalkKit
import Derived.OpenShut
/- What a pure operation answers depends on the slots it reads. -/
set_option linter.unusedSimpArgs false
set_option linter.unusedVariables false
open Array renaming getD_eq_getD_getElem? → bn, replicate → sF
open Bool renaming and_eq_true → ae, false_and → eh, false_eq_true → bz, not_eq_true' → bR, or_eq_false_iff → fD, or_eq_true → gM
open Classical renaming choose → DW, choose_spec → ke
open List renaming append_assoc → du, getD_eq_getElem?_getD → aJ, getElem?_drop → br, getElem?_eq_getElem → an, getElem?_eq_none → fj, getElem?_map → ct, getElem?_of_mem → bH, getElem?_set → bg, getElem?_take → bN, head?_eq_getElem? → yP, isEmpty_iff → fV, length_append → bV, length_set → bI, length_take → bF, mem_append → aG, mem_append_left → XX, mem_append_right → V3, mem_cons → aK, mem_of_getElem? → bt, mem_of_mem_drop → dB, mem_of_mem_take → dA, mem_singleton → cG, range → cQ, set_append_left → XV
open Nat renaming le_max_left → AH, le_max_right → yK, le_refl → aY
open Option renaming isSome_iff_exists → aV, map_some → dE
open Option.some renaming inj → dv, injEq → ai
open Prod.mk renaming injEq → aP
namespace Go.Bm
open Go.Am
section
variable {P:Program} {c:fe} {call:Nat->List AV->Heap->Option (AV × Heap)}
theorem cJ {e1 e2:Env} {x:E} (h:∀i∈x.slot,fJ i (get e1 i)=fJ i (get e2 i)):bC c e1 x=bC c e2 x:=by
 cases x with
 |t i=>exact h i (by simp[E.slot])
 |k x=>rfl
 |g i=>rfl
theorem iF {e1 e2:Env}:∀{xs:List E},(∀i∈n9 xs,fJ i (get e1 i)=fJ i (get e2 i))->dX c e1 xs=dX c e2 xs
 |[],_=>rfl
 |x::r,h=>by
   simp only[n9,aG] at h;simp only[dX];rw[cJ fun i hi=>h i (.inl hi),iF fun i hi=>h i (.inr hi)]
theorem ub {e1 e2:Env}:∀{ps:List (Nat × Nat × E)} {zs:List AV},(∀i∈sN ps,fJ i (get e1 i)=fJ i (get e2 i))->rO c e1 zs ps=rO c e2 zs ps
 |[],_,_=>by simp[rO]
 |(o,s,x)::r,zs,h=>by
   simp only[sN,aG] at h;simp only[rO];rw[cJ (c:=c) fun i hi=>h i (.inl hi)];split
   ·exact ub fun i hi=>h i (.inr hi)
   ·rfl
theorem s7 {e1 e2:Env}:∀{ps:List (Nat × Nat × E)},(∀i∈sN ps,fJ i (get e1 i)=fJ i (get e2 i))->iN c e1 ps=iN c e2 ps
 |[],_=>by simp[iN]
 |(o,s,x)::r,h=>by
   simp only[sN,aG] at h;simp only[iN];rw[cJ (c:=c) fun i hi=>h i (.inl hi),s7 fun i hi=>h i (.inr hi)]
theorem DJ {e1 e2:Env} {d m:Nat} {x:Option E} (h:∀i∈Ny x,fJ i (get e1 i)=fJ i (get e2 i)):DK c e1 d m x=DK c e2 d m x:=by
 cases x with
 |none=>rfl
 |some x=>simp only[DK]; rw[cJ h]
theorem OH {e1 e2:Env} {kd:Kd} (h:∀i∈kd.reads,fJ i (get e1 i)=fJ i (get e2 i)):WE c e1 kd=WE c e2 kd:=by
 cases kd<;>simp only[Kd.reads,aG] at h<;>simp only[WE]
 case pick x y z=>rw[cJ (c:=c) fun i hi=>h i (.inl hi),cJ (c:=c) fun i hi=>h i (.inr (.inl hi)),cJ (c:=c) fun i hi=>h i (.inr (.inr hi))]
 case build=>rw[ub (c:=c) h]
 case D5 k x lo hi=>rw[cJ (c:=c) fun i hi=>h i (.inl hi)]; simp only[DJ (c:=c) fun i hi=>h i (.inr (.inl hi)),DJ (c:=c) fun i hi=>h i (.inr (.inr hi))]
 case Nd n x u=>rw[cJ (c:=c) fun i hi=>h i (.inl hi)]
 case min=>rw[iF (c:=c) h]
 case max=>rw[iF (c:=c) h]
 case VP=>rw[iF (c:=c) fun i hi=>h i (.inl hi),iF (c:=c) fun i hi=>h i (.inr hi)]
 all_goals first
  |rfl
  |rw[cJ (c:=c) h]
  |rw[cJ (c:=c) fun i hi=>h i (.inl hi),cJ (c:=c) fun i hi=>h i (.inr hi)]
theorem Lx {e1 e2:Env} {kd:Kd} (h:∀i∈kd.reads,fJ i (get e1 i)=fJ i (get e2 i)):p9 c e1 kd=p9 c e2 kd:=by
 cases kd<;>simp only[p9]
 case call=>rw[iF (c:=c) h]
 case jM=>
  simp only[Kd.reads,aG] at h;rw[cJ (c:=c) fun i hi=>h i (.inl hi),iF (c:=c) fun i hi=>h i (.inr hi)]
theorem js {e1 e2:Env} {kd:Kd} (h:∀i∈kd.reads,fJ i (get e1 i)=fJ i (get e2 i)):getArgs c e1 kd=getArgs c e2 kd:=by
 unfold getArgs;rw[Lx h]
def Seen (ps:List Rt) (s t:St):Prop:=∀p∈ps,aD t p=aD s p/\∀ b l,p=.c b l->aO t.H b=aO s.H b
theorem WA {s t:St} {ag:Option Nat} {x v:AV} {ps:List Rt} (h:Dj s ag x=some (v,ps)) (hs:Seen ps s t):Dj t ag x=some (v,ps):=by
 unfold Dj at h ⊢;split at h
 ·exact h
 ·rename_i b off;split at h
  case h_2=>cases h
  rename_i cs hb;split at h
  case h_2=>cases h
  rename_i u hu;simp only[ai,aP] at h;obtain⟨rfl,rfl⟩:=h;have:=(hs _ (cG.2 rfl)).2 b _ rfl;simp only[this,hb,hu]
 ·rename_i k p i off;split at h
  case h_2=>cases h
  rename_i k' xs ho;split at h
  case isFalse=>cases h
  rename_i hk;split at h
  case h_2=>cases h
  rename_i y hy;split at h
  case h_2=>cases h
  rename_i u hu;simp at h;obtain⟨rfl,rfl⟩:=h;have:=(hs p (by simp)).1;simp only[this,ho,hk,if_true,hy,hu]
 ·cases h
def tB (b j:Nat) (s t:St):Prop:=∀cs,aO s.H b=some cs->∃ds,aO t.H b=some ds/\(fw (.c b) 0 ds)[j]?=(fw (.c b) 0 cs)[j]?
def Ce (f:Fq) (s t:St):Prop:=(∀ps,f=.rd ps->Seen ps s t)/\∀ b j,f=.rc b j->tB b j s t
theorem w9 (f:Nat->Rt):∀{cs ds:List AV} {j i:Nat},cs[i]?=ds[i]?->(fw f j cs)[i]?=(fw f j ds)[i]?
 |[],[],_,_,_=>rfl
 |[],d::ds,j,0,h=>by simp at h
 |c::cs,[],j,0,h=>by simp at h
 |[],d::ds,j,i+1,h=>by
   have:=w9 f (cs:=[]) (ds:=ds) (j:=j+1) (i:=i) (by simpa using h);cases d<;>simpa[fw] using this
 |c::cs,[],j,i+1,h=>by
   have:=w9 f (cs:=cs) (ds:=[]) (j:=j+1) (i:=i) (by simpa using h);cases c<;>simpa[fw] using this
 |c::cs,d::ds,j,0,h=>by
   simp at h;subst h;cases c<;>simp[fw]
 |c::cs,d::ds,j,i+1,h=>by
   have:=w9 f (cs:=cs) (ds:=ds) (j:=j+1) (i:=i) (by simpa using h);cases c<;>cases d<;>simpa[fw] using this
theorem ago {ag:Option Nat} {cs ds:List AV} {k:Nat} {p:Rt} {o l:Nat} (h:P9 ag cs=some (.eE k p o l)) (e:ds[0]?=cs[0]?):P9 ag ds=some (.eE k p o l):=by
 unfold P9 FN at h ⊢;cases ag with
 |some n=>simp only at h ⊢; (repeat' split at h)<;>simp_all
 |none=>
   simp only at h ⊢;have:ds.head?=cs.head?:=by rw[yP,yP]; exact e
   rw[this]; exact h
theorem abu {s t:St} {ag:Option Nat} {x v:AV} {ps:List Rt} (h:Dj s ag x=some (v,ps)) (hs:Ce (Aa x v ps) s t):Dj t ag x=some (v,ps):=by
 by_cases hx:∃b off k o l,x=.ptr b off/\v=.eE k (.c b off) o l
 ·obtain⟨b,off,k,o,l,rfl,rfl⟩:=hx;have UO:=hs.2 b off (by simp[Aa]);unfold Dj at h ⊢;simp only at h ⊢;split at h
  case h_2=>cases h
  rename_i cs hb;split at h
  case h_2=>cases h
  rename_i u hu;simp only[ai,aP] at h;obtain⟨rfl,h2⟩:=h;obtain⟨ds,d1,d2⟩:=UO cs hb
  have:P9 ag ((fw (.c b) 0 ds).drop off)=some (.eE k (.c b off) o l):=ago hu (by
   rw[br,br];simpa using d2)
  simp only[d1,this,h2]
 ·refine WA h (hs.1 ps ?_);unfold Aa;split
  ·rename_i b off k d j o l;split
   ·rename_i hc;obtain⟨rfl,rfl⟩:=hc;exact absurd ⟨_,_,_,_,_,rfl,rfl⟩ hx
   ·rfl
  ·rfl
end
end Go.Bm

/- Operations that change nothing that is there: what they answer depends on the slots they read and on the places they name. -/
namespace Go.Bm
open Go.Am
section
variable {P:Program} {c:fe} {call:Nat->List AV->Heap->Option (AV × Heap)}
theorem Seen.left {ps qs:List Rt} {s t:St} (h:Seen (ps++qs) s t):Seen ps s t:=fun p hp=>h p (by simp[hp])
theorem Seen.right {ps qs:List Rt} {s t:St} (h:Seen (ps++qs) s t):Seen qs s t:=fun p hp=>h p (by simp[hp])
mutual
theorem LA {b:Bool} {s t:St}:∀x,Seen (aU x) s t->mZ b t x=mZ b s x
 |.eE k p off len,h=>by simp only[mZ]; rw[(h p (by simp[aU])).1]
 |.agg cs,h=>by simp only[mZ]; rw[tf cs (by simpa[aU] using h)]
 |.dJ cs,h=>by simp only[mZ]; rw[tf cs (by simpa[aU] using h)]
 |.func f a b',h=>by
   have h':Seen (dL a++dL b') s t:=by simpa[aU] using h
   simp only[mZ]; rw[tf a h'.left,tf b' h'.right]
 |.own _ _,_=>rfl
 |.ptr _ _,_=>rfl
 |.fP _ _ _ _,_=>rfl
 |.sl _ _ _ _,_=>rfl
 |.any,_=>rfl
 |.undef,_=>rfl
 |.bool _,_=>rfl
 |.int _ _,_=>rfl
 |.gq,_=>rfl
 |.gz,_=>rfl
 |.dO,_=>rfl
 |.str _,_=>rfl
 |.dV _,_=>rfl
 |.list _ _,_=>rfl
theorem tf {b:Bool} {s t:St}:∀xs,Seen (dL xs) s t->Io b t xs=Io b s xs
 |[],_=>rfl
 |x::r,h=>by
   have h':Seen (aU x++dL r) s t:=by simpa[dL] using h
   simp only[Io]; rw[LA x h'.left,tf r h'.right]
end
theorem XA {s t:St} {k:Nat} {x:AV} (h:Seen (aU x) s t):cont t k x=cont s k x:=by
 cases x<;>try rfl
 case eE k' p off len=>simp only[cont]; rw[(h p (by simp[aU])).1]
 case own k' xs=>cases xs<;>rfl
theorem Xn {s t:St} {k b off len:Nat} (h:Seen [.c b 1] s t):U9 t k b off len=U9 s k b off len:=by
 unfold U9;rw[(h _ (cG.2 rfl)).2 b 1 rfl]
theorem LD {s t:St}:∀xs,Seen (dL xs++Jm xs) s t->xh t xs=xh s xs
 |[],_=>rfl
 |x::r,h=>by
   have hb:Seen (aU x++dL r) s t:=by simpa[dL] using h.left
   have hsl:Seen (Jm r) s t:=fun p hp=>h p (aG.2 (.inr (by cases x<;>simp[Jm,hp])));have ih:=LD r fun p hp=>(aG.1 hp).elim (fun q=>hb.right p q) (hsl p);have hx:=LA (b:=false) x hb.left;cases x<;>try (simp only[xh]; rw[hx,ih]; done)
   case sl k b off len=>
    simp only[xh];rw[ih,Xn fun p hp=>h p (aG.2 (.inr (by simp[Jm,cG.1 hp])))]
   case own k xs=>
    cases xs with
    |nil=>simp only[xh]; rw[ih]
    |cons y ys=>simp only[xh]; rw[hx,ih]
def calm:Fq->Bool
 |.no|.rc _ _|.rd _|.al _=>true
 |_=>false
def DO (s s1:St) (kd:Kd) (f:Fq) (v:AV) (g:St->Option (AV × St × Fq)):Prop:=
 ∃ T,s1=⟨s.env,s.H++T⟩/\(T=[]\/∃ z,T=[z]/\f=.al s.H.length)/\∀ t:St,(∀i∈kd.reads,fJ i (get t.env i)=fJ i (get s.env i))->Ce f s t->(∀n,f=.al n->t.H.length=n)->g t=some (v,⟨t.env,t.H++T⟩,f)
theorem z8 (x v:AV) (ps:List Rt):Aa x v ps=.rd ps\/∃ b j,Aa x v ps=.rc b j:=by
 unfold Aa;split
 ·split
  ·exact .inr ⟨_,_,rfl⟩
  ·exact .inl rfl
 ·exact .inl rfl
theorem DO.still {s:St} {kd:Kd} {f:Fq} {v:AV} {g:St->Option (AV × St × Fq)} (h:∀t:St,(∀i∈kd.reads,fJ i (get t.env i)=fJ i (get s.env i))->Ce f s t->g t=some (v,t,f)):DO s s kd f v g:=
 ⟨[],by simp,.inl rfl,fun t h1 h2 _=>by rw[h t h1 h2]; simp⟩
end
end Go.Bm

/- Every calm operation depends on what it names alone. -/
namespace Go.Bm
open Go.Am
section
variable {P:Program} {c:fe} {call:Nat->List AV->Heap->Option (AV × Heap)}
theorem ack {s s':St} {b off k:Nat} {v:AV} {f:Fq} (h:Bv s b off k v=some (s',f)):calm f=false:=by
 unfold Bv at h
 repeat' split at h
 all_goals first
  |(cases h; done)
  |(simp at h; obtain⟨_,rfl⟩:=h; rfl)
theorem Wj {s s':St} {k:Nat} {a v:AV} {f:Fq} (h:VO s k a v=some (s',f)):calm f=false:=by
 unfold VO at h;split at h
 ·exact ack h
 ·repeat' split at h
  all_goals first
   |(cases h; done)
   |(simp at h; obtain⟨_,rfl⟩:=h; rfl)
 ·cases h
theorem Bc (s:St) (l:List Rt):nQ s l=.all\/∃ sl bs,nQ s l=.wr sl bs:=by
 unfold nQ;split
 ·split
  ·exact .inr ⟨_,_,rfl⟩
  ·exact .inl rfl
 ·exact .inl rfl
theorem HU (s:St) (l:List Rt):calm (nQ s l)=false:=by rcases Bc s l with e|⟨_,_,e⟩<;>rw[e]<;>rfl
theorem GA (s:St) (l ps:List Rt):(nQ s l=.bo ps)=False:=by rcases Bc s l with e|⟨_,_,e⟩<;>rw[e]<;>simp
theorem Bd (s:St) (l:List Rt) (n:Nat):(nQ s l=.al n)=False:=by rcases Bc s l with e|⟨_,_,e⟩<;>rw[e]<;>simp
theorem Gz (s:St) (l:List Rt) (n:Nat):(nQ s l=.lw n)=False:=by rcases Bc s l with e|⟨_,_,e⟩<;>rw[e]<;>simp
theorem Vj {s s1:St} {kd:Kd} {v:AV} {f:Fq} (h:eU c call kd s=some (v,s1,f)) (hf:calm f=true):DO s s1 kd f v (eU c call kd):=by
 unfold eU at h;split at h
 ·cases h
 rename_i f0 args ha;split at h
 ·cases h
 rename_i md q hq;split at h
 ·rename_i hm;split at h
  ·cases h
  rename_i ud hz;split at h
  case h_2=>cases h
  rename_i r H' hc;split at h
  case isFalse=>cases h
  rename_i hr;simp at h;obtain⟨rfl,rfl,rfl⟩:=h;refine .still fun t h1 h2=>?_
  have hs:Seen (dL args++Jm args) s t:=by
   by_cases he:(dL args++Jm args).isEmpty=true
   ·rw[fV.1 he]; intro p hp; simp at hp
   ·exact h2.1 _ (by simp<;>simpa using he)
  unfold eU;rw[js h1,ha];simp only[hq,hm,if_true,LD args hs,hz,hc,hr];simp
 ·rename_i hm;split at h
  ·cases h
  rename_i f1 qd M7;split at h
  case isFalse=>cases h
  rename_i hff;split at h
  ·repeat' split at h
   all_goals first
    |(cases h; done)
    |(simp at h; obtain⟨_,_,rfl⟩:=h; exfalso; simp[calm] at hf; done)
    |(simp at h; obtain⟨_,_,rfl⟩:=h; exfalso; revert hf; split<;>simp[calm])
  ·rename_i kb;split at h
   case isFalse=>cases h
   rename_i hp;split at h
   case h_2=>cases h
   rename_i r H' hc;split at h
   case isFalse=>cases h
   rename_i hr;simp at h;obtain⟨rfl,rfl,rfl⟩:=h
   have he:dL args=[]:=by
    cases hb:dL args with
    |nil=>rfl
    |cons x y=>rw[hb] at hf; simp[HU] at hf
   rw[he] at M7 ⊢;simp only[eO] at M7 ⊢;refine .still fun t h1 h2=>?_;unfold eU;rw[js h1,ha];simp only[hq,hm,he,eO,bz,if_false];rw[js h1,M7];simp only[hff,if_true,kb,hp,hc,hr,bz,if_false];simp
theorem A7 {s:St} {kd:Kd} (h:rF c s kd=none) (t:St):rF c t kd=none:=by
 unfold rF at h ⊢;split at h
 ·split at h
  ·rename_i f x es hi;split at h
   ·rename_i he; simp only
   ·cases h
  ·cases h
 ·rfl
theorem Gc {s:St} {kd:Kd} (h:nY c call s kd=none) (t:St):nY c call t kd=none:=by
 unfold nY at h ⊢;split at h
 ·rename_i f x es;split at h
  ·cases h
  ·rename_i hl;exact if_neg hl
 ·rfl
theorem ahz {s s1:St} {g:Nat->List AV->List AV->Option (List AV)} {x:AV} {es:List AV} {v:AV} {f:Fq} (h:Xs s g x es=some (v,s1,f)):∃sl bs,f=.wr sl bs\/f=.all:=by unfold Xs at h;cases h
theorem E0 {s s1:St} {kd:Kd} {v:AV} {f:Fq} (h:rF c s kd=some (some (v,s1,f))):∃sl bs,f=.wr sl bs\/f=.all:=by
 unfold rF at h;split at h
 case h_2=>cases h
 split at h
 case h_1=>
  split at h
  ·cases h
  ·simp only[ai] at h;exact ahz h
 simp only[ai] at h
 (repeat' split at h)<;>simp at h
 all_goals first
  |exact⟨_,_,.inl h.2.2.symm⟩
  |exact⟨[],none,.inr h.2.2.symm⟩
theorem F9 {anG:Nat->List AV->Heap->Option (AV × Heap)} {s:St} {kd:Kd} (h:uI c call s kd=none) (t:St):uI c anG t kd=none:=by
 unfold uI at h ⊢;split at h
 ·split at h
  ·cases h
  ·rename_i hm;simp only
 ·rfl
theorem A0 {s s1:St} {kd:Kd} {v:AV} {f:Fq} (h:uI c call s kd=some (some (v,s1,f))):f=.all/\∃ k ys,v=.own k ys:=by
 unfold uI at h;split at h
 case h_2=>cases h
 split at h
 case h_2=>cases h
 simp only[ai] at h;unfold TY at h
 (repeat' split at h)<;>first
  |(cases h; done)
  |(simp only[ai,aP] at h; exact⟨h.2.2.symm,_,_,h.1.symm⟩)
theorem RQ {s s1:St} {kd:Kd} {v:AV} {f:Fq} (h:ia c call kd s=some (v,s1,f)) (hf:calm f=true):DO s s1 kd f v (ia c call kd):=by
 unfold ia at h;cases hm:uI c call s kd with
 |some r=>
   rw[hm] at h;simp only at h;subst h;obtain⟨rfl,_⟩:=A0 hm;simp[calm] at hf
 |none=>
   rw[hm] at h;rcases j9 h with h|h
   ·obtain⟨T,h1,h2,h3⟩:=Vj h hf;refine⟨T,h1,h2,fun t a b d=>?_⟩;unfold ia;rw[F9 hm t];exact tj (h3 t a b d)
   ·obtain⟨rfl,_⟩:=AQ h;simp[calm] at hf
theorem Fk {s s1:St} {kd:Kd} {v:AV} {f:Fq} (h:dZ c call kd s=some (v,s1,f)) (hf:calm f=true):DO s s1 kd f v (dZ c call kd):=by
 unfold dZ at h;cases hi:rF c s kd with
 |some r=>
   rw[hi] at h;simp only at h;subst h;obtain⟨sl,bs,rfl|rfl⟩:=E0 hi<;>simp[calm] at hf
 |none=>
   rw[hi] at h;cases hl:nY c call s kd with
   |some r=>
     rw[hl] at h;simp only at h;subst h;obtain⟨b,rfl⟩:=IG hl;simp[calm] at hf
   |none=>
     rw[hl] at h;obtain⟨T,h1,h2,h3⟩:=RQ h hf;refine⟨T,h1,h2,fun t a b d=>?_⟩;unfold dZ;rw[A7 hi t,Gc hl t];exact h3 t a b d
end
end Go.Bm

/- Every operation that is calm depends on what it names alone. -/
namespace Go.Bm
open Go.Am
section
variable {P:Program} {c:fe} {call:Nat->List AV->Heap->Option (AV × Heap)}
theorem adV {s s1:St} {kd:Kd} {v:AV} {f:Fq} (h:gH c call s kd=some (v,s1,f)) (hf:calm f=true):DO s s1 kd f v (fun t=>gH c call t kd):=by
 have pure:∀{kd:Kd} {v:AV} {s1:St} {f:Fq},(match WE c s.env kd with
   |some v=>some (v,s,Fq.no)
   |none=>none)=some (v,s1,f)->DO s s1 kd f v (fun t=>match WE c t.env kd with
   |some v=>some (v,t,Fq.no)
   |none=>none):=by
  intro kd v s1 f h;split at h
  case h_2=>cases h
  rename_i u hu;simp at h;obtain⟨rfl,rfl,rfl⟩:=h;refine .still fun t h1 _=>?_;simp only[OH (c:=c) h1,hu]
 cases kd
 case call f0 xs=>simp only[gH] at h ⊢; exact Fk h hf
 case jM x xs=>simp only[gH] at h ⊢; exact Fk h hf
 case ld ag x=>
  simp only[gH] at h;split at h
  case h_2=>cases h
  rename_i u ps hp;split at h
  case isFalse=>cases h
  rename_i hl;simp at h;obtain⟨rfl,rfl,rfl⟩:=h;refine .still fun t h1 h2=>?_;simp only[gH,cJ (c:=c) h1,abu hp h2,hl,if_true]
 case copy k x y=>
  exfalso;simp only[gH] at h
  (repeat' split at h)<;>first
   |(cases h; done)
   |(simp only[ai,aP] at h; obtain⟨_,_,rfl⟩:=h; first
     |(simp[calm] at hf; done)
     |(rcases Aq _ _ with e|⟨_,_,_,_,e⟩<;>rw[e] at hf<;>simp[calm] at hf))
 case Nd n x hi=>
  simp only[gH] at h;split at h
  ·rename_i b off hx;split at h
   case h_2=>cases h
   rename_i m cs hm hb;split at h
   case isFalse=>cases h
   rename_i hl;simp at h;obtain⟨rfl,rfl,rfl⟩:=h;refine .still fun t h1 h2=>?_;simp only[Kd.reads,aG] at h1;have e:=((h2.1 _ rfl) _ (cG.2 rfl)).2 b 1 rfl;have Xa:DK c t.env n n hi=some m:=by rw[DJ (c:=c) fun i hi=>h1 i (.inr hi)]; exact hm
   simp only[gH,cJ (c:=c) fun i hi=>h1 i (.inl hi),hx,Xa,e,hb,hl,if_true]
  ·rename_i iS;split at h
   case h_2=>cases h
   rename_i u hu;simp at h;obtain⟨rfl,rfl,rfl⟩:=h;refine .still fun t h1 _=>?_;have e:=OH (c:=c) h1;simp only[Kd.reads,aG] at h1;have ex:bC c t.env x=bC c s.env x:=cJ (c:=c) fun i hi=>h1 i (.inl hi);simp only[gH,ex,e,hu]
 case new zs=>
  simp only[gH] at h;simp at h;obtain⟨rfl,rfl,rfl⟩:=h;exact⟨_,rfl,.inr ⟨_,rfl,rfl⟩,fun t _ _ h3=>by simp only[gH]; rw[h3 _ rfl]⟩
 case box x=>
  simp only[gH] at h;split at h
  case isFalse=>cases h
  rename_i hl;simp at h;obtain⟨rfl,rfl,rfl⟩:=h;refine⟨_,rfl,.inr ⟨_,rfl,rfl⟩,fun t h1 _ h3=>?_⟩;simp only[gH,cJ (c:=c) h1,hl,if_true];rw[h3 _ rfl]
 case dK k n zs ps=>
  simp only[gH] at h;split at h
  case h_2=>cases h
  rename_i cs hc;split at h
  case isFalse=>cases h
  rename_i hz;simp at h;obtain⟨rfl,rfl,rfl⟩:=h
  have he:iN c s.env ps=[]:=by
   cases hb:iN c s.env ps with
   |nil=>rfl
   |cons x y=>rw[hb] at hf; simp[HU] at hf
  rw[he] at hc ⊢;simp only[eO] at hc ⊢;refine .still fun t h1 _=>?_;simp only[gH,s7 (c:=c) h1,he,eO,ub (c:=c) h1,hc,hz,if_true];simp
 case st k a v=>
  exfalso;simp only[gH] at h;split at h
  ·split at h
   case h_2=>cases h
   rename_i hh;have h4:=Wj hh;simp only[ai,aP] at h;obtain⟨_,_,h5⟩:=h;rw[<-h5] at hf;split at hf
   ·rw[hf] at h4; cases h4
   ·simp[calm] at hf
  ·split at h
   case h_2=>cases h
   rename_i hh;have h4:=Wj hh;simp only[ai,aP] at h;obtain⟨_,_,h5⟩:=h;rw[<-h5] at hf;rw[hf] at h4;cases h4
 case app k x y=>
  simp only[gH] at h;split at h
  case h_2=>cases h
  rename_i ys hy;split at h
  case isFalse=>cases h
  rename_i hl;split at h
  ·rename_i k' hx;split at h
   case isFalse=>cases h
   rename_i hle;simp at h;obtain⟨rfl,rfl,rfl⟩:=h;refine .still fun t h1 h2=>?_;simp only[Kd.reads,aG] at h1;simp only[gH];rw[cJ (c:=c) fun i hi=>h1 i (.inl hi),cJ (c:=c) fun i hi=>h1 i (.inr hi),XA (h2.1 _ rfl),hy];simp only[hl,if_true,hx,hle]
  ·exfalso
   repeat' split at h
   all_goals first
    |(cases h; done)
    |(simp at h; obtain⟨_,_,rfl⟩:=h; simp[calm] at hf)
  ·cases h
 case KR k zs l cp=>
  simp only[gH] at h;split at h
  case h_2=>cases h
  rename_i k1 n1 k2 n2 e1 e2;split at h
  case isFalse=>cases h
  rename_i hb;split at h
  ·rename_i z hz;simp at h;obtain⟨rfl,rfl,rfl⟩:=h;refine⟨_,rfl,.inr ⟨_,rfl,rfl⟩,fun t h1 _ h3=>?_⟩;simp only[Kd.reads,aG] at h1;simp only[gH];rw[cJ (c:=c) fun i hi=>h1 i (.inl hi),cJ (c:=c) fun i hi=>h1 i (.inr hi),e1,e2];simp only[hb,and_self,if_true,hz];rw[h3 _ rfl]
  ·rename_i hz;simp at h;obtain⟨rfl,rfl,rfl⟩:=h;refine .still fun t h1 h2=>?_;simp only[Kd.reads,aG] at h1;simp only[gH];rw[cJ (c:=c) fun i hi=>h1 i (.inl hi),cJ (c:=c) fun i hi=>h1 i (.inr hi),e1,e2];simp only[hb,and_self,if_true,hz]
 case Vv k zs x=>
  simp only[gH] at h;split at h
  case h_3=>cases h
  all_goals
   rename_i e1;simp at h;obtain⟨rfl,rfl,rfl⟩:=h;refine .still fun t h1 h2=>?_;simp only[gH,cJ (c:=c) h1,e1]
 all_goals
  simp only[gH] at h ⊢;exact pure h
end
end Go.Bm

/- A state without shadowed entries: who mentions a place, by what can be read. -/
namespace Go.Bm
open Go.Am
section
def QV:List Nat->Env->Env
 |_,[]=>[]
 |sn,(i,v)::r=>if mem i sn then QV sn r else (i,v)::QV (i::sn) r
theorem RN:∀(sn:List Nat) (e:Env) (i:Nat),get (QV sn e) i=if mem i sn=true then .any else get e i
 |sn,[],i=>by simp[QV,Am.get]
 |sn,(j,v)::r,i=>by
   unfold QV;by_cases hj:mem j sn=true
   ·rw[if_pos hj,RN sn r i];by_cases hi:mem i sn=true
    ·simp[hi]
    ·simp only[hi,bz,if_false,Am.get];have:j≠i:=fun e=>hi (e▸hj);have h2:i≠j:=fun e=>this e.symm;simp[h2]
   ·rw[if_neg hj];simp only[Am.get];rw[RN (j::sn) r i];by_cases M0:j=i
    ·subst M0;simp[hj]
    ·have h2:i≠j:=fun e=>M0 e.symm
     have:mem i (j::sn)=mem i sn:=by
      conv=>lhs; unfold mem
      rw[if_neg h2]
     simp only[this,h2,if_false]
theorem VE {f:Rt->Bool}:∀{e:Env} {i:Nat},Aw f (aU (get e i))=true->Mc f e=true
 |[],i,h=>by simp[Am.get,aU,Aw] at h
 |(j,v)::r,i,h=>by
   simp only[Am.get] at h;simp only[Mc,gM];split at h
   ·exact .inl h
   ·exact .inr (VE h)
theorem Mb {f:Rt->Bool}:∀{sn:List Nat} {e:Env},Mc f (QV sn e)=true->∃i,mem i sn=false/\Aw f (aU (Am.get e i))=true
 |sn,[],h=>by simp[QV,Mc] at h
 |sn,(j,v)::r,h=>by
   unfold QV at h;by_cases hj:mem j sn=true
   ·rw[if_pos hj] at h;obtain⟨i,h1,h2⟩:=Mb h;have kj:i≠j:=fun e=>by rw[e,hj] at h1; cases h1
    exact⟨i,h1,by simp only[Am.get]; rw[if_neg kj]; exact h2⟩
   ·rw[if_neg hj] at h;simp only[Mc,gM] at h;rcases h with h|h
    ·exact⟨j,by simpa using hj,by simp only[Am.get,if_true]; exact h⟩
    ·obtain⟨i,h1,h2⟩:=Mb h
     have kj:i≠j:=fun e=>by
      rw[e] at h1;unfold mem at h1;simp at h1
     refine⟨i,?_,by simp only[Am.get]; rw[if_neg kj]; exact h2⟩;unfold mem at h1;rw[if_neg kj] at h1;exact h1
def WO (s:St):St:=⟨QV [] s.env,s.H⟩
theorem sr (s:St):eJ s (WO s):=⟨fun i=>by simp only[WO]; rw[RN]; simp[mem],rfl⟩
end
end Go.Bm

/- A step is an operation's value, put to its slot; what a calm operation and one that writes a few places are worth. -/
namespace Go.Bm
open Go.Am
section
variable {P:Program} {c:fe} {call:Nat->List AV->Heap->Option (AV × Heap)}
def HV (c:fe) (call:Nat->List AV->Heap->Option (AV × Heap)) (s:St) (q:O):Option (AV × St × Fq):=
 match q.guard with
 |none=>gH c call s q.kd
 |some (g,want)=>match get s.env g with
   |.bool b=>if b=want then gH c call s q.kd else some (.undef,s,.no)
   |.undef=>some (.undef,s,.no)
   |_=>none
theorem yW (s:St) (q:O):tQ c call s q=match HV c call s q with
  |some (v,s',fl)=>Fh s.env q.dst v s' fl
  |none=>none:=by
 unfold tQ HV;cases hg:q.guard with
 |none=>rfl
 |some p=>
   obtain⟨g,want⟩:=p;simp only;generalize get s.env g=u;cases u<;>try rfl
   rename_i b;simp only;by_cases hb:b=want
   ·simp only[hb,if_true]; rfl
   ·simp only[hb,if_false]
def kH (s:St) (d:Option Nat) (v:AV):St:=match d with
 |none=>s
 |some d=>⟨put s.env d v,s.H⟩
theorem iY (s:St) (d:Option Nat) (v:AV):(kH s d v).H=s.H:=by cases d<;>rfl
theorem fh (s:St) (d:Option Nat) (v:AV) (i:Nat):get (kH s d v).env i=if d=some i then v else get s.env i:=by
 cases d with
 |none=>simp[kH]
 |some d=>
   simp only[kH,bM];by_cases h:i=d
   ·subst h; simp
   ·have:d≠i:=fun e=>h e.symm;simp[h,this]
theorem abq {s t:St} (h:eJ s t) (d:Option Nat) (v:AV):eJ (kH s d v) (kH t d v):=
 ⟨fun i=>by rw[fh,fh,h.1 i],by rw[iY,iY]; exact h.2⟩
def Ev (c:fe) (call:Nat->List AV->Heap->Option (AV × Heap)) (s:St) (q:O) (v:AV) (s1:St) (f:Fq):Prop:=
 Ca q.kd=true/\∃ s0 t1,eJ s s0/\HV c call s0 q=some (v,t1,f)/\eJ t1 s1
theorem Ev.same {s t s1 t1:St} {q:O} {v:AV} {f:Fq} (h:Ev c call s q v s1 f) (e:eJ s t) (e1:eJ s1 t1):Ev c call t q v t1 f:=by
 obtain⟨hk,s0,u1,a,b,d⟩:=h;exact⟨hk,s0,u1,e.symm.trans a,b,d.trans e1⟩
structure XS (c:fe) (call:Nat->List AV->Heap->Option (AV × Heap)) (s:St) (q:O) (v:AV) (s1:St) (f:Fq) (X:Heap):Prop where
 st:eJ s1 ⟨s.env,s.H++X⟩
 nw:(X=[]/\∀ n,f≠.al n)\/∃ z,X=[z]/\f=.al s.H.length
 go:∀t:St,(∀i∈q.reads,fJ i (get t.env i)=fJ i (get s.env i))->Ce f s t->(∀n,f=.al n->t.H.length=n)->Ev c call t q v ⟨t.env,t.H++X⟩ f
 val:∀V:Rt->Prop,(∀i∈q.reads,(∀p∈aU (get s.env i),¬V p)/\¬ V (.s i)/\∀ j,¬V (.sc i j)) ->
  (∀ps,f=.rd ps->∀b,Rt.c b 0∈ps->∀cs,aO s.H b=some cs->(∀p∈dL cs,¬V p)/\(bZ cs=true->∀j,¬V (.c b j))) ->
  (∀b j,f=.rc b j->∀cs c,aO s.H b=some cs->cs[j]?=some c->(∀p∈aU c,¬V p)/\(∀k xs,c=.own k xs->¬V (.c b j)))->∀p∈aU v,¬V p
structure LwEv (c:fe) (call:Nat->List AV->Heap->Option (AV × Heap)) (s:St) (q:O) (v:AV) (s1:St) (b:Nat) (cs cs':List AV):Prop where
 bl:aO s.H b=some cs
 st:eJ s1 ⟨s.env,s.H.set b (some cs')⟩
 go:∀t:St,(∀i∈q.reads,get t.env i=get s.env i)->aO t.H b=some cs->Ev c call t q v ⟨t.env,t.H.set b (some cs')⟩ (.lw b)
structure WrEv (c:fe) (call:Nat->List AV->Heap->Option (AV × Heap)) (s:St) (q:O) (v:AV) (s1:St) (sl:List Nat) (bs:Option (List Nat)) (V:Rt->Prop):Prop where
 env:∀i,i∉sl->i+m7∉sl->get s1.env i=get s.env i
 hd:∀i,i∉sl->fJ i (get s1.env i)=fJ i (get s.env i)
 keep:∀i,bX (get s.env i)=false->aU (get s.env i)=[]->get s1.env i=get s.env i
 heap:∀l,bs=some l->∀b,oe b l=false->aO s1.H b=aO s.H b
 cell:∀l,bs=some l->∀b j,b∉l->yG b j∉l->tB b j s s1/\tB b j s1 s
 v1:∀i,i∉sl->(∀p∈aU (get s.env i),¬V p)/\¬ V (.s i)/\∀ j,¬V (.sc i j)
 v2:∀l,bs=some l->∀b,oe b l=false->b+m7∉l->∀cs,aO s.H b=some cs->(∀p∈dL cs,¬V p)/\(bZ cs=true->∀j,¬V (.c b j))
 v3:∀l,bs=some l->∀b j,b∉l->b+m7∉l->yG b j∉l->∀cs c,aO s.H b=some cs->cs[j]?=some c->(∀p∈aU c,¬V p)/\(∀k xs,c=.own k xs->¬V (.c b j))
 go:∀d u,d∉q.reads->d∉sl->d+m7∉sl->(∀p∈aU u,¬V p)->∃t1 sl',Ev c call ⟨put s.env d u,s.H⟩ q v t1 (.wr sl' bs)/\(∀i∈sl',i∈sl)/\eJ t1 ⟨put s1.env d u,s1.H⟩
end
end Go.Bm

/- Two steps whose order is open commute, given what single operations are worth. -/
namespace Go.Bm
open Go.Am
section
variable {P:Program} {c:fe} {call:Nat->List AV->Heap->Option (AV × Heap)}
def sa (c:fe) (call:Nat->List AV->Heap->Option (AV × Heap)):Prop:=∀s q v s1 f,Ev c call s q v s1 f->calm f=true->∃X,XS c call s q v s1 f X
def Fy (c:fe) (call:Nat->List AV->Heap->Option (AV × Heap)):Prop:=∀s q v s1 sl bs,Ev c call s q v s1 (.wr sl bs)->∃V,WrEv c call s q v s1 sl bs V
def FA (c:fe) (call:Nat->List AV->Heap->Option (AV × Heap)):Prop:=∀s q v s1 b,Ev c call s q v s1 (.lw b)->∃cs cs',LwEv c call s q v s1 b cs cs'
theorem alO {s s1:St} {q:O} {v:AV} {f:Fq} (h:HV c call s q=some (v,s1,f)):∀ps,f≠.bo ps:=by
 have gh:∀{kd:Kd} {v:AV} {s1:St} {f:Fq},gH c call s kd=some (v,s1,f)->∀ps,f≠.bo ps:=by
  intro kd v s1 f h ps e;subst e
  have st:∀{s s':St} {k:Nat} {a v:AV},VO s k a v≠some (s',.bo ps):=by
   intro s s' k a v h;unfold VO Bv at h
   repeat' split at h
   all_goals first
    |(cases h; done)
    |(simp at h; done)
  have ic:∀{kd:Kd},rF c s kd≠some (some (v,s1,.bo ps)):=fun h=>by
   obtain⟨sl,bs,e|e⟩:=E0 h<;>cases e
  have oc:∀{kd:Kd},dZ c call kd s≠some (v,s1,.bo ps):=by
   intro kd h;unfold dZ at h;split at h
   ·rename_i r hi; subst h; exact ic hi
   split at h
   ·rename_i r hi; subst h; obtain⟨b,e⟩:=IG hi; cases e
   unfold ia at h;split at h
   ·rename_i r hi; subst h; obtain⟨e,_⟩:=A0 hi; cases e
   ·replace h:=(j9 h).resolve_right fun h=>by obtain⟨e,_⟩:=AQ h; cases e
    unfold eU at h
    (repeat' split at h)
    all_goals first
     |(cases h; done)
     |(simp[GA] at h; done)
     |(simp at h; obtain⟨_,_,h5⟩:=h; revert h5; split<;>simp[GA])
  cases kd<;>simp only[gH] at h
  case call=>exact oc h
  case jM=>exact oc h
  case st k a v=>
   split at h
   ·split at h
    case h_2=>cases h
    rename_i hh;simp only[ai,aP] at h;obtain⟨_,_,h5⟩:=h;split at h5
    ·rw[h5] at hh; exact st hh
    ·cases h5
   ·split at h
    case h_2=>cases h
    rename_i hh;simp only[ai,aP] at h;obtain⟨_,_,h5⟩:=h;rw[h5] at hh;exact st hh
  all_goals
   (repeat' split at h)
   all_goals first
    |(cases h; done)
    |(simp at h; done)
    |(simp[GA] at h; done)
    |(simp at h; obtain⟨_,_,h5⟩:=h; rcases z8 _ _ _ with e|⟨b,j,e⟩<;>rw[e] at h5<;>cases h5; done)
    |(simp at h; obtain⟨_,_,h5⟩:=h; rcases Aq _ _ with e|⟨_,_,_,_,e⟩<;>rw[e] at h5<;>cases h5; done)
    |(simp at h; obtain⟨_,_,h5⟩:=h; revert h5; split<;>simp)
 unfold HV at h;split at h
 ·exact gh h
 ·split at h
  ·split at h
   ·exact gh h
   ·simp at h; obtain⟨_,_,rfl⟩:=h; intro ps; simp
  ·simp at h; obtain⟨_,_,rfl⟩:=h; intro ps; simp
  ·cases h
theorem Ev.fl {s s1:St} {q:O} {v:AV} {f:Fq} (h:Ev c call s q v s1 f):∀ps,f≠.bo ps:=let ⟨_,_,_,_,b,_⟩:=h; alO b
theorem kz {e e':Env} {d:Option Nat} {f:Fq} (h:∀i,d=some i->get e i=get e' i):cD e d f=cD e' d f:=by
 unfold cD;cases d with
 |none=>rfl
 |some d=>simp only; rw[h d rfl]
theorem tR {e:Env} {d:Option Nat} {f:Fq} (h:pA (cD e d f)=true):∀i,d=some i->bX (get e i)=false:=by
 rintro i rfl;unfold cD at h;cases hh:bX (get e i) with
 |false=>rfl
 |true=>simp[hh,pA] at h
theorem pI {e:Env} {d:Option Nat} {sl:List Nat} {bs:Option (List Nat)} (h:pA (cD e d (.wr sl bs))=true):cD e d (.wr sl bs)=.wr sl bs/\∀ i,d=some i->bX (get e i)=false/\aU (get e i)=[]:=by
 refine⟨?_,fun i hi=>⟨tR h i hi,?_⟩⟩
 ·unfold cD at h ⊢;cases d with
  |none=>rfl
  |some d=>
    simp only at h ⊢;split at h
    ·simp[pA] at h
    rename_i h1;rw[if_neg h1];split at h
    ·rename_i h2; rw[if_pos h2]
    ·simp[pA] at h
 ·subst hi;unfold cD at h;simp only at h;split at h
  ·simp[pA] at h
  ·split at h
   ·rename_i h2; exact fV.1 h2
   ·simp[pA] at h
theorem yZ {e:Env} {d:Option Nat} {b:Nat} (h:pA (cD e d (.lw b))=true):cD e d (.lw b)=.lw b/\∀ i,d=some i->bX (get e i)=false/\aU (get e i)=[]:=by
 refine⟨?_,fun i hi=>⟨tR h i hi,?_⟩⟩
 ·unfold cD at h ⊢;cases d with
  |none=>rfl
  |some d=>
    simp only at h ⊢;split at h
    ·simp[pA] at h
    rename_i h1;rw[if_neg h1];split at h
    ·rename_i h2; rw[if_pos h2]
    ·simp[pA] at h
 ·subst hi;unfold cD at h;simp only at h;split at h
  ·simp[pA] at h
  ·split at h
   ·rename_i h2; exact fV.1 h2
   ·simp[pA] at h
theorem za {e:Env} {d:Option Nat} {f:Fq} (h:pA (cD e d f)=true):pA f=true:=by
 unfold cD at h;split at h
 ·exact h
 ·split at h
  ·simp[pA] at h
  ·split at h
   ·exact h
   ·split at h
    ·rfl
    ·rfl
    ·rfl
    ·simp[pA] at h
theorem GQ {e e':Env} {d:Option Nat} {sl sl':List Nat} {bs bs':Option (List Nat)} (h:∀i,d=some i->bX (get e i)=false/\aU (get e i)=[]):cD e d (.wr sl bs)=.wr sl bs:=by
 unfold cD;cases d with
 |none=>rfl
 |some d=>simp[h d rfl]
theorem TS.out (HC:sa c call) (HW:Fy c call) (HL:FA c call) {s s':St} {q:O} {f:Fq} (h:TS c call s q f s') (hf:pA f=true):∃v s1 f1,Ev c call s q v s1 f1/\pA (cD s.env q.dst f1)=true/\DV (cD s.env q.dst f1) f/\eJ s' (kH s1 q.dst v):=by
 obtain⟨hk,s0,t1,f0,e0,Ih,hle,e1⟩:=h;rw[yW] at Ih;split at Ih
 case h_2=>cases Ih
 rename_i v u1 f1 he;have UU:=Fg Ih;have hrel:cD s0.env q.dst f1=cD s.env q.dst f1:=kz fun i _=>(e0.1 i).symm
 have hcw:pA (cD s.env q.dst f1)=true:=by
  rw[<-hrel,<-UU];cases f0<;>cases f<;>simp[DV,pA] at hle hf ⊢
 have hev:Ev c call s q v u1 f1:=⟨hk,s0,u1,e0,he,eJ.rfl'⟩;refine⟨v,u1,f1,hev,hcw,by rw[<-hrel,<-UU]; exact hle,?_⟩;unfold Fh at Ih;split at Ih
 case h_2=>cases Ih
 rename_i u2 hp;simp only[ai,aP] at Ih;obtain⟨rfl,_⟩:=Ih;refine e1.symm.trans ?_;cases hd:q.dst with
 |none=>rw[hd] at hp; simp[B8] at hp; subst hp; exact eJ.rfl'
 |some d=>
   rw[hd] at hp
   have iS:bX (get u1.env d)=false:=by
    have h0:=tR hcw d hd;have hc1:=za hcw;by_cases UX:calm f1=true
    ·obtain⟨X,hX⟩:=HC _ _ _ _ _ hev UX;rw[hX.st.1 d];exact h0
    ·cases f1<;>simp[calm,pA] at UX hc1
     case wr sl bs=>
      obtain⟨V,hV⟩:=HW _ _ _ _ _ _ hev;have h2:=(pI hcw).2 d hd;rw[hV.keep d h2.1 h2.2];exact h0
     case lw b=>
      obtain⟨cs,cs',hL⟩:=HL _ _ _ _ _ hev;rw[hL.st.1 d];exact h0
     case bo=>exact absurd rfl (hev.fl _)
   simp only[B8,putB,SF,iS,eh,bz,if_false,ai] at hp;subst hp;exact eJ.rfl'
theorem TS.mk (HC:sa c call) (HW:Fy c call) (HL:FA c call) {s s1 s':St} {q:O} {v:AV} {f f1:Fq} (hev:Ev c call s q v s1 f1) (hcw:pA (cD s.env q.dst f1)=true) (hle:DV (cD s.env q.dst f1) f) (hs:eJ s' (kH s1 q.dst v)):TS c call s q f s':=by
 have hev':=hev;obtain⟨hk,s0,t1,e0,he,e1⟩:=hev';have hrel:cD s0.env q.dst f1=cD s.env q.dst f1:=kz fun i _=>(e0.1 i).symm
 have xe:B8 t1 q.dst v=some (kH t1 q.dst v):=by
  cases hd:q.dst with
  |none=>rfl
  |some d=>
    have iS:bX (get t1.env d)=false:=by
     have h0:=tR hcw d hd;have hc1:=za hcw;rw[e1.1 d];by_cases UX:calm f1=true
     ·obtain⟨X,hX⟩:=HC _ _ _ _ _ hev UX;rw[hX.st.1 d];exact h0
     ·cases f1<;>simp[calm,pA] at UX hc1
      case wr sl bs=>
       obtain⟨V,hV⟩:=HW _ _ _ _ _ _ hev;have h2:=(pI hcw).2 d hd;rw[hV.keep d h2.1 h2.2];exact h0
      case lw b=>
       obtain⟨cs,cs',hL⟩:=HL _ _ _ _ _ hev;rw[hL.st.1 d];exact h0
      case bo=>exact absurd rfl (hev.fl _)
    simp only[B8,putB,SF,iS,eh,bz,if_false,kH]
 refine⟨hk,s0,kH t1 q.dst v,cD s.env q.dst f1,e0,?_,hle,(abq e1 _ _).trans hs.symm⟩;rw[yW,he];simp only[Fh,xe,hrel]
end
end Go.Bm

/- Two steps whose order is open commute. -/
namespace Go.Bm
open Go.Am
section
variable {P:Program} {c:fe} {call:Nat->List AV->Heap->Option (AV × Heap)}
theorem gS {d:Nat}:∀{ps:List Rt},iR d ps=true->∀p∈ps,(∀i,p=.s i->i≠d)/\∀ i j,p=.sc i j->i≠d
 |[],_,p,hp=>by simp at hp
 |q::r,h,p,hp=>by
   have ih:iR d r=true->p∈r->_:=fun h hp=>gS (d:=d) h p hp;rcases aK.1 hp with e|e
   ·subst e;cases p with
    |s i=>simp only[iR,ae,decide_eq_true_eq] at h; exact⟨(fun k hk=>by cases hk; exact h.1),fun k j hk=>by cases hk⟩
    |sc i j=>simp only[iR,ae,decide_eq_true_eq] at h; exact⟨(fun k hk=>by cases hk),fun k l hk=>(by cases hk; exact h.1)⟩
    |c b j=>exact⟨(fun k hk=>by cases hk),fun k l hk=>by cases hk⟩
   ·have h':iR d r=true:=by
     cases q<;>simp only[iR,ae] at h
     ·exact h.2
     ·exact h.2
     ·exact h
    exact ih h' e
theorem xq {sl:List Nat} {bs:Option (List Nat)}:∀{ps:List Rt},rJ sl bs ps=true->∀p∈ps,(∀i,p=.s i->i∉sl/\i+m7∉sl)/\(∀i j,p=.sc i j->i∉sl/\i+m7∉sl)/\∀ b j,p=.c b j->∃l,bs=some l/\oe b l=false/\(j=0->b+m7∉l)
 |[],_,p,hp=>by simp at hp
 |q::r,h,p,hp=>by
   have nm:∀{i:Nat} {l:List Nat},mem i l=false->i∉l:=fun h hi=>by rw[mem_iff.2 hi] at h; cases h
   rcases aK.1 hp with e|e
   ·subst e;cases p with
    |s i=>simp only[rJ,ae,bR] at h; exact⟨fun k hk=>(by cases hk; exact⟨nm h.1.1,nm h.1.2⟩),(fun k j hk=>by cases hk),fun k j hk=>by cases hk⟩
    |sc i j=>simp only[rJ,ae,bR] at h; exact⟨(fun k hk=>by cases hk),(fun k l hk=>(by cases hk; exact⟨nm h.1.1,nm h.1.2⟩)),fun k j hk=>by cases hk⟩
    |c b j=>
      simp only[rJ,ae] at h;refine⟨(fun k hk=>by cases hk),(fun k l hk=>by cases hk),fun k l hk=>?_⟩;cases hk;cases bs with
      |none=>simp at h
      |some l=>
        simp only[ae,bR,gM,decide_eq_true_eq] at h;exact⟨l,rfl,h.1.1,fun e=>h.1.2.elim (fun q=>absurd e q) nm⟩
   ·have h':rJ sl bs r=true:=by
     cases q<;>simp only[rJ,ae] at h<;>exact h.2
    exact xq h' p e
theorem KA {sl:List Nat}:∀{l:List Nat},KB sl l=true->∀i∈l,i∉sl
 |[],_,i,hi=>by simp at hi
 |j::r,h,i,hi=>by
   simp only[KB,ae,bR] at h;rcases aK.1 hi with e|e
   ·subst e; intro hm; rw[mem_iff.2 hm] at h; cases h.1
   ·exact KA h.2 i e
theorem nJ {n:Nat}:∀{ps:List Rt},iO n ps=true->∀b j,Rt.c b j∈ps->b<n
 |[],_,b,j,h=>by simp at h
 |q::r,h,b,j,hp=>by
   rcases aK.1 hp with e|e
   ·subst e; simp only[iO,ae,decide_eq_true_eq] at h; exact h.1
   ·have h':iO n r=true:=by cases q<;>simp only[iO,ae] at h<;>first|exact h|exact h.2
    exact nJ h' b j e
theorem Seen.mk' {ps:List Rt} {s t:St} (h1:∀p∈ps,(∀i,p=.s i->get t.env i=get s.env i)/\(∀i j,p=.sc i j->get t.env i=get s.env i)/\∀ b j,p=.c b j->aO t.H b=aO s.H b):Seen ps s t:=by
 intro p hp;obtain⟨a,b,d⟩:=h1 p hp;refine⟨?_,fun k l e=>d k l e⟩;cases p with
 |s i=>simp only[aD,at_]; rw[a i rfl]
 |sc i j=>simp only[aD,at_]; rw[b i j rfl]
 |c k j=>simp only[aD,at_]; rw[d k j rfl]
theorem Av {x y:O} (h:kC x y=true):(∀i,x.dst=some i->i∉y.reads/\y.dst≠some i)/\∀ i,y.dst=some i->i∉x.reads/\x.dst≠some i:=by
 have nm:∀{i:Nat} {l:List Nat},mem i l=false->i∉l:=fun h hi=>by rw[mem_iff.2 hi] at h; cases h
 unfold kC at h;simp only[ae] at h;obtain⟨h1,h2⟩:=h;refine⟨fun i hi=>?_,fun i hi=>?_⟩
 ·rw[hi] at h1;simp only[ae,bR,decide_eq_true_eq] at h1;exact⟨nm h1.1,h1.2⟩
 ·rw[hi] at h2;simp only[bR] at h2;refine⟨nm h2,fun e=>?_⟩;rw[e] at h1;simp only[ae,bR,decide_eq_true_eq] at h1;exact h1.2 hi
def FM:Fq->List Rt
 |.rd ps=>ps
 |.bo ps=>ps
 |.rc b _=>[.c b 0]
 |_=>[]
theorem ot {e:Env} {d:Option Nat} {f:Fq} (h:pA (cD e d f)=true) (hc:calm f=true):FM (cD e d f)=FM f/\(∀n,f=.al n->cD e d f=.al n)/\(∀n,cD e d f=.al n->f=.al n)/\((∀ps,cD e d f≠.bo ps)->cD e d f=f/\∀ i,d=some i->aU (get e i)=[]):=by
 unfold cD at h ⊢;cases d with
 |none=>exact⟨rfl,fun n h=>h,fun n h=>h,fun _=>⟨rfl,fun i hi=>by cases hi⟩⟩
 |some d=>
   simp only at h ⊢;split at h
   ·simp[pA] at h
   rename_i h1;rw[if_neg h1];split at h
   ·rename_i h2;rw[if_pos h2];exact⟨rfl,fun n h=>h,fun n h=>h,fun _=>⟨rfl,fun i hi=>by cases hi; exact fV.1 h2⟩⟩
   ·rename_i h2;rw[if_neg h2];cases f<;>simp[calm,pA] at hc h ⊢<;>simp[FM]
theorem DV.cw {f g:Fq} (h:DV f g) (hg:pA g=true):(∀sl bs,f≠.wr sl bs)->f=g:=by
 intro hn;cases f<;>cases g<;>simp[DV,pA] at h hg hn ⊢<;>exact h
theorem OK {f g:Fq} (h:f.ok g=true):pA f=true/\pA g=true:=by
 cases f<;>cases g<;>simp[Fq.ok,pA] at h ⊢
theorem aea {f g:Fq} {n m:Nat} (h:f.ok g=true) (hf:f=.al n):g≠.al m:=by
 subst hf; intro e; subst e; simp[Fq.ok] at h
theorem adY {f g:Fq} {n:Nat} (h:f.ok g=true) (hf:f=.al n):iO n (FM g)=true:=by
 subst hf; cases g<;>simp[Fq.ok,FM,iO] at h ⊢<;>exact h
theorem ZL {f g:Fq} {n:Nat} (h:f.ok g=true) (hg:g=.al n):iO n (FM f)=true:=by
 subst hg; cases f<;>simp[Fq.ok,FM,iO] at h ⊢<;>exact h
theorem jt {d:Option Nat} {f:Fq} (h:DE d f=true) (hf:pA f=true):∀i,d=some i->iR i (FM f)=true:=by
 rintro i rfl;cases f<;>simp[DE,FM,iR] at h ⊢<;>exact h
theorem Np {sl:List Nat} {bs:Option (List Nat)} {y:O} {g:Fq} (h:Nq (.wr sl bs) y g=true):(∀i∈y.reads,i∉sl)/\(∀i,y.dst=some i->i∉sl/\i+m7∉sl)/\(∀ps,g=.rd ps->rJ sl bs ps=true)/\∀ b j,g=.rc b j->∃l,bs=some l/\b∉l/\b+m7∉l/\yG b j∉l:=by
 have nm:∀{i:Nat} {l:List Nat},mem i l=false->i∉l:=fun h hi=>by rw[mem_iff.2 hi] at h; cases h
 simp only[Nq,ae] at h;obtain⟨⟨h1,h2⟩,h3⟩:=h;refine⟨KA h1,fun i hi=>?_,fun ps hp=>?_,fun b j hp=>?_⟩
 ·rw[hi] at h2; simp only[ae,bR] at h2; exact⟨nm h2.1,nm h2.2⟩
 ·subst hp; exact h3
 ·subst hp;cases bs with
  |none=>simp[RY] at h3
  |some l=>
    simp only[RY,ae,bR] at h3;exact⟨l,rfl,nm h3.1,nm h3.2.1,nm h3.2.2⟩
theorem Bk {H X:Heap} {b:Nat} (h:b<H.length):aO (H++X) b=aO H b:=by
 unfold aO; rw[List.getElem?_append_left h]
theorem vY {b:Nat}:∀{l:List Nat},oe b l=true ↔ ∃x∈l,x=b\/Ru b x=true
 |[]=>by simp[oe]
 |x::r=>by
   simp only[oe,gM,decide_eq_true_eq,vY (l:=r),aK,exists_eq_or_imp];exact⟨fun h=>h.elim (fun h=>.inl (.inl h)) (fun h=>h.elim (fun h=>.inl (.inr h)) .inr),fun h=>h.elim (fun h=>h.elim .inl (fun h=>.inr (.inl h))) (fun h=>.inr (.inr h))⟩
theorem PG {b:Nat} {l l':List Nat} (h:∀x∈l,x∈l') (hb:oe b l'=false):oe b l=false:=by
 cases e:oe b l with
 |false=>rfl
 |true=>
   obtain⟨x,h1,h2⟩:=vY.1 e;rw[vY.2 ⟨x,h x h1,h2⟩] at hb;cases hb
theorem o7 {b:Nat} {l:List Nat} (h:oe b l=false):b∉l/\∀ j,yG b j∉l:=by
 refine⟨fun hb=>?_,fun j hb=>?_⟩
 ·rw[vY.2 ⟨b,hb,.inl rfl⟩] at h; cases h
 ·rw[vY.2 ⟨_,hb,.inr (by
   unfold Ru yG VL;simp only[ae,decide_eq_true_eq];refine⟨by omega,by omega,?_⟩;rw[Nat.add_sub_cancel_left];exact Nat.mul_mod_left _ _)⟩] at h
  cases h
theorem tB.of_eq {b j:Nat} {s t:St} (h:aO t.H b=aO s.H b):tB b j s t:=fun cs hc=>⟨cs,by rw[h]; exact hc,rfl⟩
theorem abS (HC:sa c call) (HW:Fy c call) (HL:FA c call) {s s1 s2 u1 u2:St} {x y:O} {f g f1 g1:Fq} {vx vy:AV} (hx:Ev c call s x vx u1 f1) (hfx:pA (cD s.env x.dst f1)=true) (Ik:DV (cD s.env x.dst f1) f) (hs1:eJ s1 (kH u1 x.dst vx)) (hy:Ev c call s1 y vy u2 g1) (hgy:pA (cD s1.env y.dst g1)=true) (Ij:DV (cD s1.env y.dst g1) g) (hs2:eJ s2 (kH u2 y.dst vy)) (VS:calm f1=true) (M4:calm g1=true) (Gx:kC x y=true) (dG:jH x f y g=true) :
  ∃ My,TS c call s y g My/\TS c call My x f s2:=by
 obtain⟨ax,ay⟩:=Av Gx;simp only[jH,ae] at dG;obtain⟨⟨dG,hd1,DA⟩,_⟩:=dG;obtain⟨cf,cg⟩:=OK dG;obtain⟨X,hX⟩:=HC _ _ _ _ _ hx VS;obtain⟨Y,hY⟩:=HC _ _ _ _ _ hy M4;obtain⟨r1,r2,r3,_⟩:=ot hfx VS;obtain⟨q1,q2,q3,_⟩:=ot hgy M4
 have nwx:∀sl bs,cD s.env x.dst f1≠.wr sl bs:=fun sl bs e=>by
  have:=za hfx;unfold cD at e;cases f1<;>simp[calm] at VS<;>(repeat' split at e)<;>simp_all
 have nwy:∀sl bs,cD s1.env y.dst g1≠.wr sl bs:=fun sl bs e=>by
  unfold cD at e;cases g1<;>simp[calm] at M4<;>(repeat' split at e)<;>simp_all
 have ef:cD s.env x.dst f1=f:=Ik.cw cf nwx;have eg:cD s1.env y.dst g1=g:=Ij.cw cg nwy;have HT:∀i,get s1.env i=if x.dst=some i then vx else get s.env i:=fun i=>by rw[hs1.1,fh,hX.st.1]
 have H1:s1.H=s.H++X:=by rw[hs1.2,iY,hX.st.2]
 have RP:∀i,x.dst=some i->y.dst≠some i:=fun i h=>(ax i h).2
 -- y from s
 have yr:∀i∈y.reads,get s.env i=get s1.env i:=fun i hi=>by
  rw[HT,if_neg];intro e;exact (ax i e).1 hi
 have DX:∀ps,g1=.rd ps->Seen ps s1 s:=fun ps yO=>by
  have Ah:FM g=ps:=by rw[<-eg,q1,yO]; rfl
  refine Seen.mk' fun p hp=>⟨fun i e=>?_,fun i j e=>?_,fun b j e=>?_⟩
  ·rw[HT,if_neg];intro e2;have:=jt hd1 cg i e2;rw[Ah] at this;exact (gS this p hp).1 i e rfl
  ·rw[HT,if_neg];intro e2;have:=jt hd1 cg i e2;rw[Ah] at this;exact (gS this p hp).2 i j e rfl
  ·subst e;rw[H1];rcases hX.nw with⟨e,_⟩|⟨z,e,e2⟩
   ·rw[e]; simp
   ·have:=adY dG (by rw[<-ef]; exact r2 _ e2);rw[Ah] at this;exact (Bk (nJ this b j hp)).symm
 have DX:Ce g1 s1 s:=⟨DX,fun b j hg=>by
  refine .of_eq ?_;rw[H1];rcases hX.nw with⟨e,_⟩|⟨z,e,e2⟩
  ·rw[e]; simp
  ·have:=adY dG (by rw[<-ef]; exact r2 _ e2);rw[show FM g=[.c b 0] by rw[<-eg,q1,hg]; rfl] at this;exact (Bk (nJ this b 0 (by simp))).symm⟩
 have yal:∀n,g1=.al n->s.H.length=n:=fun n hn=>by
  rcases hX.nw with⟨e,_⟩|⟨z,e,e2⟩
  ·rcases hY.nw with⟨e3,e4⟩|⟨z3,e3,e4⟩
   ·exact absurd hn (e4 n)
   ·rw[e4] at hn; cases hn; rw[H1,e]; simp
  ·exfalso;exact aea dG (by rw[<-ef]; exact r2 _ e2) (by rw[<-eg]; exact q2 n hn)
 have DT:=hY.go s (fun i hi=>by rw[yr i hi]) DX yal
 have gy:∀i,y.dst=some i->get s1.env i=get s.env i:=fun i hi=>by
  rw[HT,if_neg];intro e;exact RP i e hi
 have Ye:cD s.env y.dst g1=cD s1.env y.dst g1:=kz fun i hi=>(gy i hi).symm;refine⟨kH ⟨s.env,s.H++Y⟩ y.dst vy,TS.mk HC HW HL DT (by rw[Ye]; exact hgy) (by rw[Ye]; exact Ij) eJ.rfl',?_⟩
 -- x from there
 generalize ht:kH ⟨s.env,s.H++Y⟩ y.dst vy=t;have gt:∀i,get t.env i=if y.dst=some i then vy else get s.env i:=fun i=>by rw[<-ht,fh]
 have Ht:t.H=s.H++Y:=by rw[<-ht,iY]
 have Hl:s.H.length<=s1.H.length:=by rw[H1]; simp
 have xr:∀i∈x.reads,get t.env i=get s.env i:=fun i hi=>by
  rw[gt,if_neg];intro e;exact (ay i e).1 hi
 have DY:∀ps,f1=.rd ps->Seen ps s t:=fun ps yO=>by
  have Ah:FM f=ps:=by rw[<-ef,r1,yO]; rfl
  refine Seen.mk' fun p hp=>⟨fun i e=>?_,fun i j e=>?_,fun b j e=>?_⟩
  ·rw[gt,if_neg];intro e2;have:=jt DA cf i e2;rw[Ah] at this;exact (gS this p hp).1 i e rfl
  ·rw[gt,if_neg];intro e2;have:=jt DA cf i e2;rw[Ah] at this;exact (gS this p hp).2 i j e rfl
  ·subst e;rw[Ht];rcases hY.nw with⟨e,_⟩|⟨z,e,e2⟩
   ·rw[e]; simp
   ·have h6:=ZL dG (by rw[<-eg]; exact q2 _ e2);rw[Ah] at h6;have h7:=nJ h6 b j hp;rcases hX.nw with⟨e3,_⟩|⟨z3,e3,e4⟩
    ·rw[H1,e3] at h7;exact Bk (by simpa using h7)
    ·rw[yO] at e4; cases e4
 have DY:Ce f1 s t:=⟨DY,fun b j hg=>by
  refine .of_eq ?_;rw[Ht];rcases hY.nw with⟨e,_⟩|⟨z,e,e2⟩
  ·rw[e]; simp
  ·have h6:=ZL dG (by rw[<-eg]; exact q2 _ e2);rw[show FM f=[.c b 0] by rw[<-ef,r1,hg]; rfl] at h6;have h7:=nJ h6 b 0 (by simp);rcases hX.nw with⟨e3,_⟩|⟨z3,e3,e4⟩
   ·rw[H1,e3] at h7;exact Bk (by simpa using h7)
   ·rw[hg] at e4; cases e4⟩
 have xal:∀n,f1=.al n->t.H.length=n:=fun n hn=>by
  rcases hX.nw with⟨_,e⟩|⟨z,e,e2⟩
  ·exact absurd hn (e n)
  ·rcases hY.nw with⟨e3,_⟩|⟨z3,e3,e4⟩
   ·rw[Ht,e3]; rw[hn] at e2; cases e2; simp
   ·exfalso;exact aea dG (by rw[<-ef]; exact r2 _ hn) (by rw[<-eg]; exact q2 _ e4)
 have MY:=hX.go t (fun i hi=>by rw[xr i hi]) DY xal
 have gx:∀i,x.dst=some i->get t.env i=get s.env i:=fun i hi=>by
  rw[gt,if_neg];exact RP i hi
 have Yf:cD t.env x.dst f1=cD s.env x.dst f1:=kz gx;refine TS.mk HC HW HL MY (by rw[Yf]; exact hfx) (by rw[Yf]; exact Ik) ⟨fun i=>?_,?_⟩
 ·rw[hs2.1,fh,hY.st.1,fh];show (if y.dst=some i then vy else get s1.env i)=(if x.dst=some i then vx else get t.env i);rw[HT,gt];by_cases e1:x.dst=some i
  ·have:=RP i e1;simp[e1,this]
  ·simp[e1]
 ·rw[hs2.2,iY,hY.st.2,iY];show s1.H++Y=t.H++X;rw[H1,Ht];rcases hX.nw with⟨e,_⟩|⟨z,e,e2⟩
  ·rw[e]; simp
  ·rcases hY.nw with⟨e3,_⟩|⟨z3,e3,e4⟩
   ·rw[e3]; simp
   ·exact absurd (by rw[<-eg]; exact q2 _ e4) (aea dG (by rw[<-ef]; exact r2 _ e2))
theorem DV.sub {sl sl':List Nat} {bs bs':Option (List Nat)} (h:DV (.wr sl bs) (.wr sl' bs')):∀i∈sl,i∈sl':=h.1
theorem DV.Nn {f:Fq} {sl:List Nat} {bs:Option (List Nat)} (h:DV (.wr sl bs) f) (hc:pA f=true):∃sl' bs',f=.wr sl' bs':=by
 cases f<;>simp[DV,pA] at h hc ⊢
theorem am1 {f:Fq} {sl:List Nat} {bs:Option (List Nat)} (h:f.ok (.wr sl bs)=true):(∀ps,f≠.bo ps)/\(∀n,f≠.al n):=by
 cases f<;>simp[Fq.ok] at h ⊢
theorem adW {f:Fq} {sl:List Nat} {bs:Option (List Nat)} (h:Fq.ok (.wr sl bs) f=true):(∀ps,f≠.bo ps)/\(∀n,f≠.al n)/\∀ sl bs,f≠.wr sl bs:=by
 cases f<;>simp[Fq.ok] at h ⊢
theorem ahE (HC:sa c call) (HW:Fy c call) (HL:FA c call) {s s1 s2 u1 u2:St} {x y:O} {f g f1:Fq} {sl0:List Nat} {L0:Option (List Nat)} {vx vy:AV} (hx:Ev c call s x vx u1 f1) (hfx:pA (cD s.env x.dst f1)=true) (Ik:DV (cD s.env x.dst f1) f) (hs1:eJ s1 (kH u1 x.dst vx)) (hy:Ev c call s1 y vy u2 (.wr sl0 L0)) (hgy:pA (cD s1.env y.dst (.wr sl0 L0))=true) (Ij:DV (cD s1.env y.dst (.wr sl0 L0)) g) (hs2:eJ s2 (kH u2 y.dst vy)) (VS:calm f1=true) (Gx:kC x y=true) (dG:jH x f y g=true) :
  ∃ My,TS c call s y g My/\TS c call My x f s2:=by
 obtain⟨ax,ay⟩:=Av Gx;simp only[jH,ae] at dG;obtain⟨⟨dG,hd1,DA⟩,_,hw⟩:=dG;obtain⟨cf,cg⟩:=OK dG;obtain⟨X,hX⟩:=HC _ _ _ _ _ hx VS;obtain⟨V,hV⟩:=HW _ _ _ _ _ _ hy;obtain⟨r1,r2,r3,r4⟩:=ot hfx VS;obtain⟨q1,q2⟩:=pI hgy;rw[q1] at Ij;obtain⟨sl,bs,rfl⟩:=Ij.Nn cg;obtain⟨o1,o2⟩:=am1 dG
 have nwx:∀sl bs,cD s.env x.dst f1≠.wr sl bs:=fun sl bs e=>by
  unfold cD at e;cases f1<;>simp[calm] at VS<;>(repeat' split at e)<;>simp_all
 have ef:cD s.env x.dst f1=f:=Ik.cw cf nwx;obtain⟨e1,hbx⟩:=r4 (fun ps e=>o1 ps (ef▸e));have ef':f1=f:=e1▸ef
 have hX0:X=[]:=by
  rcases hX.nw with⟨e,_⟩|⟨z,e,e2⟩
  ·exact e
  ·exact absurd (ef'▸e2) (o2 _)
 subst hX0;obtain⟨w1,w2,w3,w4⟩:=Np hw;have sub:∀{i:Nat},i∉sl->i∉sl0:=fun h hi=>h (Ij.sub _ hi);have RP:∀i,x.dst=some i->y.dst≠some i:=fun i h=>(ax i h).2;have HT:∀i,get s1.env i=if x.dst=some i then vx else get s.env i:=fun i=>by rw[hs1.1,fh,hX.st.1]
 have H1:s1.H=s.H:=by rw[hs1.2,iY,hX.st.2]; simp
 -- y from s
 have Bb:∃t1 sl',Ev c call s y vy t1 (.wr sl' L0)/\(∀i∈sl',i∈sl0)/\(∀i,get t1.env i=if x.dst=some i then get s.env i else get u2.env i)/\t1.H=u2.H:=by
  cases hd:x.dst with
  |none=>
    refine⟨u2,sl0,hy.same ⟨fun i=>?_,H1⟩ eJ.rfl',fun i hi=>hi,fun i=>by simp,rfl⟩;rw[HT,hd]; simp
  |some d=>
    obtain⟨t1,sl',h1,h2,h3⟩:=hV.go d (get s.env d) (fun h=>(ax d hd).1 h) (sub (w2 d hd).1) (sub (w2 d hd).2) (fun p hp=>by rw[hbx d hd] at hp; simp at hp);refine⟨t1,sl',h1.same ⟨fun i=>?_,H1⟩ eJ.rfl',h2,fun i=>?_,h3.2⟩
    ·show get (put s1.env d (get s.env d)) i=get s.env i;rw[bM];split
     ·rename_i e; rw[e]
     ·rename_i e;rw[HT,hd,if_neg];simp; exact fun h=>e h.symm
    ·rw[h3.1];show get (put u2.env d (get s.env d)) i=_;rw[bM];by_cases e:i=d
     ·subst e; simp
     ·have:d≠i:=fun h=>e h.symm;simp[e,this]
 obtain⟨t1,sl',DT,hsl',gt1,Ht1⟩:=Bb
 have gy:∀i,y.dst=some i->get s1.env i=get s.env i:=fun i hi=>by
  rw[HT,if_neg];intro e;exact RP i e hi
 have Ye:cD s.env y.dst (.wr sl' L0)=.wr sl' L0:=GQ (sl':=sl') (bs':=L0) (e':=s.env) fun i hi=>by rw[<-gy i hi]; exact q2 i hi
 have ley:DV (.wr sl' L0) (.wr sl bs):=⟨fun i hi=>Ij.1 i (hsl' i hi),Ij.2⟩;refine⟨kH t1 y.dst vy,TS.mk HC HW HL DT (by rw[Ye]; rfl) (by rw[Ye]; exact ley) eJ.rfl',?_⟩;generalize ht:kH t1 y.dst vy=t;have gt:∀i,get t.env i=if y.dst=some i then vy else if x.dst=some i then get s.env i else get u2.env i:=fun i=>by rw[<-ht,fh,gt1]
 have Ht:t.H=u2.H:=by rw[<-ht,iY,Ht1]
 have Nc:∀i,i∉sl->i+m7∉sl->y.dst≠some i->get t.env i=get s.env i:=fun i hi hi2 hd=>by
  rw[gt,if_neg hd];split
  ·rfl
  ·rename_i e;rw[hV.env i (sub hi) (sub hi2),HT,if_neg e]
 have afM:∀i,i∉sl->y.dst≠some i->fJ i (get t.env i)=fJ i (get s.env i):=fun i hi hd=>by
  rw[gt,if_neg hd];split
  ·rfl
  ·rename_i e;rw[hV.hd i (sub hi),HT,if_neg e]
 have xr:∀i∈x.reads,fJ i (get t.env i)=fJ i (get s.env i):=fun i hi=>afM i (w1 i hi) fun e=>(ay i e).1 hi
 have DY:∀ps,f1=.rd ps->Seen ps s t:=fun ps yO=>by
  have Ah:f=.rd ps:=by rw[<-ef']; exact yO
  refine Seen.mk' fun p hp=>?_;obtain⟨a1,a2,a3⟩:=xq (w3 ps Ah) p hp
  have ns:∀i,y.dst=some i->(∀k,p=.s k->k≠i)/\∀ k j,p=.sc k j->k≠i:=fun i hi=>by
   have:=jt DA cf i hi;rw[Ah] at this;exact gS this p hp
  refine⟨fun i e=>Nc i (a1 i e).1 (a1 i e).2 fun h=>(ns i h).1 i e rfl,fun i j e=>Nc i (a2 i j e).1 (a2 i j e).2 fun h=>(ns i h).2 i j e rfl,fun b j e=>?_⟩;obtain⟨l,e5,e6,_⟩:=a3 b j e;subst e5;have h8:=Ij.2;cases L0 with
  |none=>simp at h8
  |some l0=>
    rw[Ht,hV.heap l0 rfl b (PG h8 e6),H1]
 have DY:Ce f1 s t:=⟨DY,fun b j yO=>by
  have Ah:f=.rc b j:=by rw[<-ef']; exact yO
  obtain⟨l,e5,e6,e7,e8⟩:=w4 b j Ah;subst e5;have h8:=Ij.2;cases L0 with
  |none=>simp at h8
  |some l0=>
    have h9:=(hV.cell l0 rfl b j (fun h=>e6 (h8 b h)) (fun h=>e8 (h8 _ h))).1;intro cs hc;rw[<-H1] at hc;rw[Ht];exact h9 cs hc⟩
 have xal:∀n,f1=.al n->t.H.length=n:=fun n hn=>absurd (ef'▸hn) (o2 n);have MY:=hX.go t xr DY xal;have gx:∀i,x.dst=some i->get t.env i=get s.env i:=fun i hi=>Nc i (w2 i hi).1 (w2 i hi).2 (RP i hi);have Yf:cD t.env x.dst f1=cD s.env x.dst f1:=kz gx;refine TS.mk HC HW HL MY (by rw[Yf]; exact hfx) (by rw[Yf]; exact Ik) ⟨fun i=>?_,?_⟩
 ·rw[hs2.1,fh,fh];show (if y.dst=some i then vy else get u2.env i)=(if x.dst=some i then vx else get t.env i);rw[gt];by_cases e1:x.dst=some i
  ·have:=RP i e1;simp only[e1,this,if_true,if_false];rw[hV.env i (sub (w2 i e1).1) (sub (w2 i e1).2),HT,if_pos e1]
  ·simp[e1]
 ·rw[hs2.2,iY,iY];show u2.H=t.H++[];rw[Ht]; simp
theorem ahC (HC:sa c call) (HW:Fy c call) (HL:FA c call) {s s1 s2 u1 u2:St} {x y:O} {f g g1:Fq} {sl0:List Nat} {L0:Option (List Nat)} {vx vy:AV} (hx:Ev c call s x vx u1 (.wr sl0 L0)) (hfx:pA (cD s.env x.dst (.wr sl0 L0))=true) (Ik:DV (cD s.env x.dst (.wr sl0 L0)) f) (hs1:eJ s1 (kH u1 x.dst vx)) (hy:Ev c call s1 y vy u2 g1) (hgy:pA (cD s1.env y.dst g1)=true) (Ij:DV (cD s1.env y.dst g1) g) (hs2:eJ s2 (kH u2 y.dst vy)) (M4:calm g1=true) (Gx:kC x y=true) (dG:jH x f y g=true) :
  ∃ My,TS c call s y g My/\TS c call My x f s2:=by
 obtain⟨ax,ay⟩:=Av Gx;simp only[jH,ae] at dG;obtain⟨⟨dG,hd1,DA⟩,hw,_⟩:=dG;obtain⟨cf,cg⟩:=OK dG;obtain⟨V,hV⟩:=HW _ _ _ _ _ _ hx;obtain⟨Y,hY⟩:=HC _ _ _ _ _ hy M4;obtain⟨r1,r2⟩:=pI hfx;obtain⟨q1,q2,q3,q4⟩:=ot hgy M4;rw[r1] at Ik;obtain⟨sl,bs,rfl⟩:=Ik.Nn cf;obtain⟨o1,o2,_⟩:=adW dG
 have nwy:∀sl bs,cD s1.env y.dst g1≠.wr sl bs:=fun sl bs e=>by
  unfold cD at e;cases g1<;>simp[calm] at M4<;>(repeat' split at e)<;>simp_all
 have eg:cD s1.env y.dst g1=g:=Ij.cw cg nwy;obtain⟨e1,_⟩:=q4 (fun ps e=>o1 ps (eg▸e));have eg':g1=g:=e1▸eg
 have hY0:Y=[]:=by
  rcases hY.nw with⟨e,_⟩|⟨z,e,e2⟩
  ·exact e
  ·exact absurd (eg'▸e2) (o2 _)
 subst hY0;obtain⟨w1,w2,w3,w4⟩:=Np hw;have sub:∀{i:Nat},i∉sl->i∉sl0:=fun h hi=>h (Ik.sub _ hi);have RP:∀i,x.dst=some i->y.dst≠some i:=fun i h=>(ax i h).2;have HT:∀i,get s1.env i=if x.dst=some i then vx else get u1.env i:=fun i=>by rw[hs1.1,fh]
 have H1:s1.H=u1.H:=by rw[hs1.2,iY]
 have Nc:∀i,i∉sl->i+m7∉sl->x.dst≠some i->get s.env i=get s1.env i:=fun i hi hi2 hd=>by rw[HT,if_neg hd,hV.env i (sub hi) (sub hi2)]
 have afM:∀i,i∉sl->x.dst≠some i->fJ i (get s.env i)=fJ i (get s1.env i):=fun i hi hd=>by rw[HT,if_neg hd,hV.hd i (sub hi)]
 have ajs:∀b j,g1=.rc b j->∃l,L0=some l/\b∉l/\b+m7∉l/\yG b j∉l:=fun b j yO=>by
  obtain⟨l,e5,e6,e7,e8⟩:=w4 b j (by rw[<-eg']; exact yO);subst e5;have h8:=Ik.2;cases L0 with
  |none=>simp at h8
  |some l0=>exact⟨l0,rfl,fun h=>e6 (h8 b h),fun h=>e7 (h8 _ h),fun h=>e8 (h8 _ h)⟩
 have boxes:∀{ps:List Rt},g1=.rd ps->∀b j,Rt.c b j∈ps->∃l,L0=some l/\oe b l=false/\(j=0->b+m7∉l):=fun{ps} yO b j hp=>by
  have Ah:g=.rd ps:=by rw[<-eg']; exact yO
  obtain⟨_,_,a3⟩:=xq (w3 ps Ah) _ hp;obtain⟨l,e5,e6,e7⟩:=a3 b j rfl;subst e5;have h8:=Ik.2;cases L0 with
  |none=>simp at h8
  |some l0=>exact⟨l0,rfl,PG h8 e6,fun e h=>e7 e (h8 _ h)⟩
 have yr:∀i∈y.reads,fJ i (get s.env i)=fJ i (get s1.env i):=fun i hi=>afM i (w1 i hi) fun e=>(ax i e).1 hi
 have DX:∀ps,g1=.rd ps->Seen ps s1 s:=fun ps yO=>by
  have Ah:g=.rd ps:=by rw[<-eg']; exact yO
  refine Seen.mk' fun p hp=>?_;obtain⟨a1,a2,_⟩:=xq (w3 ps Ah) p hp
  have ns:∀i,x.dst=some i->(∀k,p=.s k->k≠i)/\∀ k j,p=.sc k j->k≠i:=fun i hi=>by
   have:=jt hd1 cg i hi;rw[Ah] at this;exact gS this p hp
  refine⟨fun i e=>Nc i (a1 i e).1 (a1 i e).2 fun h=>(ns i h).1 i e rfl,fun i j e=>Nc i (a2 i j e).1 (a2 i j e).2 fun h=>(ns i h).2 i j e rfl,fun b j e=>?_⟩;subst e;obtain⟨l,e5,e6,_⟩:=boxes yO b j hp;rw[H1,hV.heap l e5 b e6]
 have DX:Ce g1 s1 s:=⟨DX,fun b j yO=>by
  obtain⟨l,e5,e6,e7,e8⟩:=ajs b j yO;intro cs hc;rw[H1] at hc;exact (hV.cell l e5 b j e6 e8).2 cs hc⟩
 have yal:∀n,g1=.al n->s.H.length=n:=fun n hn=>absurd (eg'▸hn) (o2 n);have DT:=hY.go s yr DX yal;have gy:∀i,y.dst=some i->get s1.env i=get s.env i:=fun i hi=>(Nc i (w2 i hi).1 (w2 i hi).2 (fun e=>RP i e hi)).symm;have Ye:cD s.env y.dst g1=cD s1.env y.dst g1:=kz fun i hi=>(gy i hi).symm;refine⟨kH ⟨s.env,s.H++[]⟩ y.dst vy,TS.mk HC HW HL DT (by rw[Ye]; exact hgy) (by rw[Ye]; exact Ij) eJ.rfl',?_⟩
 have amm:∀p∈aU vy,¬V p:=by
  obtain⟨Y',hYs⟩:=HC _ _ _ _ _ DT M4;refine hYs.val V (fun i hi=>hV.v1 i (sub (w1 i hi))) (fun ps yO b hp cs hb=>?_) fun b j yO cs c0 hb hc=>?_
  ·obtain⟨l0,e5,e6,e7⟩:=boxes yO b 0 hp;exact hV.v2 l0 e5 b e6 (e7 rfl) cs hb
  ·obtain⟨l0,e5,e6,e7,e8⟩:=ajs b j yO;exact hV.v3 l0 e5 b j e6 e7 e8 cs c0 hb hc
 have Bb:∃t1 sl',Ev c call (kH ⟨s.env,s.H++[]⟩ y.dst vy) x vx t1 (.wr sl' L0)/\(∀i∈sl',i∈sl0)/\eJ t1 (kH u1 y.dst vy):=by
  cases hd:y.dst with
  |none=>exact⟨u1,sl0,hx.same ⟨fun i=>rfl,by simp[kH]⟩ eJ.rfl',fun i hi=>hi,eJ.rfl'⟩
  |some d=>
    obtain⟨t1,sl',h1,h2,h3⟩:=hV.go d vy (fun h=>(ay d hd).1 h) (sub (w2 d hd).1) (sub (w2 d hd).2) amm;exact⟨t1,sl',h1.same ⟨fun i=>rfl,by simp[kH]⟩ eJ.rfl',h2,h3⟩
 obtain⟨t1,sl',MY,hsl',ht1⟩:=Bb;have gx:∀i,x.dst=some i->get (kH ⟨s.env,s.H++[]⟩ y.dst vy).env i=get s.env i:=fun i hi=>by rw[fh,if_neg (RP i hi)]
 have Yf:cD (kH ⟨s.env,s.H++[]⟩ y.dst vy).env x.dst (.wr sl' L0)=.wr sl' L0:=GQ (sl':=sl') (bs':=L0) (e':=s.env) fun i hi=>by rw[gx i hi]; exact r2 i hi
 have lex:DV (.wr sl' L0) (.wr sl bs):=⟨fun i hi=>Ik.1 i (hsl' i hi),Ik.2⟩;refine TS.mk HC HW HL MY (by rw[Yf]; rfl) (by rw[Yf]; exact lex) ⟨fun i=>?_,?_⟩
 ·rw[hs2.1,fh,hY.st.1,fh,ht1.1,fh];show (if y.dst=some i then vy else get s1.env i)=(if x.dst=some i then vx else if y.dst=some i then vy else get u1.env i);rw[HT];by_cases e1:x.dst=some i
  ·have:=RP i e1;simp[e1,this]
  ·simp[e1]
 ·rw[hs2.2,iY,hY.st.2,iY,ht1.2,iY];show s1.H++[]=u1.H;rw[H1]; simp
theorem DV.T8 {f:Fq} {b:Nat} (h:DV (.lw b) f) (hc:pA f=true):f=.lw b:=by
 cases f<;>simp[DV,pA] at h hc ⊢
 exact h.symm
theorem ai6 {f:Fq} {b:Nat} (h:f.ok (.lw b)=true):(∀ps,f≠.bo ps)/\(∀n,f=.al n->b<n)/\(∀ps,f=.rd ps->s9 b ps=true)/\(∀d j,f=.rc d j->d≠b)/\(∀sl bs,f≠.wr sl bs)/\∀ d,f≠.lw d:=by
 cases f<;>simp[Fq.ok] at h ⊢<;>exact h
theorem ad4 {f:Fq} {b:Nat} (h:Fq.ok (.lw b) f=true):(∀ps,f≠.bo ps)/\(∀n,f=.al n->b<n)/\(∀ps,f=.rd ps->s9 b ps=true)/\(∀d j,f=.rc d j->d≠b)/\(∀sl bs,f≠.wr sl bs)/\∀ d,f≠.lw d:=by
 cases f<;>simp[Fq.ok] at h ⊢<;>exact h
theorem Dm {b:Nat}:∀{ps:List Rt},s9 b ps=true->∀d j,Rt.c d j∈ps->d≠b
 |[],_,d,j,h=>by simp at h
 |q::r,h,d,j,hp=>by
   rcases aK.1 hp with e|e
   ·subst e; simp only[s9,ae,decide_eq_true_eq] at h; exact h.1
   ·have h':s9 b r=true:=by cases q<;>simp only[s9,ae] at h<;>first|exact h|exact h.2
    exact Dm h' d j e
theorem ahF (HC:sa c call) (HW:Fy c call) (HL:FA c call) {s s1 s2 u1 u2:St} {x y:O} {f g f1:Fq} {b:Nat} {vx vy:AV} (hx:Ev c call s x vx u1 f1) (hfx:pA (cD s.env x.dst f1)=true) (Ik:DV (cD s.env x.dst f1) f) (hs1:eJ s1 (kH u1 x.dst vx)) (hy:Ev c call s1 y vy u2 (.lw b)) (hgy:pA (cD s1.env y.dst (.lw b))=true) (Ij:DV (cD s1.env y.dst (.lw b)) g) (hs2:eJ s2 (kH u2 y.dst vy)) (VS:calm f1=true) (Gx:kC x y=true) (dG:jH x f y g=true) :
  ∃ My,TS c call s y g My/\TS c call My x f s2:=by
 obtain⟨ax,ay⟩:=Av Gx;simp only[jH,ae] at dG;obtain⟨⟨dG,hd1,DA⟩,_⟩:=dG;obtain⟨cf,cg⟩:=OK dG;obtain⟨X,hX⟩:=HC _ _ _ _ _ hx VS;obtain⟨cs,cs',hY⟩:=HL _ _ _ _ _ hy;obtain⟨r1,r2,r3,r4⟩:=ot hfx VS;obtain⟨q1,q2⟩:=yZ hgy;have hly':=Ij;rw[q1] at hly';have hg:=hly'.T8 cg;subst hg;obtain⟨o1,o2,o3,o4,_,_⟩:=ai6 dG
 have nwx:∀sl bs,cD s.env x.dst f1≠.wr sl bs:=fun sl bs e=>by
  unfold cD at e;cases f1<;>simp[calm] at VS<;>(repeat' split at e)<;>simp_all
 have ef:cD s.env x.dst f1=f:=Ik.cw cf nwx;obtain⟨e1,_⟩:=r4 (fun ps e=>o1 ps (ef▸e));have ef':f1=f:=e1▸ef;subst ef';have HT:∀i,get s1.env i=if x.dst=some i then vx else get s.env i:=fun i=>by rw[hs1.1,fh,hX.st.1]
 have H1:s1.H=s.H++X:=by rw[hs1.2,iY,hX.st.2]
 have RP:∀i,x.dst=some i->y.dst≠some i:=fun i h=>(ax i h).2
 have blt:b<s.H.length:=by
  have h1:=eI hY.bl;rcases hX.nw with⟨e,_⟩|⟨z,e,e2⟩
  ·rw[H1,e] at h1; simpa using h1
  ·exact o2 _ e2
 have IP:aO s.H b=some cs:=by
  have h1:=hY.bl;rw[H1,Bk blt] at h1;exact h1
 have yr:∀i∈y.reads,get s.env i=get s1.env i:=fun i hi=>by
  rw[HT,if_neg];intro e;exact (ax i e).1 hi
 have DT:=hY.go s yr IP
 have gy:∀i,y.dst=some i->get s1.env i=get s.env i:=fun i hi=>by
  rw[HT,if_neg];intro e;exact RP i e hi
 have Ye:cD s.env y.dst (.lw b)=cD s1.env y.dst (.lw b):=kz fun i hi=>(gy i hi).symm;refine⟨kH ⟨s.env,s.H.set b (some cs')⟩ y.dst vy,TS.mk HC HW HL DT (by rw[Ye]; exact hgy) (by rw[Ye]; exact Ij) eJ.rfl',?_⟩;generalize ht:kH ⟨s.env,s.H.set b (some cs')⟩ y.dst vy=t;have gt:∀i,get t.env i=if y.dst=some i then vy else get s.env i:=fun i=>by rw[<-ht,fh]
 have Ht:t.H=s.H.set b (some cs'):=by rw[<-ht,iY]
 have xr:∀i∈x.reads,get t.env i=get s.env i:=fun i hi=>by
  rw[gt,if_neg];intro e;exact (ay i e).1 hi
 have hbx:∀d,d≠b->aO t.H d=aO s.H d:=fun d hd=>by rw[Ht,eF,if_neg (fun h=>hd h.1)]
 have DY:Ce f1 s t:=by
  refine⟨fun ps yO=>Seen.mk' fun p hp=>⟨fun i e=>?_,fun i j e=>?_,fun d j e=>?_⟩,fun d j hf=>.of_eq (hbx d (o4 d j hf))⟩
  ·rw[gt,if_neg];intro e2;have:=jt DA cf i e2;rw[yO] at this;exact (gS (show iR i ps=true from this) p hp).1 i e rfl
  ·rw[gt,if_neg];intro e2;have:=jt DA cf i e2;rw[yO] at this;exact (gS (show iR i ps=true from this) p hp).2 i j e rfl
  ·subst e;exact hbx d (Dm (o3 ps yO) d j hp)
 have xal:∀n,f1=.al n->t.H.length=n:=fun n hn=>by
  rcases hX.nw with⟨_,e⟩|⟨z,e,e2⟩
  ·exact absurd hn (e n)
  ·rw[hn] at e2; cases e2; rw[Ht]; simp
 have MY:=hX.go t (fun i hi=>by rw[xr i hi]) DY xal
 have gx:∀i,x.dst=some i->get t.env i=get s.env i:=fun i hi=>by
  rw[gt,if_neg];exact RP i hi
 have Yf:cD t.env x.dst f1=cD s.env x.dst f1:=kz gx;refine TS.mk HC HW HL MY (by rw[Yf]; exact hfx) (by rw[Yf]; exact Ik) ⟨fun i=>?_,?_⟩
 ·rw[hs2.1,fh,hY.st.1,fh];show (if y.dst=some i then vy else get s1.env i)=if x.dst=some i then vx else get t.env i;rw[HT,gt];by_cases h1:x.dst=some i
  ·simp[h1,RP i h1]
  ·simp[h1]
 ·rw[hs2.2,iY,hY.st.2,iY];show s1.H.set b (some cs')=t.H++X;rw[H1,Ht,XV _ _ blt]
theorem ahD (HC:sa c call) (HW:Fy c call) (HL:FA c call) {s s1 s2 u1 u2:St} {x y:O} {f g g1:Fq} {b:Nat} {vx vy:AV} (hx:Ev c call s x vx u1 (.lw b)) (hfx:pA (cD s.env x.dst (.lw b))=true) (Ik:DV (cD s.env x.dst (.lw b)) f) (hs1:eJ s1 (kH u1 x.dst vx)) (hy:Ev c call s1 y vy u2 g1) (hgy:pA (cD s1.env y.dst g1)=true) (Ij:DV (cD s1.env y.dst g1) g) (hs2:eJ s2 (kH u2 y.dst vy)) (M4:calm g1=true) (Gx:kC x y=true) (dG:jH x f y g=true) :
  ∃ My,TS c call s y g My/\TS c call My x f s2:=by
 obtain⟨ax,ay⟩:=Av Gx;simp only[jH,ae] at dG;obtain⟨⟨dG,hd1,DA⟩,_⟩:=dG;obtain⟨cf,cg⟩:=OK dG;obtain⟨cs,cs',hX⟩:=HL _ _ _ _ _ hx;obtain⟨Y,hY⟩:=HC _ _ _ _ _ hy M4;obtain⟨q1,q2⟩:=yZ hfx;have hlx':=Ik;rw[q1] at hlx';have hf:=hlx'.T8 cf;subst hf;obtain⟨o1,o2,o3,o4,_,_⟩:=ad4 dG;obtain⟨r1,r2,r3,r4⟩:=ot hgy M4
 have nwy:∀sl bs,cD s1.env y.dst g1≠.wr sl bs:=fun sl bs e=>by
  unfold cD at e;cases g1<;>simp[calm] at M4<;>(repeat' split at e)<;>simp_all
 have eg:cD s1.env y.dst g1=g:=Ij.cw cg nwy;obtain⟨e1,_⟩:=r4 (fun ps e=>o1 ps (eg▸e));have eg':g1=g:=e1▸eg;subst eg';have HT:∀i,get s1.env i=if x.dst=some i then vx else get s.env i:=fun i=>by rw[hs1.1,fh,hX.st.1]
 have H1:s1.H=s.H.set b (some cs'):=by rw[hs1.2,iY,hX.st.2]
 have RP:∀i,x.dst=some i->y.dst≠some i:=fun i h=>(ax i h).2;have blt:b<s.H.length:=eI hX.bl;have hbx:∀d,d≠b->aO s.H d=aO s1.H d:=fun d hd=>by rw[H1,eF,if_neg (fun h=>hd h.1)]
 have yr:∀i∈y.reads,get s.env i=get s1.env i:=fun i hi=>by
  rw[HT,if_neg];intro e;exact (ax i e).1 hi
 have DX:Ce g1 s1 s:=by
  refine⟨fun ps yO=>Seen.mk' fun p hp=>⟨fun i e=>?_,fun i j e=>?_,fun d j e=>?_⟩,fun d j hf=>.of_eq (hbx d (o4 d j hf))⟩
  ·rw[HT,if_neg];intro e2;have:=jt hd1 cg i e2;rw[yO] at this;exact (gS (show iR i ps=true from this) p hp).1 i e rfl
  ·rw[HT,if_neg];intro e2;have:=jt hd1 cg i e2;rw[yO] at this;exact (gS (show iR i ps=true from this) p hp).2 i j e rfl
  ·subst e;exact hbx d (Dm (o3 ps yO) d j hp)
 have yal:∀n,g1=.al n->s.H.length=n:=fun n hn=>by
  rcases hY.nw with⟨_,e⟩|⟨z,e,e2⟩
  ·exact absurd hn (e n)
  ·rw[hn] at e2; cases e2; rw[H1]; simp
 have DT:=hY.go s (fun i hi=>by rw[yr i hi]) DX yal
 have gy:∀i,y.dst=some i->get s1.env i=get s.env i:=fun i hi=>by
  rw[HT,if_neg];intro e;exact RP i e hi
 have Ye:cD s.env y.dst g1=cD s1.env y.dst g1:=kz fun i hi=>(gy i hi).symm;refine⟨kH ⟨s.env,s.H++Y⟩ y.dst vy,TS.mk HC HW HL DT (by rw[Ye]; exact hgy) (by rw[Ye]; exact Ij) eJ.rfl',?_⟩;generalize ht:kH ⟨s.env,s.H++Y⟩ y.dst vy=t;have gt:∀i,get t.env i=if y.dst=some i then vy else get s.env i:=fun i=>by rw[<-ht,fh]
 have Ht:t.H=s.H++Y:=by rw[<-ht,iY]
 have xr:∀i∈x.reads,get t.env i=get s.env i:=fun i hi=>by
  rw[gt,if_neg];intro e;exact (ay i e).1 hi
 have MY:=hX.go t xr (by rw[Ht,Bk blt]; exact hX.bl)
 have gx:∀i,x.dst=some i->get t.env i=get s.env i:=fun i hi=>by
  rw[gt,if_neg];exact RP i hi
 have Yf:cD t.env x.dst (.lw b)=cD s.env x.dst (.lw b):=kz gx;refine TS.mk HC HW HL MY (by rw[Yf]; exact hfx) (by rw[Yf]; exact Ik) ⟨fun i=>?_,?_⟩
 ·rw[hs2.1,fh,hY.st.1,fh];show (if y.dst=some i then vy else get s1.env i)=if x.dst=some i then vx else get t.env i;rw[HT,gt];by_cases h1:x.dst=some i
  ·simp[h1,RP i h1]
  ·simp[h1]
 ·rw[hs2.2,iY,hY.st.2,iY];show s1.H++Y=t.H.set b (some cs');rw[H1,Ht,XV _ _ blt]
theorem alR (HC:sa c call) (HW:Fy c call) (HL:FA c call):VJ (TS c call):=by
 intro s x f s1 y g s2 hx hy Gx dG;have MZ:=dG;simp only[jH,ae] at MZ;obtain⟨cf,cg⟩:=OK MZ.1.1;obtain⟨vx,u1,f1,x1,x2,x3,x4⟩:=hx.out HC HW HL cf;obtain⟨vy,u2,g1,y1,y2,y3,y4⟩:=hy.out HC HW HL cg;have c1:=za x2;have c2:=za y2;by_cases VS:calm f1=true
 ·by_cases M4:calm g1=true
  ·exact abS HC HW HL x1 x2 x3 x4 y1 y2 y3 y4 VS M4 Gx dG
  ·cases g1<;>simp[calm,pA] at M4 c2
   case wr sl bs=>exact ahE HC HW HL x1 x2 x3 x4 y1 y2 y3 y4 VS Gx dG
   case bo=>exact absurd rfl (y1.fl _)
   case lw b=>exact ahF HC HW HL x1 x2 x3 x4 y1 y2 y3 y4 VS Gx dG
 ·cases f1<;>simp[calm,pA] at VS c1
  case wr sl bs=>
   by_cases M4:calm g1=true
   ·exact ahC HC HW HL x1 x2 x3 x4 y1 y2 y3 y4 M4 Gx dG
   ·cases g1<;>simp[calm,pA] at M4 c2
    case wr sl' bs'=>
     exfalso;rw[(pI x2).1] at x3;rw[(pI y2).1] at y3;obtain⟨_,_,rfl⟩:=x3.Nn cf;obtain⟨_,_,rfl⟩:=y3.Nn cg;exact (adW MZ.1.1).2.2 _ _ rfl
    case bo=>exact absurd rfl (y1.fl _)
    case lw b=>
     exfalso;rw[(pI x2).1] at x3;rw[(yZ y2).1] at y3;obtain⟨_,_,rfl⟩:=x3.Nn cf;have:=y3.T8 cg;subst this;exact (ai6 MZ.1.1).2.2.2.2.1 _ _ rfl
  case bo=>exact absurd rfl (x1.fl _)
  case lw b=>
   by_cases M4:calm g1=true
   ·exact ahD HC HW HL x1 x2 x3 x4 y1 y2 y3 y4 M4 Gx dG
   ·exfalso;rw[(yZ x2).1] at x3;have hf:=x3.T8 cf;subst hf;obtain⟨_,_,_,_,o5,o6⟩:=ad4 MZ.1.1;cases g1<;>simp[calm,pA] at M4 c2
    case wr sl' bs'=>
     rw[(pI y2).1] at y3;obtain⟨_,_,rfl⟩:=y3.Nn cg;exact o5 _ _ rfl
    case bo=>exact absurd rfl (y1.fl _)
    case lw d=>
     rw[(yZ y2).1] at y3;exact o6 _ (y3.T8 cg)
end
end Go.Bm

/- What the value of a calm operation mentions was read. -/
namespace Go.Bm
open Go.Am
section
variable {P:Program} {c:fe} {call:Nat->List AV->Heap->Option (AV × Heap)} {V:Rt->Prop}
def R8 (V:Rt->Prop) (x:AV):Prop:=∀p∈aU x,¬V p
theorem kO {p:Rt}:∀{cs:List AV},p∈dL cs ↔ ∃x∈cs,p∈aU x
 |[]=>by simp[dL]
 |x::r=>by simp[dL,kO (cs:=r)]
theorem Gf {f:Nat->Rt} {p:Rt}:∀{cs:List AV} {j:Nat},p∈dL (fw f j cs)->p∈dL cs\/∃ i,p=f i
 |[],j,h=>by simp[fw,dL] at h
 |x::r,j,h=>by
   have ih:=fun h=>Gf (f:=f) (p:=p) (cs:=r) (j:=j+1) h;cases x<;>simp only[fw,dL,aU,aG,List.nil_append,aK,List.not_mem_nil,or_false] at h ih ⊢
   case own k xs=>
    rcases h with h|h
    ·exact .inr ⟨j,h⟩
    ·exact ih h
   all_goals first
    |exact ih h
    | (rcases h with h | h
       ·exact .inl (.inl h)
       ·rcases ih h with h|h
        ·exact .inl (.inr h)
        ·exact .inr h)
theorem aeE {i:Nat} {x:AV} {p:Rt} (h:p∈aU (fJ i x)):p∈aU x\/p=.s i\/∃ j,p=.sc i j:=by
 cases x<;>simp only[fJ] at h
 case own k xs=>simp[aU] at h; exact .inr (.inl h)
 case agg cs=>
  simp only[aU] at h ⊢;rcases Gf h with h|h
  ·exact .inl h
  ·exact .inr (.inr h)
 all_goals exact .inl h
def Is (V:Rt->Prop) (env:Env) (l:List Nat):Prop:=∀i∈l,(∀p∈aU (get env i),¬V p)/\¬ V (.s i)/\∀ j,¬V (.sc i j)
theorem Is.left {env:Env} {l m:List Nat} (h:Is V env (l++m)):Is V env l:=fun i hi=>h i (by simp[hi])
theorem Is.right {env:Env} {l m:List Nat} (h:Is V env (l++m)):Is V env m:=fun i hi=>h i (by simp[hi])
theorem kZ {env:Env} {x:E} (hk:kE x=true) (h:Is V env x.slot):R8 V (bC c env x):=by
 intro p hp;cases x with
 |t i=>
   simp only[bC] at hp;obtain⟨h1,h2,h3⟩:=h i (by simp[E.slot]);rcases aeE hp with e|e|⟨j,e⟩
   ·exact h1 p e
   ·subst e; exact h2
   ·subst e; exact h3 j
 |k x=>simp only[bC] at hp; simp only[kE,fV] at hk; rw[hk] at hp; simp at hp
 |g i=>simp[bC,aU] at hp
theorem Kr {env:Env}:∀{xs:List E},kEs xs=true->Is V env (n9 xs)->∀p∈dL (dX c env xs),¬V p
 |[],_,_,p,hp=>by simp[dX,dL] at hp
 |x::r,hk,h,p,hp=>by
   simp only[kEs,ae] at hk;simp only[n9] at h;simp only[dX,dL,aG] at hp;rcases hp with hp|hp
   ·exact kZ hk.1 h.left p hp
   ·exact Kr hk.2 h.right p hp
theorem R8.cells {x:AV} (h:R8 V x):∀d∈x.cells,R8 V d:=by
 intro d hd p hp;by_cases ha:∃cs,x=.agg cs
 ·obtain⟨cs,rfl⟩:=ha;exact h p (by simp only[aU]; exact kO.2 ⟨d,hd,hp⟩)
 ·have:x.cells=[x]:=by cases x<;>first|rfl|exact absurd ⟨_,rfl⟩ ha
  rw[this] at hd;simp at hd;subst hd;exact h p hp
theorem Vg {env:Env}:∀{ps:List (Nat × Nat × E)} {zs cs:List AV},kPs ps=true->Is V env (sN ps)->(∀d∈zs,R8 V d)->rO c env zs ps=some cs->∀d∈cs,R8 V d
 |[],zs,cs,_,_,hz,hf=>by simp[rO] at hf; subst hf; exact hz
 |(o,n,x)::r,zs,cs,hk,h,hz,hf=>by
   simp only[kPs,ae] at hk;simp only[sN] at h;simp only[rO] at hf;split at hf
   case isFalse=>cases hf
   refine Vg hk.2 h.right (fun d hd=>?_) hf;unfold kg at hd;simp only[aG] at hd;rcases hd with (hd|hd)|hd
   ·exact hz d (dA hd)
   ·exact (kZ hk.1 h.left).cells d hd
   ·exact hz d (dB hd)
theorem ajM {ag:Option Nat} {cs:List AV} {v:AV} (h:∀d∈cs,R8 V d) (hv:FN ag cs=some v):R8 V v:=by
 unfold FN at hv;split at hv
 ·split at hv
  ·simp at hv; subst hv;intro p hp;simp only[aU] at hp;obtain⟨d,hd,hp⟩:=kO.1 hp;exact h d (dA hd) p hp
  ·cases hv
 ·exact h v (List.mem_of_mem_head? hv)
theorem Wv {ag:Option Nat} {cs:List AV} {v:AV} (h:∀d∈cs,R8 V d) (hv:P9 ag cs=some v):R8 V v:=by
 unfold P9 at hv;split at hv
 ·rename_i u hu;split at hv
  ·cases hv
  ·simp at hv; subst hv; exact ajM h hu
 ·cases hv
theorem R8.nil {v:AV} (h:aU v=[]):R8 V v:=fun p hp=>by rw[h] at hp; simp at hp
theorem afJ {op:BinOp} {x y v:AV} (h:kr op x y=some v):aU v=[]:=by
 unfold kr at h;split at h
 ·split at h
  ·split at h<;>simp at h; subst h; rfl
  ·split at h<;>simp at h; subst h; rfl
  ·split at h
   ·unfold arith at h
    split at h<;>first
     |(simp at h; subst h; rfl)
     |(split at h<;>simp at h<;>(subst h; rfl))
     |cases h
   ·cases h
 ·cases h
theorem af0 {op:UnOp} {x v:AV} (h:We op x=some v):aU v=[]:=by
 unfold We at h;split at h<;>simp at h<;>(subst h; rfl)
theorem TZ {mx:Bool}:∀{r:List AV} {k:IntKind} {a:Int} {v:AV},zX mx (.int k a) r=some v->aU v=[]
 |[],k,a,v,h=>by simp[zX] at h; subst h; rfl
 |y::r,k,a,v,h=>by
   cases y<;>simp only[zX] at h<;>try (cases h; done)
   exact TZ h
theorem T0 {mx:Bool} {l:List AV} {v:AV} (h:uJ mx l=some v):aU v=[]:=by
 unfold uJ at h;split at h
 ·exact TZ h
 ·cases h
theorem akJ {env:Env} {kd:Kd} {v:AV} (hv:WE c env kd=some v) (hk:Ca kd=true) (h:Is V env kd.reads):R8 V v:=by
 cases kd<;>simp only[WE] at hv<;>simp only[Ca,ae] at hk<;>simp only[Kd.reads] at h
 case mv x=>simp at hv; subst hv; exact kZ hk h
 case pick t a b=>
  split at hv
  ·simp at hv; subst hv;split
   ·exact kZ hk.2.1 h.right.left
   ·exact kZ hk.2.2 h.right.right
  ·cases hv
 case build zs ps=>
  split at hv
  ·rename_i cs hf;simp at hv; subst hv
   have hz:∀d∈zs,R8 V d:=fun d hd p hp=>by
    have:=kO.2 ⟨d,hd,hp⟩;rw[fV.1 hk.1] at this;simp at this
   intro p hp;simp only[aU] at hp;obtain⟨d,hd,hp⟩:=kO.1 hp;exact Vg hk.2 h hz hf d hd p hp
  ·cases hv
 case nK x=>
  have ho:=kZ (c:=c) hk h;split at hv
  ·simp at hv; subst hv; exact .nil rfl
  ·simp at hv; subst hv; exact .nil rfl
  ·rename_i e;simp at hv; subst hv;rw[e] at ho; exact ho
  ·cases hv
 case bin=>exact .nil (afJ hv)
 case eq=>split at hv<;>simp at hv; subst hv; exact .nil rfl
 case un=>exact .nil (af0 hv)
 case HX=>split at hv<;>simp at hv; subst hv; exact .nil rfl
 case VP fn a b=>
  split at hv
  ·cases hv
  ·simp at hv; subst hv;intro p hp;simp only[aU,aG] at hp;rcases hp with hp|hp
   ·exact Kr hk.1 h.left p hp
   ·exact Kr hk.2 h.right p hp
 case D5 k x lo hi=>
  have ho:=kZ (c:=c) hk.1 h.left;split at hv
  case h_2=>cases hv
  split at hv
  case h_2=>cases hv
  split at hv
  case h_2=>cases hv
  split at hv
  ·split at hv<;>simp at hv; subst hv; exact .nil rfl
  ·split at hv<;>simp at hv; subst hv; exact .nil rfl
  ·rename_i e;rw[e] at ho;split at hv<;>simp at hv; subst hv
   intro p hp; exact ho p (by simpa[aU] using hp)
  ·split at hv<;>simp at hv; subst hv; exact .nil rfl
  ·cases hv
 case Nd n x hi=>
  cases hi with
  |some y=>simp at hv
  |none=>
  (repeat' split at hv)<;>simp at hv
  obtain⟨_,rfl⟩:=hv;exact .nil rfl
 case fk off x=>
  have ho:=kZ (c:=c) hk h;split at hv
  ·simp at hv; subst hv; exact .nil rfl
  ·simp at hv; subst hv; exact .nil rfl
  ·rename_i e;rw[e] at ho;simp at hv; subst hv;intro p hp; exact ho p (by simpa[aU] using hp)
  ·cases hv
 case fld off ag x=>
  have ho:=kZ (c:=c) hk h;split at hv
  ·rename_i cs e;rw[e] at ho;exact Wv (fun d hd p hp=>ho p (by simp only[aU]; exact kO.2 ⟨d,dB hd,hp⟩)) hv
  ·cases hv
 case fm k x i=>
  have ho:=kZ (c:=c) hk.1 h.left;split at hv
  ·(repeat' split at hv)<;>simp at hv; subst hv; exact .nil rfl
  ·rename_i e;rw[e] at ho
   (repeat' split at hv)<;>simp at hv; subst hv
   intro p hp; exact ho p (by simpa[aU] using hp)
  ·(repeat' split at hv)<;>simp at hv; subst hv; exact .nil rfl
  ·cases hv
 case Ig n k x i=>
  have ho:=kZ (c:=c) hk.1 h.left;split at hv
  case h_2=>cases hv
  split at hv
  ·simp at hv; subst hv; exact .nil rfl
  ·simp at hv; subst hv; exact .nil rfl
  ·rename_i e;rw[e] at ho;simp at hv; subst hv;intro p hp; exact ho p (by simpa[aU] using hp)
  ·cases hv
 case ix n k ag x i=>
  have ho:=kZ (c:=c) hk.1 h.left;split at hv
  case h_2=>cases hv
  split at hv
  ·rename_i cs e;rw[e] at ho;exact Wv (fun d hd p hp=>ho p (by simp only[aU]; exact kO.2 ⟨d,dB hd,hp⟩)) hv
  ·cases hv
 case ixs tab i=>(repeat' split at hv)<;>simp at hv; subst hv; exact .nil rfl
 case ext i x=>
  have ho:=kZ (c:=c) hk h;split at hv
  ·rename_i vs e;rw[e] at ho;split at hv
   ·rename_i u hu;split at hv<;>simp at hv; subst hv
    intro p hp; exact ho p (by simp only[aU]; exact kO.2 ⟨u,bt hu,hp⟩)
   ·cases hv
  ·cases hv
 case len=>split at hv<;>simp at hv; subst hv; exact .nil rfl
 case min=>exact .nil (T0 hv)
 case max=>exact .nil (T0 hv)
 all_goals (cases hv; done)
mutual
theorem Pz:∀x,clean x=true->aU x=[]
 |.eE _ _ _ _,h=>by simp[clean] at h
 |.fP _ _ _ _,h=>by simp[clean] at h
 |.agg cs,h=>by simp only[clean] at h; simp only[aU]; exact DH cs h
 |.dJ cs,h=>by simp only[clean] at h; simp only[aU]; exact DH cs h
 |.func _ _ _,h=>by simp[clean] at h
 |.any,_=>rfl|.undef,_=>rfl|.gq,_=>rfl|.gz,_=>rfl|.dO,_=>rfl
 |.int _ _,_=>rfl|.bool _,_=>rfl|.str _,_=>rfl|.list _ _,_=>rfl|.dV _,_=>rfl|.ptr _ _,_=>rfl|.sl _ _ _ _,_=>rfl|.own _ _,_=>rfl
theorem DH:∀xs,gK xs=true->dL xs=[]
 |[],_=>rfl
 |x::r,h=>by simp only[gK,ae] at h; simp only[dL,Pz x h.1,DH r h.2,List.append_nil]
end
theorem abR {s s1:St} {kd:Kd} {v:AV} {f:Fq} (h:dZ c call kd s=some (v,s1,f)):aU v=[]\/∃ sl bs,f=.wr sl bs\/f=.all:=by
 unfold dZ at h;split at h
 ·rename_i r hi;subst h;obtain⟨sl,bs,e⟩:=E0 hi;exact .inr ⟨sl,bs,e⟩
 split at h
 ·rename_i r hi;subst h;obtain⟨_,_,_,_,_,_,_,_,_,_,_,_,_,_,_,hr,_,_⟩:=z6 hi;exact .inl (Kl _ hr.1)
 unfold ia at h;split at h
 ·rename_i r hi;subst h;exact .inr ⟨[],none,.inr (A0 hi).1⟩
 rcases j9 h with h|h
 case inr=>exact .inl (AQ h).2
 unfold eU at h;split at h
 ·cases h
 split at h
 ·cases h
 split at h
 ·split at h
  ·cases h
  split at h
  case h_2=>cases h
  split at h
  case isFalse=>cases h
  rename_i hr;simp at h;obtain⟨rfl,_,_⟩:=h;simp only[TM,ae] at hr;exact .inl (Pz _ hr.1)
 ·split at h
  ·cases h
  split at h
  case isFalse=>cases h
  split at h
  ·split at h
   case isFalse=>cases h
   split at h
   case h_2=>cases h
   split at h
   case isFalse=>cases h
   rename_i hr;simp only[ai,aP] at h;simp only[ae] at hr;obtain⟨rfl,_,_⟩:=h;exact .inl (fV.1 hr.1.1)
  ·split at h
   case isFalse=>cases h
   split at h
   case h_2=>cases h
   split at h
   case isFalse=>cases h
   rename_i hr;simp at h;obtain⟨rfl,_,_⟩:=h;exact .inl (Kl _ hr)
theorem Ub (f:Nat->Rt):∀(j:Nat) (cs:List AV),bZ cs=false->fw f j cs=cs
 |_,[],_=>rfl
 |j,x::r,h=>by
   cases x with
   |own k xs=>simp[bZ] at h
   |_=>simp only[bZ] at h; simp only[fw,Ub f (j+1) r h]
theorem aeI {x v:AV} {ps:List Rt} {b j:Nat} (h:Aa x v ps=.rc b j):∃k o l,x=.ptr b j/\v=.eE k (.c b j) o l:=by
 unfold Aa at h;split at h
 ·split at h
  ·rename_i hc;obtain⟨rfl,rfl⟩:=hc;cases h;exact⟨_,_,_,rfl,rfl⟩
  ·cases h
 ·cases h
theorem akL {s s1:St} {kd:Kd} {v:AV} {f:Fq} (hv:gH c call s kd=some (v,s1,f)) (hf:calm f=true) (hk:Ca kd=true) (h:Is V s.env kd.reads)
  (hb:∀ps,f=.rd ps->∀b,Rt.c b 0∈ps->∀cs,aO s.H b=some cs->(∀p∈dL cs,¬V p)/\(bZ cs=true->∀j,¬V (.c b j)))
  (Mr:∀b j,f=.rc b j->∀cs c,aO s.H b=some cs->cs[j]?=some c->(∀p∈aU c,¬V p)/\(∀k xs,c=.own k xs->¬V (.c b j))):R8 V v:=by
 have pure:∀{kd:Kd},Ca kd=true->Is V s.env kd.reads->(match WE c s.env kd with
   |some v=>some (v,s,Fq.no)
   |none=>none)=some (v,s1,f)->R8 V v:=by
  intro kd hk h h2;split at h2
  case h_2=>cases h2
  rename_i u hu;simp at h2;obtain⟨rfl,_,_⟩:=h2;exact akJ hu hk h
 have ajt:∀{kd:Kd},dZ c call kd s=some (v,s1,f)->R8 V v:=by
  intro kd h2;rcases abR h2 with e|⟨sl,bs,e|e⟩
  ·exact .nil e
  ·subst e; simp[calm] at hf
  ·subst e; simp[calm] at hf
 cases kd
 case call=>simp only[gH] at hv; exact ajt hv
 case jM=>simp only[gH] at hv; exact ajt hv
 case new=>simp only[gH] at hv; simp at hv; obtain⟨rfl,_,_⟩:=hv; exact .nil rfl
 case box=>simp only[gH] at hv; split at hv<;>simp at hv; obtain⟨rfl,_,_⟩:=hv; exact .nil rfl
 case dK=>simp only[gH] at hv; (repeat' split at hv)<;>simp at hv<;>(obtain⟨rfl,_,_⟩:=hv; exact .nil rfl)
 case KR=>simp only[gH] at hv; (repeat' split at hv)<;>simp at hv<;>(obtain⟨rfl,_,_⟩:=hv; exact .nil rfl)
 case Vv=>simp only[gH] at hv; (repeat' split at hv)<;>simp at hv<;>(obtain⟨rfl,_,_⟩:=hv; exact .nil rfl)
 case app=>simp only[gH] at hv; (repeat' split at hv)<;>simp at hv<;>(obtain⟨rfl,_,_⟩:=hv; exact .nil rfl)
 case st=>simp only[gH] at hv; (repeat' split at hv)<;>simp at hv<;>(obtain⟨rfl,_,_⟩:=hv; exact .nil rfl)
 case copy=>simp only[gH] at hv; (repeat' split at hv)<;>simp at hv<;>(obtain⟨rfl,_,_⟩:=hv; exact .nil rfl)
 case Nd n x hi=>
  simp only[gH] at hv;split at hv
  ·(repeat' split at hv)<;>simp at hv<;>(obtain⟨rfl,_,_⟩:=hv; exact .nil rfl)
  ·exact pure hk h hv
 case ld ag x=>
  simp only[gH] at hv;split at hv
  case h_2=>cases hv
  rename_i u ps hp;split at hv
  case isFalse=>cases hv
  rename_i hl;simp at hv;obtain⟨rfl,rfl,hlab⟩:=hv;by_cases hy:∃b off k o l,bC c s.env x=.ptr b off/\u=.eE k (.c b off) o l
  ·obtain⟨b,off,k,o,l,e,rfl⟩:=hy;rw[e] at hp hlab;have hbc':=Mr b off (by rw[<-hlab]; simp[Aa]);simp only[Dj] at hp;split at hp
   case h_2=>cases hp
   rename_i cs eM;split at hp
   case h_2=>cases hp
   rename_i u' hu;simp at hp;obtain⟨rfl,_⟩:=hp
   have hz:((fw (.c b) 0 cs).drop off)[0]?=some (.eE k (.c b off) o l):=by
    unfold P9 FN at hu;cases ag with
    |some n=>simp only at hu; (repeat' split at hu)<;>simp_all
    |none=>
      simp only at hu;rw[<-yP]
      (repeat' split at hu)<;>simp_all
   rw[br,Nat.add_zero] at hz
   have hg:∀(cs:List AV) (j i:Nat),(fw (.c b) j cs)[i]?=some (.eE k (.c b off) o l)->∃c0,cs[i]?=some c0/\((∃k xs,c0=.own k xs)\/c0=.eE k (.c b off) o l):=by
    intro cs
    induction cs with
    |nil=>intro j i h; simp[fw] at h
    |cons d r ih=>
      intro j i h;cases i with
      |zero=>
        refine⟨d,rfl,?_⟩
        cases d<;>first
         |exact .inl ⟨_,_,rfl⟩
         |(simp[fw] at h; done)
         |(simp[fw] at h; right; simp[h])
      |succ i=>
        obtain⟨c0,h1,h2⟩:=ih (j+1) i (by cases d<;>simpa[fw] using h);exact⟨c0,by simpa using h1,h2⟩
   obtain⟨c0,h1,h2⟩:=hg cs 0 off hz;obtain⟨q1,q2⟩:=hbc' cs c0 eM h1;intro p hp;simp[aU] at hp;subst hp;rcases h2 with h2|h2
   ·obtain⟨k0,xs0,e0⟩:=h2; exact q2 k0 xs0 e0
   ·subst h2; exact q1 _ (by simp[aU])
  have hlab:f=.rd ps:=by
   rw[<-hlab];rcases z8 (bC c s.env x) u ps with e|⟨b,j,e⟩
   ·exact e
   ·obtain⟨k,o,l,e1,e2⟩:=aeI e;exact absurd ⟨b,j,k,o,l,e1,e2⟩ hy
  subst hlab;by_cases hx:∃b off,bC c s.env x=.ptr b off
  ·obtain⟨b,off,e⟩:=hx;rw[e] at hp;simp only[Dj] at hp;split at hp
   case h_2=>cases hp
   rename_i cs eM;split at hp
   case h_2=>cases hp
   rename_i u' hu;simp at hp;obtain⟨rfl,rfl⟩:=hp;by_cases hz:aU u'=[]
   ·exact .nil hz
   obtain⟨b1,b2⟩:=hb _ rfl b (by simp[hz]) cs eM;refine Wv (fun d hd p hp=>?_) hu;have:=kO.2 ⟨d,dB hd,hp⟩;cases ho:bZ cs with
   |false=>rw[Ub _ _ _ ho] at this; exact b1 p this
   |true=>
     rcases Gf this with h3|⟨i,h3⟩
     ·exact b1 p h3
     ·subst h3; exact b2 ho i
  ·refine .nil ?_;unfold ldOK at hl;split at hl
   ·rename_i e; exact absurd ⟨_,_,e⟩ hx
   ·exact fV.1 hl
 all_goals
  simp only[gH] at hv;exact pure hk h hv
end
end Go.Bm

/- What single operations are worth: regions that draw their order are sound. -/
namespace Go.Bm
open Go.Am
section
variable {P:Program} {c:fe} {call:Nat->List AV->Heap->Option (AV × Heap)} {V:Rt->Prop}
theorem eJ.own {s t:St} (h:eJ s t) (p:Rt):aD t p=aD s p:=by
 cases p with
 |s i=>simp only[aD,at_,h.1 i]
 |sc i j=>simp only[aD,at_,h.1 i]
 |c b j=>simp only[aD,at_,h.2]
theorem Seen.of_same {s s0 t:St} {ps:List Rt} (e:eJ s s0) (h:Seen ps s t):Seen ps s0 t:=fun p hp=>⟨by rw[(h p hp).1,e.own],fun b l hb=>by rw[(h p hp).2 b l hb,e.2]⟩
theorem tB.of_same {s s0 t:St} {b j:Nat} (e:eJ s s0) (h:tB b j s t):tB b j s0 t:=fun cs hc=>h cs (by rw[e.2]; exact hc)
theorem akM {s s1:St} {kd:Kd} {v:AV} {n:Nat} (h:gH c call s kd=some (v,s1,.al n)):∃z,s1=⟨s.env,s.H++[z]⟩:=by
 have nc:∀{kd:Kd},dZ c call kd s≠some (v,s1,.al n):=by
  intro kd h;unfold dZ at h;split at h
  ·rename_i r hi;subst h;obtain⟨sl,bs,e|e⟩:=E0 hi<;>cases e
  split at h
  ·rename_i r hi;subst h;obtain⟨b,e⟩:=IG hi;cases e
  unfold ia at h;split at h
  ·rename_i r hi;subst h;obtain⟨e,_⟩:=A0 hi;cases e
  replace h:=(j9 h).resolve_right fun h=>by obtain⟨e,_⟩:=AQ h; cases e
  unfold eU at h
  (repeat' split at h)<;>simp[Bd] at h
  all_goals (obtain⟨_,_,h⟩:=h; revert h; split<;>simp[Bd])
 have ns:∀{s s':St} {k:Nat} {a v:AV} {f:Fq},VO s k a v=some (s',f)->f≠.al n:=by
  intro s s' k a v f h e;have:=Wj h;rw[e] at this;simp[calm] at this
 cases kd<;>simp only[gH] at h
 case new=>simp at h; exact⟨_,h.2.1.symm⟩
 case box=>split at h<;>simp at h; exact⟨_,h.2.1.symm⟩
 case call=>exact absurd h nc
 case jM=>exact absurd h nc
 case st=>
  exfalso;split at h
  ·split at h
   case h_2=>cases h
   rename_i hh;simp only[ai,aP] at h;obtain⟨_,_,h5⟩:=h;split at h5
   ·exact ns hh h5
   ·cases h5
  ·split at h
   case h_2=>cases h
   rename_i hh;simp only[ai,aP] at h;exact ns hh h.2.2
 case ld=>
  exfalso;split at h
  case h_2=>cases h
  split at h
  case isFalse=>cases h
  simp only[ai,aP] at h;obtain⟨_,_,h5⟩:=h;rcases z8 _ _ _ with e|⟨b,j,e⟩<;>rw[e] at h5<;>cases h5
 case KR=>
  split at h
  case h_2=>cases h
  split at h
  case isFalse=>cases h
  split at h
  ·simp at h; exact⟨_,h.2.1.symm⟩
  ·simp at h
 case dK=>
  exfalso
  (repeat' split at h)<;>simp[Bd] at h
  all_goals (obtain⟨_,_,h⟩:=h; revert h; split<;>simp[Bd])
 case copy=>
  exfalso
  (repeat' split at h)<;>simp at h
  obtain⟨_,_,h5⟩:=h;rcases Aq _ _ with e|⟨_,_,_,_,e⟩<;>rw[e] at h5<;>cases h5
 all_goals
  exfalso
  (repeat' split at h)<;>simp at h
theorem OW {i:Nat} {x:AV} {b:Bool} (h:fJ i x=.bool b):x=.bool b:=by
 cases x<;>simp[fJ] at h<;>simp[h]
theorem W0 {i:Nat} {x:AV} (h:fJ i x=.undef):x=.undef:=by
 cases x<;>simp[fJ] at h<;>rfl
theorem ah6:sa c call:=by
 intro s q v s1 f ⟨hk,s0,t1,e0,he,e1⟩ hc
 have op:gH c call s0 q.kd=some (v,t1,f)->(∀t:St,(∀i∈q.reads,fJ i (get t.env i)=fJ i (get s.env i))->HV c call t q=gH c call t q.kd)->∃X,XS c call s q v s1 f X:=by
  intro h Bb;obtain⟨T,k1,k2,k3⟩:=adV h hc;have hr:∀i∈q.kd.reads,i∈q.reads:=fun i hi=>by simp[O.reads,hi]
  refine⟨T,⟨e1.symm.trans ⟨fun i=>by rw[k1]; exact (e0.1 i).symm,by rw[k1]; show s0.H++T=s.H++T; rw[e0.2]⟩,?_,fun t h1 h2 h3=>?_,fun V h1 h2 h2c=>?_⟩⟩
  ·rcases k2 with e|⟨z,e,e2⟩
   ·by_cases hal:∃n,f=.al n
    ·obtain⟨n,rfl⟩:=hal;obtain⟨z,hz⟩:=akM h;rw[k1,e] at hz;simp at hz
    ·exact .inl ⟨e,fun n hn=>hal ⟨n,hn⟩⟩
   ·exact .inr ⟨z,e,by rw[e0.2]; exact e2⟩
  ·refine⟨hk,t,_,eJ.rfl',?_,eJ.rfl'⟩;rw[Bb t h1];exact k3 t (fun i hi=>by rw[h1 i (hr i hi),e0.1]) ⟨fun ps yO=>(h2.1 ps yO).of_same e0,fun b j hf=>(h2.2 b j hf).of_same e0⟩ h3
  ·exact akL h hc hk (fun i hi=>by rw[<-e0.1]; exact h1 i (hr i hi)) (fun ps yO b hp cs hb=>h2 ps yO b hp cs (by rw[e0.2]; exact hb)) fun b j hf cs c0 hb Ls=>h2c b j hf cs c0 (by rw[e0.2]; exact hb) Ls
 have un:f=.no->v=.undef->t1=s0->(∀t:St,(∀i∈q.reads,fJ i (get t.env i)=fJ i (get s.env i))->HV c call t q=some (.undef,t,.no))->∃X,XS c call s q v s1 f X:=by
  intro hf hv ht Bb;subst hf hv ht;refine⟨[],⟨e1.symm.trans ⟨fun i=>(e0.1 i).symm,by show t1.H=s.H++[]; rw[e0.2]; simp⟩,.inl ⟨rfl,fun n h=>by cases h⟩,fun t h1 _ _=>⟨hk,t,t,eJ.rfl',Bb t h1,⟨fun i=>rfl,by simp⟩⟩,fun V _ _ _ p hp=>by simp[aU] at hp⟩⟩
 unfold HV at he;cases hg:q.guard with
 |none=>
   rw[hg] at he;exact op he fun t _=>by unfold HV; rw[hg]
 |some gp=>
   obtain⟨g,want⟩:=gp;rw[hg] at he;simp only at he;have M3:g∈q.reads:=by simp[O.reads,hg]
   split at he
   ·rename_i b hb;split at he
    ·rename_i Xi;refine op he fun t h1=>?_;unfold HV;rw[hg];have iK:get t.env g=.bool b:=OW (by rw[h1 g M3,e0.1 g,hb]; rfl);simp only[iK,Xi,if_true]
    ·rename_i Xi;simp only[ai,aP] at he;refine un he.2.2.symm he.1.symm he.2.1.symm fun t h1=>?_;unfold HV;rw[hg];have iK:get t.env g=.bool b:=OW (by rw[h1 g M3,e0.1 g,hb]; rfl);simp only[iK,Xi,if_false]
   ·rename_i hb;simp only[ai,aP] at he;refine un he.2.2.symm he.1.symm he.2.1.symm fun t h1=>?_;unfold HV;rw[hg];have iK:get t.env g=.undef:=W0 (by rw[h1 g M3,e0.1 g,hb]; rfl);simp only[iK]
   ·cases he

/-! Operations that write a few places -/
mutual
theorem EV {g:AV->AV}:∀x,(∀k p o l,p∈aU x->g (.eE k p o l)=.eE k p o l/\g (.fP k p o l)=.fP k p o l)->cZ g x=x
 |.eE k p o l,h=>by simp only[cZ]; exact (h k p o l (by simp[aU])).1
 |.fP k p o l,h=>by simp only[cZ]; exact (h k p o l (by simp[aU])).2
 |.agg cs,h=>by simp only[cZ]; rw[oT cs (by simpa only[aU] using h)]
 |.dJ cs,h=>by simp only[cZ]; rw[oT cs (by simpa only[aU] using h)]
 |.func f a b,h=>by
   simp only[aU,aG] at h;simp only[cZ]; rw[oT a fun k p o l hp=>h k p o l (.inl hp),oT b fun k p o l hp=>h k p o l (.inr hp)]
 |.any,_=>rfl|.undef,_=>rfl|.gq,_=>rfl|.gz,_=>rfl|.dO,_=>rfl
 |.int _ _,_=>rfl|.bool _,_=>rfl|.str _,_=>rfl|.list _ _,_=>rfl|.dV _,_=>rfl|.ptr _ _,_=>rfl|.sl _ _ _ _,_=>rfl|.own _ _,_=>rfl
theorem oT {g:AV->AV}:∀xs,(∀k p o l,p∈dL xs->g (.eE k p o l)=.eE k p o l/\g (.fP k p o l)=.fP k p o l)->dq g xs=xs
 |[],_=>rfl
 |x::r,h=>by
   simp only[dL,aG] at h;simp only[dq]; rw[EV x fun k p o l hp=>h k p o l (.inl hp),oT r fun k p o l hp=>h k p o l (.inr hp)]
end
theorem Gd {f:Nat->Rt}:∀{cs:List AV} {j l k:Nat} {xs xs':List AV},cs[l]?=some (.own k xs)->xs'.length=xs.length->fw f j (cs.set l (.own k xs'))=fw f j cs
 |[],j,l,k,xs,xs',h,_=>by simp at h
 |x::r,j,0,k,xs,xs',h,hl=>by
   simp at h;subst h;simp only[List.set_cons_zero,fw,hl]
 |x::r,j,l+1,k,xs,xs',h,hl=>by
   have ih:=Gd (f:=f) (j:=j+1) (by simpa using h) hl;rw[List.set_cons_succ];cases x<;>simp only[fw,ih]
theorem Wp {s:St} {p:Rt} {k:Nat} {xs xs':List AV} (h:aD s p=some (k,xs)) (hl:xs'.length=xs.length) (i:Nat):fJ i (get (setAt s p (.own k xs')).env i)=fJ i (get s.env i):=by
 cases p with
 |s j=>
   simp only[setAt,bM];by_cases e:i=j
   ·subst e;rw[if_pos rfl];simp only[aD,at_] at h;split at h
    ·rename_i k2 xs2 e2;simp at h;obtain⟨rfl,rfl⟩:=h;simp at e2;rw[e2];simp only[fJ,hl]
    ·cases h
   ·rw[if_neg e]
 |sc j l=>
   simp only[aD,at_] at h;simp only[setAt];split
   ·rename_i cs eM;rw[eM] at h;simp only[bM];by_cases e:i=j
    ·subst e;rw[if_pos rfl,eM];simp only at h;split at h
     ·rename_i k2 xs2 e2;simp at h;obtain⟨rfl,rfl⟩:=h;simp only[fJ,Gd e2 hl]
     ·cases h
    ·rw[if_neg e]
   ·rfl
 |c b j=>
   simp only[setAt];split<;>rfl
theorem A4 {i:Nat}:∀{l:List Nat},i+m7∈marks l ↔ i∈l
 |[]=>by simp[marks]
 |j::r=>by simp[marks,A4 (l:=r)]
theorem gW {s:St} {p:Rt} {v:AV} {i:Nat} (h:i∉rootOf p):get (setAt s p v).env i=get s.env i:=by
 cases p with
 |s j=>simp only[rootOf,cG] at h; simp only[setAt,bM,if_neg h]
 |sc j l=>
   simp only[rootOf,cG] at h;simp only[setAt];split
   ·simp only[bM,if_neg h]
   ·rfl
 |c b j=>simp only[setAt]; split<;>rfl
theorem uZ {s:St} {p:Rt} {v:AV} {b:Nat} (h:b∉lY p):aO (setAt s p v).H b=aO s.H b:=by
 cases p with
 |s j=>rfl
 |sc j l=>simp only[setAt]; split<;>rfl
 |c d j=>
   simp only[lY,cG] at h;simp only[setAt];split
   ·rw[eF,if_neg (fun e=>h e.1)]
   ·rfl
theorem Jo {s t:St} (h:eJ s t) (p:Rt) (v:AV):eJ (setAt s p v) (setAt t p v):=by
 cases p with
 |s j=>exact⟨fun i=>by simp only[setAt,bM,h.1 i],h.2⟩
 |sc j l=>
   simp only[setAt];rw[h.1 j];split
   ·exact⟨fun i=>by simp only[bM,h.1 i],h.2⟩
   ·exact h
 |c b j=>
   simp only[setAt];rw[h.2];split
   ·exact⟨h.1,rfl⟩
   ·exact h
theorem uY {s:St} {p:Rt} {v u:AV} {d:Nat} (h:d∉rootOf p):eJ (setAt ⟨put s.env d u,s.H⟩ p v) ⟨put (setAt s p v).env d u,(setAt s p v).H⟩:=by
 cases p with
 |s j=>
   simp only[rootOf,cG] at h;refine⟨fun i=>?_,rfl⟩;simp only[setAt,bM];by_cases e:i=j
   ·subst e;have:i≠d:=fun e=>h e.symm;simp[this]
   ·simp[e]
 |sc j l=>
   simp only[rootOf,cG] at h;have hj:j≠d:=fun e=>h e.symm;simp only[setAt,bM,if_neg hj];split
   ·refine⟨fun i=>?_,rfl⟩;simp only[bM];by_cases e:i=j
    ·subst e; simp[hj]
    ·simp[e]
   ·exact eJ.rfl'
 |c b j=>
   simp only[setAt];split
   ·exact eJ.rfl'
   ·exact eJ.rfl'
theorem zQ {s:St} {p:Rt} {y:Nat × List AV} (h:aD s p=some y):∀i∈rootOf p,bX (get s.env i)=true:=by
 intro i hi;obtain⟨k,xs⟩:=y;have h:=cM.1 h;cases p with
 |s j=>
   simp only[rootOf,cG] at hi; subst hi;simp only[at_,ai] at h;rw[h]; rfl
 |sc j l=>
   simp only[rootOf,cG] at hi; subst hi;simp only[at_] at h;split at h
   ·rename_i cs hc;rw[hc];simp only[bX]
    have:∀{cs:List AV} {l:Nat},cs[l]?=some (.own k xs)->bZ cs=true:=by
     intro cs
     induction cs with
     |nil=>intro l h; simp at h
     |cons x r ih=>
       intro l h;cases l with
       |zero=>simp at h; subst h; rfl
       |succ l=>simp at h; cases x<;>simp only[bZ]<;>exact ih h
    exact this h
   ·cases h
 |c b j=>simp[rootOf] at hi
theorem oP {s:St} {p:Rt} {d:Nat} {u:AV} (h:d∉rootOf p):aD ⟨put s.env d u,s.H⟩ p=aD s p:=by
 cases p with
 |s j=>
   simp only[rootOf,cG] at h;have hj:j≠d:=fun e=>h e.symm;simp only[aD,at_,bM,if_neg hj]
 |sc j l=>
   simp only[rootOf,cG] at h;have hj:j≠d:=fun e=>h e.symm;simp only[aD,at_,bM,if_neg hj]
 |c b j=>rfl
structure yI (c:fe) (call:Nat->List AV->Heap->Option (AV × Heap)) (s:St) (kd:Kd) (v:AV) (s1:St) (sl:List Nat) (bs:Option (List Nat)) (V:Rt->Prop):Prop where
 env:∀i,i∉sl->i+m7∉sl->get s1.env i=get s.env i
 hd:∀i,i∉sl->fJ i (get s1.env i)=fJ i (get s.env i)
 keep:∀i,bX (get s.env i)=false->aU (get s.env i)=[]->get s1.env i=get s.env i
 heap:∀l,bs=some l->∀b,b∉l->aO s1.H b=aO s.H b
 v1:∀i,i∉sl->(∀p∈aU (get s.env i),¬V p)/\¬ V (.s i)/\∀ j,¬V (.sc i j)
 v2:∀l,bs=some l->∀b,b∉l->b+m7∉l->∀cs,aO s.H b=some cs->(∀p∈dL cs,¬V p)/\(bZ cs=true->∀j,¬V (.c b j))
 go:∀d u,d∉kd.reads->d∉sl->d+m7∉sl->R8 V u->∃t0 t1 sl',eJ t0 ⟨put s.env d u,s.H⟩/\gH c call t0 kd=some (v,t1,.wr sl' bs)/\(∀i∈sl',i∈sl)/\eJ t1 ⟨put s1.env d u,s1.H⟩
structure XL (c:fe) (call:Nat->List AV->Heap->Option (AV × Heap)) (s:St) (kd:Kd) (v:AV) (s1:St) (sl:List Nat) (bs:Option (List Nat)) (V:Rt->Prop):Prop where
 env:∀i,i∉sl->i+m7∉sl->get s1.env i=get s.env i
 hd:∀i,i∉sl->fJ i (get s1.env i)=fJ i (get s.env i)
 keep:∀i,bX (get s.env i)=false->aU (get s.env i)=[]->get s1.env i=get s.env i
 heap:∀l,bs=some l->∀b,oe b l=false->aO s1.H b=aO s.H b
 cell:∀l,bs=some l->∀b j,b∉l->yG b j∉l->tB b j s s1/\tB b j s1 s
 v1:∀i,i∉sl->(∀p∈aU (get s.env i),¬V p)/\¬ V (.s i)/\∀ j,¬V (.sc i j)
 v2:∀l,bs=some l->∀b,oe b l=false->b+m7∉l->∀cs,aO s.H b=some cs->(∀p∈dL cs,¬V p)/\(bZ cs=true->∀j,¬V (.c b j))
 v3:∀l,bs=some l->∀b j,b∉l->b+m7∉l->yG b j∉l->∀cs c,aO s.H b=some cs->cs[j]?=some c->(∀p∈aU c,¬V p)/\(∀k xs,c=.own k xs->¬V (.c b j))
 go:∀d u,d∉kd.reads->d∉sl->d+m7∉sl->R8 V u->∃t0 t1 sl',eJ t0 ⟨put s.env d u,s.H⟩/\gH c call t0 kd=some (v,t1,.wr sl' bs)/\(∀i∈sl',i∈sl)/\eJ t1 ⟨put s1.env d u,s1.H⟩
theorem Lt:∀{cs:List AV} {j k:Nat} {xs:List AV},cs[j]?=some (.own k xs)->bZ cs=true
 |[],j,k,xs,h=>by simp at h
 |c::r,0,k,xs,h=>by simp at h; subst h; rfl
 |c::r,j+1,k,xs,h=>by
   have:=Lt (cs:=r) (j:=j) (by simpa using h);cases c<;>simp[bZ,this]
theorem yI.up {s s1:St} {kd:Kd} {v:AV} {sl:List Nat} {bs:Option (List Nat)}:(∃V,yI c call s kd v s1 sl bs V)->∃V,XL c call s kd v s1 sl bs V:=by
 rintro⟨V,h⟩;refine⟨V,⟨h.env,h.hd,h.keep,fun l hl b hb=>h.heap l hl b (o7 hb).1,fun l hl b j hb _=>⟨.of_eq (h.heap l hl b hb),.of_eq (h.heap l hl b hb).symm⟩,h.v1,fun l hl b hb=>h.v2 l hl b (o7 hb).1,fun l hl b j h1 h2 _ cs c0 hb hc=>?_,h.go⟩⟩;obtain⟨a1,a2⟩:=h.v2 l hl b h1 h2 cs hb;exact⟨fun p hp=>a1 p (kO.2 ⟨c0,bt hc,hp⟩),fun k xs e=>a2 (Lt (e▸hc)) j⟩
theorem v8 {f:Rt->Bool}:∀{l:List Rt},Aw f l=true ↔ ∃p∈l,f p=true
 |[]=>by simp[Aw]
 |p::r=>by simp[Aw,v8 (l:=r)]
theorem Ma {f:Rt->Bool}:∀{H:Heap} {b:Nat} {cs:List AV},Iq f H=false->aO H b=some cs->∀p∈dL cs,f p=false
 |[],b,cs,_,h=>by simp[aO] at h
 |none::r,b,cs,ha,h=>by
   cases b with
   |zero=>simp[aO] at h
   |succ b=>exact Ma (H:=r) (b:=b) (by simpa[Iq] using ha) (by simpa[aO] using h)
 |some ds::r,b,cs,ha,h=>by
   simp only[Iq,fD] at ha;cases b with
   |zero=>
     simp[aO] at h;subst h;intro p hp;cases hf:f p with
     |false=>rfl
     |true=>rw[v8.2 ⟨p,hp,hf⟩] at ha; simp at ha
   |succ b=>exact Ma (H:=r) (b:=b) ha.2 (by simpa[aO] using h)
theorem vP {p:Rt}:∀{l:List Rt},Ae p l=true ↔ p∈l
 |[]=>by simp[Ae]
 |q::r=>by rw[Ae,gM,decide_eq_true_eq,vP (l:=r),aK]; exact⟨fun h=>h.imp Eq.symm id,fun h=>h.imp Eq.symm id⟩
theorem oq {p:Rt}:∀{e:Env} {i:Nat},Ae p (aU (Am.get e i))=true\/(isRoot p i=true/\Am.get e i≠.any)->i∈nf p e
 |[],i,h=>by simp[Am.get,aU,Ae] at h
 |(j,v)::r,i,h=>by
   simp only[Am.get] at h;simp only[nf];by_cases e:i=j
   ·subst e;simp only[if_true] at h
    have:(Ae p (aU v)||isRoot p i)=true:=by
     rcases h with h|h
     ·simp[h]
     ·simp[h.1]
    rw[if_pos this]; simp
   ·rw[if_neg e] at h;have:=oq h;split
    ·simp[this]
    ·exact this
theorem FJ {p:Rt}:∀{sn:List Nat} {e:Env} {i:Nat},i∈nf p (QV sn e)->mem i sn=false/\(Ae p (aU (Am.get e i))=true\/isRoot p i=true)
 |sn,[],i,h=>by simp[QV,nf] at h
 |sn,(j,v)::r,i,h=>by
   have rec_:∀{sn':List Nat},i∈nf p (QV sn' r)->mem j sn'=true->mem i sn'=false/\(Ae p (aU (Am.get ((j,v)::r) i))=true\/isRoot p i=true):=by
    intro sn' h hj;obtain⟨h1,h2⟩:=FJ h;have kj:i≠j:=fun e=>by rw[e,hj] at h1; cases h1
    exact⟨h1,by simp only[Am.get]; rw[if_neg kj]; exact h2⟩
   unfold QV at h;by_cases hj:mem j sn=true
   ·rw[if_pos hj] at h;exact rec_ h hj
   ·rw[if_neg hj] at h;simp only[nf] at h
    have tail:i∈nf p (QV (j::sn) r)->mem i sn=false/\(Ae p (aU (Am.get ((j,v)::r) i))=true\/isRoot p i=true):=fun h=>by
     obtain⟨h1,h2⟩:=rec_ h (by simp[mem]);unfold mem at h1;split at h1
     ·cases h1
     ·exact⟨h1,h2⟩
    split at h
    ·rename_i hc;rcases aK.1 h with e|h
     ·subst e;refine⟨by simpa using hj,?_⟩;simp only[Am.get,if_true];simpa using hc
     ·exact tail h
    ·exact tail h
theorem nh {p:Rt}:∀{H:Heap} {k b:Nat} {cs:List AV},aO H b=some cs->p∈dL cs->k+b∈sO p k H
 |[],k,b,cs,h,_=>by simp[aO] at h
 |none::r,k,b,cs,h,hp=>by
   cases b with
   |zero=>simp[aO] at h
   |succ b=>
     have:=nh (H:=r) (k:=k+1) (b:=b) (by simpa[aO] using h) hp;simp only[sO]; rwa [show k+(b+1)=k+1+b by omega]
 |some ds::r,k,b,cs,h,hp=>by
   cases b with
   |zero=>
     simp[aO] at h;subst h;simp[sO,vP.2 hp]
   |succ b=>
     have:=nh (H:=r) (k:=k+1) (b:=b) (by simpa[aO] using h) hp;simp only[sO];rw[show k+(b+1)=k+1+b by omega];split
     ·simp[this]
     ·exact this
theorem u5:∀{e:Env} {i:Nat},dt (aU (Am.get e i))=true->i∈dD e
 |[],i,h=>by simp[Am.get,aU,dt] at h
 |(j,v)::r,i,h=>by
   simp only[Am.get] at h;simp only[dD];by_cases e:i=j
   ·subst e;simp only[if_true] at h;rw[if_pos h]; simp
   ·rw[if_neg e] at h;have:=u5 h;split
    ·simp[this]
    ·exact this
theorem Nz:∀{sn:List Nat} {e:Env} {i:Nat},i∈dD (QV sn e)->mem i sn=false/\dt (aU (Am.get e i))=true
 |sn,[],i,h=>by simp[QV,dD] at h
 |sn,(j,v)::r,i,h=>by
   have rec_:∀{sn':List Nat},i∈dD (QV sn' r)->mem j sn'=true->mem i sn'=false/\dt (aU (Am.get ((j,v)::r) i))=true:=by
    intro sn' h hj;obtain⟨h1,h2⟩:=Nz h;have kj:i≠j:=fun e=>by rw[e,hj] at h1; cases h1
    exact⟨h1,by simp only[Am.get]; rw[if_neg kj]; exact h2⟩
   unfold QV at h;by_cases hj:mem j sn=true
   ·rw[if_pos hj] at h;exact rec_ h hj
   ·rw[if_neg hj] at h;simp only[dD] at h
    have tail:i∈dD (QV (j::sn) r)->mem i sn=false/\dt (aU (Am.get ((j,v)::r) i))=true:=fun h=>by
     obtain⟨h1,h2⟩:=rec_ h (by simp[mem]);unfold mem at h1;split at h1
     ·cases h1
     ·exact⟨h1,h2⟩
    split at h
    ·rename_i hc;rcases aK.1 h with e|h
     ·subst e;refine⟨by simpa using hj,?_⟩;simp only[Am.get,if_true];exact hc
     ·exact tail h
    ·exact tail h
theorem Gq:∀{l:List Rt},dt l=true ↔ ∃p∈l,cC p=false
 |[]=>by simp[dt]
 |p::r=>by cases p<;>simp[dt,cC,Gq (l:=r)]
theorem Gp {l:List Rt} (h:dt l=false):∀p∈l,cC p=true:=by
 intro p hp;cases hn:cC p with
 |true=>rfl
 |false=>rw[Gq.2 ⟨p,hp,hn⟩] at h; cases h
theorem p8 (s:St) (i:Nat):get (WO s).env i=get s.env i:=((sr s).1 i).symm
end
end Go.Bm

/- Every operation that writes a few places; regions that draw their order are sound. -/
namespace Go.Bm
open Go.Am
section
variable {P:Program} {c:fe} {call:Nat->List AV->Heap->Option (AV × Heap)} {V:Rt->Prop}
theorem fH {i:Nat} {l m:List Nat} (h:i∉l++m):i∉l/\i∉m:=by simpa using h
theorem tY {p:Rt} {i:Nat}:isRoot p i=true ↔ i∈rootOf p:=by
 cases p<;>simp[isRoot,rootOf,eq_comm]
theorem Iw {x:AV} (h:∀p∈aU x,cC p=true):cZ iX x=x:=EV x fun k p o l hp=>by
 have:=h p hp;cases p<;>simp[cC] at this<;>simp[iX]
theorem EM {l:List Nat}:∀{H H':Heap} {k:Nat} {r:List Nat},dH l k H H'=some r->∀b,k+b∉l->aO H' b=aO H b/\((k+b)+m7∉r->∀cs,aO H b=some cs->bZ cs=false/\dL cs=[])
 |[],[],k,r,_,b,_=>⟨rfl,fun _ cs h=>by simp[aO] at h⟩
 |[],_::_,k,r,h,b,_=>by simp[dH] at h
 |_::_,[],k,r,h,b,_=>by simp[dH] at h
 |x::H,y::H',k,r,h,b,hb=>by
   unfold dH at h;split at h
   case h_2=>cases h
   rename_i r0 h0;cases b with
   |zero=>
     have hm:mem k l=false:=by
      cases hh:mem k l with
      |false=>rfl
      |true=>exact absurd (mem_iff.1 hh) (by simpa using hb)
     rw[hm] at h;simp only[bz,if_false] at h;split at h
     case isFalse=>cases h
     rename_i he;have e:=aib he;subst e;refine⟨rfl,fun hr cs eM=>?_⟩
     have hx:x=some cs:=by
      unfold aO at eM;simp only[List.getElem?_cons_zero] at eM;cases x with
      |none=>simp at eM
      |some d=>simp at eM; rw[eM]
     subst hx;cases hc:jL (some cs) with
     |false=>
       rw[hc] at h;simp at h;subst h;exact absurd (by simp) hr
     |true=>
       simp only[jL,ae,bR] at hc;exact⟨hc.1,fV.1 hc.2⟩
   |succ b=>
     have ih:=EM h0 b (by rw[show k+1+b=k+(b+1) by omega]; exact hb);have e:∀z (G:Heap),aO (z::G) (b+1)=aO G b:=fun z G=>by simp[aO]
     rw[e,e];refine⟨ih.1,fun hr=>ih.2 fun hm=>hr ?_⟩;rw[show k+1+b=k+(b+1) by omega] at hm;split at h
     ·cases h; exact hm
     ·split at h
      ·simp at h;subst h;split
       ·exact hm
       ·exact List.mem_cons_of_mem _ hm
      ·cases h
theorem afc {p:Rt} {k:Nat} {xs:List AV} {x:AV} (h:p∉aU x):cZ (fb p k xs) x=x:=EV x fun k' q o l hq=>by
 have:q≠p:=fun e=>h (e▸hq);constructor<;>simp[fb,this]
theorem ahs {p:Rt} {k:Nat} {xs:List AV} {x:List AV} (h:p∉dL x):dq (fb p k xs) x=x:=oT x fun k' q o l hq=>by
 have:q≠p:=fun e=>h (e▸hq);constructor<;>simp[fb,this]
theorem acd {s:St} {p:Rt} {k:Nat} {xs:List AV} {kd:Kd} {v:AV} (hp:aD s p=some (k,xs))
  (Bb:∀t:St,(∀i∈kd.reads,get t.env i=get s.env i)->aD t p=some (k,xs)->gH c call t kd=some (v,setAt (cE (fb p k xs) t) p (.list k xs),.wr (nf p t.env) (some (lY p++sO p 0 t.H)))) :
  ∃ V,yI c call s kd v (setAt (cE (fb p k xs) s) p (.list k xs)) (nf p s.env) (some (lY p++sO p 0 s.H)) V:=by
 have Ag:=zQ hp;have D8:∀i∈rootOf p,i∈nf p s.env:=fun i hi=>oq (.inr ⟨tY.2 hi,fun e=>by have:=Ag i hi; rw[e] at this; cases this⟩);have oR:∀{i:Nat},i∉nf p s.env->p∉aU (get s.env i)/\i∉rootOf p:=fun{i} hi=>⟨fun e=>hi (oq (.inl (vP.2 e))),fun e=>hi (D8 i e)⟩
 have LH:∀i,p∉aU (get s.env i)->i∉rootOf p->get (setAt (cE (fb p k xs) s) p (.list k xs)).env i=get s.env i:=fun i h1 h2=>by
  rw[gW h2];show get (k8 (fb p k xs) s.env) i=_;rw[dT,afc h1]
 have alI:∀b,b∉lY p++sO p 0 s.H->aO (setAt (cE (fb p k xs) s) p (.list k xs)).H b=aO s.H b:=fun b hb=>by
  rw[uZ fun hm=>hb (XX _ hm)];show aO (fI (fb p k xs) s.H) b=_;rw[fZ];cases eM:aO s.H b with
  |none=>rfl
  |some cs=>
    simp only[dE,ai];refine ahs fun hm=>hb ?_;have:=nh (k:=0) eM hm;exact V3 _ (by simpa using this)
 refine⟨fun q=>q=p,⟨fun i hi _=>?_,fun i hi=>?_,fun i h1 h2=>?_,fun l hl b hb=>?_,fun i hi=>⟨fun q hq e=>?_,fun e=>?_,fun j e=>?_⟩,fun l hl b hb vS cs eM=>⟨fun q hq e=>?_,fun _ j e=>?_⟩,fun d u hd px _ hu=>?_⟩⟩
 ·obtain⟨h1,h2⟩:=oR hi;exact LH i h1 h2
 ·obtain⟨h1,h2⟩:=oR hi;rw[LH i h1 h2]
 ·exact LH i (by rw[h2]; simp) fun hi=>by rw[Ag i hi] at h1; cases h1
 ·cases hl;exact alI b hb
 ·subst e;exact (oR hi).1 hq
 ·subst e;exact (oR hi).2 (by simp[rootOf])
 ·subst e;exact (oR hi).2 (by simp[rootOf])
 ·subst e;cases hl;have:=nh (k:=0) eM hq;exact hb (V3 _ (by simpa using this))
 ·subst e;cases hl;exact hb (XX _ (by simp[lY]))
 ·obtain⟨hd3,hd4⟩:=oR px
  let t0:St:=WO ⟨put s.env d u,s.H⟩
  have UN:eJ t0 ⟨put s.env d u,s.H⟩:=(sr _).symm;have hg:∀i,get t0.env i=if i=d then u else get s.env i:=fun i=>by rw[p8,bM]
  have own:aD t0 p=aD s p:=by rw[<-UN.own p]; exact oP hd4
  have RD:p∉aU u:=fun hm=>hu p hm rfl;refine⟨t0,setAt (cE (fb p k xs) t0) p (.list k xs),nf p t0.env,UN,Bb t0 (fun i hi=>by rw[hg,if_neg]; intro e; subst e; exact hd hi) (own.trans hp),fun i hi=>?_,?_⟩
  ·obtain⟨_,h2⟩:=FJ hi;have:get (put s.env d u) i=get t0.env i:=(p8 ⟨put s.env d u,s.H⟩ i).symm;simp only[this,hg] at h2;rcases h2 with h2|h2
   ·split at h2
    ·exact absurd (vP.1 h2) RD
    ·exact oq (.inl h2)
   ·exact D8 i (tY.1 h2)
  ·have h5:eJ (cE (fb p k xs) t0) ⟨put (cE (fb p k xs) s).env d u,(cE (fb p k xs) s).H⟩:=⟨fun i=>by
    show get (k8 (fb p k xs) t0.env) i=get (put (k8 (fb p k xs) s.env) d u) i;rw[dT,hg,bM,dT];split
    ·exact afc RD
    ·rfl,rfl⟩
   exact (Jo h5 p (.list k xs)).trans (uY hd4)
theorem afX {s s1:St} {kd:Kd} {v:AV} {sl:List Nat} {bs:Option (List Nat)} (iK:∀t,gH c call t kd=dZ c call kd t) (hi:rF c s kd=none) (hl:nY c call s kd=none) (hmv:uI c call s kd=none) (h:eU c call kd s=some (v,s1,.wr sl bs)):∃V,yI c call s kd v s1 sl bs V:=by
 unfold eU at h;split at h
 ·cases h
 rename_i f args ha;split at h
 ·cases h
 rename_i md q hf;split at h
 ·rename_i hm;split at h
  ·cases h
  split at h
  case h_2=>cases h
  split at h
  case isFalse=>cases h
  simp only[ai,aP] at h;obtain⟨_,_,h⟩:=h;split at h<;>cases h
 rename_i hm;split at h
 ·cases h
 rename_i f1 qd M7;split at h
 case isFalse=>cases h
 rename_i hff;split at h
 ·rename_i kb;split at h
  case isFalse=>cases h
  rename_i hp;split at h
  case h_2=>cases h
  rename_i r H' hc;split at h
  case isFalse=>cases h
  rename_i hr;simp only[ai,aP] at h;obtain⟨rfl,rfl,h⟩:=h
  have he:dL args=[]:=by
   cases hb:dL args with
   |nil=>rfl
   |cons x y=>simp[hb] at h
  rw[he] at h M7 hp hc;simp only[eO] at M7 hp hc;simp at h;obtain⟨rfl,rfl⟩:=h
  have off:∀l,gR (gY qd) (dH (gY qd) 0 s.H H')=some l->∀b,b∉l->aO H' b=aO s.H b/\(b+m7∉l->∀cs,aO s.H b=some cs->bZ cs=false/\dL cs=[]):=by
   intro l hl b hb;cases ho:dH (gY qd) 0 s.H H' with
   |none=>rw[ho] at hl; cases hl
   |some r=>
     rw[ho] at hl;have hl:some (gY qd++r)=some l:=hl;cases hl;have vS:=fH hb;have:=EM ho b (by simpa using vS.1);refine⟨this.1,fun h2=>this.2 ?_⟩;have:=(fH h2).2;simpa using this
  refine⟨fun p=>cC p=false,⟨fun i hi _=>?_,fun i hi=>?_,fun i h1 h2=>?_,fun l hl b hb=>?_,fun i hi=>⟨fun p hp=>?_,by simp[cC],fun j=>by simp[cC]⟩,fun l hl b hb vS cs eM=>?_,fun d u hd px _ hu=>?_⟩⟩
  ·simp only[he,eO,dT];refine Iw (Gp ?_);cases hh:dt (aU (get s.env i)) with
   |false=>rfl
   |true=>exact absurd (u5 hh) hi
  ·simp only[he,eO,dT];rw[Iw (Gp ?_)];cases hh:dt (aU (get s.env i)) with
   |false=>rfl
   |true=>exact absurd (u5 hh) hi
  ·simp only[he,eO,dT];exact Iw fun p hp=>by rw[h2] at hp; simp at hp
  ·exact (off l hl b hb).1
  ·have:dt (aU (get s.env i))=false:=by
    cases hh:dt (aU (get s.env i)) with
    |false=>rfl
    |true=>exact absurd (u5 hh) hi
   rw[Gp this p hp]; simp
  ·obtain⟨o1,o2⟩:=(off l hl b hb).2 vS cs eM;exact⟨fun p hp=>(by rw[o2] at hp; cases hp),fun ho=>(by rw[o1] at ho; cases ho)⟩
  ·let t0:St:=WO ⟨put s.env d u,s.H⟩
   have hg:∀i,get t0.env i=if i=d then u else get s.env i:=fun i=>by rw[p8,bM]
   have hH:t0.H=s.H:=rfl
   have hrd:∀i∈kd.reads,get t0.env i=get s.env i:=fun i hi=>by
    rw[hg,if_neg]; intro e; subst e; exact hd hi
   refine⟨t0,⟨k8 iX t0.env,H'⟩,dD t0.env,(sr _).symm,?_,fun i hi=>?_,?_,rfl⟩
   ·rw[iK];unfold dZ;rw[A7 hi,Gc hl];simp only[ia,F9 hmv];apply tj;unfold eU;rw[js (e1:=t0.env) (e2:=s.env) fun i hi=>by rw[hrd i hi],ha];simp only[hf,hm,he,eO,bz,if_false];rw[js (e1:=t0.env) (e2:=s.env) fun i hi=>by rw[hrd i hi],M7];simp only[hff,if_true,kb,hH,hp,hc,hr];simp
    first
     |done
     |rfl
     |(congr 1)
   ·obtain⟨_,h2⟩:=Nz hi;have:get (put s.env d u) i=get t0.env i:=(p8 ⟨put s.env d u,s.H⟩ i).symm;simp only[this,hg] at h2;split at h2
    ·rename_i e;subst e;obtain⟨p,hp,hn⟩:=Gq.1 h2;exact absurd hn (hu p hp)
    ·exact u5 h2
   ·intro i;simp only[he,eO,dT,hg,bM];split
    ·refine Iw fun p hp=>?_;have:=hu p hp;simpa using this
    ·rfl
 ·rename_i kb;split at h
  case isFalse=>cases h
  rename_i IL;split at h
  case h_2=>cases h
  rename_i r H' hc;split at h
  case isFalse=>cases h
  rename_i pq;simp only[ai,aP] at h;obtain⟨rfl,rfl,h⟩:=h;split at h
  ·cases h
  unfold nQ at h;split at h
  case h_2=>cases h
  rename_i p hbr;split at h
  case h_2=>cases h
  rename_i y hp;obtain⟨k,xs⟩:=y;simp only[Fq.wr.injEq] at h;obtain⟨rfl,rfl⟩:=h
  have E5:∀t:St,aD t p=some (k,xs)->eO (dL args) t=setAt (cE (fb p k xs) t) p (.list k xs):=fun t ht=>by
   rw[hbr];simp only[eO,LB,ht]
  rw[E5 s hp];refine acd hp fun t ht hpt=>?_;rw[iK];unfold dZ;rw[A7 hi,Gc hl];simp only[ia,F9 hmv];apply tj;unfold eU;rw[js (e1:=t.env) (e2:=s.env) fun i hi=>by rw[ht i hi],ha];simp only[hf,hm,bz,if_false];rw[E5 t hpt];rw[E5 s hp] at M7
  have hk:getArgs c (setAt (cE (fb p k xs) t) p (.list k xs)).env kd=some (f1,qd):=by
   rw[<-M7];refine js fun i hi=>?_
   have e0:get (cE (fb p k xs) t).env i=get (cE (fb p k xs) s).env i:=by
    show get (k8 (fb p k xs) t.env) i=get (k8 (fb p k xs) s.env) i;rw[dT,dT,ht i hi]
   have e1:get (setAt (cE (fb p k xs) t) p (.list k xs)).env i=get (setAt (cE (fb p k xs) s) p (.list k xs)).env i:=by
    by_cases hr:i∈rootOf p
    ·cases p with
     |s i0=>
       simp[rootOf] at hr; subst hr;simp only[setAt];rw[bM,bM,if_pos rfl,if_pos rfl]
     |sc i0 j=>
       simp[rootOf] at hr; subst hr;simp only[setAt,e0];split
       ·rw[bM,bM,if_pos rfl,if_pos rfl]
       ·exact e0
     |c b j=>simp[rootOf] at hr
    ·rw[gW hr,gW hr]; exact e0
   rw[e1]
  rw[hk];simp only[hff,if_true,kb,bz,if_false,IL,hc,pq];simp[hbr,nQ,hpt]
theorem abf {s s1:St} {k n:Nat} {zs:List AV} {ps:List (Nat × Nat × E)} {v:AV} {sl:List Nat} {bs:Option (List Nat)} (h:gH c call s (.dK k n zs ps)=some (v,s1,.wr sl bs)):∃V,yI c call s (.dK k n zs ps) v s1 sl bs V:=by
 simp only[gH] at h;split at h
 case h_2=>cases h
 rename_i cs hc;split at h
 case isFalse=>cases h
 rename_i hz;simp only[ai,aP] at h;obtain⟨rfl,rfl,h⟩:=h;split at h
 ·cases h
 unfold nQ at h;split at h
 case h_2=>cases h
 rename_i p hbr;split at h
 case h_2=>cases h
 rename_i y hp;obtain⟨k',xs⟩:=y;simp only[Fq.wr.injEq] at h;obtain⟨rfl,rfl⟩:=h
 have E5:∀t:St,aD t p=some (k',xs)->eO (iN c s.env ps) t=setAt (cE (fb p k' xs) t) p (.list k' xs):=fun t ht=>by
  rw[hbr];simp only[eO,LB,ht]
 rw[E5 s hp] at hc ⊢;refine acd hp fun t ht hpt=>?_;have hpb:iN c t.env ps=iN c s.env ps:=s7 fun i hi=>by rw[ht i hi]
 have hk:rO c (setAt (cE (fb p k' xs) t) p (.list k' xs)).env (rep zs n) ps=some cs:=by
  rw[<-hc];refine ub fun i hi=>?_
  have e0:get (cE (fb p k' xs) t).env i=get (cE (fb p k' xs) s).env i:=by
   show get (k8 (fb p k' xs) t.env) i=get (k8 (fb p k' xs) s.env) i;rw[dT,dT,ht i hi]
  have e1:get (setAt (cE (fb p k' xs) t) p (.list k' xs)).env i=get (setAt (cE (fb p k' xs) s) p (.list k' xs)).env i:=by
   by_cases hr:i∈rootOf p
   ·cases p with
    |s i0=>
      simp[rootOf] at hr; subst hr;simp only[setAt];rw[bM,bM,if_pos rfl,if_pos rfl]
    |sc i0 j=>
      simp[rootOf] at hr; subst hr;simp only[setAt,e0];split
      ·rw[bM,bM,if_pos rfl,if_pos rfl]
      ·exact e0
    |c b j=>simp[rootOf] at hr
   ·rw[gW hr,gW hr]; exact e0
  rw[e1]
 simp only[gH,hpb,E5 t hpt,hk,hz,if_true];simp[hbr,nQ,hpt]
theorem Dx {b off k:Nat}:∀{s:St} {v:AV},Me (dw b off k) s v=false->(∀i,∀p∈aU (get s.env i),dw b off k p=false)/\(∀d cs,aO s.H d=some cs->∀p∈dL cs,dw b off k p=false)/\∀ p∈aU v,dw b off k p=false:=by
 intro s v h;simp only[Me,fD] at h;obtain⟨h1,h2,h3⟩:=h;refine⟨fun i p hp=>?_,fun d cs hb=>Ma h3 hb,fun p hp=>?_⟩
 ·cases hh:dw b off k p with
  |false=>rfl
  |true=>rw[VE (i:=i) (v8.2 ⟨p,hp,hh⟩)] at h2; cases h2
 ·cases hh:dw b off k p with
  |false=>rfl
  |true=>rw[v8.2 ⟨p,hp,hh⟩] at h1; cases h1
theorem ahi {p:Rt} {b:Nat} (h:oe b (aaC p)=false):b∉lY p:=by
 cases p with
 |s i=>simp[lY]
 |sc i j=>simp[lY]
 |c d j=>
   have:=(o7 h).2 99999;simp only[aaC,lY,cG] at this ⊢;intro e;subst e;exact this rfl
theorem tB.ZS {b j:Nat} {s t:St} (h:∀cs,aO s.H b=some cs->∃ds,aO t.H b=some ds/\ds[j]?=cs[j]?):tB b j s t:=fun cs hc=>by
 obtain⟨ds,a,e⟩:=h cs hc;exact⟨ds,a,w9 _ e⟩
theorem Wo {s:St} {p:Rt} {k:Nat} {xs xs':List AV} (hp:aD s p=some (k,xs)) (hl:xs'.length=xs.length) (b j:Nat):tB b j s (setAt s p (.own k xs'))/\tB b j (setAt s p (.own k xs')) s:=by
 cases p with
 |s i=>exact⟨.of_eq rfl,.of_eq rfl⟩
 |sc i l=>
   have e:(setAt s (.sc i l) (.own k xs')).H=s.H:=by simp only[setAt]; split<;>rfl
   exact⟨.of_eq (by rw[e]),.of_eq (by rw[e])⟩
 |c d l=>
   have h1:=cM.1 hp;simp only[at_] at h1;split at h1
   case h_2=>cases h1
   rename_i cs eM;have e:(setAt s (.c d l) (.own k xs')).H=s.H.set d (some (cs.set l (.own k xs'))):=by simp only[setAt,eM]
   have hb:∀c,aO (setAt s (.c d l) (.own k xs')).H c=if c=d then some (cs.set l (.own k xs')) else aO s.H c:=fun c=>by
    rw[e,eF];by_cases q:c=d
    ·rw[if_pos ⟨q,by subst q; exact eI eM⟩,if_pos q]
    ·rw[if_neg (fun h=>q h.1),if_neg q]
   by_cases q:b=d
   ·subst q;have lc:=Gd (f:=fun i=>Rt.c b i) (j:=0) h1 hl;refine⟨fun ds px=>⟨_,by rw[hb,if_pos rfl],?_⟩,fun ds px=>⟨cs,eM,?_⟩⟩
    ·rw[eM] at px; cases px;exact congrArg (·[j]?) lc
    ·rw[hb,if_pos rfl] at px; cases px;exact (congrArg (·[j]?) lc).symm
   ·exact⟨.of_eq (by rw[hb,if_neg q]),.of_eq (by rw[hb,if_neg q])⟩
theorem ami {s s1:St} {k:Nat} {x y:E} {v:AV} {sl:List Nat} {bs:Option (List Nat)} (h:gH c call s (.st k x y)=some (v,s1,.wr sl bs)):∃V,XL c call s (.st k x y) v s1 sl bs V:=by
 have hcg:∀{d:Nat} {u:AV} {e:Env},(∀i,get e i=if i=d then u else get s.env i)->d∉(Kd.st k x y).reads->bC c e x=bC c s.env x/\bC c e y=bC c s.env y:=by
  intro d u e he hd;simp only[Kd.reads,aG,not_or] at hd;exact⟨cJ fun i hi=>by rw[he,if_neg]; intro e; subst e; exact hd.1 hi,cJ fun i hi=>by rw[he,if_neg]; intro e; subst e; exact hd.2 hi⟩
 have Mq:∀{d:Nat} {u:AV},∀i,get (put s.env d u) i=if i=d then u else get s.env i:=fun i=>bM _ _ _ _;simp only[gH] at h;split at h
 ·rename_i k' p i off hx;split at h
  case h_2=>cases h
  rename_i s2 f hh;simp only[ai,aP] at h;obtain⟨rfl,rfl,h⟩:=h
  have he:aU (bC c s.env y)=[]:=by
   cases hb:aU (bC c s.env y) with
   |nil=>rfl
   |cons a b=>rw[hb] at h; simp at h
  rw[he] at h hh;simp at h;subst h;rw[show eO [] s=s from rfl,hx] at hh;simp only[VO] at hh;split at hh
  case h_2=>cases hh
  rename_i k2 xs hp;split at hh
  case isFalse=>cases hh
  rename_i hk;split at hh
  case h_2=>cases hh
  rename_i z hz;by_cases hc:(bC c s.env y).cells.length=k/\off+k<=k'/\U7 (bC c s.env y).cells=true
  case neg=>rw[if_neg hc] at hh; cases hh
  rw[if_pos hc] at hh;simp only[ai,aP,Fq.wr.injEq] at hh;obtain⟨rfl,rfl,rfl⟩:=hh;have Ag:=zQ hp;refine⟨fun _=>False,⟨fun i _ hi=>gW fun hm=>hi (A4.2 hm),fun i _=>Wp (hk▸hp) (bI ..) i,(fun i h1 h2=>gW fun hi=>by rw[Ag i hi] at h1; cases h1),fun l hl b hb=>(by cases hl; exact uZ (ahi hb)),fun l hl b j hb hbj=>(by cases hl; exact Wo (hk▸hp) (bI ..) b j),fun i hi=>⟨fun _ _=>id,id,fun _=>id⟩,fun l hl b hb vS cs eM=>⟨fun _ _=>id,fun _ _=>id⟩,fun l hl b j _ _ _ cs c0 _ _=>⟨fun _ _=>id,fun _ _ _=>id⟩,fun d u hd _ hds0 hu=>?_⟩⟩;have px:d∉rootOf p:=fun hm=>hds0 (A4.2 hm);obtain⟨e1,e2⟩:=hcg (Mq (d:=d) (u:=u)) hd;refine⟨⟨put s.env d u,s.H⟩,_,marks (rootOf p),eJ.rfl',?_,fun i hi=>hi,uY px⟩;simp only[gH,e1,hx,e2,he];rw[show eO [] ⟨put s.env d u,s.H⟩=(⟨put s.env d u,s.H⟩:St) from rfl,e1,hx,e2];simp only[VO,oP px,hp,hk,if_true,hz];rw[if_pos hc];simp
 ·rename_i hnp;split at h
  case h_2=>cases h
  rename_i s2 f hh;simp only[ai,aP] at h;obtain⟨rfl,rfl,rfl⟩:=h;unfold VO at hh;split at hh
  ·rename_i b off hx;unfold Bv at hh;split at hh
   case h_2=>cases hh
   rename_i cs hb;split at hh
   case isFalse=>cases hh
   rename_i hc;split at hh
   ·split at hh
    ·split at hh<;>simp at hh
    ·cases hh
   ·rename_i M6;simp only[ai,aP,Fq.wr.injEq] at hh;obtain⟨rfl,rfl,rfl⟩:=hh
    have aaD:bZ ((cs.drop off).take k)=true->Me (dw b off k) s (bC c s.env y)=false:=fun ho=>by
     rw[ho] at M6; simpa using M6
    apply yI.up;refine⟨fun p=>bZ ((cs.drop off).take k)=true/\dw b off k p=true,⟨fun i hi _=>rfl,fun i hi=>rfl,fun i h1 h2=>rfl,fun l hl d hd=>?_,fun i hi=>⟨fun p hp hV=>?_,fun hV=>by simp[dw] at hV,fun j hV=>by simp[dw] at hV⟩,fun l hl d hd DA ds px=>⟨fun p hp hV=>?_,fun _ j hV=>?_⟩,fun d u hd px _ hu=>?_⟩⟩
    ·cases hl;have:d≠b:=by simpa using hd
     show aO (s.H.set b _) d=aO s.H d;rw[eF,if_neg (fun e=>this e.1)]
    ·rw[(Dx (aaD hV.1)).1 i p hp] at hV; cases hV.2
    ·rw[(Dx (aaD hV.1)).2.1 d ds px p hp] at hV; cases hV.2
    ·cases hl;have:d≠b:=by simpa using hd
     simp[dw,this] at hV
    ·let t0:St:=WO ⟨put s.env d u,s.H⟩
     have hg:∀i,get t0.env i=if i=d then u else get s.env i:=fun i=>by rw[p8,bM]
     have hH:t0.H=s.H:=rfl;obtain⟨e1,e2⟩:=hcg hg hd;refine⟨t0,⟨t0.env,s.H.set b (some (kg cs off (bC c s.env y).cells))⟩,[],(sr _).symm,?_,fun i hi=>hi,(sr _).symm.1,rfl⟩
     have ant:(bZ ((cs.drop off).take k)&&Me (dw b off k) t0 (bC c s.env y))=false:=by
      cases ho:bZ ((cs.drop off).take k) with
      |false=>rfl
      |true=>
        obtain⟨n1,n2,n3⟩:=Dx (aaD ho)
        have nR:∀{l:List Rt},(∀p∈l,dw b off k p=false)->Aw (dw b off k) l=false:=by
         intro l hl;cases hh:Aw (dw b off k) l with
         |false=>rfl
         |true=>obtain⟨p,hp,hq⟩:=v8.1 hh; rw[hl p hp] at hq; cases hq
        have h0:=aaD ho;simp only[Me,fD] at h0;simp only[Me,Bool.true_and,fD];refine⟨h0.1,?_,by rw[hH]; exact h0.2.2⟩;cases hh:Mc (dw b off k) t0.env with
        |false=>rfl
        |true=>
          obtain⟨i,_,h2⟩:=Mb hh;have:get (put s.env d u) i=get t0.env i:=(p8 ⟨put s.env d u,s.H⟩ i).symm;simp only[this,hg] at h2;split at h2
          ·obtain⟨p,hp,hq⟩:=v8.1 h2;exact absurd ⟨ho,hq⟩ (hu p hp)
          ·rw[nR (n1 i)] at h2; cases h2
     simp only[gH,e1,hx,e2,VO,Bv,hH,hb];rw[if_pos hc];simp only[ant,bz,if_false]
  ·rename_i k2 p2 i2 off2 e1;exact absurd e1 (hnp k2 p2 i2 off2)
  ·cases hh
theorem Jq {q:Rt}:∀{l:List Rt},q∈l->∀i∈rootOf q,i∈Cj l
 |[],h,i,_=>by simp at h
 |r::l,h,i,hi=>by
   simp only[Cj,aG];rcases aK.1 h with e|e
   ·subst e; exact .inl hi
   ·exact .inr (Jq e i hi)
theorem afm {s t:St} {k:Nat} {x:AV} (h:∀p∈aU x,aD t p=aD s p):cont t k x=cont s k x:=by
 cases x<;>try rfl
 case eE k' p off len=>simp only[cont]; rw[h p (by simp[aU])]
 case own k' xs=>cases xs<;>rfl
theorem acj {p:Rt} {x:AV} (h:p∉aU x):cZ (sw p) x=x:=EV x fun k q o l hq=>by
 have:q≠p:=fun e=>h (e▸hq);simp[sw,this]
theorem X7 {p:Rt} {x:List AV} (h:p∉dL x):dq (sw p) x=x:=oT x fun k q o l hq=>by
 have:q≠p:=fun e=>h (e▸hq);simp[sw,this]
theorem LX {p:Rt} {b:Nat} {m:List Nat} (h:oe b (cellOf p++m)=false):b∉lY p:=by
 intro hb;cases p with
 |s i=>simp[lY] at hb
 |sc i j=>simp[lY] at hb
 |c d j=>
   simp[lY] at hb;subst hb;exact (o7 h).2 j (by simp[cellOf])
theorem ajC {s s1:St} {k:Nat} {x y:E} {v:AV} {sl:List Nat} {bs:Option (List Nat)} (h:gH c call s (.app k x y)=some (v,s1,.wr sl bs)):∃V,XL c call s (.app k x y) v s1 sl bs V:=by
 simp only[gH] at h;split at h
 case h_2=>cases h
 rename_i ys hy;split at h
 case isFalse=>cases h
 rename_i hl;split at h
 ·split at h<;>simp at h
 case h_3=>cases h
 rename_i k' p len hx;split at h
 case h_2=>cases h
 rename_i k2 xs hp;split at h
 case isFalse=>cases h
 rename_i hc;simp only[ai,aP,Fq.wr.injEq] at h;obtain⟨rfl,rfl,rfl,rfl⟩:=h;have Ag:=zQ hp;have D8:∀i∈rootOf p,i∈nf p s.env:=fun i hi=>oq (.inr ⟨tY.2 hi,fun e=>by have:=Ag i hi; rw[e] at this; cases this⟩);have oR:∀{i:Nat},i∉nf p s.env->p∉aU (get s.env i)/\i∉rootOf p:=fun{i} hi=>⟨fun e=>hi (oq (.inl (vP.2 e))),fun e=>hi (D8 i e)⟩
 have LH:∀i,p∉aU (get s.env i)->i∉rootOf p->get (setAt (cE (sw p) s) p .any).env i=get s.env i:=fun i h1 h2=>by
  rw[gW h2];show get (k8 (sw p) s.env) i=_;rw[dT,acj h1]
 refine⟨fun q=>q=p,⟨fun i hi _=>?_,fun i hi=>?_,fun i h1 h2=>?_,fun l hl b hb=>?_,fun l hl b j hb hbj=>?_,fun i hi=>⟨fun q hq e=>?_,fun e=>?_,fun j e=>?_⟩,fun l hl b hb vS cs eM=>⟨fun q hq e=>?_,fun _ j e=>?_⟩,fun l hl b j hb vS hbj cs c0 eM Ls=>⟨fun q hq e=>?_,fun k0 xs0 e0 e=>?_⟩,fun d u hd px hds2 hu=>?_⟩⟩
 ·obtain⟨h1,h2⟩:=oR (fH hi).1;exact LH i h1 h2
 ·obtain⟨h1,h2⟩:=oR (fH hi).1;rw[LH i h1 h2]
 ·exact LH i (by rw[h2]; simp) fun hi=>by rw[Ag i hi] at h1; cases h1
 ·cases hl;have Cb:b∉lY p:=LX hb;have vS:=(fH (o7 hb).1).2;rw[uZ Cb];show aO (fI (sw p) s.H) b=_;rw[fZ];cases eM:aO s.H b with
  |none=>rfl
  |some cs=>
    simp only[dE,ai];refine X7 fun hm=>vS ?_;have:=nh (k:=0) eM hm;simpa using this
 ·cases hl;obtain⟨Cb,vS⟩:=fH hb;obtain⟨Xb,_⟩:=fH hbj
  have hsw:∀cs,aO s.H b=some cs->dq (sw p) cs=cs:=fun cs eM=>X7 fun hm=>vS (by
   have:=nh (k:=0) eM hm;simpa using this)
  have hn:aO s.H b=none->aO (setAt (cE (sw p) s) p .any).H b=none:=fun hn=>by
   cases p with
   |s i=>show aO (fI (sw _) s.H) b=none; rw[fZ,hn]; rfl
   |sc i l=>
     simp only[setAt];split<;>(show aO (fI (sw _) s.H) b=none; rw[fZ,hn]; rfl)
   |c d l=>
     simp only[setAt];split
     ·rename_i cs eM;have hcs':aO (fI (sw (.c d l)) s.H) d=some cs:=eM;show aO ((fI (sw (.c d l)) s.H).set d _) b=none;rw[eF];by_cases e:b=d
      ·subst e; rw[fZ,hn] at hcs'; cases hcs'
      ·rw[if_neg (fun h=>e h.1),fZ,hn]; rfl
     ·show aO (fI (sw _) s.H) b=none; rw[fZ,hn]; rfl
  have hs:∀cs,aO s.H b=some cs->∃ds,aO (setAt (cE (sw p) s) p .any).H b=some ds/\ds[j]?=cs[j]?:=fun cs eM=>by
   have hm:aO (fI (sw p) s.H) b=some cs:=by rw[fZ,eM,dE,hsw cs eM]
   cases p with
   |s i=>exact⟨cs,hm,rfl⟩
   |sc i l=>
     simp only[setAt];split<;>exact⟨cs,hm,rfl⟩
   |c d l=>
     simp only[setAt];split
     ·rename_i es hes;have hes':aO (fI (sw (.c d l)) s.H) d=some es:=hes;show ∃ds,aO ((fI (sw (.c d l)) s.H).set d _) b=some ds/\_;rw[eF];by_cases e:b=d
      ·subst e;rw[hm] at hes';cases hes';refine⟨cs.set l .any,by rw[if_pos ⟨rfl,eI hm⟩],?_⟩;rw[List.getElem?_set_ne];intro e2;subst e2;exact Xb (by simp[cellOf])
      ·rw[if_neg (fun h=>e h.1)];exact⟨cs,hm,rfl⟩
     ·exact⟨cs,hm,rfl⟩
  refine⟨.ZS hs,.ZS fun ds px=>?_⟩;cases eM:aO s.H b with
  |none=>rw[hn eM] at px; cases px
  |some cs=>
    obtain⟨ds',h1,h2⟩:=hs cs eM;rw[h1] at px;cases px;exact⟨cs,rfl,h2.symm⟩
 ·subst e;exact (oR (fH hi).1).1 hq
 ·subst e;exact (oR (fH hi).1).2 (by simp[rootOf])
 ·subst e;exact (oR (fH hi).1).2 (by simp[rootOf])
 ·subst e;cases hl;obtain⟨Cb,vS⟩:=fH (o7 hb).1;have:=nh (k:=0) eM hq;exact vS (by simpa using this)
 ·subst e;cases hl;exact LX hb (by simp[lY])
 ·subst e;cases hl;obtain⟨Cb,vS⟩:=fH hb;have:=nh (k:=0) eM (kO.2 ⟨c0,bt Ls,hq⟩);exact vS (by simpa using this)
 ·subst e;cases hl;exact (fH hbj).1 (by simp[cellOf])
 ·have hd1:=(fH px).1;have DA:d∉Cj (aU (bC c s.env y)):=fun hm=>(fH hds2).2 (A4.2 hm);obtain⟨hd3,hd4⟩:=oR hd1
  let t0:St:=WO ⟨put s.env d u,s.H⟩
  have UN:eJ t0 ⟨put s.env d u,s.H⟩:=(sr _).symm;have hg:∀i,get t0.env i=if i=d then u else get s.env i:=fun i=>by rw[p8,bM]
  have hH:t0.H=s.H:=rfl;simp only[Kd.reads,aG,not_or] at hd;have e1:bC c t0.env x=bC c s.env x:=cJ fun i hi=>by rw[hg,if_neg]; intro e; subst e; exact hd.1 hi
  have e2:bC c t0.env y=bC c s.env y:=cJ fun i hi=>by rw[hg,if_neg]; intro e; subst e; exact hd.2 hi
  have own:∀q,d∉rootOf q->aD t0 q=aD s q:=fun q hq=>by rw[<-UN.own q]; exact oP hq
  have e3:cont t0 k (bC c s.env y)=cont s k (bC c s.env y):=afm fun q hq=>own q fun hr=>DA (Jq hq d hr);have RD:p∉aU u:=fun hm=>hu p hm rfl;refine⟨t0,setAt (cE (sw p) t0) p .any,nf p t0.env++marks (Cj (aU (bC c s.env y))),UN,?_,fun i hi=>?_,?_⟩
  ·simp only[gH,e1,e2,e3,hy,hl,if_true,hx,own p hd4,hp];rw[if_pos hc];rfl
  ·rcases aG.1 hi with hi|hi
   ·obtain⟨_,h2⟩:=FJ hi;have:get (put s.env d u) i=get t0.env i:=(p8 ⟨put s.env d u,s.H⟩ i).symm;simp only[this,hg] at h2;refine aG.2 (.inl ?_);rcases h2 with h2|h2
    ·split at h2
     ·exact absurd (vP.1 h2) RD
     ·exact oq (.inl h2)
    ·exact D8 i (tY.1 h2)
   ·exact aG.2 (.inr hi)
  ·have h5:eJ (cE (sw p) t0) ⟨put (cE (sw p) s).env d u,(cE (sw p) s).H⟩:=⟨fun i=>by
    show get (k8 (sw p) t0.env) i=get (put (k8 (sw p) s.env) d u) i;rw[dT,hg,bM,dT];split
    ·exact acj RD
    ·rfl,rfl⟩
   exact (Jo h5 p .any).trans (uY hd4)
theorem ajB {s s1:St} {f:Nat} {x:E} {es:List E} {g:Nat->List AV->List AV->Option (List AV)} {v:AV} {sl:List Nat} {bs:Option (List Nat)} (hi:c.inp f=none) (Sm:c.eat f=some g) (h:Xs s g (bC c s.env x) (dX c s.env es)=some (v,s1,.wr sl bs)):∃V,XL c call s (.call f (x::es)) v s1 sl bs V:=by unfold Xs at h;cases h
theorem ajA {s s1:St} {kd:Kd} {v:AV} {sl:List Nat} {bs:Option (List Nat)} (hni:∀f x es,kd=.call f (x::es)->c.inp f≠none) (iK:∀t,gH c call t kd=dZ c call kd t) (h:rF c s kd=some (some (v,s1,.wr sl bs))):∃V,yI c call s kd v s1 sl bs V:=by
 have h0:=h;unfold rF at h;split at h
 case h_2=>cases h
 rename_i f x es;split at h
 case h_1=>
  rename_i hin;exact absurd hin (hni _ _ _ rfl)
 rename_i g Sm;simp only[ai] at h;split at h
 case h_4=>cases h
 case h_3=>
  exfalso
  (repeat' split at h)<;>simp at h
 ·rename_i k hx;split at h
  case isFalse=>cases h
  rename_i pq;split at h
  case h_2=>cases h
  rename_i ys res M3;simp only[ai,aP,Fq.wr.injEq] at h;obtain⟨rfl,rfl,rfl,rfl⟩:=h;refine⟨fun _=>False,⟨fun i hi _=>rfl,fun i hi=>rfl,fun i h1 h2=>rfl,fun l hl b hb=>rfl,fun i hi=>⟨fun _ _=>id,id,fun _=>id⟩,fun l hl b hb vS cs eM=>⟨fun _ _=>id,fun _ _=>id⟩,fun d u hd px _ hu=>?_⟩⟩;have Mq:∀i,get (put s.env d u) i=if i=d then u else get s.env i:=fun i=>bM _ _ _ _;simp only[Kd.reads,n9,aG,not_or] at hd;have e1:bC c (put s.env d u) x=bC c s.env x:=cJ fun i hi=>by rw[Mq,if_neg]; intro e; subst e; exact hd.1 hi
  have e2:dX c (put s.env d u) es=dX c s.env es:=iF fun i hi=>by rw[Mq,if_neg]; intro e; subst e; exact hd.2 hi
  refine⟨⟨put s.env d u,s.H⟩,⟨put s.env d u,s.H⟩,[],eJ.rfl',?_,fun i hi=>hi,eJ.rfl'⟩;rw[iK];unfold dZ rF;simp only[Sm,e1,hx,e2];rw[if_pos pq];simp only[M3]
 rename_i k p len hx;split at h
 case h_2=>cases h
 rename_i k' xs hp;split at h
 case isFalse=>cases h
 rename_i hc;split at h
 case h_2=>cases h
 rename_i ys res M3;simp only[ai,aP,Fq.wr.injEq] at h;obtain⟨rfl,rfl,rfl,rfl⟩:=h;have Ag:=zQ hp;refine⟨fun _=>False,⟨fun i hi _=>gW hi,(fun i hi=>by rw[gW hi]),(fun i h1 h2=>gW fun hi=>by rw[Ag i hi] at h1; cases h1),fun l hl b hb=>(by cases hl; exact uZ hb),fun i hi=>⟨fun _ _=>id,id,fun _=>id⟩,fun l hl b hb vS cs eM=>⟨fun _ _=>id,fun _ _=>id⟩,fun d u hd px _ hu=>?_⟩⟩;have Mq:∀i,get (put s.env d u) i=if i=d then u else get s.env i:=fun i=>bM _ _ _ _;simp only[Kd.reads,n9,aG,not_or] at hd;have e1:bC c (put s.env d u) x=bC c s.env x:=cJ fun i hi=>by rw[Mq,if_neg]; intro e; subst e; exact hd.1 hi
 have e2:dX c (put s.env d u) es=dX c s.env es:=iF fun i hi=>by rw[Mq,if_neg]; intro e; subst e; exact hd.2 hi
 refine⟨⟨put s.env d u,s.H⟩,_,rootOf p,eJ.rfl',?_,fun i hi=>hi,uY px⟩;rw[iK];unfold dZ rF;simp only[Sm,e1,hx,oP px,hp,e2];rw[if_pos hc];simp only[M3]
theorem afW {s s1:St} {k:Nat} {x y:E} {v:AV} {sl:List Nat} {bs:Option (List Nat)} (h:gH c call s (.copy k x y)=some (v,s1,.wr sl bs)):∃V,yI c call s (.copy k x y) v s1 sl bs V:=by
 have iK:∀t,gH c call t (.copy k x y)=match bC c t.env x with
   |.eE k' p off n=>if n=0 then (match cont t k (bC c t.env y) with
     |some ys=>if k'=k/\bG (aI ys)=true then some (.int .i64 0,t,.all) else none
     |none=>none) else match aD t p,cont t k (bC c t.env y) with
     |some (A6,xs),some ys=>if k'=k/\A6=k/\off+n<=xs.length/\bG (aI ys)=true then some (.int .i64 (min ys.length n:Nat),setAt t p (.own k (kg xs off (ys.take (min ys.length n)))),Vp p (bC c t.env y)) else none
     |_,_=>none
   |_=>none:=fun t=>rfl
 rw[iK] at h;split at h
 case h_2=>cases h
 rename_i k' p off n hx;split at h
 ·exfalso
  (repeat' split at h)<;>simp at h
 rename_i hn;split at h
 case h_2=>cases h
 rename_i A6 xs ys hp hy;split at h
 case isFalse=>cases h
 rename_i hc;simp only[ai,aP] at h;obtain⟨rfl,rfl,hl⟩:=h;rcases Aq p (bC c s.env y) with e|⟨ky,oy,ly,ey,e⟩
 ·rw[e] at hl; cases hl
 rw[e] at hl;simp only[Fq.wr.injEq] at hl;obtain⟨rfl,rfl⟩:=hl;have Ag:=zQ hp;refine⟨fun _=>False,⟨fun i hi _=>gW hi,(fun i hi=>by rw[gW hi]),(fun i h1 h2=>gW fun hi=>by rw[Ag i hi] at h1; cases h1),fun l hl b hb=>(by cases hl; exact uZ hb),fun i hi=>⟨fun _ _=>id,id,fun _=>id⟩,fun l hl b hb vS cs eM=>⟨fun _ _=>id,fun _ _=>id⟩,fun d u hd px _ hu=>?_⟩⟩;have Mq:∀i,get (put s.env d u) i=if i=d then u else get s.env i:=fun i=>bM _ _ _ _;simp only[Kd.reads,aG,not_or] at hd;have e1:bC c (put s.env d u) x=bC c s.env x:=cJ fun i hi=>by rw[Mq,if_neg]; intro e; subst e; exact hd.1 hi
 have e2:bC c (put s.env d u) y=bC c s.env y:=cJ fun i hi=>by rw[Mq,if_neg]; intro e; subst e; exact hd.2 hi
 have e3:cont (⟨put s.env d u,s.H⟩:St) k (bC c s.env y)=cont s k (bC c s.env y):=by
  rw[ey];simp only[cont,oP px]
 refine⟨⟨put s.env d u,s.H⟩,_,rootOf p,eJ.rfl',?_,fun i hi=>hi,uY px⟩;rw[iK];simp only[e1,hx,oP px,hp,e2,e3,hy];rw[if_neg hn,if_pos hc,e]
theorem afV {s s1:St} {kd:Kd} {v:AV} {sl:List Nat} {bs:Option (List Nat)} (iK:∀t,gH c call t kd=dZ c call kd t) (h:rF c s kd=some (some (v,s1,.wr sl bs))):∃V,XL c call s kd v s1 sl bs V:=by
 by_cases hex:∃f x es,kd=.call f (x::es)/\c.inp f=none
 case neg=>
  exact yI.up (ajA (fun f x es e hn=>hex ⟨f,x,es,e,hn⟩) iK h)
 case pos=>
  obtain⟨f,x,es,rfl,hin⟩:=hex;simp only[rF,hin] at h;split at h
  ·cases h
  ·rename_i g Sm;simp only[ai] at h;exact ajB hin Sm h
theorem Ss {s s1:St} {kd:Kd} {v:AV} {sl:List Nat} {bs:Option (List Nat)} (iK:∀t,gH c call t kd=dZ c call kd t) (h:gH c call s kd=some (v,s1,.wr sl bs)):∃V,XL c call s kd v s1 sl bs V:=by
 rw[iK] at h;unfold dZ at h;cases hi:rF c s kd with
 |none=>
   rw[hi] at h;cases hl:nY c call s kd with
   |none=>
     rw[hl] at h;simp only[ia] at h;cases hm:uI c call s kd with
     |none=>
       rw[hm] at h;replace h:=(j9 h).resolve_right fun h=>by obtain⟨e,_⟩:=AQ h; cases e
       exact yI.up (afX iK hi hl hm h)
     |some r=>
       rw[hm] at h;simp only at h;subst h;obtain⟨e,_⟩:=A0 hm;cases e
   |some r=>
     rw[hl] at h;simp only at h;subst h;obtain⟨b,e⟩:=IG hl;cases e
 |some r=>
   rw[hi] at h;simp only at h;subst h;exact afV iK hi
theorem wrOp {s s1:St} {kd:Kd} {v:AV} {sl:List Nat} {bs:Option (List Nat)} (h:gH c call s kd=some (v,s1,.wr sl bs)):∃V,XL c call s kd v s1 sl bs V:=by
 cases kd
 case call=>exact Ss (fun _=>rfl) h
 case jM=>exact Ss (fun _=>rfl) h
 case st=>exact ami h
 case app=>exact ajC h
 case copy=>exact yI.up (afW h)
 case dK=>exact yI.up (abf h)
 case ld=>
  exfalso;simp only[gH] at h;split at h
  case h_2=>cases h
  split at h
  case isFalse=>cases h
  simp only[ai,aP] at h;obtain⟨_,_,h5⟩:=h;rcases z8 _ _ _ with e|⟨b,j,e⟩<;>rw[e] at h5<;>cases h5
 all_goals
  exfalso;simp only[gH] at h
  (repeat' split at h)<;>simp at h
theorem amj:Fy c call:=by
 intro s q v s1 sl bs ⟨hk,s0,t1,e0,he,e1⟩
 have op:gH c call s0 q.kd=some (v,t1,.wr sl bs)->(∀t:St,(∀i∈q.reads,get t.env i=get s.env i)->HV c call t q=gH c call t q.kd)->∃V,WrEv c call s q v s1 sl bs V:=by
  intro h Bb;obtain⟨V,hV⟩:=wrOp h;have hr:∀i∈q.kd.reads,i∈q.reads:=fun i hi=>by simp[O.reads,hi]
  refine⟨V,⟨fun i hi hi2=>by rw[<-e1.1,hV.env i hi hi2,e0.1],fun i hi=>by rw[<-e1.1,hV.hd i hi,e0.1],fun i h1 h2=>by rw[<-e1.1,hV.keep i (by rw[<-e0.1]; exact h1) (by rw[<-e0.1]; exact h2),e0.1],fun l hl b hb=>by rw[<-e1.2,hV.heap l hl b hb,e0.2],fun l hl b j h1 h2=>(by
   have:=hV.cell l hl b j h1 h2;unfold tB at this ⊢;rw[e0.2,<-e1.2]; exact this),fun i hi=>by rw[e0.1]; exact hV.v1 i hi,fun l hl b hb vS cs eM=>hV.v2 l hl b hb vS cs (by rw[<-e0.2]; exact eM),fun l hl b j h1 h2 h3 cs c0 hb hc=>hV.v3 l hl b j h1 h2 h3 cs c0 (by rw[<-e0.2]; exact hb) hc,fun d u hd px hds2 hu=>?_⟩⟩
  obtain⟨t0,t2,sl',h1,h2,h3,h4⟩:=hV.go d u (fun h=>hd (hr d h)) px hds2 hu;have h6:eJ (⟨put s0.env d u,s0.H⟩:St) ⟨put s.env d u,s.H⟩:=⟨fun i=>by simp only[bM,e0.1],e0.2.symm⟩;have hs:eJ (⟨put s.env d u,s.H⟩:St) t0:=(h1.trans h6).symm;refine⟨t2,sl',⟨hk,t0,t2,hs,?_,eJ.rfl'⟩,h3,h4.trans ⟨fun i=>by simp only[bM,e1.1],e1.2⟩⟩;rw[Bb t0 fun i hi=>?_]
  ·exact h2
  ·rw[<-hs.1 i];show get (put s.env d u) i=_;rw[bM,if_neg];intro e; subst e; exact hd hi
 unfold HV at he;cases hg:q.guard with
 |none=>
   rw[hg] at he;exact op he fun t _=>by unfold HV; rw[hg]
 |some gp=>
   obtain⟨g,want⟩:=gp;rw[hg] at he;simp only at he;have M3:g∈q.reads:=by simp[O.reads,hg]
   split at he
   ·rename_i b hb;split at he
    ·rename_i Xi;refine op he fun t h1=>?_;unfold HV;rw[hg];simp only[h1 g M3,e0.1 g,hb,Xi,if_true]
    ·cases he
   ·cases he
   ·cases he
theorem lwOp {s s1:St} {kd:Kd} {v:AV} {b:Nat} (h:gH c call s kd=some (v,s1,.lw b)):(∀t,gH c call t kd=dZ c call kd t)/\rF c s kd=none/\nY c call s kd=some (some (v,s1,.lw b)):=by
 have nc:∀{kd:Kd},dZ c call kd s=some (v,s1,.lw b)->rF c s kd=none/\nY c call s kd=some (some (v,s1,.lw b)):=by
  intro kd h;unfold dZ at h;cases hi:rF c s kd with
  |some r=>
    rw[hi] at h;simp only at h;subst h;obtain⟨sl,bs,e|e⟩:=E0 hi<;>cases e
  |none=>
    rw[hi] at h;cases hl:nY c call s kd with
    |some r=>
      rw[hl] at h;simp only at h;subst h;exact⟨rfl,rfl⟩
    |none=>
      rw[hl] at h;simp only[ia] at h;exfalso;split at h
      ·rename_i r hm;subst h;obtain⟨e,_⟩:=A0 hm;cases e
      replace h:=(j9 h).resolve_right fun h=>by obtain⟨e,_⟩:=AQ h; cases e
      unfold eU at h
      (repeat' split at h)
      all_goals first
       |(cases h; done)
       |(simp[Gz] at h; done)
       |(simp at h; obtain⟨_,_,h5⟩:=h; revert h5; split<;>simp[Gz]; done)
       |(simp only[ai,aP] at h; obtain⟨_,_,h5⟩:=h; split at h5<;>cases h5)
 have ns:∀{s s':St} {k:Nat} {a v:AV},VO s k a v≠some (s',.lw b):=by
  intro s s' k a v h;unfold VO Bv at h
  repeat' split at h
  all_goals first
   |(cases h; done)
   |(simp at h; done)
 cases kd
 case call=>exact⟨fun _=>rfl,nc h⟩
 case jM=>exact⟨fun _=>rfl,nc h⟩
 case st k a v=>
  exfalso;simp only[gH] at h;split at h
  ·split at h
   case h_2=>cases h
   rename_i hh;simp only[ai,aP] at h;obtain⟨_,_,h5⟩:=h;split at h5
   ·rw[h5] at hh; exact ns hh
   ·cases h5
  ·split at h
   case h_2=>cases h
   rename_i hh;simp only[ai,aP] at h;obtain⟨_,_,h5⟩:=h;rw[h5] at hh;exact ns hh
 all_goals
  exfalso;simp only[gH] at h
  (repeat' split at h)
  all_goals first
   |(cases h; done)
   |(simp at h; done)
   |(simp[Gz] at h; done)
   |(simp at h; obtain⟨_,_,h5⟩:=h; rcases z8 _ _ _ with e|⟨b,j,e⟩<;>rw[e] at h5<;>cases h5; done)
   |(simp at h; obtain⟨_,_,h5⟩:=h; rcases Aq _ _ with e|⟨_,_,_,_,e⟩<;>rw[e] at h5<;>cases h5; done)
   |(simp at h; obtain⟨_,_,h5⟩:=h; revert h5; split<;>simp)
theorem anb:FA c call:=by
 intro s q v s1 b ⟨hk,s0,t1,e0,he,e1⟩
 have op:gH c call s0 q.kd=some (v,t1,.lw b)->(∀t:St,(∀i∈q.reads,get t.env i=get s.env i)->HV c call t q=gH c call t q.kd)->∃cs cs',LwEv c call s q v s1 b cs cs':=by
  intro h Bb;obtain⟨iK,hi,hl⟩:=lwOp h;obtain⟨f,x,es,b',md,q',cs,cs',hkd,h1,h2,h3,h4,h5,h6,h7,h8,h9⟩:=z6 hl;simp only[Fq.lw.injEq] at h9;subst h9;have hin:∀i∈n9 (x::es),i∈q.reads:=fun i hi=>by simp[O.reads,hkd,Kd.reads,hi]
  refine⟨cs,cs',⟨by rw[e0.2]; exact h4,?_,fun t ht hbt=>?_⟩⟩
  ·refine e1.symm.trans ?_;rw[h8];exact⟨fun i=>(e0.1 i).symm,by show s0.H.set b (some cs')=s.H.set b (some cs'); rw[e0.2]⟩
  ·refine⟨hk,t,⟨t.env,t.H.set b (some cs')⟩,eJ.rfl',?_,eJ.rfl'⟩;rw[Bb t ht,iK];unfold dZ;rw[A7 hi t]
   have bD:nY c call t q.kd=some (some (v,⟨t.env,t.H.set b (some cs')⟩,.lw b)):=by
    have e2:bC c t.env x=bC c s0.env x:=cJ fun i hi=>by rw[ht i (hin i (by simp[n9,hi])),e0.1 i]
    have e3:dX c t.env es=dX c s0.env es:=iF fun i hi=>by rw[ht i (hin i (by simp[n9,hi])),e0.1 i]
    rw[hkd];unfold nY;simp only;rw[if_pos h1];unfold locV;rw[e2,e3,h2];simp only[h3,hbt];rw[if_pos h5,h6];simp only;rw[if_pos h7]
   rw[bD]
 unfold HV at he;cases hg:q.guard with
 |none=>
   rw[hg] at he;exact op he fun t _=>by unfold HV; rw[hg]
 |some gp=>
   obtain⟨g,want⟩:=gp;rw[hg] at he;simp only at he;have M3:g∈q.reads:=by simp[O.reads,hg]
   split at he
   ·rename_i b hb;split at he
    ·rename_i Xi;refine op he fun t h1=>?_;unfold HV;rw[hg];simp only[h1 g M3,e0.1 g,hb,Xi,if_true]
    ·cases he
   ·cases he
   ·cases he
theorem alQ (dG:gF P c) (Gu:PK P c call):Mk P c call:=abP dG Gu (alR ah6 amj anb)
end
end Go.Bm

/- The end of a function that sees boxes of others. -/
namespace Go.Bm
open Go.Am
mutual
theorem Kk {o o':Rt->Option (Nat × List AV)} {nb OL:Nat} (hn:nb<=OL):∀x,fu x=true->c9 o nb x->c9 o' OL x
 |.ptr b off,_,h=>by simp only[c9] at h ⊢; omega
 |.agg cs,hp,h=>by simp only[fu] at hp; simp only[c9] at h ⊢; exact EB hn cs hp h
 |.dJ cs,hp,h=>by simp only[fu] at hp; simp only[c9] at h ⊢; exact EB hn cs hp h
 |.func f a b,hp,h=>by simp only[fu,ae] at hp; simp only[c9] at h ⊢; exact⟨EB hn a hp.1 h.1,EB hn b hp.2 h.2⟩
 |.own _ _,hp,_=>by simp[fu] at hp
 |.eE _ _ _ _,hp,_=>by simp[fu] at hp
 |.fP _ _ _ _,hp,_=>by simp[fu] at hp
 |.sl _ b _ _,_,h=>by simp only[c9] at h ⊢; omega
 |.any,_,_=>trivial|.undef,_,_=>trivial|.gq,_,_=>trivial|.gz,_,_=>trivial|.dO,_,_=>trivial
 |.int _ _,_,_=>trivial|.bool _,_,_=>trivial|.str _,_,_=>trivial|.list _ _,_,_=>trivial|.dV _,_,_=>trivial
theorem EB {o o':Rt->Option (Nat × List AV)} {nb OL:Nat} (hn:nb<=OL):∀xs,cX xs=true->lJ o nb xs->lJ o' OL xs
 |[],_,_=>trivial
 |x::r,hp,h=>by simp only[cX,ae] at hp; exact⟨Kk hn x hp.1 h.1,EB hn r hp.2 h.2⟩
end
theorem AX {x:AV} (h:fu x=true):bX x=false:=by
 cases x<;>first|rfl|(simp[fu] at h; done)|skip
 rename_i cs;simp only[fu] at h;simp only[bX]
 induction cs with
 |nil=>rfl
 |cons y r ih=>
   simp only[cX,ae] at h;have h1:=h.1;cases y<;>first|exact ih h.2|(simp[fu] at h1; done)
theorem Rf:kT iT:=by
 intro k r o l;cases r<;>exact⟨⟨(fun cs e=>by cases e),(fun k xs e=>by cases e)⟩,⟨(fun cs e=>by cases e),(fun k xs e=>by cases e)⟩⟩
section
variable {P:Program} {X:Nat->Prop} {φ kX φ':dQ} {w w1 w':World} {N N1 N':Names} {s s' s1:St} {Ha:Heap} {B:Nat->Nat} {base:Nat} {v va:AV} {v':Value} {c:fe} {a:Act} {call:Nat->List AV->Heap->Option (AV × Heap)} {t:Nat->Value}
theorem ZG {s s':St} (h:s'.H=s.H) (b j:Nat):aD s' (.c b j)=aD s (.c b j):=by simp only[aD,at_,h]
theorem w6 (r:AV) (i:Nat):get [(0,r)] i=if i=0 then r else .any:=by simp only[Am.get]
theorem fx.leave (h:fx X φ w N s Ha t) {i0:Nat} {r:AV} (hr:get s.env i0=r) (hp:fu r=true):fx X φ w N ⟨[(0,r)],fI iT s.H⟩ Ha (fun i=>if i=0 then t i0 else undef):=by
 have iS:=AX hp
 have slot:∀i,(∀k xs,get [(0,r)] i≠.own k xs)/\(aD ⟨[(0,r)],fI iT s.H⟩ (.s i)=none/\∀ j,aD ⟨[(0,r)],fI iT s.H⟩ (.sc i j)=none):=by
  intro i
  have h0:bX (get (⟨[(0,r)],fI iT s.H⟩:St).env i)=false:=by
   show bX (get [(0,r)] i)=false;rw[w6]; split
   ·exact iS
   ·rfl
  refine⟨fun k xs e=>?_,eH h0⟩;have h1:bX (get [(0,r)] i)=false:=h0;rw[e] at h1; cases h1
 have box:∀b j,aD ⟨[(0,r)],fI iT s.H⟩ (.c b j)=aD s (.c b j):=fun b j=>by
  rw[<-jd Rf s (.c b j)];exact ZG rfl b j
 have own:∀{p},(aD ⟨[(0,r)],fI iT s.H⟩ p).isSome->aD ⟨[(0,r)],fI iT s.H⟩ p=aD s p/\∃ b j,p=.c b j:=by
  intro p hp;cases p with
  |s i=>rw[(slot i).2.1] at hp; cases hp
  |sc i j=>rw[(slot i).2.2 j] at hp; cases hp
  |c b j=>exact⟨box b j,b,j,rfl⟩
 have hlen:(fI iT s.H).length=s.H.length:=gk _ _;have back:∀b,(aO (fI iT s.H) b).isSome->(aO s.H b).isSome:=fun b hb=>by rw[fZ] at hb; simpa using hb
 have hl:∀k p a l,(c9 (aD s) s.H.length (.eE k p a l)->c9 (aD ⟨[(0,r)],fI iT s.H⟩) s.H.length (iT (.eE k p a l))/\Le (df N (iT (.eE k p a l))) (df N (.eE k p a l)))/\(c9 (aD s) s.H.length (.fP k p a l)->c9 (aD ⟨[(0,r)],fI iT s.H⟩) s.H.length (iT (.fP k p a l))/\Le (df N (iT (.fP k p a l))) (df N (.fP k p a l))):=by
  intro k p a l;cases p with
  |s i=>exact⟨fun _=>⟨trivial,Le.any _⟩,fun _=>⟨trivial,Le.any _⟩⟩
  |sc i j=>exact⟨fun _=>⟨trivial,Le.any _⟩,fun _=>⟨trivial,Le.any _⟩⟩
  |c b j=>
    refine⟨fun h=>⟨?_,Le.refl _⟩,fun h=>⟨?_,Le.refl _⟩⟩
    ·simp only[iT,c9] at h ⊢; rw[box]; exact h
    ·simp only[iT,c9] at h ⊢; rw[box]; exact h
 refine⟨fun i=>?_,fun i=>?_,h.heap,fun p k xs e=>?_,fun b cs e=>?_,fun p q n e1 e2 e3 e4=>?_,fun b p e1 e2 e3=>?_,fun b d e1 e2 e3=>h.bi b d (back b e1) (back d e2) e3⟩
 ·show cB _ _ (lK N i (get [(0,r)] i)) (if i=0 then t i0 else undef);rw[w6];by_cases e:i=0
  ·subst e;simp only[if_true];have:=h.env i0;rw[hr,AN N i0 iS] at this;rw[AN N 0 iS];exact this
  ·rw[if_neg e,if_neg e]; exact .any _ _
 ·show c9 _ _ (get [(0,r)] i);rw[w6,hlen];split
  ·have:=h.Ib i0;rw[hr] at this;exact Kk (aY _) r hp this
  ·trivial
 ·have:=own (p:=p) (by rw[e]; rfl);rw[this.1] at e;exact h.own p k xs e
 ·have hb:aO (fI iT s.H) b=some cs:=e;rw[fZ] at hb;cases hc:aO s.H b with
  |none=>rw[hc] at hb; cases hb
  |some ds=>
    rw[hc] at hb;simp at hb;subst hb;obtain⟨as,g1,g2,g3⟩:=h.box b ds hc;refine⟨as,g1,by rw[cW]; exact g2,fun j d hd=>?_⟩;rw[ft] at hd;cases hj:ds[j]? with
    |none=>rw[hj] at hd; cases hd
    |some d0=>
      rw[hj] at hd;simp at hd;subst hd;obtain⟨g4,a',g5,g6⟩:=g3 j d0 hj;obtain⟨k1,k2⟩:=nk (N:=N) (N':=N) (o:=aD s) (o':=aD ⟨[(0,r)],fI iT s.H⟩) (nb:=s.H.length) (g:=iT) rfl Rf hl (r:=.c b j) (x:=d0) (fun _ _ _=>rfl) g4;refine⟨?_,a',g5,k2.trans g6⟩;show c9 _ (fI iT s.H).length _;rw[hlen]; exact k1
 ·rw[(own e1).1] at e1;rw[(own e2).1] at e2;exact h.inj p q n e1 e2 e3 e4
 ·have e2':(aD s p).isSome:=by rw[<-(own e2).1]; exact e2
  exact h.bx b p (back b e1) e2' e3
theorem Sw {env:Env} {base:Nat}:∀(n:Nat) (H:Heap),base<=H.length->base<=(trim base env n H).length:=by
 intro n
 induction n with
 |zero=>intro H h; exact h
 |succ n ih=>
   intro H h;simp only[trim];split
   ·exact ih _ (by simp; omega)
   ·exact h
theorem fx.Xq {H:Heap} {r1 r2:AV} (h:fx X φ w N ⟨[(0,r1)],H⟩ Ha t) (h1:fu r1=true) (h2:fu r2=true) (hk:c9 (fun _=>none) H.length r2) (hr:cB (Rd X φ w) φ (df N r2) v'):fx X φ w N ⟨[(0,r2)],H⟩ Ha (fun i=>if i=0 then v' else undef):=by
 have slot:∀{r:AV},fu r=true->∀i,bX (get (⟨[(0,r)],H⟩:St).env i)=false:=fun{r} hp i=>by
  show bX (get [(0,r)] i)=false;rw[w6]; split
  ·exact AX hp
  ·rfl
 have own:∀p,aD ⟨[(0,r2)],H⟩ p=aD ⟨[(0,r1)],H⟩ p:=by
  intro p;cases p with
  |s i=>rw[(eH (slot h2 i)).1,(eH (slot h1 i)).1]
  |sc i j=>rw[(eH (slot h2 i)).2 j,(eH (slot h1 i)).2 j]
  |c b j=>exact ZG rfl b j
 refine⟨fun i=>?_,fun i=>?_,h.heap,fun p k xs e=>?_,fun b cs e=>?_,fun p q n e1 e2=>?_,fun b p e1 e2=>?_,h.bi⟩
 ·show cB _ _ (lK N i (get [(0,r2)] i)) (if i=0 then v' else undef);rw[w6];by_cases e:i=0
  ·rw[if_pos e,if_pos e,AN N i (AX h2)]; exact hr
  ·rw[if_neg e,if_neg e]; exact .any _ _
 ·show c9 _ _ (get [(0,r2)] i);rw[w6];split
  ·exact Kk (aY _) r2 h2 hk
  ·trivial
 ·rw[own] at e; exact h.own p k xs e
 ·obtain⟨as,g1,g2,g3⟩:=h.box b cs e;refine⟨as,g1,g2,fun j c hc=>⟨kh (fun p _=>own p) (aY _) c (g3 j c hc).1,(g3 j c hc).2⟩⟩
 ·rw[own] at e1 e2; exact h.inj p q n e1 e2
 ·rw[own] at e2; exact h.bx b p e1 e2
theorem fx.amf {env:Env} {H:Heap} (h:fx X φ w N ⟨env,H⟩ Ha t) {n k:Nat} {xs:List AV} (ho:pd Ha (some n) k xs) (hnq:∀q,(aD ⟨env,H⟩ q).isSome->N.ν q≠some n) (IM:∀b,(aO H b).isSome->N.β b≠n) :
  ∃ Ha',fx X φ w ⟨fun c=>if c=H.length then n else N.β c,N.ν⟩ ⟨env,H++[some (aI xs)]⟩ Ha' t/\(∀m,m≠n->aO Ha' m=aO Ha m)/\∀ q,aD ⟨env,H++[some (aI xs)]⟩ q=aD ⟨env,H⟩ q:=by
 obtain⟨cs,c1,c2,c3,c4⟩:=ho;have UU:=iq c3;have bD:=eI c1;have RE:∀m,m≠n->aO (Ha.set n (some (cs.take (xs.length*k)))) m=aO Ha m:=fun m hm=>by rw[eF,if_neg (fun e=>hm e.1)]
 have fy:∀b,b<H.length->(if b=H.length then n else N.β b)=N.β b:=fun b hb=>if_neg (by omega)
 have fc:∀q,aD ⟨env,H++[some (aI xs)]⟩ q=aD ⟨env,H⟩ q:=by
  intro q;cases q with
  |s i=>rfl
  |sc i j=>rfl
  |c b j=>
    by_cases hb:b=H.length
    ·subst hb
     have e0:aD ⟨env,H⟩ (.c H.length j)=none:=by
      have:aO H H.length=none:=by
       cases e:aO H H.length with
       |none=>rfl
       |some cs=>have:=eI e; omega
      simp[aD,at_,this]
     rw[e0];unfold aD at_;simp only[fY,if_true];cases e:(aI xs)[j]? with
     |none=>rfl
     |some d=>
       have hd:=(kD (c4 j d e).1).1;cases d<;>first|rfl|(simp[pl] at hd; done)
    ·exact jc (by simp only[at_,fY,if_neg hb])
 have mono:∀p,(aD ⟨env,H⟩ p).isSome->aD ⟨env,H++[some (aI xs)]⟩ p=aD ⟨env,H⟩ p:=fun p _=>fc p;have hlen:H.length<=(H++[some (aI xs)]).length:=by simp
 have bold:∀{b},(aO (H++[some (aI xs)]) b).isSome->(b<H.length/\(aO H b).isSome)\/b=H.length:=by
  intro b hb;rw[fY] at hb;by_cases e:b=H.length
  ·exact .inr e
  ·rw[if_neg e] at hb;obtain⟨cs,e2⟩:=aV.1 hb;exact .inl ⟨eI e2,hb⟩
 have hh:cK X φ w (Ha.set n (some (cs.take (xs.length*k)))):=by
  refine⟨by rw[bI]; exact h.heap.len,h.heap.FC,fun b ds hb=>?_,fun b hb=>?_,h.heap.inj⟩
  ·rw[bg] at hb;split at hb
   ·rename_i e;subst e;simp at hb;obtain⟨_,rfl⟩:=hb;obtain⟨g,sz,arr,e,p1,p2,p3,p4,p5,p6⟩:=h.heap.live n cs (vZ c1);refine⟨g,sz,arr,e,p1,p2,p3,by rw[bF]; omega,p5,fun i d hd=>?_⟩;rw[bN] at hd;split at hd
    ·exact p6 i d hd
    ·cases hd
   ·exact h.heap.live b ds hb
  ·rw[bg] at hb;split at hb
   ·simp at hb
   ·exact h.heap.dead b hb
 refine⟨_,⟨fun i=>?_,fun i=>kh mono hlen _ (h.Ib i),hh,fun p k' ys e=>?_,fun b ds e=>?_,fun p q m e1 e2 e3 e4=>?_,fun b p e1 e2 e3=>?_,fun b d e1 e2 e3=>?_⟩,RE,fc⟩
 ·rw[Cg (N:=N) (N':=⟨fun c=>if c=H.length then n else N.β c,N.ν⟩) fy (fun _ _=>rfl) rfl (fun _=>rfl) (h.Ib i)];exact h.env i
 ·rw[fc] at e;refine (h.own p k' ys e).same fun m hm=>RE m fun e2=>?_;exact hnq p (by rw[e]; rfl) (by rw[<-e2]; exact hm)
 ·by_cases hb:b=H.length
  ·subst hb;simp only[fY,if_true,ai] at e;subst e;refine⟨cs.take (xs.length*k),by simp only[if_true]; rw[eF,if_pos ⟨rfl,bD⟩],by rw[bF,UU]; omega,fun j d hd=>?_⟩;obtain⟨q1,a,q2,q3,q4⟩:=c4 j d hd;have pq:=(kD q1).1;have hj:=aC hd;rw[UU] at hj;refine⟨vI d pq,a,by rw[bN,if_pos hj]; exact q2,?_⟩
   have e1:∀N:Names,kf N (.c H.length j) d=d:=fun N=>by
    have:=lz N d pq;cases d<;>first|exact this|(simp[pl] at pq; done)
   rw[e1]; exact q4
  ·simp only[fY,if_neg hb] at e;obtain⟨as,g1,g2,g3⟩:=h.box b ds e;refine⟨as,by simp only[fy b (eI e)]; rw[RE _ (IM b (by show (aO H b).isSome=true; rw[show aO H b=some ds from e]; rfl))]; exact g1,g2,fun j x hx=>?_⟩;obtain⟨k1,a',k2,k3⟩:=g3 j x hx;refine⟨kh mono hlen x k1,a',k2,?_⟩;rw[we (N:=N) (N':=⟨fun c=>if c=H.length then n else N.β c,N.ν⟩) fy (fun _ _=>rfl) (fun _ _ _=>rfl) k1];exact k3
 ·rw[fc] at e1 e2; exact h.inj p q m e1 e2 e3 e4
 ·rw[fc] at e2;rcases bold e1 with⟨b1,b2⟩|b1
  ·simp only[fy b b1] at e3; exact h.bx b p b2 e2 e3
  ·subst b1;simp only[if_true] at e3;exact hnq p e2 e3
 ·rcases bold e1 with⟨b1,b2⟩|b1<;>rcases bold e2 with⟨d1,d2⟩|d1
  ·simp only[fy b b1,fy d d1] at e3; exact h.bi b d b2 d2 e3
  ·subst d1; simp only[fy b b1,if_true] at e3; exact absurd e3 (IM b b2)
  ·subst b1; simp only[fy d d1,if_true] at e3; exact absurd e3.symm (IM d d2)
  ·rw[b1,d1]
theorem Ns {env:Env} {base:Nat}:∀(n:Nat) (H:Heap),∃k,trim base env n H=H.take k
 |0,H=>⟨H.length,by simp[trim]⟩
 |n+1,H=>by
   simp only[trim];split
   ·obtain⟨k,e⟩:=Ns (env:=env) (base:=base) n (H.take n);exact⟨min k n,by rw[e,List.take_take]⟩
   ·exact⟨H.length,by simp⟩
theorem UJ {p:Rt}:∀{l:List Rt},Ae p l=false ↔ p∉l
 |[]=>by simp[Ae]
 |q::r=>by simp only[Ae,fD,decide_eq_false_iff_not,UJ (l:=r),aK,not_or]; exact⟨fun h=>⟨fun e=>h.1 e.symm,h.2⟩,fun h=>⟨fun e=>h.1 e.symm,h.2⟩⟩
theorem VC (h:fx X φ w N s Ha t) {n0:Nat} {env:Env} {t1:Nat->Value}:∀(cs:List AV) (n:Nat) (used:List Rt) (ys:List AV) (hs:Heap),vX s n used cs=some (ys,hs)->lJ (aD s) s.H.length cs->(∀x∈cs,fu x=true->c9 (fun _=>none) n0 x) ->
  ∀ (β1:Nat->Nat) (H1:Heap) (Ha1:Heap),fx X φ w ⟨β1,N.ν⟩ ⟨env,H1⟩ Ha1 t1->n=H1.length->n0<=n->(∀b,b<n0->β1 b=N.β b) ->
   (∀i k xs m,aD s (.s i)=some (k,xs)->N.ν (.s i)=some m->.s i∉used->pd Ha1 (some m) k xs/\(∀b,(aO H1 b).isSome->β1 b≠m)/\∀ q,(aD ⟨env,H1⟩ q).isSome->N.ν q≠some m) ->
   ∃ Mo Ha2,fx X φ w ⟨Mo,N.ν⟩ ⟨env,H1++hs⟩ Ha2 t1/\(∀b,b<n->Mo b=β1 b)/\ys.length=cs.length/\cX ys=true/\∀ (i:Nat) (x y:AV) (v:Value),cs[i]?=some x->ys[i]?=some y->cB (Rd X φ w) φ (df N x) v->c9 (fun _=>none) (H1++hs).length y/\cB (Rd X φ w) φ (df ⟨Mo,N.ν⟩ y) v
 |[],n,used,ys,hs,hf,_,_,β1,H1,Ha1,h1,hn,hn0,fy,Lu=>by
   simp[vX] at hf;obtain⟨rfl,rfl⟩:=hf;exact⟨β1,Ha1,by simpa using h1,fun _ _=>rfl,rfl,rfl,fun i x y v hx=>by simp at hx⟩
 |x::r,n,used,ys,hs,hf,dG,pq,β1,H1,Ha1,h1,hn,hn0,fy,Lu=>by
   have rest:=fun (n':Nat) (u':List Rt) (DP:List AV) (UO:Heap) (e:vX s n' u' r=some (DP,UO))=>VC (n0:=n0) (env:=env) (t1:=t1) h r n' u' DP UO e dG.2 (fun y hy=>pq y (by simp[hy]))
   -- a part that needs no box
   have stay:∀{y:AV} {DP:List AV},vX s n used r=some (DP,hs)->ys=y::DP->fu y=true->(∀Mo:Nat->Nat,(∀b,b<n->Mo b=β1 b)->∀v,cB (Rd X φ w) φ (df N x) v->c9 (fun _=>none) (H1++hs).length y/\cB (Rd X φ w) φ (df ⟨Mo,N.ν⟩ y) v) ->
     ∃ Mo Ha2,fx X φ w ⟨Mo,N.ν⟩ ⟨env,H1++hs⟩ Ha2 t1/\(∀b,b<n->Mo b=β1 b)/\ys.length=(x::r).length/\cX ys=true/\∀ (i:Nat) (x' y:AV) (v:Value),(x::r)[i]?=some x'->ys[i]?=some y->cB (Rd X φ w) φ (df N x') v->c9 (fun _=>none) (H1++hs).length y/\cB (Rd X φ w) φ (df ⟨Mo,N.ν⟩ y) v:=by
    intro y DP e ey hy hyr;subst ey;obtain⟨Mo,Ha2,s2,b2,l2,p2,q2⟩:=rest n used DP hs e β1 H1 Ha1 h1 hn hn0 fy Lu;refine⟨Mo,Ha2,s2,b2,by simp[l2],by simp[cX,hy,p2],fun i x' z v hx hz hv=>?_⟩;cases i with
    |zero=>simp at hx hz; subst hx; subst hz; exact hyr Mo b2 v hv
    |succ i=>exact q2 i x' z v (by simpa using hx) (by simpa using hz) hv
   have gen:fu x=true->∀{DP},vX s n used r=some (DP,hs)->ys=x::DP->_:=fun hp {DP} e ey=>stay e ey hp fun Mo b2 v hv=>by
    have ho:=pq x (by simp) hp;refine⟨kh (fun p hp=>by cases hp) (by rw[bV]; omega) x ho,?_⟩;rw[AM (N:=N) (N':=⟨Mo,N.ν⟩) (o:=fun _=>none) (nb:=n0) (fun b hb=>by show Mo b=N.β b; rw[b2 b (by omega),fy b hb]) (fun p hp=>by cases hp) x ho];exact hv
   by_cases c1:∃k i len,x=.eE k (.s i) 0 len
   ·obtain⟨k,i,len,rfl⟩:=c1;simp only[vX] at hf;split at hf
    case h_2=>cases hf
    rename_i k' xs hp;split at hf
    case isFalse=>cases hf
    rename_i hc;obtain⟨rfl,rfl,hu⟩:=hc;have hu:=UJ.1 hu;split at hf
    ·rename_i hl0;split at hf
     case h_2=>cases hf
     rename_i DP UO e;simp at hf;obtain⟨rfl,rfl⟩:=hf;refine stay e rfl rfl fun Mo b2 v hv=>⟨trivial,?_⟩;have DU:xs=[]:=List.eq_nil_of_length_eq_zero hl0;subst DU;simp only[df,List.length_nil] at hv ⊢;split at hv
     ·cases hv with
      |sl _ _ _ _ _ a cap hb hc hh=>exact .oa _ _ _ _ _ _ (fun _ _=>undef) rfl hc (fun x hx=>by simp at hx) (fun i j x c hx=>by simp at hx) (fun i j x c hx=>by simp at hx)
     ·cases hv; exact .kJ _ _
    ·rename_i hl0;split at hf
     case h_2=>cases hf
     rename_i DP UO e;simp at hf;obtain⟨rfl,rfl⟩:=hf;have fc:=h.own (.s i) k' xs hp;cases kW:N.ν (.s i) with
     |none=>
       rw[kW] at fc;have:xs=[]:=fc;subst this;simp at hl0
     |some m=>
       obtain⟨o1,o2,o3⟩:=Lu i k' xs m hp kW hu;obtain⟨Ha',s2,e2,e3⟩:=h1.amf o1 o3 o2;have lt1:(H1++[some (aI xs)]).length=n+1:=by simp[hn]
       obtain⟨Mo,Ha2,s3,b3,l3,p3,q3⟩:=rest (n+1) (.s i::used) DP UO e _ _ _ s2 lt1.symm (by omega) (fun b hb=>by simp only; rw[if_neg (by omega)]; exact fy b hb) (fun i2 k2 xs2 m2 z1 z2 z3=>by
        simp only[aK,not_or] at z3;obtain⟨a1,a2,a3⟩:=Lu i2 k2 xs2 m2 z1 z2 z3.2;have hmm:m2≠m:=fun e=>z3.1 (h.inj _ _ m (by rw[z1]; rfl) (by rw[hp]; rfl) (by rw[<-e]; exact z2) kW);refine⟨a1.same fun m' Xa=>by cases Xa; exact e2 m2 hmm,fun b hb=>?_,fun q hq=>a3 q (by rw[e3] at hq; exact hq)⟩;rw[fY] at hb;simp only;split
        ·exact fun e=>hmm e.symm
        ·rename_i kj; rw[if_neg kj] at hb; exact a2 b hb)
       rw[du] at s3;refine⟨Mo,Ha2,s3,fun b hb=>by rw[b3 b (by omega)]; simp only; rw[if_neg (by omega)],by simp[l3],by simp[cX,fu,p3],fun j x' z v hx hz hv=>?_⟩;rw[du] at q3;cases j with
       |succ j=>exact q3 j x' z v (by simpa using hx) (by simpa using hz) hv
       |zero=>
         simp at hx hz;subst hx; subst hz;refine⟨by simp only[c9]; simp; omega,?_⟩;simp only[df,kW,Nat.zero_mul] at hv ⊢;have:Mo n=m:=by rw[b3 n (by omega)]; simp only; rw[if_pos hn]
         rw[this]; exact hv
   ·rw[vX] at hf
    ·split at hf
     case isFalse=>cases hf
     rename_i hp;split at hf
     case h_2=>cases hf
     rename_i DP UO e;simp at hf;obtain⟨rfl,rfl⟩:=hf;exact gen hp e rfl
    ·exact fun k i len e=>c1 ⟨k,i,len,e⟩
theorem alf {o:Rt->Option (Nat × List AV)} {nb:Nat} {x:AV} (h:c9 o nb x):c9 o nb (Mp x):=by
 cases x<;>first|exact h|trivial
theorem agU {R:Addr->Value->Prop} {x:AV} {v:Value} (r:cB R φ (df N x) v):cB R φ (df N (Mp x)) v:=by
 cases x<;>first|exact r|exact .any _ _
theorem ahq (h:fx X φ w N s Ha (tm a)) (hb:(∀b,b<base->N.β b=B b)/\base<=s.H.length) (hv:cB (Rd X φ w) φ (df N v) v') (hk:c9 (aD s) s.H.length v) {r:AV} {H':Heap} (hf:finX base s v=some (r,H')) :
  ∃ φ',SB X φ' w B base ⟨[(0,r)],H'⟩ (fun i=>if i=0 then v' else undef)/\fU φ w φ' w:=by
 unfold finX at hf;split at hf
 case h_2=>cases hf
 rename_i cs M6;split at hf
 case isFalse=>cases hf
 rename_i hp;split at hf
 case h_2=>cases hf
 rename_i ys hs hbx;simp only[ai,aP] at hf;obtain⟨rfl,rfl⟩:=hf;simp only[c9] at hk;have hkL:=hZ.1 hk
 -- the parts without what becomes boxes
 have IL:fu (.dJ (cs.map Mp))=true:=hp;have iS:=AX IL
 have hk0:c9 (aD s) s.H.length (.dJ (cs.map Mp)):=by
  simp only[c9];refine hZ.2 fun i c hc=>?_;rw[ct] at hc;cases e:cs[i]? with
  |none=>rw[e] at hc; cases hc
  |some x=>rw[e] at hc; simp at hc; subst hc; exact alf (hkL i x e)
 have W7:cB (Rd X φ w) φ (df N (.dJ (cs.map Mp))) v':=by
  simp only[df] at hv ⊢;cases hv with
  |dJ _ _ vs hl hh=>
    refine .dJ _ _ _ (by rw[eG] at hl ⊢; simpa using hl) fun i c u hc hu=>?_;rw[nE,ct] at hc;cases e:cs[i]? with
    |none=>rw[e] at hc; cases hc
    |some x=>
      rw[e] at hc;simp at hc;subst hc;exact agU (hh i _ u (by rw[nE,e]; rfl) hu)
 have h1:=h.leave (i0:=fR) (r:=.any) M6 rfl;have okp:∀{o:Rt->Option (Nat × List AV)} {nb OL:Nat} {x:AV},nb<=OL->fu x=true->c9 o nb x->c9 (fun _=>none) OL x:=fun hn hp ho=>Kk hn _ hp ho;have h2:=h1.Xq (r2:=.dJ (cs.map Mp)) rfl IL (okp (by rw[gk]; exact aY _) IL hk0) W7;have h4:=fx.trim (base0:=base) s.H.length h2;obtain⟨kt,et⟩:=Ns (env:=[(0,.dJ (cs.map Mp))]) (base:=base) s.H.length (fI iT s.H);have hbl:=Sw (env:=[(0,.dJ (cs.map Mp))]) (base:=base) s.H.length (fI iT s.H) (by rw[gk]; exact hb.2);generalize hH1:trim base [(0,.dJ (cs.map Mp))] s.H.length (fI iT s.H)=H1 at *
 have back:∀b ds,aO H1 b=some ds->aO (fI iT s.H) b=some ds:=by
  intro b ds e;rw[et,tx] at e;split at e
  ·exact e
  ·cases e
 have box:∀b,(aO H1 b).isSome->(aO s.H b).isSome:=by
  intro b e;obtain⟨ds,e⟩:=aV.1 e;have:=back b ds e;rw[fZ] at this;cases hc:aO s.H b with
  |none=>rw[hc] at this; cases this
  |some _=>rfl
 have own1:∀q,(aD ⟨[(0,.dJ (cs.map Mp))],H1⟩ q).isSome->(∀i,q≠.s i)/\(aD s q).isSome:=by
  intro q e
  have hs0:∀i,bX (get (⟨[(0,.dJ (cs.map Mp))],H1⟩:St).env i)=false:=fun i=>by
   show bX (get [(0,.dJ (cs.map Mp))] i)=false;rw[w6]; split
   ·exact iS
   ·rfl
  cases q with
  |s i=>rw[(eH (hs0 i)).1] at e; cases e
  |sc i j=>rw[(eH (hs0 i)).2 j] at e; cases e
  |c b j=>
    refine⟨fun i e=>(by cases e),?_⟩;rw[<-jd Rf s (.c b j)];obtain⟨⟨k0,xs0⟩,e0⟩:=aV.1 e;have e1:=cM.1 e0;simp only[at_] at e1;cases hc:aO H1 b with
    |none=>rw[hc] at e1; cases e1
    |some ds=>
      rw[hc] at e1;have e2:=back b ds hc;have:aD (cE iT s) (.c b j)=some (k0,xs0):=cM.2 (by simp only[at_,cE,e2]; exact e1);rw[this]; rfl
 obtain⟨Mo,Ha2,s2,b2,l2,p2,q2⟩:=VC h (n0:=H1.length) (env:=[(0,.dJ (cs.map Mp))]) cs H1.length [] ys hs hbx hk (fun x hx hpx=>by
  obtain⟨i,hi⟩:=bH hx;have e0:=h4.Ib 0;have e1:c9 (aD ⟨[(0,.dJ (cs.map Mp))],H1⟩) H1.length (.dJ (cs.map Mp)):=e0;simp only[c9] at e1;have e2:=hZ.1 e1 i (Mp x) (by rw[ct,hi]; rfl);have e3:Mp x=x:=by cases x<;>first|rfl|(simp[fu] at hpx; done)
  rw[e3] at e2;exact okp (aY _) hpx e2) N.β H1 Ha h4 rfl (aY _) (fun _ _=>rfl) (fun i k xs m z1 z2 _=>by
  have ho:=h.own (.s i) k xs z1;rw[z2] at ho;refine⟨ho,fun b hb e=>h.bx b (.s i) (box b hb) (by rw[z1]; rfl) (by rw[z2,e]),fun q hq e=>?_⟩;obtain⟨g1,g2⟩:=own1 q hq;exact g1 i (h.inj q (.s i) m g2 (by rw[z1]; rfl) e z2))
 have hr:fu (.dJ ys)=true:=p2
 have s3:=s2.Xq (r2:=.dJ ys) (v':=v') IL hr (by
  simp only[c9];refine hZ.2 fun i y hy=>?_;obtain⟨x,hx⟩:=bu (l:=cs) (i:=i) (by have:=aC hy; omega);simp only[df] at hv;cases hv with
  |dJ _ _ vs hl hh=>
    obtain⟨u,hu⟩:=dc (l:=vs) (i:=i) (by have:=aC hx; rw[eG] at hl; omega);exact (q2 i x y u hx hy (hh i _ u (by rw[nE,hx]; rfl) hu)).1) (by
  simp only[df] at hv ⊢;cases hv with
  |dJ _ _ vs hl hh=>
    refine .dJ _ _ _ (by rw[eG] at hl ⊢; omega) fun i c u hc hu=>?_;rw[nE] at hc;cases e:ys[i]? with
    |none=>rw[e] at hc; cases hc
    |some y=>
      rw[e] at hc;simp at hc;subst hc;obtain⟨x,hx⟩:=bu (l:=cs) (i:=i) (by have:=aC e; omega);exact (q2 i x y u hx e (hh i _ u (by rw[nE,hx]; rfl) hu)).2)
 exact⟨φ,⟨_,_,s3,fun b bD=>by show Mo b=B b; rw[b2 b (by omega)]; exact hb.1 b bD,by show base<=(H1++hs).length; rw[bV]; omega⟩,.refl _ _⟩
theorem aho (h:fx X φ w N s Ha (tm a)) (hb:(∀b,b<base->N.β b=B b)/\base<=s.H.length) (hv:cB (Rd X φ w) φ (df N v) v') (hk:c9 (aD s) s.H.length v) (iS:bX v=false) {r:AV} {H':Heap} (hf:iD base s v=some (r,H')) :
  ∃ φ',SB X φ' w B base ⟨[(0,r)],H'⟩ (fun i=>if i=0 then v' else undef)/\fU φ w φ' w:=by
 unfold iD at hf;split at hf
 case h_2=>cases hf
 rename_i M6;simp only at hf;split at hf
 case isFalse=>cases hf
 rename_i hp;simp only[ai,aP] at hf;obtain⟨rfl,rfl⟩:=hf;have xe:=eR.quiet (t:=tm a) h hb hk (nu iS) (by rw[mg N iS]; exact hv);obtain⟨mW,⟨N2,Ha2,P3,vS⟩,a2⟩:=SB.eO (aU v) (xe.put fR M6);have h3:=P3.leave (i0:=fR) rfl hp;simp only[if_true] at h3;refine⟨mW,⟨N2,Ha2,?_,vS.1,?_⟩,a2⟩
 ·exact fx.trim (base0:=base) _ h3
 ·exact Sw _ _ (by rw[gk]; exact vS.2)
theorem shOK (dG:gF P c) (Ai:AD P c) {n:Nat} (hs:VH P c n):ShOK P c n:=by
 intro f md q hf hm args H r H' h km X φ w B vargs hl IK hg;unfold nV at h;split at h
 ·rename_i x Bb;unfold QP at Bb;split at Bb
  case h_2=>cases Bb
  rename_i g Sm;rw[h] at Bb;replace h:=Bb;exact Ai f g md q Sm hf args H r H' (.inl hm) h (fun _=>km) X φ w B vargs hl IK hg
 ·rw[hf] at h;simp only at h;split at h
  case isFalse=>cases h
  rename_i hle;obtain⟨fn,h1,h2⟩:=dG.fn f md q hf;simp only[cj,ae,decide_eq_true_eq] at h2;obtain⟨⟨⟨⟨hn,anq⟩,_⟩,hres⟩,vR⟩:=h2;split at vR
  case h_2=>cases vR
  rename_i code hb;have E3:(vargs++sF (fn.ntmps-vargs.size) undef).size=q.n:=by simp; omega
  have htm:tm { tmps:=vargs++sF (fn.ntmps-vargs.size) undef,defers:=[] }=fun i=>vargs.getD i undef:=by
   funext i;simp only[tm,bn];by_cases hi:i<vargs.size
   ·rw[Array.getElem?_append_left hi]
   ·rw[Array.getElem?_append_right (by omega),Array.getElem?_replicate];rw[Array.getElem?_eq_none (by omega)];split<;>rfl
  have hS:Fz X φ w B H.length ⟨eC 0 args,H⟩ { tmps:=vargs++sF (fn.ntmps-vargs.size) undef,defers:=[] } q.n:=⟨by rw[htm]; exact IK,rfl,E3⟩
  have fin:∀{e:Ex} {s:St} {vs:List AV},dm c n H.length q.body ⟨eC 0 args,H⟩=some (e,s)->(e=.ret\/e=.normal)->rM c s q.res=some vs->bf md H.length s (pF vs)=some (r,H')->Calls P f vargs w (Nf X φ w B H.length r H'):=by
   intro e s vs he hre Si Xe;refine calls_of_wp h1 hb (hs q.n H.length code q.body _ s e (by omega) vR he X φ w B _ hS hg _ fun a' w' φ' hS' xf=>?_);obtain⟨N,Ha,AR,hbB⟩:=hS'.sb;obtain⟨xas,x1,x2,x3,x4⟩:=ace AR (hg.m6 xf) Si;obtain⟨v,k1,k2⟩:=GP (P:=P) (s:=⟨DQ N s.env,Ha⟩) (ts:=a'.tmps) (fun i=>by rw[nO]; exact AR.env i) AR.heap hres x1;unfold bf at Xe;rw[hm,if_pos rfl] at Xe
   have ans:∃mW,SB X mW w' B H.length ⟨[(0,r)],H'⟩ (fun i=>if i=0 then v else undef)/\fU φ' w' mW w':=by
    split at Xe
    ·exact ahq AR hbB (x2 _ _ _ k2) x3 Xe
    ·exact aho AR hbB (x2 _ _ _ k2) x3 x4 Xe
   obtain⟨mW,s2,a2⟩:=ans;have:bodyPost P fn (Nf X φ w B H.length r H') .ret a' w':=⟨hS'.defers,v,k1,v,mW,rfl,s2,xf.trans a2⟩;rcases hre with rfl|rfl
   ·exact this
   ·exact this
  split at h
  ·rename_i s he;split at h
   ·rename_i vs Si;exact fin he (.inl rfl) Si h
   ·cases h
  ·rename_i s he;split at h
   ·rename_i vs Si;exact fin he (.inr rfl) Si h
   ·cases h
  ·cases h
end
end Go.Bm

/- A state whose older heap holds no more than what is referred to; calls of functions that share boxes. -/
namespace Go.Bm
open Go.Am
mutual
def jY (G:Nat->Prop):AV->Prop
 |.ptr b _=>G b
 |.sl _ b _ _=>G b
 |.agg cs=>pk G cs
 |.dJ cs=>pk G cs
 |.func _ a b=>pk G a/\pk G b
 |_=>True
def pk (G:Nat->Prop):List AV->Prop
 |[]=>True
 |x::r=>jY G x/\pk G r
end
theorem pK {G:Nat->Prop}:∀{cs:List AV},pk G cs ↔ ∀(i:Nat) (c:AV),cs[i]?=some c->jY G c
 |[]=>by simp[pk]
 |x::r=>by
   simp only[pk,pK (cs:=r)];constructor
   ·rintro⟨h1,h2⟩ i c hc;cases i with
    |zero=>simp at hc; exact hc▸h1
    |succ i=>exact h2 i c (by simpa using hc)
   ·intro h;exact⟨h 0 x rfl,fun i c hc=>h (i+1) c (by simpa using hc)⟩
theorem cB.refs {R R':Addr->Value->Prop} (hR:∀a u,R a u->R' a u) {G:Nat->Prop} {φ:dQ} {x:AV} {v:Value} (h:cB R φ x v):∀{φ':dQ},jY G x->φ.length<=φ'.length->(∀b,G b->∀p,φ'[b]?=some (some p)->φ[b]?=some (some p))->cB R' φ' x v:=by
 induction h with
 |any=>intro φ' _ _ _; exact .any _ _
 |undef=>intro φ' _ _ _; exact .undef _
 |gq=>intro φ' _ _ _; exact .gq _
 |gz=>intro φ' _ _ _; exact .gz _
 |dO=>intro φ' _ _ _; exact .dO _
 |int=>intro φ' _ _ _; exact .int _ _ _
 |bool=>intro φ' _ _ _; exact .bool _ _
 |str=>intro φ' _ _ _; exact .str _ _
 |agg φ cs vs hl h ih=>intro φ' hx hp hb; simp only[jY] at hx; exact .agg _ _ _ hl fun i c v h1 h2=>ih i c v h1 h2 (pK.1 hx i c h1) hp hb
 |dJ φ cs vs hl h ih=>intro φ' hx hp hb; simp only[jY] at hx; exact .dJ _ _ _ hl fun i c v h1 h2=>ih i c v h1 h2 (pK.1 hx i c h1) hp hb
 |func φ f as va bs vb HN HM ha hb iha ihb=>intro φ' hx hp Gw; simp only[jY] at hx; exact .func _ _ _ _ _ _ HN HM (fun i c v h1 h2=>iha i c v h1 h2 (pK.1 hx.1 i c h1) hp Gw) (fun i c v h1 h2=>ihb i c v h1 h2 (pK.1 hx.2 i c h1) hp Gw)
 |oa φ k xs a n cap u hn je hk hu h ih=>intro φ' _ _ _; exact .oa _ _ _ _ _ _ u hn je hk (fun i j x c h1 h2=>hR _ _ (hu i j x c h1 h2)) (fun i j x c h1 h2=>(h i j x c h1 h2).mono hR (.refl _))
 |kJ=>intro φ' _ _ _; exact .kJ _ _
 |dV φ cs a u hu h ih=>intro φ' _ _ _; exact .dV _ _ _ u (fun j c h1=>hR _ _ (hu j c h1)) (fun j c h1=>(h j c h1).mono hR (.refl _))
 |ptr φ b off a hb h=>intro φ' hx hp iK; exact .ptr _ _ _ _ (by omega) fun g sz e=>h g sz (iK b hx _ e)
 |sl φ k b off len a cap hb hc h=>intro φ' hx hp iK; exact .sl _ _ _ _ _ _ _ (by omega) hc fun g sz e=>h g sz (iK b hx _ e)
mutual
theorem P8 {G:Nat->Prop} {N:Names} {o:Rt->Option (Nat × List AV)} {nb:Nat} (fy:∀b,b<nb->G (N.β b)) (kW:∀p,(o p).isSome->∀n,N.ν p=some n->G n):∀x,c9 o nb x->jY G (df N x)
 |.eE k p off len,h=>by
   simp only[c9] at h; obtain⟨xs,e,_⟩:=h;simp only[df];cases hn:N.ν p with
   |none=>exact trivial
   |some n=>exact kW p (by rw[e]; rfl) n hn
 |.fP k p i off,h=>by
   simp only[c9] at h; obtain⟨xs,e,_⟩:=h;simp only[df];cases hn:N.ν p with
   |none=>exact trivial
   |some n=>exact kW p (by rw[e]; rfl) n hn
 |.ptr b off,h=>by simp only[c9] at h; simp only[df,jY]; exact fy b h
 |.agg cs,h=>by simp only[c9] at h; simp only[df,jY]; exact zb fy kW cs h
 |.dJ cs,h=>by simp only[c9] at h; simp only[df,jY]; exact zb fy kW cs h
 |.func f a b,h=>by simp only[c9] at h; simp only[df,jY]; exact⟨zb fy kW a h.1,zb fy kW b h.2⟩
 |.any,_=>trivial|.undef,_=>trivial|.gq,_=>trivial|.gz,_=>trivial|.dO,_=>trivial
 |.int _ _,_=>trivial|.bool _,_=>trivial|.str _,_=>trivial|.list _ _,_=>trivial|.dV _,_=>trivial|.own _ _,_=>trivial
 |.sl _ b _ _,h=>by simp only[c9] at h; simp only[df,jY]; exact fy b h
theorem zb {G:Nat->Prop} {N:Names} {o:Rt->Option (Nat × List AV)} {nb:Nat} (fy:∀b,b<nb->G (N.β b)) (kW:∀p,(o p).isSome->∀n,N.ν p=some n->G n):∀xs,lJ o nb xs->pk G (m9 N xs)
 |[],_=>trivial
 |x::r,h=>⟨P8 fy kW x h.1,zb fy kW r h.2⟩
end
mutual
theorem Yq {G:Nat->Prop}:∀x,pl x=true->jY G x
 |.agg cs,h=>by simp only[pl] at h; simp only[jY]; exact zc cs h
 |.dJ cs,h=>by simp only[pl] at h; simp only[jY]; exact zc cs h
 |.func f a b,h=>by simp only[pl,ae] at h; simp only[jY]; exact⟨zc a h.1,zc b h.2⟩
 |.ptr _ _,h=>by simp[pl] at h
 |.sl _ _ _ _,h=>by simp[pl] at h
 |.eE _ _ _ _,_=>trivial|.fP _ _ _ _,_=>trivial
 |.any,_=>trivial|.undef,_=>trivial|.gq,_=>trivial|.gz,_=>trivial|.dO,_=>trivial
 |.int _ _,_=>trivial|.bool _,_=>trivial|.str _,_=>trivial|.list _ _,_=>trivial|.dV _,_=>trivial|.own _ _,_=>trivial
theorem zc {G:Nat->Prop}:∀xs,dP xs=true->pk G xs
 |[],_=>trivial
 |x::r,h=>by simp only[dP,ae] at h; exact⟨Yq x h.1,zc r h.2⟩
end
theorem acF {G:Nat->Prop} {N:Names} {o:Rt->Option (Nat × List AV)} {nb:Nat} (fy:∀b,b<nb->G (N.β b)) (kW:∀p,(o p).isSome->∀n,N.ν p=some n->G n) {r:Rt} {x:AV} (hr:∀k xs,x=.own k xs->(o r).isSome) (h:c9 o nb x):jY G (kf N r x):=by
 cases x<;>simp only[kf]<;>first|exact P8 fy kW _ h|skip
 rename_i k xs;simp only[tJ];cases hn:N.ν r with
 |none=>exact trivial
 |some n=>exact kW r (hr k xs rfl) n hn
mutual
theorem ID {o o':Rt->Option (Nat × List AV)} {nb OL:Nat} (hn:nb<=OL):∀x,(∀p∈aU x,o' p=o p)->c9 o nb x->c9 o' OL x
 |.eE k p off len,ho,h=>by simp only[c9] at h ⊢; obtain⟨xs,e,h2⟩:=h; exact⟨xs,by rw[ho p (by simp[aU])]; exact e,h2⟩
 |.fP k p i off,ho,h=>by simp only[c9] at h ⊢; obtain⟨xs,e,h2⟩:=h; exact⟨xs,by rw[ho p (by simp[aU])]; exact e,h2⟩
 |.ptr b off,_,h=>by simp only[c9] at h ⊢; omega
 |.agg cs,ho,h=>by simp only[c9] at h ⊢; exact EK hn cs (by simpa only[aU] using ho) h
 |.dJ cs,ho,h=>by simp only[c9] at h ⊢; exact EK hn cs (by simpa only[aU] using ho) h
 |.func f a b,ho,h=>by
   simp only[aU,aG] at ho;simp only[c9] at h ⊢; exact⟨EK hn a (fun p hp=>ho p (.inl hp)) h.1,EK hn b (fun p hp=>ho p (.inr hp)) h.2⟩
 |.any,_,_=>trivial|.undef,_,_=>trivial|.gq,_,_=>trivial|.gz,_,_=>trivial|.dO,_,_=>trivial
 |.int _ _,_,_=>trivial|.bool _,_,_=>trivial|.str _,_,_=>trivial|.list _ _,_,_=>trivial|.dV _,_,_=>trivial|.own _ _,_,_=>trivial
 |.sl _ b _ _,_,h=>by simp only[c9] at h ⊢; omega
theorem EK {o o':Rt->Option (Nat × List AV)} {nb OL:Nat} (hn:nb<=OL):∀xs,(∀p∈dL xs,o' p=o p)->lJ o nb xs->lJ o' OL xs
 |[],_,_=>trivial
 |x::r,ho,h=>by
   simp only[dL,aG] at ho;exact⟨ID hn x (fun p hp=>ho p (.inl hp)) h.1,EK hn r (fun p hp=>ho p (.inr hp)) h.2⟩
end
theorem Fx:∀{H:Heap},fa H=true->(∀b,b<H.length->(aO H b).isSome)/\∀ b cs,aO H b=some cs->∀p∈dL cs,cC p=false
 |[],_=>⟨fun b hb=>by simp at hb,fun b cs h=>by simp[aO] at h⟩
 |none::r,h=>by simp[fa] at h
 |some ds::r,h=>by
   simp only[fa,ae,bR] at h;obtain⟨h1,h2⟩:=Fx h.2;refine⟨fun b hb=>?_,fun b cs hb=>?_⟩
   ·cases b with
    |zero=>simp[aO]
    |succ b=>have:=h1 b (by simpa using hb); simpa[aO] using this
   ·cases b with
    |zero=>
      simp[aO] at hb;subst hb;intro p hp;exact kS h.1 p hp
    |succ b=>exact h2 b cs (by simpa[aO] using hb)
section
variable {P:Program} {X:Nat->Prop} {φ kX φ':dQ} {w w1 w':World} {N N1 N':Names} {s s' s1:St} {Ha:Heap} {B:Nat->Nat} {base:Nat} {v va:AV} {v':Value} {c:fe} {a:Act} {call:Nat->List AV->Heap->Option (AV × Heap)} {t:Nat->Value}
structure Norm (X:Nat->Prop) (φ:dQ) (w:World) (N:Names) (s:St) (t:Nat->Value) (mW:dQ) (H2:Heap):Prop where
 AR:fx (fun g=>X g\/(bQ φ g/\¬ bQ mW g)) mW w N s H2 t
 m6:fU φ w mW w
 good:∀n,(aO H2 n).isSome->(∃b,(aO s.H b).isSome/\N.β b=n)\/∃ p,(aD s p).isSome/\N.ν p=some n
 refs:∀n cs,aO H2 n=some cs->∀c∈cs,jY (fun m=>(aO H2 m).isSome) c
 sub:∀(n:Nat) (p:Nat × Nat),mW[n]?=some (some p)->φ[n]?=some (some p)
 live:∀(n:Nat) (p:Nat × Nat),mW[n]?=some (some p)->(aO H2 n).isSome
 len:mW.length=φ.length
theorem fx.norm (h:fx X φ w N s Ha t) (km:∀b,b<s.H.length->(aO s.H b).isSome):∃mW H2,Norm X φ w N s t mW H2:=by
 have hP:∀n,∃B:XT,(∀b cs,aO s.H b=some cs->N.β b=n->B=some (Wf N (.c b) 0 cs))/\(∀p k xs,aD s p=some (k,xs)->N.ν p=some n->B=some (aI xs))/\(B.isSome->(∃b,(aO s.H b).isSome/\N.β b=n)\/∃ p,(aD s p).isSome/\N.ν p=some n):=by
  intro n;by_cases h1:∃b cs,aO s.H b=some cs/\N.β b=n
  ·obtain⟨b,cs,hb,hn⟩:=h1;refine⟨some (Wf N (.c b) 0 cs),fun b' cs' iK VR=>?_,fun p k xs hp VR=>?_,fun _=>.inl ⟨b,by rw[hb]; rfl,hn⟩⟩
   ·have e:=h.bi b b' (by rw[hb]; rfl) (by rw[iK]; rfl) (by rw[hn,VR]);subst e;rw[hb] at iK; cases iK; rfl
   ·exact absurd (by rw[VR,hn]) (h.bx b p (by rw[hb]; rfl) (by rw[hp]; rfl))
  ·by_cases h2:∃p k xs,aD s p=some (k,xs)/\N.ν p=some n
   ·obtain⟨p,k,xs,hp,hn⟩:=h2;refine⟨some (aI xs),fun b cs hb VR=>absurd ⟨b,cs,hb,VR⟩ h1,fun p' k' xs' Pb VR=>?_,fun _=>.inr ⟨p,by rw[hp]; rfl,hn⟩⟩;have e:=h.inj p p' n (by rw[hp]; rfl) (by rw[Pb]; rfl) hn VR;subst e;rw[hp] at Pb; cases Pb; rfl
   ·exact⟨none,fun b cs hb hn=>absurd ⟨b,cs,hb,hn⟩ h1,fun p k xs hp hn=>absurd ⟨p,k,xs,hp,hn⟩ h2,fun e=>by cases e⟩
 obtain⟨G,hG⟩:=Classical.axiomOfChoice hP;obtain⟨H2,Lq,hH2⟩:=An Ha.length G;obtain⟨mW,hlφ,UL⟩:∃mW:dQ,mW.length=φ.length/\∀ m,m<φ.length->mW[m]?=some (if (G m).isSome then (φ[m]?).join else none):=⟨(cQ φ.length).map fun m=>if (G m).isSome then (φ[m]?).join else none,by simp,fun m hm=>by simp[hm]⟩;have hlen:=h.heap.len
 have blk2:∀n,n<Ha.length->aO H2 n=G n:=fun n hn=>by
  unfold aO; rw[hH2 n hn]; cases G n<;>rfl
 have sub:∀(n:Nat) (p:Nat × Nat),mW[n]?=some (some p)->φ[n]?=some (some p)/\(G n).isSome:=by
  intro n p hn;have bD:=aC hn;rw[hlφ] at bD;rw[UL n bD] at hn;split at hn
  ·rename_i hg;simp at hn;refine⟨?_,hg⟩;cases e:φ[n]? with
   |none=>rw[e] at hn; cases hn
   |some q=>rw[e] at hn; simp at hn; rw[hn]
  ·simp at hn
 have adU:∀g,bQ mW g->bQ φ g:=fun g ⟨b,sz,e⟩=>⟨b,sz,(sub b _ e).1⟩;have m6:fU φ w mW w:=⟨rfl,rfl,rfl,aY _,aY _,fun g _ iS=>⟨rfl,fun ho=>iS (adU g ho)⟩,⟨by omega,fun b p _ hp=>(sub b p hp).1⟩⟩;have hR:∀a u,Rd X φ w a u->Rd (fun g=>X g\/(bQ φ g/\¬ bQ mW g)) mW w a u:=fun a u ⟨h1,h2,h3⟩=>⟨fun hx=>hx.elim h1 fun hh=>h2 hh.1,fun ho=>h2 (adU _ ho),h3⟩;have mono:∀{x:AV} {u:Value},cB (Rd X φ w) φ x u->cB (Rd (fun g=>X g\/(bQ φ g/\¬ bQ mW g)) mW w) mW x u:=fun r=>r.mono hR m6.ZA
 have boxG:∀b cs,aO s.H b=some cs->aO H2 (N.β b)=some (Wf N (.c b) 0 cs):=fun b cs hb=>by
  rw[blk2 _ (h.tw (by rw[hb]; rfl))];exact (hG (N.β b)).1 b cs hb rfl
 have ownG:∀p k xs n,aD s p=some (k,xs)->N.ν p=some n->aO H2 n=some (aI xs):=fun p k xs n hp hn=>by
  rw[blk2 _ (h.gQ (by rw[hp]; rfl) hn)];exact (hG n).2.1 p k xs hp hn
 have als:∀n,(G n).isSome->n<Ha.length->∀e,φ[n]?=some e->mW[n]?=some e:=fun n hg hn e he=>by
  rw[UL n (by omega),if_pos hg,he]; rfl
 have ae0:cK (fun g=>X g\/(bQ φ g/\¬ bQ mW g)) mW w H2:=by
  refine⟨by omega,fun g hg=>hg.elim (h.heap.FC g) (fun ho=>(h.heap.gQ ho.1).1),fun n cs hn=>?_,fun n hn=>?_,fun n n' g sz nF e1 e2=>h.heap.inj n n' g sz nF (sub _ _ e1).1 (sub _ _ e2).1⟩
  ·have bD:n<Ha.length:=by have:=aC hn; omega
   rw[hH2 n bD] at hn;simp only[ai] at hn;have hg:(G n).isSome:=by rw[hn]; rfl
   have fin:∀{as:List AV},aO Ha n=some as->(∀(i:Nat) (d:AV),cs[i]?=some d->∃a,as[i]?=some a/\Le d a)->cs.length<=as.length->∃(g sz:Nat) (arr:Array Value) (e:TypeId),mW[n]?=some (some (g,sz))/\w.heap[g]?=some (.cells arr e (0,0))/\arr.size=sz/\cs.length<=sz/\¬ (X g\/(bQ φ g/\¬ bQ mW g))/\∀ (i:Nat) (d:AV),cs[i]?=some d->∃u,arr[i]?=some u/\cB (Rd (fun g=>X g\/(bQ φ g/\¬ bQ mW g)) mW w) mW d u:=by
    intro as has eM hle;obtain⟨g,sz,arr,e,g1,g2,g3,g4,g5,g6⟩:=h.heap.at has;have h2:=als n hg bD _ g1;refine⟨g,sz,arr,e,h2,g2,g3,by omega,fun hx=>hx.elim g5 fun hh=>hh.2 ⟨n,sz,h2⟩,fun i d hd=>?_⟩;obtain⟨a,ha,hle2⟩:=eM i d hd;obtain⟨u,u1,u2⟩:=g6 i a ha;exact⟨u,u1,mono (hle2 _ _ _ u2)⟩
   rcases (hG n).2.2 hg with⟨b,hb,hbn⟩|⟨p,hp,hpn⟩
   ·obtain⟨ds,px⟩:=aV.1 hb;have:=(hG n).1 b ds px hbn;rw[hn] at this;simp at this;subst this;obtain⟨as,a1,a2,a3⟩:=h.box b ds px;rw[hbn] at a1;refine fin a1 (fun i d hd=>?_) (by rw[jo]; omega);rw[gV] at hd;cases hi:ds[i]? with
    |none=>rw[hi] at hd; cases hd
    |some d0=>
      rw[hi] at hd;simp at hd;subst hd;obtain⟨_,a',b1,b2⟩:=a3 i d0 hi;exact⟨a',b1,b2⟩
   ·obtain⟨⟨k,xs⟩,hpx⟩:=aV.1 hp;have:=(hG n).2.1 p k xs hpx hpn;rw[hn] at this;simp at this;subst this;have ho:=h.own p k xs hpx;rw[hpn] at ho;obtain⟨cs0,c1,c2,c3,c4⟩:=ho;refine fin c1 (fun i d hd=>?_) (by rw[iq c3]; exact c2);obtain⟨_,a',b1,_,b2⟩:=c4 i d hd;exact⟨a',b1,b2⟩
  ·have bD:n<Ha.length:=by have:=aC hn; omega
   rw[hH2 n bD] at hn;simp only[ai] at hn;rw[UL n (by omega),hn];rfl
 refine⟨mW,H2,⟨⟨fun i=>mono (h.env i),h.Ib,ae0,fun p k xs e=>?_,fun b cs e=>?_,h.inj,h.bx,h.bi⟩,m6,fun n hn=>?_,fun n cs hn d hd=>?_,fun n p hp=>(sub n p hp).1,fun n p hp=>?_,hlφ⟩⟩
 ·have ho:=h.own p k xs e;cases hn:N.ν p with
  |none=>rw[hn] at ho; exact ho
  |some n=>
    rw[hn] at ho;obtain⟨cs0,c1,c2,c3,c4⟩:=ho;refine⟨aI xs,ownG p k xs n e hn,by rw[iq c3]; exact aY _,c3,fun i d hd=>?_⟩;obtain⟨f1,_⟩:=c4 i d hd;exact⟨f1,d,hd,(kD f1).2,Le.refl _⟩
 ·obtain⟨as,a1,a2,a3⟩:=h.box b cs e;refine⟨_,boxG b cs e,jo _ _ _ _,fun j d hd=>?_⟩;obtain⟨b1,_⟩:=a3 j d hd;exact⟨b1,kf N (.c b j) d,by rw[gV,hd]; simp,Le.refl _⟩
 ·obtain⟨cs,eM⟩:=aV.1 hn;have bD:n<Ha.length:=by have:=eI eM; omega
  exact (hG n).2.2 (by rw[<-blk2 n bD]; exact hn)
 ·have fy:∀b,b<s.H.length->(aO H2 (N.β b)).isSome:=fun b hb=>by
   obtain⟨ds,px⟩:=aV.1 (km b hb);rw[boxG b ds px]; rfl
  have kW:∀p,(aD s p).isSome->∀n,N.ν p=some n->(aO H2 n).isSome:=fun p hp n hn=>by
   obtain⟨⟨k,xs⟩,hpx⟩:=aV.1 hp;rw[ownG p k xs n hpx hn]; rfl
  have bD:n<Ha.length:=by have:=eI hn; omega
  rcases (hG n).2.2 (by rw[<-blk2 n bD,hn]; rfl) with⟨b,hb,hbn⟩|⟨p,hp,hpn⟩
  ·obtain⟨ds,px⟩:=aV.1 hb;have e:=boxG b ds px;rw[hbn,hn] at e;cases e;obtain⟨j,hj⟩:=bH hd;rw[gV] at hj;cases hi:ds[j]? with
   |none=>rw[hi] at hj; cases hj
   |some d0=>
     rw[hi] at hj;simp at hj;subst hj;obtain⟨as,a1,a2,a3⟩:=h.box b ds px
     exact acF (o:=aD s) (nb:=s.H.length) fy kW (r:=.c b j) (fun k xs e=>by
      have:aD s (.c b j)=some (k,xs):=cM.2 (by simp only[at_,px,hi,e]);rw[this]; rfl) (a3 j d0 hi).1
  ·obtain⟨⟨k,xs⟩,hpx⟩:=aV.1 hp;have e:=ownG p k xs n hpx hpn;rw[hn] at e;cases e;have ho:=h.own p k xs hpx;rw[hpn] at ho;obtain⟨cs0,c1,c2,c3,c4⟩:=ho;obtain⟨j,hj⟩:=bH hd;exact Yq d (kD (c4 j d hj).1).1
 ·have bD:n<Ha.length:=by have:=aC hp; omega
  rw[blk2 n bD];exact (sub n p hp).2
end
end Go.Bm

/- Calls of functions that share boxes. -/
namespace Go.Bm
open Go.Am
section
variable {P:Program} {X:Nat->Prop} {φ kX φ':dQ} {w w1 w':World} {N N1 N':Names} {s s' s1:St} {Ha:Heap} {B:Nat->Nat} {base:Nat} {v va:AV} {v':Value} {c:fe} {o:Oper} {a:Act} {kd:Kd} {call:Nat->List AV->Heap->Option (AV × Heap)} {t:Nat->Value}
theorem zP:∀{l:List AV},cX l=true->∀(i:Nat) (z:AV),l[i]?=some z->fu z=true
 |[],_,i,z,hz=>by simp at hz
 |y::r,h,i,z,hz=>by
   simp only[cX,ae] at h;cases i with
   |zero=>simp at hz; subst hz; exact h.1
   |succ i=>exact zP h.2 i z (by simpa using hz)
theorem fx.enter (h:fx X φ w N s Ha t) (km:fa s.H=true) {args:List AV} {vargs:Array Value} (hp:cX args=true) (ho:∀(i:Nat) (x:AV),args[i]?=some x->c9 (aD s) s.H.length x) (hr:∀(i:Nat) (x:AV) (v:Value),args[i]?=some x->vargs[i]?=some v->cB (Rd X φ w) φ (df N x) v) (hl:args.length=vargs.size) :
  fx X φ w N ⟨eC 0 args,s.H⟩ Ha (fun i=>vargs.getD i undef):=by
 have Gv:∀i,get (eC 0 args) i=args[i]?.getD .any:=fun i=>by rw[sy]; simp
 have iS:∀i,bX (get (eC 0 args) i)=false:=fun i=>by
  rw[Gv];cases e:args[i]? with
  |none=>rfl
  |some x=>exact AX (zP hp i x e)
 have own:∀{p},(aD ⟨eC 0 args,s.H⟩ p).isSome->∃b j,p=.c b j:=by
  intro p Pb;cases p with
  |s i=>rw[(eH (s:=⟨eC 0 args,s.H⟩) (iS i)).1] at Pb; cases Pb
  |sc i j=>rw[(eH (s:=⟨eC 0 args,s.H⟩) (iS i)).2 j] at Pb; cases Pb
  |c b j=>exact⟨b,j,rfl⟩
 have box:∀b j,aD ⟨eC 0 args,s.H⟩ (.c b j)=aD s (.c b j):=fun b j=>rfl;obtain⟨_,hbor⟩:=Fx km;have aeU:∀{p:Rt},cC p=false->∃b j,p=.c b j:=fun{p} hp=>by cases p<;>simp[cC] at hp; exact⟨_,_,rfl⟩
 refine⟨fun i=>?_,fun i=>?_,h.heap,fun p k xs e=>?_,fun b cs e=>?_,fun p q n e1 e2 e3 e4=>?_,fun b p e1 e2 e3=>?_,h.bi⟩
 ·show cB _ _ (lK N i (get (eC 0 args) i)) _;rw[AN N i (iS i),Gv];cases e:args[i]? with
  |none=>exact .any _ _
  |some x=>
    obtain⟨v,hv⟩:=dc (l:=vargs) (i:=i) (by have:=aC e; omega);simp only[Option.getD_some];rw[bn,hv];exact hr i x v e hv
 ·show c9 _ _ (get (eC 0 args) i);rw[Gv];cases e:args[i]? with
  |none=>trivial
  |some x=>exact Kk (aY _) x (zP hp i x e) (ho i x e)
 ·obtain⟨b,j,rfl⟩:=own (p:=p) (by rw[e]; rfl);exact h.own _ k xs e
 ·obtain⟨as,g1,g2,g3⟩:=h.box b cs e;refine⟨as,g1,g2,fun j d hd=>?_⟩;obtain⟨g4,g5⟩:=g3 j d hd;refine⟨ID (aY _) d (fun p Pb=>?_) g4,g5⟩;obtain⟨b',j',rfl⟩:=aeU (hbor b cs e p (lZ hd Pb));rfl
 ·obtain⟨b,j,rfl⟩:=own e1;obtain⟨b',j',rfl⟩:=own e2;exact h.inj _ _ n e1 e2 e3 e4
 ·obtain⟨b',j,rfl⟩:=own e2;exact h.bx b (.c b' j) e1 e2 e3
theorem shared (h:fx X φ w N s Ha t) (hb:(∀b,b<base->N.β b=B b)/\base<=s.H.length) {Xq:Env} {t0:Nat->Value} {mW:dQ} {H2:Heap} (hn:Norm X φ w N ⟨Xq,s.H⟩ t0 mW H2) (h0:∀i,bX (get Xq i)=false)
  {r:AV} {H' H1:Heap} {t1:Nat->Value} (gJ:fx (fun g=>X g\/(bQ φ g/\¬ bQ mW g)) kX w1 N1 ⟨[(0,r)],H'⟩ H1 t1) (ad:fU mW w kX w1) (fy:∀b,b<s.H.length->N1.β b=N.β b) (hle:s.H.length<=H'.length) (Pf:fa H'=true) (hbr:aU r=[]) (iS:bX r=false) :
  ∃ φ',eR X φ' w1 B base ⟨k8 iX s.env,H'⟩ r t (t1 0)/\fU φ w φ' w1:=by
 obtain⟨aaB,hbor⟩:=Fx Pf;have aeU:∀{p:Rt},cC p=false->∃b j,p=.c b j:=fun{p} hp=>by cases p<;>simp[cC] at hp; exact⟨_,_,rfl⟩
 obtain⟨Nk,H3,h3⟩:=gJ.norm aaB;have l3:=h3.AR.heap.len;have l1:=h.heap.len;have l2:=hn.len;have l2h:=hn.AR.heap.len;have pl:AB mW Nk:=ad.ZA.trans h3.m6.ZA;have hlen:φ.length<=Nk.length:=by have:=pl.len; omega
 have ad2:fU mW w Nk w1:=ad.trans h3.m6
 -- hidden: known to the caller, not to the callee
 let tI:Nat->Bool:=fun n=>decide (n<φ.length)&&!(mW[n]?.join).isSome
 have hid3:∀n,tI n=true->Nk[n]?=some none/\aO H3 n=none:=by
  intro n hh;simp only[tI,ae,decide_eq_true_eq,bR] at hh;obtain⟨bD,hj⟩:=hh;obtain⟨e,he⟩:=bu (l:=Nk) (i:=n) (by omega)
  have h3n:Nk[n]?=some none:=by
   cases e with
   |none=>exact he
   |some p=>
     have:=pl.OJ n p (by omega) he;rw[this] at hj; simp at hj
  refine⟨h3n,?_⟩;cases hb3:aO H3 n with
  |none=>rfl
  |some cs=>
    obtain⟨g,sz,arr,ty,g1,_⟩:=h3.AR.heap.at hb3;rw[h3n] at g1; cases g1
 have OU:∀n,(aO H3 n).isSome->tI n=false:=fun n hb3=>by
  cases hh:tI n with
  |false=>rfl
  |true=>rw[(hid3 n hh).2] at hb3; cases hb3
 obtain⟨φ4,hl4,hφ4⟩:∃φ4:dQ,φ4.length=Nk.length/\∀ m,m<Nk.length->φ4[m]?=if tI m then φ[m]? else Nk[m]?:=by
  refine⟨(cQ Nk.length).map fun m=>if tI m then (φ[m]?).join else (Nk[m]?).join,by simp,fun m hm=>?_⟩;simp only[ct,List.getElem?_range hm,dE];split
  ·rename_i hh;have bD:m<φ.length:=by simp only[tI,ae,decide_eq_true_eq] at hh; exact hh.1
   rw[an bD]; rfl
  ·rw[an hm]; rfl
 obtain⟨H4,hlh4,hH4⟩:=An H3.length fun m=>if tI m then (Ha[m]?).join else (H3[m]?).join
 have V8:∀n,tI n=true->φ4[n]?=φ[n]?:=fun n hh=>by
  have bD:n<φ.length:=by simp only[tI,ae,decide_eq_true_eq] at hh; exact hh.1
  rw[hφ4 n (by omega),if_pos hh]
 have Sr:∀n,tI n=false->φ4[n]?=Nk[n]?:=fun n hh=>by
  by_cases bD:n<Nk.length
  ·rw[hφ4 n bD,hh]; rfl
  ·rw[fj (by omega),fj (by omega)]
 have H4h:∀n,tI n=true->H4[n]?=Ha[n]?:=fun n hh=>by
  have bD:n<φ.length:=by simp only[tI,ae,decide_eq_true_eq] at hh; exact hh.1
  rw[hH4 n (by omega),if_pos hh,an (by omega)]; rfl
 have H4n:∀n,tI n=false->H4[n]?=H3[n]?:=fun n hh=>by
  by_cases bD:n<H3.length
  ·rw[hH4 n bD,hh,an bD]; rfl
  ·rw[fj (by omega),fj (by omega)]
 have anH:∀n,tI n=true->aO H4 n=aO Ha n:=fun n hh=>by unfold aO; rw[H4h n hh]
 have aju:∀n,tI n=false->aO H4 n=aO H3 n:=fun n hh=>by unfold aO; rw[H4n n hh]
 have own4:∀{g},bQ φ4 g->(∃n sz,tI n=true/\φ[n]?=some (some (g,sz)))\/∃ n sz,tI n=false/\Nk[n]?=some (some (g,sz)):=by
  rintro g ⟨n,sz,e⟩;cases hh:tI n with
  |true=>rw[V8 n hh] at e; exact .inl ⟨n,sz,hh,e⟩
  |false=>rw[Sr n hh] at e; exact .inr ⟨n,sz,hh,e⟩
 have hidX:∀{n g sz},tI n=true->φ[n]?=some (some (g,sz))->bQ φ g/\¬ bQ mW g:=by
  intro n g sz hh e;refine⟨⟨n,sz,e⟩,fun⟨m,nF,e'⟩=>?_⟩;have:=h.heap.inj n m g sz nF e (hn.sub m _ e');subst this;simp only[tI,ae,decide_eq_true_eq,bR] at hh;rw[e'] at hh; simp at hh
 have sub2:∀{g},bQ mW g->bQ φ g:=fun⟨m,sz,e⟩=>⟨m,sz,hn.sub m _ e⟩
 have m6:fU φ w φ4 w1:=by
  refine⟨ad2.os,ad2.tape,ad2.output,ad2.drawn,ad2.size,fun g hg iS=>?_,⟨by omega,fun n p bD hp=>?_⟩⟩
  ·obtain⟨k1,k2⟩:=ad2.keep g hg (fun ho=>iS (sub2 ho));refine⟨k1,fun ho=>?_⟩;rcases own4 ho with⟨n,sz,_,e⟩|⟨n,sz,_,e⟩
   ·exact iS ⟨n,sz,e⟩
   ·exact k2 ⟨n,sz,e⟩
  ·cases hh:tI n with
   |true=>rwa [V8 n hh] at hp
   |false=>
     rw[Sr n hh] at hp;exact hn.sub n p (pl.OJ n p (by omega) hp)
 -- values of the callee
 have hR:∀a u,Rd (fun g=>(X g\/(bQ φ g/\¬ bQ mW g))\/(bQ kX g/\¬ bQ Nk g)) Nk w1 a u->Rd X φ4 w1 a u:=fun a u ⟨p1,p2,p3⟩=>⟨fun hx=>p1 (.inl (.inl hx)),fun ho=>by
  rcases own4 ho with⟨n,sz,hh,e⟩|⟨n,sz,_,e⟩
  ·exact p1 (.inl (.inr (hidX hh e)))
  ·exact p2 ⟨n,sz,e⟩,p3⟩
 have tr34:∀{x:AV} {u:Value},jY (fun m=>(aO H3 m).isSome) x->cB (Rd (fun g=>(X g\/(bQ φ g/\¬ bQ mW g))\/(bQ kX g/\¬ bQ Nk g)) Nk w1) Nk x u->cB (Rd X φ4 w1) φ4 x u:=fun hx r=>cB.refs hR r hx (by omega) fun b hb4 p hp=>by rwa [Sr b (OU b hb4)] at hp
 have ae0:cK X φ4 w1 H4:=by
  refine⟨by omega,fun g hg=>Nat.lt_of_lt_of_le (h.heap.FC g hg) ad2.size,fun n cs e=>?_,fun n e=>?_,fun n n' g sz nF e1 e2=>?_⟩
  ·cases hh:tI n with
   |true=>
     rw[H4h n hh] at e;obtain⟨g,sz,arr,ty,g1,g2,g3,g4,g5,g6⟩:=h.heap.live n cs e;have hx:=hidX hh g1;refine⟨g,sz,arr,ty,by rw[V8 n hh]; exact g1,?_,g3,g4,g5,fun i d hd=>?_⟩
     ·rw[(ad2.keep g (h.heap.gQ hx.1).1 hx.2).1]; exact g2
     ·obtain⟨u,u1,u2⟩:=g6 i d hd;exact⟨u,u1,m6.rep u2⟩
   |false=>
     rw[H4n n hh] at e;obtain⟨g,sz,arr,ty,g1,g2,g3,g4,g5,g6⟩:=h3.AR.heap.live n cs e;refine⟨g,sz,arr,ty,by rw[Sr n hh]; exact g1,g2,g3,g4,fun hx=>g5 (.inl (.inl hx)),fun i d hd=>?_⟩;obtain⟨u,u1,u2⟩:=g6 i d hd;exact⟨u,u1,tr34 (h3.refs n cs (r9.2 e) d (bt hd)) u2⟩
  ·cases hh:tI n with
   |true=>rw[H4h n hh] at e; rw[V8 n hh]; exact h.heap.dead n e
   |false=>rw[H4n n hh] at e; rw[Sr n hh]; exact h3.AR.heap.dead n e
  ·have mix:∀{n n' sz nF},tI n=true->tI n'=false->φ[n]?=some (some (g,sz))->Nk[n']?=some (some (g,nF))->False:=by
    intro n n' sz nF hh hh' e1 e2;obtain⟨cs,eM⟩:=aV.1 (h3.live n' _ e2);obtain⟨g',sz2,arr,ty,g1,_,_,_,g5,_⟩:=h3.AR.heap.at eM;rw[e2] at g1; cases g1;exact g5 (.inl (.inr (hidX hh e1)))
   cases hh:tI n with
   |true=>
     rw[V8 n hh] at e1;cases hh':tI n' with
     |true=>rw[V8 n' hh'] at e2; exact h.heap.inj n n' g sz nF e1 e2
     |false=>rw[Sr n' hh'] at e2; exact (mix hh hh' e1 e2).elim
   |false=>
     rw[Sr n hh] at e1;cases hh':tI n' with
     |true=>rw[V8 n' hh'] at e2; exact (mix hh' hh e2 e1).elim
     |false=>rw[Sr n' hh'] at e2; exact h3.AR.heap.inj n n' g sz nF e1 e2
 -- names
 let Nb:Names:=⟨N1.β,N.ν⟩
 let N4:Names:=⟨N1.β,fun p=>match p with
  |.c b j=>N1.ν (.c b j)
  |p=>N.ν p⟩
 have adT:∀i,aD ⟨k8 iX s.env,H'⟩ (.s i)=aD s (.s i):=fun i=>by
  rw[<-jd A5 s (.s i)]; rfl
 have WB:∀i j,aD ⟨k8 iX s.env,H'⟩ (.sc i j)=aD s (.sc i j):=fun i j=>by
  rw[<-jd A5 s (.sc i j)]; rfl
 have amZ:∀b j,aD ⟨k8 iX s.env,H'⟩ (.c b j)=aD ⟨[(0,r)],H'⟩ (.c b j):=fun b j=>rfl
 have PZ:∀{p},(aD ⟨k8 iX s.env,H'⟩ p).isSome->((∃b j,p=.c b j)/\aD ⟨k8 iX s.env,H'⟩ p=aD ⟨[(0,r)],H'⟩ p/\N4.ν p=N1.ν p)\/((∀b j,p≠.c b j)/\aD ⟨k8 iX s.env,H'⟩ p=aD s p/\N4.ν p=N.ν p):=by
  intro p hp;cases p with
  |s i=>exact .inr ⟨(fun _ _ e=>by cases e),adT i,rfl⟩
  |sc i j=>exact .inr ⟨(fun _ _ e=>by cases e),WB i j,rfl⟩
  |c b j=>exact .inl ⟨⟨b,j,rfl⟩,amZ b j,rfl⟩
 -- blocks of slots are hidden
 have RG:∀{p n},(∀b j,p≠.c b j)->(aD s p).isSome->N.ν p=some n->tI n=true:=by
  intro p n O9 hp hnu;have bD:n<Ha.length:=h.gQ hp hnu;simp only[tI,ae,decide_eq_true_eq,bR];refine⟨by omega,?_⟩;cases e:(mW[n]?).join with
  |none=>rfl
  |some q=>
    exfalso
    have e':mW[n]?=some (some q):=by
     cases e2:mW[n]? with
     |none=>rw[e2] at e; cases e
     |some z=>rw[e2] at e; simp at e; rw[e]
    rcases hn.good n (hn.live n q e') with⟨b,Cb,vS⟩|⟨p',hp1,hp2⟩
    ·exact h.bx b p Cb hp (by rw[hnu,<-vS])
    ·have hc:∃b j,p'=.c b j:=by
      cases p' with
      |s i=>rw[(eH (s:=⟨Xq,s.H⟩) (h0 i)).1] at hp1; cases hp1
      |sc i j=>rw[(eH (s:=⟨Xq,s.H⟩) (h0 i)).2 j] at hp1; cases hp1
      |c b j=>exact⟨b,j,rfl⟩
     obtain⟨b,j,rfl⟩:=hc;have:=h.inj p (.c b j) n hp hp1 hnu hp2;exact O9 b j this
 have box3:∀b,(aO H' b).isSome->(aO H3 (N1.β b)).isSome:=fun b iK=>by
  obtain⟨cs,eM⟩:=aV.1 iK;obtain⟨as,a1,_⟩:=h3.AR.box b cs eM;rw[a1]; rfl
 have own3:∀{p n},(aD ⟨[(0,r)],H'⟩ p).isSome->N1.ν p=some n->(aO H3 n).isSome:=by
  intro p n hp hnu;obtain⟨⟨k,xs⟩,e⟩:=aV.1 hp;have:=h3.AR.own p k xs e;rw[hnu] at this;obtain⟨cs,h1,_⟩:=this;rw[h1]; rfl
 have hl:∀k p a l,(c9 (aD s) s.H.length (.eE k p a l)->c9 (aD ⟨k8 iX s.env,H'⟩) s.H.length (iX (.eE k p a l))/\Le (df N4 (iX (.eE k p a l))) (df Nb (.eE k p a l)))/\(c9 (aD s) s.H.length (.fP k p a l)->c9 (aD ⟨k8 iX s.env,H'⟩) s.H.length (iX (.fP k p a l))/\Le (df N4 (iX (.fP k p a l))) (df Nb (.fP k p a l))):=by
  intro k p a l;cases p with
  |s i=>
    refine⟨fun h=>⟨?_,Le.refl _⟩,fun h=>⟨?_,Le.refl _⟩⟩
    ·simp only[iX,c9] at h ⊢; rw[adT]; exact h
    ·simp only[iX,c9] at h ⊢; rw[adT]; exact h
  |sc i j=>
    refine⟨fun h=>⟨?_,Le.refl _⟩,fun h=>⟨?_,Le.refl _⟩⟩
    ·simp only[iX,c9] at h ⊢; rw[WB]; exact h
    ·simp only[iX,c9] at h ⊢; rw[WB]; exact h
  |c b j=>exact⟨fun _=>⟨trivial,Le.any _⟩,fun _=>⟨trivial,Le.any _⟩⟩
 have hsim:fx X φ4 w1 N4 ⟨k8 iX s.env,H'⟩ H4 t:=by
  refine⟨fun i=>?_,fun i=>?_,ae0,fun p k xs e=>?_,fun b cs e=>?_,fun p q n e1 e2 e3 e4=>?_,fun b p e1 e2 e3=>?_,fun b d e1 e2 e3=>h3.AR.bi b d e1 e2 e3⟩
  ·show cB _ _ (lK N4 i (get (k8 iX s.env) i)) _;rw[dT];have r0:=m6.rep (h.env i);have e0:lK N i (get s.env i)=lK Nb i (get s.env i):=Cg (N:=Nb) (N':=N) (o:=aD s) (nb:=s.H.length) (fun b iK=>(fy b iK).symm) (fun _ _=>rfl) rfl (fun _=>rfl) (h.Ib i);rw[e0] at r0;refine aeG (N:=Nb) (N':=N4) (x:=get s.env i) (y:=cZ iX (get s.env i)) (fun cs eM=>⟨dq iX cs,by rw[eM]; rfl,cW _ _,fun j c d hc hd=>?_⟩) (fun hna=>⟨nj A5 hna,?_⟩) _ _ _ r0
   ·rw[ft,hc] at hd;simp at hd;subst hd;have dG:=h.Ib i;rw[eM] at dG;simp only[c9] at dG;exact (nk (N:=Nb) (N':=N4) (o:=aD s) (o':=aD ⟨k8 iX s.env,H'⟩) (nb:=s.H.length) (g:=iX) rfl A5 hl (r:=.sc i j) (fun _ _ _=>rfl) (hZ.1 dG j c hc)).2
   ·exact (nk (N:=Nb) (N':=N4) (o:=aD s) (o':=aD ⟨k8 iX s.env,H'⟩) (nb:=s.H.length) (g:=iX) rfl A5 hl (r:=.s i) (fun _ _ _=>rfl) (h.Ib i)).2
  ·show c9 _ H'.length (get (k8 iX s.env) i);rw[dT];exact kh (fun _ _=>rfl) hle _ (Rh (N:=Nb) (N':=N4) (o:=aD s) (o':=aD ⟨k8 iX s.env,H'⟩) (nb:=s.H.length) (g:=iX) rfl A5 hl _ (h.Ib i)).1
  ·rcases PZ (p:=p) (by rw[e]; rfl) with⟨⟨b,j,rfl⟩,e1,e2⟩|⟨O9,e1,e2⟩
   ·rw[e1] at e;rw[e2];exact (h3.AR.own _ k xs e).same fun n hnu=>aju n (OU n (own3 (by rw[e]; rfl) hnu))
   ·rw[e1] at e;rw[e2];exact (h.own p k xs e).same fun n hnu=>anH n (RG O9 (by rw[e]; rfl) hnu)
  ·obtain⟨as,a1,a2,a3⟩:=h3.AR.box b cs e;refine⟨as,by show aO H4 (N1.β b)=_; rw[aju _ (OU _ (by rw[a1]; rfl))]; exact a1,a2,fun j d hd=>?_⟩;obtain⟨b1,a',b2,b3⟩:=a3 j d hd;have hbx:∀p∈aU d,∃b j,p=.c b j:=fun p hp=>aeU (hbor b cs e p (lZ hd hp));refine⟨ID (aY _) d (fun p hp=>?_) b1,a',b2,?_⟩
   ·obtain⟨b',j',rfl⟩:=hbx p hp; rfl
   ·have:kf N4 (.c b j) d=kf N1 (.c b j) d:=Nt (N:=N1) (N':=N4) rfl (fun _ _ _=>rfl) fun p hp=>by obtain⟨b',j',rfl⟩:=hbx p hp; rfl
    rw[this]; exact b3
  ·rcases PZ e1 with⟨hc1,o1,u1⟩|⟨hc1,o1,u1⟩<;>rcases PZ e2 with⟨Lr,o2,u2⟩|⟨Lr,o2,u2⟩<;>rw[o1] at e1<;>rw[o2] at e2<;>rw[u1] at e3<;>rw[u2] at e4
   ·exact h3.AR.inj p q n e1 e2 e3 e4
   ·have a1:=OU n (own3 e1 e3);have a2:=RG Lr e2 e4;rw[a1] at a2; cases a2
   ·have a1:=OU n (own3 e2 e4);have a2:=RG hc1 e1 e3;rw[a1] at a2; cases a2
   ·exact h.inj p q n e1 e2 e3 e4
  ·rcases PZ e2 with⟨Lr,o2,u2⟩|⟨Lr,o2,u2⟩<;>rw[o2] at e2<;>rw[u2] at e3
   ·exact h3.AR.bx b p e1 e2 e3
   ·have a1:=OU _ (box3 b e1);have a2:=RG Lr e2 e3;have a3:tI (N1.β b)=true:=a2;rw[a1] at a3; cases a3
 have hr0:=h3.AR.env 0;simp only[Am.get,if_true] at hr0;rw[AN N1 0 iS] at hr0;have hok0:=h3.AR.Ib 0;simp only[Am.get,if_true] at hok0;refine⟨φ4,eR.quiet hsim ⟨fun b iK=>?_,Nat.le_trans hb.2 hle⟩ (ID (aY _) r (fun p hp=>by rw[hbr] at hp; simp at hp) hok0) (nu iS) ?_,m6⟩
 ·show N1.β b=B b;rw[fy b (by have:=hb.2; omega)]; exact hb.1 b iK
 ·rw[mg N4 iS];have:df N4 r=df N1 r:=Jf (N:=N1) (N':=N4) rfl fun p hp=>by rw[hbr] at hp; simp at hp
  rw[this];refine tr34 (P8 (o:=aD ⟨[(0,r)],H'⟩) (nb:=H'.length) (fun b iK=>box3 b (aaB b iK)) (fun p hp n hnu=>own3 hp hnu) r hok0) hr0
theorem acp (dG:gF P c) (eQ:ji P c call):Mj P c call:=by
 intro X φ w B base s o a kd f args md q r H' hk h hg ha hf hm hp km hbr iS Pf hc;obtain⟨N,Ha,h,hb⟩:=h;obtain⟨vargs,mY,hA,Aj⟩:=xk dG h hg hk ha hf
 have hent:fx X φ w N ⟨eC 0 (args.map eV),s.H⟩ Ha (fun i=>vargs.getD i undef):=by
  refine h.enter km hp (fun i x hx=>?_) (fun i x v hx hv=>?_) (by simpa using hA.1)
  ·rw[ct] at hx;cases HR:args[i]? with
   |none=>rw[HR] at hx; cases hx
   |some y=>
     rw[HR] at hx;simp at hx;subst hx;have hy:=hZ.1 Aj i y HR;unfold eV;split
     ·trivial
     ·exact hy
  ·rw[ct] at hx;cases HR:args[i]? with
   |none=>rw[HR] at hx; cases hx
   |some y=>
     rw[HR] at hx;simp at hx;subst hx;have r0:=hA.2 i y v HR hv;have UP:=zP hp i (eV y) (by rw[ct,HR]; rfl);by_cases ho:∃k,y=.own k []
     ·obtain⟨k,rfl⟩:=ho;simp only[ig] at r0;cases r0;exact .kJ _ _
     ·have hn:eV y=y:=by
       unfold eV;split
       ·rename_i k; exact absurd ⟨k,rfl⟩ ho
       ·rfl
      rw[hn] at UP ⊢;have hy:ig N y=df N y:=by cases y<;>first|rfl|(simp[fu] at UP; done)
      rw[hy] at r0;exact r0
 obtain⟨aaB,_⟩:=Fx km;obtain⟨mW,H2,hn⟩:=hent.norm aaB
 have h0:∀i,bX (get (eC 0 (args.map eV)) i)=false:=fun i=>by
  rw[sy];simp only[Nat.zero_le,if_true,Nat.sub_zero];cases e:(args.map eV)[i]? with
  |none=>rfl
  |some x=>exact AX (zP hp i x e)
 have jr:=eQ f md q hf (args.map eV) s.H r H' (.inl hm) hc (fun _=>Pf) (fun g=>X g\/(bQ φ g/\¬ bQ mW g)) mW w N.β vargs (by simpa using hA.1) ⟨N,H2,hn.AR,fun _ _=>rfl,aY _⟩ (fun g=>(hg g).mono (fun a u ⟨h1,h2,h3⟩=>⟨fun hx=>hx.elim h1 fun hh=>h2 hh.1,fun⟨m,sz,e⟩=>h2 ⟨m,sz,hn.sub m _ e⟩,h3⟩) (.refl _));intro K Q hK;unfold Oper.wp;rw[mY,Oper.upon_enter];refine jr.mono ?_;rintro e w1 ⟨v',kX,rfl,⟨N1,H1,gJ,Cb,hle⟩,ad⟩;obtain⟨φ',xe,ad'⟩:=shared h hb hn h0 gJ ad Cb hle Pf hbr iS;exact hK v' w1 φ' (by simpa using xe) ad'
end
end Go.Bm

/- The machine by value is sound. -/
namespace Go.Bm
open Go.Am
section
variable {P:Program} {c:fe}
theorem acm (dG:gF P c) (rG:AG P c) (Ai:AD P c) (n:Nat):VH P c n:=
 Wl dG rG Ai (fun call hc=>acp dG hc) (fun call hc=>alQ dG (ai5 dG rG hc (acp dG hc))) (fun n hs=>shOK dG Ai hs) n
theorem al3 (dG:gF P c) (rG:AG P c) (Ai:AD P c) (n:Nat):ji P c (jN c n):=PE dG Ai (acm dG rG Ai n) (shOK dG Ai (acm dG rG Ai n))
theorem afA (dG:gF P c) (rG:AG P c) (Ai:AD P c) {n f:Nat} {md:Md} {q:fK} (hf:c.fn f=some (md,q)) (kb:md.sh=false) {args:List AV} (hz:dP args=true) {r:AV} {H':Heap} (h:jN c n f args []=some (r,H')) (hr:pl r=true) {w:World} {vargs:Array Value}
  (ha:tC (fun _=>False) [] w args vargs) (hg:Am.e9 (ju c) (fun _=>False) [] w):Calls P f vargs w (fun e w'=>∃v,e=.returned v/\cB (Rd (fun _=>False) [] w') [] r v/\RowKit.Below w.heap.size w w'):=
 ab0 dG (al3 dG rG Ai n) hf kb hz h hr ha hg
end
end Go.Bm

/- More fuel gives the same; runs without counting fuel. -/
namespace Go.Bm
open Go.Am
section
variable {c:fe}
abbrev nX:=Nat->List AV->Heap->Option (AV × Heap)
def LeC (f g:nX):Prop:=∀n a H r,f n a H=some r->g n a H=some r
theorem Xt {f g:nX} (h:LeC f g) {kd:Kd} {s:St} {x:AV × St × Fq} (e:eU c f kd s=some x):eU c g kd s=some x:=by
 unfold eU at e ⊢;split at e
 ·cases e
 rename_i n args ha
 try simp only[ha]
 split at e
 ·cases e
 rename_i md q hf
 try simp only[hf]
 split at e
 ·rename_i hm
  try rw[if_pos hm]
  split at e
  ·cases e
  rename_i ud hz
  try simp only[hz]
  split at e
  case h_2=>cases e
  rename_i r H' hc;rw[h _ _ _ _ hc];exact e
 ·rename_i hm
  try rw[if_neg hm]
  split at e
  ·cases e
  rename_i n1 qd M7
  try simp only[M7]
  split at e
  case isFalse=>cases e
  rename_i hff
  try rw[if_pos hff]
  split at e
  ·rename_i kb
   try rw[if_pos kb]
   split at e
   case isFalse=>cases e
   rename_i hp
   try rw[if_pos hp]
   split at e
   case h_2=>cases e
   rename_i r H' hc;rw[h _ _ _ _ hc];exact e
  ·rename_i kb
   try rw[if_neg kb]
   split at e
   case isFalse=>cases e
   rename_i hp
   try rw[if_pos hp]
   split at e
   case h_2=>cases e
   rename_i r H' hc;rw[h _ _ _ _ hc];exact e
theorem K0 {f:nX} {s:St} {kd:Kd} (h:nY c f s kd=none) (g:nX):nY c g s kd=none:=by
 unfold nY at h ⊢;split at h
 ·split at h
  ·cases h
  ·rename_i hl;exact if_neg hl
 ·rfl
theorem aad {f:nX} {s:St} {kd:Kd} {v:AV} {s1:St} {fl:Fq} (h:nY c f s kd=some (some (v,s1,fl))):∃n args H r H',f n args H=some (r,H')/\∀ g:nX,g n args H=some (r,H')->nY c g s kd=some (some (v,s1,fl)):=by
 obtain⟨n,x,es,b,md,q,cs,cs',rfl,h1,h2,h3,h4,h5,h6,h7,rfl,rfl⟩:=z6 h;refine⟨_,_,_,_,_,h6,fun g hg=>?_⟩;unfold nY;simp only;rw[if_pos h1];unfold locV;rw[h2];simp only[h3,h4];rw[if_pos h5,hg];simp only;rw[if_pos h7]
theorem ag4 {f g:nX} (h:LeC f g) {kd:Kd} {s:St} {x:AV × St × Fq} (e:nY c f s kd=some (some x)):nY c g s kd=some (some x):=by
 obtain⟨v,s1,fl⟩:=x;obtain⟨n,args,H,r,H',h1,h2⟩:=aad e;exact h2 g (h _ _ _ _ h1)
theorem agY {f:nX} {fn i:Nat} {s:St} {xs:List AV} {x:AV × St × Fq} (e:TY c f fn i s xs=some x):∃n args H r H',f n args H=some (r,H')/\∀ g:nX,g n args H=some (r,H')->TY c g fn i s xs=some x:=by
 unfold TY at e ⊢;split at e
 case h_2=>cases e
 rename_i md q k p len hf ha;split at e
 case h_2=>cases e
 rename_i k' ys hp;split at e
 case isFalse=>cases e
 rename_i hc;split at e
 case h_2=>cases e
 rename_i k2 zs H' M5;refine⟨_,_,_,_,_,M5,fun g hg=>?_⟩;rw[if_pos hc,hg];exact e
theorem ON {f:nX} {kd:Kd} {s:St} {x:AV × St × Fq} (e:uI c f s kd=some (some x)):∃n args H r H',f n args H=some (r,H')/\∀ g:nX,g n args H=some (r,H')->uI c g s kd=some (some x):=by
 unfold uI at e;split at e
 case h_2=>cases e
 rename_i fn es;split at e
 case h_2=>cases e
 rename_i i hi;simp only[ai] at e;obtain⟨n,args,H,r,H',h1,h2⟩:=agY e;exact⟨n,args,H,r,H',h1,fun g hg=>by simp only[uI,hi,h2 g hg]⟩
theorem Dq {f:nX} {kd:Kd} {s:St} (h:uI c f s kd=none) (g:nX):uI c g s kd=none:=by
 unfold uI at h ⊢;split at h
 ·split at h
  ·cases h
  ·rename_i hm;simp only
 ·rfl
theorem Xu {f g:nX} (h:LeC f g) {kd:Kd} {s:St} {x:AV × St × Fq} (e:ia c f kd s=some x):ia c g kd s=some x:=by
 unfold ia at e ⊢;cases hm:uI c f s kd with
 |none=>
   rw[hm] at e;rw[Dq hm g];obtain⟨v,s1,fl⟩:=x;rcases j9 e with e|e
   ·exact tj (Xt h e)
   ·obtain⟨n,args,H,r,H',h1,h2⟩:=Yb e;exact LJ (h2 g (h _ _ _ _ h1))
 |some r=>
   rw[hm] at e;simp only at e;subst e;obtain⟨n,args,H,r,H',h1,h2⟩:=ON hm;rw[h2 g (h _ _ _ _ h1)]
theorem LK {f g:nX} (h:LeC f g) {kd:Kd} {s:St} {x:AV × St × Fq} (e:dZ c f kd s=some x):dZ c g kd s=some x:=by
 unfold dZ at e ⊢;cases hi:rF c s kd with
 |some r=>rw[hi] at e; exact e
 |none=>
   rw[hi] at e;cases hl:nY c f s kd with
   |none=>rw[hl] at e; rw[K0 hl g]; exact Xu h e
   |some r=>
     rw[hl] at e;simp only at e;subst e;rw[ag4 h hl]
theorem Ks {f g:nX} {s:St} {kd:Kd} (h:nM kd=false):gH c f s kd=gH c g s kd:=by
 cases kd<;>first|rfl|(simp[nM] at h)
theorem QQ {f g:nX} (h:LeC f g) {kd:Kd} {s:St} {x:AV × St × Fq} (e:gH c f s kd=some x):gH c g s kd=some x:=by
 cases hk:nM kd with
 |false=>rw[<-Ks (f:=f) hk]; exact e
 |true=>
   cases kd<;>simp[nM] at hk
   ·simp only[gH] at e ⊢; exact LK h e
   ·simp only[gH] at e ⊢; exact LK h e
theorem Jj {f g:nX} (h:LeC f g) {s:St} {o:O} {x:St × Fq} (e:tQ c f s o=some x):tQ c g s o=some x:=by
 have op:∀{y:AV × St × Fq} {K:AV × St × Fq->Option (St × Fq)},gH c f s o.kd=some y->gH c g s o.kd=some y:=fun h'=>QQ h h';rw[yW] at e ⊢;cases hv:HV c f s o with
 |none=>rw[hv] at e; cases e
 |some y=>
   have:HV c g s o=some y:=by
    unfold HV at hv ⊢;split at hv
    ·exact QQ h hv
    ·split at hv
     ·split at hv
      ·rename_i hb; simp only[hb,if_true]; exact QQ h hv
      ·rename_i hb; simp only[hb,if_false]; exact hv
     ·exact hv
     ·cases hv
   rw[hv] at e;rw[this];exact e
theorem IB {f g:nX} (h:LeC f g):∀{os:List O} {s:St} {x:St × List Fq},nI c f os s=some x->nI c g os s=some x
 |[],s,x,e=>e
 |o::r,s,x,e=>by
   simp only[nI] at e ⊢;split at e
   case h_2=>cases e
   rename_i s1 fl h1;rw[Jj h h1];simp only;split at e
   case h_2=>cases e
   rename_i s2 rH h2;rw[IB h h2];exact e
def LeR (f g:Nat->C->St->Option (Ex × St)):Prop:=∀b cd s x,f b cd s=some x->g b cd s=some x
theorem LZ {f g:Nat->C->St->Option (Ex × St)} (h:LeR f g):LeC (nV c f) (nV c g):=by
 intro n a H r e;unfold nV at e ⊢;split at e
 ·exact e
 split at e
 ·cases e
 split at e
 case isFalse=>cases e
 rename_i md fn hf hl;simp only[hl,if_true];split at e
 ·rename_i s' hs; rw[h _ _ _ _ hs]; exact e
 ·rename_i s' hs; rw[h _ _ _ _ hs]; exact e
 ·cases e
theorem LO:∀n,LeR (dm c n) (dm c (n+1))
 |0=>fun b cd s x e=>by simp[dm] at e
 |n+1=>by
   have ih:=LO n;intro b cd s x e;unfold dm at e ⊢;cases cd with
   |skip=>exact e
   |ret=>exact e
   |exit i=>exact e
   |aN os dr un keep=>
     simp only at e ⊢;split at e
     case h_2=>cases e
     rename_i s' rH hs;rw[IB (LZ ih) hs];exact e
   |seq a b'=>
     simp only at e ⊢;cases h1:dm c n b a s with
     |none=>rw[h1] at e; cases e
     |some y=>
       obtain⟨ex,s1⟩:=y;rw[h1] at e;rw[ih _ _ _ _ h1];cases ex with
       |normal=>exact ih _ _ _ _ e
       |exit i=>exact e
       |ret=>exact e
   |cond y a b'=>
     simp only at e ⊢;split at e
     ·rename_i t ht;split at e
      ·rename_i h1; simp only[h1,if_true]; exact ih _ _ _ _ e
      ·rename_i h1; simp only[h1,if_false,bz]; exact ih _ _ _ _ e
     ·cases e
   |aO i b'=>
     simp only at e ⊢;cases h1:dm c n b b' s with
     |none=>rw[h1] at e; cases e
     |some y=>
       rw[h1] at e;rw[ih _ _ _ _ h1];exact e
   |loop b'=>
     simp only at e ⊢;cases h1:dm c n b b' s with
     |none=>rw[h1] at e; cases e
     |some y=>
       obtain⟨ex,s1⟩:=y;rw[h1] at e;rw[ih _ _ _ _ h1];cases ex with
       |normal=>exact ih _ _ _ _ e
       |exit i=>exact e
       |ret=>exact e
theorem tn {n m:Nat} (h:n<=m):LeR (dm c n) (dm c m):=by
 induction h with
 |refl=>exact fun _ _ _ _ e=>e
 |step _ ih=>exact fun b cd s x e=>LO _ b cd s x (ih b cd s x e)
open Classical in
noncomputable def aW (c:fe) (b:Nat) (cd:C) (s:St):Option (Ex × St):=if h:∃n x,dm c n b cd s=some x then some (DW (ke h)) else none
theorem dy {b:Nat} {cd:C} {s:St} {x:Ex × St}:aW c b cd s=some x ↔ ∃n,dm c n b cd s=some x:=by
 unfold aW;constructor
 ·intro e;split at e
  ·rename_i h;have:=ke (ke h);exact⟨_,dv e▸this⟩
  ·cases e
 ·rintro⟨n,e⟩;have h:∃n x,dm c n b cd s=some x:=⟨n,x,e⟩;rw[dif_pos h];have:=ke (ke h);have h1:=tn (AH n (DW h)) _ _ _ _ e;have h2:=tn (yK n (DW h)) _ _ _ _ this;rw[h1] at h2;cases h2;rfl
noncomputable def bp (c:fe) (f:Nat) (args:List AV) (H:Heap):Option (AV × Heap):=nV c (aW c) f args H
theorem nA (n:Nat):LeR (dm c n) (aW c):=fun b cd s x e=>dy.2 ⟨n,e⟩
theorem Bj (n:Nat):LeC (jN c n) (bp c):=LZ (nA n)
theorem fF {f:Nat} {args:List AV} {H:Heap} {r:AV × Heap}:bp c f args H=some r ↔ ∃n,jN c n f args H=some r:=by
 constructor
 ·intro e;unfold bp nV at e;split at e
  case h_1=>
   rename_i g hg;exact⟨0,by unfold jN nV; rw[hg]; exact e⟩
  rename_i ho;split at e
  ·cases e
  rename_i md fn hf;split at e
  case isFalse=>cases e
  rename_i hl;split at e
  ·rename_i s' hs;obtain⟨n,hn⟩:=dy.1 hs;exact⟨n,by unfold jN nV; simp only[ho,hf,hl,if_true,hn]; exact e⟩
  ·rename_i s' hs;obtain⟨n,hn⟩:=dy.1 hs;exact⟨n,by unfold jN nV; simp only[ho,hf,hl,if_true,hn]; exact e⟩
  ·cases e
 ·rintro⟨n,e⟩;exact Bj n _ _ _ _ e
theorem VB {n m:Nat} (h:n<=m):LeC (jN c n) (jN c m):=LZ (tn h)
theorem ZJ {s:St} {kd:Kd} {x:AV × St × Fq}:gH c (bp c) s kd=some x ↔ ∃n,gH c (jN c n) s kd=some x:=by
 constructor
 ·intro e;cases hk:nM kd with
  |false=>exact⟨0,by rw[Ks (g:=bp c) hk]; exact e⟩
  |true=>
    have key0:∀{kd:Kd},eU c (bp c) kd s=some x->∃n,eU c (jN c n) kd s=some x:=by
     intro kd e;unfold eU at e;split at e
     ·cases e
     rename_i f args ha;split at e
     ·cases e
     rename_i md q hf;split at e
     ·rename_i hm;split at e
      ·cases e
      rename_i ud hz;split at e
      case h_2=>cases e
      rename_i r H' hc;obtain⟨n,hn⟩:=fF.1 hc;refine⟨n,?_⟩;unfold eU;simp only[ha,hf,hm,if_true,hz,hn];exact e
     ·rename_i hm;split at e
      ·cases e
      rename_i f1 qd M7;split at e
      case isFalse=>cases e
      rename_i hff;split at e
      ·rename_i kb;split at e
       case isFalse=>cases e
       rename_i hp;split at e
       case h_2=>cases e
       rename_i r H' hc;obtain⟨n,hn⟩:=fF.1 hc;refine⟨n,?_⟩;unfold eU;rw[ha];simp only[hf];rw[if_neg hm,M7];simp only;rw[if_pos hff,if_pos kb,if_pos hp,hn];exact e
      ·rename_i kb;split at e
       case isFalse=>cases e
       rename_i hp;split at e
       case h_2=>cases e
       rename_i r H' hc;obtain⟨n,hn⟩:=fF.1 hc;refine⟨n,?_⟩;unfold eU;rw[ha];simp only[hf];rw[if_neg hm,M7];simp only;rw[if_pos hff,if_neg kb,if_pos hp,hn];exact e
    have key1:∀{kd:Kd},ia c (bp c) kd s=some x->∃n,ia c (jN c n) kd s=some x:=by
     intro kd e;unfold ia at e ⊢;cases hm:uI c (bp c) s kd with
     |none=>
       rw[hm] at e;obtain⟨v,s1,fl⟩:=x;rcases j9 e with e|e
       ·obtain⟨n,hn⟩:=key0 e;exact⟨n,by rw[Dq hm]; exact tj hn⟩
       ·obtain⟨m,args,H,r,H',h1,h2⟩:=Yb e;obtain⟨n,hn⟩:=fF.1 h1;exact⟨n,by rw[Dq hm]; exact LJ (h2 _ hn)⟩
     |some r=>
       rw[hm] at e;simp only at e;subst e;obtain⟨m,args,H,r,H',h1,h2⟩:=ON hm;obtain⟨n,hn⟩:=fF.1 h1;exact⟨n,by rw[h2 _ hn]⟩
    have key:∀{kd:Kd},dZ c (bp c) kd s=some x->∃n,dZ c (jN c n) kd s=some x:=by
     intro kd e;unfold dZ at e ⊢;cases hi:rF c s kd with
     |some r=>rw[hi] at e; exact⟨0,e⟩
     |none=>
       rw[hi] at e;cases hl:nY c (bp c) s kd with
       |none=>
         rw[hl] at e;obtain⟨n,hn⟩:=key1 e;exact⟨n,by rw[K0 hl]; exact hn⟩
       |some r=>
         rw[hl] at e;simp only at e;subst e;obtain⟨m,args,H,r,H',h1,h2⟩:=aad (v:=x.1) (s1:=x.2.1) (fl:=x.2.2) hl;obtain⟨n,hn⟩:=fF.1 h1;exact⟨n,by rw[h2 _ hn]⟩
    cases kd<;>simp[nM] at hk
    ·simp only[gH] at e ⊢; exact key e
    ·simp only[gH] at e ⊢; exact key e
 ·rintro⟨n,e⟩;exact QQ (Bj n) e
theorem abk {s:St} {o:O} {x:St × Fq}:tQ c (bp c) s o=some x ↔ ∃n,tQ c (jN c n) s o=some x:=by
 constructor
 ·intro e;rw[yW] at e;cases hv:HV c (bp c) s o with
  |none=>rw[hv] at e; cases e
  |some y=>
    have:∃n,HV c (jN c n) s o=some y:=by
     unfold HV at hv ⊢;split at hv
     ·obtain⟨n,hn⟩:=ZJ.1 hv;exact⟨n,hn⟩
     ·split at hv
      ·split at hv
       ·rename_i hb;obtain⟨n,hn⟩:=ZJ.1 hv;exact⟨n,by simp only[hb,if_true]; exact hn⟩
       ·rename_i hb; exact⟨0,by simp only[hb,if_false]; exact hv⟩
      ·exact⟨0,hv⟩
      ·cases hv
    obtain⟨n,hn⟩:=this;refine⟨n,?_⟩;rw[hv] at e;rw[yW,hn];exact e
 ·rintro⟨n,e⟩;exact Jj (Bj n) e
theorem Kp:∀{os:List O} {s:St} {x:St × List Fq},nI c (bp c) os s=some x ↔ ∃n,nI c (jN c n) os s=some x
 |[],s,x=>⟨fun e=>⟨0,e⟩,fun⟨_,e⟩=>e⟩
 |o::r,s,x=>by
   constructor
   ·intro e;simp only[nI] at e;split at e
    case h_2=>cases e
    rename_i s1 fl h1;split at e
    case h_2=>cases e
    rename_i s2 rH h2;obtain⟨n,hn⟩:=abk.1 h1;obtain⟨m,hm⟩:=Kp.1 h2;refine⟨max n m,?_⟩;simp only[nI];rw[Jj (VB (AH n m)) hn];simp only;rw[IB (VB (yK n m)) hm];exact e
   ·rintro⟨n,e⟩;exact IB (Bj n) e
theorem ED {α:Type} {a b:Option α} (h:∀x,a=some x ↔ b=some x):a=b:=by
 cases a with
 |none=>cases b with
   |none=>rfl
   |some y=>exact ((h y).2 rfl)
 |some x=>exact ((h x).1 rfl).symm
variable {b:Nat} {s:St}
theorem m4:aW c b .skip s=some (.normal,s):=dy.2 ⟨1,rfl⟩
theorem Px:aW c b .ret s=some (.ret,s):=dy.2 ⟨1,rfl⟩
theorem DF {i:Nat}:aW c b (.exit i) s=some (.exit i,s):=dy.2 ⟨1,rfl⟩
noncomputable def yU (c:fe) (b:Nat) (y:C):Option (Ex × St)->Option (Ex × St)
 |some (.normal,s')=>aW c b y s'
 |r=>r
def regL (dr:Bool) (os:List O) (un:List (Nat × Nat)) (base:Nat) (keep:List Nat):Option (St × List Fq)->Option (Ex × St)
 |some (s',rH)=>if dr=false\/Pt os rH un=true then (match Xr base keep s' with
   |some s2=>some (.normal,s2)
   |none=>none) else none
 |none=>none
def blkL (i:Nat):Option (Ex × St)->Option (Ex × St)
 |some (.exit j,s')=>if j=i then some (.normal,s') else some (.exit j,s')
 |r=>r
theorem di {x y:C}:aW c b (.seq x y) s=yU c b y (aW c b x s):=by
 apply ED;intro z;constructor
 ·intro e;obtain⟨n,hn⟩:=dy.1 e;cases n with
  |zero=>simp[dm] at hn
  |succ n=>
    simp only[dm] at hn;cases h1:dm c n b x s with
    |none=>rw[h1] at hn; cases hn
    |some w=>
      obtain⟨ex,s1⟩:=w;rw[h1] at hn;rw[nA n _ _ _ _ h1];cases ex with
      |normal=>exact nA n _ _ _ _ hn
      |exit i=>exact hn
      |ret=>exact hn
 ·intro e;cases h1:aW c b x s with
  |none=>rw[h1] at e; cases e
  |some w=>
    obtain⟨ex,s1⟩:=w;rw[h1] at e;obtain⟨n,hn⟩:=dy.1 h1;cases ex with
    |normal=>
      obtain⟨m,hm⟩:=dy.1 e;refine dy.2 ⟨max n m+1,?_⟩;simp only[dm];rw[tn (AH n m) _ _ _ _ hn];exact tn (yK n m) _ _ _ _ hm
    |exit i=>exact dy.2 ⟨n+1,by simp only[dm]; rw[hn]; exact e⟩
    |ret=>exact dy.2 ⟨n+1,by simp only[dm]; rw[hn]; exact e⟩
theorem tl {x:C}:aW c b (.loop x) s=yU c b (.loop x) (aW c b x s):=by
 apply ED;intro z;constructor
 ·intro e;obtain⟨n,hn⟩:=dy.1 e;cases n with
  |zero=>simp[dm] at hn
  |succ n=>
    simp only[dm] at hn;cases h1:dm c n b x s with
    |none=>rw[h1] at hn; cases hn
    |some w=>
      obtain⟨ex,s1⟩:=w;rw[h1] at hn;rw[nA n _ _ _ _ h1];cases ex with
      |normal=>exact nA n _ _ _ _ hn
      |exit i=>exact hn
      |ret=>exact hn
 ·intro e;cases h1:aW c b x s with
  |none=>rw[h1] at e; cases e
  |some w=>
    obtain⟨ex,s1⟩:=w;rw[h1] at e;obtain⟨n,hn⟩:=dy.1 h1;cases ex with
    |normal=>
      obtain⟨m,hm⟩:=dy.1 e;refine dy.2 ⟨max n m+1,?_⟩;simp only[dm];rw[tn (AH n m) _ _ _ _ hn];exact tn (yK n m) _ _ _ _ hm
    |exit i=>exact dy.2 ⟨n+1,by simp only[dm]; rw[hn]; exact e⟩
    |ret=>exact dy.2 ⟨n+1,by simp only[dm]; rw[hn]; exact e⟩
theorem vW {i:Nat} {x:C}:aW c b (.aO i x) s=blkL i (aW c b x s):=by
 apply ED;intro z;constructor
 ·intro e;obtain⟨n,hn⟩:=dy.1 e;cases n with
  |zero=>simp[dm] at hn
  |succ n=>
    simp only[dm] at hn;cases h1:dm c n b x s with
    |none=>rw[h1] at hn; cases hn
    |some w=>rw[h1] at hn; rw[nA n _ _ _ _ h1]; exact hn
 ·intro e;cases h1:aW c b x s with
  |none=>rw[h1] at e; cases e
  |some w=>
    obtain⟨n,hn⟩:=dy.1 h1;rw[h1] at e;exact dy.2 ⟨n+1,by simp only[dm]; rw[hn]; exact e⟩
theorem XC {v:E} {t:Bool} {x y:C} (h:bC c s.env v=.bool t):aW c b (.cond v x y) s=if t then aW c b x s else aW c b y s:=by
 apply ED;intro z;constructor
 ·intro e;obtain⟨n,hn⟩:=dy.1 e;cases n with
  |zero=>simp[dm] at hn
  |succ n=>
    simp only[dm,h] at hn;cases t with
    |true=>exact nA n _ _ _ _ hn
    |false=>exact nA n _ _ _ _ hn
 ·intro e;cases t with
  |true=>obtain⟨n,hn⟩:=dy.1 e; exact dy.2 ⟨n+1,by simp only[dm,h]; exact hn⟩
  |false=>obtain⟨n,hn⟩:=dy.1 e; exact dy.2 ⟨n+1,by simp only[dm,h]; exact hn⟩
theorem Py {os:List O} {dr:Bool} {un:List (Nat × Nat)} {keep:List Nat}:aW c b (.aN os dr un keep) s=regL dr os un b keep (nI c (bp c) os s):=by
 apply ED;intro z;constructor
 ·intro e;obtain⟨n,hn⟩:=dy.1 e;cases n with
  |zero=>simp[dm] at hn
  |succ n=>
    simp only[dm] at hn;split at hn
    case h_2=>cases hn
    rename_i s' rH h1;rw[Kp.2 ⟨n,h1⟩];exact hn
 ·intro e;cases h1:nI c (bp c) os s with
  |none=>rw[h1] at e; cases e
  |some w=>
    obtain⟨n,hn⟩:=Kp.1 h1;rw[h1] at e;refine dy.2 ⟨n+1,?_⟩;simp only[dm];have VR:nI c (nV c (dm c n)) os s=some w:=hn;rw[VR];exact e
theorem afB {f:Nat} {md:Md} {q:fK} {args:List AV} {H:Heap} (ho:c.orc f=none) (hf:c.fn f=some (md,q)) (hl:args.length<=q.n):bp c f args H=(match aW c H.length q.body ⟨eC 0 args,H⟩ with
  |some (.ret,s)=>(match rM c s q.res with
    |some vs=>bf md H.length s (pF vs)
    |none=>none)
  |some (.normal,s)=>(match rM c s q.res with
    |some vs=>bf md H.length s (pF vs)
    |none=>none)
  |_=>none):=by
 unfold bp nV;simp only[QP,ho,hf,hl,if_true];generalize aW c H.length q.body ⟨eC 0 args,H⟩=z;cases z with
 |none=>rfl
 |some w=>
   obtain⟨e,s⟩:=w;cases e<;>rfl
end
end Go.Bm

/- Arguments that came in, by value; answers that are bools. -/
namespace Go.Am
open Go.ChangeShapes Go.WideShapes
def ajy (k:IntKind) (w:World) (a:Option Addr) (len cap:Nat) (zs:List Int):Prop:=
 (a=none/\len=0/\cap=0/\zs=[]) \/
 ∃ x,a=some x/\len<=cap/\cap<=maxLen/\zs.length=cap/\(∀i,i<zs.length->w.cell? (x.add i)=some (.int k (zs.getD i 0)))/\∀ n∈zs,(Lit.int k n).wf=true
theorem acw {k:IntKind} {w:World} {a:Option Addr} {len cap:Nat} {zs:List Int} (h:ajy k w a len cap zs):cB (Rd (fun _=>False) [] w) [] (.list 1 ((zs.take len).map (AV.int k))) (.slice a len cap):=by
 rcases h with⟨rfl,rfl,rfl,rfl⟩|⟨x,rfl,hl,hm,hz,kQ,hwz⟩
 ·exact .kJ _ _
 ·refine .oa _ 1 _ x len cap (fun i _=>.int k (zs.getD i 0)) (by simp; omega) hl ?_ ?_ ?_
  ·intro y hy;obtain⟨n,_,rfl⟩:=List.mem_map.mp hy;rfl
  ·intro i j y c hy hc;have hi:i<((zs.take len).map (AV.int k)).length:=(List.getElem?_eq_some_iff.mp hy).1;simp at hi;rw[ct] at hy;cases MX:(zs.take len)[i]? with
   |none=>rw[MX] at hy; cases hy
   |some n=>
     rw[MX] at hy;cases hy;cases j with
     |succ j=>simp[AV.cells] at hc
     |zero=>exact⟨id,bQ.nil _,by simpa using kQ i (by omega)⟩
  ·intro i j y c hy hc;rw[ct] at hy;cases MX:(zs.take len)[i]? with
   |none=>rw[MX] at hy; cases hy
   |some n=>
     rw[MX] at hy;cases hy;cases j with
     |succ j=>simp[AV.cells] at hc
     |zero=>
       simp[AV.cells] at hc;subst hc
       have e:zs.getD i 0=n:=by
        rw[bN] at MX;split at MX
        ·simp[List.getD,MX]
        ·cases MX
       rw[e];exact .int _ _ _
theorem tC.nil {X:Nat->Prop} {φ:dQ} {w:World}:tC X φ w [] #[]:=⟨rfl,fun i x v h=>by simp at h⟩
theorem tC.cons {X:Nat->Prop} {φ:dQ} {w:World} {x:AV} {v:Value} {xs:List AV} {vs:List Value} (h:cB (Rd X φ w) φ x v) (r:tC X φ w xs vs.toArray):tC X φ w (x::xs) (v::vs).toArray:=by
 obtain⟨r1,r2⟩:=r;refine⟨by simpa using r1,fun i y u hy hu=>?_⟩;cases i with
 |zero=>
   simp at hy hu;subst hy hu;exact h
 |succ i=>
   refine r2 i y u (by simpa using hy) (by simpa using hu)
theorem SR {R:Addr->Value->Prop} {φ:dQ} {b:Bool} {v:Value} (h:cB R φ (.bool b) v):v=.bool b:=by cases h; rfl
end Go.Am
namespace Go.Bm
open Go.Am
theorem VA {P:Program} {c:fe} (dG:gF P c) (rG:AG P c) (Ai:AD P c) {f:Nat} {md:Md} {q:fK} (hf:c.fn f=some (md,q)) (kb:md.sh=false) {args:List AV} {b:Bool} {H':Heap} (h:bp c f args []=some (.bool b,H')) (hz:dP args=true) {w:World} {vargs:Array Value}
  (ha:tC (fun _=>False) [] w args vargs) (hg:Am.e9 (ju c) (fun _=>False) [] w):Calls P f vargs w (fun e w'=>e=.returned (.bool b)/\RowKit.Below w.heap.size w w'):=by
 obtain⟨n,hn⟩:=fF.1 h;refine (afA dG rG Ai hf kb hz hn rfl ha hg).mono ?_;rintro e w' ⟨v,rfl,hr,hb⟩;rw[SR hr];exact⟨rfl,hb⟩
theorem ae5 {c:fe} {g0:Nat} {k:IntKind} {zs:List Int} (h:∀g,c.gl g=if g=g0 then zs.map (AV.int k) else[]) {w:World} (hc:∀i,(hi:i<zs.length)->w.cell? ⟨g0,i,none⟩=some (.int k zs[i])):Am.e9 (ju c) (fun _=>False) [] w:=by
 intro g;show cB _ [] (.dV (c.gl g)) _;rw[h g];split
 ·rename_i e;subst e;refine .dV _ _ _ (fun j=>.int k (zs.getD j 0)) (fun j d hj=>?_) (fun j d hj=>?_)
  ·rw[ct] at hj;cases e:zs[j]? with
   |none=>rw[e] at hj; cases hj
   |some z=>
     have bD:=aC e;refine⟨id,bQ.nil _,?_⟩;rw[Addr.jP,Nat.zero_add,hc j bD,aJ,e,<-an bD |>.symm.trans e |> dv];rfl
  ·rw[ct] at hj;cases e:zs[j]? with
   |none=>rw[e] at hj; cases hj
   |some z=>
     rw[e] at hj;simp at hj;subst hj;rw[aJ,e];exact .int _ _ _
 ·exact .dV _ _ _ (fun _=>undef) (fun j c hj=>by simp at hj) (fun j c hj=>by simp at hj)
end Go.Bm

/- Calls that are known ahead: a table of runs, each proved by itself. -/
namespace Go.Bm
open Go.Am
structure Fact where
 f:Nat
 args:List AV
 H:Heap
 r:AV
 H':Heap
end Go.Bm
